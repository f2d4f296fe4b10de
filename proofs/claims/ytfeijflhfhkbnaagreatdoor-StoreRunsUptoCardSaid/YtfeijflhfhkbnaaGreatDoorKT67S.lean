import Derived.Test.YtfeijflhfhkbnaaGreatDoorKAc0S
import Derived.Test.YtfeijflhfhkbnaaGreatDoorKT60S
import Derived.Test.YtfeijflhfhkbnaaGreatDoorKT9S
import Derived.Test.YtfeijflhfhkbnaaGreatDoorKAm48S
set_option linter.all false
/- Attributes sorted: merges. -/
namespace Go.Am
open Go Go.RowKit
section
variable {P:Program} {G:Nat->Option (List IV)} [KN P G]
def lZ {σ:Type} {ps:σ->List (Nat×AV)} {rs:σ->List (Lb×Row)} {env:Env} {H:Hp} {s:σ} (h1:∀z,z≠ .par 0->H z= .unused) (h2:E4 env (ps s)) (h3:Vs H (rs s)):WS [.par 0] ps rs env H s:=
 ⟨λz _ hu=>by
  by_cases e:z= .par 0
  ·grind
  exact absurd (h1 z e) hu,h2,h3⟩
def x_ {ys:List IV} {n:Nat} {ls:List Lb}:∀w∈[(Lb.par 0,(⟨n,ak ys⟩:Row))],∀cs∈w.2.els,∀l∈ai cs,l∈ls:=by
 grind [af',bc]
abbrev s6 (l:List Attr):AV->List IV->Prop:=λ_ ys=>∃zs:List Attr,ys=aQ zs/\zs.Perm l
def I5 (c:AV) (hc:c.aq=[]) (l:List Attr) (hl:l.length<=B) (a b n:Nat) (ha:a+n<=l.length) (hb:b+n<=l.length) :
  nN P G 221 [.sl (.par 0) 2 0 l.length,.int .i64 a,.int .i64 b,.int .i64 n,c] 2 (aQ l) (s6 l):=by
 refine mM (cw 221 [.f 29 13 (.rw [(.par 0)] []),.f 35 19 (.rw [(.par 0)] []),.f 16 21 (.rw [] [(.par 0)]),.f 16 23 (.rw [] [(.par 0)])]) ajL (by simp[ai,AV.aq,hc]) ?_;have gV:B=1073741824:=rfl;simp only[↓aX,mX,seval,eP];refine b_ (σ:={q:Nat×List Attr // q.1<=n/\q.2.Perm l}) [.par 0] (λq=>[(0,.sl (.par 0) 2 0 l.length),(1,.int .i64 a),(2,.int .i64 b),(3,.int .i64 n),(10,.int .i64 q.1.1)]) (λq=>[(.par 0,⟨2,ak (aQ q.1.2)⟩)]) (λq=>n - q.1.1)
  ⟨(0,l),agO _,.refl _⟩ (λ_=>rfl) ajN ajO ?_ ?_ ?_
 ·exactλ_=>x_
 ·exact E6
 rintro⟨⟨i,M⟩,hi,hM⟩;simp only at hi hM;have Gi:M.length=l.length:=hM.length_eq;simp only[↓aX,mX,seval,aR,aI];by_cases aF:i<n
 ·rw[dT aF];have hw:=w1 i;have P6:IntKind.i64.wrap ((a:Int)+(i:Int))=((a+i:Nat):Int):=wrap64 ajK ajK;have Ys:IntKind.i64.wrap ((b:Int)+(i:Int))=((b+i:Nat):Int):=wrap64 ajK ajK;obtain⟨x,hx⟩:∃x,M[a+i]?=some x:=⟨_,af7 ajK⟩;obtain⟨y,hy⟩:∃y,M[b+i]?=some y:=⟨_,af7 ajK⟩;simp only[↓aX,mX,seval];refine⟨aj7,?_⟩;simp only[↓aX,mX,seval,P6,Ys,af5,af0,agh,lY hx,lY hy,show a+i<l.length by omega,show b+i<l.length by omega,ie];rw[sZ M (a+i) y];obtain⟨y2,BH⟩:∃y2,(M.set (a+i) y)[b+i]?=some y2:=⟨_,af7 (by rw[aiU];omega)⟩;simp only[↓aX,mX,seval,lY BH,hw];exact⟨⟨(i+1,(M.set (a+i) y).set (b+i) x),aF,(swap_perm hx hy).trans hM⟩,ajM,by
   exact lZ (λz e=>by simp[ae,e,Hp.none]) ajT ⟨by simp only[ae,agn];rw[sZ],trivial⟩⟩
 rw[dF aF];simp only[↓aX,mX,seval,fF,eY,fw];exact⟨_,rfl,aQ M,⟨M,rfl,hM⟩,ajU,ank,ajR⟩
def Ug (fW:Nat) (hS:∀(l:List Attr),l.length<=B->∀a b n:Nat,a+n<=l.length->b+n<=l.length->nN P G 221 [.sl (.par 0) 2 0 l.length,.int .i64 a,.int .i64 b,.int .i64 n,.fn fW [] []] 2 (aQ l) (s6 l))
  (l:List Attr) (hl:l.length<=B) (a m b:Nat) (ha:a<m) (hm:m<b) (hb:b<=l.length) :
  nN P G 216 [.sl (.par 0) 2 0 l.length,.int .i64 a,.int .i64 m,.int .i64 b,.fn fW [] []] 2 (aQ l) (s6 l):=by
 refine mM (cw 216 []) ajL ajO ?_;have gV:B=1073741824:=rfl;have gz:IntKind.i64.wrap ((m:Int) - (a:Int))=((m - a:Nat):Int):=ajW
 have ml:IntKind.i64.wrap ((b:Int) - (m:Int))=((b - m:Nat):Int):=ajW
 simp only[↓aX,mX,seval,eP,gz,ml];refine b_ (σ:={q:Nat×Nat×List Attr // 0<q.1/\q.1<=m/\0<q.2.1/\m+q.2.1<=l.length/\q.2.2.Perm l}) [.par 0] (λq=>[(0,.sl (.par 0) 2 0 l.length),(2,.int .i64 m),(4,.fn fW [] []),(10,.int .i64 q.1.1),(11,.int .i64 q.1.2.1)]) (λq=>[(.par 0,⟨2,ak (aQ q.1.2.2)⟩)]) (λq=>q.1.1+q.1.2.1)
  ⟨(m - a,b - m,l),ajM,ajM,ajM,ajM,.refl _⟩ (λ_=>rfl) ajN ajO ?_ ?_ ?_
 ·exactλ_=>x_
 ·exact E6
 rintro⟨⟨i,j,M⟩,hi,P0,hj,qy,hM⟩;simp only at hi P0 hj qy hM;have Gi:M.length=l.length:=hM.length_eq;have VL:IntKind.i64.wrap ((m:Int) - (i:Int))=((m - i:Nat):Int):=ajW
 have hs:=hS M ajK;rw[Gi] at hs;simp only[↓aX,mX,seval,aR,aI];by_cases cf:i=j
 ·rw[show(((i:Nat):Int) !=((j:Nat):Int))=false by simp[cf]];simp only[↓aX,mX,seval,VL];refine ef (l:= .par 0) (hs (m - i) m i ajK ajK) aj1 ajR ?_;rintro x1 ys ⟨zs,rfl,hz⟩ _ SC;simp only[↓aX,mX,seval,fF,eY,fw];exact⟨_,rfl,aQ zs,⟨zs,rfl,hz.trans hM⟩,ajU,by rw[aE,aE,(hz.trans hM).length_eq],ajR⟩
 rw[show(((i:Nat):Int) !=((j:Nat):Int))=true by rw[ajv];omega];simp only[↓aX,mX,seval];by_cases xw:j<i
 ·have Cg:IntKind.i64.wrap ((i:Int) - (j:Int))=((i - j:Nat):Int):=by rw[wrap64 ajK ajK];omega
  rw[show decide (((i:Nat):Int)>((j:Nat):Int))=true by simpa using xw];simp only[↓aX,mX,seval,VL];refine ef (l:= .par 0) (hs (m - i) m j ajK ajK) aj1 ajR ?_;rintro x1 ys ⟨zs,rfl,hz⟩ _ SC;simp only[↓aX,mX,seval,Cg];exact⟨⟨(i - j,j,zs),ajM,ajM,hj,qy,hz.trans hM⟩,ajM,by
   exact lZ (λz e=>by simp[ae,e,Hp.none]) ajT ajT⟩
 have Cg:IntKind.i64.wrap ((m:Int)+(j:Int))=((m+j:Nat):Int):=wrap64 ajK ajK;have hw4:IntKind.i64.wrap (((m+j:Nat):Int) - (i:Int))=((m+j - i:Nat):Int):=ajW
 have hw5:IntKind.i64.wrap ((j:Int) - (i:Int))=((j - i:Nat):Int):=ajW
 rw[show decide (((i:Nat):Int)>((j:Nat):Int))=false by simpa using xw];simp only[↓aX,mX,seval,VL,Cg,hw4];refine ef (l:= .par 0) (hs (m - i) (m+j - i) i ajK ajK) aj1 ajR ?_;rintro x1 ys ⟨zs,rfl,hz⟩ _ SC;simp only[↓aX,mX,seval,hw5];exact⟨⟨(i,j - i,zs),hi,P0,ajM,ajM,hz.trans hM⟩,ajM,by
  exact lZ (λz e=>by simp[ae,e,Hp.none]) ajT ajT⟩
def Dm {x y:Nat} (h:x+y<=2^40):IntKind.i64.wrap (IntKind.u64.wrap (IntKind.i64.wrap ((x:Int)+(y:Int)))/2^min 1 IntKind.u64.bits)=(((x+y)/2:Nat):Int):=by
 have hb:(2:Nat)^40=1099511627776:=ajN
 have h1:IntKind.i64.wrap ((x:Int)+(y:Int))=((x+y:Nat):Int):=wrap64 ajK ajK;have h2:IntKind.u64.wrap ((x+y:Nat):Int)=((x+y:Nat):Int):=by
  rw[IntKind.wrap_u64];omega
 have h3:min 1 IntKind.u64.bits=1:=ajN
 grind [wrap64]
def gC (f x y z n:Nat):AC:= .seq (.nD [⟨some n,none,.ea (.t x)⟩,⟨some (n+1),none,.ea (.t y)⟩,⟨some (n+2),none,.bin .lss (.t n) (.t (n+1))⟩,⟨some (n+3),none,.ea (.t (n+2))⟩,⟨some (n+4),some (n+3,true),.ea (.t y)⟩,⟨some (n+5),some (n+3,true),.ea (.t z)⟩,⟨some (n+6),some (n+3,true),.bin .lss (.t (n+4)) (.t (n+5))⟩,⟨some (n+7),none,.pick (.t (n+3)) (.t (n+6)) (.c (.bool false))⟩])
 (.cond (.t (n+7)) (.nD [⟨some (n+8),none,.ea (.t 0)⟩,⟨some (n+9),none,.ea (.t x)⟩,⟨some (n+10),none,.ea (.t y)⟩,⟨some (n+11),none,.ea (.t z)⟩,⟨some (n+12),none,.ea (.t 4)⟩,⟨some (n+13),none,.call f [.t (n+8),.t (n+9),.t (n+10),.t (n+11),.t (n+12)]⟩]) .skip)
def O1 {S:St} {Q:ir} {f g x y z n a m b:Nat} {k:List It} {l M:List Attr} {env:Env} {H:Hp} (hN:S.N=220) (hn:(x=20/\y=2/\z=24/\n=178)\/(x=1/\y=20/\z=18/\n=192)\/(x=18/\y=24/\z=3/\n=206)) (hM:M.Perm l)
  (h0:env 0= .sl (.par 0) 2 0 l.length) (h4:env 4= .fn g [] []) (hx:env x= .int .i64 a) (hy:env y= .int .i64 m) (hz:env z= .int .i64 b) (hH:H (.par 0)= .live ⟨2,ak (aQ M)⟩)
  (hC:a<m->m<b->nN S.P S.G f [.sl (.par 0) 2 0 l.length,.int .i64 a,.int .i64 m,.int .i64 b,.fn g [] []] 2 (aQ M) (s6 M))
  (hk:∀M':List Attr,M'.Perm l->∀(E:Env) (H':Hp),(∀i,i<n->E i=env i)->H' (.par 0)= .live ⟨2,ak (aQ M')⟩->go S Q k E H'):go S Q (.code (gC f x y z n)::k) env H:=by
 have he:∀{E:Env} {i j:Nat} {v:AV},i<n->n<=j->E i=env i->put E j v i=env i:=λ{E i j v} h1 h2 h=>by unfold put;rw[af8 ajK];exact h
 unfold gC;by_cases q1:a<m
 ·by_cases q2:m<b
  ·rcases hn with⟨rfl,rfl,rfl,rfl⟩|⟨rfl,rfl,rfl,rfl⟩|⟨rfl,rfl,rfl,rfl⟩
   all_goals
    simp only[↓aX,mX,seval,hN,h0,h4,hx,hy,hz,dT q1,dT q2];refine ef (l:= .par 0) (hC q1 q2) aj1 hH ?_;rintro x1 ys ⟨M',rfl,T_⟩ _ _;refine hk M' (T_.trans hM) _ _ (λi hi=> ?_) ajL
    repeat (refine he hi ajN ?_)
    rfl
  rcases hn with⟨rfl,rfl,rfl,rfl⟩|⟨rfl,rfl,rfl,rfl⟩|⟨rfl,rfl,rfl,rfl⟩
  all_goals
   simp only[↓aX,mX,seval,hN,h4,hx,hy,hz,dT q1,dF q2];refine hk M hM _ _ (λi hi=> ?_) hH
   repeat (refine he hi ajN ?_)
   rfl
 rcases hn with⟨rfl,rfl,rfl,rfl⟩|⟨rfl,rfl,rfl,rfl⟩|⟨rfl,rfl,rfl,rfl⟩
 all_goals
  simp only[↓aX,mX,seval,hN,h4,hx,hy,hz,dF q1];refine hk M hM _ _ (λi hi=> ?_) hH
  repeat (refine he hi ajN ?_)
  rfl
def acT (g:Nat->Nat->Nat->Nat->Nat->AC):=XW 204 [.f 44 4 (.rw [.par 0] []),.f 48 8 (.rw [.par 0] []),.f 96 4 (.rw [.par 0] []),.f 100 8 (.rw [.par 0] []),.f 164 6 (.rw [.par 0] []),.f 168 10 (.rw [.par 0] []),.f 70 9 (.rw [.par 0] []),.f 74 13 (.rw [.par 0] []),.f 61 15 (.rw [] [.par 0]),.f 61 17 (.rw [] [.par 0]),.f 122 9 (.rw [.par 0] []),.f 126 13 (.rw [.par 0] []),.f 113 15 (.rw [] [.par 0]),.f 113 17 (.rw [] [.par 0])] (λx=>((x.E_ 206 (g 204 18 24 3 206)).E_ 192 (g 204 1 20 18 192)).E_ 178 (g 216 20 2 24 178))
set_option maxHeartbeats 2000000 in
def Na {fW:Nat} (hBd:dE P fW=true) (hC:∀a b:Attr,aj P G fW [a.IL,b.IL] (.int .i64 (BE a b)))
  (hR:∀(l:List Attr),l.length<=B->∀a m b:Nat,a<m->m<b->b<=l.length->nN P G 216 [.sl (.par 0) 2 0 l.length,.int .i64 a,.int .i64 m,.int .i64 b,.fn fW [] []] 2 (aQ l) (s6 l)) :
  ∀(k:Nat) (l:List Attr),l.length<=B->∀a m b:Nat,a<m->m<b->b<=l.length->b - a<=k->nN P G 204 [.sl (.par 0) 2 0 l.length,.int .i64 a,.int .i64 m,.int .i64 b,.fn fW [] []] 2 (aQ l) (s6 l):=by
 intro k;induction k with
 |zero=>intro l hl a m b h1 h2 h3 h4;omega
 |succ k ih=>
 intro l hl a m b ham hmb hb hk;refine mM (XX (acT gC)) ajL ajO ?_;have gV:B=1073741824:=rfl;have hbv:(2:Nat)^40=1099511627776:=ajN
 have hC':∀x y:Attr,aj P G fW [.agg [.str x.name,.str x.val],.agg [.str y.name,.str y.val]] (.int .i64 (BE x y)):=hC;have gz:IntKind.i64.wrap ((m:Int) - (a:Int))=((m - a:Nat):Int):=ajW
 have ml:IntKind.i64.wrap ((b:Int) - (m:Int))=((b - m:Nat):Int):=ajW
 simp only[↓aX,mX,seval,eP,gz];by_cases hma:m - a=1
 ·rw[show(((m - a:Nat):Int)==1)=true by simp[hma]];simp only[↓aX,mX,seval];refine b_ (σ:={q:Nat×Nat // m<=q.1/\q.1<=q.2/\q.2<=b}) [.par 0] (λq=>[(0,.sl (.par 0) 2 0 l.length),(1,.int .i64 a),(2,.int .i64 m),(3,.int .i64 b),(4,.fn fW [] []),(10,.int .i64 q.1.1),(11,.int .i64 q.1.2)]) (λ_=>[(.par 0,⟨2,ak (aQ l)⟩)]) (λq=>q.1.2 - q.1.1)
   ⟨(m,b),Nat.le_refl _,ajM,Nat.le_refl _⟩ (λ_=>rfl) ajN ajO ?_ ?_ ?_
  ·exactλ_=>x_
  ·exact E6
  rintro⟨⟨i,j⟩,hi,NR,hj⟩;simp only at hi NR hj;simp only[↓aX,mX,seval,aR,aI];by_cases aF:i<j
  ·rw[dT aF];obtain⟨h,hh⟩:∃h,h=(i+j)/2:=⟨_,rfl⟩;have J7:=Dm (x:=i) (y:=j) ajK;rw[<-hh] at J7;obtain⟨x,hx⟩:∃x,l[h]?=some x:=⟨_,List.getElem?_eq_getElem ajK⟩;obtain⟨y,hy⟩:∃y,l[a]?=some y:=⟨_,List.getElem?_eq_getElem ajK⟩;have Sc:=w1 h;simp only[↓aX,mX,seval];refine⟨aj7,?_⟩;simp only[↓aX,mX,seval,J7,Int.natCast_nonneg,Int.toNat_natCast,Nat.zero_add,lY hx,lY hy,show h<l.length by omega,show a<l.length by omega,uU,Dn];refine⟨hBd,dG (hC' x y) ?_⟩;simp only[↓aX,mX,seval];cases sH:decide (BE x y<0) with
   |true=>
    simp only[↓aX,mX,seval,J7,Sc];exact⟨⟨(h+1,j),ajM,ajM,ajM⟩,ajM,by
     exact lZ (λz e=>by simp[ae,e,Hp.none]) ajT ajT⟩
   |false=>
   simp only[↓aX,mX,seval,J7,Sc];exact⟨⟨(i,h),ajM,ajM,ajM⟩,ajM,by
    exact lZ (λz e=>by simp[ae,e,Hp.none]) ajT ajT⟩
  rw[dF aF];have acU:IntKind.i64.wrap ((i:Int) - 1)=((i - 1:Nat):Int):=ajW
  simp only[↓aX,mX,seval,acU];refine b_ (σ:={q:Nat×List Attr // a<=q.1/\q.1<=i - 1/\q.2.Perm l}) [.par 0] (λq=>[(0,.sl (.par 0) 2 0 l.length),(10,.int .i64 i),(13,.int .i64 q.1.1)]) (λq=>[(.par 0,⟨2,ak (aQ q.1.2)⟩)]) (λq=>i - q.1.1)
   ⟨(a,l),Nat.le_refl _,ajM,.refl _⟩ (λ_=>rfl) ajN ajO ?_ ?_ ?_
  ·exactλ_=>x_
  ·exact E6
  rintro⟨⟨p,M⟩,NP,HP,hM⟩;simp only at NP HP hM;have Gi:M.length=l.length:=hM.length_eq;simp only[↓aX,mX,seval,aR,aI,acU];by_cases iw:p<i - 1
  ·rw[show decide (((p:Nat):Int)<((i - 1:Nat):Int))=true by rw[decide_eq_true_eq];omega];have hw:=w1 p;obtain⟨x,hx⟩:∃x,M[p]?=some x:=⟨_,List.getElem?_eq_getElem ajK⟩;obtain⟨y,hy⟩:∃y,M[p+1]?=some y:=⟨_,List.getElem?_eq_getElem ajK⟩;simp only[↓aX,mX,seval];refine⟨aj7,?_⟩;simp only[↓aX,mX,seval,hw,Int.natCast_nonneg,Int.toNat_natCast,Nat.zero_add,lY hx,lY hy,show p<l.length by omega,show p+1<l.length by omega,ie];rw[sZ M p y];obtain⟨y2,BH⟩:∃y2,(M.set p y)[p+1]?=some y2:=⟨_,List.getElem?_eq_getElem (by rw[List.length_set];omega)⟩;simp only[↓aX,mX,seval,lY BH,hw];exact⟨⟨(p+1,(M.set p y).set (p+1) x),ajM,ajM,(swap_perm hx hy).trans hM⟩,ajM,by
    exact lZ (λz e=>by simp[ae,e,Hp.none]) ajT ⟨anu,trivial⟩⟩
  rw[show decide (((p:Nat):Int)<((i - 1:Nat):Int))=false by rw[decide_eq_false_iff_not];omega];simp only[↓aX,mX,seval,B7,eY,fw];exact⟨_,rfl,aQ M,⟨M,rfl,hM⟩,ajU,ank,ajR⟩
 rw[show(((m - a:Nat):Int)==1)=false by rw[beq_eq_false_iff_ne];omega];simp only[↓aX,mX,seval,ml];by_cases hbm:b - m=1
 ·rw[show(((b - m:Nat):Int)==1)=true by simp[hbm]];simp only[↓aX,mX,seval];refine b_ (σ:={q:Nat×Nat // a<=q.1/\q.1<=q.2/\q.2<=m}) [.par 0] (λq=>[(0,.sl (.par 0) 2 0 l.length),(1,.int .i64 a),(2,.int .i64 m),(3,.int .i64 b),(4,.fn fW [] []),(14,.int .i64 q.1.1),(15,.int .i64 q.1.2)]) (λ_=>[(.par 0,⟨2,ak (aQ l)⟩)]) (λq=>q.1.2 - q.1.1)
   ⟨(a,m),Nat.le_refl _,ajM,Nat.le_refl _⟩ (λ_=>rfl) ajN ajO ?_ ?_ ?_
  ·exactλ_=>x_
  ·exact E6
  rintro⟨⟨i,j⟩,hi,NR,hj⟩;simp only at hi NR hj;simp only[↓aX,mX,seval,aR,aI];by_cases aF:i<j
  ·rw[dT aF];obtain⟨h,hh⟩:∃h,h=(i+j)/2:=⟨_,rfl⟩;have J7:=Dm (x:=i) (y:=j) ajK;rw[<-hh] at J7;obtain⟨x,hx⟩:∃x,l[m]?=some x:=⟨_,List.getElem?_eq_getElem ajK⟩;obtain⟨y,hy⟩:∃y,l[h]?=some y:=⟨_,List.getElem?_eq_getElem ajK⟩;have Sc:=w1 h;simp only[↓aX,mX,seval];refine⟨aj7,?_⟩;simp only[↓aX,mX,seval,J7,Int.natCast_nonneg,Int.toNat_natCast,Nat.zero_add,lY hx,lY hy,show m<l.length by omega,show h<l.length by omega,uU,Dn];refine⟨hBd,dG (hC' x y) ?_⟩;simp only[↓aX,mX,seval];cases sH:decide (BE x y<0) with
   |true=>
    simp only[↓aX,mX,seval,Bool.not_true,J7,Sc];exact⟨⟨(i,h),ajM,ajM,ajM⟩,ajM,by
     exact lZ (λz e=>by simp[ae,e,Hp.none]) ajT ajT⟩
   |false=>
   simp only[↓aX,mX,seval,Bool.not_false,J7,Sc];exact⟨⟨(h+1,j),ajM,ajM,ajM⟩,ajM,by
    exact lZ (λz e=>by simp[ae,e,Hp.none]) ajT ajT⟩
  rw[dF aF];simp only[↓aX,mX,seval];refine b_ (σ:={q:Nat×List Attr // i<=q.1/\q.1<=m/\q.2.Perm l}) [.par 0] (λq=>[(0,.sl (.par 0) 2 0 l.length),(14,.int .i64 i),(17,.int .i64 q.1.1)]) (λq=>[(.par 0,⟨2,ak (aQ q.1.2)⟩)]) (λq=>q.1.1)
   ⟨(m,l),ajM,Nat.le_refl _,.refl _⟩ (λ_=>rfl) ajN ajO ?_ ?_ ?_
  ·exactλ_=>x_
  ·exact E6
  rintro⟨⟨p,M⟩,NP,HP,hM⟩;simp only at NP HP hM;have Gi:M.length=l.length:=hM.length_eq;simp only[↓aX,mX,seval,aR,aI];by_cases iw:i<p
  ·rw[show decide (((p:Nat):Int)>((i:Nat):Int))=true by simpa using iw];have hw:IntKind.i64.wrap ((p:Int) - 1)=((p - 1:Nat):Int):=ajW;obtain⟨x,hx⟩:∃x,M[p]?=some x:=⟨_,List.getElem?_eq_getElem ajK⟩;obtain⟨y,hy⟩:∃y,M[p - 1]?=some y:=⟨_,List.getElem?_eq_getElem ajK⟩;simp only[↓aX,mX,seval];refine⟨aj7,?_⟩;simp only[↓aX,mX,seval,hw,Int.natCast_nonneg,Int.toNat_natCast,Nat.zero_add,lY hx,lY hy,show p<l.length by omega,show p - 1<l.length by omega,ie];rw[sZ M p y];obtain⟨y2,BH⟩:∃y2,(M.set p y)[p - 1]?=some y2:=⟨_,List.getElem?_eq_getElem (by rw[List.length_set];omega)⟩;simp only[↓aX,mX,seval,lY BH,hw];exact⟨⟨(p - 1,(M.set p y).set (p - 1) x),ajM,ajM,(swap_perm hx hy).trans hM⟩,ajM,by
    exact lZ (λz e=>by simp[ae,e,Hp.none]) ajT ⟨anu,trivial⟩⟩
  rw[show decide (((p:Nat):Int)>((i:Nat):Int))=false by simpa using iw];simp only[↓aX,mX,seval,B7,eY,fw];exact⟨_,rfl,aQ M,⟨M,rfl,hM⟩,ajU,ank,ajR⟩
 rw[show(((b - m:Nat):Int)==1)=false by rw[beq_eq_false_iff_ne];omega];obtain⟨yq,aeT⟩:∃yq,yq=(a+b)/2:=⟨_,rfl⟩;have acV:=Dm (x:=a) (y:=b) ajK;rw[<-aeT] at acV;have Uc:IntKind.i64.wrap ((yq:Int)+(m:Int))=((yq+m:Nat):Int):=wrap64 ajK ajK;have hwp:IntKind.i64.wrap (((yq+m:Nat):Int) - 1)=((yq+m - 1:Nat):Int):=ajW
 simp only[↓aX,mX,seval,acV,Uc];by_cases xw:yq<m
 ·obtain⟨lo,JC⟩:∃lo,lo=yq+m - b:=⟨_,rfl⟩;have hwl:IntKind.i64.wrap (((yq+m:Nat):Int) - (b:Int))=((lo:Nat):Int):=by rw[wrap64 ajK ajK];omega
  rw[show decide (((m:Nat):Int)>((yq:Nat):Int))=true by simpa using xw];simp only[↓aX,mX,seval,hwl,hwp];refine b_ (σ:={q:Nat×Nat // lo<=q.1/\q.1<=q.2/\q.2<=yq}) [.par 0] (λq=>[(0,.sl (.par 0) 2 0 l.length),(1,.int .i64 a),(2,.int .i64 m),(3,.int .i64 b),(4,.fn fW [] []),(20,.int .i64 q.1.1),(21,.int .i64 q.1.2),(18,.int .i64 yq),(19,.int .i64 ((yq+m:Nat):Int)),(22,.int .i64 ((yq+m - 1:Nat):Int))]) (λ_=>[(.par 0,⟨2,ak (aQ l)⟩)]) (λq=>q.1.2 - q.1.1)
   ⟨(lo,yq),Nat.le_refl _,ajM,Nat.le_refl _⟩ (λ_=>rfl) ajN ajO ?_ ?_ ?_
  ·exactλ_=>x_
  ·exact E6
  exact dq2
 rw[show decide (((m:Nat):Int)>((yq:Nat):Int))=false by simpa using xw];simp only[↓aX,mX,seval,hwp];refine b_ (σ:={q:Nat×Nat // a<=q.1/\q.1<=q.2/\q.2<=m}) [.par 0] (λq=>[(0,.sl (.par 0) 2 0 l.length),(1,.int .i64 a),(2,.int .i64 m),(3,.int .i64 b),(4,.fn fW [] []),(20,.int .i64 q.1.1),(21,.int .i64 q.1.2),(18,.int .i64 yq),(19,.int .i64 ((yq+m:Nat):Int)),(22,.int .i64 ((yq+m - 1:Nat):Int))]) (λ_=>[(.par 0,⟨2,ak (aQ l)⟩)]) (λq=>q.1.2 - q.1.1)
  ⟨(a,m),Nat.le_refl _,ajM,Nat.le_refl _⟩ (λ_=>rfl) ajN ajO ?_ ?_ ?_
 ·exactλ_=>x_
 ·exact E6
 exact dq2

def Uh {fW:Nat} (hI:∀(l:List Attr),l.length<=B->∀a b:Nat,a<=b->b<=l.length->nN P G 203 [.sl (.par 0) 2 0 l.length,.int .i64 a,.int .i64 b,.fn fW [] []] 2 (aQ l) λx ys=>∃zs:List Attr,ys=aQ zs/\zs.Perm l/\(a=0->zs=df (l.take b)++l.drop b)/\(a=b->zs=l))
  (hS:∀(l:List Attr),l.length<=B->∀a m b:Nat,a<m->m<b->b<=l.length->nN P G 204 [.sl (.par 0) 2 0 l.length,.int .i64 a,.int .i64 m,.int .i64 b,.fn fW [] []] 2 (aQ l) (s6 l))
  (l:List Attr) (hl:l.length<=B) :
  nN P G 181 [.sl (.par 0) 2 0 l.length,.int .i64 l.length,.fn fW [] []] 2 (aQ l) λx ys=>∃zs:List Attr,ys=aQ zs/\zs.Perm l/\(l.length<=20->zs=df l):=by
 refine mM (cw 181 []) ajL ajO ?_;have gV:B=1073741824:=rfl;simp only[↓aX,mX,seval,eP];refine b_ (σ:={q:Nat×List Attr // q.1<=l.length/\q.2.Perm l/\(l.length<=20->(q.1=0/\q.2=l)\/(q.1=l.length/\q.2=df l))}) [.par 0] (λq=>[(0,.sl (.par 0) 2 0 l.length),(1,.int .i64 l.length),(2,.fn fW [] []),(6,.int .i64 20),(7,.int .i64 q.1.1),(8,.int .i64 ((q.1.1+20:Nat):Int))]) (λq=>[(.par 0,⟨2,ak (aQ q.1.2)⟩)]) (λq=>l.length - q.1.1)
  ⟨(0,l),agO _,.refl _,λ_=> .inl ⟨rfl,rfl⟩⟩ (λ_=>rfl) ajN ajO ?_ ?_ ?_
 ·exact HZ
 ·exact O5
 rintro⟨⟨a,M⟩,ha,hM,hs⟩;simp only at ha hM hs;have Gi:M.length=l.length:=hM.length_eq;simp only[↓aX,mX,seval,aR,aI];by_cases hle:a+20<=l.length
 ·rw[show decide (((a+20:Nat):Int)<=((l.length:Nat):Int))=true by rw[agv];omega];have hw:IntKind.i64.wrap (((a+20:Nat):Int)+20)=((a+20+20:Nat):Int):=wrap64 ajK ajK;have hc:=hI M ajK a (a+20) ajK ajK;rw[Gi] at hc;simp only[↓aX,mX,seval];refine ef (l:= .par 0) hc aj1 ajR ?_;rintro x1 ys ⟨zs,rfl,hz,HA,_⟩ _ _;simp only[↓aX,mX,seval,hw];refine⟨⟨(a+20,zs),hle,hz.trans hM,λI0=> .inr ⟨ajM,?_⟩⟩,ajM,?_⟩
  ·rcases hs I0 with⟨rfl,rfl⟩|⟨h,_⟩
   ·have:=HA rfl;rw[this,af2 ajK,ahN ajK,agb]
   omega
  exact O5
 rw[show decide (((a+20:Nat):Int)<=((l.length:Nat):Int))=false by rw[ahn];omega];have hc:=hI M ajK a l.length ha ajK;rw[Gi] at hc;simp only[↓aX,mX,seval];refine ef (l:= .par 0) hc aj1 ajR ?_;rintro x1 ys ⟨zs,rfl,hz,HA,qo⟩ _ _;have Er:l.length<=20->zs=df l:=by
  intro I0;rcases hs I0 with⟨rfl,rfl⟩|⟨h,h2⟩
  ·rw[HA rfl,af2 (af6 _),ahN (af6 _),agb]
  rw[qo h,h2]
 have hzp:=hz.trans hM;clear hz HA qo hs hM Gi hc ha hle;simp only[↓aX,mX,seval];refine b_ (σ:={q:Nat×List Attr // 0<q.1/\q.2.Perm l/\(q.1=20->q.2=zs)/\20<=q.1/\(20<q.1->20<l.length)/\q.1<=2*l.length+20}) [.par 0] (λq=>[(0,.sl (.par 0) 2 0 l.length),(1,.int .i64 l.length),(2,.fn fW [] []),(6,.int .i64 q.1.1)]) (λq=>[(.par 0,⟨2,ak (aQ q.1.2)⟩)]) (λq=>2*l.length+20 - q.1.1)
  ⟨(20,zs),ajM,hzp,λ_=>rfl,af6 _,λh=>absurd h ajL,ajM⟩ (λ_=>rfl) ajN ajO ?_ ?_ ?_
 ·exact HZ
 ·exact O5
 rintro⟨⟨bs,M⟩,yB,hM,Hl,BU,hq3,hq4⟩;simp only at yB hM Hl BU hq3 hq4;have Gi:M.length=l.length:=hM.length_eq;simp only[↓aX,mX,seval,aR,aI];by_cases aF:bs<l.length
 ·rw[dT aF];have ml:IntKind.i64.wrap (2*(bs:Int))=((2*bs:Nat):Int):=by rw[wrap64 ajK ajK];omega
  have Cg:IntKind.i64.wrap ((bs:Int)*2)=((2*bs:Nat):Int):=ajW
  simp only[↓aX,mX,seval,ml];refine b_ (σ:={q:Nat×List Attr // q.1<=l.length/\q.2.Perm l}) [.par 0] (λq=>[(0,.sl (.par 0) 2 0 l.length),(1,.int .i64 l.length),(2,.fn fW [] []),(6,.int .i64 bs),(7,.int .i64 q.1.1),(8,.int .i64 ((q.1.1+2*bs:Nat):Int))]) (λq=>[(.par 0,⟨2,ak (aQ q.1.2)⟩)]) (λq=>l.length - q.1.1)
   ⟨(0,M),agO _,hM⟩ (λ_=>rfl) ajN ajO ?_ ?_ ?_
  ·exact HZ
  ·refine eu ?_ (by simp only[agh];repeat' constructor) ajT;intro z hz hu;by_cases e:z= .par 0
   ·subst e;simp
   exact LW
  rintro⟨⟨a,M⟩,ha,hM⟩;simp only at ha hM;have Gi:M.length=l.length:=hM.length_eq;have Sf:IntKind.i64.wrap ((a:Int)+(bs:Int))=((a+bs:Nat):Int):=wrap64 ajK ajK;have Uc:IntKind.i64.wrap (((a+2*bs:Nat):Int)+((2*bs:Nat):Int))=((a+2*bs+2*bs:Nat):Int):=wrap64 ajK ajK;simp only[↓aX,mX,seval,aR,aI,ml,Sf,Uc];by_cases hle:a+2*bs<=l.length
  ·rw[show decide (((a+2*bs:Nat):Int)<=((l.length:Nat):Int))=true by rw[agv];omega];have hc:=hS M ajK a (a+bs) (a+2*bs) ajK ajK ajK;rw[Gi] at hc;simp only[↓aX,mX,seval,Sf];refine ef (l:= .par 0) hc aj1 ajR ?_;rintro x1 ys ⟨z1,rfl,hz⟩ _ _;simp only[↓aX,mX,seval,ml,Uc];exact⟨⟨(a+2*bs,z1),hle,hz.trans hM⟩,ajM,by
    refine eu ?_ ajT ajT;intro z hz hu;by_cases e:z= .par 0
    ·subst e;simp
    exfalso;apply hu;simp[ae,e,Hp.none]⟩
  rw[show decide (((a+2*bs:Nat):Int)<=((l.length:Nat):Int))=false by rw[ahn];omega];simp only[↓aX,mX,seval,Sf];by_cases hmn:a+bs<l.length
  ·rw[show decide (((a+bs:Nat):Int)<((l.length:Nat):Int))=true by rw[agv];omega];have hc:=hS M ajK a (a+bs) l.length ajK ajK ajK;rw[Gi] at hc;simp only[↓aX,mX,seval];refine ef (l:= .par 0) hc aj1 ajR ?_;rintro x1 ys ⟨z1,rfl,hz⟩ _ _;simp only[↓aX,mX,seval,Cg];exact⟨⟨(2*bs,z1),ajM,hz.trans hM,λh=>absurd h ajM,ajM,λ_=>by omega,ajM⟩,ajM,by
    refine eu ?_ ajT ajT;intro z hz hu;by_cases e:z= .par 0
    ·subst e;simp
    exfalso;apply hu;simp[ae,e,Hp.none]⟩
  rw[show decide (((a+bs:Nat):Int)<((l.length:Nat):Int))=false by rw[ahn];omega];simp only[↓aX,mX,seval,Cg];exact⟨⟨(2*bs,M),ajM,hM,λh=>absurd h ajM,ajM,λ_=>by omega,ajM⟩,ajM,by
   refine eu ?_ ajT ajT;intro z hz hu;by_cases e:z= .par 0
   ·subst e;simp
   exfalso;apply hu;simp[ae,e,Hp.none]⟩
 rw[dF aF];simp only[↓aX,mX,seval,fF,eY,fw];refine⟨_,rfl,aQ M,⟨M,rfl,hM,λh=> ?_⟩,ajU,ank,ajR⟩;have aeU:bs=20:=by
  by_cases I0:20<bs
  ·have:=hq3 I0;omega
  omega
 rw[Hl aeU];exact Er h
def GQ {fW:Nat} (l:List Attr) (hS:nN P G 181 [.sl (.par 0) 2 0 l.length,.int .i64 l.length,.fn fW [] []] 2 (aQ l) λx ys=>∃zs:List Attr,ys=aQ zs/\zs.Perm l/\(l.length<=20->zs=df l)) :
  nN P G 148 [.sl (.par 0) 2 0 l.length,.fn fW [] []] 2 (aQ l) λx ys=>∃zs:List Attr,ys=aQ zs/\zs.Perm l/\(l.length<=20->zs=df l):=by
 refine mM (cw 148 []) ajL ajO ?_;simp only[↓aX,mX,seval,eP];refine ef (l:= .par 0) hS aj1 ajR ?_;rintro x1 ys ⟨zs,rfl,hz,Dd⟩ _ _;simp only[↓aX,mX,seval,fF,eY,fw];exact⟨_,rfl,aQ zs,⟨zs,rfl,hz,Dd⟩,ajU,by rw[aE,aE,hz.length_eq],ajR⟩
end

mutual
theorem Tree.GR:∀x:Tree,x.Hq=true->x.iu=false
 | .mk t s az ks,h=>by
   simp only[Tree.Hq,ahu,agv] at h
   cases t with
   |true=>
     rw[Tree.zw _ rfl]
     simp only[Tree.attrs,Tree.kids]
     rcases h with h|h
     · have:(az.length==0)=false:=by rw[agZ];omega
       simp[this]
     have:(ks.length==0)=false:=by
       cases ks with
       |nil=>simp[pM] at h
       |cons a r=>simp
     simp[this]
   |false=>
   rw[Tree.tu _ rfl]
   simp only[Tree.attrs,Tree.kids]
   rcases h with h|h
   · have:cR az=false:=by
       unfold cR
       rw[ahV (show ¬(az.length:Int)<=4 by omega),aht]
     simp[this]
   have:=xe ks h none
   simp[this]
theorem xe:∀l:List Tree,pM l=true->∀p,cD p l=false
 |[],h,_=>by simp[pM] at h
 |x::r,h,p=>by
   simp only[pM,ahu] at h
   rcases h with h|h
   · have:=x.GR h
     simp[cD,this]
   have:=xe r h (some x.text)
   simp[cD,this]
end
def Tree.GS {x:Tree} (h:x.Hq=true):x.cA=false:=by unfold Tree.cA;rw[x.GR h];simp
def vO {l:List Tree} (h:pM l=true):content l=false:=by unfold content;rw[xe l h];simp
def dI (x:Tree):Bs×Int:=if x.cA then(if 2500<x.sh.length then([],2) else(x.sh,0)) else([],1)
def GU:Tree:= .mk false [] [] []
def ot (s:Bs):Tree×Int:=match aV 8 s with
 |some (t,[])=>if t.cA then(t,0) else(GU,1)
 |_=>(GU,1)
def cj (s:Bs):Tree×Int:=if 2500<s.length then(GU,2) else ot s
def ya (s:Bs):List Tree×Int:=match cF (aV 8) s with
 |some (l,[])=>if content l then(l,0) else([],1)
 |_=>([],1)
def eC (s:Bs):List Tree×Int:=if 2500<s.length then([],2) else ya s
section
variable {P:Program} {G:Nat->Option (List IV)} [KN P G]
def Ra (x:Tree) (hx:x.wt<=B) (hG:aj P G 67 [x.av] (.bool x.cA)) (hP:aj P G 74 [.nil0,x.av] (.list (bo x.sh))) :
  aj P G 35 [x.av] (.bq [.str (dI x).1,.int .i64 (dI x).2]):=by
 refine au (cw 35 []) ajL akb ajU ?_;simp only[Tree.av] at hG hP;simp only[↓aX,mX,seval,Tree.av];refine ah hG ?_;unfold dI;cases hg:x.cA with
 |false=>simp only[↓aX,mX,seval,af1,↓a_,agl,agk]
 |true=>
 simp only[↓aX,mX,seval,af4];refine ah hP ?_;by_cases hl:2500<x.sh.length
 ·simp only[↓aX,mX,seval,bu,show(((x.sh.length:Nat):Int)>2500)=True by simp;omega,ag3,↓a_,hl,agn]
 simp only[↓aX,mX,seval,bu,show(((x.sh.length:Nat):Int)>2500)=False by simp;omega,ag4,↓a_,hl,agk,Hz,o7,af9]
def Rb (s:Bs) (hs:s.length<=B) (hE:∀s:Bs,s.length<=B->cM P G 69 [.ptr (.par 0) 2 0 0,.int .i64 1] (dz s false) (Gf 8 s false))
  (hG:∀x:Tree,x.wt<=10000->aj P G 67 [x.av] (.bool x.cA)) :
  aj P G 32 [.str s] (.bq [(cj s).1.av,.int .i64 (cj s).2]):=by
 refine cO (cw 32 []) ajL ajO ale ?_;unfold cj;simp only[↓aX,mX,seval];by_cases hl:2500<s.length
 ·simp only[↓aX,mX,seval,show(((s.length:Nat):Int)>2500)=True by simp;omega,ag3,cS,hl,agn,norm,bP,GU,Tree.av,Tree.text,Tree.s,Tree.attrs,Tree.kids,aQ,aM,ag6]
 simp only[↓aX,mX,seval,show(((s.length:Nat):Int)>2500)=False by simp;omega,ag4];refine ba (l:= .loc 12) (hE s hs) aj1 ajR ?_;rintro x1 fB ⟨t,r,b',rfl,rfl,gz,ml,_,_,lR⟩ _ _ _;have lR:=lR rfl;have xw:=hG t ajK;simp only[Tree.av] at xw;simp only[↓aX,mX,seval,Tree.av,hl,agk];have I6:(b'=true\/r≠[]\/t.cA=false)->ot s=(GU,1):=by
  intro h;have Y8:(∀t0,aV 8 s=some (t0,[])->t0.cA=false)->ot s=(GU,1):=by
   intro h;unfold ot;split
   ·rename_i t0 he;rw[h t0 he];rfl
   rfl
  refine Y8 λt0 he=> ?_;rw[he] at lR;obtain⟨rfl,rfl,h7⟩:=lR;rcases h with h|h|h
  ·cases h
  ·exact absurd rfl h
  rcases h7 with rfl|⟨_,h8⟩
  ·exact h
  exact Tree.GS h8
 cases b' with
 |true=>
  rw[I6 (.inl rfl)];simp only[↓aX,mX,seval,cS,hl,agk,norm,bP,GU,Tree.text,Tree.s,Tree.attrs,Tree.kids,aQ,aM,ag6]
  try rfl
 |false=>
 simp only[↓aX,mX,seval];cases qp:(r==[]) with
 |false=>
  have hr:r≠[]:=alz
  rw[I6 (.inr (.inl hr))];simp only[↓aX,mX,seval,af1,cS,hl,agk,norm,bP,GU,Tree.text,Tree.s,Tree.attrs,Tree.kids,aQ,aM,ag6]
  try rfl
 |true=>
 have hr:r=[]:=alz
 subst hr;simp only[↓aX,mX,seval,af4];refine ah xw ?_;cases hg:t.cA with
 |false=>
  rw[I6 (.inr (.inr hg))];simp only[↓aX,mX,seval,af1,cS,hl,agk,norm,bP,GU,Tree.text,Tree.s,Tree.attrs,Tree.kids,aQ,aM,ag6]
  try rfl
 |true=>
 have he:aV 8 s=some (t,[]):=by
  cases j5:aV 8 s with
  |none=>rw[j5] at lR;cases lR
  |some y=>
  rw[j5] at lR;obtain⟨_,h6,h7⟩:=lR;rcases h7 with rfl|⟨h7,_⟩
  ·rw[h6]
  rw[Tree.GS h7] at hg;cases hg
 have hpk:ot s=(t,0):=by unfold ot;rw[he];simp only[hg,agn]
 rw[hpk];simp only[↓aX,mX,seval,af4,cS,hl,agk,norm,bP]
 try rfl
def I7 (s:Bs) (hs:s.length<=B) (hK:∀s:Bs,s.length<=B->cM P G 56 [.ptr (.par 0) 2 0 0,.int .i64 1] (dz s false) (xY 8 s false))
  (hG:∀l:List Tree,bH l<=10000->aj P G 57 [.list (aM l)] (.bool (content l))) :
  aj P G 22 [.str s] (.bq [.list (aM (eC s).1),.int .i64 (eC s).2]):=by
 refine cO (cw 22 []) ajL ajO ajU ?_;unfold eC;simp only[↓aX,mX,seval];by_cases hl:2500<s.length
 ·simp only[↓aX,mX,seval,show(((s.length:Nat):Int)>2500)=True by simp;omega,ag3,↓a_,hl,agn,norm,bP,aM]
 simp only[↓aX,mX,seval,show(((s.length:Nat):Int)>2500)=False by simp;omega,ag4];refine ba (l:= .loc 11) (hK s hs) aj1 ajR ?_;rintro x1 fB ⟨t,r,b',rfl,rfl,gz,_,lR⟩ _ _ _;have lR:=lR rfl;have xw:=hG t ajK;simp only[↓aX,mX,seval,hl,agk];have I6:(b'=true\/r≠[]\/content t=false)->ya s=([],1):=by
  intro h;unfold ya;split
  ·rename_i t0 he;rw[he] at lR;obtain⟨rfl,rfl,h7⟩:=lR;rcases h with h|h|h
   ·cases h
   ·exact absurd rfl h
   have:content t0=false:=by
    rcases h7 with rfl|⟨_,h8⟩
    ·exact h
    exact vO h8
   rw[this];rfl
  rfl
 cases b' with
 |true=>
  rw[I6 (.inl rfl)];simp only[↓aX,mX,seval,↓a_,hl,agk,norm,bP,aM]
 |false=>
 simp only[↓aX,mX,seval];cases qp:(r==[]) with
 |false=>
  have hr:r≠[]:=alz
  rw[I6 (.inr (.inl hr))];simp only[↓aX,mX,seval,af1,↓a_,hl,agk,norm,bP,aM]
 |true=>
 have hr:r=[]:=alz
 subst hr;simp only[↓aX,mX,seval,af4];refine ah xw ?_;cases hg:content t with
 |false=>
  rw[I6 (.inr (.inr hg))];simp only[↓aX,mX,seval,af1,↓a_,hl,agk,norm,bP,aM]
 |true=>
 have he:cF (aV 8) s=some (t,[]):=by
  cases j5:cF (aV 8) s with
  |none=>rw[j5] at lR;cases lR
  |some y=>
  rw[j5] at lR;obtain⟨_,h6,h7⟩:=lR;rcases h7 with rfl|⟨h7,_⟩
  ·rw[h6]
  rw[vO h7] at hg;cases hg
 have hpk:ya s=(t,0):=by unfold ya;rw[he];simp only[hg,agn]
 rw[hpk];simp only[↓aX,mX,seval,af4,↓a_,hl,agk,norm,bP]
end

def e10:((1:Int) !=0)=true:=rfl

section
variable {P:Program} {G:Nat->Option (List IV)} [KN P G]
def yb (s t:Bs) (hC:aj P G 127 [.str s,.str t] (.bool (t.isPrefixOf s))) :
  aj P G 91 [.str s,.str t] (.bool (t.isPrefixOf s)):=by
 refine au (cw 91 []) ajL ajO ajP ?_;simp only[↓aX,mX,seval];refine ah hC ?_;simp only[↓aX,mX,seval]
end
end Go.Am
