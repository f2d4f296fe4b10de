import Derived.Test.YtfeijflhfhkbnaaGreatDoorKAm48S
import Derived.Test.YtfeijflhfhkbnaaGreatDoorKAc0S
import Derived.Test.YtfeijflhfhkbnaaGreatDoorKP2S
import Derived.Shelf.Strconv.AtoiAll
import Derived.Shelf.Strconv.Itoa3
import Derived.Test.YtfeijflhfhkbnaaGreatDoorKT67S
import Derived.Test.YtfeijflhfhkbnaaGreatDoorKT60S
import Derived.Test.YtfeijflhfhkbnaaGreatDoorKT91S
import Derived.Test.YtfeijflhfhkbnaaGreatDoorKAm47S
import Derived.Test.YtfeijflhfhkbnaaGreatDoorKT87S
import Derived.Test.YtfeijflhfhkbnaaGreatDoorKT21S
import Derived.Test.YtfeijflhfhkbnaaGreatDoorKAm40S
set_option linter.all false
/- THE ABSTRACT MACHINE, part 53: a contract of the kit's, az a contract of the machine's. -/
namespace Go.Am
open Go Go.RowKit
def D_ (G:Nat->Option (List IV)) (I:Nat->Prop) (w:World):Prop:=∀g cs,G g=some cs->dD w I cs g
def dU {P:Program} {G:Nat->Option (List IV)} {f:Nat} {args:List AV} {res:AV} (ha:ai args=[]) (hr:res.aq=[])
   (h:∀(w:World) (I:Nat->Prop) (vs:List Value),D_ G I w->bA w mW Hp.none I args vs ->
     Calls P f vs.toArray w λe w'=>∃v,e= .returned v/\Below w.heap.size w w'/\∀I':Nat->Prop,RV w' mW Hp.none I' res v):aj P G f args res:=by
 refine⟨ha,hr,λw A β vs od hv=> ?_⟩
 have hg:D_ G (Im (cH P G w A β Hp.none) β Hp.none) w:=λg cs hg=>(od.iO g cs hg).2.2
 have hk:ic w w β mW Hp.none Hp.none (Im (cH P G w A β Hp.none) β Hp.none) (Im (cH P G w A β Hp.none) β Hp.none) (ai args):=
   {im:=λk hk hs=>⟨hk,hs,rfl⟩,lb:=λl _ ⟨r,h⟩=>by simp[Hp.none] at h}
 refine(h w _ vs hg (bA.mono _ _ hk hv)).mono ?_
 rintro e w' ⟨v,rfl,hb,hx⟩
 have hi:jt w w' (Im (cH P G w A β Hp.none) β Hp.none) (Im (cH P G w A β Hp.none) β Hp.none):=
   ⟨λk hk hs=>⟨hk,ahi hs hb.size,hb.block k hs⟩⟩
 refine⟨v,res,Hp.none,β,rfl,rfl,?_,?_,by simp[hr]⟩
 · exact { defers := rfl,size := rfl
           jc:=λn=>by simp[Env.any,RV]
           rows:=λl r h=>by simp[Hp.none] at h
           own:=λl g ⟨r,h⟩=>by simp[Hp.none] at h
           inj:=λl l' g ⟨r,h⟩=>by simp[Hp.none] at h
           iq:=λn=>by simp[Env.any,AV.aq]
           cB:=λl r h=>by simp[Hp.none] at h
           frame:=od.frame.N6 hb
           jv:=λl ⟨r,h⟩=>by simp[cH,Hp.none] at h
           fr:=λl g ⟨r,h⟩=>by simp[Hp.none] at h
           iO:=λg cs hg=>by
             obtain⟨k1,k2,k3⟩:=od.iO g cs hg
             exact⟨k1,ahi k2 hb.size,dD.mono hi k1 k2 k3⟩}
 refine RV.mono _ _ ?_ (hx (Im (cH P G w A β Hp.none) β Hp.none))
 exact {im:=λk hk hs=>⟨hk,hs,rfl⟩,lb:=λl hl=>by simp[hr] at hl}
end Go.Am

namespace Go.Am
open Go Go.RowKit Go.Shelf Go.Proofs
theorem Za {w:World} {I:Nat->Prop} {s:Bs} {v:Value} (h:RV w mW Hp.none I (.str s) v):v= .string ⟨s.toArray⟩:=by simpa[RV] using h
def Ea {w:World} {I:Nat->Prop} {s:Bs} {vs:List Value} (h:bA w mW Hp.none I [.str s] vs):vs=[.string ⟨s.toArray⟩]:=by
 grind [bA,Za]
theorem I_ (w:World) (k:Nat) (os:Array Obj):Below w.heap.size w (Sort.grow (w.drewN k) os):=by
 refine⟨rfl,rfl,rfl,ajL,λi hi=> ?_⟩;simp[Sort.grow,World.drewN]
 grind
theorem GV {w:World} {I:Nat->Prop} {g:Nat}:∀(cs:List IV) (o i:Nat) (x:IV),b7 w I cs g o->cs[i]?=some x->∃v,w.cell? ⟨g,o+i,none⟩=some v/\iM w I x v
 |y::r,o,0,x,h,hx=>by
  grind [b7]
 |y::r,o,i+1,x,h,hx=>by
  simp only[b7] at h;obtain⟨v,h1,h2⟩:=GV r (o+1) i x h.2 ajV;exact⟨v,by rw[show o+(i+1)=o+1+i by omega];exact h1,h2⟩
def Zb {P:Program} {w:World} {I:Nat->Prop} {g:Nat} {name:String} {k:IntKind} {zs:List Int} (hg:P.globalNamed name=some g) (h:dD w I (zs.map λz=>IV.int k z) g):Lib.TabIs P w name k zs:=by
 obtain⟨h1,h2⟩:=h;unfold Lib.TabIs World.var?;rw[hg];simp;unfold oy at h2;split at h2
 ·rename_i c a b hc;simp only[hc,afZ] at h2 ⊢;simp at h2;apply Array.ext
  ·grind
  intro i NX P0;obtain⟨v,k1,k2⟩:=GV _ 0 i (IV.int k (zs[i]' ajK)) h1 ajL
  subst k2;have:w.cell? ⟨g,0+i,none⟩=c[i]?:=by simp[World.cell?,hc]
  grind
 grind
section
variable {P:Program} {G:Nat->Option (List IV)} [KN P G] {ρ:Ren}
def ac0 (L:LaysC.n172 P ρ) {t1 t2:Nat} (h1:G (ρ.g 15)=some [.ifc t1]) (h2:G (ρ.g 16)=some [.ifc t2]):VM P G (ρ.f 172):=by
 intro n hn;have gV:B=1073741824:=rfl;have j9:(⟨n.toArray⟩:ByteArray).size=n.length:=by rfl
 have xD:(⟨n.toArray⟩:ByteArray).data.toList=n:=ajL
 have cell:∀(w:World) (I:Nat->Prop) (g t:Nat),D_ G I w->G g=some [.ifc t]->∃u,w.cell? ⟨g,0,none⟩=some (.iface t u):=by
  intro w I g t hg he;obtain⟨⟨⟨v,e1,e2⟩,_⟩,_⟩:=hg g _ he
  grind [iM]
 cases hc:Lib.atoiAll n with
 |ok k=>
  refine⟨k,.jS,dU ajO ajU λw I vs hg hv=> ?_,.inl ⟨rfl,rfl⟩⟩;rw[Ea hv];refine(Any.strconv_Atoi_ok L _ anl k ajV w).mono ?_;rintro e w' ⟨rfl,hw⟩;refine⟨_,rfl,?_,λI'=>by simp[RV,bA]⟩;rcases hw with rfl|⟨t,rfl⟩
  ·exact Below.refl _ _
  exact Lib.bytesWorld_below _ _ _
 |range=>
  refine⟨Lib.atoiSat n,.ifc (ρ.t 168) .any,dU ajO ajU λw I vs hg hv=> ?_,.inr ⟨⟨_,rfl⟩,λv=>by simp⟩⟩;rw[Ea hv];obtain⟨u,hu⟩:=cell w I _ _ hg h2;refine(Any.strconv_Atoi_range L _ anl ajV _ w hu (.inr ⟨_,_,rfl⟩)).mono ?_
  grind [RV,bA]
 |_=>
 refine⟨0,.ifc (ρ.t 168) .any,dU ajO ajU λw I vs hg hv=> ?_,.inr ⟨⟨_,rfl⟩,λv=>by simp⟩⟩;rw[Ea hv];obtain⟨u,hu⟩:=cell w I _ _ hg h1;refine(Any.strconv_Atoi_syntax L _ anl ajV _ w hu (.inr ⟨_,_,rfl⟩)).mono ?_
 grind [RV,bA]
def ac1 (L:LaysM.n171 P ρ) {g:Nat} (hg:P.globalNamed "internal/strconv.uint64pow10"=some g) (h1:G g=some (Lib.pow10Tab.map fun z=>IV.int .u64 z)):P8 P G (ρ.f 171):=by
 intro k h0 hk;refine dU ajO ajP λw I vs hG hv=> ?_;obtain⟨v,us,rfl,rfl,rfl⟩:=hv;refine(Any.strconv_Itoa L k h0 hk w (Zb hg (hG g _ h1))).mono ?_
 grind [I_,RV]
end
end Go.Am

namespace Go.Am
open Go Go.RowKit
noncomputable def ep (s:Bs):Bs×Int:=
 if 2500<s.length then([],2) else match bb false s with
 |some (t,[])=>if plain t then(t,0) else([],1)
 |_=>([],1)
section
variable {P:Program} {G:Nat->Option (List IV)} [KN P G]
def Uj (s:Bs) (hs:s.length<=B) (hT:∀s:Bs,s.length<=B->cM P G 54 [.ptr (.par 0) 2 0 0,.bool false] (dz s false) (CF false s false))
  (hP:∀t:Bs,t.length<=2500->aj P G 55 [.str t] (.bool (plain t))) :
  aj P G 21 [.str s] (.bq [.str (ep s).1,.int .i64 (ep s).2]):=by
 refine au (cw 21 []) ajL ajO ajU ?_;unfold ep;simp only[↓aX,mX,seval];by_cases hl:2500<s.length
 ·simp only[↓aX,mX,seval,show(((s.length:Nat):Int)>2500)=True by simp;omega,ag3,↓a_,hl,agn]
 simp only[↓aX,mX,seval,show(((s.length:Nat):Int)>2500)=False by simp;omega,ag4];refine ba (l:= .loc 11) (hT s hs) aj1 ajR ?_;rintro x1 fB ⟨t,r,b',rfl,rfl,gz,_,lR⟩ _ _ _;have lR:=lR rfl;simp only[↓aX,mX,seval,hl,agk];cases b' with
 |true=>
  have e:bb false s=none:=by
   cases h:bb false s with
   |none=>rfl
   |some y=>rw[h] at lR;cases lR.1
  simp only[↓aX,mX,seval,↓a_,hl,agk,e]
 |false=>
 have e:bb false s=some (t,r):=by
  cases h:bb false s with
  |none=>rw[h] at lR;cases lR
  |some y=>rw[h] at lR;rw[lR.2]
 simp only[↓aX,mX,seval];cases qp:(r==[]) with
 |false=>
  have hr:r≠[]:=alz
  obtain⟨c,q,rfl⟩:=List.exists_cons_of_ne_nil hr;simp only[↓aX,mX,seval,af1,↓a_,hl,agk,e]
 |true=>
 have hr:r=[]:=alz
 subst hr;simp only[↓aX,mX,seval,af4];refine ah (hP t (by simp at gz;omega)) ?_;cases hg:plain t with
 |false=>simp only[↓aX,mX,seval,af1,↓a_,hl,agk,agn,e,hg]
 |true=>simp only[↓aX,mX,seval,af4,↓a_,hl,agk,agn,e,hg]
end

def kj:List Bs:=[[],[102,105,114,115,116],[108,97,115,116],[98,101,102,111,114,101],[97,102,116,101,114],[100,101,108,101,116,101],[114,101,112,108,97,99,101],[118,97,108,117,101],[114,101,110,97,109,101],[115,101,116],[100,114,111,112]]
def pa:List Bs->Bs->Int
 |[],_=> -1
 |v::r,w=>if w=v then 0 else if pa r w<0 then -1 else pa r w+1
theorem Eb:∀(l:List Bs) (w:Bs),-1<=pa l w/\pa l w<l.length
 |[],w=>by simp[pa]
 |v::r,w=>by
  have:=Eb r w;simp only[pa,agd];split
  ·omega
  split<;>omega
theorem K_:∀{l:List Bs} {w:Bs} {i:Nat},l[i]?=some w->(∀j,j<i->l[j]?≠some w)->pa l w=(i:Int)
 |v::r,w,0,h,_=>by simp at h;subst h;simp[pa]
 |v::r,w,i+1,h,hn=>by
  have h0:w≠v:=λe=>hn 0 ajK an_;have ih:=K_ (l:=r) (i:=i) aj6 (λj hj=>by have:=hn (j+1) ajK;simpa using this);simp only[pa,h0,agk,ih];split<;>omega
theorem CS:∀{l:List Bs} {w:Bs},(∀j,j<l.length->l[j]?≠some w)->pa l w= -1
 |[],w,_=>rfl
 |v::r,w,hn=>by
  have h0:w≠v:=λe=>hn 0 ajL an_;have ih:=CS (l:=r) (λj hj=>by have:=hn (j+1) ajY;simpa using this);simp only[pa,h0,agk,ih];rfl
def qm:Op:=⟨0,0,[],[],[]⟩
noncomputable def bM (s:Bs):Op×List Step×Int:=
 let kd:=pa kj (a6 32 s).1
 let a:=a6 32 (a6 32 s).2.1
 if kd<1\/2500<s.length then(qm,[],1) else match lM a.1 with
 |none=>(qm,[],1)
 |some l=>
  if a.2.2=decide (kd=5) then(qm,[],1)
  else if kd=8\/kd=10 then(⟨kd,0,[],a.2.1,[]⟩,l,0)
  else if kd=9 then
   if(a6 61 a.2.1).2.2 then(if(ep (a6 61 a.2.1).2.1).2=0 then(⟨kd,0,[],(a6 61 a.2.1).1,(ep (a6 61 a.2.1).2.1).1⟩,l,0) else(qm,[],(ep (a6 61 a.2.1).2.1).2)) else(qm,[],1)
  else if kd=7 then(if(ep a.2.1).2=0 then(⟨kd,0,[],[],(ep a.2.1).1⟩,l,0) else(qm,[],(ep a.2.1).2))
  else if kd=5 then(⟨kd,0,[],[],[]⟩,l,0)
  else if(eC a.2.1).2=0 then(⟨kd,0,(eC a.2.1).1,[],[]⟩,l,0) else(qm,[],(eC a.2.1).2)
noncomputable def kA (s:Bs):AV:= .bq [(bM s).1.av,.list ((bM s).2.1.map Step.iv),.int .i64 (bM s).2.2]
def cX {env:Env} {H:Hp} (m:Option Nat) (t u v:Nat) (R:AV->Hp->Prop):eZ [(some m,t),(none,u),(none,v)] R .ret env H=yp (eV m (env t) H) (λx=>R (.bq [x,env u,env v]) H) .mk:=by
 simp only[eZ,eY,qF,yp];cases eV m (env t) H<;>simp[fw]
section
variable {P:Program} {G:Nat->Option (List IV)} [KN P G]
def Uk (l:List Bs) (hl:l.length<=B) (w:Bs):aj P G 19 [.list (l.map IV.str),.str w] (.int .i64 (pa l w)):=by
 refine au (cw 19 []) ajL ajO ajP ?_;have gV:B=1073741824:=rfl;simp only[↓aX,mX,seval,eD];refine dj (σ:={i:Nat // i<=l.length/\∀j,j<i->l[j]?≠some w}) (λq=>[(0,.list (l.map IV.str)),(1,.str w),(7,.int .i64 l.length),(8,.int .i64 q.1)]) (λq=>l.length - q.1) ⟨0,ajL⟩ (λ_=>rfl) ?_ ?_
 ·exact qi
 rintro⟨i,hi,hn⟩;simp only[↓aX,mX,seval,eD];by_cases aF:i<l.length
 ·rw[dT aF];obtain⟨x,hx⟩:=gE aF;have hw:=w1 i;have hxe:(l.map IV.str)[i]?=some (.str x):=by simp[hx]
  have j5:dV 1 (l.map IV.str):=akn
  simp only[↓aX,mX,seval,hxe,j5,IV.cells,af5,af0];cases VG:(w==x) with
  |true=>
   have:w=x:=(by simpa using VG);subst this;simp only[↓aX,mX,seval,K_ hx hn]
  |false=>
  have cf:w≠x:=by intro e;simp[e] at VG
  simp only[↓aX,mX,seval,hw];refine⟨⟨i+1,aF,λj hj=> ?_⟩,ajM,rfl⟩;by_cases e:j=i
  ·subst e;rw[hx];simpa using agQ cf
  exact hn j ajK
 rw[dF aF];simp only[↓aX,mX,seval,CS (λj hj=>hn j ajK)]
set_option maxHeartbeats 2000000 in
def ac2 (s:Bs) (hs:s.length<=B)
  (Zc:∀(t:Bs) (c:UInt8),t.length<=s.length->aj P G 18 [.str t,.str [c]] (.bq [.str (a6 c t).1,.str (a6 c t).2.1,.bool (a6 c t).2.2]))
  (hIdx:∀w:Bs,aj P G 19 [.list (kj.map IV.str),.str w] (.int .i64 (pa kj w)))
  (hP:∀t:Bs,t.length<=s.length->aj P G 20 [.str t] (kf t))
  (hT:∀t:Bs,t.length<=s.length->aj P G 21 [.str t] (.bq [.str (ep t).1,.int .i64 (ep t).2]))
  (hC:∀t:Bs,t.length<=s.length->aj P G 22 [.str t] (.bq [.list (aM (eC t).1),.int .i64 (eC t).2])) :
  aj P G 6 [.str s] (kA s):=by
 refine cO (cw 6 []) ajL ajO (by simp[AV.aq,ai,kA,Op.av]) ?_;have gV:B=1073741824:=rfl;have l1:=(gY 32 s).2;have l2:=gY 32 (a6 32 s).2.1;have l3:=gY 61 (a6 32 (a6 32 s).2.1).2.1;obtain⟨kd,qB⟩:∃kd,pa kj (a6 32 s).1=kd:=⟨_,rfl⟩;have hrg:=Eb kj (a6 32 s).1;rw[qB] at hrg;obtain⟨a,ha⟩:∃a,a6 32 (a6 32 s).2.1=a:=⟨_,rfl⟩;have c1:=Zc s 32 (Nat.le_refl _);have c2:=Zc (a6 32 s).2.1 32 l1;have c3:=hIdx (a6 32 s).1;rw[ha] at c2 l2 l3;rw[qB] at c3;simp only[↓aX,mX,seval];refine ah c1 ?_;simp only[↓aX,mX,seval];refine ah c2 ?_;simp only[↓aX,mX,seval];simp only[kj,List.map_cons,List.map_nil] at c3;rw[if_pos ⟨rfl,ajN,aj0⟩];simp only[↓aX,mX,seval];refine ah c3 ?_;simp only[↓aX,mX,seval];have cA:∀(o:Op) (l':List Step),bM s=(o,l',0)->kA s= .bq [o.av,.list (l'.map Step.iv),.int .i64 0]:=λo l' h=>by simp only[kA,h]
 have bad:∀e:Int,bM s=(qm,[],e)->kA s= .bq [.agg [.int .i64 0,.int .i64 0,.list [],.str [],.str []],.list [],.int .i64 e]:=λe h=>by simp only[kA,h];rfl
 by_cases P9:kd<1
 ·have hl:bM s=(qm,[],1):=by simp only[bM,qB,P9,true_or,ite_true]
  simp only[↓aX,mX,seval,P9,decide_true,Bool.not_true,bad 1 hl,↓cX,norm,bP]
 simp only[↓aX,mX,seval,P9,decide_false,Bool.not_false];rcases Nat.lt_or_ge 2500 s.length with hlen|hlen
 ·have hl:bM s=(qm,[],1):=by simp only[bM,qB,hlen,or_true,ite_true]
  simp only[↓aX,mX,seval,show decide ((s.length:Int)>2500)=true by simp;omega,bad 1 hl,↓cX,norm,bP]
 simp only[↓aX,mX,seval,show decide ((s.length:Int)>2500)=false by simp;omega];have c4:=hP a.1 ajK;have yE:¬(kd<1\/2500<s.length):=ajK
 have lV:bM s=(match lM a.1 with
  |none=>(qm,[],1)
  |some l=>
   if a.2.2=decide (kd=5) then(qm,[],1)
   else if kd=8\/kd=10 then(⟨kd,0,[],a.2.1,[]⟩,l,0)
   else if kd=9 then
    if(a6 61 a.2.1).2.2 then(if(ep (a6 61 a.2.1).2.1).2=0 then(⟨kd,0,[],(a6 61 a.2.1).1,(ep (a6 61 a.2.1).2.1).1⟩,l,0) else(qm,[],(ep (a6 61 a.2.1).2.1).2)) else(qm,[],1)
   else if kd=7 then(if(ep a.2.1).2=0 then(⟨kd,0,[],[],(ep a.2.1).1⟩,l,0) else(qm,[],(ep a.2.1).2))
   else if kd=5 then(⟨kd,0,[],[],[]⟩,l,0)
   else if(eC a.2.1).2=0 then(⟨kd,0,(eC a.2.1).1,[],[]⟩,l,0) else(qm,[],(eC a.2.1).2)):=by
  unfold bM;simp only[qB,ha];rw[if_neg yE]
 refine ah c4 ?_;cases hp:lM a.1 with
 |none=>
  have hl:bM s=(qm,[],1):=by rw[lV,hp]
  simp only[↓aX,mX,seval,kf,hp,show((1:Int) !=0)=true from rfl,bad 1 hl,↓cX,norm,bP]
 |some l=>
 rw[hp] at lV;simp only at lV;simp only[↓aX,mX,seval,kf,hp,show((0:Int) !=0)=false from rfl];by_cases h3:a.2.2=decide (kd=5)
 ·have hl:bM s=(qm,[],1):=by rw[lV,if_pos h3]
  simp only[↓aX,mX,seval,show(a.2.2==(kd==5))=true by rw[h3];by_cases e:kd=5<;>simp[e],bad 1 hl,↓cX,norm,bP]
 rw[if_neg h3] at lV;simp only[↓aX,mX,seval,show(a.2.2==(kd==5))=false by by_cases e:kd=5<;>cases h4:a.2.2<;>simp_all];have z0:((0:Int) !=0)=false:=rfl;by_cases k80:kd=8\/kd=10
 ·rw[if_pos k80] at lV;rcases k80 with k|k<;>simp only[↓aX,mX,seval,k,show((8:Int)==8)=true from rfl,show((10:Int)==8)=false from rfl,show((10:Int)==10)=true from rfl,z0,cA _ _ lV,↓cX,norm,bP,Op.av,aM,List.map_nil]
 rw[if_neg k80] at lV;simp only[↓aX,mX,seval,show(kd==8)=false by simp;omega,show(kd==10)=false by simp;omega];by_cases k9:kd=9
 ·rw[if_pos k9] at lV;simp only[↓aX,mX,seval,show(kd==9)=true by simp[k9]];refine ah (Zc a.2.1 61 ajK) ?_;cases hc:(a6 61 a.2.1).2.2 with
  |false=>
   rw[hc,if_neg ajL] at lV;simp only[↓aX,mX,seval,hc,Bool.not_false,bad _ lV,↓cX,norm,bP]
  |true=>
  rw[hc,if_pos rfl] at lV;simp only[↓aX,mX,seval,hc,Bool.not_true];refine ah (hT (a6 61 a.2.1).2.1 ajK) ?_;by_cases he:(ep (a6 61 a.2.1).2.1).2=0
  ·exact XF
  rw[if_neg he] at lV;simp only[↓aX,mX,seval,show((ep (a6 61 a.2.1).2.1).2 !=0)=true by simpa using he,bad _ lV,↓cX,norm,bP]
 rw[if_neg k9] at lV;simp only[↓aX,mX,seval,show(kd==9)=false by simp[k9]];by_cases k7:kd=7
 ·rw[if_pos k7] at lV;simp only[↓aX,mX,seval,show(kd==7)=true by simp[k7]];refine ah (hT a.2.1 ajK) ?_;by_cases he:(ep a.2.1).2=0
  ·exact XF
  rw[if_neg he] at lV;simp only[↓aX,mX,seval,show((ep a.2.1).2 !=0)=true by simpa using he,bad _ lV,↓cX,norm,bP]
 rw[if_neg k7] at lV;simp only[↓aX,mX,seval,show(kd==7)=false by simp[k7]];by_cases k5:kd=5
 ·rw[if_pos k5] at lV;simp only[↓aX,mX,seval,show(kd==5)=true by simp[k5],z0,cA _ _ lV,↓cX,norm,bP,Op.av,aM,List.map_nil]
 rw[if_neg k5] at lV;simp only[↓aX,mX,seval,show(kd==5)=false by simp[k5]];refine ah (hC a.2.1 ajK) ?_;by_cases he:(eC a.2.1).2=0
 ·exact XF
 rw[if_neg he] at lV;simp only[↓aX,mX,seval,show((eC a.2.1).2 !=0)=true by simpa using he,bad _ lV,↓cX,norm,bP]
end

def kO (o:Op) (ns:List Int):List Op:=ns.map λn=>{o with target:=n}
noncomputable def jF (d:Doc):List Op->List Bs->Except Int (List Op)
 |acc,[]=> .ok acc
 |acc,x::r=>if(bM x).2.2=0 then(if(dr d (bM x).2.1).1=[] then .error 3 else jF d (acc++kO (bM x).1 (dr d (bM x).2.1).1) r) else .error (bM x).2.2
structure pb where
 code:Int
 n:Int
 text:Bs
def pb.av (r:pb):AV:= .agg [.int .i64 r.code,.int .i64 r.n,.str r.text]
noncomputable def eI (d:Doc) (ls:List Bs):Doc×pb:=
 if 6<ls.length then(d,⟨2,0,[]⟩) else match jF d [] ls with
 | .error e=>(d,⟨e,0,[]⟩)
 | .ok l=>if(cq d l).2=0 then((cq d l).1,⟨0,l.length,[]⟩) else(d,⟨(cq d l).2,0,[]⟩)
def opB (o:Op):Prop:=bH o.content<=2^22/\o.name.length<=2^22/\o.s.length<=2^22
structure LsS (d:Doc) (ls:List Bs) where
 i:Nat
 ops:List Op
 hi:i<=ls.length
 hn:ops.length<=80*i
 hb:∀o∈ops,opB o
 h:jF d [] ls=jF d ops (ls.drop i)
structure CiS (d:Doc) (o:Op) (ns:List Int) where
 j:Nat
 t:Int
 hj:j<=ns.length
def cx (d:Doc) (bY:Int):List AV:=[.list (d.map Node.iv),.int .i64 bY]
section
variable {P:Program} {G:Nat->Option (List IV)} [KN P G]
def Nb (d:Doc) (hd:bQ d=true) (bY:Int) (ls:List Bs) (pf:ls.length<=B)
  (hL:∀s∈ls,aj P G 6 [.str s] (kA s)) (hLb:∀s∈ls,opB (bM s).1)
  (hS:∀s∈ls,aj P G 70 [Doc.av d,.list ((bM s).2.1.map Step.iv)] (.bq [.list ((dr d (bM s).2.1).1.map aC),.int .i64 (dr d (bM s).2.1).2]))
  (hA:∀l:List Op,Ud l->aj P G 71 [Doc.av d,.list (l.map Op.iv)] (.bq [Doc.av (cq d l).1,.int .i64 (cq d l).2])) :
  cM P G 33 [.ptr (.par 0) 2 0 0,.list (ls.map IV.str)] (cx d bY) (λx cs=>x=(eI d ls).2.av/\cs=cx (eI d ls).1 bY):=by
 refine dk (cw 33 [.a 5 (.own 5 5),.b 69 (.tj (.loc 5) 5)]) ajL ajO aj2 ?_;have gV:B=1073741824:=rfl;simp only[↓aX,mX,seval,jK,cx,eD];rcases ajD 6 ls.length with h6|h6
 ·have hc:eI d ls=(d,⟨2,0,[]⟩):=by unfold eI;rw[agc h6]
  simp only[↓aX,mX,seval,show decide ((ls.length:Int)>6)=true by simp;omega,hc,pb.av];exact⟨_,rfl,ajU,ajO,rfl,ajR⟩
 have cf:¬6<ls.length:=ajK
 have qg:eI d ls=(match jF d [] ls with
  | .error e=>(d,⟨e,0,[]⟩)
  | .ok l=>if(cq d l).2=0 then((cq d l).1,⟨0,l.length,[]⟩) else(d,⟨(cq d l).2,0,[]⟩)):=by unfold eI;rw[af8 cf]
 have xD:d.length<=80:=by
  obtain⟨t,ht,rfl⟩:=dm.1 hd;have:=(fg t).1 ht;rw[eR];omega
 simp only[↓aX,mX,seval,show decide ((ls.length:Int)>6)=false by simp;omega,eD];refine fi (σ:=LsS d ls) (λ_=>[.par 0,.loc 4,.loc 5]) (λ_ _=>false)
  (λq=>[(0,.ptr (.par 0) 2 0 0),(4,.ptr (.loc 4) 3 0 0),(5,.sl (.loc 5) 5 0 q.ops.length),(21,.list (ls.map IV.str)),(22,.int .i64 ls.length),(23,.int .i64 q.i)])
  (λq=>[(.par 0,⟨2,[cx d bY]⟩),(.loc 4,⟨3,[[.int .i64 0,.int .i64 0,.str []]]⟩),(.loc 5,⟨5,ak (q.ops.map Op.iv)⟩)]) (λq=>ls.length - q.i) ⟨0,[],ajK,ajL,ajL,ajL⟩ (λ_=>rfl) (λq=>by simp[ai,AV.aq]) ?_ ⟨[],?_⟩ ?_
 ·exact aba
 ·exact abj
 rintro⟨i,ops,hi,hn,hb,h⟩;simp only;obtain⟨uo,my⟩:∃uo,uo=[(Lb.par 0,(⟨2,[cx d bY]⟩:Row)),(Lb.loc 4,⟨3,[[.int .i64 0,.int .i64 0,.str []]]⟩),(Lb.loc 5,⟨5,ak (ops.map Op.iv)⟩)]:=⟨_,rfl⟩;rw[<-my];have hU:∀d,d≠4->d≠5->cU (λ_=>false) uo (.loc d)= .unused:=λd h4 h5=>by rw[my,eF (by simp[h4,h5])];rfl
 have Bi:∀d,d≠0->cU (λ_=>false) uo (.par d)= .unused:=λd hd=>by rw[my,eF alc];rfl
 have j8:cU (λ_=>false) uo (.par 0)= .live ⟨2,[cx d bY]⟩:=bg.2 akO;have Sd:cU (λ_=>false) uo (.loc 4)= .live ⟨3,[[.int .i64 0,.int .i64 0,.str []]]⟩:=bg.2 akO;have BD:cU (λ_=>false) uo (.loc 5)= .live ⟨5,ak (ops.map Op.iv)⟩:=bg.2 akO;generalize cU (λ_=>false) uo=H0 at *;clear my uo;by_cases aF:i<ls.length
 ·obtain⟨s,hs⟩:=gE aF;have TK:=af3 hs;have gz:=w1 i;have hse:(ls.map IV.str)[i]?=some (.str s):=by simp[hs]
  have j5:dV 1 (ls.map IV.str):=akn
  have Rk:ls.drop i=s::ls.drop (i+1):=amt
  rw[Rk] at h;obtain⟨o,so,e,hle⟩:∃o so e,bM s=(o,so,e):=⟨_,_,_,rfl⟩;have Zd:=hL s TK;have V0:=hS s TK;have hob:=hLb s TK;simp only[kA,hle,Op.av] at Zd;simp only[hle,Doc.av] at V0 hob;simp only[jF,hle] at h;simp only[↓aX,mX,seval,dT aF,hse,j5,IV.cells,af5,af0];refine ah Zd ?_;simp only[↓aX,mX,seval,hU 8 ajN ajN];cases he:(e==0) with
  |false=>
   have ql:e≠0:=akk;rw[af8 ql] at h;rw[h] at qg;simp only at qg;simp only[↓aX,mX,seval,bne,he,af1,Sd];exact⟨cx d bY,⟨ako,ako⟩,ajU,aj2,rfl,akt⟩
  |true=>
  have ql:e=0:=akk
  rw[agc ql] at h;simp only[↓aX,mX,seval,bne,he,af4,j8,cx];refine ah V0 ?_;obtain⟨ns,Bc⟩:∃ns,(dr d so).1=ns:=⟨_,rfl⟩;rw[Bc] at h;simp only[↓aX,mX,seval,Bc,eD];have xy:ns.length<=80:=by
   rw[<-Bc];unfold dr;split
   ·rename_i hc;have:=(yV hd (show so≠[] by intro e;subst e;simp[bm] at hc)).1;simp only;omega
   simp
  by_cases ov:ns=[]
  ·rw[agc ov] at h;rw[h] at qg;simp only at qg;simp only[↓aX,mX,seval,show(((ns.length:Nat):Int)==0)=true by simp[ov],Sd];exact⟨cx d bY,⟨ako,ako⟩,ajU,aj2,rfl,akt⟩
  rw[af8 ov] at h;simp only[↓aX,mX,seval,show(((ns.length:Nat):Int)==0)=false by simpa using ov,eD];have yk:∀j,j<=ns.length->(ops++kO o (ns.take j)).length=ops.length+j:=λj hj=>by simp[kO,ahK hj]
  refine fi (σ:=CiS d o ns) (λ_=>[.par 0,.loc 4,.loc 5,.loc 8]) (λ_ _=>false)
   (λq=>[(0,.ptr (.par 0) 2 0 0),(4,.ptr (.loc 4) 3 0 0),(5,.sl (.loc 5) 5 0 (ops.length+q.j)),(8,.ptr (.loc 8) 5 0 0),(21,.list (ls.map IV.str)),(22,.int .i64 ls.length),(23,.int .i64 i),(50,.list (ns.map aC)),(51,.int .i64 ns.length),(52,.int .i64 q.j)])
   (λq=>[(.par 0,⟨2,[cx d bY]⟩),(.loc 4,⟨3,[[.int .i64 0,.int .i64 0,.str []]]⟩),(.loc 5,⟨5,ak ((ops++kO o (ns.take q.j)).map Op.iv)⟩),(.loc 8,⟨5,[[.int .i64 o.kind,.int .i64 q.t,.list (aM o.content),.str o.name,.str o.s]]⟩)])
   (λq=>ns.length - q.j) ⟨0,o.target,ajK⟩ (λ_=>rfl) (λq=>by simp[ai,AV.aq]) ?_ ⟨[],?_⟩ ?_
  ·exact aa'
  ·refine⟨?_,?_,?_,ajS,ajS⟩
   ·exact abl
   ·simp[dp,aD,aH,put,fH]
   exact aa8
  rintro⟨j,tg,hj⟩;simp only;obtain⟨BP,rk⟩:∃BP,BP=[(Lb.par 0,(⟨2,[cx d bY]⟩:Row)),(Lb.loc 4,⟨3,[[.int .i64 0,.int .i64 0,.str []]]⟩),(Lb.loc 5,⟨5,ak ((ops++kO o (ns.take j)).map Op.iv)⟩),(Lb.loc 8,⟨5,[[.int .i64 o.kind,.int .i64 tg,.list (aM o.content),.str o.name,.str o.s]]⟩)]:=⟨_,rfl⟩;rw[<-rk];have kU:∀d,d≠4->d≠5->d≠8->cU (λ_=>false) BP (.loc d)= .unused:=λd h4 h5 h8=>by rw[rk,eF (by simp[h4,h5,h8])];rfl
  have kUp:∀d,d≠0->cU (λ_=>false) BP (.par d)= .unused:=λd hd=>by rw[rk,eF alc];rfl
  have k0:cU (λ_=>false) BP (.par 0)= .live ⟨2,[cx d bY]⟩:=bg.2 ak8;have k4:cU (λ_=>false) BP (.loc 4)= .live ⟨3,[[.int .i64 0,.int .i64 0,.str []]]⟩:=bg.2 ak8;have k5:cU (λ_=>false) BP (.loc 5)= .live ⟨5,ak ((ops++kO o (ns.take j)).map Op.iv)⟩:=bg.2 ak8;have k8:cU (λ_=>false) BP (.loc 8)= .live ⟨5,[[.int .i64 o.kind,.int .i64 tg,.list (aM o.content),.str o.name,.str o.s]]⟩:=bg.2 ak8;generalize cU (λ_=>false) BP=H1 at *;clear rk BP;by_cases kE:j<ns.length
  ·obtain⟨n,hn⟩:=gE kE;have ml:=w1 j;have fG:ops++kO o (ns.take (j+1))=(ops++kO o (ns.take j))++[{o with target:=n}]:=(by rw[agz,hn];simp[kO]);simp only[↓aX,mX,seval,dT kE,pz,hn,mi,af9,qS,af5,af0,k8];rw[bX 5 72 61 5 ((ops++kO o (ns.take j)).map Op.iv) (.agg [.int .i64 o.kind,.int .i64 n,.list (aM o.content),.str o.name,.str o.s]) (by simp[ae,k5]) (by rw[eD];exact yk j hj) rfl akG ajK ajN ajN (by simp[ae,kU])];simp only[↓aX,mX,seval,ml];have Vr:∀(ρ:Lb->Lb) (xs:List IV),aP ρ ⟨5,ak xs⟩=⟨5,ak xs⟩:=λρ xs=>aK _ _ _;refine⟨⟨j+1,n,kE⟩,ajM,[(.loc 5,.loc 61)],?_,?_,?_,ajS,?_⟩
   ·exact abm
   ·simp[dp,aD,aH,put];omega
   ·simp only[eL,fG,Vr,ag2];simp[aD,ae,aP,aA,aH,cx,k0,k4,Op.iv,Op.cs]
   exact XD
  have yO:j=ns.length:=ajK
  subst yO;simp only[↓aX,mX,seval,show decide ((ns.length:Int)<(ns.length:Int))=false by simp,gz];rw[agu] at k5;have Vr:∀(ρ:Lb->Lb) (xs:List IV),aP ρ ⟨5,ak xs⟩=⟨5,ak xs⟩:=λρ xs=>aK _ _ _;refine⟨⟨i+1,ops++kO o ns,aF,by simp only[age,kO,eD];omega,λo' ho=> ?_,h⟩,ajM,[],?_,?_,?_,ajS,ajS⟩
  ·exact abt
  ·exact abn
  ·simp[dp,aD,aH,put,kO]
  simp only[eL,Vr];simp[aD,aP,aA,aH,cx,k0,k4,k5]
 have qe:i=ls.length:=ajK
 subst qe;rw[aic] at h;simp only[jF] at h;rw[h] at qg;simp only at qg;simp only[↓aX,mX,seval,show decide ((ls.length:Int)<(ls.length:Int))=false by simp];have ig:List.take ops.length (ops.map Op.iv)=ops.map Op.iv:=af2 ajL;refine⟨5,ops.map Op.iv,0,ops.length,rfl,BD,ajL,QB ops,?_⟩;simp only[↓aX,mX,seval,agj,ig,ae,j8,cx];have hAp:=hA ops ⟨ajK,hb⟩;simp only[Doc.av] at hAp;refine ah hAp ?_;cases he:((cq d ops).2==0) with
 |false=>
  have ql:(cq d ops).2≠0:=akk
  rw[af8 ql] at qg;simp only[↓aX,mX,seval,hU 15 ajN ajN,bne,he,af1,Sd];exact⟨cx d bY,⟨ako,ako⟩,ajU,aj2,rfl,amS⟩
 |true=>
 have ql:(cq d ops).2=0:=akk
 rw[agc ql] at qg;simp only[↓aX,mX,seval,hU 15 ajN ajN,bne,he,af4,j8,Sd,cx,ig,eD];exact⟨cx (cq d ops).1 bY,⟨ako,ako⟩,ajU,aj2,rfl,amS⟩
end

noncomputable def fY (d:Doc) (a:de):Doc×pb:=
 if a.kind=1 then(match a.lines with
  |[s]=>if(cj s).2=0 then((c_ (cj s).1).1,⟨0,(c_ (cj s).1).1.length,[]⟩) else(d,⟨(cj s).2,0,[]⟩)
  |_=>(d,⟨1,0,[]⟩))
 else if a.kind=2 then eI d a.lines
 else if a.kind=3 then(if(dI (cY d 0).1).2=0 then(d,⟨0,d.length,(dI (cY d 0).1).1⟩) else(d,⟨(dI (cY d 0).1).2,0,[]⟩))
 else(d,⟨4,0,[]⟩)
noncomputable def v_ (d:Doc) (bY:Int) (a:de):(Doc×Int)×pb:=
 if 100<=bY then((d,bY),⟨7,0,[]⟩) else(((fY d a).1,bY+1),(fY d a).2)
section
variable {P:Program} {G:Nat->Option (List IV)} [KN P G]
def ac3 (d:Doc) (bY:Int) (h0:0<=bY) (h1:bY<=100) (a:de) (pf:a.lines.length<=B)
  (hN:∀c:Int,aj P G 31 [.int .i64 c] (oV c)) (hB:dE P 31=true)
  (hP:∀s∈a.lines,aj P G 32 [.str s] (.bq [(cj s).1.av,.int .i64 (cj s).2]))
  (hM:∀s∈a.lines,aj P G 30 [(cj s).1.av] (.bq [Doc.av (c_ (cj s).1).1,.int .i64 (c_ (cj s).1).2]))
  (hC:∀n:Int,cM P G 33 [.ptr (.par 0) 2 0 0,.list (a.lines.map IV.str)] (cx d n) (λx cs=>x=(eI d a.lines).2.av/\cs=cx (eI d a.lines).1 n))
  (hT:aj P G 34 [Doc.av d,.int .i64 0] (.bq [(cY d 0).1.av,.int .i64 (cY d 0).2]))
  (hPr:aj P G 35 [(cY d 0).1.av] (.bq [.str (dI (cY d 0).1).1,.int .i64 (dI (cY d 0).1).2])) :
  cM P G 13 [.ptr (.par 0) 2 0 0,a.av] (cx d bY) (λx cs=>x=(v_ d bY a).2.av/\cs=cx (v_ d bY a).1.1 (v_ d bY a).1.2):=by
 refine dk (cw 13 []) ajL (by simp[ai,AV.aq,de.av]) aj2 ?_;simp only[↓aX,mX,seval,jK,cx,de.av,JH];by_cases Vm:100<=bY
 ·have x6:v_ d bY a=((d,bY),⟨7,0,[]⟩):=by unfold v_;rw[agc Vm]
  simp only[↓aX,mX,seval,show decide (bY>=100)=true by simpa using Vm];simp only[aU,bD,↓aX,mX,seval,List.nil_append,agb];refine⟨hB,ah (hN 7) ?_⟩;simp only[↓aX,mX,seval,oV];exact⟨cx d bY,⟨akX,akX⟩,ajU,aj2,rfl,alb⟩
 have x6:v_ d bY a=(((fY d a).1,bY+1),(fY d a).2):=by unfold v_;rw[af8 Vm]
 have hw:IntKind.i64.wrap (bY+1)=bY+1:=wrap64 ajK ajK;simp only[↓aX,mX,seval,show decide (bY>=100)=false by simp;omega,hw];by_cases k1:a.kind=1
 ·simp only[↓aX,mX,seval,show(a.kind==1)=true by simp[k1],eD]
  match hl:a.lines with
  |[]=>
   have eJ:fY d a=(d,⟨1,0,[]⟩):=alC;simp only[↓aX,mX,seval,hl,agx,show(((0:Nat):Int) !=1)=true from rfl];simp only[aU,bD,↓aX,mX,seval,List.nil_append,agb];refine⟨hB,ah (hN 1) ?_⟩;simp only[↓aX,mX,seval,oV];exact⟨cx (fY d a).1 (bY+1),⟨alk,akX⟩,ajU,aj2,rfl,akl⟩
  |s::s2::r=>
   have eJ:fY d a=(d,⟨1,0,[]⟩):=alC;rw[show((((s::s2::r).length:Nat):Int) !=1)=true by simp[bne];omega];simp only[↓aX,mX,seval];simp only[aU,bD,↓aX,mX,seval,List.nil_append,agb];refine⟨hB,ah (hN 1) ?_⟩;simp only[↓aX,mX,seval,oV];exact⟨cx (fY d a).1 (bY+1),⟨alk,akX⟩,ajU,aj2,rfl,akl⟩
  |[s]=>
   have hPs:=hP s ame;have hMs:=hM s ame;simp only[Tree.av] at hPs hMs;have j5:dV 1 [IV.str s]:=al2;have ha1:fY d a=if(cj s).2=0 then((c_ (cj s).1).1,⟨0,(c_ (cj s).1).1.length,[]⟩) else(d,⟨(cj s).2,0,[]⟩):=alC;simp only[↓aX,mX,seval,hl,agd,agx,agh,show(((1:Nat):Int) !=1)=false from rfl,agC,ag6,agF,j5,IV.cells,show(0:Int).toNat=0 from rfl];refine ah hPs ?_;simp only[↓aX,mX,seval];cases he:((cj s).2==0) with
   |false=>
    have ql:(cj s).2≠0:=akk;have eJ:=ha1;rw[af8 ql] at eJ;simp only[↓aX,mX,seval,bne,he,af1];simp only[aU,bD,↓aX,mX,seval,List.nil_append,agb];refine⟨hB,ah (hN _) ?_⟩;simp only[↓aX,mX,seval,oV];exact⟨cx (fY d a).1 (bY+1),⟨alk,akX⟩,ajU,aj2,rfl,akl⟩
   |true=>
   have ql:(cj s).2=0:=akk;have eJ:=ha1;rw[agc ql] at eJ;simp only[↓aX,mX,seval,bne,he,af4];refine ah hMs ?_;simp only[↓aX,mX,seval,Doc.av,eD];exact⟨cx (fY d a).1 (bY+1),⟨alk,akX⟩,ajU,aj2,rfl,akl⟩
 by_cases k2:a.kind=2
 ·have eJ:fY d a=eI d a.lines:=by unfold fY;rw[af8 k1,agc k2]
  simp only[↓aX,mX,seval,show(a.kind==1)=false by simp[k1],show(a.kind==2)=true by simp[k2]];refine ba (l:= .par 0) (hC (bY+1)) aj1 alb ?_;rintro x fB ⟨rfl,rfl⟩ _ _ _;simp only[↓aX,mX,seval,pb.av];exact⟨cx (fY d a).1 (bY+1),⟨by rw[x6,eJ],akX⟩,ajU,aj2,rfl,akl⟩
 by_cases k3:a.kind=3
 ·have ha3:fY d a=if(dI (cY d 0).1).2=0 then(d,⟨0,d.length,(dI (cY d 0).1).1⟩) else(d,⟨(dI (cY d 0).1).2,0,[]⟩):=by unfold fY;rw[af8 k1,af8 k2,agc k3]
  simp only[Tree.av,Doc.av] at hT hPr;simp only[↓aX,mX,seval,show(a.kind==1)=false by simp[k1],show(a.kind==2)=false by simp[k2],show(a.kind==3)=true by simp[k3]];refine ah hT ?_;simp only[↓aX,mX,seval];refine ah hPr ?_;simp only[↓aX,mX,seval];cases he:((dI (cY d 0).1).2==0) with
  |false=>
   have ql:(dI (cY d 0).1).2≠0:=akk;have eJ:=ha3;rw[af8 ql] at eJ;simp only[↓aX,mX,seval,bne,he,af1];simp only[aU,bD,↓aX,mX,seval,List.nil_append,agb];refine⟨hB,ah (hN _) ?_⟩;simp only[↓aX,mX,seval,oV];exact⟨cx (fY d a).1 (bY+1),⟨alk,akX⟩,ajU,aj2,rfl,akl⟩
  |true=>
  have ql:(dI (cY d 0).1).2=0:=akk
  have eJ:=ha3;rw[agc ql] at eJ;simp only[↓aX,mX,seval,bne,he,af4,eD];exact⟨cx (fY d a).1 (bY+1),⟨alk,akX⟩,ajU,aj2,rfl,akl⟩
 have eJ:fY d a=(d,⟨4,0,[]⟩):=by unfold fY;rw[af8 k1,af8 k2,af8 k3]
 simp only[↓aX,mX,seval,show(a.kind==1)=false by simp[k1],show(a.kind==2)=false by simp[k2],show(a.kind==3)=false by simp[k3]];simp only[aU,bD,↓aX,mX,seval,List.nil_append,agb];refine⟨hB,ah (hN 4) ?_⟩;simp only[↓aX,mX,seval,oV];exact⟨cx (fY d a).1 (bY+1),⟨alk,akX⟩,ajU,aj2,rfl,akl⟩
end

abbrev Rl (P:Program) (G:Nat->Option (List IV)) (f:Nat) (args:List AV) (n:Nat) (cs:List IV):Prop:=
 r_ P G f args BL [] λX R2=>X=(λlab=> .ptr (lab 0) n 0 0)/\R2=wa n [.agg cs]
def CT {P:Program} {G:Nat->Option (List IV)} {f:Nat} {n:Nat} {rs:List RO} {ac:AC} {args:List AV} {m:Nat} {cs:List IV}
  (hF:dK P G f=some (n,rs,ac.bare)) (hn:args.length<=n) (ha:ai args=[])
  (hg:go ⟨P,G,n⟩ (eZ rs λx H'=>∃L,x= .ptr L m 0 0/\H' L= .live ⟨m,[cs.map IV.dw]⟩) [.code ac] (fH args) Hp.none):Rl P G f args m cs:=by
 refine⟨al4,?_⟩;rw[IH];refine(e_ hF hn alD al4 hg).mono ?_;rintro x H ⟨L,hx,hL⟩;refine⟨⟨λlab=> .ptr (lab 0) m 0 0,wa m [.agg cs],λ_=>L⟩,⟨rfl,rfl⟩,λρ=>rfl,λl hl=>⟨0,iN.2 rfl,?_⟩,hx,⟨λp r hr=> ?_,λp q hp hq _=>(iN.1 hp).trans (iN.1 hq).symm⟩,ajL⟩
 ·rw[hx] at hl;simpa[AV.aq] using hl
 exact Wd
def Nc {S:St} {f:Nat} {args:List AV} {H:Hp} {k:AV->Hp->Prop} {u:Tw k} {m:Nat} {cs:List IV} (c:Nat) (F:Lb->AV) (h:r_ S.P S.G f args BL [] λX R2=>X=(λlab=>F (lab 0))/\R2=wa m [.agg cs]) (ha:ai args=[]) (hN:∀l,H (NW c l)= .unused)
  (hk:∀l,k (F (NW c l)) (aS H (NW c l) (.live ⟨m,[cs.map IV.dw]⟩))):Hm S f args H k u:=by
 refine gZ (lab:=Lb.par) (N:=NW c) h (h_ _ _ ha).symm ⟨λp r hr=>by simp[BL] at hr,λp q hp=>absurd hp j_⟩ hN (DH c) (λl _=> .inr λp hp=>absurd hp j_) ajL ?_;rintro X R2 cm H2 ⟨rfl,rfl⟩ g1 g2 g3 g4 g5 g6;obtain⟨l,hl⟩:∃l,cm 0=NW c l:=by
  rcases g3 0 (iN.2 rfl) with⟨p,hp,_⟩|h
  ·exact absurd hp j_
  exact h
 have e:H2=aS H (NW c l) (.live ⟨m,[cs.map IV.dw]⟩):=by
  funext q;by_cases hq:q=NW c l
  ·subst hq;rw[ae,agc rfl,<-hl];exact g1.row 0 _ (by simp[wa,ak,IV.cells])
  exact Wb
 rw[e];have:=hk l;simpa only[hl] using this
def sw {S:St} {f:Nat} {args:List AV} {H:Hp} {k:AV->Hp->Prop} {u:Tw k} {m:Nat} {cs:List IV} (c:Nat) (h:Rl S.P S.G f args m cs) (ha:ai args=[]) (hN:∀l,H (NW c l)= .unused)
  (hk:∀l,k (.ptr (NW c l) m 0 0) (aS H (NW c l) (.live ⟨m,[cs.map IV.dw]⟩))):Hm S f args H k u:=
 Nc c (λl=> .ptr l m 0 0) h ha hN hk

section
variable {P:Program} {G:Nat->Option (List IV)} [KN P G]
def Ze (d:Doc) (hd:mr d<=B) (bY:Int)
  (hA:∀x∈d,aj P G 45 [.list (aQ x.attrs)] (.list (aQ x.attrs))) (hI:∀x∈d,aj P G 46 [.list (x.kids.map aC)] (.list (x.kids.map aC))) :
  cM P G 16 [.ptr (.par 0) 2 0 0] (cx d bY) (λx cs=>x=Doc.av d/\cs=cx d bY):=by
 refine Ax (cw 16 [.f 19 1 (.rw [.loc 5] []),.f 19 4 (.rw [.loc 5] []),.f 19 7 (.rw [] [.loc 5]),.f 19 9 (.rw [] [.loc 5]),.b 15 .jf,.b 34 (.uJ (.loc 1000) (.loc 3) 0)]) ajL ajO aj2 ?_;have gV:B=1073741824:=rfl;have xD:=kc d;simp only[↓aX,mX,seval,jK,cx,JH,eD];rw[ec];refine⟨_,_,jW (q:= .loc 3) (cs:=[.nil0]) (j:=0) (d:=1000) (sz:=5) rfl rfl ajX ajN,?_⟩;simp only[↓aX,mX,seval];refine fi (σ:={i:Nat // i<=d.length}) (λ_=>[.par 0,.loc 2,.loc 3,.loc 1000]) (λ_ _=>false)
  (λq=>[(0,.ptr (.par 0) 2 0 0),(2,.ptr (.loc 2) 1 0 0),(3,.ptr (.loc 3) 1 0 0),(13,.list (d.map Node.iv)),(14,.int .i64 d.length),(15,.int .i64 q.1)])
  (λq=>[(.par 0,⟨2,[cx d bY]⟩),(.loc 2,⟨1,[[.nil0]]⟩),(.loc 3,⟨1,[[.sl (.loc 1000) 5 0 q.1]]⟩),(.loc 1000,⟨5,ak ((d.take q.1).map Node.iv)⟩)])
  (λq=>d.length - q.1) ⟨0,agO _⟩ (λ_=>rfl) (λq=>by simp[ai,AV.aq]) ?_ ⟨[],?_⟩ ?_
 ·rintro q r hr cs aZ l hl;simp only[aga,agf,agI] at hr;rcases hr with rfl|rfl|rfl|rfl
  ·simp only[af'] at aZ;subst aZ;simp[ai,AV.aq,cx] at hl
  ·simp only[af'] at aZ;subst aZ;simp[ai,AV.aq] at hl
  ·simp only[af'] at aZ;subst aZ;simp[ai,AV.aq] at hl;subst hl;simp
  rw[bc aZ] at hl;simp at hl
 ·exact abj
 rintro⟨i,hi⟩;simp only;obtain⟨uo,my⟩:∃uo,uo=[(Lb.par 0,(⟨2,[cx d bY]⟩:Row)),(Lb.loc 2,⟨1,[[.nil0]]⟩),(Lb.loc 3,⟨1,[[.sl (.loc 1000) 5 0 i]]⟩),(Lb.loc 1000,⟨5,ak ((d.take i).map Node.iv)⟩)]:=⟨_,rfl⟩;rw[<-my];have hU:∀d,d≠2->d≠3->d≠1000->cU (λ_=>false) uo (.loc d)= .unused:=λd h4 h5 h6=>by rw[my,eF (by simp[h4,h5,h6])];rfl
 have Bi:∀d,d≠0->cU (λ_=>false) uo (.par d)= .unused:=λd hd=>by rw[my,eF alc];rfl
 have j8:cU (λ_=>false) uo (.par 0)= .live ⟨2,[cx d bY]⟩:=bg.2 akO;have hL2:cU (λ_=>false) uo (.loc 2)= .live ⟨1,[[.nil0]]⟩:=bg.2 akO;have yv:cU (λ_=>false) uo (.loc 3)= .live ⟨1,[[.sl (.loc 1000) 5 0 i]]⟩:=bg.2 akO;have hL9:cU (λ_=>false) uo (.loc 1000)= .live ⟨5,ak ((d.take i).map Node.iv)⟩:=bg.2 akO;generalize cU (λ_=>false) uo=H0 at *;clear my uo;by_cases aF:i<d.length
 ·obtain⟨x,hx⟩:=gE aF;have hw:=w1 i;have za:(d.take (i+1)).map Node.iv=(d.take i).map Node.iv++[x.iv]:=by rw[agz,hx];simp
  have hl5:((d.take i).map Node.iv).length=i:=by rw[eD,agA];omega
  simp only[↓aX,mX,seval,dT aF,Doc.iE hx,iY,Node.ax,Node.cs,hU 5 ajN ajN ajN];have NO:=af3 hx;refine⟨rfl,dG (hA x NO) ?_⟩;simp only[↓aX,mX,seval];refine dG (hI x NO) ?_;simp only[↓aX,mX,seval,yv];rw[bX 5 80 31 1000 ((d.take i).map Node.iv) (.agg [.bool x.text,.str x.s,.list (aQ x.attrs),.int .i64 x.parent,.list (x.kids.map aC)]) (by simp[ae,hL9]) hl5 rfl x.rJ ajK ajN ajN (by simp[ae,hU])];simp only[↓aX,mX,seval,hw,yv];refine⟨⟨i+1,aF⟩,ajM,[(.loc 1000,.loc 31)],?_,?_,?_,ajS,?_⟩
  ·intro z hf hu;left;cases z<;>simp[Lb.entry] at hf;rename_i m;by_cases e:m=0
   ·subst e;simp
   exfalso;apply hu;simp[ae,Bi m e]
  ·exact wz
  ·have hr:∀xs:List IV,aP (aD [(.loc 1000,.loc 31)]) ⟨5,ak xs⟩=⟨5,ak xs⟩:=λxs=>aK _ _ _;simp only[eL,hr,za];simp[aD,ae,aP,aA,aH,Node.iv,Node.cs,cx,j8,hL2]
  exact XD
 have je:i=d.length:=ajK
 subst je;simp only[↓aX,mX,seval,show decide ((d.length:Int)<(d.length:Int))=false by simp,agu];rw[agu] at hL9;refine⟨5,d.map Node.iv,0,d.length,[.sl (.loc 1000) 5 0 d.length],al0,al0,al0,by first|rfl|exact hL9|exact yv|simp,ajL,J_ _,?_⟩
 simp only[↓aX,mX,seval,agj,af2 (show(d.map Node.iv).length<=d.length by simp),hL2];exact⟨cx d bY,⟨rfl,rfl⟩,ajU,aj2,rfl,akt⟩
def Ja:Tree:= .mk false [100,111,99] [] []
def xf:Ja.cA=true:=ajN
def GW:Doc:=ay Ja
def Zf (hM:aj P G 30 [Ja.av] (.bq [Doc.av (c_ Ja).1,.int .i64 (c_ Ja).2])) :
  Rl P G 11 [] 2 [.list (GW.map Node.iv),.int .i64 0]:=by
 refine CT (cw 11 []) ajL rfl ?_;have e:c_ Ja=(GW,0):=by unfold c_;rw[agc xf];rfl
 rw[e] at hM;have T_:aj P G 30 [.agg [.bool false,.str [100,111,99],.list [],.list []]] (.bq [.agg [.list (GW.map Node.iv)],.int .i64 0]):=hM;have hM2:aj P G 30 [.agg [.bool false,.str [100,111,99],.nil0,.nil0]] (.bq [.agg [.list (GW.map Node.iv)],.int .i64 0]):=Md T_ ajO λw β H I vs h=>by
  simp only[bA,RV] at h ⊢;obtain⟨v,us,rfl,⟨vs,rfl,v1,u1,rfl,h1,v2,u2,rfl,h2,v3,u3,rfl,h3,v4,u4,rfl,h4,rfl⟩,rfl⟩:=h;exact⟨_,[],rfl,⟨_,rfl,v1,_,rfl,h1,v2,_,rfl,h2,v3,_,rfl,by have:=FA (w:=w) (β:=β) (H:=H) (I:=I) (v:=v3) (by simpa[RV] using h3);simpa[RV] using this,v4,_,rfl,by have:=FA (w:=w) (β:=β) (H:=H) (I:=I) (v:=v4) (by simpa[RV] using h4);simpa[RV] using this,rfl⟩,rfl⟩
 simp only[↓aX,mX,seval];refine ah hM2 ?_;simp only[↓aX,mX,seval];exact⟨.loc 10,rfl,by simp[IV.dw]⟩
end

def de.ax (a:de):a.iv.cells=a.cs:=rfl
section
variable {P:Program} {G:Nat->Option (List IV)} [KN P G]
end

def tA:Tree:= .mk false [97] [] [.mk true [120] [] []]
section
variable {P:Program} {G:Nat->Option (List IV)} [KN P G]
end

theorem AX {s:Bs} (h:(cj s).2=0):(cj s).1.cA=true:=by
 grind [cj,ot]
def La (s:Bs):(ep s).1.length<=40:=by
 grind [ep,plain]
def Ul (s:Bs):bH (eC s).1<=2^22:=by
 grind [eC,ya,bH,AR]
def Lc (s:Bs) (hs:s.length<=2^22):opB (bM s).1:=by
 have l1:=(gY 32 s).2;have l2:=(gY 32 (a6 32 s).2.1).2;have l3:=(gY 61 (a6 32 (a6 32 s).2.1).2.1).1;have h0:opB qm:=⟨by simp[qm,bH],by simp[qm],by simp[qm]⟩;unfold bM;simp only;split
 ·grind
 split
 ·grind
 split
 ·grind
 split
 ·exact⟨anx,ajM,ajL⟩
 split
 ·split
  ·split
   ·exact⟨anx,ajM,by have:=La (a6 61 (a6 32 (a6 32 s).2.1).2.1).2.1;simp only;omega⟩
   grind
  grind
 split
 ·split
  ·exact⟨anx,ajL,by have:=La (a6 32 (a6 32 s).2.1).2.1;simp only;omega⟩
  grind
 split
 ·exact⟨anx,ajL,ajL⟩
 split
 ·exact⟨Ul _,ajL,ajL⟩
 grind
def ua {d:Doc} (h:bQ d=true):mr d<=38400:=by
 obtain⟨t,ht,rfl⟩:=dm.1 h
 grind [Pq,vL]
def Ec {d:Doc} (h:bQ d=true):(cY d 0).1.wt<=19200:=by
 obtain⟨t,ht,rfl⟩:=dm.1 h;rw[show cY (ay t) 0=(t,0) from zM ht (Sub.self 0 (-1) t)];exact vL ht
end Go.Am
