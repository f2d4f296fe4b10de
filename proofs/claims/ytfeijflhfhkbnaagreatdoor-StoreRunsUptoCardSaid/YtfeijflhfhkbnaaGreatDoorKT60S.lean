import Derived.Test.YtfeijflhfhkbnaaGreatDoorKAc0S
import Derived.Test.YtfeijflhfhkbnaaGreatDoorKT9S
import Derived.Test.YtfeijflhfhkbnaaGreatDoorKAm40S
import Derived.Test.YtfeijflhfhkbnaaGreatDoorKT21S
import Derived.Test.YtfeijflhfhkbnaaGreatDoorKP2S
import Derived.Test.YtfeijflhfhkbnaaGreatDoorKAm47S
set_option linter.all false
/- Trees printed: escape, put, Print. -/
namespace Go.Am
open Go Go.RowKit
def bo (s:Bs):List IV:=s.map λc=>IV.int .u8 c.toNat
def bu (s:Bs):(bo s).length=s.length:=by simp[bo]
def Ga (s t:Bs):bo (s++t)=bo s++bo t:=by simp[bo]
def o6 (s:Bs):Flat (bo s):=by
 intro x hx z hz cs;obtain⟨c,_,rfl⟩:=agp.1 hx
 grind [IV.cells,af']
def TR (s:Bs):ak (bo s)=s.map λc=>[AV.int .u8 c.toNat]:=by
 simp[ak,bo,IV.cells,IV.dw]
def lx {H:Hp} {l:Lb} {d n:Nat} {xs:List IV} {t:Bs} (hl:H l= .live ⟨1,ak xs⟩) (hn:n=xs.length) (hb:n+t.length<=140737488355328) (hd:l≠l.app d) (hu:H (l.app d)= .unused) :
  iQ 1 1 d (.sl l 1 0 n) (.str t) H=some (.sl (l.app d) 1 0 (n+t.length),aS (aS H l .dead) (l.app d) (.live ⟨1,ak (xs++bo t)⟩)):=by
 unfold iQ;have h1:(ak xs).length=n:=ana
 have e:ak (xs++bo t)=ak xs++t.map λc=>[AV.int .u8 c.toNat]:=by rw[fR,TR]
 have ho:∀cs∈t.map (λc=>[AV.int .u8 (c.toNat:Int)]),AV.oF cs:=by
  intro cs aZ;obtain⟨c,_,rfl⟩:=agp.1 aZ;intro x hx;simp only[af'] at hx;subst hx;rfl
 simp only[kG,agn,af_];rw[af8 (by simpa using ho)];simp only[hl,agt,eD,h1,af6,ajp,hb,Nat.lt_irrefl,show 0<1 by decide,ne_eq,hd,aiH,hu,agn,e];rw[af2 (aiD h1)]
theorem oP {H:Hp} {l:Lb} {d n:Nat} {xs:List IV} {c:UInt8} (hl:H l= .live ⟨1,ak xs⟩) (hn:n=xs.length) (hb:n+1<=140737488355328) (hd:l≠l.app d) (hu:H (l.app d)= .unused) :
  iQ 1 1 d (.sl l 1 0 n) (.list [.int .u8 (c.toNat:Int)]) H=some (.sl (l.app d) 1 0 (n+1),aS (aS H l .dead) (l.app d) (.live ⟨1,ak (xs++bo [c])⟩)):=by
 rw[nX hl ana rfl (by intro z hz cs;simp[IV.cells,af'] at hz;subst hz;simp) ajK ajN hd hu,fR];rfl
def mN {H:Hp} {l:Lb} {d n:Nat} {xs:List IV} (c:UInt8) {z:Int} (hz:(c.toNat:Int)=z) (hl:H l= .live ⟨1,ak xs⟩) (hn:n=xs.length) (hb:n+1<=140737488355328) (hd:l≠l.app d) (hu:H (l.app d)= .unused) :
  iQ 1 1 d (.sl l 1 0 n) (.list [.int .u8 z]) H=some (.sl (l.app d) 1 0 (n+1),aS (aS H l .dead) (l.app d) (.live ⟨1,ak (xs++bo [c])⟩)):=by
 grind [oP]
def Gb {s:Bs} {i:Nat} (h:i<s.length):∃c,s[i]?=some c:=⟨_,af7 h⟩
def Gc {v:Bool} {s:Bs} {i:Nat} {c:UInt8} (h:s[i]?=some c):pB v (s.take (i+1))=pB v (s.take i)++wI v c:=by
 unfold pB;rw[agz,h];simp
theorem Qm (v:Bool) (c:UInt8):(wI v c).length<=6:=by
 unfold wI;split<;>(try split)<;>(try split)<;>(try split)<;>simp[Bj,Bl,nL,jU]
theorem n_ (v:Bool):∀s:Bs,(pB v s).length<=6*s.length
 |[]=>by simp[pB]
 |c::s=>by
  have:=n_ v s
  grind [Qm,pB]
section
variable {P:Program} {G:Nat->Option (List IV)} [KN P G]
def TS (xs:List IV) (s:Bs) (v:Bool) (hb:xs.length+6*s.length<=2^40) :
  qj P G 1 118 [.sl (.par 0) 1 0 xs.length,.str s,.bool v] xs (xs++bo (pB v s)):=by
 refine CA (cw 118 []) ajL ajO ?_;have hbv:(2:Nat)^40=1099511627776:=ajN
 simp only[↓aX,mX,seval,eP];refine fi (σ:={i:Nat // i<=s.length}) (λ_=>[.gen 0]) (λ_ l=>l== .par 0)
  (λq=>[(0,.sl (.gen 0) 1 0 (xs.length+(pB v (s.take q.1)).length)),(1,.str s),(2,.bool v),(10,.int .i64 s.length),(11,.int .i64 q.1)])
  (λq=>[(.gen 0,⟨1,ak (xs++bo (pB v (s.take q.1)))⟩)]) (λq=>s.length - q.1) ⟨0,agO _⟩ (λ_=>rfl) (λq=>by simp[ai,AV.aq]) ?_ ⟨[(.gen 0,.par 0)],?_⟩ ?_
 ·exact HZ
 ·refine⟨?_,?_,?_,ajS,?_⟩
  ·intro l hf hu;right;by_cases e:l= .par 0
   ·subst e;rfl
   exact LW
  ·simp[dp,aD,aH,put,pB,fH]
  ·simp[eL,aD,ae,aK,pB,bo]
  simp[Lb.fresh,Lb.entry]
 rintro⟨i,hi⟩;have hti:=n_ v (s.take i);rw[agA,ahK hi] at hti;simp only[↓aX,mX,seval,eD];by_cases aF:i<s.length
 ·rw[dT aF];obtain⟨c,hc⟩:=Gb aF;have hw:=w1 i;have hU:∀d,cU (λl=>l==Lb.par 0) [(Lb.gen 0,⟨1,ak (xs++bo (pB v (s.take i)))⟩)] (.gen (d+1))= .unused:=λd=>by
   rw[eF ajL];rfl
  have hL:cU (λl=>l==Lb.par 0) [(Lb.gen 0,⟨1,ak (xs++bo (pB v (s.take i)))⟩)] (.gen 0)= .live ⟨1,ak (xs++bo (pB v (s.take i)))⟩:=bg.2 akL;have hlen:xs.length+(pB v (s.take i)).length=(xs++bo (pB v (s.take i))).length:=by rw[age,bu]
  simp only[↓aX,mX,seval,hc,af5,af0];have fin:∀(w:Bs) (d:Nat) (env:Env),wI v c=w->env 0= .sl (.gen d) 1 0 (xs.length+(pB v (s.take i)).length+w.length)->env 1= .str s->env 2= .bool v->env 10= .int .i64 s.length->env 11= .int .i64 ((i+1:Nat):Int) ->
    ∃q:{i:Nat // i<=s.length},s.length - q.1<s.length - i/\∃m,WE [.gen 0] (λl=>l== .par 0) [(0,.sl (.gen 0) 1 0 (xs.length+(pB v (s.take q.1)).length)),(1,.str s),(2,.bool v),(10,.int .i64 s.length),(11,.int .i64 q.1)]
     [(.gen 0,⟨1,ak (xs++bo (pB v (s.take q.1)))⟩)] env (aS (aS (cU (λl=>l==Lb.par 0) [(Lb.gen 0,⟨1,ak (xs++bo (pB v (s.take i)))⟩)]) (.gen 0) .dead) (.gen d) (.live ⟨1,ak (xs++bo (pB v (s.take i))++bo w)⟩)) m:=by
   rintro w d env rfl h0 h1 h2 h3 h4;refine⟨⟨i+1,aF⟩,ajM,[(.gen 0,.gen d)],?_,?_,?_,ajS,?_⟩
   ·intro l hf hu;right;by_cases e:l= .par 0
    ·subst e;rfl
    exfalso;apply hu;cases l<;>simp[Lb.entry] at hf;rename_i n;rw[an _ _ ajL,an _ _ ajL,eF ajL];simp only[ag9,e,agk]
   ·simp only[dp,h0,h1,h2,h3,h4,aH,aD,Gc hc,age,agn];simp only[agT,agR]
   ·simp[eL,aD,ae,aK,Gc hc,Ga]
   simp[Lb.fresh,Lb.entry]
  have hbd:xs.length+(pB v (s.take i)).length+6<=140737488355328:=ajK
  have c60:((c.toNat:Int)==60)=(c==60):=by
   rw[agP];simp only[ag9];rw[<-aim];show _↔_=60;omega
  have c62:((c.toNat:Int)==62)=(c==62):=by
   rw[agP];simp only[ag9];rw[<-aim];show _↔_=62;omega
  have c38:((c.toNat:Int)==38)=(c==38):=by
   rw[agP];simp only[ag9];rw[<-aim];show _↔_=38;omega
  have c34:((c.toNat:Int)==34)=(c==34):=by
   rw[agP];simp only[ag9];rw[<-aim];show _↔_=34;omega
  rw[c60];by_cases h1:c=60
  ·rw[show(c==60)=true by simp[h1]];simp only[↓aX,mX,seval];rw[lx (xs:=xs++bo (pB v (s.take i))) hL hlen ajY aj3 (hU 24)];simp only[↓aX,mX,seval,hw];exact fin Bj 25 _ (by unfold wI;rw[agc h1]) rfl rfl rfl rfl rfl
  rw[show(c==60)=false by simp[h1]];simp only[↓aX,mX,seval,c62];by_cases h2:c=62
  ·rw[show(c==62)=true by simp[h2]];simp only[↓aX,mX,seval];rw[lx (xs:=xs++bo (pB v (s.take i))) hL hlen ajY aj3 (hU 29)];simp only[↓aX,mX,seval,hw];exact fin Bl 30 _ (by unfold wI;rw[af8 h1,agc h2]) rfl rfl rfl rfl rfl
  rw[show(c==62)=false by simp[h2]];simp only[↓aX,mX,seval,c38];by_cases h3:c=38
  ·rw[show(c==38)=true by simp[h3]];simp only[↓aX,mX,seval];rw[lx (xs:=xs++bo (pB v (s.take i))) hL hlen ajY aj3 (hU 34)];simp only[↓aX,mX,seval,hw];exact fin nL 35 _ (by unfold wI;rw[af8 h1,af8 h2,agc h3]) rfl rfl rfl rfl rfl
  rw[show(c==38)=false by simp[h3]];simp only[↓aX,mX,seval,c34];have last:∀(env:Env),¬(c=34/\v=true)->wI v c=[c]:=λ_ h4=>by unfold wI;rw[af8 h1,af8 h2,af8 h3,af8 h4]
  by_cases h4:c=34
  ·rw[show(c==34)=true by simp[h4]];simp only[↓aX,mX,seval];refine j7 (λhv=> ?_) (λhv=> ?_)
   ·simp only[↓aX,mX,seval];rw[lx (xs:=xs++bo (pB v (s.take i))) hL hlen ajY aj3 (hU 42)];simp only[↓aX,mX,seval,hw];exact fin jU 43 _ (by unfold wI;rw[af8 h1,af8 h2,af8 h3,agc ⟨h4,hv⟩]) rfl rfl rfl rfl rfl
   simp only[↓aX,mX,seval];rw[oP (xs:=xs++bo (pB v (s.take i))) hL hlen ajK aj3 (hU 19)];simp only[↓aX,mX,seval,hw];exact fin [c] 20 _ (last Env.any (by simp[hv])) rfl rfl rfl rfl rfl
  rw[show(c==34)=false by simp[h4]];simp only[↓aX,mX,seval];rw[oP (xs:=xs++bo (pB v (s.take i))) hL hlen ajK aj3 (hU 19)];simp only[↓aX,mX,seval,hw];exact fin [c] 20 _ (last Env.any (by simp[h4])) rfl rfl rfl rfl rfl
 have je:s.take i=s:=af2 ajK;rw[dF aF,je];simp only[↓aX,mX,seval,cJ];refine⟨.gen 0,by rw[age,bu],?_⟩;exact bg.2 akL
mutual
theorem Qn:∀x:Tree,x.sh.length<=7*x.wt
 | .mk t s az ks=>by
  have h1:=n_ false s;have h2:=lN az;have h3:=si ks;cases t with
  |true=>
   rw[Tree.Tt _ rfl];simp only[Tree.s,Tree.wt];omega
  |false=>
  rw[Tree.Tu _ rfl];simp only[Tree.s,Tree.attrs,Tree.kids,Tree.wt,age,agd];cases ks with
  |nil=>simp only[Dy,agd,agx];omega
  |cons k r=>simp only[Dy,age,agd,agx];omega
theorem si:∀xs:List Tree,(uk xs).length<=7*bH xs
 |[]=>by simp[uk,bH]
 |x::r=>by
  have:=Qn x;have:=si r;simp only[uk,bH,age];omega
theorem lN:∀az:List Attr,(cT az).length<=7*fm az
 |[]=>by simp[cT,fm]
 |a::r=>by
  have h1:=lN r;have h2:=n_ true a.val;simp only[cT,ah7,age,qQ,fm,Attr.wt,agd,agx] at *;omega
end
def DQ {az:List Attr} {i:Nat} {a:Attr} (h:az[i]?=some a):cT (az.take (i+1))=cT (az.take i)++qQ a:=by
 unfold cT;rw[agz,h];simp
theorem KP:∀xs ys:List Tree,uk (xs++ys)=uk xs++uk ys
 |[],ys=>by simp[uk]
 |x::r,ys=>by simp[uk,KP r ys]
def Qo {ks:List Tree} {i:Nat} {k:Tree} (h:ks[i]?=some k):uk (ks.take (i+1))=uk (ks.take i)++k.sh:=by
 grind [agz,KP,uk]
def MP (az:List Attr) (i:Nat):fm (az.take i)<=fm az:=by
 induction az generalizing i with
 |nil=>simp
 |cons a r ih=>
 cases i with
 |zero=>simp[fm]
 |succ i=>grind [fm]
def MQ (ks:List Tree) (i:Nat):bH (ks.take i)<=bH ks:=by
 induction ks generalizing i with
 |nil=>simp
 |cons a r ih=>
 cases i with
 |zero=>simp[bH]
 |succ i=>grind [bH]
def Qp {az:List Attr} {i:Nat} {a:Attr} (h:az[i]?=some a):fm (az.take i)+a.wt<=fm az:=by
 induction az generalizing i with
 |nil=>grind
 |cons b r ih=>
 cases i with
 |zero=>grind [fm]
 |succ i=>grind [fm]
def Qq {ks:List Tree} {i:Nat} {k:Tree} (h:ks[i]?=some k):bH (ks.take i)+k.wt<=bH ks:=by
 induction ks generalizing i with
 |nil=>grind
 |cons b r ih=>
 cases i with
 |zero=>grind [bH]
 |succ i=>grind [bH]
def CE {x:Tree} {env:Env} {H:Hp} {d:Nat} {ys:List IV} {ps:List (Nat×AV)} (h1:H (.gen d)= .live ⟨1,ak ys⟩) (h2:H (.loc 3)= .live ⟨4,[x.cs.map IV.dw]⟩) (Z8:∀n,n≠0->H (.par n)= .unused) (he:dp (aD [(.gen 0,.gen d)]) env ps) :
  WE [.gen 0,.loc 3] (λl=>l== .par 0) ps [(.gen 0,⟨1,ak ys⟩),(.loc 3,⟨4,[x.cs.map IV.dw]⟩)] env H [(.gen 0,.gen d)]:=by
 refine⟨?_,he,?_,ajS,?_⟩
 ·intro l hf hu;right;cases l<;>simp[Lb.entry] at hf
  grind
 ·refine⟨by simp[aD,aK,h1],?_,trivial⟩
  grind [aP,aD,IV.dw,lG]
 grind [Lb.fresh,Lb.entry,aD]
def YB (hE:∀(xs:List IV) (s:Bs) (v:Bool),xs.length+6*s.length<=2^40->qj P G 1 118 [.sl (.par 0) 1 0 xs.length,.str s,.bool v] xs (xs++bo (pB v s))) :
  ∀(n:Nat) (x:Tree) (xs:List IV),x.wt<=n->xs.length+7*x.wt<=2^40->qj P G 1 74 [.sl (.par 0) 1 0 xs.length,x.av] xs (xs++bo x.sh):=by
 intro n;induction n with
 |zero=>intro x xs hn;have:=x.dL;omega
 |succ n ih=>
 intro x xs hn hb;refine CA (cw 74 [.f 15 4 (.rw [.loc 3] []),.f 28 4 (.rw [.loc 6] []),.f 34 3 (.rw [.loc 6] []),.f 62 3 (.rw [.loc 3] []),.f 17 2 (.rw [] [(.par 0),(.gen 17)]),.f 20 5 (.rw [] [(.gen 17),(.gen 20)]),.f 30 2 (.rw [] [(.gen 0),(.gen 30)]),.f 33 5 (.rw [] [(.gen 30),(.gen 33)]),.f 35 1 (.rw [] [(.gen 33),(.gen 35)]),.f 38 4 (.v7 []),.f 40 6 (.rw [] [(.gen 35),(.gen 38),(.gen 40)]),.f 63 1 (.rw [] [(.gen 0),(.gen 63)]),.f 66 4 (.rw [] [(.gen 63),(.gen 66)]),.f 68 6 (.rw [] [(.gen 66),(.gen 68)])]) ajL akb ?_;have hbv:(2:Nat)^40=1099511627776:=ajN
 have Kh:=x.dL;have PJ:=fS x.attrs;have xx:=bO x.kids;simp only[↓aX,mX,seval,eP,Tree.av,agC,ag6];refine j7 (λht=> ?_) (λht=> ?_)
 ·simp only[↓aX,mX,seval];have h1:=n_ false x.s;have hw:=x.dL;refine rZ (l:= .par 0) (N:= .gen 14) (hE xs x.s false ajK) aj1 ajR ajX ak7 ?_ ?_
  ·simp only[↓aX,mX,seval,cJ,x.Tt ht];exact⟨.gen 14,rfl,ajR⟩
  simp only[↓aX,mX,seval,cJ,x.Tt ht];exact⟨.par 0,rfl,ajR⟩
 simp only[↓aX,mX,seval];have Mv:x.sh=60::x.s++cT x.attrs++Dy x.s x.kids:=x.Tu ht;refine⟨aj7,?_⟩;rw[mN (z:=60) 60 rfl (xs:=xs) ajR rfl ajK aj3 amZ];simp only[↓aX,mX,seval,Lb.app,Lb.fresh];rw[lx (xs:=xs++bo [60]) ajR (by simp[bu]) ajK aj3 amZ];simp only[↓aX,mX,seval,Lb.app,Lb.fresh];have afM:∀(a b:Lb) (F:List Lb),a.ix∈F->b.ix∈F->∀l:Lb,l=a\/l=b->l.ix∈F:=by rintro a b F h1 h2 l (rfl|rfl);exact h1;exact h2
 obtain⟨y1,zp⟩:∃y1:Nat->Bs,y1=λj=>60::x.s++cT (x.attrs.take j):=⟨_,rfl⟩;have hyl:∀j,(y1 j).length<=1+x.s.length+7*fm x.attrs:=λj=>by
  have:=lN (x.attrs.take j);have:=MP x.attrs j;rw[zp];simp only[age,agd];omega
 have aZ:x.cs.map IV.dw=[.bool x.text,.str x.s,.list (aQ x.attrs),.list (aM x.kids)]:=rfl;refine⟨aj',aj',?_⟩;refine fi (σ:={j:Nat // j<=x.attrs.length}) (λ_=>[.gen 0,.loc 3]) (λ_ l=>l== .par 0)
  (λq=>[(0,.sl (.gen 0) 1 0 (xs++bo (y1 q.1)).length),(3,.ptr (.loc 3) 4 0 0),(22,.list (aQ x.attrs)),(23,.int .i64 x.attrs.length),(24,.int .i64 q.1)])
  (λq=>[(.gen 0,⟨1,ak (xs++bo (y1 q.1))⟩),(.loc 3,⟨4,[x.cs.map IV.dw]⟩)]) (λq=>x.attrs.length - q.1) ⟨0,agO _⟩ (λ_=>rfl) (λq=>by simp[ai,AV.aq]) ?_ ⟨[(.gen 0,.gen 20)],?_⟩ ?_
 ·exact aa_
 ·refine CE (x:=x) ?_ ?_ ?_ ?_
  ·simp[ae,zp,cT,bo]
  ·simp[ae,aZ]
  ·intro n hn;simp[ae,Hp.none,hn]
  simp[dp,aD,aH,put,zp,cT,bu,aE,agT,ajf]
 rintro⟨j,hj⟩;have Kg:=hyl j;have hU6:cU (λl=>l==Lb.par 0) [(Lb.gen 0,⟨1,ak (xs++bo (y1 j))⟩),(Lb.loc 3,⟨4,[x.cs.map IV.dw]⟩)] (.loc 6)= .unused:=by rw[eF ajL];rfl
 have KQ:∀d,cU (λl=>l==Lb.par 0) [(Lb.gen 0,⟨1,ak (xs++bo (y1 j))⟩),(Lb.loc 3,⟨4,[x.cs.map IV.dw]⟩)] (.gen (d+1))= .unused:=λd=>by rw[eF ajL];rfl
 have Bi:∀d,d≠0->cU (λl=>l==Lb.par 0) [(Lb.gen 0,⟨1,ak (xs++bo (y1 j))⟩),(Lb.loc 3,⟨4,[x.cs.map IV.dw]⟩)] (.par d)= .unused:=λd hd=>by rw[eF ajL];simp[hd]
 have j8:cU (λl=>l==Lb.par 0) [(Lb.gen 0,⟨1,ak (xs++bo (y1 j))⟩),(Lb.loc 3,⟨4,[x.cs.map IV.dw]⟩)] (.gen 0)= .live ⟨1,ak (xs++bo (y1 j))⟩:=bg.2 akL;have yv:cU (λl=>l==Lb.par 0) [(Lb.gen 0,⟨1,ak (xs++bo (y1 j))⟩),(Lb.loc 3,⟨4,[x.cs.map IV.dw]⟩)] (.loc 3)= .live ⟨4,[x.cs.map IV.dw]⟩:=bg.2 akL;simp only;generalize cU (λl=>l==Lb.par 0) [(Lb.gen 0,⟨1,ak (xs++bo (y1 j))⟩),(Lb.loc 3,⟨4,[x.cs.map IV.dw]⟩)]=H0 at *;simp only[↓aX,mX,seval,eD];by_cases aF:j<x.attrs.length
 ·rw[dT aF];obtain⟨a,ha⟩:∃a,x.attrs[j]?=some a:=⟨_,af7 aF⟩;have hw:=w1 j;have P6:=Qp ha;have xz:=lN (x.attrs.take j);have afN:(y1 j).length=1+x.s.length+(cT (x.attrs.take j)).length:=by rw[zp];simp;omega
  simp only[Attr.wt] at P6;simp only[↓aX,mX,seval,ln,ha,kx,Attr.ax,Attr.cs,af9];refine⟨hU6,aj7,?_⟩;rw[mN (z:=32) 32 rfl (xs:=xs++bo (y1 j)) akt rfl aks aj3 aku];simp only[↓aX,mX,seval,Lb.app,Lb.fresh];rw[lx (xs:=xs++bo (y1 j)++bo [32]) ajR ani aks aj3 aku];simp only[↓aX,mX,seval,Lb.app,Lb.fresh];refine⟨aj',aj',rfl,?_⟩;rw[lx (xs:=xs++bo (y1 j)++bo [32]++bo a.name) (t:=[61,34]) ajR ani aks aj3 aku];simp only[↓aX,mX,seval,Lb.app,Lb.fresh];refine⟨aj',?_⟩;have eW:y1 (j+1)=y1 j++([32]++a.name++[61,34]++pB true a.val++[34]):=by rw[zp];simp only[DQ ha,qQ];simp
  have hev:=n_ true a.val;refine vB (l:= .gen 35) (N:= .gen 38) (hE (xs++bo (y1 j)++bo [32]++bo a.name++bo [61,34]) a.val true aks) (by simp[aA,aH,iP,bu,agT]) ajR (by simp[ae,KQ]) ak7 ajL ajL ?_ ?_
  ·simp only[↓aX,mX,seval,Lb.app,Lb.fresh];rw[mN (z:=34) 34 rfl (xs:=xs++bo (y1 j)++bo [32]++bo a.name++bo [61,34]++bo (pB true a.val)) ajR rfl aks aj3 aku];simp only[↓aX,mX,seval,Lb.app,Lb.fresh,hw];refine⟨by rintro l (rfl|rfl);exact .inr (.inl rfl);exact .inr (.inr rfl),⟨j+1,aF⟩,ajM,[(.gen 0,.gen 40)],?_⟩;refine CE (x:=x) ?_ ?_ ?_ ?_
   ·simp[ae,eW,bo]
   ·simp[ae,yv]
   ·intro n hn;simp[ae,Bi n hn]
   simp[dp,aD,aH,put,eW,bu];omega
  simp only[↓aX,mX,seval,Lb.app,Lb.fresh];rw[mN (z:=34) 34 rfl (xs:=xs++bo (y1 j)++bo [32]++bo a.name++bo [61,34]++bo (pB true a.val)) ajR rfl aks aj3 aku];simp only[↓aX,mX,seval,Lb.app,Lb.fresh,hw];refine⟨by rintro l (rfl|rfl);exact .inl rfl;exact .inr (.inr rfl),⟨j+1,aF⟩,ajM,[(.gen 0,.gen 40)],?_⟩;refine CE (x:=x) ?_ ?_ ?_ ?_
  ·simp[ae,eW,bo]
  ·simp[ae,yv]
  ·intro n hn;simp[ae,Bi n hn]
  simp[dp,aD,aH,put,eW,bu];omega
 have je:x.attrs.take j=x.attrs:=af2 ajK;rw[dF aF];have hy0:y1 j=60::x.s++cT x.attrs:=by rw[zp];simp only[je]
 simp only[↓aX,mX,seval,yv,aZ,ar];have Hn:(uk x.kids).length<=7*bH x.kids:=si _;have aen:(y1 j).length=1+x.s.length+(cT x.attrs).length:=by rw[hy0];simp;omega
 have afO:=lN x.attrs;by_cases pe:x.kids=[]
 ·rw[show(((x.kids.length:Nat):Int)==0)=true by simp[pe]];simp only[↓aX,mX,seval];rw[lx (xs:=xs++bo (y1 j)) (t:=[47,62]) j8 rfl aks aj3 amk];simp only[↓aX,mX,seval,Lb.app,Lb.fresh,cJ];refine⟨.gen 47,?_,?_⟩
  ·simp[Mv,pe,Dy,hy0,bu];omega
  simp[ae,Mv,pe,Dy,hy0,bo]
 have afP:x.kids.length≠0:=λe=>pe (agL.1 e);rw[show(((x.kids.length:Nat):Int)==0)=false by simp;exact pe];simp only[↓aX,mX,seval];rw[mN (z:=62) 62 rfl (xs:=xs++bo (y1 j)) j8 rfl aks aj3 amk];simp only[↓aX,mX,seval,Lb.app,Lb.fresh,yv,aZ,ar];obtain⟨y2,BH⟩:∃y2:Nat->Bs,y2=λk=>y1 j++[62]++uk (x.kids.take k):=⟨_,rfl⟩;have aeo:∀k,(y2 k).length=2+x.s.length+(cT x.attrs).length+(uk (x.kids.take k)).length:=λk=>by
  rw[BH];simp only[age,agd,agx,aen];omega
 refine fi (σ:={k:Nat // k<=x.kids.length}) (λ_=>[.gen 0,.loc 3]) (λ_ l=>l== .par 0)
  (λq=>[(0,.sl (.gen 0) 1 0 (xs++bo (y2 q.1)).length),(3,.ptr (.loc 3) 4 0 0),(52,.list (aM x.kids)),(53,.int .i64 x.kids.length),(54,.int .i64 q.1)])
  (λq=>[(.gen 0,⟨1,ak (xs++bo (y2 q.1))⟩),(.loc 3,⟨4,[x.cs.map IV.dw]⟩)]) (λq=>x.kids.length - q.1) ⟨0,agO _⟩ (λ_=>rfl) (λq=>by simp[ai,AV.aq]) ?_ ⟨[(.gen 0,.gen 50)],?_⟩ ?_
 ·exact aa_
 ·refine CE (x:=x) ?_ ?_ ?_ ?_
  ·simp[ae,BH,uk,bo]
  ·simp[ae,yv]
  ·intro n hn;simp[ae,Bi n hn]
  simp[dp,aD,aH,put,BH,uk,bu,ar];omega
 clear hU6 KQ Bi j8 yv;rintro⟨k,hk⟩;have Bx:=aeo k;have TG:=si (x.kids.take k);have afQ:=MQ x.kids k;have hU8:cU (λl=>l==Lb.par 0) [(Lb.gen 0,⟨1,ak (xs++bo (y2 k))⟩),(Lb.loc 3,⟨4,[x.cs.map IV.dw]⟩)] (.loc 8)= .unused:=by rw[eF ajL];rfl
 have KQ:∀d,cU (λl=>l==Lb.par 0) [(Lb.gen 0,⟨1,ak (xs++bo (y2 k))⟩),(Lb.loc 3,⟨4,[x.cs.map IV.dw]⟩)] (.gen (d+1))= .unused:=λd=>by rw[eF ajL];rfl
 have Bi:∀d,d≠0->cU (λl=>l==Lb.par 0) [(Lb.gen 0,⟨1,ak (xs++bo (y2 k))⟩),(Lb.loc 3,⟨4,[x.cs.map IV.dw]⟩)] (.par d)= .unused:=λd hd=>by rw[eF ajL];simp[hd]
 have j8:cU (λl=>l==Lb.par 0) [(Lb.gen 0,⟨1,ak (xs++bo (y2 k))⟩),(Lb.loc 3,⟨4,[x.cs.map IV.dw]⟩)] (.gen 0)= .live ⟨1,ak (xs++bo (y2 k))⟩:=bg.2 akL;have yv:cU (λl=>l==Lb.par 0) [(Lb.gen 0,⟨1,ak (xs++bo (y2 k))⟩),(Lb.loc 3,⟨4,[x.cs.map IV.dw]⟩)] (.loc 3)= .live ⟨4,[x.cs.map IV.dw]⟩:=bg.2 akL;simp only;generalize cU (λl=>l==Lb.par 0) [(Lb.gen 0,⟨1,ak (xs++bo (y2 k))⟩),(Lb.loc 3,⟨4,[x.cs.map IV.dw]⟩)]=H1 at *;simp only[↓aX,mX,seval,eD];by_cases iw:k<x.kids.length
 ·rw[dT iw];obtain⟨t,TT⟩:∃t,x.kids[k]?=some t:=⟨_,af7 iw⟩;have hw:=w1 k;have acf:=Qq TT;have eW:y2 (k+1)=y2 k++t.sh:=by rw[BH];simp only[Qo TT];simp
  simp only[↓aX,mX,seval,dc,TT,fa,Tree.ax,Tree.cs,af9];refine⟨hU8,?_⟩;refine rZ (l:= .gen 0) (N:= .gen 60) (ih t (xs++bo (y2 k)) ajK aks) (by simp[aA,aH,iP,Tree.av]) akt (by simp[ae,KQ]) ak7 ?_ ?_
  ·simp only[↓aX,mX,seval,hw];refine⟨⟨k+1,iw⟩,ajM,[(.gen 0,.gen 60)],?_⟩;refine CE (x:=x) ?_ ?_ ?_ ?_
   ·simp[ae,eW,bo]
   ·simp[ae,yv]
   ·intro n hn;simp[ae,Bi n hn]
   simp[dp,aD,aH,put,eW,bu]
  simp only[↓aX,mX,seval,hw];refine⟨⟨k+1,iw⟩,ajM,[(.gen 0,.gen 0)],?_⟩;refine CE (x:=x) ?_ ?_ ?_ ?_
  ·simp[ae,eW,bo]
  ·simp[ae,yv]
  ·intro n hn;simp[ae,Bi n hn]
  simp[dp,aD,aH,put,eW,bu]
 have hkk:x.kids.take k=x.kids:=af2 ajK;rw[dF iw];rw[hkk] at Bx;simp only[↓aX,mX,seval,yv,aZ];refine⟨aj7,?_⟩;rw[lx (xs:=xs++bo (y2 k)) (t:=[60,47]) j8 rfl aks aj3 amk];simp only[↓aX,mX,seval,Lb.app,Lb.fresh,yv,aZ];rw[lx (xs:=xs++bo (y2 k)++bo [60,47]) ajR ani aks aj3 aku];simp only[↓aX,mX,seval,Lb.app,Lb.fresh];rw[mN (z:=62) 62 rfl (xs:=xs++bo (y2 k)++bo [60,47]++bo x.s) ajR ani aks aj3 aku];simp only[↓aX,mX,seval,Lb.app,Lb.fresh,cJ];have Ie:x.sh=y2 k++[60,47]++x.s++[62]:=by rw[Mv,Kq _ pe,BH];simp only[hkk,hy0];simp
 refine⟨aj',aj',aj',.gen 68,?_,?_⟩
 ·simp[Ie,bu];omega
 simp[ae,Ie,bo]

set_option maxRecDepth 100000 in
def Qr (s t:Bs) (hs:s.length<=B) (ht:2<=t.length)
  (hM:aj P G 140 [.str t] (.bq [.agg (fZ (eS t)),.bool true]))
  (hL:cM P G 175 [.str s,.ptr (.par 0) 256 0 0] (fZ (eS t)) λx cs=>x= .str (eM (eS t) s)/\cs=fZ (eS t)) :
  aj P G 145 [.str s,.str t] (.str (eM (eS t) s)):=by
 refine au (cw 145 []) ajL ajO ajP ?_;simp only[↓aX,mX,reduceCtorEq,Int.reduceLT,Nat.reduceEqDiff,Int.reduceLE,Nat.reduceLT,Nat.reduceLeDiff,Nat.reduceAdd,Nat.reduceMul,Int.reduceToNat];have e1:(t==[])=false:=ane
 have e2:(((t.length:Nat):Int)==1)=false:=alO
 cases R0:(s==[]) with
 |true=>
  have:s=[]:=anV
  subst this;simp only[↓aX,mX,seval];rfl
 |false=>
 simp only[↓aX,mX,reduceCtorEq,Int.reduceLT,Nat.reduceEqDiff,Int.reduceLE,Nat.reduceLT,Nat.reduceLeDiff,Nat.reduceAdd,Nat.reduceMul,Int.reduceToNat,e1,e2];refine ah hM ?_;simp only[↓aX,mX,reduceCtorEq,Int.reduceLT,Nat.reduceEqDiff,Int.reduceLE,Nat.reduceLT,Nat.reduceLeDiff,Nat.reduceAdd,Nat.reduceMul,Int.reduceToNat,List.length_replicate,yR,bh,rQ,rR,vk,List.append_nil];refine ba (l:= .loc 5) hL rfl akT ?_;rintro x1 fB ⟨rfl,rfl⟩ _ _ _;simp only[↓aX,mX,reduceCtorEq,Int.reduceLT,Nat.reduceEqDiff,Int.reduceLE,Nat.reduceLT,Nat.reduceLeDiff,Nat.reduceAdd,Nat.reduceMul,Int.reduceToNat,bh,List.length_replicate]
def TU (c:UInt8):eS [32,10] c.toNat=isSp c:=by
 have:∀n:Fin 256,eS [32,10] (UInt8.ofNat n.val).toNat=isSp (UInt8.ofNat n.val):=aj7
 have h:=this ⟨c.toNat,c.toNat_lt⟩;simpa using h
def yW (s:Bs):eM (eS [32,10]) s=s.dropWhile isSp:=by
 unfold eM;congr 1;funext c;exact TU c
abbrev dz (s:Bs) (b:Bool):List AV:=[.str s,.bool b]
def eB (p s:Bs):Bs:=if p.isPrefixOf s then s.drop p.length else s
def np (p s:Bs):(eB p s).length<=s.length:=by unfold eB;split<;>simp
def aep (hC:∀s t:Bs,aj P G 48 [.str s,.str t] (.bq [.str (if t.isPrefixOf s then s.drop t.length else s),.bool (t.isPrefixOf s)])) (s p:Bs) (b:Bool) :
  cM P G 90 [.ptr (.par 0) 2 0 0,.str p] (dz s b) λx cs=>x= .bool (p.isPrefixOf s)/\cs=dz (eB p s) b:=by
 refine dk (cw 90 []) ajL ajO ajO ?_;simp only[↓aX,mX,seval,jK];refine ah (hC s p) ?_;cases h:p.isPrefixOf s with
 |true=>
  simp only[↓aX,mX,seval,cJ];exact⟨dz (eB p s) b,by simp[ae,eB,h,ai,AV.aq]⟩
 |false=>
 simp only[↓aX,mX,seval,cJ];exact⟨dz (eB p s) b,by simp[ae,eB,h,ai,AV.aq]⟩
def YC (s p:Bs) (b:Bool)
  (hA:cM P G 90 [.ptr (.par 0) 2 0 0,.str p] (dz s b) λx cs=>x= .bool (p.isPrefixOf s)/\cs=dz (eB p s) b) :
  cM P G 107 [.ptr (.par 0) 2 0 0,.str p] (dz s b) λx cs=>cs=dz (eB p s) (b|| !p.isPrefixOf s):=by
 refine dk (cw 107 []) ajL ajO ajO ?_;simp only[↓aX,mX,seval,jK];refine ba (l:= .par 0) hA aj1 ajR ?_;rintro x1 fB ⟨rfl,rfl⟩ _ _ _;cases h:p.isPrefixOf s with
 |true=>
  simp only[↓aX,mX,seval,af4,fF,eY,fw];exact⟨_,rfl,dz (eB p s) (b|| !p.isPrefixOf s),by simp[ae,h,ai,AV.aq]⟩
 |false=>
 simp only[↓aX,mX,seval,af1,fF,eY,fw];exact⟨_,rfl,dz (eB p s) (b|| !p.isPrefixOf s),by simp[ae,h,ai,AV.aq]⟩
def TV (s:Bs) (b:Bool) (hT:aj P G 145 [.str s,.str [32,10]] (.str (s.dropWhile isSp))) :
  cM P G 110 [.ptr (.par 0) 2 0 0] (dz s b) λx cs=>x= .bool (decide ((s.dropWhile isSp).length<s.length))/\cs=dz (s.dropWhile isSp) b:=by
 refine dk (cw 110 []) ajL ajO ajO ?_;simp only[↓aX,mX,seval,jK];refine ah hT ?_;simp only[↓aX,mX,seval,cJ];exact⟨dz (s.dropWhile isSp) b,by simp[ae,ai,AV.aq]⟩
def Qs {p:UInt8->Bool}:∀{s:Bs} {i:Nat} {c:UInt8},s[i]?=some c->(∀x∈s.take i,p x=true)->(p c=true->∀x∈s.take (i+1),p x=true)/\(p c=false->s.takeWhile p=s.take i/\s.dropWhile p=s.drop i):=by
 intro s i c h hi;refine⟨λhc x hx=> ?_,λhc=> ?_⟩
 ·rw[agz,h] at hx;simp only[ahR,agi,af'] at hx;rcases hx with hx|rfl
  ·exact hi x hx
  exact hc
 have hl:=(afY.1 h).1;have e:s=s.take i++s.drop i:=(agD i s).symm;have hd:s.drop i=c::s.drop (i+1):=by
  rw[ag1 hl];congr 1;exact(afY.1 h).2
 have h2:(s.take i++s.drop i).takeWhile p=s.take i/\(s.take i++s.drop i).dropWhile p=s.drop i:=
  mI (s.take i) (s.drop i) hi (λc' q hq=>by rw[hd] at hq;cases hq;exact hc)
 rw[agD] at h2;exact h2
def MR {p:UInt8->Bool} {s:Bs} (h:∀x∈s,p x=true):s.takeWhile p=s/\s.dropWhile p=[]:=by
 have:=mI (p:=p) s [] h ajL;simpa using this
def Qt (c:UInt8):aY c=(decide ((c.toNat:Int)>=97)&&decide ((c.toNat:Int)<=122)):=by
 unfold aY;congr 1
 ·rw[aiy,aiw];show 97<=_↔_;omega
 rw[aiy,aiw];show _<=122↔_;omega
def YD (s:Bs) (hs:s.length<=B) (b:Bool) :
  cM P G 108 [.ptr (.par 0) 2 0 0] (dz s b) λx cs=>x= .str (s.takeWhile aY)/\cs=dz (s.dropWhile aY) (b||(decide (s.takeWhile aY=[])||decide (8<(s.takeWhile aY).length))):=by
 refine dk (cw 108 []) ajL ajO ajO ?_;have gV:B=1073741824:=rfl;simp only[↓aX,mX,seval,jK];refine b_ (σ:={i:Nat // i<=s.length/\∀c∈s.take i,aY c=true}) [.par 0] (λq=>[(0,.ptr (.par 0) 2 0 0),(3,.int .i64 q.1)]) (λ_=>[(.par 0,⟨2,[dz s b]⟩)]) (λq=>s.length - q.1) ⟨0,ajL⟩ (λ_=>rfl) ajN ajO ajO ?_ ?_
 ·exact abv
 rintro⟨i,hi,bV⟩;simp only[↓aX,mX,seval,aR,aI];have fin:s.takeWhile aY=s.take i->(((i:Nat):Int)==0)=decide (s.takeWhile aY=[])/\decide (((i:Nat):Int)>8)=decide (8<(s.takeWhile aY).length):=by
  intro h1;rw[h1];constructor
  ·rw[agP,ag9,agv,<-agL,agA];omega
  rw[aiy,agA];omega
 by_cases aF:i<s.length
 ·rw[dT aF];obtain⟨c,hc⟩:=Gb aF;have hw:=w1 i;have fG:=Qs hc bV;rw[Qt] at fG;simp only[↓aX,mX,seval,hc,af5,af0];have next:(decide ((c.toNat:Int)>=97)&&decide ((c.toNat:Int)<=122))=true->∃q:{i:Nat // i<=s.length/\∀c∈s.take i,aY c=true},q.1=i+1:=λh=>⟨⟨i+1,aF,fG.1 h⟩,rfl⟩
  have stop:(decide ((c.toNat:Int)>=97)&&decide ((c.toNat:Int)<=122))=false->s.takeWhile aY=s.take i/\s.dropWhile aY=s.drop i:=fG.2;cases h1:decide ((c.toNat:Int)>=97) with
  |false=>
   obtain⟨e1,e2⟩:=stop anN;simp only[↓aX,mX,seval,iz,af5,af0,agt,hi,agn,af_,af9,ait,agj,agO,agu,af6];obtain⟨f1,f2⟩:=fin e1;cases b with
   |true=>
    simp only[↓aX,mX,seval,cJ];exact⟨dz (s.dropWhile aY) true,amq⟩
   |false=>
   simp only[↓aX,mX,seval,f1];cases h3:decide (s.takeWhile aY=[]) with
   |true=>
    simp only[↓aX,mX,seval,cJ];refine⟨dz (s.dropWhile aY) true,?_⟩;rw[<-e1,<-e2];simp[ae,ai,AV.aq,h3]
   |false=>
   simp only[↓aX,mX,seval,f2,cJ];refine⟨dz (s.dropWhile aY) (decide (8<(s.takeWhile aY).length)),?_⟩;rw[<-e1,<-e2];simp[ae,ai,AV.aq,h3]
  |true=>
  simp only[↓aX,mX,seval,hc,af5,af0];cases h2:decide ((c.toNat:Int)<=122) with
  |false=>
   obtain⟨e1,e2⟩:=stop am4;simp only[↓aX,mX,seval,iz,af5,af0,agt,hi,agn,af_,af9,ait,agj,agO,agu,af6];obtain⟨f1,f2⟩:=fin e1;cases b with
   |true=>
    simp only[↓aX,mX,seval,cJ];exact⟨dz (s.dropWhile aY) true,amq⟩
   |false=>
   simp only[↓aX,mX,seval,f1];cases h3:decide (s.takeWhile aY=[]) with
   |true=>
    simp only[↓aX,mX,seval,cJ];refine⟨dz (s.dropWhile aY) true,?_⟩;rw[<-e1,<-e2];simp[ae,ai,AV.aq,h3]
   |false=>
   simp only[↓aX,mX,seval,f2,cJ];refine⟨dz (s.dropWhile aY) (decide (8<(s.takeWhile aY).length)),?_⟩;rw[<-e1,<-e2];simp[ae,ai,AV.aq,h3]
  |true=>
  simp only[↓aX,mX,seval,hw];refine⟨⟨i+1,aF,fG.1 am4⟩,ajM,eu ?_ ajT ajT⟩;intro l hl hu;by_cases e:l= .par 0
  ·subst e;simp
  exact LW
 have je:s.take i=s:=af2 ajK;have xD:s.drop i=[]:=ahN ajK;rw[dF aF];rw[je] at bV;obtain⟨e1,e2⟩:s.takeWhile aY=s.take i/\s.dropWhile aY=s.drop i:=by rw[je,xD];exact MR bV
 simp only[↓aX,mX,seval,iz,af5,af0,agt,hi,agn,af_,af9,ait,agj,agO,agu,af6];obtain⟨f1,f2⟩:=fin e1;cases b with
 |true=>
  simp only[↓aX,mX,seval,cJ];exact⟨dz (s.dropWhile aY) true,amq⟩
 |false=>
 simp only[↓aX,mX,seval,f1];cases h3:decide (s.takeWhile aY=[]) with
 |true=>
  simp only[↓aX,mX,seval,cJ];refine⟨dz (s.dropWhile aY) true,?_⟩;rw[<-e1,<-e2];simp[ae,ai,AV.aq,h3]
 |false=>
 simp only[↓aX,mX,seval,f2,cJ];refine⟨dz (s.dropWhile aY) (decide (8<(s.takeWhile aY).length)),?_⟩;rw[<-e1,<-e2];simp[ae,ai,AV.aq,h3]
end

section
variable {P:Program} {G:Nat->Option (List IV)} [KN P G]
def px:List Bs:=[Bj,Bl,nL,jU]
def wx (s:Bs):List Bs->Nat->Option (Nat×Bs)
 |[],_=>none
 |p::r,i=>if p.isPrefixOf s then some (i,s.drop p.length) else wx s r (i+1)
theorem wW {s:Bs}:∀{l:List Bs} {n i:Nat},(∀p∈l.take n,p.isPrefixOf s=false)->n<=l.length->wx s l i=wx s (l.drop n) (i+n)
 |l,0,i,_,_=>by simp
 |[],n+1,i,_,h=>by simp at h
 |p::r,n+1,i,hp,h=>by
  have h1:p.isPrefixOf s=false:=hp p ajL;have:=wW (s:=s) (l:=r) (n:=n) (i:=i+1) (λq hq=>hp q anv) aj6;simp only[wx,h1,agl,agk,ag_,this,agT,ajf 1 n]
theorem TW (hB:dE P 90=true)
  (hA:∀(s p:Bs) (b:Bool),cM P G 90 [.ptr (.par 0) 2 0 0,.str p] (dz s b) λx cs=>x= .bool (p.isPrefixOf s)/\cs=dz (eB p s) b) (s:Bs) (b:Bool) :
  cM P G 89 [.list (px.map IV.str),.fn 90 [.ptr (.par 0) 2 0 0] []] (dz s b) λx cs=>
   match wx s px 0 with
   |some (i,r)=>x= .int .i64 (i:Nat)/\cs=dz r b
   |none=>x= .int .i64 (-1)/\cs=dz s b:=by
 refine dk (cw 89 []) ajL ajO ajO ?_;simp only[↓aX,mX,seval,jK];refine b_ (σ:={i:Nat // i<=4/\∀p∈px.take i,p.isPrefixOf s=false}) [.par 0] (λq=>[(0,.list (px.map IV.str)),(1,.fn 90 [.ptr (.par 0) 2 0 0] []),(7,.int .i64 4),(8,.int .i64 q.1)]) (λ_=>[(.par 0,⟨2,[dz s b]⟩)]) (λq=>4 - q.1) ⟨0,ajL⟩ (λ_=>rfl) ajN ajO ajO ?_ ?_
 ·exact abv
 rintro⟨i,hi,bV⟩;simp only[↓aX,mX,seval,aR,aI];have hes:dV 1 (px.map IV.str):=by
  intro x hx;obtain⟨c,_,rfl⟩:=agp.1 hx;rfl
 by_cases aF:i<4
 ·rw[show decide (((i:Nat):Int)<(4:Int))=true by simp;omega];obtain⟨p,hp⟩:∃p,px[i]?=some p:=⟨_,af7 aF⟩;have hw:=w1 i;have hpe:(px.map IV.str)[i]?=some (.str p):=by rw[ago,hp];rfl
  have hek:wx s px 0=wx s (p::px.drop (i+1)) i:=by
   rw[wW bV (by simp[px];omega),agh];congr 1;rw[ag1 (by simpa[px] using aF)];congr 1;exact(afY.1 hp).2
  simp only[↓aX,mX,seval,af5,af0,hpe,hes,aU,bD,IV.cells];refine⟨hB,ba (l:= .par 0) (hA s p b) aj1 ajR ?_⟩;rintro x1 fB ⟨rfl,rfl⟩ _ _ _;cases h:p.isPrefixOf s with
  |true=>
   simp only[↓aX,mX,seval,cJ,hek,wx,h];exact⟨dz (s.drop p.length) b,by simp[ae,ai,AV.aq,eB,h]⟩
  |false=>
  simp only[↓aX,mX,seval,hw];refine⟨⟨i+1,aF,λq hq=> ?_⟩,ajM,eu ?_ ajT ?_⟩
  ·rw[agz,hp] at hq;simp only[ahR,agi,af'] at hq;rcases hq with hq|rfl
   ·exact bV q hq
   exact h
  ·intro l hl hu;by_cases e:l= .par 0
   ·subst e;simp
   exact LW
  refine⟨by simp[ae,eB,h],trivial⟩
 have hi4:i=4:=ajK
 subst hi4;have hek:wx s px 0=none:=by rw[wW bV (by simp[px])];rfl
 rw[show decide (((4:Nat):Int)<(4:Int))=false by simp];simp only[↓aX,mX,seval,cJ,hek];exact⟨dz s b,by simp[ae,ai,AV.aq]⟩
theorem Xx (s:Bs):match wx s px 0 with
  |some (i,r)=>∃e:UInt8,([60,62,38,34]:Bs)[i]?=some e/\mu s=some (e,r)
  |none=>mu s=none:=by
 unfold mu;simp only[px,wx];split
 ·rename_i i r h;split at h
  ·rename_i h1;cases h;exact⟨60,rfl,by rw[agc h1];rfl⟩
  rename_i h1;split at h
  ·rename_i h2;cases h;exact⟨62,rfl,by rw[af8 h1,agc h2];rfl⟩
  rename_i h2;split at h
  ·rename_i h3;cases h;exact⟨38,rfl,by rw[af8 h1,af8 h2,agc h3];rfl⟩
  rename_i h3;split at h
  ·rename_i h4;cases h;exact⟨34,rfl,by rw[af8 h1,af8 h2,af8 h3,agc h4];rfl⟩
  cases h
 rename_i h;split at h
 ·cases h
 rename_i h1;split at h
 ·cases h
 rename_i h2;split at h
 ·cases h
 rename_i h3;split at h
 ·cases h
 rename_i h4;rw[af8 h1,af8 h2,af8 h3,af8 h4]
theorem o7:∀s:Bs,qu (bo s)=some s
 |[]=>rfl
 |c::s=>by
  have ih:=o7 s;unfold bo at ih ⊢;simp only[agC,qu,ih];simp
def CF (v:Bool) (s:Bs) (b:Bool) (x:AV) (cs:List AV):Prop:=∃t r b',x= .str t/\cs=dz r b'/\r.length+t.length<=s.length/\(b=true->b'=true) /\
 (b=false->match bb v s with
  |some y=>b'=false/\y=(t,r)
  |none=>b'=true)
def Qu (v:Bool) (s:Bs) (b:Bool) (q:Bs×Bs×Bool):Prop:=q.1.length+q.2.1.length<=s.length/\(b=true->q.2.2=true)/\(b=false->if q.2.2 then bb v s=none else bb v s=(bb v q.1).map λy=>(q.2.1++y.1,y.2))
def cI (c:UInt8) (k:Nat) (hk:k<256):((c.toNat:Int)==(k:Int))=(c==UInt8.ofNat k):=by
 rw[agP];simp only[ag9];rw[<-aim];have:(UInt8.ofNat k).toNat=k:=ajY
 rw[this];omega
def rF (c:UInt8):lW c=(((c.toNat:Int)==10)|| !(decide ((c.toNat:Int)<32)||decide ((c.toNat:Int)>126))):=by
 have h1:((c.toNat:Int)==10)=(c==10):=cI c 10 ajN;unfold lW;rw[h1];congr 1;rw[agP];simp only[agm,agv,aiq,ah',ahn,aiw];show(32<=_/\_<=126)↔_;omega
theorem YE (hI:∀(s:Bs) (b:Bool),
  cM P G 89 [.list (px.map IV.str),.fn 90 [.ptr (.par 0) 2 0 0] []] (dz s b) λx cs=>
   match wx s px 0 with
   |some (i,r)=>x= .int .i64 (i:Nat)/\cs=dz r b
   |none=>x= .int .i64 (-1)/\cs=dz s b) (v:Bool) (s:Bs) (hs:s.length<=B) (b:Bool) :
  cM P G 54 [.ptr (.par 0) 2 0 0,.bool v] (dz s b) (CF v s b):=by
 refine dk (cw 54 [.a 5 (.own 5 1),.b 47 (.tj (.loc 5) 5),.b 84 (.tj (.loc 5) 5)]) ajL ajO ajO ?_;have gV:B=1073741824:=rfl;simp only[↓aX,mX,seval,jK];refine fi (σ:={q:Bs×Bs×Bool // Qu v s b q}) (λ_=>[.par 0,.loc 5]) (λ_ _=>false)
  (λq=>[(0,.ptr (.par 0) 2 0 0),(1,.bool v),(5,.sl (.loc 5) 1 0 q.1.2.1.length)])
  (λq=>[(.par 0,⟨2,[dz q.1.1 q.1.2.2]⟩),(.loc 5,⟨1,ak (bo q.1.2.1)⟩)]) (λq=>2*q.1.1.length+(if q.1.2.2 then 0 else 1)) ⟨(s,[],b),ajL,λh=>h,λh=> ?_⟩ (λ_=>rfl) (λq=>by simp[ai,AV.aq]) ?_ ⟨[],?_⟩ ?_
 ·simp only[h,agl,agk];cases bb v s<;>simp
 ·exact Xz
 ·refine⟨?_,?_,?_,ajS,ajS⟩
  ·exact O4
  ·simp[dp,aD,aH,put,fH]
  simp[eL,aD,ae,aP,aA,aH,bo,ak]
 rintro⟨⟨r,t,bad⟩,hlen,Bg,pr⟩;simp only at hlen Bg pr;have hU:∀d,d≠5->cU (λ_=>false) [(Lb.par 0,⟨2,[dz r bad]⟩),(Lb.loc 5,⟨1,ak (bo t)⟩)] (.loc d)= .unused:=λd hd=>by rw[eF alc];rfl
 have Bi:∀d,d≠0->cU (λ_=>false) [(Lb.par 0,⟨2,[dz r bad]⟩),(Lb.loc 5,⟨1,ak (bo t)⟩)] (.par d)= .unused:=λd hd=>by rw[eF alc];rfl
 have j8:cU (λ_=>false) [(Lb.par 0,⟨2,[dz r bad]⟩),(Lb.loc 5,⟨1,ak (bo t)⟩)] (.par 0)= .live ⟨2,[dz r bad]⟩:=bg.2 akL;have BD:cU (λ_=>false) [(Lb.par 0,⟨2,[dz r bad]⟩),(Lb.loc 5,⟨1,ak (bo t)⟩)] (.loc 5)= .live ⟨1,ak (bo t)⟩:=bg.2 akL;simp only;generalize cU (λ_=>false) [(Lb.par 0,⟨2,[dz r bad]⟩),(Lb.loc 5,⟨1,ak (bo t)⟩)]=H0 at *;have yh:((bo t).drop 0).take t.length=bo t:=by rw[agj,af2 (by rw[bu];exact af6 _)]
 have qe:0+t.length<=(bo t).length:=by rw[bu];omega
 have fin:∀(H1:Hp),H1 (.par 0)= .live ⟨2,[dz r bad]⟩->(bad=false->∃y,bb v r=some y/\y=([],r))->∃fB,CF v s b (.str t) fB/\(AV.str t).aq=[]/\ai fB=[]/\fB.length=2/\H1 (.par 0)= .live ⟨2,[fB]⟩:=by
  intro H1 h1 h2;refine⟨dz r bad,⟨t,r,bad,rfl,rfl,hlen,Bg,λhb=> ?_⟩,rfl,ajO,rfl,h1⟩;have h3:=pr hb;cases bad with
  |true=>simp only[agn] at h3;rw[h3]
  |false=>
  obtain⟨y,hy,rfl⟩:=h2 rfl;simp only[agl,agk,hy,af9,agb] at h3;rw[h3];exact⟨rfl,rfl⟩
 simp only[↓aX,mX,seval,j8]
 match r,hlen,pr,j8,fin with
 |[],hlen,pr,j8,fin=>
  simp only[↓aX,mX,seval,show(([]:Bs)==[])=true from rfl,af4];refine⟨1,bo t,0,t.length,rfl,BD,qe,o6 t,?_⟩;rw[yh];simp only[↓aX,mX,seval,Hz,o7,af9,cJ];exact fin _ akt (λ_=>⟨_,sd v,rfl⟩)
 |c::q,hlen,pr,j8,fin=>
  simp only[↓aX,mX,seval,show((c::q:Bs)==[])=false from rfl,af1,j8];cases bad with
  |true=>
   simp only[↓aX,mX,seval,af4];refine⟨1,bo t,0,t.length,rfl,BD,qe,o6 t,?_⟩;rw[yh];simp only[↓aX,mX,seval,Hz,o7,af9,cJ];exact fin _ akt (λh=>by cases h)
  |false=>
  have VP:b=false:=akF
  have sI:=pr VP;simp only[agl,agk] at sI;have c60:((c.toNat:Int)==60)=(c==60):=cI c 60 ajN;have c62:((c.toNat:Int)==62)=(c==62):=cI c 62 ajN;have c38:((c.toNat:Int)==38)=(c==38):=cI c 38 ajN;have c34:((c.toNat:Int)==34)=(c==34):=cI c 34 ajN;simp only[↓aX,mX,seval,af1,j8,show((0:Int)).toNat=0 from rfl,agF,c60];have stop:jB v c->∃y,bb v (c::q)=some y/\y=([],c::q):=λh=>⟨_,tO h q,rfl⟩;by_cases n9:c=60
  ·rw[show(c==60)=true by simp[n9]];simp only[↓aX,mX,seval];refine⟨1,bo t,0,t.length,rfl,BD,qe,o6 t,?_⟩;rw[yh];simp only[↓aX,mX,seval,Hz,o7,af9,cJ];exact fin _ akt (λ_=>stop (.inl n9))
  rw[show(c==60)=false by simp[n9]];simp only[↓aX,mX,seval,af1,c34];have next:∀(e:UInt8) (r':Bs) (d:Nat) (env:Env),bb v (c::q)=(bb v r').map (λx=>(e::x.1,x.2))->r'.length<(c::q).length->env 0= .ptr (.par 0) 2 0 0->env 1= .bool v->env 5= .sl (.loc d) 1 0 (t.length+1)->∀(H1:Hp),H1 (.par 0)= .live ⟨2,[dz r' false]⟩->H1 (.loc d)= .live ⟨1,ak (bo t++bo [e])⟩->(∀n,n≠0->H1 (.par n)= .unused) ->
    ∃q':{q:Bs×Bs×Bool // Qu v s b q},2*q'.1.1.length+(if q'.1.2.2 then 0 else 1)<2*(c::q).length+1/\∃m,WE [.par 0,.loc 5] (λ_=>false) [(0,.ptr (.par 0) 2 0 0),(1,.bool v),(5,.sl (.loc 5) 1 0 q'.1.2.1.length)]
     [(.par 0,⟨2,[dz q'.1.1 q'.1.2.2]⟩),(.loc 5,⟨1,ak (bo q'.1.2.1)⟩)] env H1 m:=by
   intro e r' d env h1 h2 h3 h4 h5 H1 h6 h7 h8;refine⟨⟨(r',t++[e],false),?_,Bg,λ_=> ?_⟩,?_,[(.loc 5,.loc d)],?_,?_,?_,ajS,?_⟩
   ·simp only[age,agd,agx] at hlen h2 ⊢;omega
   ·simp only[agl,agk];rw[sI,h1];cases bb v r'<;>simp
   ·simp only[agl,agk];omega
   ·exact abp
   ·simp[dp,h3,h4,h5,aH,aD]
   ·refine⟨by simp[aD,aP,aA,aH,h6],by simp[aD,aK,h7,Ga],trivial⟩
   intro l hl;simp only[aga,agf,agI] at hl;rcases hl with rfl|rfl
   ·simp[aD]
   simp[aD,Lb.fresh,Lb.entry]
  have Xw:∀(env:Env) (H1:Hp),bb v (c::q)=none->env 0= .ptr (.par 0) 2 0 0->env 1= .bool v->env 5= .sl (.loc 5) 1 0 t.length->H1 (.par 0)= .live ⟨2,[dz (c::q) true]⟩->H1 (.loc 5)= .live ⟨1,ak (bo t)⟩->(∀n,n≠0->H1 (.par n)= .unused) ->
    ∃q':{q:Bs×Bs×Bool // Qu v s b q},2*q'.1.1.length+(if q'.1.2.2 then 0 else 1)<2*(c::q).length+1/\∃m,WE [.par 0,.loc 5] (λ_=>false) [(0,.ptr (.par 0) 2 0 0),(1,.bool v),(5,.sl (.loc 5) 1 0 q'.1.2.1.length)]
     [(.par 0,⟨2,[dz q'.1.1 q'.1.2.2]⟩),(.loc 5,⟨1,ak (bo q'.1.2.1)⟩)] env H1 m:=by
   intro env H1 h1 h3 h4 h5 h6 h7 h8;refine⟨⟨(c::q,t,true),hlen,λ_=>rfl,λ_=> ?_⟩,?_,[],?_,?_,?_,ajS,ajS⟩
   ·simp only[agn];rw[sI,h1];rfl
   ·simp only[agn];omega
   ·exact abp
   ·simp[dp,h3,h4,h5,aH,aD]
   refine⟨by simp[aD,aP,aA,aH,h6],by simp[aD,aK,h7],trivial⟩
  by_cases BM:c=34/\v=true
  ·rw[show(c==34)=true by simp[BM.1]];simp only[↓aX,mX,seval];refine j7 (λ_=> ?_) (λhv=>by rw[BM.2] at hv;cases hv);simp only[↓aX,mX,seval];refine⟨1,bo t,0,t.length,rfl,BD,qe,o6 t,?_⟩;rw[yh];simp only[↓aX,mX,seval,Hz,o7,af9,cJ];exact fin _ akt (λ_=>stop (.inr BM))
  have Bc:¬jB v c:=λh=>h.elim n9 BM;cases aeq:(c==34) with
  |true=>
   simp only[↓aX,mX,seval];refine j7 (λhv=>absurd ⟨by simpa using aeq,hv⟩ BM) (λ_=> ?_);simp only[↓aX,mX,seval,c38];by_cases Et:c=38
   ·exact dq4
   exact dq1
  |false=>
  simp only[↓aX,mX,seval,c38];by_cases Et:c=38
  ·exact dq4
  exact dq1
end

theorem yX:∀l m:List Attr,fm (l++m)=fm l+fm m
 |[],m=>by simp[fm]
 |a::r,m=>by simp[fm,yX r m];omega
def Qv {l m:List Attr} (h:l.Perm m):fm l=fm m:=by
 induction h with
 |nil=>rfl
 |cons x _ ih=>simp[fm,ih]
 |swap x y l=>simp[fm];omega
 |trans _ _ h1 h2=>exact h1.trans h2
def DR (s:Bs) (b:Bool) (x:AV) (cs:List AV):Prop:=∃l r b',x= .list (aQ l)/\cs=dz r b'/\r.length+fm l<=s.length/\(b=true->b'=true) /\
 (b=false->match cW s with
  |some y=>b'=false/\r=y.2/\l.length=y.1.length/\(y.1.length<=20->l=df y.1)
  |none=>b'=true)
def acg (s:Bs) (b:Bool) (q:Bs×List Attr×Bool):Prop:=q.1.length+fm q.2.1<=s.length/\(b=true->q.2.2=true)/\(b=false->if q.2.2 then cW s=none else cW s=(cW q.1).map λy=>(q.2.1++y.1,y.2))
def mQ (p s:Bs):da p s=if p.isPrefixOf s then some (eB p s) else none:=by
 unfold da eB;split<;>rfl
def Aw (s:Bs):ke s=if(decide (s.takeWhile aY=[])||decide (8<(s.takeWhile aY).length)) then none else some (s.takeWhile aY,s.dropWhile aY):=by
 unfold ke;simp only[ahu,agv]
def pL (p:UInt8->Bool) (s:Bs):(s.takeWhile p).length+(s.dropWhile p).length=s.length:=by
 rw[<-age,ahm]
section
variable {P:Program} {G:Nat->Option (List IV)} [KN P G]
def TX (hSp:∀(s:Bs) (b:Bool),s.length<=B->cM P G 110 [.ptr (.par 0) 2 0 0] (dz s b) λx cs=>x= .bool (decide ((s.dropWhile isSp).length<s.length))/\cs=dz (s.dropWhile isSp) b)
  (hN:∀(s:Bs) (b:Bool),s.length<=B->cM P G 108 [.ptr (.par 0) 2 0 0] (dz s b) λx cs=>x= .str (s.takeWhile aY)/\cs=dz (s.dropWhile aY) (b||(decide (s.takeWhile aY=[])||decide (8<(s.takeWhile aY).length))))
  (VQ:∀(s p:Bs) (b:Bool),cM P G 107 [.ptr (.par 0) 2 0 0,.str p] (dz s b) λx cs=>cs=dz (eB p s) (b|| !p.isPrefixOf s))
  (hT:∀(v:Bool) (s:Bs) (b:Bool),s.length<=B->cM P G 54 [.ptr (.par 0) 2 0 0,.bool v] (dz s b) (CF v s b))
  (Gd:∀l:List Attr,l.length<=B->nN P G 148 [.sl (.par 0) 2 0 l.length,.fn 149 [] []] 2 (aQ l) λx ys=>∃zs:List Attr,ys=aQ zs/\zs.Perm l/\(l.length<=20->zs=df l))
  (s:Bs) (hs:s.length<=B) (b:Bool) :
  cM P G 109 [.ptr (.par 0) 2 0 0] (dz s b) (DR s b):=by
 refine dk (cw 109 [.a 3 (.own 3 2),.r (.tj (.loc 3) 2)]) ajL ajO ajO ?_;have gV:B=1073741824:=rfl;simp only[↓aX,mX,seval,jK];refine fi (σ:={q:Bs×List Attr×Bool // acg s b q}) (λ_=>[.par 0,.loc 3]) (λ_ _=>false)
  (λq=>[(0,.ptr (.par 0) 2 0 0),(3,.sl (.loc 3) 2 0 q.1.2.1.length)])
  (λq=>[(.par 0,⟨2,[dz q.1.1 q.1.2.2]⟩),(.loc 3,⟨2,ak (aQ q.1.2.1)⟩)]) (λq=>q.1.1.length) ⟨(s,[],b),by simp[fm],λh=>h,λh=> ?_⟩ (λ_=>rfl) (λq=>by simp[ai,AV.aq]) ?_ ⟨[],?_⟩ ?_
 ·simp only[h,agl,agk];cases cW s<;>simp
 ·exact Xz
 ·refine⟨?_,?_,?_,ajS,ajS⟩
  ·exact O4
  ·simp[dp,aD,aH,put,fH]
  simp[eL,aD,ae,aP,aA,aH,aQ,ak]
 rintro⟨⟨r,l,bad⟩,hlen,Bg,pr⟩;simp only at hlen Bg pr;have HO:=fS l;have hU:∀d,d≠3->cU (λ_=>false) [(Lb.par 0,⟨2,[dz r bad]⟩),(Lb.loc 3,⟨2,ak (aQ l)⟩)] (.loc d)= .unused:=λd hd=>by rw[eF alc];rfl
 have Bi:∀d,d≠0->cU (λ_=>false) [(Lb.par 0,⟨2,[dz r bad]⟩),(Lb.loc 3,⟨2,ak (aQ l)⟩)] (.par d)= .unused:=λd hd=>by rw[eF alc];rfl
 have j8:cU (λ_=>false) [(Lb.par 0,⟨2,[dz r bad]⟩),(Lb.loc 3,⟨2,ak (aQ l)⟩)] (.par 0)= .live ⟨2,[dz r bad]⟩:=bg.2 akL;have yv:cU (λ_=>false) [(Lb.par 0,⟨2,[dz r bad]⟩),(Lb.loc 3,⟨2,ak (aQ l)⟩)] (.loc 3)= .live ⟨2,ak (aQ l)⟩:=bg.2 akL;simp only;generalize cU (λ_=>false) [(Lb.par 0,⟨2,[dz r bad]⟩),(Lb.loc 3,⟨2,ak (aQ l)⟩)]=H0 at *;simp only[↓aX,mX,seval];refine ba (l:= .par 0) (hSp r bad ajK) aj1 an4 ?_;rintro x1 fB ⟨rfl,rfl⟩ _ _ _;obtain⟨r1,pt⟩:∃r1,r1=r.dropWhile isSp:=⟨_,rfl⟩;have YF:r1.length<=r.length:=by rw[pt];exact gq _ _
 rw[<-pt];simp only[↓aX,mX,seval];have fin:∀(zs:List Attr),zs.Perm l->(l.length<=20->zs=df l)->(bad=false->cW r=some ([],r1))->DR s b (.list (aQ zs)) (dz r1 bad):=by
  intro zs h1 h2 h4;refine⟨zs,r1,bad,rfl,rfl,by rw[Qv h1];omega,Bg,λhb=> ?_⟩;have h5:=pr hb;cases bad with
  |true=>simp only[agn] at h5;rw[h5]
  |false=>
  simp only[agl,agk,h4 rfl,af9,agb] at h5;rw[h5];exact⟨rfl,rfl,h1.length_eq,h2⟩
 have yE:∀B':Bool,jk r r1=B'->cW r=if B' then(match sW r1 with|some (a,q)=>(cW q).map λx=>(a::x.1,x.2)|none=>none) else some ([],r1):=by
  intro B' h;rw[cW,<-pt,h];split
  ·split<;>simp_all
  rfl
 cases vZ:decide (r1.length<r.length) with
 |false=>
  simp only[↓aX,mX,seval];refine ef (l:= .loc 3) (Gd l ajK) aj1 al5 ?_;rintro x1 ys ⟨zs,rfl,qo,Dd⟩ _ _;simp only[↓aX,mX,seval];refine⟨2,aQ zs,0,l.length,rfl,ajR,ak',gn zs,?_⟩;rw[agj,af2 akW];exact⟨_,fin zs qo Dd (λ_=>by rw[yE false (by unfold jk;rw[vZ];rfl)];rfl),rfl,ajO,rfl,ajR⟩
 |true=>
 simp only[↓aX,mX,seval,af4,af1];cases bad with
 |true=>
  simp only[↓aX,mX,seval,af4,af1];refine ef (l:= .loc 3) (Gd l ajK) aj1 al5 ?_;rintro x1 ys ⟨zs,rfl,qo,Dd⟩ _ _;simp only[↓aX,mX,seval];refine⟨2,aQ zs,0,l.length,rfl,ajR,ak',gn zs,?_⟩;rw[agj,af2 akW];exact⟨_,fin zs qo Dd (λh=>by cases h),rfl,ajO,rfl,ajR⟩
 |false=>
 have VP:b=false:=akF
 have sI:=pr VP;simp only[agl,agk] at sI;simp only[↓aX,mX,seval,af4,af1];clear pr
 match r1,pt,YF,vZ,yE,fin with
 |[],pt,YF,vZ,yE,fin=>
  simp only[↓aX,mX,seval,show((([]:Bs) !=[])=false) from rfl,show(([]:Bs)==[])=true from rfl,af4];refine ef (l:= .loc 3) (Gd l ajK) aj1 al5 ?_;rintro x1 ys ⟨zs,rfl,qo,Dd⟩ _ _;simp only[↓aX,mX,seval];refine⟨2,aQ zs,0,l.length,rfl,ajR,ak',gn zs,?_⟩;rw[agj,af2 akW];exact⟨_,fin zs qo Dd (λ_=>by rw[yE false (by unfold jk;rw[vZ];rfl)];rfl),rfl,ajO,rfl,ajR⟩
 |c::q,pt,YF,vZ,yE,fin=>
  have c62:((c.toNat:Int)==62)=(c==62):=cI c 62 ajN;have c47:((c.toNat:Int)==47)=(c==47):=cI c 47 ajN;simp only[↓aX,mX,seval,show((c::q:Bs)==[])=false from rfl,af1,show((0:Int)).toNat=0 from rfl,agF,bne,c62];cases Eu:(c==62) with
  |true=>
   simp only[↓aX,mX,seval,af4];refine ef (l:= .loc 3) (Gd l ajK) aj1 al5 ?_;rintro x1 ys ⟨zs,rfl,qo,Dd⟩ _ _;simp only[↓aX,mX,seval];refine⟨2,aQ zs,0,l.length,rfl,ajR,ak',gn zs,?_⟩;rw[agj,af2 akW];exact⟨_,fin zs qo Dd (λ_=>by rw[yE false (by unfold jk;simp[Eu])];rfl),rfl,ajO,rfl,ajR⟩
  |false=>
  simp only[↓aX,mX,seval,af1,show((0:Int)).toNat=0 from rfl,agF,bne,c47];cases KM:(c==47) with
  |true=>
   simp only[↓aX,mX,seval,af4];refine ef (l:= .loc 3) (Gd l ajK) aj1 al5 ?_;rintro x1 ys ⟨zs,rfl,qo,Dd⟩ _ _;simp only[↓aX,mX,seval];refine⟨2,aQ zs,0,l.length,rfl,ajR,ak',gn zs,?_⟩;rw[agj,af2 akW];exact⟨_,fin zs qo Dd (λ_=>by rw[yE false (by unfold jk;simp[Eu,KM])];rfl),rfl,ajO,rfl,ajR⟩
  |false=>
  simp only[↓aX,mX,seval,af1];have ach:=yE true (by unfold jk;simp only[vZ,Eu,KM];rfl);simp only[agn] at ach;have afR:(c::q).length<r.length:=by simpa using vZ
  generalize c::q=r1 at *;refine ba (l:= .par 0) (hN r1 false ajK) aj1 ajR ?_;rintro x1 fB ⟨rfl,rfl⟩ _ _ _;have JJ:=pL aY r1;have Z8:=Aw r1;rw[aih];generalize r1.takeWhile aY=nm at *;generalize r1.dropWhile aY=r2 at *;generalize (decide (nm=[])||decide (8<nm.length))=YG at *;simp only[↓aX,mX,seval];refine⟨by simp[ae,hU 4 ajN],?_⟩;refine ba (l:= .par 0) (VQ r2 [61,34] YG) aj1 ajR ?_;rintro x1 fB rfl _ _ _;have Lv:=np [61,34] r2;have C5:=mQ [61,34] r2;generalize List.isPrefixOf [61,34] r2=pf1 at *;generalize eB [61,34] r2=r3 at *;simp only[↓aX,mX,seval];refine ba (l:= .par 0) (hT true r3 (YG|| !pf1) ajK) aj1 ajR ?_;rintro x1 fB ⟨t,r4,b4,rfl,rfl,hl4,hb4,lR⟩ _ _ _;simp only[↓aX,mX,seval];refine ba (l:= .par 0) (VQ r4 [34] b4) aj1 ajR ?_;rintro x1 fB rfl _ _ _;have DD:=np [34] r4;have TT:=mQ [34] r4;generalize List.isPrefixOf [34] r4=pf2 at *;generalize eB [34] r4=r5 at *;simp only[↓aX,mX,seval];rw[bX 2 32 50 3 (aQ l) (.agg [.str nm,.str t]) al5 (aE l) rfl (by intro z hz cs;simp only[IV.cells,aga,agf,agI] at hz;rcases hz with rfl|rfl<;>simp) ajK ajN ajN (by simp[ae,hU 50 ajN])];simp only[↓aX,mX,seval];have CG:if b4|| !pf2 then sW r1=none else sW r1=some (⟨nm,t⟩,r5):=by
   unfold sW;rw[Z8];cases YG with
   |true=>rw[hb4 rfl];rfl
   |false=>
   simp only[agl,agk,af_];rw[C5];cases pf1 with
   |false=>rw[hb4 rfl];rfl
   |true=>
   simp only[agn,af_];have h4:=lR rfl;cases htf:bb true r3 with
   |none=>
    rw[htf] at h4;simp only at h4;rw[h4];rfl
   |some y=>
   rw[htf] at h4;obtain⟨rfl,rfl⟩:=h4;simp only[af_];rw[TT];cases pf2<;>rfl
  refine⟨⟨(r5,l++[⟨nm,t⟩],b4|| !pf2),?_,λ(h:b=true)=>am6,λ_=> ?_⟩,ajM,[(.loc 3,.loc 50)],?_,?_,?_,ajS,?_⟩
  ·simp only[yX,fm,Attr.wt];omega
  ·simp only;rw[sI,ach];cases MS:(b4|| !pf2) with
   |true=>rw[MS] at CG;simp only[agn] at CG ⊢;rw[CG];rfl
   |false=>
   rw[MS] at CG;simp only[agl,agk] at CG ⊢;rw[CG];simp only;cases cW r5 with
   |none=>rfl
   |some y=>simp only[af9,agM,ahE]
  ·exact XC
  ·simp[dp,aH,aD,put]
  ·refine⟨amU,by simp[aD,aK,ae,aQ];rfl,trivial⟩
  exact XE
end

def Ax {P:Program} {G:Nat->Option (List IV)} {f:Nat} {n:Nat} {rs:List RO} {ac:AC} {args cs:List AV} {R:AV->List AV->Prop}
  (hF:dK P G f=some (n,rs,ac.bare)) (hn:args.length<=n) (ha:∀l∈ai args,l= .par 0) (hc:ai cs=[])
  (hg:go ⟨P,G,n⟩ (eZ rs λx H'=>∃fB,R (norm x) fB/\x.aq=[]/\ai fB=[]/\fB.length=cs.length/\H' (.par 0)= .live ⟨cs.length,[fB]⟩) [.code ac] (fH args) (jK cs)):cM P G f args cs R:=by
 have h:=dk (R:=λx c=>R (norm x) c) hF hn ha hc hg;refine⟨h.1,h.2.1,h.2.2.res.mono ?_⟩;rintro x H ⟨y,⟨fB,h1,h2,h3⟩,rfl⟩;exact⟨fB,h1,by rw[uX];exact h2,h3⟩
def DS {S:St} {F:List Lb} {f:Nat} {args bW:List AV} {cs:List AV} {R:AV->List AV->Prop} {H:Hp} {k:AV->Hp->Prop} {u:Tw k} {l:Lb} (h:cM S.P S.G f bW cs R)
  (ha:args=aA (iP l) bW) (hl:H l= .live ⟨cs.length,[cs]⟩) (hF:l.ix∉F) {x0:AV} {EN:List AV} (h0:R x0 EN) (h1:x0.aq=[]) (h2:ai EN=[]) (h3:EN.length=cs.length)
  (hk:∀x fB,R x fB->x.aq=[]->ai fB=[]->fB.length=cs.length->k x (aS H l (.live ⟨cs.length,[fB]⟩))):OX S F f args H k u:=by
 refine⟨λx H'=>∃fB,R x fB/\x.aq=[]/\ai fB=[]/\fB.length=cs.length/\H'=aS H l (.live ⟨cs.length,[fB]⟩),?_,⟨x0,_,EN,h0,h1,h2,h3,rfl⟩,?_⟩
 ·exact ba (k:=λx H'=>∃fB,R x fB/\x.aq=[]/\ai fB=[]/\fB.length=cs.length/\H'=aS H l (.live ⟨cs.length,[fB]⟩)) (u:= .mk) h ha hl (λx fB g1 g2 g3 g4=>⟨fB,g1,g2,g3,g4,rfl⟩)
 rintro x H' ⟨fB,g1,g2,g3,g4,rfl⟩;refine⟨λq hq=> ?_,hk x fB g1 g2 g3 g4⟩;rw[an _ _ (λe=>hF (by rw[e] at hq;exact hq))]
def uV (l:List Attr) (a:Attr):(jL l a).length=l.length+1:=by
 induction l with
 |nil=>rfl
 |cons b r ih=>
 unfold jL;split
 ·rfl
 simp[ih]
def CH (l:List Attr):(df l).length=l.length:=by
 have key:∀(l acc:List Attr),(l.foldl jL acc).length=acc.length+l.length:=by
  intro l;induction l with
  |nil=>intro acc;rfl
  |cons a r ih=>intro acc;simp only[ah2,ih,uV,agd];omega
 unfold df;rw[key];simp
mutual
def Tree.Hq:Tree->Bool
 | .mk _ _ az ks=>decide (20<az.length)||pM ks
def pM:List Tree->Bool
 |[]=>false
 |x::r=>x.Hq||pM r
end
theorem Ge:∀l m:List Tree,pM (l++m)=(pM l||pM m)
 |[],m=>by simp[pM]
 |x::r,m=>by simp[pM,Ge r m,Bool.or_assoc]
def Gf (d:Nat) (s:Bs) (b:Bool) (x:AV) (cs:List AV):Prop:=∃(t:Tree) (r:Bs) (b':Bool),x=t.av/\cs=dz r b'/\t.wt<=3*s.length+2/\r.length<=s.length /\
 (∀q,s=60::q->t.wt+3*r.length<=3*s.length/\r.length<s.length)/\(b=true->b'=true) /\
 (b=false->match aV d s with
  |some y=>b'=false/\r=y.2/\(t=y.1\/(t.Hq=true/\y.1.Hq=true))
  |none=>b'=true)
def xY (d:Nat) (s:Bs) (b:Bool) (x:AV) (cs:List AV):Prop:=∃(l:List Tree) (r:Bs) (b':Bool),x= .list (aM l)/\cs=dz r b'/\bH l+3*r.length<=3*s.length+1/\(b=true->b'=true) /\
 (b=false->match cF (aV d) s with
  |some y=>b'=false/\r=y.2/\(l=y.1\/(pM l=true/\pM y.1=true))
  |none=>b'=true)
section
variable {P:Program} {G:Nat->Option (List IV)} [KN P G]
def Qw (hSp:∀(s:Bs) (b:Bool),s.length<=B->cM P G 110 [.ptr (.par 0) 2 0 0] (dz s b) λx cs=>x= .bool (decide ((s.dropWhile isSp).length<s.length))/\cs=dz (s.dropWhile isSp) b)
  (hN:∀(s:Bs) (b:Bool),s.length<=B->cM P G 108 [.ptr (.par 0) 2 0 0] (dz s b) λx cs=>x= .str (s.takeWhile aY)/\cs=dz (s.dropWhile aY) (b||(decide (s.takeWhile aY=[])||decide (8<(s.takeWhile aY).length))))
  (VQ:∀(s p:Bs) (b:Bool),cM P G 107 [.ptr (.par 0) 2 0 0,.str p] (dz s b) λx cs=>cs=dz (eB p s) (b|| !p.isPrefixOf s))
  (NV:∀(s p:Bs) (b:Bool),cM P G 90 [.ptr (.par 0) 2 0 0,.str p] (dz s b) λx cs=>x= .bool (p.isPrefixOf s)/\cs=dz (eB p s) b)
  (hA:∀(s:Bs) (b:Bool),s.length<=B->cM P G 109 [.ptr (.par 0) 2 0 0] (dz s b) (DR s b))
  (d:Nat) (hd:d<=9) (hK:∀d',d=d'+1->∀(s:Bs) (b:Bool),s.length<=B->cM P G 56 [.ptr (.par 0) 2 0 0,.int .i64 (9 - d':Int)] (dz s b) (xY d' s b))
  (s:Bs) (hs:s.length<=B) (b:Bool) :
  cM P G 69 [.ptr (.par 0) 2 0 0,.int .i64 (9 - d:Int)] (dz s b) (Gf d s b):=by
 refine Ax (cw 69 [.f 38 3 (.rw [.loc 5] []),.f 39 1 (.v7 [(.loc 5)])]) ajL ajO ajO ?_;have gV:B=1073741824:=rfl;simp only[↓aX,mX,seval,jK];refine ba (l:= .par 0) (VQ s [60] b) aj1 ajR ?_;rintro x1 fB rfl _ _ _;have Lv:=np [60] s;have aer:∀q,s=60::q->eB [60] s=q:=by rintro q rfl;simp[eB,List.isPrefixOf]
 have C5:=mQ [60] s;generalize List.isPrefixOf [60] s=pf1 at *;generalize eB [60] s=r1 at *;simp only[↓aX,mX,seval];refine ba (l:= .par 0) (hN r1 (b|| !pf1) ajK) aj1 ajR ?_;rintro x1 fB ⟨rfl,rfl⟩ _ _ _;have JJ:=pL aY r1;have Z8:=Aw r1;generalize r1.takeWhile aY=nm at *;generalize r1.dropWhile aY=r2 at *;generalize (decide (nm=[])||decide (8<nm.length))=bn at *;simp only[↓aX,mX,seval];refine ba (l:= .par 0) (hA r2 (b|| !pf1||bn) ajK) aj1 ajR ?_;rintro x1 fB ⟨az,r3,b3,rfl,rfl,hl3,hb3,hs3⟩ _ _ _;simp only[↓aX,mX,seval];have Qx:b=false->if b3 then n5 s=none else ∃xZ,n5 s=some (nm,xZ,r3)/\az.length=xZ.length/\(xZ.length<=20->az=df xZ):=by
  intro hb;unfold n5;rw[C5];cases pf1 with
  |false=>rw[hb3 (by simp[hb])];simp
  |true=>
  simp only[agn,af_,Z8];cases bn with
  |true=>rw[hb3 ajL];simp
  |false=>
  have h3:=hs3 (by simp[hb]);cases haf:cW r2 with
  |none=>rw[haf] at h3;simp only at h3;rw[h3];simp[haf]
  |some y=>
  rw[haf] at h3;obtain⟨rfl,rfl,e3,e4⟩:=h3;simp[haf];exact⟨e3,e4⟩
 have MS:b=true->b3=true:=λh=>hb3 anM;clear hs3 hb3;have aF:∀q,s=60::q->nm.length+r2.length+1=s.length:=by
  intro q hq;rw[<-aer q hq] at hq;rw[hq];simp;omega
 have stop:(b=false->aV d s=none)->Gf d s b (Tree.av (.mk false nm az [])) (dz r3 true):=by
  intro h2;refine⟨_,r3,true,rfl,rfl,?_,ajK,λq hq=> ?_,λ_=>rfl,λhb=>by rw[h2 hb]⟩
  ·simp only[Tree.wt,bH];omega
  have:=aF q hq;simp only[Tree.wt,bH];omega
 have afS:aV 0 s=none:=rfl;have aci:∀d',aV (d'+1) s=(n5 s).bind λx=>
  if [47,62].isPrefixOf x.2.2 then some (.mk false x.1 (df x.2.1) [],x.2.2.drop 2)
  else(da [62] x.2.2).bind λr=>(cF (aV d') r).bind λy=>(jl x.1 y.2).map λq=>(.mk false x.1 (df x.2.1) y.1,q):=λ_=>rfl
 cases b3 with
 |true=>
  simp only[↓aX,mX,seval,norm,bP,rE];exact⟨_,stop (λhb=>by
   have h:=Qx hb;simp only[agn] at h;cases d with
   |zero=>rfl
   |succ d=>rw[aci,h];rfl),ajU,ajU,rfl,ajR⟩
 |false=>
 simp only[↓aX,mX,seval,af1];cases d with
 |zero=>
  simp only[↓aX,mX,seval,norm,bP,rE,show((9:Int) - ((0:Nat):Int)>8)=True by simp,ag3];exact⟨_,stop (λhb=>rfl),ajU,ajU,rfl,ajR⟩
 |succ d=>
 have hK:=hK d rfl;have hw:IntKind.i64.wrap ((9:Int) - ((d+1:Nat):Int)+1)=(9:Int) - (d:Int):=ajW
 simp only[↓aX,mX,seval,show((9:Int) - ((d+1:Nat):Int)>8)=False by simp;omega,ag4];refine ba (l:= .par 0) (NV r3 [47,62] false) aj1 ajR ?_;rintro x1 fB ⟨rfl,rfl⟩ _ _ _;have sI:∀xZ,n5 s=some (nm,xZ,r3)->aV (d+1) s=if [47,62].isPrefixOf r3 then some (.mk false nm (df xZ) [],r3.drop 2)
   else(da [62] r3).bind λr=>(cF (aV d) r).bind λy=>(jl nm y.2).map λq=>(.mk false nm (df xZ) y.1,q):=by
  intro xZ h;rw[aci,h];rfl
 have et:∀xZ:List Attr,az.length=xZ.length->(xZ.length<=20->az=df xZ)->∀ks:List Tree,(Tree.mk false nm az ks= .mk false nm (df xZ) ks)\/(∀k1 k2,(Tree.mk false nm az k1).Hq=true/\(Tree.mk false nm (df xZ) k2).Hq=true):=by
  intro xZ h1 h2 ks;by_cases h:xZ.length<=20
  ·left;rw[h2 h]
  right;intro k1 k2;have h3:(df xZ).length=xZ.length:=(CH xZ);simp only[Tree.Hq,ahu,agv];omega
 cases hpf:[47,62].isPrefixOf r3 with
 |true=>
  have Bt:eB [47,62] r3=r3.drop 2:=by unfold eB;rw[hpf];rfl
  rw[Bt];simp only[↓aX,mX,seval,norm,bP,rE];refine⟨dz (r3.drop 2) false,⟨.mk false nm az [],r3.drop 2,false,rfl,rfl,?_,ajY,λq hq=> ?_,MS,λhb=> ?_⟩,ajU,ajU,rfl,ajR⟩
  ·simp only[Tree.wt,bH];omega
  ·have:=aF q hq;simp only[Tree.wt,bH,ahe];omega
  have h:=Qx hb;simp only[agl,agk] at h;obtain⟨xZ,h1,h2,h3⟩:=h;rw[sI xZ h1,hpf];refine⟨rfl,rfl,?_⟩;rcases et xZ h2 h3 [] with h|h
  ·exact .inl h
  exact .inr (h [] [])
 |false=>
 have Bt:eB [47,62] r3=r3:=by unfold eB;rw[hpf];rfl
 rw[Bt];simp only[↓aX,mX,seval];refine ba (l:= .par 0) (VQ r3 [62] false) aj1 ajR ?_;rintro x1 fB rfl _ _ _;have hc5:=np [62] r3;have ht5:=mQ [62] r3;rw[aih];generalize List.isPrefixOf [62] r3=pf5 at *;generalize eB [62] r3=r5 at *;simp only[↓aX,mX,seval,hw];refine ba (l:= .par 0) (hK r5 (!pf5) ajK) aj1 ajR ?_;rintro x1 fB ⟨ks,r6,b6,rfl,rfl,hl6,hb6,hs6⟩ _ _ _;simp only[↓aX,mX,seval];refine ba (l:= .par 0) (VQ r6 [60,47] b6) aj1 ajR ?_;rintro x1 fB rfl _ _ _;have hc7:=np [60,47] r6;have ht7:=mQ [60,47] r6;generalize List.isPrefixOf [60,47] r6=pf7 at *;generalize eB [60,47] r6=r7 at *;have hr6:r6.length<=r5.length:=by have:=bO ks;omega
 simp only[↓aX,mX,seval];refine⟨rfl,?_⟩;refine DS (l:= .par 0) (hN r7 (b6|| !pf7) ajK) aj1 ajR (by simp[C4]) ⟨rfl,rfl⟩ rfl ajU rfl ?_;rintro x1 fB ⟨rfl,rfl⟩ _ _ _;have hn8:=pL aY r7;have aes:=Aw r7;generalize r7.takeWhile aY=nm2 at *;generalize r7.dropWhile aY=r8 at *;generalize (decide (nm2=[])||decide (8<nm2.length))=bn8 at *;simp only[↓aX,mX,seval];have last:∀b9:Bool,b9=(b6|| !pf7||bn8|| !(nm2==nm))->∀r9 r10:Bs,r9.length<=r8.length->r10.length<=r9.length->r9=r8.dropWhile isSp->r10=eB [62] r9->Gf (d+1) s b (Tree.av (.mk false nm az ks)) (dz r10 (b9|| !List.isPrefixOf [62] r9)):=by
  rintro b9 h9 r9 r10 g9 g10 e9 e10;refine⟨_,r10,_,rfl,rfl,?_,ajK,λq hq=> ?_,λhb=> ?_,λhb=> ?_⟩
  ·simp only[Tree.wt];omega
  ·have:=aF q hq;simp only[Tree.wt];omega
  ·have:=MS hb;cases this
  have h:=Qx hb;simp only[agl,agk] at h;obtain⟨xZ,h1,h2,h3⟩:=h;rw[sI xZ h1,hpf];simp only[agl,agk];rw[ht5];cases pf5 with
  |false=>
   have:b9=true:=(by rw[h9,hb6 rfl];rfl);rw[this];rfl
  |true=>
  simp only[agn,af_];have h6:=hs6 rfl;cases hkf:cF (aV d) r5 with
  |none=>
   rw[hkf] at h6;simp only at h6;have:b9=true:=(by rw[h9,h6];rfl);rw[this];rfl
  |some y=>
  rw[hkf] at h6;obtain⟨rfl,rfl,h7⟩:=h6;simp only[af_];unfold jl;rw[ht7];cases pf7 with
  |false=>
   have:b9=true:=(by rw[h9];rfl);rw[this];rfl
  |true=>
  simp only[agn,af_,aes];cases bn8 with
  |true=>
   have:b9=true:=(by rw[h9];rfl);rw[this];rfl
  |false=>
  simp only[agl,agk,af_];by_cases Ob:nm2=nm
  ·rw[agc Ob,<-e9,mQ,<-e10];have:b9=false:=(by rw[h9,Ob];simp);rw[this];cases List.isPrefixOf [62] r9 with
   |false=>rfl
   |true=>
   simp only[agn,af9];refine⟨rfl,trivial,?_⟩;rcases et xZ h2 h3 ks with g|g
   ·rcases h7 with h7|⟨h7,h8⟩
    ·left;rw[<-h7];exact g
    right;simp only[Tree.Hq,h7,h8,aiV,agR]
   exact .inr (g ks y.1)
  rw[af8 Ob];have:b9=true:=by rw[h9];simp[Ob]
  rw[this];rfl
 cases Ob:(nm2==nm) with
 |true=>
  simp only[↓aX,mX,seval];refine ba (l:= .par 0) (hSp r8 (b6|| !pf7||bn8) ajK) aj1 ajR ?_;rintro x1 fB ⟨rfl,rfl⟩ _ _ _;have hc9:=gq isSp r8;simp only[↓aX,mX,seval];refine ba (l:= .par 0) (VQ (r8.dropWhile isSp) [62] (b6|| !pf7||bn8)) aj1 ajR ?_;rintro x1 fB rfl _ _ _;have YH:=np [62] (r8.dropWhile isSp);simp only[↓aX,mX,seval,norm,bP,rE];refine⟨_,last (b6|| !pf7||bn8) (by rw[Ob];simp) _ _ hc9 YH rfl rfl,ajU,ajU,rfl,ajR⟩
 |false=>
 simp only[↓aX,mX,seval];refine ba (l:= .par 0) (hSp r8 true ajK) aj1 ajR ?_;rintro x1 fB ⟨rfl,rfl⟩ _ _ _;have hc9:=gq isSp r8;simp only[↓aX,mX,seval];refine ba (l:= .par 0) (VQ (r8.dropWhile isSp) [62] true) aj1 ajR ?_;rintro x1 fB rfl _ _ _;have YH:=np [62] (r8.dropWhile isSp);simp only[↓aX,mX,seval,norm,bP,rE];refine⟨_,last true (by rw[Ob];simp) _ _ hc9 YH rfl rfl,ajU,ajU,rfl,ajR⟩
end

def aet (d:Nat) (s:Bs) (b:Bool) (q:Bs×List Tree×Bool):Prop:=bH q.2.1+3*q.1.length<=3*s.length+(if q.2.2 then 1 else 0)/\(b=true->q.2.2=true) /\
 (b=false->∃l0,(q.2.1=l0\/(pM q.2.1=true/\pM l0=true))/\if q.2.2 then cF (aV d) s=none else cF (aV d) s=(cF (aV d) q.1).map λy=>(l0++y.1,y.2))
def oj {c:UInt8} {q t r:Bs} (hc:c≠60) (h:bb false (c::q)=some (t,r)):r.length<(c::q).length:=by
 have hl:=rU _ _ _ _ (af6 _) h;have ht:t≠[]:=by
  rw[bb,af8 (by simp[hc])] at h;split at h
  ·split at h
   ·obtain⟨y,_,h2⟩:=acF.1 h;simp only[agq] at h2;rw[<-h2.1];simp
   cases h
  split at h
  ·cases h
  obtain⟨y,_,h2⟩:=acF.1 h;simp only[agq] at h2;rw[<-h2.1];simp
 have:0<t.length:=ahL.2 ht;omega
section
variable {P:Program} {G:Nat->Option (List IV)} [KN P G]
def YI (hP:∀s t:Bs,aj P G 91 [.str s,.str t] (.bool (t.isPrefixOf s)))
  (hT:∀(v:Bool) (s:Bs) (b:Bool),s.length<=B->cM P G 54 [.ptr (.par 0) 2 0 0,.bool v] (dz s b) (CF v s b))
  (d:Nat) (hE:∀(s:Bs) (b:Bool),s.length<=B->cM P G 69 [.ptr (.par 0) 2 0 0,.int .i64 (9 - d:Int)] (dz s b) (Gf d s b))
  (s:Bs) (hs:s.length<=B) (b:Bool) :
  cM P G 56 [.ptr (.par 0) 2 0 0,.int .i64 (9 - d:Int)] (dz s b) (xY d s b):=by
 refine dk (cw 56 [.a 5 (.own 5 4),.b 44 (.tj (.loc 5) 5)]) ajL ajO ajO ?_;have gV:B=1073741824:=rfl;simp only[↓aX,mX,seval,jK];refine fi (σ:={q:Bs×List Tree×Bool // aet d s b q}) (λ_=>[.par 0,.loc 5]) (λ_ _=>false)
  (λq=>[(0,.ptr (.par 0) 2 0 0),(1,.int .i64 (9 - d:Int)),(5,.sl (.loc 5) 4 0 q.1.2.1.length)])
  (λq=>[(.par 0,⟨2,[dz q.1.1 q.1.2.2]⟩),(.loc 5,⟨4,ak (aM q.1.2.1)⟩)]) (λq=>2*q.1.1.length+(if q.1.2.2 then 0 else 1)) ⟨(s,[],b),anx,λh=>h,λh=>⟨[],.inl rfl,?_⟩⟩ (λ_=>rfl) (λq=>by simp[ai,AV.aq]) ?_ ⟨[],?_⟩ ?_
 ·simp only[h,agl,agk];cases cF (aV d) s<;>simp
 ·exact Xz
 ·refine⟨?_,?_,?_,ajS,ajS⟩
  ·exact O4
  ·simp[dp,aD,aH,put,fH]
  simp[eL,aD,ae,aP,aA,aH,aM,ak]
 rintro⟨⟨r,l,bad⟩,hlen,Bg,pr⟩;simp only at hlen Bg pr;have HO:=bO l;have hbd:l.length<=3*s.length+1:=amC
 have Si:r.length<=s.length:=amC
 have hU:∀d,d≠5->cU (λ_=>false) [(Lb.par 0,⟨2,[dz r bad]⟩),(Lb.loc 5,⟨4,ak (aM l)⟩)] (.loc d)= .unused:=λd hd=>by rw[eF alc];rfl
 have Bi:∀d,d≠0->cU (λ_=>false) [(Lb.par 0,⟨2,[dz r bad]⟩),(Lb.loc 5,⟨4,ak (aM l)⟩)] (.par d)= .unused:=λd hd=>by rw[eF alc];rfl
 have j8:cU (λ_=>false) [(Lb.par 0,⟨2,[dz r bad]⟩),(Lb.loc 5,⟨4,ak (aM l)⟩)] (.par 0)= .live ⟨2,[dz r bad]⟩:=bg.2 akL;have BD:cU (λ_=>false) [(Lb.par 0,⟨2,[dz r bad]⟩),(Lb.loc 5,⟨4,ak (aM l)⟩)] (.loc 5)= .live ⟨4,ak (aM l)⟩:=bg.2 akL;simp only;generalize cU (λ_=>false) [(Lb.par 0,⟨2,[dz r bad]⟩),(Lb.loc 5,⟨4,ak (aM l)⟩)]=H0 at *;have fin:(bad=false->cF (aV d) r=some ([],r))->xY d s b (.list (aM l)) (dz r bad):=by
  intro h4;refine⟨l,r,bad,rfl,rfl,amC,Bg,λhb=> ?_⟩;obtain⟨l0,h1,h2⟩:=pr hb;cases bad with
  |true=>simp only[agn] at h2;rw[h2]
  |false=>
  simp only[agl,agk,h4 rfl,af9,agb] at h2;rw[h2];exact⟨rfl,rfl,h1⟩
 simp only[↓aX,mX,seval,j8]
 match r,hlen,pr,j8,fin,Si with
 |[],hlen,pr,j8,fin,Si=>
  simp only[↓aX,mX,seval,show(([]:Bs)==[])=true from rfl,af4];refine⟨4,aM l,0,l.length,rfl,BD,akD,gd l,?_⟩;rw[agj,af2 alw];exact⟨_,fin (λ_=>by rw[cF]),rfl,ajO,rfl,akt⟩
 |c::q,hlen,pr,j8,fin,Si=>
  simp only[↓aX,mX,seval,show((c::q:Bs)==[])=false from rfl,af1,j8];cases bad with
  |true=>
   simp only[↓aX,mX,seval,af4];refine⟨4,aM l,0,l.length,rfl,BD,akD,gd l,?_⟩;rw[agj,af2 alw];exact⟨_,fin (λh=>by cases h),rfl,ajO,rfl,akt⟩
  |false=>
  have VP:b=false:=akF
  obtain⟨l0,hl0,sI⟩:=pr VP;simp only[agl,agk] at sI hlen;simp only[↓aX,mX,seval,af1,j8];refine ah (hP (c::q) [60,47]) ?_;cases FQ:List.isPrefixOf [60,47] (c::q) with
  |true=>
   simp only[↓aX,mX,seval,af4];refine⟨4,aM l,0,l.length,rfl,BD,akD,gd l,?_⟩;rw[agj,af2 alw];exact⟨_,fin (λ_=>by rw[cF,agc FQ]),rfl,ajO,rfl,akt⟩
  |false=>
  have c60:((c.toNat:Int)==60)=(c==60):=cI c 60 ajN;have hnp:¬List.isPrefixOf [60,47] (c::q)=true:=by rw[FQ];simp
  simp only[↓aX,mX,seval,af1,j8,show((0:Int)).toNat=0 from rfl,agF,c60];have d_:∀(t t0:Tree),(t=t0\/(t.Hq=true/\t0.Hq=true))->(l++[t]=l0++[t0]\/(pM (l++[t])=true/\pM (l0++[t0])=true)):=by
   intro t t0 h;simp only[Ge,pM,ah6];rcases hl0 with h1|⟨h1,h2⟩
   ·rcases h with h|⟨h3,h4⟩
    ·left;rw[h1,h]
    right;rw[h3,h4];simp
   right;rw[h1,h2];simp
  by_cases n9:c=60
  ·rw[show(c==60)=true by simp[n9]];simp only[↓aX,mX,seval];refine ba (l:= .par 0) (hE (c::q) false ajK) aj1 an4 ?_;rintro x1 fB ⟨t,r',b',rfl,rfl,yn,gz,ml,_,lR⟩ _ _ _;obtain⟨Cg,hw4⟩:=ml q (by rw[n9]);have lR:=lR rfl;simp only[↓aX,mX,seval,Tree.av];rw[bX 4 72 37 5 (aM l) (.agg [.bool t.text,.str t.s,.list (aQ t.attrs),.list (aM t.kids)]) (by simp[ae,BD]) (ar l) rfl akP ajK ajN ajN (by simp[ae,hU 37 ajN])];simp only[↓aX,mX,seval];refine⟨⟨(r',l++[t],b'),?_,λ(h:b=true)=>am6,λ_=> ?_⟩,?_,[(.loc 5,.loc 37)],?_,?_,?_,ajS,?_⟩
   ·simp only[dQ,bH];split<;>omega
   ·cases j5:aV d (c::q) with
    |none=>
     rw[j5] at lR;refine⟨l0++[t],d_ t t (.inl rfl),?_⟩;simp only[lR,agn];rw[sI,cF,af8 hnp,agc n9,j5];rfl
    |some y=>
     rw[j5] at lR;obtain⟨rfl,rfl,h7⟩:=lR;refine⟨l0++[y.1],d_ t y.1 h7,?_⟩;simp only[agl,agk];rw[sI]
     conv=>lhs;rw[cF,af8 hnp,agc n9,j5]
     simp only;rw[ajI hw4];cases cF (aV d) y.2 with
     |none=>rfl
     |some z=>simp only[af9,agM,ahE]
   ·simp only;cases b'<;>simp at hw4 ⊢<;>omega
   ·exact XC
   ·simp[dp,aH,aD,put]
   ·refine⟨amU,ak2,trivial⟩
   exact XE
  rw[show(c==60)=false by simp[n9]];simp only[↓aX,mX,seval];refine ba (l:= .par 0) (hT false (c::q) false ajK) aj1 an4 ?_;rintro x1 fB ⟨t,r',b',rfl,rfl,yn,_,lR⟩ _ _ _;have lR:=lR rfl;simp only[↓aX,mX,seval];rw[bX 4 72 43 5 (aM l) (.agg [.bool true,.str t,.list [],.list []]) (by simp[ae,BD]) (ar l) rfl akP ajK ajN ajN (by simp[ae,hU 43 ajN])];simp only[↓aX,mX,seval];refine⟨⟨(r',l++[(Tree.mk true t [] [])],b'),?_,λ(h:b=true)=>am6,λ_=> ?_⟩,?_,[(.loc 5,.loc 43)],?_,?_,?_,ajS,?_⟩
  ·simp only[dQ,bH,Tree.wt,fm];cases DP:bb false (c::q) with
   |none=>rw[DP] at lR;rw[lR];simp only[agn];omega
   |some y=>
   rw[DP] at lR;obtain⟨rfl,rfl⟩:=lR;have:=oj n9 DP;simp only[agl,agk];omega
  ·cases DP:bb false (c::q) with
   |none=>
    rw[DP] at lR;refine⟨l0++[.mk true t [] []],d_ _ _ (.inl rfl),?_⟩;simp only at lR;simp only[lR,agn];rw[sI,cF,af8 hnp,af8 n9,DP];rfl
   |some y=>
    rw[DP] at lR;obtain⟨rfl,rfl⟩:=lR;refine⟨l0++[.mk true t [] []],d_ _ _ (.inl rfl),?_⟩;simp only[agl,agk];rw[sI]
    conv=>lhs;rw[cF,af8 hnp,af8 n9,DP]
    simp only[af9];rw[ajI (oj n9 DP)];cases cF (aV d) r' with
    |none=>rfl
    |some z=>simp only[af9,agM,ahE]
  ·show 2*r'.length+(if b'=true then 0 else 1)<2*(c::q).length+1;cases DP:bb false (c::q) with
   |none=>rw[DP] at lR;simp only at lR;simp only[lR,agn];omega
   |some y=>
   rw[DP] at lR;obtain⟨rfl,rfl⟩:=lR;have:=oj n9 DP;simp only[agl,agk];omega
  ·exact XC
  ·simp[dp,aH,aD,put]
  ·refine⟨amU,ak2,trivial⟩
  exact XE
end

def BE (a b:Attr):Int:=Lib.compareBytes a.name b.name
def Attr.IL (a:Attr):AV:= .agg [.str a.name,.str a.val]
section
variable {P:Program} {G:Nat->Option (List IV)} [KN P G]
def Ay (hX:∀(N:Nat) (s t:Bs) (H:Hp),lT ⟨P,G,N⟩ 205 [.str s,.str t] H (.int .i64 (Lib.compareBytes s t))) (s t:Bs) :
  aj P G 182 [.str s,.str t] (.int .i64 (Lib.compareBytes s t)):=by
 refine au (cw 182 []) ajL ajO ajP ?_;simp only[↓aX,mX,seval];refine Dl (hX _ _ _ _) ?_;simp only[↓aX,mX,seval]
def Gg (s t:Bs) (hC:aj P G 182 [.str s,.str t] (.int .i64 (Lib.compareBytes s t))) :
  aj P G 150 [.str s,.str t] (.int .i64 (Lib.compareBytes s t)):=by
 refine au (cw 150 []) ajL ajO ajP ?_;simp only[↓aX,mX,seval];refine ah hC ?_;simp only[↓aX,mX,seval]
def acj (a b:Attr) (hC:aj P G 150 [.str a.name,.str b.name] (.int .i64 (Lib.compareBytes a.name b.name))) :
  aj P G 149 [a.IL,b.IL] (.int .i64 (BE a b)):=by
 refine au (cw 149 []) ajL (by simp[ai,AV.aq,Attr.IL]) ajP ?_;simp only[↓aX,mX,seval,Attr.IL];refine ah hC ?_;simp only[↓aX,mX,seval,BE]
theorem Az:∀s t:Bs,decide (Lib.compareBytes s t<0)=Op.bytesLess s t
 |[],[]=>rfl
 |[],_::_=>rfl
 |_::_,[]=>rfl
 |a::az,b::bs=>by
  have ih:=Az az bs;simp only[Lib.compareBytes,Op.bytesLess];by_cases h1:a<b
  ·simp[h1]
  by_cases h2:b<a
  ·simp only[h1,h2,agn,agk];have:¬a=b:=λe=>h1 (by rw[e] at h2;exact absurd h2 (mJ _));simp_all
  have h3:a=b:=(Il a b).elim (λh=>absurd h h1) (λh=>h.elim id (λh=>absurd h h2));subst h3;simp only[mJ,agk,ih]
  try simp
def Qy (a b:Attr):decide (BE a b<0)=Op.bytesLess a.name b.name:=Az _ _
def swap_perm {L:List Attr} {i j:Nat} {x y:Attr} (hi:L[i]?=some x) (hj:L[j]?=some y):((L.set i y).set j x).Perm L:=by
 obtain⟨h1,e1⟩:=afY.1 hi;obtain⟨h2,e2⟩:=afY.1 hj;subst e1;subst e2;exact List.set_set_perm h1 h2
def yw:List Attr->Prop
 |[]=>True
 |x::r=>(∀y∈r,Op.bytesLess y.name x.name=false)/\yw r
def Qz {l:List Attr} {a x:Attr}:x∈jL l a↔x=a\/x∈l:=by
 induction l with
 |nil=>simp[jL]
 |cons b r ih=>
 unfold jL;split
 ·simp
 simp[ih];constructor<;>(rintro(h|h|h)<;>simp[h])
def AA {l:List Attr} (a:Attr) (h:yw l):yw (jL l a):=by
 induction l with
 |nil=>simp[jL,yw]
 |cons b r ih=>
 unfold jL;split
 ·rename_i aF;refine⟨λy hy=> ?_,h⟩;rcases aga.1 hy with rfl|hy
  ·exact vl aF
  have:=h.1 y hy;cases hc:Op.bytesLess y.name a.name with
  |false=>rfl
  |true=>have:=qa hc aF;simp_all
 rename_i aF;refine⟨λy hy=> ?_,ih h.2⟩;rcases Qz.1 hy with rfl|hy
 ·simpa using aF
 exact h.1 y hy
def MT (l:List Attr):yw (df l):=by
 have key:∀(l acc:List Attr),yw acc->yw (l.foldl jL acc):=by
  intro l;induction l with
  |nil=>intro acc h;exact h
  |cons a r ih=>intro acc h;exact ih _ (AA a h)
 exact key l [] trivial
def AB {p q:List Attr} (h:yw (p++q)):yw p/\∀x∈p,∀y∈q,Op.bytesLess y.name x.name=false:=by
 induction p with
 |nil=>exact⟨trivial,ajL⟩
 |cons a r ih=>
 obtain⟨h1,h2⟩:=h;obtain⟨h3,h4⟩:=ih h2;refine⟨⟨λy hy=>h1 y alK,h3⟩,λx hx y hy=> ?_⟩;rcases aga.1 hx with rfl|hx
 ·exact h1 y alK
 exact h4 x hx y hy
theorem DT {x:Attr}:∀{pre suf:List Attr},(∀y∈pre,Op.bytesLess x.name y.name=false)->(∀y∈suf,Op.bytesLess x.name y.name=true)->jL (pre++suf) x=pre++x::suf
 |[],[],_,_=>rfl
 |[],b::r,_,h=>by simp only[List.nil_append,jL,h b ajL,agn]
 |a::p,suf,h1,h2=>by
  have:=DT (pre:=p) (suf:=suf) (x:=x) (λy hy=>h1 y alK) h2;simp only[List.cons_append,jL,h1 a ajL,agl,agk,this]
def IM (l:List Attr) (x:Attr):df (l++[x])=jL (df l) x:=by unfold df;rw[aiI];rfl
def lY {L:List Attr} {i:Nat} {x:Attr} (h:L[i]?=some x):(ak (aQ L))[i]?=some [.str x.name,.str x.val]:=by
 rw[uY,ln,h];rfl
def sZ (L:List Attr) (i:Nat) (x:Attr):(ak (aQ L)).set i [.str x.name,.str x.val]=ak (aQ (L.set i x)):=by
 have:=zq (aQ L) i x.iv;rw[show(ak (aQ L)).set i [.str x.name,.str x.val]=(ak (aQ L)).set i (x.iv.cells.map IV.dw) from rfl,this];congr 1;simp[aQ,aiT]
def TY {fW:Nat} (hB:dE P fW=true) (hC:∀a b:Attr,aj P G fW [a.IL,b.IL] (.int .i64 (BE a b)))
  (l:List Attr) (hl:l.length<=B) (a b:Nat) (hab:a<=b) (hb:b<=l.length) :
  nN P G 203 [.sl (.par 0) 2 0 l.length,.int .i64 a,.int .i64 b,.fn fW [] []] 2 (aQ l) λx ys=>∃zs:List Attr,ys=aQ zs/\zs.Perm l/\(a=0->zs=df (l.take b)++l.drop b)/\(a=b->zs=l):=by
 refine mM (cw 203 [.f 26 8 (.rw [(.par 0)] []),.f 31 13 (.rw [(.par 0)] []),.f 46 9 (.rw [(.par 0)] []),.f 50 13 (.rw [(.par 0)] []),.f 37 15 (.rw [] [(.par 0)]),.f 37 17 (.rw [] [(.par 0)])]) ajL ajO ?_;have gV:B=1073741824:=rfl;simp only[↓aX,mX,seval,eP];have P6:=w1 a;rw[P6];clear P6;refine b_ (σ:={q:Nat×List Attr // a+1<=q.1/\q.1<=max b (a+1)/\q.2.Perm l/\(a=0->q.2=df (l.take q.1)++l.drop q.1)/\(q.1=a+1->q.2=l)}) [.par 0]
  (λq=>[(0,.sl (.par 0) 2 0 l.length),(1,.int .i64 a),(2,.int .i64 b),(3,.fn fW [] []),(8,.int .i64 q.1.1)]) (λq=>[(.par 0,⟨2,ak (aQ q.1.2)⟩)]) (λq=>b+1 - q.1.1)
  ⟨(a+1,l),af6 _,ajM,.refl _,λh=> ?_,λ_=>rfl⟩ (λ_=>rfl) ajN ajO ?_ ?_ ?_
 ·subst h;cases l with
  |nil=>rfl
  |cons x r=>simp[df,jL]
 ·exact HZ
 ·exact O5
 rintro⟨⟨i,L⟩,NX,P0,hp,hs,et⟩;simp only at NX P0 hp hs et;have hLl:L.length=l.length:=hp.length_eq;simp only[↓aX,mX,seval,aR,aI];by_cases aF:i<b
 ·rw[dT aF];have VL:=w1 i;simp only[↓aX,mX,seval];refine b_ (σ:={q:Nat×List Attr // a<=q.1/\q.1<=i/\q.2.Perm l/\(a=0->∃pre suf x,l[i]?=some x/\pre++suf=df (l.take i)/\q.2=pre++x::(suf++l.drop (i+1))/\pre.length=q.1/\∀y∈suf,Op.bytesLess x.name y.name=true)}) [.par 0]
   (λq=>[(0,.sl (.par 0) 2 0 l.length),(1,.int .i64 a),(2,.int .i64 b),(3,.fn fW [] []),(8,.int .i64 i),(9,.int .i64 q.1.1)]) (λq=>[(.par 0,⟨2,ak (aQ q.1.2)⟩)]) (λq=>q.1.1)
   ⟨(i,L),ajM,af6 _,hp,λh=> ?_⟩ (λ_=>rfl) ajN ajO ?_ ?_ ?_
  ·obtain⟨x,hx⟩:∃x,l[i]?=some x:=⟨_,af7 ajK⟩;refine⟨df (l.take i),[],x,hx,ajL,?_,?_,ajL⟩
   ·simp only;rw[hs h,ag1 (show i<l.length by omega),(afY.1 hx).2,List.nil_append]
   rw[CH,agA];simp only;omega
  ·exact HZ
  ·exact O5
  rintro⟨⟨j,M⟩,HK,qy,hM,VH⟩;simp only at HK qy hM VH;have Gi:M.length=l.length:=hM.length_eq;simp only[↓aX,mX,seval,aR,aI];refine⟨aj7,?_⟩;have done:∀pre suf x,l[i]?=some x->pre++suf=df (l.take i)->M=pre++x::(suf++l.drop (i+1))->(∀y∈suf,Op.bytesLess x.name y.name=true)->(∀y∈pre,Op.bytesLess x.name y.name=false)->M=df (l.take (i+1))++l.drop (i+1):=by
   intro pre suf x h1 h2 h3 h4 h5;rw[agz,h1,ahR,IM,<-h2,DT h5 h4,h3];simp
  by_cases hja:a<j
  ·rw[show decide (((j:Nat):Int)>((a:Nat):Int))=true by simpa using hja];have Ch:IntKind.i64.wrap ((j:Int) - 1)=((j - 1:Nat):Int):=ajW;obtain⟨x,hx⟩:∃x,M[j]?=some x:=⟨_,af7 ajK⟩;obtain⟨y,hy⟩:∃y,M[j - 1]?=some y:=⟨_,af7 ajK⟩;have ack:=hC x y;simp only[Attr.IL] at ack;simp only[↓aX,mX,seval,Ch,af5,af0,agh,lY hx,lY hy,show j<l.length by omega,show j - 1<l.length by omega,uU,Dn];refine⟨hB,dG ack ?_⟩;simp only[↓aX,mX,seval,Qy];have acm:a=0->∀{pre suf:List Attr} {z:Attr},l[i]?=some z->pre++suf=df (l.take i)->M=pre++z::(suf++l.drop (i+1))->pre.length=j->Op.bytesLess x.name y.name=false->∀w∈pre,Op.bytesLess z.name w.name=false:=by
    intro h pre suf z h1 h2 h3 h4 sH w hw;have hz:z=x:=by
     rw[h3,agr ajK,h4] at hx;simpa using hx
    subst hz;obtain⟨DU,y',rfl⟩:∃DU y',pre=DU++[y']:=by
     rcases aiQ pre with h|⟨p',y',h⟩
     ·subst h;simp at h4;omega
     exact⟨p',y',aj6⟩
    have HD:DU.length=j - 1:=(by simp at h4;omega);have hyy:y'=y:=by
     rw[h3,agM,agr ajK,HD,ahc] at hy;simpa using hy
    subst hyy;have hsr:=MT (l.take i);rw[<-h2] at hsr;have pN:=(AB (AB hsr).1).2;rcases agi.1 hw with hw|hw
    ·have h6:=pN w hw y' ajL;cases hc:Op.bytesLess z.name w.name with
     |false=>rfl
     |true=>
     rcases tH y'.name w.name with h7|h7|h7
     ·rw[h7] at h6;cases h6
     ·rw[h7,hc] at sH;cases sH
     rw[qa hc h7] at sH;cases sH
    simp only[af'] at hw;subst hw;exact sH
   cases sH:Op.bytesLess x.name y.name with
   |true=>
    simp only[↓aX,mX,seval];refine⟨aj7,?_⟩;simp only[↓aX,mX,seval,Ch,af5,af0,agh,lY hx,lY hy,show j<l.length by omega,show j - 1<l.length by omega,ie];have nE:(M.set j y)[j - 1]?=some y:=(by rw[ahg ajK];exact hy);rw[sZ M j y];simp only[↓aX,mX,seval,lY nE,Ch];refine⟨⟨(j - 1,(M.set j y).set (j - 1) x),ajM,ajM,(swap_perm hx hy).trans hM,λh=> ?_⟩,ajM,eu ?_ ajT ⟨by simp only[ae,agn];rw[sZ],trivial⟩⟩
    ·obtain⟨pre,suf,z,h1,h2,h3,h4,h5⟩:=VH h;have hz:z=x:=by
      rw[h3,agr ajK,h4] at hx;simpa using hx
     subst hz;obtain⟨DU,y',rfl⟩:∃DU y',pre=DU++[y']:=by
      rcases aiQ pre with h|⟨p',y',h⟩
      ·subst h;simp at h4;omega
      exact⟨p',y',aj6⟩
     have HD:DU.length=j - 1:=(by simp at h4;omega);have hyy:y'=y:=by
      rw[h3,agM,agr ajK,HD,ahc] at hy;simpa using hy
     subst hyy;refine⟨DU,y'::suf,z,h1,by rw[<-h2];simp,?_,HD,λw hw=> ?_⟩
     ·simp only;rw[h3];have kE:j=DU.length+1:=ajK;subst kE;simp[ahr]
     rcases aga.1 hw with rfl|hw
     ·exact sH
     exact h5 w hw
    exact XO
   |false=>
   simp only[↓aX,mX,seval,VL];refine⟨⟨(i+1,M),ajM,ag' aF (Nat.le_max_left _ _),hM,λh=> ?_,λh=>absurd h ajM⟩,ajM,eu ?_ ajT ajT⟩
   ·obtain⟨pre,suf,z,h1,h2,h3,h4,h5⟩:=VH h;exact done pre suf z h1 h2 h3 h5 (acm h h1 h2 h3 h4 sH)
   exact XO
  rw[show decide (((j:Nat):Int)>((a:Nat):Int))=false by simpa using hja];simp only[↓aX,mX,seval,VL];refine⟨⟨(i+1,M),ajM,ag' aF (Nat.le_max_left _ _),hM,λh=> ?_,λh=>absurd h ajM⟩,ajM,eu ?_ ajT ajT⟩
  ·obtain⟨pre,suf,z,h1,h2,h3,h4,h5⟩:=VH h;exact done pre suf z h1 h2 h3 h5 (by have:pre=[]:=agU ajK;rw[this];simp)
  exact XO
 rw[dF aF];simp only[↓aX,mX,seval,fF,eY,fw];refine⟨_,rfl,aQ L,⟨L,rfl,hp,λh=> ?_,λh=>et ajK⟩,ajU,by rw[aE,aE,hLl],ajR⟩;rw[hs h];by_cases hbi:i=b
 ·rw[hbi]
 have yB:b=0:=ajK
 have aeu:i=1:=ajK
 subst yB;subst aeu;cases l with
 |nil=>rfl
 |cons x r=>simp[df,jL]
end

def fJ (az:List Attr) (key:Bs):Nat:=(az.takeWhile λa=>Op.bytesLess a.name key).length
def vF (az:List Attr) (key:Bs):Bool:=match az[fJ az key]? with|some a=>a.name==key|none=>false
theorem KR {key:Bs}:∀{az:List Attr} {k:Nat},k<=az.length->(∀j a,j<k->az[j]?=some a->Op.bytesLess a.name key=true)->(∀a,az[k]?=some a->Op.bytesLess a.name key=false)->fJ az key=k
 |[],k,h,_,_=>by simp at h;subst h;rfl
 |a::r,0,_,_,h2=>by
  have:=h2 a rfl;simp[fJ,aif,this]
 |a::r,k+1,h,h1,h2=>by
  have ha:=h1 0 a ajK rfl;have ih:=KR (key:=key) (az:=r) (k:=k) aj6 (λj b hj hb=>h1 (j+1) b ajK al7) (λb hb=>h2 b al7);simp only[fJ] at ih;simp[fJ,aif,ha,ih]
def Gj {az:List Attr} (h:gA az=true):∀{i j:Nat} {a b:Attr},i<j->az[i]?=some a->az[j]?=some b->Op.bytesLess a.name b.name=true:=by
 induction az with
 |nil=>intro i j a b _ hi;simp at hi
 |cons x r ih=>
 intro i j a b NR hi hj;cases j with
 |zero=>omega
 |succ j=>
 simp only[aho] at hj;cases i with
 |zero=>
  simp only[agF,afZ] at hi;subst hi;exact yS h b (af3 hj)
 |succ i=>exact ih (wK h) (Nat.lt_of_succ_lt_succ NR) alx hj
section
variable {P:Program} {G:Nat->Option (List IV)} [KN P G]
def acn (a:Attr) (s:Bs) (hC:aj P G 150 [.str a.name,.str s] (.int .i64 (Lib.compareBytes a.name s))) :
  aj P G 189 [a.IL,.str s] (.int .i64 (Lib.compareBytes a.name s)):=by
 refine au (cw 189 []) ajL (by simp[ai,AV.aq,Attr.IL]) ajP ?_;simp only[↓aX,mX,seval,Attr.IL];refine ah hC ?_;simp only[↓aX,mX,seval]
theorem Gk:∀s t:Bs,(Lib.compareBytes s t==0)=(s==t)
 |[],[]=>rfl
 |[],_::_=>rfl
 |_::_,[]=>rfl
 |a::az,b::bs=>by
  have ih:=Gk az bs;simp only[Lib.compareBytes];by_cases h1:a<b
  ·have:a≠b:=λe=>(by subst e;exact absurd h1 (mJ _));simp[h1,this]
  by_cases h2:b<a
  ·have:a≠b:=λe=>(by subst e;exact absurd h2 (mJ _));simp[h1,h2,this]
  have h3:a=b:=(Il a b).elim (λh=>absurd h h1) (λh=>h.elim id (λh=>absurd h h2));subst h3;simp[mJ,ih]
structure BsS (az:List Attr) (key:Bs) where
 lo:Nat
 hi:Nat
 h1:lo<=hi
 h2:hi<=az.length
 h3:∀j a,j<lo->az[j]?=some a->Op.bytesLess a.name key=true
 h4:∀j a,hi<=j->az[j]?=some a->Op.bytesLess a.name key=false
def IN {fc:Nat} (az:List Attr) (key:Bs) (hx:az.length<=B) (hr:gA az=true) (hb:dE P fc=true)
  (hC:∀a∈az,aj P G fc [a.IL,.str key] (.int .i64 (Lib.compareBytes a.name key))) :
  aj P G 188 [.list (aQ az),.str key,.fn fc [] []] (.bq [.int .i64 (fJ az key),.bool (vF az key)]):=by
 refine au (cw 188 []) ajL ajO ajU ?_;have gV:B=1073741824:=rfl;simp only[↓aX,mX,seval,aE];refine dj (σ:=BsS az key) (λq=>[(0,.list (aQ az)),(1,.str key),(2,.fn fc [] []),(8,.int .i64 az.length),(9,.int .i64 q.lo),(10,.int .i64 q.hi)]) (λq=>q.hi - q.lo)
  ⟨0,az.length,ajK,ajK,λj a h=>by omega,λj a h ha=>by rw[agK ajK] at ha;cases ha⟩ (λ_=>rfl) ?_ ?_
 ·exact qi
 rintro⟨lo,hi,h1,h2,h3,h4⟩;simp only[↓aX,mX,seval,aE];by_cases aF:lo<hi
 ·rw[dT aF];obtain⟨m,hm⟩:∃m,m=(lo+hi)/2:=⟨_,rfl⟩;have hw:IntKind.i64.wrap (IntKind.u64.wrap (IntKind.i64.wrap ((lo:Int)+(hi:Int)))/2^min 1 IntKind.u64.bits)=(m:Int):=by
   have h1:IntKind.i64.wrap ((lo:Int)+(hi:Int))=((lo+hi:Nat):Int):=ajW;rw[h1];have h2:IntKind.u64.wrap ((lo+hi:Nat):Int)=((lo+hi:Nat):Int):=(by rw[IntKind.wrap_u64];omega);have h3:min 1 IntKind.u64.bits=1:=ajN;rw[h2,h3];have h4:((lo+hi:Nat):Int)/2^1=(((lo+hi)/2:Nat):Int):=ajK;rw[h4,wrap64 ajK ajK,hm]
  have hw5:=w1 m;obtain⟨x,nE⟩:∃x,az[m]?=some x:=⟨_,af7 ajK⟩;simp only[↓aX,mX,seval,hw,ln,nE,af9,kx,Attr.ax,Attr.cs,aU,bD,hb];refine ah (hC x (af3 nE)) ?_;simp only[↓aX,mX,seval,Az];refine j7 (λh=> ?_) (λh=> ?_)
  ·simp only[↓aX,mX,seval,hw5];refine⟨⟨m+1,hi,ajK,h2,λj a hj ha=> ?_,h4⟩,ajM,rfl,rfl⟩;by_cases e:j=m
   ·rw[e,nE] at ha;cases ha;exact h
   exact qa (Gj hr (by omega:j<m) ha nE) h
  simp only[↓aX,mX,seval];refine⟨⟨lo,m,ajK,ajK,h3,λj a hj ha=> ?_⟩,ajM,rfl,rfl⟩;by_cases e:j=m
  ·rw[e,nE] at ha;cases ha;exact h
  cases hq:Op.bytesLess a.name key with
  |false=>rfl
  |true=>rw[qa (Gj hr (by omega:m<j) nE ha) hq] at h;cases h
 have he:lo=hi:=ajK
 subst he;have hp:fJ az key=lo:=KR h2 h3 (λa ha=>h4 lo a (af6 _) ha);rw[show decide ((lo:Int)<(lo:Int))=false by simp];simp only[↓aX,mX,seval];refine Xg (λh=> ?_) (λh=> ?_)
 ·have aF:lo<az.length:=by simpa using h
  obtain⟨x,nE⟩:=gE aF;simp only[↓aX,mX,seval,h,ln,nE,af9,kx,Attr.ax,Attr.cs,aU,bD,hb];refine ah (hC x (af3 nE)) ?_;simp only[↓aX,mX,seval,h,Gk,B7,eY,qF,afZ,ajn,fw,hp,vF,nE]
 simp only[↓aX,mX,seval,h,B7,eY,qF,afZ,ajn,fw,hp,vF];rw[agK aki]
end

def cy {n0 i:Nat} {lab:Nat->Lb} {x:Node} (h:i<n0):b5 n0 lab i x=[.bool x.text,.str x.s,.sl (lab (4+2*i)) 2 0 x.attrs.length,.int .i64 x.parent,.sl (lab (5+2*i)) 1 0 x.kids.length]:=by simp[b5,h]
def AD {n0 i:Nat} {lab:Nat->Lb} {x:Node} (h:n0<=i):b5 n0 lab i x=[.bool x.text,.str x.s,.list (aQ x.attrs),.int .i64 x.parent,.list (x.kids.map aC)]:=by simp[b5,Nat.not_lt.2 h]
def Bn.all (b:Bn):List Nat:=List.range (4+2*b.n0)
def Gl {H:Hp} {l:Lb} {sz n:Nat} {xs:List IV} (h:H l= .live ⟨sz,ak xs⟩) (hf:Flat xs) (hn:n=xs.length):C_ H (.sl l sz 0 n) (.list xs):=by
 subst hn;have:=C_.row l sz 0 xs.length xs h ajK hf;simpa using this
section
variable {P:Program} {G:Nat->Option (List IV)} [KN P G]
def YJ (b:Bn) (n p:Nat) (x y:Node) (hx:b.nodes[n]?=some x) (hp:x.parent=p) (hy:b.nodes[p]?=some y) (qT:p<b.n0)
  (hI:aj P G 187 [.list (y.kids.map aC),.int .i64 n] (.int .i64 (mc y.kids n))) :
  r_ P G 157 [.ptr (.par 0) 3 0 0,.int .i64 n] (dh b) b.all λX R2=>X=(λ_=> .bq [.int .i64 p,.int .i64 (mc y.kids n)])/\R2=dh b:=by
 refine ez (cw 157 []) ajL (by simp[ai,AV.aq,aW];omega) ?_;have hA:b8 Lb.par b (n7 (dh b)):=mb _;obtain⟨JJ,-⟩:=afY.1 hx;obtain⟨Hj,-⟩:=afY.1 hy;simp only[↓aX,mX,seval,hA.s,hA.n,af5,af0,JJ,Hj,agR,agt,agh,hA.get hx,hA.get hy,cy qT];simp only[↓aX,mX,seval,b5,hA.s,hA.n,af5,af0,JJ,Hj,agR,agt,agh,hA.get hx,hA.get hy,cy qT,hp];rw[agc qT];refine HY hI (.cons (Gl (hA.kd qT hy) (mj _) ajL) (.cons (.same _) .nil)) rfl ?_;simp only[↓aX,mX,seval,B7,eY,qF,afZ,ajn,fw];refine⟨⟨(λ_=> .bq [.int .i64 p,.int .i64 (mc y.kids n)]),dh b,Lb.par⟩,⟨rfl,rfl⟩,λρ=>by simp[aH,aA],ajU,rfl,hA,λ_ _=>rfl⟩
def Bn.add (b:Bn) (t:Tree) (p:Int):Bn:={b with nodes:=b.nodes++t.flat b.nodes.length p}
def Bn.jm (b:Bn) (t:Tree) (p:Int) (i:Nat):Bn:={b with nodes:=b.nodes++⟨t.text,t.s,t.attrs,p,[]⟩::ct (b.nodes.length+1) b.nodes.length (t.kids.take i)}
def Bn.NY (b:Bn) (p:Nat):List Nat:=(List.range (4+2*b.n0)).filter (·≠p)
def ik {b:Bn} {p q:Nat}:q∈b.NY p↔q<4+2*b.n0/\q≠p:=by simp[Bn.NY]
def bf (N:Lb):Nat->Lb:=λp=>if p=1 then N else .par p
def lO {N:Lb} (h:∀p,p≠1->N≠ .par p) {p q:Nat} (e:bf N p=bf N q):p=q:=by
 unfold bf at e;split at e<;>split at e
 ·omega
 ·exact absurd e (h _ ajK)
 ·exact absurd e.symm (h _ ajK)
 simpa using e
structure TZ (t:Tree) where
 i:Nat
 hi:i<=t.kids.length
def Gm (b:Bn) (t:Tree) (q:TZ t):List (Nat×AV):=
 [(0,.ptr (.par 0) 3 0 0),(7,.int .i64 b.nodes.length),(8,.sl (.loc 8) 1 0 q.i),(35,.list (aM t.kids)),(36,.int .i64 t.kids.length),(37,.int .i64 q.i)]
def q_ (b:Bn) (t:Tree) (q:TZ t):List (Lb×Row):=
 [(.loc 8,⟨1,ak ((aG (b.nodes.length+1) (t.kids.take q.i)).map aC)⟩)]
def ko.tp {lab:Nat->Lb} {R:n6} {H:Hp} (h:ko lab R H) {q:Lb} {s:Slot} (hq:∀p,R.ok p->lab p≠q):ko lab R (aS H q s):=
 ⟨λp r hr=>by rw[an _ _ (hq p ((R.jM lab p).1 (by rw[hr];rfl)))];exact h.row p r hr,h.inj⟩
def aco (b:Bn) (hn:b.n0<=b.nodes.length) (t:Tree) (p:Int) (hb:b.nodes.length+t.wt<=B)
  (hC:aj P G 45 [.list (aQ t.attrs)] (.list (aQ t.attrs)))
  (hR:∀(b':Bn) (k:Tree),k∈t.kids->b'.n0=b.n0->b.n0<=b'.nodes.length->b'.nodes.length+k.wt<=B->r_ P G 185 [.ptr (.par 0) 3 0 0,k.av,.int .i64 b.nodes.length] (dh b') (b.NY 1) λX R2=>X=(λ_=> .int .i64 b'.nodes.length)/\R2=dh (b'.add k b.nodes.length)) :
  r_ P G 185 [.ptr (.par 0) 3 0 0,t.av,.int .i64 p] (dh b) (b.NY 1) λX R2=>X=(λ_=> .int .i64 b.nodes.length)/\R2=dh (b.add t p):=by
 refine ez (cw 185 [.f 16 6 (.rw [.loc 4] []),.f 16 8 (.rw [.loc 4] []),.f 16 10 (.rw [.loc 4] []),.a 8 (.own 8 1),.b 49 (.tj (.loc 8) 8),.f 20 4 (.rw [(.par 0)] []),.f 31 15 (.rw [] [(.par 1),(.gen 31)]),.f 31 18 (.rw [] [(.par 0)])]) ajL alG ?_;have hA:b8 Lb.par b (n7 (dh b)):=mb _;have hU:∀q:Lb,(∀p,p<4+2*b.n0->q≠ .par p)->n7 (dh b) q= .unused:=λq hq=>gx _ λp hp e=>hq p (aW.1 hp) e.symm;have h4:n7 (dh b) (.loc 4)= .unused:=hU _ ajL;have h8:n7 (dh b) (.loc 8)= .unused:=hU _ ajL;have hg:n7 (dh b) (.gen 31)= .unused:=hU _ ajL;have Kh:=t.dL;have xx:=bO t.kids;have gV:B=1073741824:=rfl;simp only[↓aX,mX,seval,Tree.av,hA.s,hA.n,h4,agw];refine⟨rfl,?_⟩;refine dG hC ?_;simp only[↓aX,mX,seval,Tree.av,hA.s,hA.n,h4];rw[Dk (l:= .par 1) (els:=b.nodes.mapIdx (b5 b.n0 Lb.par)) (xs:=[.agg [.bool t.text,.str t.s,.list (aQ t.attrs),.int .i64 p,.list []]]) (by simp[ae,hA.n]) ajL alE alq ajY ajN aj3 (by simp[Lb.app,Lb.fresh,ae,hg])];simp only[↓aX,mX,seval,hA.s,h8,h4];refine⟨akc,?_⟩;have acp:∀H2:Hp,H2 (.par 0)= .live ⟨3,[[.sl (.gen 31) 5 0 (b.nodes.length+1),.sl (.par 2) 1 0 b.fs.length,.sl (.par 3) 1 0 b.az.length]]⟩ ->
   H2 (.gen 31)= .live ⟨5,b.nodes.mapIdx (b5 b.n0 Lb.par)++[[.bool t.text,.str t.s,.list (aQ t.attrs),.int .i64 p,.list []]]⟩->(∀q,q≠ .par 0->q≠ .par 1->q≠ .gen 31->q≠ .loc 4->q≠ .loc 8->H2 q=n7 (dh b) q) ->
   b8 (bf (.gen 31)) (b.jm t p 0) H2:=by
  intro H2 e0 e1 e2;have:=b8.push (H2:=λq=>if q= .loc 4\/q= .loc 8 then n7 (dh b) q else H2 q) hA (y:=⟨t.text,t.s,t.attrs,p,[]⟩) (N:= .gen 31) hn (.inr ajL) (by simp[e0]) an3 (by
   intro q g1 g2 g3;by_cases g4:q= .loc 4\/q= .loc 8
   ·simp[g4]
   simp only[g4,agk];exact e2 q g1 g2 g3 (λe=>g4 (.inl e)) (λe=>g4 (.inr e)))
  refine⟨λq r hr=> ?_,this.inj⟩;have h1:=this.row q r hr;have h2:¬(bf (.gen 31) q= .loc 4\/bf (.gen 31) q= .loc 8):=by unfold bf;split<;>simp
  exact(af8 h2).symm.trans h1
 have kn:∀q:TZ t,∀p',(dh (b.jm t p q.i)).ok p'↔p'<4+2*b.n0:=λq p'=>aW;have NX:∀p',p'≠1->Lb.gen 0≠ .par p':=ajL
 refine sb (σ:=TZ t) (bf (.gen 0)) (λq=>dh (b.jm t p q.i)) [.loc 8] (λl=>l== .par 1) (Gm b t) (q_ b t) (λq=>t.kids.length - q.i) ⟨0,agO _⟩
  (λq p1 p2 _ _ e=>lO NX e) (λ_=>rfl) amD ?_ ?_ ?_ ?_
 ·intro q l hl;simp[ai,AV.aq,Gm] at hl;rcases hl with rfl|rfl
  ·right;exact⟨0,(kn _ _).2 ajK,by simp[bf]⟩
  left;simp
 ·intro q z hz cs aZ l hl;simp only[q_,af'] at hz;subst hz;rw[bc aZ] at hl;simp at hl
 ·refine⟨bf (.gen 31),[],?_⟩;have r0:kg (bf (.gen 0)) (bf (.gen 31)) (dh (b.jm t p 0)) [] (.par 0)= .par 0:=
   gg (labC:=bf (.gen 0)) (λp1 p2 _ _ e=>lO NX e) (p:=0) (aW.2 ajK)
  have r8:kg (bf (.gen 0)) (bf (.gen 31)) (dh (b.jm t p 0)) [] (.loc 8)= .loc 8:=fV akf;refine⟨acp _ ajR (by simp[ae,ak,IV.cells,IV.dw,af2]) (by intro q g1 g2 g3 g4 g5;simp[ae,g1,g2,g3,g4,g5]),?_,?_,?_,ajS,?_,akU,?_⟩
  ·intro l he hu;cases l with
   |par k=>
    by_cases h1:k=1
    ·subst h1;right;right;rfl
    left;refine⟨k,aW.2 ?_,anE⟩;refine ahC λhk=>hu ?_;by_cases h0:k=0
    ·subst h0;exact absurd (by simp[Bn.jm];omega) hk
    simp only[ae,Lb.par.injEq,h0,h1,reduceCtorEq,agk];exact hU _ λp' fE e=>hk alT
   |_=>simp[Lb.entry] at he
  ·simp[Gm,dp,aH,put,fH,r0,r8,ar]
  ·intro z hz;simp only[q_,af'] at hz;subst hz;simp[aD,ae,aK];simp[aG,ak]
  ·intro l hl p' fE;simp only[af'] at hl;subst hl;simp[aD,bf];split<;>simp
  intro p' fE;refine⟨ala,?_⟩;unfold bf;split<;>simp[Lb.entry]
 intro q;obtain⟨H0,rH⟩:∃H0,H0=Ar (bf (.gen 0)) (dh (b.jm t p q.i)) (cU (λl=>l== .par 1) (q_ b t q)):=⟨_,rfl⟩;rw[<-rH];have hB:b8 (bf (.gen 0)) (b.jm t p q.i) H0:=alN
 have hO:∀l:Lb,(∀p',bf (.gen 0) p'≠l)->H0 l=cU (λl=>l== .par 1) (q_ b t q) l:=λl hl=>by rw[rH];exact gx _ λp' _=>hl p'
 have a8:H0 (.loc 8)= .live ⟨1,ak ((aG (b.nodes.length+1) (t.kids.take q.i)).map aC)⟩:=(hO _ akj).trans (by simp[cU,q_,eQ,aS]);have a10:H0 (.loc 10)= .unused:=(hO _ akj).trans (by simp[cU,q_,eQ,aS,Hp.none]);have a47:H0 (.loc 47)= .unused:=(hO _ akj).trans (by simp[cU,q_,eQ,aS,Hp.none]);have aN:∀l,H0 (NC 9 l)= .unused:=λl=>(hO _ amQ).trans (by simp[cU,q_,eQ,aS,Hp.none,NC]);have anf:∀k,H0 (.par k)≠ .unused->k<4+2*b.n0:=by
  intro k hu;refine ahC λhk=>hu ?_;rw[rH,gx _ λp' fE e=> ?_]
  ·have:k≠1:=ajK;simp[cU,q_,eQ,aS,Hp.none,this]
  have h2:=aW.1 fE;unfold bf at e;split at e<;>simp at e;subst e;exact hk h2
 clear rH hO;have hi:=q.hi;have zd:(aG (b.nodes.length+1) (t.kids.take q.i)).length=q.i:=anJ
 have hct:=mo (t.kids.take q.i);have acf:=ey t.kids q.i;simp only[↓aX,mX,seval,Gm];refine j7 (λh=> ?_) (λh=> ?_)
 ·have aF:q.i<t.kids.length:=by simpa using h
  obtain⟨k,wE⟩:∃k,t.kids[q.i]?=some k:=⟨_,af7 aF⟩;have hw:=w1 q.i;have ig:t.kids.take (q.i+1)=t.kids.take q.i++[k]:=cn wE;have Hn:bH (t.kids.take q.i)+k.wt<=bH t.kids:=by
   have:=ey t.kids (q.i+1);rw[ig,dQ] at this;simp only[bH] at this;omega
  simp only[↓aX,mX,seval,dc,wE,fa,Tree.ax,Tree.cs,a10];have DV:(b.jm t p q.i).nodes.length=b.nodes.length+1+aJ (t.kids.take q.i):=by simp[Bn.jm,jV];omega
  refine gZ (lab:=bf (.gen 0)) (N:=NC 9) (hR (b.jm t p q.i) k (af3 wE) rfl an8 an8) ?_ ?_ ?_ (q5 9) (λl h=> .inl h) (λp' fE=>aW.2 (ik.1 fE).1) ?_
  ·simp[aA,aH,As,bf,Tree.av]
  ·exact abx
  ·intro l;rw[an _ _ aj5,an _ _ aj5];exact aN l
  rintro X R2 cm H2 ⟨rfl,rfl⟩ g1 g2 g3 g4 g5 g6;have HT:∀n:Nat,n≠10->H2 (.loc n)=H0 (.loc n):=λn hn=>by
   rw[g4 (.loc n) akf aj5,an _ _ aly,an _ _ aly]
  have uj:∀p':Nat,(dh ((b.jm t p q.i).add k b.nodes.length)).ok p'->∀n,cm p'≠ .loc n:=by
   intro p' fE n;rcases g3 p' fE with⟨p0,_,e⟩|⟨l,e⟩<;>rw[e]
   ·simp[bf];split<;>simp
   simp[NC]
  have hl3:∀p',p'<4+2*b.n0->p'≠1->cm p'= .par p':=λp' h1 h2=>by rw[g2 p' (ik.2 ⟨h1,h2⟩)];simp[bf,h2]
  simp only[↓aX,mX,seval];rw[bX 1 8 47 8 ((aG (b.nodes.length+1) (t.kids.take q.i)).map aC) (.int .i64 (b.jm t p q.i).nodes.length) (by rw[HT 8 ajN,a8]) (by rw[eD,zd]) rfl aj0 ajK ajN ajN (by rw[HT 47 ajN,a47])];simp only[↓aX,mX,seval,hw];have Pk:aG (b.nodes.length+1) (t.kids.take (q.i+1))=aG (b.nodes.length+1) (t.kids.take q.i)++[((b.jm t p q.i).nodes.length:Int)]:=by
   rw[ig,mZ,DV];simp[aG]
  have Sj:(b.jm t p q.i).add k b.nodes.length=b.jm t p (q.i+1):=by
   show({(b.jm t p q.i) with nodes:=(b.jm t p q.i).nodes++k.flat (b.jm t p q.i).nodes.length b.nodes.length}:Bn)=_;rw[DV];simp[Bn.jm,ig,mE,ct]
  rw[Sj] at g1 uj;refine⟨⟨q.i+1,aF⟩,ajM,cm,[(.loc 8,.loc 47)],?_⟩;have r0:kg (bf (.gen 0)) cm (dh (b.jm t p (q.i+1))) [(.loc 8,.loc 47)] (.par 0)= .par 0:=
   (gg (labC:=bf (.gen 0)) (λp1 p2 _ _ e=>lO NX e) (p:=0) (aW.2 ajK)).trans (hl3 0 ajK ajN)
  have r8:kg (bf (.gen 0)) cm (dh (b.jm t p (q.i+1))) [(.loc 8,.loc 47)] (.loc 8)= .loc 47:=(fV akf).trans ajS;refine⟨(g1.tp λp' fE=>uj p' fE 8).tp λp' fE=>uj p' fE 47,?_,?_,?_,ajS,?_,akU,?_⟩
  ·intro l he hu;cases l with
   |par k'=>
    by_cases h1:k'=1
    ·subst h1;right;right;rfl
    left;refine⟨k',aW.2 ?_,anE⟩;refine ahC λuE=>uE ?_;refine anf k' ?_;rw[an _ _ ajL,an _ _ ajL,g4 (.par k') ?_ aj5,an _ _ ajL,an _ _ ajL] at hu
    ·exact hu
    intro p' fE e;simp only[bf] at e;split at e<;>simp at e;subst e;exact uE ((aW (b:=b.jm t p q.i)).1 fE)
   |_=>simp[Lb.entry] at he
  ·simp[Gm,dp,aH,put,iX,r0,r8]
  ·intro z hz;simp only[q_,af'] at hz;subst hz;simp[aD,ae,aK];rw[Pk];simp[ak,aC]
  ·intro l hl p' fE;simp only[af'] at hl;subst hl;simpa[aD] using uj p' fE 47
  intro p' fE;refine⟨ala,?_⟩;unfold bf;split
  ·simp[Lb.entry]
  rename_i h1;intro _;exact hl3 p' ((aW (b:=b.jm t p (q.i+1))).1 fE) h1
 have he:q.i=t.kids.length:=aki
 have hs:H0 (.par 0)= .live ⟨3,[[.sl (.gen 0) 5 0 (b.jm t p q.i).nodes.length,.sl (.par 2) 1 0 b.fs.length,.sl (.par 3) 1 0 b.az.length]]⟩:=hB.s;have yo:H0 (.gen 0)= .live ⟨5,(b.jm t p q.i).nodes.mapIdx (b5 b.n0 (bf (.gen 0)))⟩:=hB.n;have ig:t.kids.take q.i=t.kids:=by rw[he];simp
 rw[ig] at a8 zd;have hx:(b.jm t p q.i).nodes[b.nodes.length]?=some ⟨t.text,t.s,t.attrs,p,[]⟩:=by simp[Bn.jm]
 have hlen:b.nodes.length<(b.jm t p q.i).nodes.length:=(afY.1 hx).1;simp only[↓aX,mX,seval];refine⟨1,(aG (b.nodes.length+1) t.kids).map aC,0,q.i,rfl,a8,amu,mj _,?_⟩;simp only[↓aX,mX,seval,hs,yo,agw,hlen,af5,af0,agR,agt,agh,hB.get hx,AD hn];have bU:((b.jm t p q.i).nodes.mapIdx (b5 b.n0 (bf (.gen 0))))[b.nodes.length]?=some [.bool t.text,.str t.s,.list (aQ t.attrs),.int .i64 p,.list []]:=by
  have:=hB.get hx;rw[show(b.jm t p q.i).n0=b.n0 from rfl,AD hn] at this;exact this
 have hkt:((aG (b.nodes.length+1) t.kids).map aC).take q.i=(aG (b.nodes.length+1) t.kids).map aC:=af2 amu;simp only[↓aX,mX,seval,bU,hkt];have BK:(b.jm t p q.i).set b.nodes.length {(⟨t.text,t.s,t.attrs,p,[]⟩:Node) with kids:=aG (b.nodes.length+1) t.kids}=b.add t p:=by
  unfold Bn.set Bn.jm Bn.add;simp only[ig,Tree.nY,Tree.node];rw[ahr _ _ (af6 _)];simp
 refine⟨⟨λ_=> .int .i64 b.nodes.length,dh (b.add t p),bf (.gen 0)⟩,⟨rfl,rfl⟩,λρ=>rfl,ajP,rfl,?_,?_⟩
 ·rw[<-BK];refine b8.ael (H:=aS H0 (.loc 8) .dead) (hB.tp akf) (i:=b.nodes.length) hn hx ?_ ?_
  ·show aS _ _ _ (Lb.gen 0)=_;simp[ae];rfl
  intro l hl;have:l≠ .gen 0:=hl;simp[ae,this]
 intro p' fE;have:=(ik.1 fE).2;simp[bf,this]
theorem AE:∀{l:List Tree} {k:Tree},k∈l->k.cC<=aJ l
 |x::r,k,h=>by
  rcases aga.1 h with rfl|h
  ·simp only[aJ];omega
  have:=AE h;simp only[aJ];omega
def YK (P:Program) (G:Nat->Option (List IV)) (f:Nat):Prop:=∀xs:List Attr,xs.length<=B->aj P G f [.list (aQ xs)] (.list (aQ xs))
theorem acq (hC:YK P G 45):∀(m:Nat) (t:Tree),t.cC<=m->∀(b:Bn),b.n0<=b.nodes.length->∀(p:Int),b.nodes.length+t.wt<=B ->
  r_ P G 185 [.ptr (.par 0) 3 0 0,t.av,.int .i64 p] (dh b) (b.NY 1) λX R2=>X=(λ_=> .int .i64 b.nodes.length)/\R2=dh (b.add t p)
 |0,t,h,_,_,_,_=>by have:=t.ca;omega
 |m+1,t,h,b,hn,p,hb=>by
  have hw:=t.dL;have hl:=fS t.attrs;refine aco b hn t p hb (hC _ ajK) λb' k hk h0 h1 h2=> ?_;have h3:b'.NY 1=b.NY 1:=by unfold Bn.NY;rw[h0]
  rw[<-h3];obtain⟨i,hi⟩:=agE hk;have:=AE hk;exact acq hC m k (by rw[t.ff] at h;omega) b' ajK _ h2
end

def Bn.eH (b:Bn) (p:Nat) (l:List Tree):Bn:={b with nodes:=b.nodes++ct b.nodes.length p l}
def Bn.ins (b:Bn) (p pl:Nat) (l:List Tree):Bn:=match b.nodes[p]? with
 |some x=>(b.eH p l).set p {x with kids:=x.kids.take pl++aG b.nodes.length l++x.kids.drop pl}
 |none=>b
def Bn.IP (b:Bn) (p q:Nat):List Nat:=(List.range (4+2*b.n0)).filter λi=>i≠p/\i≠q
def jC {b:Bn} {p q i:Nat}:i∈b.IP p q↔i<4+2*b.n0/\i≠p/\i≠q:=by simp[Bn.IP]
def YL (P:Program) (G:Nat->Option (List IV)) (f:Nat):Prop:=∀(xs vs:List Int) (i:Nat),i<=xs.length->xs.length+vs.length<=B ->
 qj P G 1 f [.sl (.par 0) 1 0 xs.length,.int .i64 i,.list (vs.map aC)] (xs.map aC) ((xs.take i++vs++xs.drop i).map aC)
def QA (P:Program) (G:Nat->Option (List IV)) (f:Nat):Prop:=∀(xs:List Int) (i:Nat),i<xs.length->xs.length<=B ->
 qj P G 1 f [.sl (.par 0) 1 0 xs.length,.int .i64 i,.int .i64 ((i+1:Nat):Int)] (xs.map aC) ((xs.take i++xs.drop (i+1)).map aC)
def aev (P:Program) (G:Nat->Option (List IV)) (f:Nat):Prop:=∀(t:Tree) (b:Bn),b.n0<=b.nodes.length->∀(p:Int),b.nodes.length+t.wt<=B ->
 r_ P G f [.ptr (.par 0) 3 0 0,t.av,.int .i64 p] (dh b) (b.NY 1) λX R2=>X=(λ_=> .int .i64 b.nodes.length)/\R2=dh (b.add t p)
section
variable {P:Program} {G:Nat->Option (List IV)} [KN P G]
structure T0 (l:List Tree) where
 i:Nat
 hi:i<=l.length
def Gn (b:Bn) (p pl:Nat) (l:List Tree) (q:T0 l):List (Nat×AV):=
 [(0,.ptr (.par 0) 3 0 0),(1,.int .i64 p),(2,.int .i64 pl),(8,.sl (.loc 8) 1 0 q.i),(11,.list (aM l)),(12,.int .i64 l.length),(13,.int .i64 q.i)]
def qc (b:Bn) (l:List Tree) (q:T0 l):List (Lb×Row):=
 [(.loc 8,⟨1,ak ((aG b.nodes.length (l.take q.i)).map aC)⟩)]
def T1 (b:Bn) (hn:b.n0<=b.nodes.length) (p pl:Nat) (hp:p<b.n0) (x:Node) (hx:b.nodes[p]?=some x) (HD:pl<=x.kids.length)
  (l:List Tree) (hb:b.nodes.length+bH l<=B) (Mc:x.kids.length+l.length<=B) (hA:aev P G 185) (hI:YL P G 186) :
  r_ P G 156 [.ptr (.par 0) 3 0 0,.int .i64 p,.int .i64 pl,.list (aM l)] (dh b) (b.IP 1 (5+2*p)) λX R2=>X=(λ_=> .bq [])/\R2=dh (b.ins p pl l):=by
 refine ez (cw 156 [.a 8 (.own 8 1),.b 25 (.tj (.loc 8) 8),.f 40 3 (.rw [(.par 0)] []),.f 40 8 (.rw [(.par 0)] []),.f 40 12 (.rw [(.gen 0)] []),.f 40 15 (.v7 [(.par 0)]),.f 40 18 (.rw [] [(.gen 0)])]) ajL alG ?_;have dO:b8 Lb.par b (n7 (dh b)):=mb _;have hU:∀q:Lb,(∀p,p<4+2*b.n0->q≠ .par p)->n7 (dh b) q= .unused:=λq hq=>gx _ λp hp e=>hq p (aW.1 hp) e.symm;have h8:n7 (dh b) (.loc 8)= .unused:=hU _ ajL;have xx:=bO l;have gV:B=1073741824:=rfl;have NX:∀p',p'≠1->Lb.gen 0≠ .par p':=ajL
 have hI0:∀q:T0 l,dh (b.eH p (l.take q.i))=dh (b.eH p (l.take q.i)):=λ_=>rfl;simp only[↓aX,mX,seval,h8];refine sb (σ:=T0 l) (bf (.gen 0)) (λq=>dh (b.eH p (l.take q.i))) [.loc 8] (λl=>l== .par 1) (Gn b p pl l) (qc b l) (λq=>l.length - q.i) ⟨0,agO _⟩
  (λq p1 p2 _ _ e=>lO NX e) (λ_=>rfl) amD ?_ ?_ ?_ ?_
 ·intro q l' hl;simp[ai,AV.aq,Gn] at hl;rcases hl with rfl|rfl
  ·right;exact⟨0,aW.2 ajK,by simp[bf]⟩
  left;simp
 ·intro q z hz cs aZ l' hl;simp only[qc,af'] at hz;subst hz;rw[bc aZ] at hl;simp at hl
 ·have yB:b.eH p (l.take 0)=b:=by simp[Bn.eH,ct]
  refine⟨Lb.par,[],?_⟩;have r0:kg (bf (.gen 0)) Lb.par (dh (b.eH p (l.take 0))) [] (.par 0)= .par 0:=
   gg (labC:=bf (.gen 0)) (λp1 p2 _ _ e=>lO NX e) (p:=0) (aW.2 ajK)
  have r8:kg (bf (.gen 0)) Lb.par (dh (b.eH p (l.take 0))) [] (.loc 8)= .loc 8:=fV akf;refine⟨?_,?_,?_,?_,ajS,?_,akU,?_⟩
  ·simp only[yB];exact dO.tp ajL
  ·intro l' he hu;cases l' with
   |par k=>
    by_cases h1:k=1
    ·subst h1;right;right;rfl
    left;refine⟨k,aW.2 ?_,anE⟩;refine ahC λhk=>hu ?_;simp only[ae,reduceCtorEq,agk];exact hU _ λp' fE e=>hk alT
   |_=>simp[Lb.entry] at he
  ·simp[Gn,dp,aH,put,fH,ar];exact⟨r0.symm,r8.symm⟩
  ·intro z hz;simp only[qc,af'] at hz;subst hz;simp[aD,ae,aK];simp[aG,ak]
  ·intro l' hl p' fE;simp only[af'] at hl;subst hl;simp[aD]
  intro p' fE;refine⟨ala,?_⟩;unfold bf;split<;>simp[Lb.entry]
 intro q;obtain⟨H0,rH⟩:∃H0,H0=Ar (bf (.gen 0)) (dh (b.eH p (l.take q.i))) (cU (λl=>l== .par 1) (qc b l q)):=⟨_,rfl⟩;rw[<-rH];have hB:b8 (bf (.gen 0)) (b.eH p (l.take q.i)) H0:=alN
 have hO:∀l':Lb,(∀p',bf (.gen 0) p'≠l')->H0 l'=cU (λl=>l== .par 1) (qc b l q) l':=λl' hl=>by rw[rH];exact gx _ λp' _=>hl p'
 have a8:H0 (.loc 8)= .live ⟨1,ak ((aG b.nodes.length (l.take q.i)).map aC)⟩:=(hO _ akj).trans (by simp[cU,qc,eQ,aS]);have a10:H0 (.loc 10)= .unused:=(hO _ akj).trans amf;have a23:H0 (.loc 23)= .unused:=(hO _ akj).trans amf;have ag:H0 (.gen 40)= .unused:=(hO _ akj).trans amf;have aN:∀l,H0 (NC 9 l)= .unused:=λl'=>(hO _ amQ).trans (by simp[cU,qc,eQ,aS,Hp.none,NC]);have anf:∀k,H0 (.par k)≠ .unused->k<4+2*b.n0:=by
  intro k hu;refine ahC λhk=>hu ?_;rw[rH,gx _ λp' fE e=> ?_]
  ·have:k≠1:=ajK;simp[cU,qc,eQ,aS,Hp.none,this]
  have h2:=(aW (b:=b.eH p (l.take q.i))).1 fE;unfold bf at e;split at e<;>simp at e;subst e;exact hk h2
 clear rH hO;have hi:=q.hi;have zd:(aG b.nodes.length (l.take q.i)).length=q.i:=anJ
 have hct:=mo (l.take q.i);have acf:=ey l q.i;simp only[↓aX,mX,seval,Gn];refine j7 (λh=> ?_) (λh=> ?_)
 ·have aF:q.i<l.length:=by simpa using h
  obtain⟨k,wE⟩:∃k,l[q.i]?=some k:=⟨_,af7 aF⟩;have hw:=w1 q.i;have ig:l.take (q.i+1)=l.take q.i++[k]:=cn wE;have Hn:bH (l.take q.i)+k.wt<=bH l:=by
   have:=ey l (q.i+1);rw[ig,dQ] at this;simp only[bH] at this;omega
  simp only[↓aX,mX,seval,dc,wE,fa,Tree.ax,Tree.cs,a10];have DV:(b.eH p (l.take q.i)).nodes.length=b.nodes.length+aJ (l.take q.i):=by simp[Bn.eH,jV]
  refine gZ (lab:=bf (.gen 0)) (N:=NC 9) (hA k (b.eH p (l.take q.i)) (by rw[DV];show b.n0<=_;omega) p an8) ?_ ?_ ?_ (q5 9) (λl h=> .inl h) (λp' fE=>aW.2 (ik.1 fE).1) ?_
  ·simp[aA,aH,As,bf,Tree.av]
  ·exact abx
  ·intro l';rw[an _ _ aj5,an _ _ aj5];exact aN l'
  rintro X R2 cm H2 ⟨rfl,rfl⟩ g1 g2 g3 g4 g5 g6;have HT:∀n:Nat,n≠10->H2 (.loc n)=H0 (.loc n):=λn hn=>by
   rw[g4 (.loc n) akf aj5,an _ _ aly,an _ _ aly]
  have uj:∀p':Nat,(dh ((b.eH p (l.take q.i)).add k p)).ok p'->∀n,cm p'≠ .loc n:=by
   intro p' fE n;rcases g3 p' fE with⟨p0,_,e⟩|⟨l,e⟩<;>rw[e]
   ·simp[bf];split<;>simp
   simp[NC]
  have hl3:∀p',p'<4+2*b.n0->p'≠1->cm p'= .par p':=λp' h1 h2=>by rw[g2 p' (ik.2 ⟨h1,h2⟩)];simp[bf,h2]
  simp only[↓aX,mX,seval];rw[bX 1 8 23 8 ((aG b.nodes.length (l.take q.i)).map aC) (.int .i64 (b.eH p (l.take q.i)).nodes.length) (by rw[HT 8 ajN,a8]) (by rw[eD,zd]) rfl aj0 ajK ajN ajN (by rw[HT 23 ajN,a23])];simp only[↓aX,mX,seval,hw];have Pk:aG b.nodes.length (l.take (q.i+1))=aG b.nodes.length (l.take q.i)++[((b.eH p (l.take q.i)).nodes.length:Int)]:=by
   rw[ig,mZ,DV];simp[aG]
  have Sj:(b.eH p (l.take q.i)).add k p=b.eH p (l.take (q.i+1)):=by
   show({(b.eH p (l.take q.i)) with nodes:=(b.eH p (l.take q.i)).nodes++k.flat (b.eH p (l.take q.i)).nodes.length p}:Bn)=_;rw[DV];simp[Bn.eH,ig,mE,ct]
  rw[Sj] at g1 uj;refine⟨⟨q.i+1,aF⟩,ajM,cm,[(.loc 8,.loc 23)],?_⟩;have r0:kg (bf (.gen 0)) cm (dh (b.eH p (l.take (q.i+1)))) [(.loc 8,.loc 23)] (.par 0)= .par 0:=
   (gg (labC:=bf (.gen 0)) (λp1 p2 _ _ e=>lO NX e) (p:=0) (aW.2 ajK)).trans (hl3 0 ajK ajN)
  have r8:kg (bf (.gen 0)) cm (dh (b.eH p (l.take (q.i+1)))) [(.loc 8,.loc 23)] (.loc 8)= .loc 23:=(fV akf).trans ajS;refine⟨(g1.tp λp' fE=>uj p' fE 8).tp λp' fE=>uj p' fE 23,?_,?_,?_,ajS,?_,akU,?_⟩
  ·intro l' he hu;cases l' with
   |par k'=>
    by_cases h1:k'=1
    ·subst h1;right;right;rfl
    left;refine⟨k',aW.2 ?_,anE⟩;refine ahC λuE=>uE ?_;refine anf k' ?_;rw[an _ _ ajL,an _ _ ajL,g4 (.par k') ?_ aj5,an _ _ ajL,an _ _ ajL] at hu
    ·exact hu
    intro p' fE e;simp only[bf] at e;split at e<;>simp at e;subst e;exact uE ((aW (b:=b.eH p (l.take q.i))).1 fE)
   |_=>simp[Lb.entry] at he
  ·simp[Gn,dp,aH,put,iX,r0,r8]
  ·intro z hz;simp only[qc,af'] at hz;subst hz;simp[aD,ae,aK];rw[Pk];simp[ak,aC]
  ·intro l' hl p' fE;simp only[af'] at hl;subst hl;simpa[aD] using uj p' fE 23
  intro p' fE;refine⟨ala,?_⟩;unfold bf;split
  ·simp[Lb.entry]
  rename_i h1;intro _;exact hl3 p' ((aW (b:=b.eH p (l.take (q.i+1)))).1 fE) h1
 have he:q.i=l.length:=aki
 have ig:l.take q.i=l:=by rw[he];simp
 rw[ig] at a8 zd hB;have hs:H0 (.par 0)= .live ⟨3,[[.sl (.gen 0) 5 0 (b.eH p l).nodes.length,.sl (.par 2) 1 0 b.fs.length,.sl (.par 3) 1 0 b.az.length]]⟩:=hB.s;have yo:H0 (.gen 0)= .live ⟨5,(b.eH p l).nodes.mapIdx (b5 b.n0 (bf (.gen 0)))⟩:=hB.n;have hlp:p<b.nodes.length:=ajK
 have NT:(b.eH p l).nodes[p]?=some x:=by simp only[Bn.eH];rw[agB hlp];exact hx
 have hlen:p<(b.eH p l).nodes.length:=(afY.1 NT).1;have h5:¬5+2*p=1:=ajK
 have qB:H0 (.par (5+2*p))= .live ⟨1,ak (x.kids.map aC)⟩:=by
  have:=hB.kd hp NT;simpa[bf,h5] using this
 have bU:((b.eH p l).nodes.mapIdx (b5 b.n0 (bf (.gen 0))))[p]?=some [.bool x.text,.str x.s,.sl (.par (4+2*p)) 2 0 x.attrs.length,.int .i64 x.parent,.sl (.par (5+2*p)) 1 0 x.kids.length]:=by
  have:=hB.get NT;rw[show(b.eH p l).n0=b.n0 from rfl,cy hp] at this;rw[this];have h4:¬4+2*p=1:=ajK
  simp[bf,h4,h5]
 have hkt:((aG b.nodes.length l).map aC).take q.i=(aG b.nodes.length l).map aC:=af2 amu;simp only[↓aX,mX,seval];refine⟨1,(aG b.nodes.length l).map aC,0,q.i,rfl,a8,amu,mj _,?_⟩;simp only[↓aX,mX,seval,hs,yo,agw,hlen,af5,af0,agR,agt,agh,bU,hkt];refine⟨rfl,?_⟩;have YM:(aG b.nodes.length l).length=l.length:=ek _ _;have S':b.ins p pl l=(b.eH p l).set p {x with kids:=x.kids.take pl++aG b.nodes.length l++x.kids.drop pl}:=by unfold Bn.ins;rw[hx]
 have aew:∀k,bf (.gen 0) k≠ .loc 8:=akj
 have hB':b8 (bf (.gen 0)) (b.eH p l) (aS H0 (.loc 8) .dead):=hB.tp λp' _=>aew p';have key:∀N:Lb,(N= .par (5+2*p)\/N= .gen 40)->∀H2:Hp,H2 (.gen 0)= .live ⟨5,((b.eH p l).nodes.mapIdx (b5 b.n0 (bf (.gen 0)))).set p [.bool x.text,.str x.s,.sl (.par (4+2*p)) 2 0 x.attrs.length,.int .i64 x.parent,.sl N 1 0 (x.kids.take pl++aG b.nodes.length l++x.kids.drop pl).length]⟩ ->
   H2 N= .live ⟨1,ak ((x.kids.take pl++aG b.nodes.length l++x.kids.drop pl).map aC)⟩->(∀q,q≠ .gen 0->q≠N->q≠ .par (5+2*p)->H2 q=aS H0 (.loc 8) .dead q) ->
   ∃t:((Nat->Lb)->AV)×n6×(Nat->Lb),(t.1=(λ_=> .bq [])/\t.2.1=dh (b.ins p pl l))/\(∀ρ,aH ρ (t.1 t.2.2)=t.1 λi=>ρ (t.2.2 i))/\(∀l∈(AV.bq []).aq,∃p,t.2.1.ok p/\l=t.2.2 p)/\AV.bq []=t.1 t.2.2/\ko t.2.2 t.2.1 H2/\∀p'∈b.IP 1 (5+2*p),t.2.2 p'= .par p':=by
  intro N hN H2 e1 e2 e3;refine⟨⟨λ_=> .bq [],dh (b.ins p pl l),λp'=>if p'=5+2*p then N else bf (.gen 0) p'⟩,⟨rfl,rfl⟩,λρ=>by simp[aH,aA],ajU,rfl,?_,?_⟩
  ·rw[S'];have h4:¬4+2*p=1:=ajK;refine b8.TM hB' hp NT ?_ (by rw[show bf (.gen 0) (4+2*p)= .par (4+2*p) by simp[bf,h4]];exact e1) e2 (λq g1 g2 g3=>e3 q g1 g2 (by simpa[bf,h5] using g3));rcases hN with rfl|rfl
   ·left;simp[bf,h5]
   right;intro p' _;simp[bf];split<;>simp
  intro p' fE;obtain⟨_,q1,q2⟩:=jC.1 fE;simp[q1,q2,bf]
 refine vB (l:= .par (5+2*p)) (N:= .gen 40) (hI x.kids (aG b.nodes.length l) pl HD (by rw[YM];exact Mc)) rfl (by rw[an _ _ ajL];exact qB) (by rw[an _ _ ajL];exact ag) ak7 alg alg ?_ ?_
 ·simp only[↓aX,mX,seval,hs,yo,agw,hlen,af5,af0,agR,agt,agh,bU,eD];rw[fF];refine⟨[],rfl,key (.gen 40) (.inr rfl) _ ajR ajR ?_⟩;intro q g1 g2 g3;simp[ae,g1,g2,g3]
 simp only[↓aX,mX,seval,hs,yo,agw,hlen,af5,af0,agR,agt,agh,bU,eD];rw[fF];refine⟨[],rfl,key (.par (5+2*p)) (.inl rfl) _ ajR ajR ?_⟩;intro q g1 g2 g3;simp[ae,g1,g2,g3]
end

structure Op where
 kind:Int
 target:Int
 content:List Tree
 name:Bs
 s:Bs
def Op.cs (x:Op):List IV:=[.int .i64 x.kind,.int .i64 x.target,.list (aM x.content),.str x.name,.str x.s]
def Op.iv (x:Op):IV:= .agg x.cs
def Op.av (x:Op):AV:= .agg [.int .i64 x.kind,.int .i64 x.target,.list (aM x.content),.str x.name,.str x.s]
def Op.ax (x:Op):x.iv.cells=x.cs:=rfl
def xH (xs:List Op):dV 5 (xs.map Op.iv):=zx Op.iv 5 (λ_=>rfl) xs
def zo (l:List Op) (i:Nat):(l.map Op.iv)[i]?=(l[i]?).map Op.iv:=ago ..
def Op.rJ (x:Op):∀z∈x.cs,∀cs,z≠ .agg cs:=by
 intro z hz cs;simp only[Op.cs,aga,agf,agI] at hz;rcases hz with rfl|rfl|rfl|rfl|rfl<;>simp
def QB (xs:List Op):Flat (xs.map Op.iv):=u0 _ (λx=>x.rJ) _
def jo (k:Int) (t:Bool):Int:=if k=3 then 2 else if k=4 then 2 else if k=6 then 3 else if k=7 then(if t then 1 else 4) else if k=5 then 5 else 1
def YN {P:Program} {G:Nat->Option (List IV)} [KN P G] (k:Int) (t:Bool):aj P G 113 [.int .i64 k,.bool t] (.int .i64 (jo k t)):=by
 refine au (cw 113 []) ajL ajO ajP ?_;by_cases h3:k=3
 ·subst h3;simp only[↓aX,mX,seval,Int.reduceBEq];rfl
 by_cases h4:k=4
 ·subst h4;simp only[↓aX,mX,seval,Int.reduceBEq];rfl
 by_cases h6:k=6
 ·subst h6;simp only[↓aX,mX,seval,Int.reduceBEq];rfl
 by_cases h7:k=7
 ·subst h7;cases t
  ·simp only[↓aX,mX,seval,Int.reduceBEq,af1];rfl
  simp only[↓aX,mX,seval,Int.reduceBEq,af4];rfl
 by_cases h5:k=5
 ·subst h5;simp only[↓aX,mX,seval,Int.reduceBEq];rfl
 simp only[↓aX,mX,seval,agZ.2 h3,agZ.2 h4,agZ.2 h6,agZ.2 h7,agZ.2 h5];simp only[jo,h3,h4,h5,h6,h7,agk]
def Gp (k:Int):Bool:=k==9||k==10
def bK (a b:Op):Bool:=a.target==b.target&&((Gp a.kind&&Gp b.kind&&a.name==b.name)||(a.kind==b.kind&&decide (6<=a.kind)&&decide (a.kind<=8)))
def acr {b:Bool} {A B:Prop} {u:Tp A B} (h1:b=true->B) (h2:b=false->A):gB (.bool b) false A B u:=by
 cases b
 ·rw[Vo];exact h2 rfl
 rw[Vn];exact h1 rfl
set_option maxHeartbeats 1600000 in
def QC {P:Program} {G:Nat->Option (List IV)} [KN P G] (a b:Op):aj P G 155 [a.av,b.av] (.bool (bK a b)):=by
 refine au (cw 155 []) ajL amV ajP ?_;simp only[↓aX,mX,seval,Op.av]
 repeat' first
  |refine j7 (λ_=> ?_) (λ_=> ?_)<;>simp only[*,↓aX,mX,seval,ge_iff_le,Bool.not_true,Bool.not_false]
  |refine Xg (λ_=> ?_) (λ_=> ?_)<;>simp only[*,↓aX,mX,seval,ge_iff_le,Bool.not_true,Bool.not_false]
  |refine acr (λ_=> ?_) (λ_=> ?_)<;>simp only[*,↓aX,mX,seval,ge_iff_le,Bool.not_true,Bool.not_false]
 all_goals first|(simp_all[bK,Gp];done)|(simp_all[bK,Gp];omega)|(simp only[bK,Gp];grind)
end Go.Am
