import Derived.Test.YtfinkeaikbmpgaaGreatDoorKT90
import Derived.Test.YtfinkeaikbmpgaaGreatDoorKAm33
import Derived.Test.YtfinkeaikbmpgaaGreatDoorKT16
import Derived.Test.YtfinkeaikbmpgaaGreatDoorKAm48
import Derived.Test.YtfinkeaikbmpgaaGreatDoorKP2
import Derived.Test.YtfinkeaikbmpgaaGreatDoorKT35
import Derived.Test.YtfinkeaikbmpgaaGreatDoorKT8
import Derived.Test.YtfinkeaikbmpgaaGreatDoorKT82
set_option linter.unusedSimpArgs false
set_option linter.unusedVariables false
set_option linter.unnecessarySimpa false
set_option linter.defProp false
/- Changes: what was checked may be done, in phases; how large all is. -/
namespace Go.Am
open Go Go.RowKit
def Zo {s:Bs} (h:plain s=true):s.length≤40:=by unfold plain at h;simp at h;omega
def Zp {s:Bs} (h:named s=true):1≤s.length∧s.length≤8:=by unfold named at h;simp at h;omega
theorem abS:∀{az:List Attr},(∀a∈az,named a.name=true∧plain a.val=true)→dX az≤49*az.length
 |[],_=>by simp[dX]
 |a::r,h=>by
  have h1:=h a N7;have h2:=abS (az:=r) fun x hx=>h x (by simp[hx]);have:=Zp h1.1;have:=Zo h1.2;simp only[dX,Attr.wt,gL];omega
mutual
theorem ade:∀x:Tree,x.fu=true→x.wt≤240*x.jz
 | .mk t s az ks,h=>by
  simp only[Tree.fu] at h;simp only[Tree.wt,Tree.jz];cases t with
  |true=>
   simp only[ku,de,yt,ye] at h;obtain⟨h1,_,rfl,rfl⟩:=h;have:=Zo h1;simp[dX,dE,dP];omega
  |false=>
  simp only[jy,nX,de] at h;obtain⟨h1,h2,h3⟩:=h;have h4:=Zp h1;obtain⟨g1,g2,g3⟩:=(iM az).1 h2;have h5:=abS g1;have h6:=aal none ks h3;omega
theorem aal:∀(p:Option Bool) (ks:List Tree),bQ p ks=true→dE ks≤240*dP ks
 |_,[],_=>by simp[dE]
 |p,x::r,h=>by
  simp only[bQ,de] at h;have h1:=ade x h.1;have h2:=aal _ r h.2.2;simp only[dE,dP];omega
end
def acC {l:List Tree} (h:content l=true):dE l≤19200:=by
 unfold content at h;simp only[de,dj] at h;have:=aal none l h.2.2;have:=h.2.1;omega
def af6 {x:Tree} (h:x.d_=true):x.wt≤19200:=by
 obtain⟨_,_,h1,h2⟩:=(ia x).1 h;have:=ade x h2;omega
structure ae4 (t:Tree) (o:Op):Prop where
 ex:∃n q y,Sub 0 (-1) t n q y∧o.target=(n:Int)∧XS (y.node n q) o=0
 k1:1≤o.kind
 k10:o.kind≤10
def ae5 {a b c d e:Bool} (h:(if a=true then(1:Int) else if b=true then 1 else if c=true then 1 else if d=true then 6 else if e=true then 4 else 0)=0):a=false∧b=false∧c=false∧d=false∧e=false:=by
 revert h;cases a<;>cases b<;>cases c<;>cases d<;>cases e<;>simp
def aam {x:Node} {o:Op} (h:XS x o=0) :
  (kC o.kind=true→content o.content=true)∧(kC o.kind=false→o.content=[])∧(kN o.kind=true→named o.name=true)∧(kN o.kind=false→o.name=[])∧(kT o.kind=true→plain o.s=true)∧(kT o.kind=false→o.s=[]) ∧
  (kB o.kind=true→0≤x.parent)∧(x.text=true→kB o.kind=true∨o.kind=7):=by
 unfold XS at h;obtain⟨h1,h2,h3,h4,h5⟩:=ae5 h;refine⟨fun e=> ?_,fun e=> ?_,fun e=> ?_,fun e=> ?_,fun e=> ?_,fun e=> ?_,fun e=> ?_,fun e=> ?_⟩
 ·simpa[e] using h1
 ·simpa[e] using h1
 ·simpa[e] using h2
 ·simpa[e] using h2
 ·simpa[e] using h3
 ·simpa[e] using h3
 ·simpa[e] using h4
 cases hb:kB o.kind with
 |true=>exact .inl rfl
 |false=>right;simpa[e,hb] using h5
def ae4.small {t:Tree} {o:Op} (h:ae4 t o):wOp o+o.name.length≤19300:=by
 obtain⟨n,q,y,_,_,hw⟩:=h.ex;obtain⟨c1,c2,c3,c4,c5,c6,_⟩:=aam hw;have h1:dE o.content≤19200:=by
  cases hk:kC o.kind with
  |true=>exact acC (c1 hk)
  |false=>rw[c2 hk];simp[dE]
 have h2:o.name.length≤8:=by
  cases hk:kN o.kind with
  |true=>exact(Zp (c3 hk)).2
  |false=>rw[c4 hk];simp
 have h3:o.s.length≤40:=by
  cases hk:kT o.kind with
  |true=>exact Zo (c5 hk)
  |false=>rw[c6 hk];simp
 unfold wOp;omega
theorem abT:∀{pre l:List Op},WM pre l=false→l.Pairwise (fun a b=>eO b a=false)∧∀a∈l,∀b∈pre,eO a b=false
 |pre,[],_=>by simp
 |pre,a::r,h=>by
  simp only[WM,EI] at h;obtain⟨h1,h2⟩:=abT h.2;have h3:∀b∈pre,eO a b=false:=fun b hb=>by simpa using N6.1 h.1 b hb
  refine⟨Mu.2 ⟨fun b hb=>h2 b hb a N7,h1⟩,fun x hx b hb=> ?_⟩;rcases dU.1 hx with rfl|hx
  ·exact h3 b hb
  exact h2 x hx b (by simp[hb])
theorem abU:∀{pre l:List Op},l.Pairwise (fun a b=>eO b a=false)→(∀a∈l,∀b∈pre,eO a b=false)→WM pre l=false
 |pre,[],_,_=>rfl
 |pre,a::r,h,h2=>by
  rw[Mu] at h;simp only[WM,EI];refine⟨N6.2 fun b hb=>by simp[h2 a N7 b hb],abU h.2 fun x hx b hb=> ?_⟩;rcases eR.1 hb with hb|hb
  ·exact h2 x (by simp[hx]) b hb
  simp only[bY] at hb;subst hb;exact h.1 x hx
def abb (a b:Op):eO a b=eO b a:=by
 unfold eO;rw[Bb];simp only[de,Be,yt,dj];constructor
 ·rintro⟨h1,h2⟩;refine⟨h1.symm,?_⟩;rcases h2 with⟨⟨h3,h4⟩,h5⟩|⟨⟨h3,h4⟩,h5⟩
  ·exact .inl ⟨⟨h4,h3⟩,h5.symm⟩
  exact .inr ⟨⟨h3.symm,tM⟩,tM⟩
 rintro⟨h1,h2⟩;refine⟨h1.symm,?_⟩;rcases h2 with⟨⟨h3,h4⟩,h5⟩|⟨⟨h3,h4⟩,h5⟩
 ·exact .inl ⟨⟨h4,h3⟩,h5.symm⟩
 exact .inr ⟨⟨h3.symm,tM⟩,tM⟩
def abc {d:Doc} {o:Op} (h:U5 d o=0):Vo d=true∧1≤o.kind∧o.kind≤10∧0≤o.target∧∃x,d[o.target.toNat]?=some x∧XS x o=0:=by
 unfold U5 at h;split at h
 ·rename_i hd;split at h
  ·omega
  split at h
  ·omega
  split at h
  ·rename_i x hx;exact⟨hd,tM,tM,tM,x,hx,h⟩
  omega
 omega
def abV {t:Tree} (ht:t.d_=true) (o:Op):U5 (lW t) o=0↔ae4 t o:=by
 constructor
 ·intro h;obtain⟨_,k1,k10,h0,x,hx,hw⟩:=abc h;obtain⟨q,y,hl,hs⟩:=ZR (bd.1 hx).1;have:x=y.node o.target.toNat q:=by rw[hl.node] at hx;exact(OD hx).symm
  subst this;exact⟨⟨_,q,y,hs,tM,hw⟩,k1,k10⟩
 rintro⟨⟨n,q,y,hs,ht',hw⟩,k1,k10⟩;have hl:=hs.Gv (lW t) ⟨[],Qb⟩;have bI:=(bd.1 hl.node).1;unfold U5;rw[eE (Yj ht),cY tM,cY tM,ht',bX,hl.node];exact hw
def aan {t:Tree} {l:List Op} (ht:t.d_=true):VU (lW t) l=0↔(∀o∈l,ae4 t o)∧l.length≤20∧l.Pairwise (fun a b=>eO b a=false):=by
 unfold VU;rw[eE (Yj ht)];constructor
 ·intro h;split at h
  ·omega
  rename_i hl;split at h
  ·rename_i o ho;have:=List.find?_some ho;rw[h] at this;simp at this
  rename_i ho;split at h
  ·omega
  rename_i htw;rw[N2] at ho;exact⟨fun o hm=>(abV ht o).1 (by simpa using ho o hm),tM,(abT (by simpa using htw)).1⟩
 rintro⟨h1,h2,h3⟩;rw[cY tM,N2.2 fun o ho=>by simp[(abV ht o).2 (h1 o ho)]];simp only;rw[abU h3 N7];rfl
def adP {d:Doc} {l:List Op} (h:VU d l=0):Vo d=true:=by
 unfold VU at h;split at h
 ·assumption
 omega
def ZB (d:Doc) (n:Int):Bool:=match d[n.toNat]? with|some x=>x.text|none=>false
def phO (d:Doc) (o:Op):Int:=WL o.kind (ZB d o.target)
def Zq (k:Int) (t:Bool):1≤WL k t∧WL k t≤5:=by
 unfold WL
 repeat' split
 all_goals omega
def adf {t:Tree} {n:Nat} {q:Int} {y:Tree} (h:Sub 0 (-1) t n q y):ZB (lW t) (n:Int)=y.text:=by
 unfold ZB;rw[bX,(h.Gv (lW t) ⟨[],Qb⟩).node];rfl
def ae6 {t:Tree} {l:List Op} (h1:∀o∈l,ae4 t o) (h2:l.Pairwise (fun a b=>eO b a=false)) (h0:∀i q y,Sub 0 (-1) t i q y→y.text=true→y.kids=[]) (p i:Nat) (pre:List Op) (o:Op) (post:List Op)
  (e:VC (phO (lW t)) l p i=pre++o::post):aag t pre o:=by
 obtain⟨r,hr⟩:=aae (phO (lW t)) l p i;rw[e] at hr;have ah8:=ZA (phO (lW t)) l (p+1);have aiT:=Zm (phO (lW t)) l (fun o _=>by have:=(Zq o.kind (ZB (lW t) o.target)).1;unfold phO;omega) (p+1);have zA:(X6 (phO (lW t)) l (p+1)).Pairwise (fun a b=>eO b a=false):=
  (aiT.pairwise_iff (fun {x y} KW=>by rw[abb];exact KW)).2 (h2.filter _)
 rw[hr,yo,jk] at ah8 zA;have hle:∀a∈pre,phO (lW t) a≤phO (lW t) o:=fun a ha=>ah8.2.2 a ha o N7;have hna:∀a∈pre,eO o a=false:=fun a ha=>zA.2.2 a ha o N7;have oN:∀a∈pre,a∈l:=fun a ha=>(Zb (p:=p+1) (ph:=phO (lW t)) (by rw[hr];simp[ha])).1;have hol:o∈l:=(Zb (p:=p+1) (ph:=phO (lW t)) (by rw[hr];simp)).1;obtain⟨⟨n,q,y,hs,hot,hw⟩,k1,k10⟩:=h1 o hol;obtain⟨c1,c2,c3,c4,c5,c6,c7,c8⟩:=aam hw;have Iy:phO (lW t) o=WL o.kind y.text:=by unfold phO;rw[hot,adf hs]
 have FQ:∀(k:Int) (m:Nat) (r:Int) (z:Tree),Sub 0 (-1) t m r z→WL o.kind y.text<WL k z.text→VA pre k m=false:=by
  intro k m r z hz bI;cases hh:VA pre k m with
  |false=>rfl
  |true=>
  obtain⟨a,ha,ha1,UB⟩:=abF.1 hh;have:=hle a ha;rw[Iy] at this;unfold phO at this;rw[ha1,UB,adf hz] at this;omega
 have hkB:3≤o.kind∧o.kind≤6→0≤q:=fun hk=>c7 (by unfold kB;simp[hk]);have hx:o.kind=1∨o.kind=2∨8≤o.kind→y.text=false:=by
  intro hk;cases hT:y.text with
  |false=>rfl
  |true=>
  rcases c8 hT with h|h
  ·unfold kB at h;simp at h;omega
  omega
 refine⟨n,q,y,hs,hot,k1,k10,hx,hkB,fun hk=> ?_,fun hk=> ?_⟩
 ·refine FQ 7 n q y hs ?_;rw[hx tM];rcases hk with hk|hk<;>rw[hk]<;>decide
 have hq:=hkB tM;have ag_:∃r z,Sub 0 (-1) t q.toNat r z∧z.text=false:=by
  rcases hs.ac6 with⟨_,e,_⟩|⟨m,z,r,a,c,e1,e2,e3,e4,e5⟩
  ·omega
  refine⟨r,z,by rw[e1];exact e2,?_⟩;cases hT:z.text with
  |false=>rfl
  |true=>have:=h0 m r z e2 hT;rw[e3] at this;simp at this
 obtain⟨r',z,hz,hzt⟩:=ag_;refine⟨FQ 7 _ r' z hz ?_,?_,FQ 5 n q y hs ?_⟩
 ·rw[hzt];rcases hk with hk|hk|hk<;>rw[hk]<;>cases y.text<;>decide
 ·rcases hk with hk|hk|hk
  ·exact FQ 6 n q y hs (by rw[hk];cases y.text<;>decide)
  ·exact FQ 6 n q y hs (by rw[hk];cases y.text<;>decide)
  cases hh:VA pre 6 n with
  |false=>rfl
  |true=>
  obtain⟨a,ha,ha1,UB⟩:=abF.1 hh;have:=hna a ha;unfold eO at this;simp[hk,ha1,hot,UB] at this
 rcases hk with hk|hk|hk<;>rw[hk]<;>cases y.text<;>decide

def ZK (l:List Op):Nat:=(l.map fun o=>wOp o+o.name.length).sum
def Yy (o:Op) (l:List Op):ZK (o::l)=wOp o+o.name.length+ZK l:=by simp[ZK]
theorem ae7:∀{l:List Op} {m:Nat},(∀o∈l,wOp o+o.name.length≤m)→ZK l≤l.length*m
 |[],m,_=>by simp[ZK]
 |o::r,m,h=>by
  have h1:=h o N7;have h2:=ae7 (l:=r) (m:=m) fun x hx=>h x (by simp[hx]);rw[Yy,gL,uQ];omega
theorem abd:∀{l:List Op} {o:Op},o∈l→wOp o+o.name.length≤ZK l
 |a::r,o,h=>by
  rw[Yy];rcases dU.1 h with rfl|h
  ·omega
  have:=abd h;omega
theorem abW:∀l:List Op,WC l≤ZK l
 |[]=>by simp[WC]
 |o::r=>by have:=abW r;rw[Yy,show WC (o::r)=wOp o+WC r by simp[WC]];omega
theorem Xu (k:Int) (n:Nat):∀l:List Op,dE (gl l k n)≤ZK l
 |[]=>by simp[gl,ofK,dE]
 |o::r=>by
  have ih:=Xu k n r;rw[Yy];unfold gl ofK at ih ⊢;rw[zp];split
  ·rw[Bc,kn];unfold wOp;omega
  omega
def Zd (l:List Op) (n:Nat) (s:Bs):(Wi l n s).length≤s.length+ZK l:=by
 unfold Wi;split
 ·rename_i o ho;have h1:=(A6.1 (NU ho)).1;have:=abd h1;unfold wOp at this;omega
 omega
def abX (l:List Op) (n:Nat) (s:Bs):(Wr l n s).length≤s.length+ZK l:=by
 unfold Wr;split
 ·rename_i o ho;have h1:=(A6.1 (NU ho)).1;have:=abd h1;omega
 omega
def adQ (az:List Attr) (k:Nat):dX az=dX (az.take k)+dX (az.drop k):=by rw[←uW,tO]
theorem adR:∀az:List Attr,dX (az.drop 1)≤dX az
 |[]=>by simp
 |x::r=>by simp[dX]
def ae8 (az:List Attr) (o:Op):dX (TV az o)≤dX az+(wOp o+o.name.length):=by
 have h1:=adQ az (RT az o.name);have h2:=adR (az.drop (RT az o.name));rw[JO] at h2;unfold TV;split
 ·split
  ·rw[uW];omega
  omega
 split
 ·rw[MX];split
  ·rw[uW];simp only[dX,Attr.wt,wOp];omega
  omega
 rw[uW,uW];simp only[dX,Attr.wt,wOp];omega
theorem Zr (n:Nat):∀(l:List Op) (az:List Attr),dX (Vb l n az)≤dX az+ZK l
 |[],az=>by simp[Vb]
 |o::r,az=>by
  have ih:=Zr n r (X4 n az o);have h1:dX (X4 n az o)≤dX az+(wOp o+o.name.length):=by
   unfold X4;split
   ·exact ae8 az o
   omega
  rw[Yy];unfold Vb at ih ⊢;rw[Bw];omega
mutual
theorem af7 (l:List Op):∀(x:Tree) (off:Nat),dE (x.YL l off)+8*ZK l+2≤x.wt+x.jz*(8*ZK l+2)+(8*ZK l+2)
 | .mk t s az ks,off=>by
  have h1:=Xu 3 off l;have h2:=Xu 6 off l;have h3:=Xu 4 off l;have h4:=Xu 1 off l;have h5:=Xu 2 off l;have h6:=Zd l off s;have h7:=abX l off s;have h8:=Zr off l az;have h9:=aao l ks (off+1);have wH:=Zd l off [];simp only[Tree.YL,Tree.wt,Tree.jz,kn,uQ,M8];split
  ·omega
  split
  ·simp only[dE];omega
  have e1:(if t=true then Wi l off s else Wr l off s).length≤s.length+ZK l:=by split<;>omega
  have e2:dE (if t=true then [] else if VA l 7 off=true then [UR (Wi l off [])] else gl l 1 off++turns l (off+1) ks++gl l 2 off)≤dE ks+dP ks*(8*ZK l+2)+2*ZK l+1:=by
   split
   ·simp[dE]
   split
   ·simp only[dE,acs,yg] at wH ⊢;omega
   rw[kn,kn];omega
  simp only[dE,Tree.wt];omega
theorem aao (l:List Op):∀(xs:List Tree) (off:Nat),dE (turns l off xs)≤dE xs+dP xs*(8*ZK l+2)
 |[],_=>by simp[turns,dE]
 |x::r,off=>by
  have h1:=af7 l x off;have h2:=aao l r (off+x.jz);simp only[turns,kn,dE,dP,uQ];omega
end
def ae9 (l:List Op) (x:Tree) (off:Nat):(x.V5 l off).wt≤x.wt+x.jz*(8*ZK l+2):=by
 have h4:=Xu 1 off l;have h5:=Xu 2 off l;have h6:=Zd l off x.s;have h7:=abX l off x.s;have h8:=Zr off l x.attrs;have h9:=aao l x.kids (off+1);have wH:=Zd l off [];have e1:(if x.text=true then Wi l off x.s else Wr l off x.s).length≤x.s.length+ZK l:=by split<;>omega
 have e2:dE (if x.text=true then [] else if VA l 7 off=true then [UR (Wi l off [])] else gl l 1 off++turns l (off+1) x.kids++gl l 2 off)≤dE x.kids+dP x.kids*(8*ZK l+2)+2*ZK l+1:=by
  split
  ·simp[dE]
  split
  ·simp only[dE,acs,yg] at wH ⊢;omega
  rw[kn,kn];omega
 rw[x.gx,x.n8];unfold Tree.V5;simp only[Tree.wt,uQ,M8];omega
mutual
theorem aap:∀x:Tree,x.dep≤x.jz
 | .mk _ _ _ ks=>by have:=ZC ks;simp only[Tree.dep,Tree.jz];omega
theorem ZC:∀xs:List Tree,fB xs≤dP xs
 |[]=>by simp[fB]
 |x::r=>by have:=aap x;have:=ZC r;simp only[fB,dP];omega
end
theorem ZD (c:Op→Bool):∀l:List Op,WC (l.filter c)≤WC l
 |[]=>by simp
 |o::r=>by
  have ih:=ZD c r;have e:∀(o:Op) r,WC (o::r)=wOp o+WC r:=fun o r=>by simp[WC]
  rw[zp,e];split
  ·rw[e];omega
  omega
def Yc (t:Tree) (l:List Op):Tree:= .mk (t.V5 l 0).text (t.V5 l 0).s (t.V5 l 0).attrs (Wf (t.V5 l 0).kids)
noncomputable def XU (d:Doc) (l:List Op):Doc×Int:=
 if VU d l=0 then(let x:=Yc (uG d d.length 0) l;if x.d_=true then(lW x,0) else(d,2)) else(d,VU d l)
def abY {t:Tree} (ht:t.d_=true):uG (lW t) (lW t).length 0=t:=by
 refine Zw _ 0 (-1) t (.self _ _ _) ?_;have:=t.uE;rw[pf];exact aap t
def aaq {t:Tree} (ht:t.d_=true) {l:List Op} (h:VU (lW t) l=0):XU (lW t) l=if(Yc t l).d_=true then(lW (Yc t l),0) else(lW t,2):=by
 unfold XU;rw[eE h,abY ht]
section
variable {P:Program} {G:Nat→Option (List IV)}
def aha {akN mg iJ l4 akQ kX fl mv Vj ej hY gN en eF:Nat}
  (hF:aw P G akN=some (100,[((some (some 1)),4),(none,5)],(VV mg iJ l4 akQ kX fl mv Vj).bare)) (hF2:aw P G kX=some (194,[],(fO ej hY gN en eF).bare)) (hF3:aw P G fl=some (40,[((some (some 4)),4)],(Vu fl).bare))
  (hCA:∀xs:List Attr,xs.length≤B→aa4 P G iJ [.list (cD xs)] 2 (cD xs)) (hCI:∀xs:List Int,xs.length≤B→aa4 P G l4 [.list (xs.map xX)] 1 (xs.map xX))
  (hPh:∀k t,au P G akQ [.int .i64 k,.bool t] (.int .i64 (WL k t)))
  (hI:aau P G ej) (hPl:X' P G hY) (hD:aeK P G gN) (hV:aa7 P G en) (Km:abD P G eF)
  (hJ:∀l:List Tree,dE l≤B→au P G mv [.list (dq l)] (.list (dq (Wf l))))
  (hM:∀x:Tree,x.wt≤B→au P G Vj [x.av] (.gf [Doc.av (Wo x).1,.int .i64 (Wo x).2]))
  (d:Doc) (l:List Op) (hl:l.length≤B) (adL:au P G mg [Doc.av d,.list (l.map Op.iv)] (.int .i64 (VU d l))) :
  au P G akN [Doc.av d,.list (l.map Op.iv)] (.gf [Doc.av (XU d l).1,.int .i64 (XU d l).2]):=by
 have zo:B=1073741824:=rfl;by_cases hc:VU d l=0
 case neg=>
  have:=adM hF d l adL hc;unfold XU;rw[cY hc];exact this
 obtain⟨t,ht,rfl⟩:=XW.1 (adP hc);obtain⟨Iy,aiU,K7⟩:=(aan ht).1 hc;obtain⟨v_,Lj,ahF,agx⟩:=(ia t).1 ht;have hlen:(lW t).length=t.jz:=pf t;have h0:∀i q y,Sub 0 (-1) t i q y→y.text=true→y.kids=[]:=fun i q y hy hT=>(Tree.Zg (hy.fu agx) hT).1;have hr:∀i q y,Sub 0 (-1) t i q y→l_ y.attrs=true∧y.attrs.length≤80∧y.kids.length≤80:=by
  intro i q y hy;have hyf:=hy.fu agx;have hrg:=hy.rng;have hk:y.kids.length≤80:=by
   have h1:=y.n8;have h2:y.kids.length≤dP y.kids:=by
    have:∀xs:List Tree,xs.length≤dP xs:=by
     intro xs;induction xs with
     |nil=>simp
     |cons x r ih=>have:=x.uE;simp only[dP,gL];omega
    exact this _
   omega
  cases hT:y.text with
  |true=>rw[(Tree.Zg hyf hT).2.1];exact⟨rfl,N7,hk⟩
  |false=>
  rw[Tree.Pa y hT] at hyf;simp only[de] at hyf;obtain⟨_,h2,h3⟩:=(iM y.attrs).1 hyf.2.1;exact⟨h2,tM,hk⟩
 have HV:ZK l≤386000:=by
  have h1:=ae7 fun o ho=>(Iy o ho).small;have h2:l.length*19300≤20*19300:=py _ aiU;omega
 have hgw:=af6 ht;obtain⟨ph,hph⟩:∃ph,ph=phO (lW t):=⟨_,rfl⟩;have ae':∀p i pre o post,VC ph l p i=pre++o::post→aag t pre o:=by
  intro p i pre o post e;rw[hph] at e;exact ae6 Iy K7 h0 p i pre o post e
 have dN:∀p i,Ze t (VC ph l p i) ((VC ph l p i).foldl WX (Yw t))∧((VC ph l p i).foldl WX (Yw t)).nodes.length≤t.jz+WC (VC ph l p i):=
  fun p i=>adb h0 _ _ rfl (ae' p i)
 have ah9:∀o:Op,1≤ph o∧ph o≤5:=fun o=>by rw[hph];exact Zq _ _
 have hwd:∀p i,WC (VC ph l p i)≤386000:=by
  intro p i;obtain⟨r,lz⟩:=aae ph l p i;have h1:WC (X6 ph l (p+1))≤WC l:=by
   rw[adN (Zm ph l (fun o _=>by have:=(ah9 o).1;omega) (p+1))];exact ZD _ l
  rw[lz,aah] at h1;have:=abW l;omega
 have MB:Alike l (VC ph l 6 0):=by
  have hd6:VC ph l 6 0=X6 ph l 6:=by simp[VC]
  refine⟨fun k n=> ?_,fun n=> ?_⟩
  ·rw[hd6];unfold ofK;have hP:=Zq k (ZB (lW t) n);rw[Yu _ (WL k (ZB (lW t) n)) (fun o _ h=> ?_) 6,eE tM];simp only[de,yt] at h;rw[hph];unfold phO;rw[h.1,h.2]
  rw[hd6,Yu _ 1 (fun o _ h=> ?_) 6,eE tM];unfold adG at h;simp only[dj] at h;rw[hph];unfold phO;rcases h.2 with h|h<;>rw[h]<;>rfl
 have hx:t.V5 (VC ph l 6 0) 0=t.V5 l 0:=MB.V5 t 0;have ah':=(dN 6 0).1.rep t.jz 0 (-1) t (eM _) (.self _ _ _);rw[hx] at ah';have hxw:(t.V5 l 0).wt≤B:=by
  have h1:=ae9 l t 0;have h2:t.jz*(8*ZK l+2)≤80*(8*386000+2):=Nat.mul_le_mul ahF tM;omega
 have hkw:dE (t.V5 l 0).kids≤B:=by have:=(t.V5 l 0).gx;omega
 have hjw:=ab' (t.V5 l 0).kids;have hMw:(Yc t l).wt≤B:=by
  have:=(t.V5 l 0).gx;unfold Yc;simp only[Tree.wt];omega
 have q_:(.gf [Doc.av (XU (lW t) l).1,.int .i64 (XU (lW t) l).2]:AV)=if(Wo (Yc t l)).2=0 then .gf [Doc.av (Wo (Yc t l)).1,.int .i64 0] else .gf [Doc.av (lW t),.int .i64 2]:=by
  rw[aaq ht hc];unfold Wo;cases (Yc t l).d_<;>simp
 rw[q_];have G4:(2:Nat)^20=1048576:=Pr
 refine ae2 hF (lW t) l (t.V5 l 0) (fun p i=>(VC ph l p i).foldl WX (Yw t)) (by rw[hlen,G4];omega) hl adL hc hCA hCI ?_ ?_ ?_ ?_ ?_ ?_ ?_ ?_ ?_ ?_ _ ?_
 ·intro z hz;obtain⟨i,hi⟩:=yl hz;obtain⟨q,y,hly,hs⟩:=ZR (bd.1 hi).1;rw[hly.node] at hi;cases hi;obtain⟨_,h2,h3⟩:=hr i q y hs;refine⟨by simp[Tree.node];omega,?_⟩;show(mw (i+1) y.kids).length≤B;rw[VS];omega
 ·show(VC ph l 1 0).foldl WX (Yw t)=Yg (lW t) (lW t).length;have:VC ph l 1 0=[]:=by
   simp only[VC,X6,OK,vU,rI,List.nil_append];rw[mc];intro o _ h;have:=(ah9 o).1;simp at h;omega
  rw[this,sc];unfold Yg Yw YP;rw[hlen,eN (by rw[hlen];exact eM _)]
 ·intro p i;have:=(dN p i).1.n0;rw[hlen];exact this
 ·intro p;simp only[abL]
 ·have h1:=(dN 6 0).1.n0;have h2:=(dN 6 0).1.le;rw[hlen,←h1];exact h2
 ·intro o ho;obtain⟨n,q,y,hs,hot,_⟩:=(Iy o ho).ex;have kR:=(hs.Gv (lW t) ⟨[],Qb⟩).node;exact⟨_,tM,by rw[hot,bX];exact kR,hPh _ _⟩
 ·intro p i o z ho hz Vi;have:ph o≠(p:Int):=by rw[hph];unfold phO ZB;rw[hz];exact Vi
  simp only[abM ho this]
 ·intro p i o z ho hz he;have he':ph o=(p:Int):=by rw[hph];unfold phO ZB;rw[hz];exact he
  have g_:=ae' p (i+1) (VC ph l p i) o [] (Zl ho he');have h1:=(dN p i).2;have h2:=hwd p i;have h3:=hwd p (i+1);rw[Zl ho he'] at h3;have:=cDo hF2 hI hPl hD hV Km (dN p i).1 h0 hr g_ tM;simp only[Zl ho he',Nw,Bw,sc];exact this
 ·have h1:=(dN 6 0).2;have h2:=hwd 6 0;exact aeX hF3 _ _ _ tM _ _ (eM _) 0 ah' hxw
 ·exact hJ _ hkw
 exact hM _ hMw
end

structure W1 (l l':List Op):Prop where
 k:∀k n,ofK l' k n=ofK l k n
 a:∀n az,l_ az=true→Vb l' n az=Vb l n az
def abZ {x:Tree} (h:x.fu=true):l_ x.attrs=true:=by
 cases hT:x.text with
 |true=>rw[(Tree.Zg h hT).2.1];rfl
 |false=>
 rw[Tree.Pa x hT] at h;simp only[de] at h;exact((iM x.attrs).1 h.2.1).2.1
section
variable {l l':List Op} (h:W1 l l')
include h
def W1.gl (k:Int) (n:Nat):gl l' k n=Am.gl l k n:=by unfold Am.gl;rw[h.k]
def W1.VA (k:Int) (n:Nat):VA l' k n=Am.VA l k n:=by unfold Am.VA;rw[h.k]
def W1.Wi (n:Nat) (s:Bs):Wi l' n s=Am.Wi l n s:=by unfold Am.Wi;rw[h.k]
def W1.Wr (n:Nat) (s:Bs):Wr l' n s=Am.Wr l n s:=by unfold Am.Wr;rw[h.k]
end
mutual
theorem W1.YL {l l':List Op} (h:W1 l l'):∀(x:Tree) (off:Nat),x.fu=true→x.YL l' off=x.YL l off
 | .mk t s az ks,off,hf=>by
  have h1:=W1.turns h ks (off+1) fun x hx=>pg (Tree.vH hf) x hx;have h2:=h.a off az (abZ hf);simp only[Tree.YL,h.gl,h.VA,h.Wi,h.Wr,h1,h2]
theorem W1.turns {l l':List Op} (h:W1 l l'):∀(xs:List Tree) (off:Nat),(∀x∈xs,x.fu=true)→turns l' off xs=turns l off xs
 |[],_,_=>by simp[Am.turns]
 |x::r,off,hf=>by simp only[Am.turns,W1.YL h x off (hf x N7),W1.turns h r (off+x.jz) fun z hz=>hf z (by simp[hz])]
end
def W1.V5 {l l':List Op} (h:W1 l l') {x:Tree} (hf:x.fu=true) (off:Nat):x.V5 l' off=x.V5 l off:=by
 have h1:=W1.turns h x.kids (off+1) fun z hz=>pg (Tree.vH hf) z hz;have h2:=h.a off x.attrs (abZ hf);unfold Tree.V5;simp only[h.gl,h.VA,h.Wi,h.Wr,h1,h2]
end Go.Am

set_option maxRecDepth 20000
namespace Go.Am
open Go Go.RowKit
def ahb (l:List Op):Prop:=l.length≤2^22∧∀o∈l,dE o.content≤2^22∧o.name.length≤2^22∧o.s.length≤2^22
def acD (P:Program) (G:Nat→Option (List IV)) (f:Nat):Prop:=∀(d:Doc) (l:List Op),zn d≤2^22→ahb l→au P G f [Doc.av d,.list (l.map Op.iv)] (.gf [Doc.av (XU d l).1,.int .i64 (XU d l).2])
section
variable {P:Program} {G:Nat→Option (List IV)}

def VG (ai6 akR:Nat) (sz bz:Nat) (z:List AV):AC:=
(.seq (.cq [⟨some 6,none,.iC (.c .nil0)⟩]) (.gh (.J6) (.seq (.cq [⟨some 10,none,.iC (.t 0)⟩,⟨some 11,none,.iC (.t 1)⟩,⟨some 12,none,.zr (.t 10) (some (.t 11)) none none sz⟩]) (.seq (.cq [⟨some 13,none,.iC (.t 2)⟩,⟨some 14,none,.len (.t 13)⟩,⟨some 7,none,.iC (.t 14)⟩]) (.seq (.seq (.cq [⟨some 15,none,.iC (.t 7)⟩,⟨some 16,none,.bin .eql (.t 15) (.c (.int .i64 0))⟩]) (.cond (.t 16) (.seq (.cq [⟨some 17,none,.iC (.t 0)⟩,⟨some 6,none,.iC (.t 17)⟩]) .ret) .skip)) (.seq (.cq [⟨some 18,none,.iC (.t 0)⟩,⟨some 19,none,.len (.t 18)⟩,⟨some 8,none,.iC (.t 19)⟩]) (.seq (.seq (.cq [⟨some 20,none,.iC (.t 1)⟩,⟨some 21,none,.iC (.t 8)⟩,⟨some 22,none,.bin .eql (.t 20) (.t 21)⟩]) (.cond (.t 22) (.seq (.cq [⟨some 23,none,.iC (.t 0)⟩,⟨some 24,none,.iC (.t 2)⟩,⟨some 25,none,.app (.t 23) (.t 24) sz bz⟩,⟨some 6,none,.iC (.t 25)⟩]) .ret) .skip)) (.seq (.seq (.cq [⟨some 26,none,.iC (.t 8)⟩,⟨some 27,none,.iC (.t 7)⟩,⟨some 28,none,.bin .add (.t 26) (.t 27)⟩,⟨some 29,none,.iC (.t 0)⟩,⟨some 30,none,.cap (.t 29)⟩,⟨some 31,none,.bin .gtr (.t 28) (.t 30)⟩]) (.cond (.t 31) (.seq (.cq [⟨some 32,none,.iC (.t 0)⟩,⟨some 33,none,.iC (.t 1)⟩,⟨some 34,none,.zr (.t 32) none (some (.t 33)) none sz⟩,⟨some 35,none,.iC (.t 8)⟩,⟨some 36,none,.iC (.t 7)⟩,⟨some 37,none,.bin .add (.t 35) (.t 36)⟩,⟨some 38,none,.iC (.t 1)⟩,⟨some 39,none,.bin .sub (.t 37) (.t 38)⟩,⟨some 40,none,.pP (.t 34) (.t 39) sz bz z⟩,⟨some 9,none,.iC (.t 40)⟩]) (.seq (.cq [⟨some 41,none,.iC (.t 9)⟩,⟨some 42,none,.iC (.t 1)⟩,⟨some 43,none,.zr (.t 41) (some (.t 42)) none none sz⟩,⟨some 44,none,.iC (.t 2)⟩,⟨some 45,none,.qL (.t 43) (.t 44) sz⟩]) (.seq (.VL [⟨some 46,none,.iC (.t 9)⟩,⟨some 47,none,.iC (.t 1)⟩,⟨some 48,none,.iC (.t 7)⟩,⟨some 49,none,.bin .add (.t 47) (.t 48)⟩,⟨some 50,none,.zr (.t 46) (some (.t 49)) none none sz⟩,⟨some 51,none,.iC (.t 0)⟩,⟨some 52,none,.iC (.t 1)⟩,⟨some 53,none,.zr (.t 51) (some (.t 52)) none none sz⟩,⟨some 54,none,.qL (.t 50) (.t 53) sz⟩] [[],[],[],[1,2],[0,3],[],[],[5,6],[4,7]] [.no,.no,.no,.no,.no,.no,.no,.no,(.rw [(.par 0)] [(.loc 40)])]) (.seq (.cq [⟨some 55,none,.iC (.t 9)⟩,⟨some 6,none,.iC (.t 55)⟩]) .ret)))) .skip)) (.seq (.cq [⟨some 56,none,.iC (.t 0)⟩,⟨some 57,none,.iC (.t 8)⟩,⟨some 58,none,.iC (.t 7)⟩,⟨some 59,none,.bin .add (.t 57) (.t 58)⟩,⟨some 60,none,.zr (.t 56) none (some (.t 59)) none sz⟩,⟨some 0,none,.iC (.t 60)⟩]) (.seq (.seq (.cq [⟨some 61,none,.iC (.t 2)⟩,⟨some 62,none,.iC (.t 0)⟩,⟨some 63,none,.iC (.t 1)⟩,⟨some 64,none,.iC (.t 7)⟩,⟨some 65,none,.bin .add (.t 63) (.t 64)⟩,⟨some 66,none,.zr (.t 62) (some (.t 65)) none none sz⟩,⟨some 67,none,.kE ai6 [(.t 61),(.t 66)]⟩,⟨some 68,none,.not (.t 67)⟩]) (.cond (.t 68) (.seq (.VL [⟨some 69,none,.iC (.t 0)⟩,⟨some 70,none,.iC (.t 1)⟩,⟨some 71,none,.iC (.t 7)⟩,⟨some 72,none,.bin .add (.t 70) (.t 71)⟩,⟨some 73,none,.zr (.t 69) (some (.t 72)) none none sz⟩,⟨some 74,none,.iC (.t 0)⟩,⟨some 75,none,.iC (.t 1)⟩,⟨some 76,none,.zr (.t 74) (some (.t 75)) none none sz⟩,⟨some 77,none,.qL (.t 73) (.t 76) sz⟩] [[],[],[],[1,2],[0,3],[],[],[5,6],[4,7]] [.no,.no,.no,.no,.no,.no,.no,.no,(.rw [] [(.par 0)])]) (.seq (.cq [⟨some 78,none,.iC (.t 0)⟩,⟨some 79,none,.iC (.t 1)⟩,⟨some 80,none,.zr (.t 78) (some (.t 79)) none none sz⟩,⟨some 81,none,.iC (.t 2)⟩,⟨some 82,none,.qL (.t 80) (.t 81) sz⟩]) (.seq (.cq [⟨some 83,none,.iC (.t 0)⟩,⟨some 6,none,.iC (.t 83)⟩]) .ret))) .skip)) (.seq (.cq [⟨some 84,none,.iC (.t 0)⟩,⟨some 85,none,.iC (.t 8)⟩,⟨some 86,none,.zr (.t 84) (some (.t 85)) none none sz⟩,⟨some 87,none,.iC (.t 2)⟩,⟨some 88,none,.qL (.t 86) (.t 87) sz⟩]) (.seq (.cq [⟨some 89,none,.iC (.t 0)⟩,⟨some 90,none,.iC (.t 1)⟩,⟨some 91,none,.zr (.t 89) (some (.t 90)) none none sz⟩,⟨some 92,none,.iC (.t 7)⟩,⟨some 93,none,.call akR [(.t 91),(.t 92)]⟩]) (.seq (.cq [⟨some 94,none,.iC (.t 0)⟩,⟨some 6,none,.iC (.t 94)⟩]) .ret)))))))))))))
set_option maxRecDepth 10000 in
def ab0 {gM ai6 akR:Nat} {sz bz:Nat} {z:List AV} (s0:0<sz) (b0:0<bz) (b1:bz≤32) (hF:aw P G gM=some (95,[(none,6)],(VG ai6 akR sz bz z).bare)) (xs vs:List IV) (i:Nat) (hi:i≤xs.length) (hb:xs.length+vs.length≤B)
  (ex:jV sz xs) (fx:Flat xs) (ev:jV sz vs) (fv:Flat vs)
  (hO:∀(N:Nat) (l:Lb) (sz j n c:Nat) (r:Row) (H:Hp),vs≠[]→H l= .live r→0<n→sZ ⟨P,G,N⟩ ai6 [.list vs,.slk l sz j n c] H (.bool false)) :
  tq P G sz gM [.sl (.par 0) sz 0 xs.length,.int .i64 i,.list vs] xs (xs.take i++vs++xs.drop i):=by
 refine Z9 hF N7 PC ?_;have zo:B=1073741824:=rfl;have hm:∀m:Nat,m≤B→m*bz≤140737488355328:=fun m h=>Nat.le_trans (Nat.mul_le_mul h b1) Pr;unfold VG;simp only[↓aX,mX,seval];rw[ad4];refine⟨_,_,_,Z8 (d:=0) (l:= .par 0) (n:=xs.length) (els:=aB xs) rfl (by simp[df]),?_⟩;rintro⟨c,H5,MH⟩;obtain⟨rest,kI⟩:∃rest,rest=List.replicate (c - (aB xs).length) (List.replicate sz AV.any):=⟨_,rfl⟩;have Jt:rest.length=c - xs.length:=by rw[kI,List.length_replicate,lQ]
 simp only[←kI];have hz:∀(A D:List (List AV)),D=[]→A++D=A:=fun A D h=>by rw[h,List.append_nil]
 have Ms:=lQ xs;have Hl:=lQ vs;have pU:IntKind.i64.wrap ((xs.length:Int)+(vs.length:Int))=((xs.length+vs.length:Nat):Int):=wrap64 tM tM;have wB:IntKind.i64.wrap (((xs.length+vs.length:Nat):Int) - (i:Int))=((xs.length+vs.length - i:Nat):Int):=by rw[wrap64 tM tM];omega
 have Es:IntKind.i64.wrap ((i:Int)+(vs.length:Int))=((i+vs.length:Nat):Int):=wrap64 tM tM;simp only[↓aX,mX,seval,df,Cs,sH,bnd,Le,hi,Option.isSome_none,Int.natCast_nonneg,Int.toNat_natCast,and_self,true_and,Nat.zero_le,Nat.sub_zero];by_cases tY:vs.length=0
 ·have Gc:vs=[]:=List.length_eq_zero_iff.1 tY;rw[show(((vs.length:Nat):Int)==0)=true by simp[tY]];subst Gc;simp only[↓aX,mX,seval,List.append_nil,List.take_append_drop,YT];exact⟨.par 0,c,rest,.inr rfl,N7⟩
 rw[show(((vs.length:Nat):Int)==0)=false by simpa using tY];simp only[↓aX,mX,seval];have Iz:vs≠[]:=fun e=>tY (by rw[e];rfl);by_cases qB:i=xs.length
 ·rw[show(((i:Nat):Int)==((xs.length:Nat):Int))=true by simp[qB]];simp only[↓aX,mX,seval];by_cases zD:xs.length+vs.length≤c
  ·rw[acp (els:=aB xs++rest) N7 PJ ev fv b0 N7 zD PJ];simp only[↓aX,mX,seval,YT];refine⟨.par 0,c,(aB xs++rest).drop (xs.length+vs.length),.inr ?_,?_⟩
   ·simp[qB]
   simp only[ae,if_true,Slot.live.injEq,Row.mk.injEq,true_and];rw[qB,List.take_of_length_le (Nat.le_refl _),List.drop_of_length_le (Nat.le_refl _),List.append_nil,Yp (Nat.le_refl _),List.take_of_length_le (Nat.le_refl _),lR]
  rw[abv (els:=aB xs++rest) N7 PJ ev fv b0 N7 tM (hm _ tM) (by simp[Hp.none,ae])];simp only[↓aX,mX,seval,YT];subst qB;refine⟨.loc 25,0,[],N7,?_⟩;simp only[ae,if_true,Slot.live.injEq,Row.mk.injEq,true_and];rw[List.take_of_length_le (Nat.le_refl _),List.drop_of_length_le (Nat.le_refl _),List.append_nil,Yp (Nat.le_refl _),List.take_of_length_le (Nat.le_refl _)];simp[aB]
 rw[show(((i:Nat):Int)==((xs.length:Nat):Int))=false by simp;omega];simp only[↓aX,mX,seval,pU,ad6];intro _;have GN:aB (xs.take i)++aB vs++aB (xs.drop i)=aB (xs.take i++vs++xs.drop i):=by rw[lR,lR]
 have hlen:(xs.take i++vs++xs.drop i).length=xs.length+vs.length:=PJ
 rw[hlen];have su:=lQ (xs.take i);rw[List.length_take,Nat.min_eq_left hi] at su;have hdi:=lQ (xs.drop i);rw[List.length_drop] at hdi;by_cases zD:c<xs.length+vs.length
 ·rw[show decide (((xs.length+vs.length:Nat):Int)>(c:Int))=true by simp;omega];simp only[↓aX,mX,seval,Cs,sH,bnd,Le,hi,Option.isSome_none,Int.natCast_nonneg,Int.toNat_natCast,and_self,true_and,Nat.zero_le,Nat.sub_zero,pU,wB,show i≤c by omega];obtain⟨k,hk⟩:∃k,k=xs.length+vs.length - i:=⟨_,rfl⟩;rw[←hk];have hik:i+k=xs.length+vs.length:=by omega
  rw[aeJ (els:=aB xs++rest) N7 PJ tM (hm _ tM) (by simp[Hp.none,ae]),Yp hi,hik];simp only[↓aX,mX,seval,Cs,nB,bnd,Le,hi,Option.isSome_none,Int.natCast_nonneg,Int.toNat_natCast,and_self,true_and,Nat.zero_le,Nat.sub_zero,show i≤xs.length+vs.length by omega,Nat.zero_add,←hk];rw[aa5 (news:=aB vs) (l:= .loc 40) (i:=i) (n:=k) (els:=aB (xs.take i)++List.replicate k z) (m:=vs.length) (o7 ev) rfl N7 PJ (by rw[Hl];exact(Nat.min_eq_left tM).symm) (fun cs bV=>fv.one cs (List.mem_of_mem_take bV))];rw[List.take_left' su,List.take_of_length_le (Nat.le_of_eq Hl)];simp only[↓aX,mX,seval,Cs,nB,sH,bnd,Le,hi,Option.isSome_none,Int.natCast_nonneg,Int.toNat_natCast,and_self,true_and,Nat.zero_le,Nat.sub_zero,show i+vs.length≤xs.length+vs.length by omega,Nat.zero_add,Es];refine⟨rfl,?_⟩;rw[aa5 (news:=aB (xs.drop i)) (l:= .loc 40) (i:=i+vs.length) (n:=xs.length+vs.length - (i+vs.length)) (els:=aB (xs.take i)++aB vs++(aB (xs.take i)++List.replicate k z).drop (i+vs.length)) (m:=xs.length - i)]
  ·simp only[↓aX,mX,seval,YT,eP,Lb.iQ];refine⟨.loc 40,0,[],N7,?_⟩;simp only[ae,if_true,Slot.live.injEq,Row.mk.injEq,true_and,List.append_nil];rw[←GN,List.take_left' PJ,List.take_of_length_le (Nat.le_of_eq hdi)];exact hz _ _ (List.drop_of_length_le PJ)
  ·simp only[al_,ae,reduceCtorEq,if_false,if_true,true_and];rw[if_pos PJ];congr 1;rw[Z' tM];congr 1;exact List.take_of_length_le N7
  ·rfl
  ·simp
  ·simp;omega
  ·rw[hdi];exact(Nat.min_eq_left tM).symm
  exact fun cs bV=>(Flat.one (fun y hy=>fx y (List.mem_of_mem_drop hy)):∀cs∈aB (xs.drop i),AV.oJ cs) cs (List.mem_of_mem_take bV)
 rw[show decide (((xs.length+vs.length:Nat):Int)>(c:Int))=false by simp;omega];simp only[↓aX,mX,seval,Cs,sH,bnd,Le,hi,Option.isSome_none,Int.natCast_nonneg,Int.toNat_natCast,and_self,true_and,Nat.zero_le,Nat.sub_zero,pU,Es,show xs.length+vs.length≤c by omega,show i+vs.length≤xs.length+vs.length by omega,Nat.zero_add];refine DZ (hO _ (.par 0) _ _ _ _ ⟨sz,aB xs++rest⟩ _ Iz N7 tM) ?_;simp only[↓aX,mX,seval,Cs,sH,bnd,Le,hi,Option.isSome_none,Int.natCast_nonneg,Int.toNat_natCast,and_self,true_and,Nat.zero_le,Nat.sub_zero,pU,Es,show i≤xs.length+vs.length by omega,show i+vs.length≤xs.length+vs.length by omega,Nat.zero_add];refine⟨rfl,?_⟩;have hn:(((aB xs++rest).drop i).take (xs.length+vs.length - i)).take (xs.length - i)=aB (xs.drop i):=by rw[List.take_take,Nat.min_eq_left tM,Z' tM,List.take_of_length_le N7]
 have fd:∀cs∈aB (xs.drop i),AV.oJ cs:=Flat.one fun y hy=>fx y (List.mem_of_mem_drop hy);rw[aa5 (news:=((aB xs++rest).drop i).take (xs.length+vs.length - i)) (l:= .par 0) (i:=i+vs.length) (n:=xs.length+vs.length - (i+vs.length)) (els:=aB xs++rest) (m:=xs.length - i)
  (by simp only[al_,ae,if_true,true_and];rw[if_pos PJ]) rfl N7 PJ (by rw[List.length_take,List.length_drop,List.length_append,Ms,Jt];show _=min _ _;omega) (by rw[hn];exact fd)]
 rw[hn];simp only[↓aX,mX,seval,eP,Lb.iQ,Cs,sH,bnd,Le,Option.isSome_none,Int.natCast_nonneg,Int.toNat_natCast,and_self,true_and,Nat.zero_le,Nat.sub_zero,show i≤xs.length+vs.length by omega,Nat.zero_add];rw[aa5 (news:=aB vs) (l:= .par 0) (i:=i) (n:=xs.length+vs.length - i) (els:=(aB xs++rest).take (i+vs.length)++aB (xs.drop i)++(aB xs++rest).drop (i+vs.length+(xs.length - i))) (m:=vs.length)
  (o7 ev) rfl N7 PJ (by rw[Hl];exact(Nat.min_eq_left tM).symm) (fun cs bV=>fv.one cs (List.mem_of_mem_take bV))]
 simp only[↓aX,mX,seval,YT,or_true,true_and];refine⟨.par 0,c,(aB xs++rest).drop (xs.length+vs.length),.inr rfl,?_⟩;simp only[ae,if_true,Slot.live.injEq,Row.mk.injEq,true_and];have h1:((aB xs++rest).take (i+vs.length)).length=i+vs.length:=by rw[List.length_take,List.length_append,Ms,Jt];omega
 have e1:i+vs.length+(xs.length - i)=xs.length+vs.length:=tM
 have e2:((aB xs++rest).take (i+vs.length)++aB (xs.drop i)++(aB xs++rest).drop (xs.length+vs.length)).take i=aB (xs.take i):=by
  rw[List.append_assoc,List.take_append_of_le_length tM,List.take_take,Nat.min_eq_left tM,Yp hi]
 have e3:((aB xs++rest).take (i+vs.length)++aB (xs.drop i)++(aB xs++rest).drop (xs.length+vs.length)).drop (i+vs.length)=aB (xs.drop i)++(aB xs++rest).drop (xs.length+vs.length):=by
  rw[List.append_assoc,List.drop_left' h1]
 rw[e1,e2,e3,←GN,List.take_of_length_le (Nat.le_of_eq Hl)];simp only[List.append_assoc]
def VH (sz bz:Nat) (z:List AV):AC:=
(.seq (.cq [⟨some 6,none,.iC (.c .nil0)⟩]) (.gh (.J6) (.seq (.cq [⟨some 8,none,.iC (.t 0)⟩,⟨some 9,none,.iC (.t 1)⟩,⟨some 10,none,.iC (.t 2)⟩,⟨some 11,none,.iC (.t 0)⟩,⟨some 12,none,.len (.t 11)⟩,⟨some 13,none,.zr (.t 8) (some (.t 9)) (some (.t 10)) (some (.t 12)) sz⟩]) (.seq (.seq (.cq [⟨some 14,none,.iC (.t 1)⟩,⟨some 15,none,.iC (.t 2)⟩,⟨some 16,none,.bin .eql (.t 14) (.t 15)⟩]) (.cond (.t 16) (.seq (.cq [⟨some 17,none,.iC (.t 0)⟩,⟨some 6,none,.iC (.t 17)⟩]) .ret) .skip)) (.seq (.cq [⟨some 18,none,.iC (.t 0)⟩,⟨some 19,none,.len (.t 18)⟩,⟨some 7,none,.iC (.t 19)⟩]) (.seq (.VL [⟨some 20,none,.iC (.t 0)⟩,⟨some 21,none,.iC (.t 1)⟩,⟨some 22,none,.zr (.t 20) none (some (.t 21)) none sz⟩,⟨some 23,none,.iC (.t 0)⟩,⟨some 24,none,.iC (.t 2)⟩,⟨some 25,none,.zr (.t 23) (some (.t 24)) none none sz⟩,⟨some 26,none,.app (.t 22) (.t 25) sz bz⟩,⟨some 0,none,.iC (.t 26)⟩] [[],[],[0,1],[],[],[3,4],[2,5],[6,6,0,1,2,3,4,5,6]] [.no,.no,.no,.no,.no,.no,(.rw [] [(.par 0),(.loc 26)]),.no]) (.seq (.cq [⟨some 27,none,.iC (.t 0)⟩,⟨some 28,none,.iC (.t 0)⟩,⟨some 29,none,.len (.t 28)⟩,⟨some 30,none,.iC (.t 7)⟩,⟨some 31,none,.zr (.t 27) (some (.t 29)) (some (.t 30)) none sz⟩,⟨none,none,.si (.t 31) sz z⟩]) (.seq (.cq [⟨some 32,none,.iC (.t 0)⟩,⟨some 6,none,.iC (.t 32)⟩]) .ret))))))))
set_option maxRecDepth 10000 in
def ab1 {gN:Nat} {sz bz:Nat} {z:List AV} (s0:0<sz) (b0:0<bz) (b1:bz≤32) (z2:AV.oJ z) (hF:aw P G gN=some (33,[(none,6)],(VH sz bz z).bare)) (xs:List IV) (i j:Nat) (hi:i<j) (hj:j≤xs.length) (hb:xs.length≤B) (ex:jV sz xs) (fx:Flat xs) :
  tq P G sz gN [.sl (.par 0) sz 0 xs.length,.int .i64 i,.int .i64 j] xs (xs.take i++xs.drop j):=by
 refine Z9 hF N7 PC ?_;have zo:B=1073741824:=rfl;have hm:∀m:Nat,m≤B→m*bz≤140737488355328:=fun m h=>Nat.le_trans (Nat.mul_le_mul h b1) Pr;unfold VH;simp only[↓aX,mX,seval];rw[ad4];refine⟨_,_,_,Z8 (d:=0) (l:= .par 0) (n:=xs.length) (els:=aB xs) rfl (by simp[df]),?_⟩;rintro⟨c,H5,MH⟩;obtain⟨rest,kI⟩:∃rest,rest=List.replicate (c - (aB xs).length) (List.replicate sz AV.any):=⟨_,rfl⟩;have Jt:rest.length=c - xs.length:=by rw[kI,List.length_replicate,lQ]
 simp only[←kI];have Ms:=lQ xs;simp only[↓aX,mX,seval,df,Cs,sH,bnd,Le,Option.isSome_none,Option.isSome_some,Option.isNone_some,Int.natCast_nonneg,Int.toNat_natCast,and_self,true_and,Nat.zero_le,Nat.sub_zero,hj,H5,Nat.le_of_lt hi,if_true,show(((i:Nat):Int)==((j:Nat):Int))=false by simp;omega];refine⟨rfl,?_⟩;simp only[↓aX,mX,seval,df,Cs,sH,bnd,Le,Option.isSome_none,Int.natCast_nonneg,Int.toNat_natCast,and_self,true_and,Nat.zero_le,Nat.sub_zero,hj,show i≤c by omega,if_true,Nat.zero_add];have fd:∀cs∈aB (xs.drop j),AV.oJ cs:=Flat.one fun y hy=>fx y (List.mem_of_mem_drop hy);have hdj:=lQ (xs.drop j);rw[List.length_drop] at hdj;have su:=lQ (xs.take i);rw[List.length_take,Nat.min_eq_left tM] at su;rw[abu (news:=aB (xs.drop j)) (els:=aB xs++rest)
  (by simp only[al_,ae,if_true,true_and];rw[if_pos PJ,Z' tM,List.take_of_length_le N7]) fd N7 PJ b0 N7 tM PJ]
 rw[hdj,Yp tM];have hw:xs.length - j+i≤xs.length:=tM
 simp only[↓aX,mX,seval,qe,eP,Lb.iQ,Lb.app,Lb.fresh,Cs,sH,bnd,Le,Option.isSome_none,Int.natCast_nonneg,Int.toNat_natCast,and_self,true_and,Nat.zero_le,Nat.sub_zero,H5,if_true,Nat.zero_add,or_true,true_or,show i+(xs.length - j)≤xs.length by omega];rw[agV (l:= .par 0) (i:=i+(xs.length - j)) (n:=xs.length - (i+(xs.length - j))) (els:=aB (xs.take i)++aB (xs.drop j)++(aB xs++rest).drop (i+(xs.length - j))) z2 rfl N7 PJ];simp only[↓aX,mX,seval,YT,or_true,true_and];refine⟨by rintro l (rfl|rfl)<;>simp,.par 0,c,List.replicate (xs.length - (i+(xs.length - j))) z++(aB (xs.take i)++aB (xs.drop j)++(aB xs++rest).drop (i+(xs.length - j))).drop (i+(xs.length - j)+(xs.length - (i+(xs.length - j)))),.inr (by rw[List.length_append,List.length_take,List.length_drop,Nat.min_eq_left tM]),?_⟩;simp only[ae,if_true,Slot.live.injEq,Row.mk.injEq,true_and];rw[List.append_assoc,List.take_left' (by rw[List.length_append];omega),lR]
def VJ (fo fr:Nat):AC:=VG fo fr 1 8 [.int .i64 0]
def afa {f fo fr:Nat} (hF:aw P G f=some (95,[(none,6)],(VJ fo fr).bare)) (xs vs:List IV) (i:Nat) (hi:i≤xs.length) (hb:xs.length+vs.length≤B)
  (ex:jV 1 xs) (fx:Flat xs) (ev:jV 1 vs) (fv:Flat vs)
  (hO:∀(N:Nat) (l:Lb) (sz j n c:Nat) (r:Row) (H:Hp),vs≠[]→H l= .live r→0<n→sZ ⟨P,G,N⟩ fo [.list vs,.slk l sz j n c] H (.bool false)) :
  tq P G 1 f [.sl (.par 0) 1 0 xs.length,.int .i64 i,.list vs] xs (xs.take i++vs++xs.drop i):=
 ab0 Pr Pr Pr hF xs vs i hi hb ex fx ev fv hO
def VK:AC:=VH 1 8 [.int .i64 0]
def afb {f:Nat} (hF:aw P G f=some (33,[(none,6)],VK.bare)) (xs:List IV) (i j:Nat) (hi:i<j) (hj:j≤xs.length) (hb:xs.length≤B) (ex:jV 1 xs) (fx:Flat xs) :
  tq P G 1 f [.sl (.par 0) 1 0 xs.length,.int .i64 i,.int .i64 j] xs (xs.take i++xs.drop j):=
 ab1 Pr Pr Pr (by intro x hx;simp at hx;rcases hx with rfl|rfl<;>rfl) hF xs i j hi hj hb ex fx
def Vx (fo fr:Nat):AC:=VG fo fr 2 32 [.str [],.str []]
def afc {f fo fr:Nat} (hF:aw P G f=some (95,[(none,6)],(Vx fo fr).bare)) (xs vs:List IV) (i:Nat) (hi:i≤xs.length) (hb:xs.length+vs.length≤B)
  (ex:jV 2 xs) (fx:Flat xs) (ev:jV 2 vs) (fv:Flat vs)
  (hO:∀(N:Nat) (l:Lb) (sz j n c:Nat) (r:Row) (H:Hp),vs≠[]→H l= .live r→0<n→sZ ⟨P,G,N⟩ fo [.list vs,.slk l sz j n c] H (.bool false)) :
  tq P G 2 f [.sl (.par 0) 2 0 xs.length,.int .i64 i,.list vs] xs (xs.take i++vs++xs.drop i):=
 ab0 Pr Pr Pr hF xs vs i hi hb ex fx ev fv hO
def Vy:AC:=VH 2 32 [.str [],.str []]
def afd {f:Nat} (hF:aw P G f=some (33,[(none,6)],Vy.bare)) (xs:List IV) (i j:Nat) (hi:i<j) (hj:j≤xs.length) (hb:xs.length≤B) (ex:jV 2 xs) (fx:Flat xs) :
  tq P G 2 f [.sl (.par 0) 2 0 xs.length,.int .i64 i,.int .i64 j] xs (xs.take i++xs.drop j):=
 ab1 Pr Pr Pr (by intro x hx;simp at hx;rcases hx with rfl|rfl<;>rfl) hF xs i j hi hj hb ex fx
end

section
variable {P:Program} {G:Nat→Option (List IV)}
def ah_ {gM ai6 akR:Nat} (hF:aw P G gM=some (95,[(none,6)],(VJ ai6 akR).bare))
  (hO:∀(N:Nat) (vs:List IV) (l:Lb) (sz j n c:Nat) (r:Row) (H:Hp),vs≠[]→H l= .live r→0<n→sZ ⟨P,G,N⟩ ai6 [.list vs,.slk l sz j n c] H (.bool false)):agY P G gM:=by
 intro xs vs i hi hb;have h:=afa hF (xs.map xX) (vs.map xX) i (by simpa using hi) (by simpa using hb) (YN _) (XD _) (YN _) (XD _) (fun N l sz j n c r H h1 h2 h3=>hO N _ l sz j n c r H h1 h2 h3);rw[bA] at h;simpa only[BG,JD,Ny] using h
def aia {gN:Nat} (hF:aw P G gN=some (33,[(none,6)],VK.bare)):aeK P G gN:=by
 intro xs i hi hb;have h:=afb hF (xs.map xX) i (i+1) tM (by rw[bA];omega) (by simpa using hb) (YN _) (XD _);rw[bA] at h;simpa only[BG,JD,Ny] using h
def aib {WW Vh Vz:Nat} (hF:aw P G WW=some (95,[(none,6)],(Vx Vh Vz).bare))
  (hO:∀(N:Nat) (vs:List IV) (l:Lb) (sz j n c:Nat) (r:Row) (H:Hp),vs≠[]→H l= .live r→0<n→sZ ⟨P,G,N⟩ Vh [.list vs,.slk l sz j n c] H (.bool false)):ahU P G WW:=by
 intro xs vs i hi hb;have h:=afc hF (cD xs) (cD vs) i (by rw[bp];exact hi) (by rw[bp,bp];exact hb) (rq _) (nW _) (rq _) (nW _) (fun N l sz j n c r H h1 h2 h3=>hO N _ l sz j n c r H h1 h2 h3);rw[bp] at h;simpa only[cD,BG,JD,Ny] using h
def aic {nb:Nat} (hF:aw P G nb=some (33,[(none,6)],Vy.bare)):ahV P G nb:=by
 intro xs i hi hb;have h:=afd hF (cD xs) i (i+1) tM (by rw[bp];exact hi) (by rw[bp];exact hb) (rq _) (nW _);rw[bp] at h;simpa only[cD,BG,JD,Ny] using h
structure ChF (P:Program) (G:Nat→Option (List IV)) where
 akN:Nat
 mg:Nat
 ak3:Nat
 akT:Nat
 th:Nat
 H4:Nat
 hQ:Nat
 akI:Nat
 akQ:Nat
 kX:Nat
 ej:Nat
 gE:Nat
 hY:Nat
 en:Nat
 eF:Nat
 fl:Nat
 akK:Nat
 gM:Nat
 gN:Nat
 WW:Nat
 nb:Nat
 l5:Nat
 akM:Nat
 cC:Nat
 a6:Nat
 iJ:Nat
 l4:Nat
 ai6:Nat
 Vh:Nat
 akR:Nat
 Vz:Nat
 bq:Nat
 Vd:Nat
 No:Nat
 Vs:Nat
 Oo:Nat
 mv:Nat
 Vj:Nat
 afe:aw P G akN=some (100,[((some (some 1)),4),(none,5)],(VV mg iJ l4 akQ kX fl mv Vj).bare)
 aff:aw P G mg=some (42,[(none,4)],(W9 Vd ak3 H4 hQ).bare)
 acT:aw P G ak3=some (37,[(none,4)],(Xo Vd akT).bare)
 afg:aw P G akT=some (107,[(none,4)],(Wy No Vs Oo).bare)
 ab2:aw P G th=some (54,[(none,4)],WA.bare)
 adg:aw P G H4=some (7,[(none,3)],(WB th).bare)
 aaS:aw P G hQ=some (9,[(none,4)],(Vr akI).bare)
 adh:aw P G akI=some (19,[(none,4)],VF.bare)
 afh:aw P G akQ=some (17,[(none,4)],W7.bare)
 hDo:aw P G kX=some (194,[],(fO ej hY gN en eF).bare)
 BC:aw P G ej=some (43,[],(VX gE gM).bare)
 hAdd:aw P G gE=some (58,[(none,6)],(VT iJ gE).bare)
 afi:aw P G hY=some (26,[(none,4),(none,5)],(V1 akM).bare)
 afj:aw P G en=some (35,[],(V2 ej).bare)
 agy:aw P G eF=some (77,[],(V7 l5 akK nb WW).bare)
 agz:aw P G fl=some (40,[((some (some 4)),4)],(Vu fl).bare)
 afk:aw P G akK=some (9,[(none,4)],(VW cC).bare)
 agA:aw P G gM=some (95,[(none,6)],(VJ ai6 akR).bare)
 agB:aw P G gN=some (33,[(none,6)],VK.bare)
 agC:aw P G WW=some (95,[(none,6)],(Vx Vh Vz).bare)
 agD:aw P G nb=some (33,[(none,6)],Vy.bare)
 adi:aw P G l5=some (49,[(none,6),(none,7)],A'.bare)
 afl:aw P G akM=some (19,[(none,4)],VP.bare)
 y5:aw P G cC=some (8,[(none,4)],(fI a6).bare)
 aid:aw P G a6=some (8,[(none,4)],(cB bq).bare)
 Y5:aw P G iJ=some (8,[(none,2)],U8.bare)
 adj:aw P G l4=some (8,[(none,2)],Wd.bare)
 oI:∀(N:Nat) (vs:List IV) (l:Lb) (sz j n c:Nat) (r:Row) (H:Hp),vs≠[]→H l= .live r→0<n→sZ ⟨P,G,N⟩ ai6 [.list vs,.slk l sz j n c] H (.bool false)
 oA:∀(N:Nat) (vs:List IV) (l:Lb) (sz j n c:Nat) (r:Row) (H:Hp),vs≠[]→H l= .live r→0<n→sZ ⟨P,G,N⟩ Vh [.list vs,.slk l sz j n c] H (.bool false)
 aie:∀(N:Nat) (s t:Bs) (H:Hp),sZ ⟨P,G,N⟩ bq [.str s,.str t] H (.int .i64 (Lib.compareBytes s t))
 afm:fU P akK=true
 adk:fU P H4=true
 aaH:∀d:Doc,zn d≤B→au P G Vd [Doc.av d] (.bool (Vo d))
 Y6:∀l:List Tree,dE l≤B→au P G No [.list (dq l)] (.bool (content l))
 afn:∀s:Bs,s.length≤B→au P G Vs [.str s] (.bool (named s))
 afo:∀s:Bs,s.length≤B→au P G Oo [.str s] (.bool (plain s))
 adl:∀l:List Tree,dE l≤B→au P G mv [.list (dq l)] (.list (dq (Wf l)))
 acU:∀x:Tree,x.wt≤B→au P G Vj [x.av] (.gf [Doc.av (Wo x).1,.int .i64 (Wo x).2])
namespace ChF
variable (c:ChF P G)
def xW (d:Doc) (hd:zn d≤B) (o:Op) (ho:dE o.content≤B∧o.name.length≤B∧o.s.length≤B):au P G c.ak3 [Doc.av d,o.av] (.int .i64 (U5 d o)):=
 abN c.acT d o (c.aaH d hd) fun x k1 k10=>ag7 c.afg x o k1 k10 (c.Y6 _ ho.1) (c.afn _ ho.2.1) (c.afo _ ho.2.2)
def afp (d:Doc) (hd:zn d≤B) (l:List Op) (hl:l.length≤B) (ho:∀o∈l,dE o.content≤B∧o.name.length≤B∧o.s.length≤B):au P G c.mg [Doc.av d,.list (l.map Op.iv)] (.int .i64 (VU d l)):=
 ag8 c.aff d l hl (c.aaH d hd) (fun o h=>c.xW d hd o (ho o h)) fun a _ i=>
  acw c.aaS _ _ (abP c.adh _ (by rw[tp];omega) _ c.adk fun b _=>af1 c.adg a b (abB c.ab2 a b))
def aiV (s t:Bs):au P G c.cC [.str s,.str t] (.int .i64 (Lib.compareBytes s t)):=yP c.y5 s t (anh c.aid c.aie s t)
def aif:agY P G c.gM:=ah_ c.agA c.oI
def agE:aau P G c.ej:=fun b hn p pl hp x hx BS l hb UX=>
 afU c.BC b hn p pl hp x hx BS l hb UX (fun t b hn p hb=>ahT c.hAdd (fun xs h=>acI c.Y5 xs h) _ t (eM _) b hn p hb) c.aif
def af8:X' P G c.hY:=fun b n p x y hx hp hy Yl hB=>agW c.afi b n p x y hx hp hy Yl (adz c.afl _ _ hB)
def af9:aa7 P G c.en:=fun b hn n hp x hx s hb=>ag1 c.afj b hn n hp x hx s hb c.agE
def ahd:abD P G c.eF:=fun b n hp x hx o ht hk hb hr=>
 ahW c.agy b n hp x hx o ht hk hb (acq c.adi _ _ tM hr c.afm fun a _=>ahQ c.afk a _ (c.aiV _ _)) (aib c.agC c.oA) (aic c.agD)
def ahe:acD P G c.akN:=by
 intro d l hd hl;have zo:B=1073741824:=rfl;have h22:(2:Nat)^22=4194304:=Pr
 obtain⟨h1,h2⟩:=hl;exact aha c.afe c.hDo c.agz (afR c.Y5) (afS c.adj) (ag0 c.afh) c.agE c.af8 (aia c.agB) c.af9 c.ahd c.adl c.acU d l tM
  (c.afp d tM l tM fun o ho=>by have:=h2 o ho;omega)
end ChF
end
end Go.Am
