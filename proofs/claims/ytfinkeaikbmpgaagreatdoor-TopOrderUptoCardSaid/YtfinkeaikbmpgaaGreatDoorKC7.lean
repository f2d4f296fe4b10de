import Derived.Test.YtfinkeaikbmpgaaGreatDoorKT90
import Derived.Test.YtfinkeaikbmpgaaGreatDoorKD2
import Derived.Test.YtfinkeaikbmpgaaGreatDoorKT15
import Derived.Test.YtfinkeaikbmpgaaGreatDoorKAm48
import Derived.Test.YtfinkeaikbmpgaaGreatDoorKP2
import Derived.Test.YtfinkeaikbmpgaaGreatDoorKT35
import Derived.Test.YtfinkeaikbmpgaaGreatDoorKT4
import Derived.Test.YtfinkeaikbmpgaaGreatDoorKT82
set_option linter.unusedSimpArgs false
set_option linter.unusedVariables false
set_option linter.unnecessarySimpa false
set_option linter.defProp false
/- Changes: what was checked may be done, in phases; how large all is. -/
namespace Go.Am
open Go Go.RowKit
def yi {s:Bs} (h:plain s=true):s.length≤40:=by unfold plain at h;simp at h;omega
def yj {s:Bs} (h:named s=true):1≤s.length∧s.length≤8:=by unfold named at h;simp at h;omega
theorem Gb:∀{as:List Attr},(∀a∈as,named a.name=true∧plain a.val=true)→j0 as≤49*as.length
 |[],_=>by simp[j0]
 |a::r,h=>by
  have h1:=h a (by simp);have h2:=Gb (as:=r) fun x hx=>h x (by simp[hx]);have:=yj h1.1;have:=yi h1.2;simp only[j0,Attr.wt,adK];omega
mutual
theorem J0:∀x:Tree,x.k_=true→x.wt≤240*x.fI
 | .mk t s as ks,h=>by
  simp only[Tree.k_] at h;simp only[Tree.wt,Tree.fI];cases t with
  |true=>
   simp only[adH,ady,aep,aea] at h;obtain⟨h1,_,rfl,rfl⟩:=h;have:=yi h1;simp[j0,er,bC];omega
  |false=>
  simp only[adQ,adS,ady] at h;obtain⟨h1,h2,h3⟩:=h;have h4:=yj h1;obtain⟨g1,g2,g3⟩:=(mg as).1 h2;have h5:=Gb g1;have h6:=Bp none ks h3;omega
theorem Bp:∀(p:Option Bool) (ks:List Tree),iD p ks=true→er ks≤240*bC ks
 |_,[],_=>by simp[er]
 |p,x::r,h=>by
  simp only[iD,ady] at h;have h1:=J0 x h.1;have h2:=Bp _ r h.2.2;simp only[er,bC];omega
end
def Bq {l:List Tree} (h:content l=true):er l≤19200:=by
 unfold content at h;simp only[ady,adM] at h;have:=Bp none l h.2.2;have:=h.2.1;omega
def qy {x:Tree} (h:x.fZ=true):x.wt≤19200:=by
 obtain⟨_,_,h1,h2⟩:=(oC x).1 h;have:=J0 x h2;omega
structure Pc (t:Tree) (o:Op):Prop where
 ex:∃n q y,Sub 0 (-1) t n q y∧o.target=(n:Int)∧sv (y.node n q) o=0
 k1:1≤o.kind
 QA:o.kind≤10
def Pd {a b c d e:Bool} (h:(if a=true then(1:Int) else if b=true then 1 else if c=true then 1 else if d=true then 6 else if e=true then 4 else 0)=0):a=false∧b=false∧c=false∧d=false∧e=false:=by
 revert h;cases a<;>cases b<;>cases c<;>cases d<;>cases e<;>simp
def Br {x:Node} {o:Op} (h:sv x o=0) :
  (kC o.kind=true→content o.content=true)∧(kC o.kind=false→o.content=[])∧(kN o.kind=true→named o.name=true)∧(kN o.kind=false→o.name=[])∧(kT o.kind=true→plain o.s=true)∧(kT o.kind=false→o.s=[]) ∧
  (kB o.kind=true→0≤x.parent)∧(x.text=true→kB o.kind=true∨o.kind=7):=by
 unfold sv at h;obtain⟨h1,h2,h3,h4,h5⟩:=Pd h;refine⟨fun e=> ?_,fun e=> ?_,fun e=> ?_,fun e=> ?_,fun e=> ?_,fun e=> ?_,fun e=> ?_,fun e=> ?_⟩
 ·simpa[e] using h1
 ·simpa[e] using h1
 ·simpa[e] using h2
 ·simpa[e] using h2
 ·simpa[e] using h3
 ·simpa[e] using h3
 ·simpa[e] using h4
 cases hb:kB o.kind with
 |true=>exact .inl rfl
 |false=>right;simpa[e,hb] using h5
def Pc.small {t:Tree} {o:Op} (h:Pc t o):BJ o+o.name.length≤19300:=by
 obtain⟨n,q,y,_,_,hw⟩:=h.ex;obtain⟨c1,c2,c3,c4,c5,c6,_⟩:=Br hw;have h1:er o.content≤19200:=by
  cases hk:kC o.kind with
  |true=>exact Bq (c1 hk)
  |false=>rw[c2 hk];simp[er]
 have h2:o.name.length≤8:=by
  cases hk:kN o.kind with
  |true=>exact(yj (c3 hk)).2
  |false=>rw[c4 hk];simp
 have h3:o.s.length≤40:=by
  cases hk:kT o.kind with
  |true=>exact yi (c5 hk)
  |false=>rw[c6 hk];simp
 unfold BJ;omega
theorem Gc:∀{pre l:List Op},pY pre l=false→l.Pairwise (fun a b=>aR b a=false)∧∀a∈l,∀b∈pre,aR a b=false
 |pre,[],_=>by simp
 |pre,a::r,h=>by
  simp only[pY,ae5] at h;obtain⟨h1,h2⟩:=Gc h.2;have h3:∀b∈pre,aR a b=false:=fun b hb=>by simpa using agq.1 h.1 b hb
  refine⟨afh.2 ⟨fun b hb=>h2 b hb a (by simp),h1⟩,fun x hx b hb=> ?_⟩;rcases adz.1 hx with rfl|hx
  ·exact h3 b hb
  exact h2 x hx b (by simp[hb])
theorem Gd:∀{pre l:List Op},l.Pairwise (fun a b=>aR b a=false)→(∀a∈l,∀b∈pre,aR a b=false)→pY pre l=false
 |pre,[],_,_=>rfl
 |pre,a::r,h,h2=>by
  rw[afh] at h;simp only[pY,ae5];refine⟨agq.2 fun b hb=>by simp[h2 a (by simp) b hb],Gd h.2 fun x hx b hb=> ?_⟩;rcases adD.1 hb with hb|hb
  ·exact h2 x (by simp[hx]) b hb
  simp only[adr] at hb;subst hb;exact h.1 x hx
def xj (a b:Op):aR a b=aR b a:=by
 unfold aR;rw[aeG];simp only[ady,aeJ,aep,adM];constructor
 ·rintro⟨h1,h2⟩;refine⟨h1.symm,?_⟩;rcases h2 with⟨⟨h3,h4⟩,h5⟩|⟨⟨h3,h4⟩,h5⟩
  ·exact .inl ⟨⟨h4,h3⟩,h5.symm⟩
  exact .inr ⟨⟨h3.symm,by omega⟩,by omega⟩
 rintro⟨h1,h2⟩;refine⟨h1.symm,?_⟩;rcases h2 with⟨⟨h3,h4⟩,h5⟩|⟨⟨h3,h4⟩,h5⟩
 ·exact .inl ⟨⟨h4,h3⟩,h5.symm⟩
 exact .inr ⟨⟨h3.symm,by omega⟩,by omega⟩
def D9 {d:Doc} {o:Op} (h:kK d o=0):cW d=true∧1≤o.kind∧o.kind≤10∧0≤o.target∧∃x,d[o.target.toNat]?=some x∧sv x o=0:=by
 unfold kK at h;split at h
 ·rename_i hd;split at h
  ·omega
  split at h
  ·omega
  split at h
  ·rename_i x hx;exact⟨hd,by omega,by omega,by omega,x,hx,h⟩
  omega
 omega
def Ge {t:Tree} (ht:t.fZ=true) (o:Op):kK (aK t) o=0↔Pc t o:=by
 constructor
 ·intro h;obtain⟨_,k1,QA,h0,x,hx,hw⟩:=D9 h;obtain⟨q,y,hl,hs⟩:=wL (ag6.1 hx).1;have:x=y.node o.target.toNat q:=by rw[hl.node] at hx;exact(aez hx).symm
  subst this;exact⟨⟨_,q,y,hs,by omega,hw⟩,k1,QA⟩
 rintro⟨⟨n,q,y,hs,ht',hw⟩,k1,QA⟩;have hl:=hs.AA (aK t) ⟨[],by simp[aK]⟩;have bO:=(ag6.1 hl.node).1;unfold kK;rw[adv (mc ht),ag8 (by omega),ag8 (by omega),ht',ag9,hl.node];exact hw
def n9 {t:Tree} {l:List Op} (ht:t.fZ=true):gZ (aK t) l=0↔(∀o∈l,Pc t o)∧l.length≤20∧l.Pairwise (fun a b=>aR b a=false):=by
 unfold gZ;rw[adv (mc ht)];constructor
 ·intro h;split at h
  ·omega
  rename_i hl;split at h
  ·rename_i o ho;have:=List.find?_some ho;rw[h] at this;simp at this
  rename_i ho;split at h
  ·omega
  rename_i htw;rw[agl] at ho;exact⟨fun o hm=>(Ge ht o).1 (by simpa using ho o hm),by omega,(Gc (by simpa using htw)).1⟩
 rintro⟨h1,h2,h3⟩;rw[ag8 (by omega),agl.2 fun o ho=>by simp[(Ge ht o).2 (h1 o ho)]];simp only;rw[Gd h3 (by simp)];rfl
def LU {d:Doc} {l:List Op} (h:gZ d l=0):cW d=true:=by
 unfold gZ at h;split at h
 ·assumption
 omega
def y6 (d:Doc) (n:Int):Bool:=match d[n.toNat]? with|some x=>x.text|none=>false
def Ev (d:Doc) (o:Op):Int:=lZ o.kind (y6 d o.target)
def yk (k:Int) (t:Bool):1≤lZ k t∧lZ k t≤5:=by
 unfold lZ
 repeat' split
 all_goals omega
def J1 {t:Tree} {n:Nat} {q:Int} {y:Tree} (h:Sub 0 (-1) t n q y):y6 (aK t) (n:Int)=y.text:=by
 unfold y6;rw[ag9,(h.AA (aK t) ⟨[],by simp[aK]⟩).node];rfl
def Pe {t:Tree} {l:List Op} (h1:∀o∈l,Pc t o) (h2:l.Pairwise (fun a b=>aR b a=false)) (h0:∀i q y,Sub 0 (-1) t i q y→y.text=true→y.kids=[]) (p i:Nat) (pre:List Op) (o:Op) (post:List Op)
  (e:gO (Ev (aK t)) l p i=pre++o::post):Bj t pre o:=by
 obtain⟨r,hr⟩:=Bh (Ev (aK t)) l p i;rw[e] at hr;have aaU:=yZ (Ev (aK t)) l (p+1);have acM:=yg (Ev (aK t)) l (fun o _=>by have:=(yk o.kind (y6 (aK t) o.target)).1;unfold Ev;omega) (p+1);have EB:(rE (Ev (aK t)) l (p+1)).Pairwise (fun a b=>aR b a=false):=
  (acM.pairwise_iff (fun {x y} QS=>by rw[xj];exact QS)).2 (h2.filter _)
 rw[hr,adV,ae4] at aaU EB;have hle:∀a∈pre,Ev (aK t) a≤Ev (aK t) o:=fun a ha=>aaU.2.2 a ha o (by simp);have hna:∀a∈pre,aR o a=false:=fun a ha=>EB.2.2 a ha o (by simp);have Ac:∀a∈pre,a∈l:=fun a ha=>(xh (p:=p+1) (ph:=Ev (aK t)) (by rw[hr];simp[ha])).1;have hol:o∈l:=(xh (p:=p+1) (ph:=Ev (aK t)) (by rw[hr];simp)).1;obtain⟨⟨n,q,y,hs,hot,hw⟩,k1,QA⟩:=h1 o hol;obtain⟨c1,c2,c3,c4,c5,c6,c7,c8⟩:=Br hw;have hop:Ev (aK t) o=lZ o.kind y.text:=by unfold Ev;rw[hot,J1 hs]
 have vI:∀(k:Int) (m:Nat) (r:Int) (z:Tree),Sub 0 (-1) t m r z→lZ o.kind y.text<lZ k z.text→gi pre k m=false:=by
  intro k m r z hz bO;cases hh:gi pre k m with
  |false=>rfl
  |true=>
  obtain⟨a,ha,YD,ha2⟩:=FZ.1 hh;have:=hle a ha;rw[hop] at this;unfold Ev at this;rw[YD,ha2,J1 hz] at this;omega
 have hkB:3≤o.kind∧o.kind≤6→0≤q:=fun hk=>c7 (by unfold kB;simp[hk]);have hx:o.kind=1∨o.kind=2∨8≤o.kind→y.text=false:=by
  intro hk;cases hT:y.text with
  |false=>rfl
  |true=>
  rcases c8 hT with h|h
  ·unfold kB at h;simp at h;omega
  omega
 refine⟨n,q,y,hs,hot,k1,QA,hx,hkB,fun hk=> ?_,fun hk=> ?_⟩
 ·refine vI 7 n q y hs ?_;rw[hx (by omega)];rcases hk with hk|hk<;>rw[hk]<;>decide
 have hq:=hkB (by omega);have acN:∃r z,Sub 0 (-1) t q.toNat r z∧z.text=false:=by
  rcases hs.JS with⟨_,e,_⟩|⟨m,z,r,a,c,e1,e2,e3,e4,e5⟩
  ·omega
  refine⟨r,z,by rw[e1];exact e2,?_⟩;cases hT:z.text with
  |false=>rfl
  |true=>have:=h0 m r z e2 hT;rw[e3] at this;simp at this
 obtain⟨r',z,hz,hzt⟩:=acN;refine⟨vI 7 _ r' z hz ?_,?_,vI 5 n q y hs ?_⟩
 ·rw[hzt];rcases hk with hk|hk|hk<;>rw[hk]<;>cases y.text<;>decide
 ·rcases hk with hk|hk|hk
  ·exact vI 6 n q y hs (by rw[hk];cases y.text<;>decide)
  ·exact vI 6 n q y hs (by rw[hk];cases y.text<;>decide)
  cases hh:gi pre 6 n with
  |false=>rfl
  |true=>
  obtain⟨a,ha,YD,ha2⟩:=FZ.1 hh;have:=hna a ha;unfold aR at this;simp[hk,YD,hot,ha2] at this
 rcases hk with hk|hk|hk<;>rw[hk]<;>cases y.text<;>decide

def zK (l:List Op):Nat:=(l.map fun o=>BJ o+o.name.length).sum
def ub (o:Op) (l:List Op):zK (o::l)=BJ o+o.name.length+zK l:=by simp[zK]
theorem Pf:∀{l:List Op} {m:Nat},(∀o∈l,BJ o+o.name.length≤m)→zK l≤l.length*m
 |[],m,_=>by simp[zK]
 |o::r,m,h=>by
  have h1:=h o (by simp);have h2:=Pf (l:=r) (m:=m) fun x hx=>h x (by simp[hx]);rw[ub,adK,ad_];omega
theorem D':∀{l:List Op} {o:Op},o∈l→BJ o+o.name.length≤zK l
 |a::r,o,h=>by
  rw[ub];rcases adz.1 h with rfl|h
  ·omega
  have:=D' h;omega
theorem Gf:∀l:List Op,lL l≤zK l
 |[]=>by simp[lL]
 |o::r=>by have:=Gf r;rw[ub,show lL (o::r)=BJ o+lL r by simp[lL]];omega
theorem oJ (k:Int) (n:Nat):∀l:List Op,er (bg l k n)≤zK l
 |[]=>by simp[bg,zq,er]
 |o::r=>by
  have ih:=oJ k n r;rw[ub];unfold bg zq at ih ⊢;rw[aeo];split
  ·rw[aeK,jL];unfold BJ;omega
  omega
def xk (l:List Op) (n:Nat) (s:Bs):(j6 l n s).length≤s.length+zK l:=by
 unfold j6;split
 ·rename_i o ho;have h1:=(aey.1 (agS ho)).1;have:=D' h1;unfold BJ at this;omega
 omega
def Gg (l:List Op) (n:Nat) (s:Bs):(kD l n s).length≤s.length+zK l:=by
 unfold kD;split
 ·rename_i o ho;have h1:=(aey.1 (agS ho)).1;have:=D' h1;omega
 omega
def LV (as:List Attr) (k:Nat):j0 as=j0 (as.take k)+j0 (as.drop k):=by rw[←sg,ad0]
theorem LW:∀as:List Attr,j0 (as.drop 1)≤j0 as
 |[]=>by simp
 |x::r=>by simp[j0]
def Pg (as:List Attr) (o:Op):j0 (lS as o)≤j0 as+(BJ o+o.name.length):=by
 have h1:=LV as (iU as o.name);have h2:=LW (as.drop (iU as o.name));rw[afv] at h2;unfold lS;split
 ·split
  ·rw[sg];omega
  omega
 split
 ·rw[afE];split
  ·rw[sg];simp only[j0,Attr.wt,BJ];omega
  omega
 rw[sg,sg];simp only[j0,Attr.wt,BJ];omega
theorem yl (n:Nat):∀(l:List Op) (as:List Attr),j0 (en l n as)≤j0 as+zK l
 |[],as=>by simp[en]
 |o::r,as=>by
  have ih:=yl n r (o6 n as o);have h1:j0 (o6 n as o)≤j0 as+(BJ o+o.name.length):=by
   unfold o6;split
   ·exact Pg as o
   omega
  rw[ub];unfold en at ih ⊢;rw[aeP];omega
mutual
theorem SO (l:List Op):∀(x:Tree) (off:Nat),er (x.rC l off)+8*zK l+2≤x.wt+x.fI*(8*zK l+2)+(8*zK l+2)
 | .mk t s as ks,off=>by
  have h1:=oJ 3 off l;have h2:=oJ 6 off l;have h3:=oJ 4 off l;have h4:=oJ 1 off l;have h5:=oJ 2 off l;have h6:=xk l off s;have h7:=Gg l off s;have h8:=yl off l as;have h9:=Bt l ks (off+1);have GS:=xk l off [];simp only[Tree.rC,Tree.wt,Tree.fI,jL,ad_,afL];split
  ·omega
  split
  ·simp only[er];omega
  have e1:(if t=true then j6 l off s else kD l off s).length≤s.length+zK l:=by split<;>omega
  have e2:er (if t=true then [] else if gi l 7 off=true then [LG (j6 l off [])] else bg l 1 off++turns l (off+1) ks++bg l 2 off)≤er ks+bC ks*(8*zK l+2)+2*zK l+1:=by
   split
   ·simp[er]
   split
   ·simp only[er,H5,aek] at GS ⊢;omega
   rw[jL,jL];omega
  simp only[er,Tree.wt];omega
theorem Bt (l:List Op):∀(xs:List Tree) (off:Nat),er (turns l off xs)≤er xs+bC xs*(8*zK l+2)
 |[],_=>by simp[turns,er]
 |x::r,off=>by
  have h1:=SO l x off;have h2:=Bt l r (off+x.fI);simp only[turns,jL,er,bC,ad_];omega
end
def Ph (l:List Op) (x:Tree) (off:Nat):(x.iW l off).wt≤x.wt+x.fI*(8*zK l+2):=by
 have h4:=oJ 1 off l;have h5:=oJ 2 off l;have h6:=xk l off x.s;have h7:=Gg l off x.s;have h8:=yl off l x.attrs;have h9:=Bt l x.kids (off+1);have GS:=xk l off [];have e1:(if x.text=true then j6 l off x.s else kD l off x.s).length≤x.s.length+zK l:=by split<;>omega
 have e2:er (if x.text=true then [] else if gi l 7 off=true then [LG (j6 l off [])] else bg l 1 off++turns l (off+1) x.kids++bg l 2 off)≤er x.kids+bC x.kids*(8*zK l+2)+2*zK l+1:=by
  split
  ·simp[er]
  split
  ·simp only[er,H5,aek] at GS ⊢;omega
  rw[jL,jL];omega
 rw[x.kZ,x.kc];unfold Tree.iW;simp only[Tree.wt,ad_,afL];omega
mutual
theorem Bu:∀x:Tree,x.dep≤x.fI
 | .mk _ _ _ ks=>by have:=y7 ks;simp only[Tree.dep,Tree.fI];omega
theorem y7:∀xs:List Tree,lG xs≤bC xs
 |[]=>by simp[lG]
 |x::r=>by have:=Bu x;have:=y7 r;simp only[lG,bC];omega
end
theorem y8 (c:Op→Bool):∀l:List Op,lL (l.filter c)≤lL l
 |[]=>by simp
 |o::r=>by
  have ih:=y8 c r;have e:∀(o:Op) r,lL (o::r)=BJ o+lL r:=fun o r=>by simp[lL]
  rw[aeo,e];split
  ·rw[e];omega
  omega
def ny (t:Tree) (l:List Op):Tree:= .mk (t.iW l 0).text (t.iW l 0).s (t.iW l 0).attrs (jC (t.iW l 0).kids)
noncomputable def eI (d:Doc) (l:List Op):Doc×Int:=
 if gZ d l=0 then(let x:=ny (rV d d.length 0) l;if x.fZ=true then(aK x,0) else(d,2)) else(d,gZ d l)
def Gi {t:Tree} (ht:t.fZ=true):rV (aK t) (aK t).length 0=t:=by
 refine yE _ 0 (-1) t (.self _ _ _) ?_;have:=t.dH;rw[jU];exact Bu t
def pZ {t:Tree} (ht:t.fZ=true) {l:List Op} (h:gZ (aK t) l=0):eI (aK t) l=if(ny t l).fZ=true then(aK (ny t l),0) else(aK t,2):=by
 unfold eI;rw[adv h,Gi ht]
section
variable {P:Program} {G:Nat→Option (List IV)}
def Xx {cP cz ai aJ da aC aQ bP cy ak az au aD aG:Nat}
  (hF:an P G cP=some (100,[((some (some 1)),4),(none,5)],(iX cz ai aJ da aC aQ bP cy).bare)) (hF2:an P G aC=some (194,[],(aZ ak az au aD aG).bare)) (hF3:an P G aQ=some (40,[((some (some 4)),4)],(gD aQ).bare))
  (hCA:∀xs:List Attr,xs.length≤B→DU P G ai [.list (dA xs)] 2 (dA xs)) (hCI:∀xs:List Int,xs.length≤B→DU P G aJ [.list (xs.map aW)] 1 (xs.map aW))
  (hPh:∀k t,aw P G da [.int .i64 k,.bool t] (.int .i64 (lZ k t)))
  (hI:BX P G ak) (FY:sk P G az) (hD:OT P G au) (hV:D3 P G aD) (Jx:FW P G aG)
  (hJ:∀l:List Tree,er l≤B→aw P G bP [.list (eR l)] (.list (eR (jC l))))
  (hM:∀x:Tree,x.wt≤B→aw P G cy [x.av] (.dM [Doc.av (jJ x).1,.int .i64 (jJ x).2]))
  (d:Doc) (l:List Op) (hl:l.length≤B) (LP:aw P G cz [Doc.av d,.list (l.map Op.iv)] (.int .i64 (gZ d l))) :
  aw P G cP [Doc.av d,.list (l.map Op.iv)] (.dM [Doc.av (eI d l).1,.int .i64 (eI d l).2]):=by
 have nM:B=1073741824:=rfl;by_cases hc:gZ d l=0
 case neg=>
  have:=LQ hF d l LP hc;unfold eI;rw[ag8 hc];exact this
 obtain⟨t,ht,rfl⟩:=hZ.1 (LU hc);obtain⟨hop,acO,hpw⟩:=(n9 ht).1 hc;obtain⟨JH,abX,acP,Uw⟩:=(oC t).1 ht;have hlen:(aK t).length=t.fI:=jU t;have h0:∀i q y,Sub 0 (-1) t i q y→y.text=true→y.kids=[]:=fun i q y hy hT=>(Tree.uE (hy.k_ Uw) hT).1;have hr:∀i q y,Sub 0 (-1) t i q y→j5 y.attrs=true∧y.attrs.length≤80∧y.kids.length≤80:=by
  intro i q y hy;have hyf:=hy.k_ Uw;have hrg:=hy.Jj;have hk:y.kids.length≤80:=by
   have h1:=y.kc;have h2:y.kids.length≤bC y.kids:=by
    have:∀xs:List Tree,xs.length≤bC xs:=by
     intro xs;induction xs with
     |nil=>simp
     |cons x r ih=>have:=x.dH;simp only[bC,adK];omega
    exact this _
   omega
  cases hT:y.text with
  |true=>rw[(Tree.uE hyf hT).2.1];exact⟨rfl,by simp,hk⟩
  |false=>
  rw[Tree.vQ y hT] at hyf;simp only[ady] at hyf;obtain⟨_,h2,h3⟩:=(mg y.attrs).1 hyf.2.1;exact⟨h2,by omega,hk⟩
 have hwn:zK l≤386000:=by
  have h1:=Pf fun o ho=>(hop o ho).small;have h2:l.length*19300≤20*19300:=adW _ acO;omega
 have hgw:=qy ht;obtain⟨ph,Ut⟩:∃ph,ph=Ev (aK t):=⟨_,rfl⟩;have Pj:∀p i pre o post,gO ph l p i=pre++o::post→Bj t pre o:=by
  intro p i pre o post e;rw[Ut] at e;exact Pe hop hpw h0 p i pre o post e
 have fX:∀p i,xr t (gO ph l p i) ((gO ph l p i).foldl mj (t_ t))∧((gO ph l p i).foldl mj (t_ t)).nodes.length≤t.fI+lL (gO ph l p i):=
  fun p i=>JZ h0 _ _ rfl (Pj p i)
 have aaV:∀o:Op,1≤ph o∧ph o≤5:=fun o=>by rw[Ut];exact yk _ _
 have hwd:∀p i,lL (gO ph l p i)≤386000:=by
  intro p i;obtain⟨r,sY⟩:=Bh ph l p i;have h1:lL (rE ph l (p+1))≤lL l:=by
   rw[LR (yg ph l (fun o _=>by have:=(aaV o).1;omega) (p+1))];exact y8 _ l
  rw[sY,Bl] at h1;have:=Gf l;omega
 have W4:Alike l (gO ph l 6 0):=by
  have hd6:gO ph l 6 0=rE ph l 6:=by simp[gO]
  refine⟨fun k n=> ?_,fun n=> ?_⟩
  ·rw[hd6];unfold zq;have hP:=yk k (y6 (aK t) n);rw[tZ _ (lZ k (y6 (aK t) n)) (fun o _ h=> ?_) 6,adv (by omega)];simp only[ady,aep] at h;rw[Ut];unfold Ev;rw[h.1,h.2]
  rw[hd6,tZ _ 1 (fun o _ h=> ?_) 6,adv (by omega)];unfold LK at h;simp only[adM] at h;rw[Ut];unfold Ev;rcases h.2 with h|h<;>rw[h]<;>rfl
 have hx:t.iW (gO ph l 6 0) 0=t.iW l 0:=W4.iW t 0;have Pk:=(fX 6 0).1.rep t.fI 0 (-1) t (adw _) (.self _ _ _);rw[hx] at Pk;have Yq:(t.iW l 0).wt≤B:=by
  have h1:=Ph l t 0;have h2:t.fI*(8*zK l+2)≤80*(8*386000+2):=Nat.mul_le_mul acP (by omega);omega
 have hkw:er (t.iW l 0).kids≤B:=by have:=(t.iW l 0).kZ;omega
 have hjw:=Hl (t.iW l 0).kids;have hMw:(ny t l).wt≤B:=by
  have:=(t.iW l 0).kZ;unfold ny;simp only[Tree.wt];omega
 have BN:(.dM [Doc.av (eI (aK t) l).1,.int .i64 (eI (aK t) l).2]:AV)=if(jJ (ny t l)).2=0 then .dM [Doc.av (jJ (ny t l)).1,.int .i64 0] else .dM [Doc.av (aK t),.int .i64 2]:=by
  rw[pZ ht hc];unfold jJ;cases (ny t l).fZ<;>simp
 rw[BN];have Uu:(2:Nat)^20=1048576:=by decide
 refine Pa hF (aK t) l (t.iW l 0) (fun p i=>(gO ph l p i).foldl mj (t_ t)) (by rw[hlen,Uu];omega) hl LP hc hCA hCI ?_ ?_ ?_ ?_ ?_ ?_ ?_ ?_ ?_ ?_ _ ?_
 ·intro z hz;obtain⟨i,hi⟩:=aeh hz;obtain⟨q,y,hly,hs⟩:=wL (ag6.1 hi).1;rw[hly.node] at hi;cases hi;obtain⟨_,h2,h3⟩:=hr i q y hs;refine⟨by simp[Tree.node];omega,?_⟩;show(aV (i+1) y.kids).length≤B;rw[iO];omega
 ·show(gO ph l 1 0).foldl mj (t_ t)=sW (aK t) (aK t).length;have:gO ph l 1 0=[]:=by
   simp only[gO,rE,agI,afo,adN,aec];rw[aeI];intro o _ h;have:=(aaV o).1;simp at h;omega
  rw[this,agM];unfold sW t_ vA;rw[hlen,ads (by rw[hlen];exact adw _)]
 ·intro p i;have:=(fX p i).1.n0;rw[hlen];exact this
 ·intro p;simp only[F5]
 ·have h1:=(fX 6 0).1.n0;have h2:=(fX 6 0).1.le;rw[hlen,←h1];exact h2
 ·intro o ho;obtain⟨n,q,y,hs,hot,_⟩:=(hop o ho).ex;have mT:=(hs.AA (aK t) ⟨[],by simp[aK]⟩).node;exact⟨_,by omega,by rw[hot,ag9];exact mT,hPh _ _⟩
 ·intro p i o z ho hz ff;have:ph o≠(p:Int):=by rw[Ut];unfold Ev y6;rw[hz];exact ff
  simp only[F6 ho this]
 ·intro p i o z ho hz he;have p9:ph o=(p:Int):=by rw[Ut];unfold Ev y6;rw[hz];exact he
  have mZ:=Pj p (i+1) (gO ph l p i) o [] (yf ho p9);have h1:=(fX p i).2;have h2:=hwd p i;have h3:=hwd p (i+1);rw[yf ho p9] at h3;have:=cDo hF2 hI FY hD hV Jx (fX p i).1 h0 hr mZ (by omega);simp only[yf ho p9,afP,aeP,agM];exact this
 ·have h1:=(fX 6 0).2;have h2:=hwd 6 0;exact O7 hF3 _ _ _ (by omega) _ _ (adw _) 0 Pk Yq
 ·exact hJ _ hkw
 exact hM _ hMw
end

theorem J2:∀{as bs:List Attr},j5 as=true→j5 bs=true→(∀a,a∈as↔a∈bs)→as=bs
 |[],[],_,_,_=>rfl
 |[],b::s,_,_,h=>by have:=(h b).2 (by simp);simp at this
 |a::r,[],_,_,h=>by have:=(h a).1 (by simp);simp at this
 |a::r,b::s,h1,h2,h=>by
  have g1:=rX h1;have g2:=rX h2;have e:a=b:=by
   refine afi fun ff=> ?_;have e1:a∈s:=(adz.1 ((h a).1 (by simp))).resolve_left ff;have e2:b∈r:=(adz.1 ((h b).2 (by simp))).resolve_left fun e=>ff e.symm;have:=sR (g1 b e2) (g2 a e1);rw[vW] at this;cases this
  subst e;congr 1;refine J2 (pr h1) (pr h2) fun x=> ?_;have hx:=h x;simp only[adz] at hx;constructor
  ·intro hr;rcases hx.1 (.inr hr) with rfl|hs
   ·have:=g1 x hr;rw[vW] at this;cases this
   exact hs
  intro hs;rcases hx.2 (.inr hs) with rfl|hr
  ·have:=g2 x hs;rw[vW] at this;cases this
  exact hr
def Ux {a b:Bs}:(Op.bytesLess a b=true∨Op.bytesLess b a=true)↔a≠b:=by
 constructor
 ·rintro(h|h) rfl<;>(rw[vW] at h;cases h)
 intro h;rcases AN a b with h1|h1|h1
 ·exact .inl h1
 ·exact absurd h1 h
 exact .inr h1
def LX {as:List Attr} {k:Bs} {a:Attr}:a∈CY as k↔a∈as∧a.name≠k:=by
 unfold CY;simp only[adD,aey];rw[←Ux];constructor
 ·rintro(⟨h1,h2⟩|⟨h1,h2⟩)
  ·exact⟨h1,.inl h2⟩
  exact⟨h1,.inr h2⟩
 rintro⟨h1,h2|h2⟩
 ·exact .inl ⟨h1,h2⟩
 exact .inr ⟨h1,h2⟩
def Pm {as:List Attr} {k v:Bs} {a:Attr}:a∈LC as k v↔a=⟨k,v⟩∨(a∈as∧a.name≠k):=by
 unfold LC;simp only[adD,adz,aey];rw[←Ux];constructor
 ·rintro(⟨h1,h2⟩|h|⟨h1,h2⟩)
  ·exact .inr ⟨h1,.inl h2⟩
  ·exact .inl h
  exact .inr ⟨h1,.inr h2⟩
 rintro(h|⟨h1,h2|h2⟩)
 ·exact .inr (.inl h)
 ·exact .inl ⟨h1,h2⟩
 exact .inr (.inr ⟨h1,h2⟩)
def Il {as:List Attr} (h:j5 as=true) (a b:Op) (Ld:a.name≠b.name):lS (lS as a) b=lS (lS as b) a:=by
 refine J2 (n7 (n7 h a) b) (n7 (n7 h b) a) fun x=> ?_;rw[tX (n7 h a),tX (n7 h b),tX h,tX h];by_cases h1:a.kind=10<;>by_cases h2:b.kind=10<;>simp only[h1,h2,adH,adS,LX,Pm]
 ·constructor<;>(rintro⟨⟨e1,e2⟩,e3⟩;exact⟨⟨e1,e3⟩,e2⟩)
 ·constructor
  ·rintro(rfl|⟨⟨e1,e2⟩,e3⟩)
   ·exact⟨.inl rfl,fun e=>Ld e.symm⟩
   exact⟨.inr ⟨e1,e3⟩,e2⟩
  rintro⟨rfl|⟨e1,e3⟩,e2⟩
  ·exact .inl rfl
  exact .inr ⟨⟨e1,e2⟩,e3⟩
 ·constructor
  ·rintro⟨rfl|⟨e1,e2⟩,e3⟩
   ·exact .inl rfl
   exact .inr ⟨⟨e1,e3⟩,e2⟩
  rintro(rfl|⟨⟨e1,e2⟩,e3⟩)
  ·exact⟨.inl rfl,Ld⟩
  exact⟨.inr ⟨e1,e3⟩,e2⟩
 constructor
 ·rintro(rfl|⟨rfl|⟨e1,e2⟩,e3⟩)
  ·exact .inr ⟨.inl rfl,fun e=>Ld e.symm⟩
  ·exact .inl rfl
  exact .inr ⟨.inr ⟨e1,e3⟩,e2⟩
 rintro(rfl|⟨rfl|⟨e1,e2⟩,e3⟩)
 ·exact .inr ⟨.inl rfl,Ld⟩
 ·exact .inl rfl
 exact .inr ⟨.inr ⟨e1,e3⟩,e2⟩
structure l4 (l l':List Op):Prop where
 k:∀k n,zq l' k n=zq l k n
 a:∀n as,j5 as=true→en l' n as=en l n as
def Gk {x:Tree} (h:x.k_=true):j5 x.attrs=true:=by
 cases hT:x.text with
 |true=>rw[(Tree.uE h hT).2.1];rfl
 |false=>
 rw[Tree.vQ x hT] at h;simp only[ady] at h;exact((mg x.attrs).1 h.2.1).2.1
section
variable {l l':List Op} (h:l4 l l')
include h
def l4.bg (k:Int) (n:Nat):bg l' k n=Am.bg l k n:=by unfold Am.bg;rw[h.k]
def l4.gi (k:Int) (n:Nat):gi l' k n=Am.gi l k n:=by unfold Am.gi;rw[h.k]
def l4.j6 (n:Nat) (s:Bs):j6 l' n s=Am.j6 l n s:=by unfold Am.j6;rw[h.k]
def l4.kD (n:Nat) (s:Bs):kD l' n s=Am.kD l n s:=by unfold Am.kD;rw[h.k]
end
mutual
theorem l4.rC {l l':List Op} (h:l4 l l'):∀(x:Tree) (off:Nat),x.k_=true→x.rC l' off=x.rC l off
 | .mk t s as ks,off,hf=>by
  have h1:=l4.turns h ks (off+1) fun x hx=>rl (Tree.rn hf) x hx;have h2:=h.a off as (Gk hf);simp only[Tree.rC,h.bg,h.gi,h.j6,h.kD,h1,h2]
theorem l4.turns {l l':List Op} (h:l4 l l'):∀(xs:List Tree) (off:Nat),(∀x∈xs,x.k_=true)→turns l' off xs=turns l off xs
 |[],_,_=>by simp[Am.turns]
 |x::r,off,hf=>by simp only[Am.turns,l4.rC h x off (hf x (by simp)),l4.turns h r (off+x.fI) fun z hz=>hf z (by simp[hz])]
end
def l4.iW {l l':List Op} (h:l4 l l') {x:Tree} (hf:x.k_=true) (off:Nat):x.iW l' off=x.iW l off:=by
 have h1:=l4.turns h x.kids (off+1) fun z hz=>rl (Tree.rn hf) z hz;have h2:=h.a off x.attrs (Gk hf);unfold Tree.iW;simp only[h.bg,h.gi,h.j6,h.kD,h1,h2]
def Io (p q:List Op) (a b:Op):(p++a::b::q).Perm (p++b::a::q):=List.Perm.append_left _ (List.Perm.swap b a q)
def Ip {p q:List Op} {a b:Op} (h:¬(a.kind=b.kind∧a.target=b.target)) (EB:aR b a=false):l4 (p++a::b::q) (p++b::a::q):=by
 constructor
 · intro k n
   unfold zq
   simp only[aeO,aeo]
   by_cases h1:(a.kind==k&&a.target==(n:Int))=true
   · have h2:¬(b.kind==k&&b.target==(n:Int))=true:=by
       intro h2
       simp only[ady,aep] at h1 h2
       exact h ⟨h1.1.trans h2.1.symm,h1.2.trans h2.2.symm⟩
     simp only[adv h1,ag8 h2]
   simp only[ag8 h1]
 intro n as hr
 unfold en
 simp only[afP,aeP]
 have sY:j5 (p.foldl (o6 n) as)=true:=v8 hr p n
 congr 1
 generalize p.foldl (o6 n) as=cs at *
 unfold o6
 by_cases h1:a.target=(n:Int)∧(a.kind=9∨a.kind=10)
 · by_cases h2:b.target=(n:Int)∧(b.kind=9∨b.kind=10)
   · rw[adv h1,adv h1,adv h2,adv h2]
     refine(Il sY a b fun e=> ?_).symm
     unfold aR dX at EB
     rcases h1.2 with e1|e1<;>rcases h2.2 with e2|e2<;>simp[h1.1,h2.1,e1,e2,e] at EB
   simp only[adv h1,ag8 h2]
 simp only[ag8 h1]
def Pn (d:Doc) (p q:List Op) (a b:Op) (h:¬(a.kind=b.kind∧a.target=b.target)) :
  ((eI d (p++a::b::q)).2=0↔(eI d (p++b::a::q)).2=0)∧(eI d (p++a::b::q)).1=(eI d (p++b::a::q)).1:=by
 have Po:=Io p q a b;by_cases hd:cW d=true
 ·obtain⟨t,ht,rfl⟩:=hZ.1 hd;have aaW:gZ (aK t) (p++a::b::q)=0↔gZ (aK t) (p++b::a::q)=0:=by
   rw[n9 ht,n9 ht,Po.pairwise_iff (fun {x y} QS=>by rw[xj];exact QS),Po.length_eq];simp only[Po.mem_iff]
  by_cases hc:gZ (aK t) (p++a::b::q)=0
  ·have HT:=aaW.1 hc;obtain⟨_,_,_,hf⟩:=(oC t).1 ht;have EB:aR b a=false:=by
    have:=((n9 ht).1 hc).2.2;rw[ae4] at this;exact(afh.1 this.2.1).1 b (by simp)
   have hT:ny t (p++b::a::q)=ny t (p++a::b::q):=by
    unfold ny;rw[(Ip (p:=p) (q:=q) h EB).iW hf]
   rw[pZ ht hc,pZ ht HT,hT];exact⟨Iff.rfl,rfl⟩
  have HT:¬gZ (aK t) (p++b::a::q)=0:=fun e=>hc (aaW.2 e);unfold eI;rw[ag8 hc,ag8 HT];exact⟨⟨fun e=>absurd e hc,fun e=>absurd e HT⟩,rfl⟩
 have hn:∀l,gZ d l=1:=fun l=>by unfold gZ;rw[ag8 hd]
 unfold eI;rw[hn,hn];simp
end Go.Am

set_option maxRecDepth 20000
namespace Go.Am
open Go Go.RowKit
def aaX (l:List Op):Prop:=l.length≤2^22∧∀o∈l,er o.content≤2^22∧o.name.length≤2^22∧o.s.length≤2^22
def Pp (P:Program) (G:Nat→Option (List IV)) (f:Nat):Prop:=∀(d:Doc) (l:List Op),rq d≤2^22→aaX l→aw P G f [Doc.av d,.list (l.map Op.iv)] (.dM [Doc.av (eI d l).1,.int .i64 (eI d l).2])
section
variable {P:Program} {G:Nat→Option (List IV)}

def adm (cA dq:Nat) (sz bz:Nat) (z:List AV):AC:=
(.seq (.ec [⟨some 6,none,.nE (.c .nil0)⟩]) (.gh (.Vm) (.seq (.ec [⟨some 10,none,.nE (.t 0)⟩,⟨some 11,none,.nE (.t 1)⟩,⟨some 12,none,.qd (.t 10) (some (.t 11)) none none sz⟩]) (.seq (.ec [⟨some 13,none,.nE (.t 2)⟩,⟨some 14,none,.len (.t 13)⟩,⟨some 7,none,.nE (.t 14)⟩]) (.seq (.seq (.ec [⟨some 15,none,.nE (.t 7)⟩,⟨some 16,none,.bin .eql (.t 15) (.c (.int .i64 0))⟩]) (.cond (.t 16) (.seq (.ec [⟨some 17,none,.nE (.t 0)⟩,⟨some 6,none,.nE (.t 17)⟩]) .ret) .skip)) (.seq (.ec [⟨some 18,none,.nE (.t 0)⟩,⟨some 19,none,.len (.t 18)⟩,⟨some 8,none,.nE (.t 19)⟩]) (.seq (.seq (.ec [⟨some 20,none,.nE (.t 1)⟩,⟨some 21,none,.nE (.t 8)⟩,⟨some 22,none,.bin .eql (.t 20) (.t 21)⟩]) (.cond (.t 22) (.seq (.ec [⟨some 23,none,.nE (.t 0)⟩,⟨some 24,none,.nE (.t 2)⟩,⟨some 25,none,.app (.t 23) (.t 24) sz bz⟩,⟨some 6,none,.nE (.t 25)⟩]) .ret) .skip)) (.seq (.seq (.ec [⟨some 26,none,.nE (.t 8)⟩,⟨some 27,none,.nE (.t 7)⟩,⟨some 28,none,.bin .add (.t 26) (.t 27)⟩,⟨some 29,none,.nE (.t 0)⟩,⟨some 30,none,.cap (.t 29)⟩,⟨some 31,none,.bin .gtr (.t 28) (.t 30)⟩]) (.cond (.t 31) (.seq (.ec [⟨some 32,none,.nE (.t 0)⟩,⟨some 33,none,.nE (.t 1)⟩,⟨some 34,none,.qd (.t 32) none (some (.t 33)) none sz⟩,⟨some 35,none,.nE (.t 8)⟩,⟨some 36,none,.nE (.t 7)⟩,⟨some 37,none,.bin .add (.t 35) (.t 36)⟩,⟨some 38,none,.nE (.t 1)⟩,⟨some 39,none,.bin .sub (.t 37) (.t 38)⟩,⟨some 40,none,.zO (.t 34) (.t 39) sz bz z⟩,⟨some 9,none,.nE (.t 40)⟩]) (.seq (.ec [⟨some 41,none,.nE (.t 9)⟩,⟨some 42,none,.nE (.t 1)⟩,⟨some 43,none,.qd (.t 41) (some (.t 42)) none none sz⟩,⟨some 44,none,.nE (.t 2)⟩,⟨some 45,none,.xu (.t 43) (.t 44) sz⟩]) (.seq (.fg [⟨some 46,none,.nE (.t 9)⟩,⟨some 47,none,.nE (.t 1)⟩,⟨some 48,none,.nE (.t 7)⟩,⟨some 49,none,.bin .add (.t 47) (.t 48)⟩,⟨some 50,none,.qd (.t 46) (some (.t 49)) none none sz⟩,⟨some 51,none,.nE (.t 0)⟩,⟨some 52,none,.nE (.t 1)⟩,⟨some 53,none,.qd (.t 51) (some (.t 52)) none none sz⟩,⟨some 54,none,.xu (.t 50) (.t 53) sz⟩] [[],[],[],[1,2],[0,3],[],[],[5,6],[4,7]] [.no,.no,.no,.no,.no,.no,.no,.no,(.rw [(.par 0)] [(.loc 40)])]) (.seq (.ec [⟨some 55,none,.nE (.t 9)⟩,⟨some 6,none,.nE (.t 55)⟩]) .ret)))) .skip)) (.seq (.ec [⟨some 56,none,.nE (.t 0)⟩,⟨some 57,none,.nE (.t 8)⟩,⟨some 58,none,.nE (.t 7)⟩,⟨some 59,none,.bin .add (.t 57) (.t 58)⟩,⟨some 60,none,.qd (.t 56) none (some (.t 59)) none sz⟩,⟨some 0,none,.nE (.t 60)⟩]) (.seq (.seq (.ec [⟨some 61,none,.nE (.t 2)⟩,⟨some 62,none,.nE (.t 0)⟩,⟨some 63,none,.nE (.t 1)⟩,⟨some 64,none,.nE (.t 7)⟩,⟨some 65,none,.bin .add (.t 63) (.t 64)⟩,⟨some 66,none,.qd (.t 62) (some (.t 65)) none none sz⟩,⟨some 67,none,.o3 cA [(.t 61),(.t 66)]⟩,⟨some 68,none,.not (.t 67)⟩]) (.cond (.t 68) (.seq (.fg [⟨some 69,none,.nE (.t 0)⟩,⟨some 70,none,.nE (.t 1)⟩,⟨some 71,none,.nE (.t 7)⟩,⟨some 72,none,.bin .add (.t 70) (.t 71)⟩,⟨some 73,none,.qd (.t 69) (some (.t 72)) none none sz⟩,⟨some 74,none,.nE (.t 0)⟩,⟨some 75,none,.nE (.t 1)⟩,⟨some 76,none,.qd (.t 74) (some (.t 75)) none none sz⟩,⟨some 77,none,.xu (.t 73) (.t 76) sz⟩] [[],[],[],[1,2],[0,3],[],[],[5,6],[4,7]] [.no,.no,.no,.no,.no,.no,.no,.no,(.rw [] [(.par 0)])]) (.seq (.ec [⟨some 78,none,.nE (.t 0)⟩,⟨some 79,none,.nE (.t 1)⟩,⟨some 80,none,.qd (.t 78) (some (.t 79)) none none sz⟩,⟨some 81,none,.nE (.t 2)⟩,⟨some 82,none,.xu (.t 80) (.t 81) sz⟩]) (.seq (.ec [⟨some 83,none,.nE (.t 0)⟩,⟨some 6,none,.nE (.t 83)⟩]) .ret))) .skip)) (.seq (.ec [⟨some 84,none,.nE (.t 0)⟩,⟨some 85,none,.nE (.t 8)⟩,⟨some 86,none,.qd (.t 84) (some (.t 85)) none none sz⟩,⟨some 87,none,.nE (.t 2)⟩,⟨some 88,none,.xu (.t 86) (.t 87) sz⟩]) (.seq (.ec [⟨some 89,none,.nE (.t 0)⟩,⟨some 90,none,.nE (.t 1)⟩,⟨some 91,none,.qd (.t 89) (some (.t 90)) none none sz⟩,⟨some 92,none,.nE (.t 7)⟩,⟨some 93,none,.call dq [(.t 91),(.t 92)]⟩]) (.seq (.ec [⟨some 94,none,.nE (.t 0)⟩,⟨some 6,none,.nE (.t 94)⟩]) .ret)))))))))))))
set_option maxRecDepth 10000 in
def adp {br cA dq:Nat} {sz bz:Nat} {z:List AV} (s0:0<sz) (b0:0<bz) (b1:bz≤32) (hF:an P G br=some (95,[(none,6)],(adm cA dq sz bz z).bare)) (xs vs:List IV) (i:Nat) (hi:i≤xs.length) (hb:xs.length+vs.length≤B)
  (ex:ko sz xs) (fx:Flat xs) (ev:ko sz vs) (fv:Flat vs)
  (hO:∀(N:Nat) (l:Lb) (sz j n c:Nat) (r:Row) (H:Hp),vs≠[]→H l= .live r→0<n→o7 ⟨P,G,N⟩ cA [.list vs,.slk l sz j n c] H (.bool false)) :
  va P G sz br [.sl (.par 0) sz 0 xs.length,.int .i64 i,.list vs] xs (xs.take i++vs++xs.drop i):=by
 refine sc hF (by simp) (by simp[ah,AV.aB]) ?_;have nM:B=1073741824:=rfl;have hm:∀m:Nat,m≤B→m*bz≤140737488355328:=fun m h=>Nat.le_trans (Nat.mul_le_mul h b1) (by decide);unfold adm;simp only[↓aX,mX,seval];rw[Dz];refine⟨_,_,_,r_ (d:=0) (l:= .par 0) (n:=xs.length) (els:=ar xs) rfl (by simp[gg]),?_⟩;rintro⟨c,B4,HT⟩;obtain⟨rest,lP⟩:∃rest,rest=List.replicate (c - (ar xs).length) (List.replicate sz AV.any):=⟨_,rfl⟩;have FK:rest.length=c - xs.length:=by rw[lP,List.length_replicate,dw]
 simp only[←lP];have hz:∀(A D:List (List AV)),D=[]→A++D=A:=fun A D h=>by rw[h,List.append_nil]
 have T8:=dw xs;have Em:=dw vs;have oU:IntKind.i64.wrap ((xs.length:Int)+(vs.length:Int))=((xs.length+vs.length:Nat):Int):=wrap64 (by omega) (by omega);have BQ:IntKind.i64.wrap (((xs.length+vs.length:Nat):Int) - (i:Int))=((xs.length+vs.length - i:Nat):Int):=by rw[wrap64 (by omega) (by omega)];omega
 have BR:IntKind.i64.wrap ((i:Int)+(vs.length:Int))=((i+vs.length:Nat):Int):=wrap64 (by omega) (by omega);simp only[↓aX,mX,seval,gg,nG,oR,mW,xI,hi,Option.isSome_none,Int.natCast_nonneg,Int.toNat_natCast,and_self,true_and,Nat.zero_le,Nat.sub_zero];by_cases IU:vs.length=0
 ·have RN:vs=[]:=List.length_eq_zero_iff.1 IU;rw[show(((vs.length:Nat):Int)==0)=true by simp[IU]];subst RN;simp only[↓aX,mX,seval,List.append_nil,List.take_append_drop,dB];exact⟨.par 0,c,rest,.inr rfl,by simp⟩
 rw[show(((vs.length:Nat):Int)==0)=false by simpa using IU];simp only[↓aX,mX,seval];have VZ:vs≠[]:=fun e=>IU (by rw[e];rfl);by_cases qW:i=xs.length
 ·rw[show(((i:Nat):Int)==((xs.length:Nat):Int))=true by simp[qW]];simp only[↓aX,mX,seval];by_cases zV:xs.length+vs.length≤c
  ·rw[A9 (els:=ar xs++rest) (by simp) (by simp;omega) ev fv b0 (by simp) zV (by simp;omega)];simp only[↓aX,mX,seval,dB];refine⟨.par 0,c,(ar xs++rest).drop (xs.length+vs.length),.inr ?_,?_⟩
   ·simp[qW]
   simp only[ae,if_true,Slot.live.injEq,Row.mk.injEq,true_and];rw[qW,List.take_of_length_le (Nat.le_refl _),List.drop_of_length_le (Nat.le_refl _),List.append_nil,mh (Nat.le_refl _),List.take_of_length_le (Nat.le_refl _),iN]
  rw[yS (els:=ar xs++rest) (by simp) (by simp;omega) ev fv b0 (by simp) (by omega) (hm _ (by omega)) (by simp[Hp.none,ae])];simp only[↓aX,mX,seval,dB];subst qW;refine⟨.loc 25,0,[],by simp,?_⟩;simp only[ae,if_true,Slot.live.injEq,Row.mk.injEq,true_and];rw[List.take_of_length_le (Nat.le_refl _),List.drop_of_length_le (Nat.le_refl _),List.append_nil,mh (Nat.le_refl _),List.take_of_length_le (Nat.le_refl _)];simp[ar]
 rw[show(((i:Nat):Int)==((xs.length:Nat):Int))=false by simp;omega];simp only[↓aX,mX,seval,oU,E0];intro _;have zi:ar (xs.take i)++ar vs++ar (xs.drop i)=ar (xs.take i++vs++xs.drop i):=by rw[iN,iN]
 have hlen:(xs.take i++vs++xs.drop i).length=xs.length+vs.length:=by simp;omega
 rw[hlen];have yw:=dw (xs.take i);rw[List.length_take,Nat.min_eq_left hi] at yw;have Xy:=dw (xs.drop i);rw[List.length_drop] at Xy;by_cases zV:c<xs.length+vs.length
 ·rw[show decide (((xs.length+vs.length:Nat):Int)>(c:Int))=true by simp;omega];simp only[↓aX,mX,seval,nG,oR,mW,xI,hi,Option.isSome_none,Int.natCast_nonneg,Int.toNat_natCast,and_self,true_and,Nat.zero_le,Nat.sub_zero,oU,BQ,show i≤c by omega];obtain⟨k,hk⟩:∃k,k=xs.length+vs.length - i:=⟨_,rfl⟩;rw[←hk];have hik:i+k=xs.length+vs.length:=by omega
  rw[FD (els:=ar xs++rest) (by simp) (by simp;omega) (by omega) (hm _ (by omega)) (by simp[Hp.none,ae]),mh hi,hik];simp only[↓aX,mX,seval,nG,rK,mW,xI,hi,Option.isSome_none,Int.natCast_nonneg,Int.toNat_natCast,and_self,true_and,Nat.zero_le,Nat.sub_zero,show i≤xs.length+vs.length by omega,Nat.zero_add,←hk];rw[tO (news:=ar vs) (l:= .loc 40) (i:=i) (n:=k) (els:=ar (xs.take i)++List.replicate k z) (m:=vs.length) (mJ ev) rfl (by simp) (by simp;omega) (by rw[Em];exact(Nat.min_eq_left (by omega)).symm) (fun cs bS=>fv.one cs (List.mem_of_mem_take bS))];rw[List.take_left' yw,List.take_of_length_le (Nat.le_of_eq Em)];simp only[↓aX,mX,seval,nG,rK,oR,mW,xI,hi,Option.isSome_none,Int.natCast_nonneg,Int.toNat_natCast,and_self,true_and,Nat.zero_le,Nat.sub_zero,show i+vs.length≤xs.length+vs.length by omega,Nat.zero_add,BR];refine⟨rfl,?_⟩;rw[tO (news:=ar (xs.drop i)) (l:= .loc 40) (i:=i+vs.length) (n:=xs.length+vs.length - (i+vs.length)) (els:=ar (xs.take i)++ar vs++(ar (xs.take i)++List.replicate k z).drop (i+vs.length)) (m:=xs.length - i)]
  ·simp only[↓aX,mX,seval,dB,j4,Lb.kQ];refine⟨.loc 40,0,[],by simp,?_⟩;simp only[ae,if_true,Slot.live.injEq,Row.mk.injEq,true_and,List.append_nil];rw[←zi,List.take_left' (by simp;omega),List.take_of_length_le (Nat.le_of_eq Xy)];exact hz _ _ (List.drop_of_length_le (by simp;omega))
  ·simp only[oT,ae,reduceCtorEq,if_false,if_true,true_and];rw[if_pos (by simp;omega)];congr 1;rw[rz (by omega)];congr 1;exact List.take_of_length_le (by simp)
  ·rfl
  ·simp
  ·simp;omega
  ·rw[Xy];exact(Nat.min_eq_left (by omega)).symm
  exact fun cs bS=>(Flat.one (fun y hy=>fx y (List.mem_of_mem_drop hy)):∀cs∈ar (xs.drop i),AV.qE cs) cs (List.mem_of_mem_take bS)
 rw[show decide (((xs.length+vs.length:Nat):Int)>(c:Int))=false by simp;omega];simp only[↓aX,mX,seval,nG,oR,mW,xI,hi,Option.isSome_none,Int.natCast_nonneg,Int.toNat_natCast,and_self,true_and,Nat.zero_le,Nat.sub_zero,oU,BR,show xs.length+vs.length≤c by omega,show i+vs.length≤xs.length+vs.length by omega,Nat.zero_add];refine Ai (hO _ (.par 0) _ _ _ _ ⟨sz,ar xs++rest⟩ _ VZ (by simp) (by omega)) ?_;simp only[↓aX,mX,seval,nG,oR,mW,xI,hi,Option.isSome_none,Int.natCast_nonneg,Int.toNat_natCast,and_self,true_and,Nat.zero_le,Nat.sub_zero,oU,BR,show i≤xs.length+vs.length by omega,show i+vs.length≤xs.length+vs.length by omega,Nat.zero_add];refine⟨rfl,?_⟩;have hn:(((ar xs++rest).drop i).take (xs.length+vs.length - i)).take (xs.length - i)=ar (xs.drop i):=by rw[List.take_take,Nat.min_eq_left (by omega),rz (by omega),List.take_of_length_le (by simp)]
 have fd:∀cs∈ar (xs.drop i),AV.qE cs:=Flat.one fun y hy=>fx y (List.mem_of_mem_drop hy);rw[tO (news:=((ar xs++rest).drop i).take (xs.length+vs.length - i)) (l:= .par 0) (i:=i+vs.length) (n:=xs.length+vs.length - (i+vs.length)) (els:=ar xs++rest) (m:=xs.length - i)
  (by simp only[oT,ae,if_true,true_and];rw[if_pos (by simp;omega)]) rfl (by simp) (by simp;omega) (by rw[List.length_take,List.length_drop,List.length_append,T8,FK];show _=min _ _;omega) (by rw[hn];exact fd)]
 rw[hn];simp only[↓aX,mX,seval,j4,Lb.kQ,nG,oR,mW,xI,Option.isSome_none,Int.natCast_nonneg,Int.toNat_natCast,and_self,true_and,Nat.zero_le,Nat.sub_zero,show i≤xs.length+vs.length by omega,Nat.zero_add];rw[tO (news:=ar vs) (l:= .par 0) (i:=i) (n:=xs.length+vs.length - i) (els:=(ar xs++rest).take (i+vs.length)++ar (xs.drop i)++(ar xs++rest).drop (i+vs.length+(xs.length - i))) (m:=vs.length)
  (mJ ev) rfl (by simp) (by simp;omega) (by rw[Em];exact(Nat.min_eq_left (by omega)).symm) (fun cs bS=>fv.one cs (List.mem_of_mem_take bS))]
 simp only[↓aX,mX,seval,dB,or_true,true_and];refine⟨.par 0,c,(ar xs++rest).drop (xs.length+vs.length),.inr rfl,?_⟩;simp only[ae,if_true,Slot.live.injEq,Row.mk.injEq,true_and];have h1:((ar xs++rest).take (i+vs.length)).length=i+vs.length:=by rw[List.length_take,List.length_append,T8,FK];omega
 have e1:i+vs.length+(xs.length - i)=xs.length+vs.length:=by omega
 have e2:((ar xs++rest).take (i+vs.length)++ar (xs.drop i)++(ar xs++rest).drop (xs.length+vs.length)).take i=ar (xs.take i):=by
  rw[List.append_assoc,List.take_append_of_le_length (by omega),List.take_take,Nat.min_eq_left (by omega),mh hi]
 have e3:((ar xs++rest).take (i+vs.length)++ar (xs.drop i)++(ar xs++rest).drop (xs.length+vs.length)).drop (i+vs.length)=ar (xs.drop i)++(ar xs++rest).drop (xs.length+vs.length):=by
  rw[List.append_assoc,List.drop_left' h1]
 rw[e1,e2,e3,←zi,List.take_of_length_le (Nat.le_of_eq Em)];simp only[List.append_assoc]
def adn (sz bz:Nat) (z:List AV):AC:=
(.seq (.ec [⟨some 6,none,.nE (.c .nil0)⟩]) (.gh (.Vm) (.seq (.ec [⟨some 8,none,.nE (.t 0)⟩,⟨some 9,none,.nE (.t 1)⟩,⟨some 10,none,.nE (.t 2)⟩,⟨some 11,none,.nE (.t 0)⟩,⟨some 12,none,.len (.t 11)⟩,⟨some 13,none,.qd (.t 8) (some (.t 9)) (some (.t 10)) (some (.t 12)) sz⟩]) (.seq (.seq (.ec [⟨some 14,none,.nE (.t 1)⟩,⟨some 15,none,.nE (.t 2)⟩,⟨some 16,none,.bin .eql (.t 14) (.t 15)⟩]) (.cond (.t 16) (.seq (.ec [⟨some 17,none,.nE (.t 0)⟩,⟨some 6,none,.nE (.t 17)⟩]) .ret) .skip)) (.seq (.ec [⟨some 18,none,.nE (.t 0)⟩,⟨some 19,none,.len (.t 18)⟩,⟨some 7,none,.nE (.t 19)⟩]) (.seq (.fg [⟨some 20,none,.nE (.t 0)⟩,⟨some 21,none,.nE (.t 1)⟩,⟨some 22,none,.qd (.t 20) none (some (.t 21)) none sz⟩,⟨some 23,none,.nE (.t 0)⟩,⟨some 24,none,.nE (.t 2)⟩,⟨some 25,none,.qd (.t 23) (some (.t 24)) none none sz⟩,⟨some 26,none,.app (.t 22) (.t 25) sz bz⟩,⟨some 0,none,.nE (.t 26)⟩] [[],[],[0,1],[],[],[3,4],[2,5],[6,6,0,1,2,3,4,5,6]] [.no,.no,.no,.no,.no,.no,(.rw [] [(.par 0),(.loc 26)]),.no]) (.seq (.ec [⟨some 27,none,.nE (.t 0)⟩,⟨some 28,none,.nE (.t 0)⟩,⟨some 29,none,.len (.t 28)⟩,⟨some 30,none,.nE (.t 7)⟩,⟨some 31,none,.qd (.t 27) (some (.t 29)) (some (.t 30)) none sz⟩,⟨none,none,.Ek (.t 31) sz z⟩]) (.seq (.ec [⟨some 32,none,.nE (.t 0)⟩,⟨some 6,none,.nE (.t 32)⟩]) .ret))))))))
set_option maxRecDepth 10000 in
def adq {au:Nat} {sz bz:Nat} {z:List AV} (s0:0<sz) (b0:0<bz) (b1:bz≤32) (z2:AV.qE z) (hF:an P G au=some (33,[(none,6)],(adn sz bz z).bare)) (xs:List IV) (i j:Nat) (hi:i<j) (hj:j≤xs.length) (hb:xs.length≤B) (ex:ko sz xs) (fx:Flat xs) :
  va P G sz au [.sl (.par 0) sz 0 xs.length,.int .i64 i,.int .i64 j] xs (xs.take i++xs.drop j):=by
 refine sc hF (by simp) (by simp[ah,AV.aB]) ?_;have nM:B=1073741824:=rfl;have hm:∀m:Nat,m≤B→m*bz≤140737488355328:=fun m h=>Nat.le_trans (Nat.mul_le_mul h b1) (by decide);unfold adn;simp only[↓aX,mX,seval];rw[Dz];refine⟨_,_,_,r_ (d:=0) (l:= .par 0) (n:=xs.length) (els:=ar xs) rfl (by simp[gg]),?_⟩;rintro⟨c,B4,HT⟩;obtain⟨rest,lP⟩:∃rest,rest=List.replicate (c - (ar xs).length) (List.replicate sz AV.any):=⟨_,rfl⟩;have FK:rest.length=c - xs.length:=by rw[lP,List.length_replicate,dw]
 simp only[←lP];have T8:=dw xs;simp only[↓aX,mX,seval,gg,nG,oR,mW,xI,Option.isSome_none,Option.isSome_some,Option.isNone_some,Int.natCast_nonneg,Int.toNat_natCast,and_self,true_and,Nat.zero_le,Nat.sub_zero,hj,B4,Nat.le_of_lt hi,if_true,show(((i:Nat):Int)==((j:Nat):Int))=false by simp;omega];refine⟨rfl,?_⟩;simp only[↓aX,mX,seval,gg,nG,oR,mW,xI,Option.isSome_none,Int.natCast_nonneg,Int.toNat_natCast,and_self,true_and,Nat.zero_le,Nat.sub_zero,hj,show i≤c by omega,if_true,Nat.zero_add];have fd:∀cs∈ar (xs.drop j),AV.qE cs:=Flat.one fun y hy=>fx y (List.mem_of_mem_drop hy);have hdj:=dw (xs.drop j);rw[List.length_drop] at hdj;have yw:=dw (xs.take i);rw[List.length_take,Nat.min_eq_left (by omega)] at yw;rw[yR (news:=ar (xs.drop j)) (els:=ar xs++rest)
  (by simp only[oT,ae,if_true,true_and];rw[if_pos (by simp;omega),rz (by omega),List.take_of_length_le (by simp)]) fd (by simp) (by simp;omega) b0 (by simp) (by omega) (by simp;omega)]
 rw[hdj,mh (by omega)];have hw:xs.length - j+i≤xs.length:=by omega
 simp only[↓aX,mX,seval,Ag,j4,Lb.kQ,Lb.app,Lb.fresh,nG,oR,mW,xI,Option.isSome_none,Int.natCast_nonneg,Int.toNat_natCast,and_self,true_and,Nat.zero_le,Nat.sub_zero,B4,if_true,Nat.zero_add,or_true,true_or,show i+(xs.length - j)≤xs.length by omega];rw[OA (l:= .par 0) (i:=i+(xs.length - j)) (n:=xs.length - (i+(xs.length - j))) (els:=ar (xs.take i)++ar (xs.drop j)++(ar xs++rest).drop (i+(xs.length - j))) z2 rfl (by simp) (by simp;omega)];simp only[↓aX,mX,seval,dB,or_true,true_and];refine⟨by rintro l (rfl|rfl)<;>simp,.par 0,c,List.replicate (xs.length - (i+(xs.length - j))) z++(ar (xs.take i)++ar (xs.drop j)++(ar xs++rest).drop (i+(xs.length - j))).drop (i+(xs.length - j)+(xs.length - (i+(xs.length - j)))),.inr (by rw[List.length_append,List.length_take,List.length_drop,Nat.min_eq_left (by omega)]),?_⟩;simp only[ae,if_true,Slot.live.injEq,Row.mk.injEq,true_and];rw[List.append_assoc,List.take_left' (by rw[List.length_append];omega),iN]
def fU (fo fr:Nat):AC:=adm fo fr 1 8 [.int .i64 0]
def Pq {f fo fr:Nat} (hF:an P G f=some (95,[(none,6)],(fU fo fr).bare)) (xs vs:List IV) (i:Nat) (hi:i≤xs.length) (hb:xs.length+vs.length≤B)
  (ex:ko 1 xs) (fx:Flat xs) (ev:ko 1 vs) (fv:Flat vs)
  (hO:∀(N:Nat) (l:Lb) (sz j n c:Nat) (r:Row) (H:Hp),vs≠[]→H l= .live r→0<n→o7 ⟨P,G,N⟩ fo [.list vs,.slk l sz j n c] H (.bool false)) :
  va P G 1 f [.sl (.par 0) 1 0 xs.length,.int .i64 i,.list vs] xs (xs.take i++vs++xs.drop i):=
 adp (by decide) (by decide) (by decide) hF xs vs i hi hb ex fx ev fv hO
def fV:AC:=adn 1 8 [.int .i64 0]
def Pr {f:Nat} (hF:an P G f=some (33,[(none,6)],fV.bare)) (xs:List IV) (i j:Nat) (hi:i<j) (hj:j≤xs.length) (hb:xs.length≤B) (ex:ko 1 xs) (fx:Flat xs) :
  va P G 1 f [.sl (.par 0) 1 0 xs.length,.int .i64 i,.int .i64 j] xs (xs.take i++xs.drop j):=
 adq (by decide) (by decide) (by decide) (by intro x hx;simp at hx;rcases hx with rfl|rfl<;>rfl) hF xs i j hi hj hb ex fx
def fa (fo fr:Nat):AC:=adm fo fr 2 32 [.str [],.str []]
def Ps {f fo fr:Nat} (hF:an P G f=some (95,[(none,6)],(fa fo fr).bare)) (xs vs:List IV) (i:Nat) (hi:i≤xs.length) (hb:xs.length+vs.length≤B)
  (ex:ko 2 xs) (fx:Flat xs) (ev:ko 2 vs) (fv:Flat vs)
  (hO:∀(N:Nat) (l:Lb) (sz j n c:Nat) (r:Row) (H:Hp),vs≠[]→H l= .live r→0<n→o7 ⟨P,G,N⟩ fo [.list vs,.slk l sz j n c] H (.bool false)) :
  va P G 2 f [.sl (.par 0) 2 0 xs.length,.int .i64 i,.list vs] xs (xs.take i++vs++xs.drop i):=
 adp (by decide) (by decide) (by decide) hF xs vs i hi hb ex fx ev fv hO
def fe:AC:=adn 2 32 [.str [],.str []]
def Pt {f:Nat} (hF:an P G f=some (33,[(none,6)],fe.bare)) (xs:List IV) (i j:Nat) (hi:i<j) (hj:j≤xs.length) (hb:xs.length≤B) (ex:ko 2 xs) (fx:Flat xs) :
  va P G 2 f [.sl (.par 0) 2 0 xs.length,.int .i64 i,.int .i64 j] xs (xs.take i++xs.drop j):=
 adq (by decide) (by decide) (by decide) (by intro x hx;simp at hx;rcases hx with rfl|rfl<;>rfl) hF xs i j hi hj hb ex fx
end

section
variable {P:Program} {G:Nat→Option (List IV)}
def aaY {br cA dq:Nat} (hF:an P G br=some (95,[(none,6)],(fU cA dq).bare))
  (hO:∀(N:Nat) (vs:List IV) (l:Lb) (sz j n c:Nat) (r:Row) (H:Hp),vs≠[]→H l= .live r→0<n→o7 ⟨P,G,N⟩ cA [.list vs,.slk l sz j n c] H (.bool false)):Xe P G br:=by
 intro xs vs i hi hb;have h:=Pq hF (xs.map aW) (vs.map aW) i (by simpa using hi) (by simpa using hb) (rj _) (oy _) (rj _) (oy _) (fun N l sz j n c r H h1 h2 h3=>hO N _ l sz j n c r H h1 h2 h3);rw[ag5] at h;simpa only[aeQ,afp,af6] using h
def aaZ {au:Nat} (hF:an P G au=some (33,[(none,6)],fV.bare)):OT P G au:=by
 intro xs i hi hb;have h:=Pr hF (xs.map aW) i (i+1) (by omega) (by rw[ag5];omega) (by simpa using hb) (rj _) (oy _);rw[ag5] at h;simpa only[aeQ,afp,af6] using h
def aa0 {bm cu cZ:Nat} (hF:an P G bm=some (95,[(none,6)],(fa cu cZ).bare))
  (hO:∀(N:Nat) (vs:List IV) (l:Lb) (sz j n c:Nat) (r:Row) (H:Hp),vs≠[]→H l= .live r→0<n→o7 ⟨P,G,N⟩ cu [.list vs,.slk l sz j n c] H (.bool false)):aaG P G bm:=by
 intro xs vs i hi hb;have h:=Ps hF (dA xs) (dA vs) i (by rw[bQ];exact hi) (by rw[bQ,bQ];exact hb) (tk _) (ri _) (tk _) (ri _) (fun N l sz j n c r H h1 h2 h3=>hO N _ l sz j n c r H h1 h2 h3);rw[bQ] at h;simpa only[dA,aeQ,afp,af6] using h
def aa1 {bj:Nat} (hF:an P G bj=some (33,[(none,6)],fe.bare)):aaH P G bj:=by
 intro xs i hi hb;have h:=Pt hF (dA xs) i (i+1) (by omega) (by rw[bQ];exact hi) (by rw[bQ];exact hb) (tk _) (ri _);rw[bQ] at h;simpa only[dA,aeQ,afp,af6] using h
structure ChF (P:Program) (G:Nat→Option (List IV)) where
 cP:Nat
 cz:Nat
 eW:Nat
 dK:Nat
 dY:Nat
 dE:Nat
 bG:Nat
 bY:Nat
 da:Nat
 aC:Nat
 ak:Nat
 bq:Nat
 az:Nat
 aD:Nat
 aG:Nat
 aQ:Nat
 cd:Nat
 br:Nat
 au:Nat
 bm:Nat
 bj:Nat
 aO:Nat
 cq:Nat
 bW:Nat
 bf:Nat
 ai:Nat
 aJ:Nat
 cA:Nat
 cu:Nat
 dq:Nat
 cZ:Nat
 bb:Nat
 bX:Nat
 cj:Nat
 dU:Nat
 dV:Nat
 bP:Nat
 cy:Nat
 Pu:an P G cP=some (100,[((some (some 1)),4),(none,5)],(iX cz ai aJ da aC aQ bP cy).bare)
 Pv:an P G cz=some (42,[(none,4)],(nv bX eW dE bG).bare)
 Jw:an P G eW=some (37,[(none,4)],(om bX dK).bare)
 Pw:an P G dK=some (107,[(none,4)],(lr cj dU dV).bare)
 Gl:an P G dY=some (54,[(none,4)],lI.bare)
 J3:an P G dE=some (7,[(none,3)],(lJ dY).bare)
 C8:an P G bG=some (9,[(none,4)],(fW bY).bare)
 J4:an P G bY=some (19,[(none,4)],gV.bare)
 Px:an P G da=some (17,[(none,4)],nt.bare)
 Bv:an P G aC=some (194,[],(aZ ak az au aD aG).bare)
 zL:an P G ak=some (43,[],(i_ bq br).bare)
 hAdd:an P G bq=some (58,[(none,6)],(iV ai bq).bare)
 Py:an P G az=some (26,[(none,4),(none,5)],(jx cq).bare)
 Pz:an P G aD=some (35,[],(jy ak).bare)
 Uy:an P G aG=some (77,[],(jO aO cd bj bm).bare)
 Uz:an P G aQ=some (40,[((some (some 4)),4)],(gD aQ).bare)
 PA:an P G cd=some (9,[(none,4)],(iZ bW).bare)
 UA:an P G br=some (95,[(none,6)],(fU cA dq).bare)
 UB:an P G au=some (33,[(none,6)],fV.bare)
 UC:an P G bm=some (95,[(none,6)],(fa cu cZ).bare)
 UD:an P G bj=some (33,[(none,6)],fe.bare)
 J5:an P G aO=some (49,[(none,6),(none,7)],dh.bare)
 DQ:an P G cq=some (19,[(none,4)],iy.bare)
 xl:an P G bW=some (8,[(none,4)],(jv bf).bare)
 aa2:an P G bf=some (8,[(none,4)],(dJ bb).bare)
 wY:an P G ai=some (8,[(none,2)],eC.bare)
 J6:an P G aJ=some (8,[(none,2)],gk.bare)
 oI:∀(N:Nat) (vs:List IV) (l:Lb) (sz j n c:Nat) (r:Row) (H:Hp),vs≠[]→H l= .live r→0<n→o7 ⟨P,G,N⟩ cA [.list vs,.slk l sz j n c] H (.bool false)
 oA:∀(N:Nat) (vs:List IV) (l:Lb) (sz j n c:Nat) (r:Row) (H:Hp),vs≠[]→H l= .live r→0<n→o7 ⟨P,G,N⟩ cu [.list vs,.slk l sz j n c] H (.bool false)
 aa3:∀(N:Nat) (s t:Bs) (H:Hp),o7 ⟨P,G,N⟩ bb [.str s,.str t] H (.int .i64 (Lib.compareBytes s t))
 PB:jQ P cd=true
 J7:jQ P dE=true
 CL:∀d:Doc,rq d≤B→aw P G bX [Doc.av d] (.bool (cW d))
 wZ:∀l:List Tree,er l≤B→aw P G cj [.list (eR l)] (.bool (content l))
 A5:∀s:Bs,s.length≤B→aw P G dU [.str s] (.bool (named s))
 PC:∀s:Bs,s.length≤B→aw P G dV [.str s] (.bool (plain s))
 J8:∀l:List Tree,er l≤B→aw P G bP [.list (eR l)] (.list (eR (jC l)))
 CM:∀x:Tree,x.wt≤B→aw P G cy [x.av] (.dM [Doc.av (jJ x).1,.int .i64 (jJ x).2])
namespace ChF
variable (c:ChF P G)
def Co (d:Doc) (hd:rq d≤B) (o:Op) (ho:er o.content≤B∧o.name.length≤B∧o.s.length≤B):aw P G c.eW [Doc.av d,o.av] (.int .i64 (kK d o)):=
 F7 c.Jw d o (c.CL d hd) fun x k1 QA=>Xq c.Pw x o k1 QA (c.wZ _ ho.1) (c.A5 _ ho.2.1) (c.PC _ ho.2.2)
def Xz (d:Doc) (hd:rq d≤B) (l:List Op) (hl:l.length≤B) (ho:∀o∈l,er o.content≤B∧o.name.length≤B∧o.s.length≤B):aw P G c.cz [Doc.av d,.list (l.map Op.iv)] (.int .i64 (gZ d l)):=
 Xr c.Pv d l hl (c.CL d hd) (fun o h=>c.Co d hd o (ho o h)) fun a _ i=>
  H_ c.C8 _ _ (F9 c.J4 _ (by rw[adP];omega) _ c.J7 fun b _=>SI c.J3 a b (OU c.Gl a b))
def acQ (s t:Bs):aw P G c.bW [.str s,.str t] (.int .i64 (Lib.compareBytes s t)):=FL c.xl s t (Bb c.aa2 c.aa3 s t)
def aa4:Xe P G c.br:=aaY c.UA c.oI
def UE:BX P G c.ak:=fun b hn p pl hp x hx EA l hb NX=>
 SD c.zL b hn p pl hp x hx EA l hb NX (fun t b hn p hb=>aaF c.hAdd (fun xs h=>Jd c.wY xs h) _ t (adw _) b hn p hb) c.aa4
def SP:sk P G c.az:=fun b n p x y hx hp hy vy hB=>Xc c.Py b n p x y hx hp hy vy (Lv c.DQ _ _ hB)
def SQ:D3 P G c.aD:=fun b hn n hp x hx s hb=>Xh c.Pz b hn n hp x hx s hb c.UE
def XA:FW P G c.aG:=fun b n hp x hx o ht hk hb hr=>
 aaI c.Uy b n hp x hx o ht hk hb (HZ c.J5 _ _ (by omega) hr c.PB fun a _=>aaC c.PA a _ (c.acQ _ _)) (aa0 c.UC c.oA) (aa1 c.UD)
def XB:Pp P G c.cP:=by
 intro d l hd hl;have nM:B=1073741824:=rfl;have h22:(2:Nat)^22=4194304:=by decide
 obtain⟨h1,h2⟩:=hl;exact Xx c.Pu c.Bv c.Uz (Sm c.wY) (Sn c.J6) (Xg c.Px) c.UE c.SP (aaZ c.UB) c.SQ c.XA c.J8 c.CM d l (by omega)
  (c.Xz d (by omega) l (by omega) fun o ho=>by have:=h2 o ho;omega)
end ChF
end
end Go.Am
