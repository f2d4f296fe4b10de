import Derived.Test.YtfinkeaikbmpgaaKT91
import Derived.Test.YtfinkeaikbmpgaaKT7
import Derived.Test.YtfinkeaikbmpgaaKAm45
import Derived.Test.YtfinkeaikbmpgaaKT4
import Derived.Test.YtfinkeaikbmpgaaKAm27
import Derived.Test.YtfinkeaikbmpgaaKT8
import Derived.Test.YtfinkeaikbmpgaaKAm33
import Derived.Test.YtfinkeaikbmpgaaKT15
import Derived.Test.YtfinkeaikbmpgaaKT92
import Derived.Test.YtfinkeaikbmpgaaKAm25
set_option linter.unusedSimpArgs false
set_option linter.unusedVariables false
set_option linter.unnecessarySimpa false
set_option linter.defProp false
/- Changes: what was checked may be done, in phases; how large all is. -/
namespace Go.Am
open Go Go.RowKit
theorem pF {s:Bs} (h:plain s=true):s.length≤40:=by unfold plain at h;simp at h;omega
theorem pG {s:Bs} (h:named s=true):1≤s.length∧s.length≤8:=by unfold named at h;simp at h;omega
theorem wV:∀{as:List Attr},(∀a∈as,named a.name=true∧plain a.val=true)→l_ as≤49*as.length
 |[],_=>by simp[l_]
 |a::r,h=>by
  have h1:=h a (by simp);have h2:=wV (as:=r) fun x hx=>h x (by simp[hx])
  have:=pG h1.1;have:=pF h1.2;simp only[l_,Attr.wt,List.length_cons];omega
mutual
theorem zQ:∀x:Tree,x.fy=true→x.wt≤240*x.dg
 | .mk t s as ks,h=>by
  simp only[Tree.fy] at h;simp only[Tree.wt,Tree.dg];cases t with
  |true=>
   simp only[if_true,Bool.and_eq_true,beq_iff_eq,List.length_eq_zero_iff] at h;obtain⟨h1,_,rfl,rfl⟩:=h;have:=pF h1;simp[l_,di,bC];omega
  |false=>
   simp only[Bool.false_eq_true,if_false,Bool.and_eq_true] at h;obtain⟨h1,h2,h3⟩:=h;have h4:=pG h1;obtain⟨g1,g2,g3⟩:=(kV as).1 h2;have h5:=wV g1;have h6:=sk none ks h3;omega
theorem sk:∀(p:Option Bool) (ks:List Tree),dT p ks=true→di ks≤240*bC ks
 |_,[],_=>by simp[di]
 |p,x::r,h=>by
  simp only[dT,Bool.and_eq_true] at h;have h1:=zQ x h.1;have h2:=sk _ r h.2.2;simp only[di,bC];omega
end
theorem yF {l:List Tree} (h:content l=true):di l≤19200:=by
 unfold content at h;simp only[Bool.and_eq_true,decide_eq_true_eq] at h;have:=sk none l h.2.2;have:=h.2.1;omega
theorem vb {x:Tree} (h:x.iu=true):x.wt≤19200:=by
 obtain⟨_,_,h1,h2⟩:=(jt x).1 h;have:=zQ x h2;omega
structure yG (t:Tree) (o:Op):Prop where
 ex:∃n q y,Sub 0 (-1) t n q y∧o.target=(n:Int)∧bx (y.node n q) o=0
 k1:1≤o.kind
 D8:o.kind≤10
theorem Dl {a b c d e:Bool} (h:(if a=true then(1:Int) else if b=true then 1 else if c=true then 1 else if d=true then 6 else if e=true then 4 else 0)=0):a=false∧b=false∧c=false∧d=false∧e=false:=by
 revert h;cases a<;>cases b<;>cases c<;>cases d<;>cases e<;>simp
theorem sm {x:Node} {o:Op} (h:bx x o=0) :
  (kC o.kind=true→content o.content=true)∧(kC o.kind=false→o.content=[])∧(kN o.kind=true→named o.name=true)∧(kN o.kind=false→o.name=[])∧(kT o.kind=true→plain o.s=true)∧(kT o.kind=false→o.s=[]) ∧
  (kB o.kind=true→0≤x.parent)∧(x.text=true→kB o.kind=true∨o.kind=7):=by
 unfold bx at h;obtain⟨h1,h2,h3,h4,h5⟩:=Dl h;refine⟨fun e=> ?_,fun e=> ?_,fun e=> ?_,fun e=> ?_,fun e=> ?_,fun e=> ?_,fun e=> ?_,fun e=> ?_⟩
 ·simpa[e] using h1
 ·simpa[e] using h1
 ·simpa[e] using h2
 ·simpa[e] using h2
 ·simpa[e] using h3
 ·simpa[e] using h3
 ·simpa[e] using h4
 ·cases hb:kB o.kind with
  |true=>exact .inl rfl
  |false=>right;simpa[e,hb] using h5
theorem yG.small {t:Tree} {o:Op} (h:yG t o):sE o+o.name.length≤19300:=by
 obtain⟨n,q,y,_,_,hw⟩:=h.ex;obtain⟨c1,c2,c3,c4,c5,c6,_⟩:=sm hw
 have h1:di o.content≤19200:=by
  cases hk:kC o.kind with
  |true=>exact yF (c1 hk)
  |false=>rw[c2 hk];simp[di]
 have h2:o.name.length≤8:=by
  cases hk:kN o.kind with
  |true=>exact(pG (c3 hk)).2
  |false=>rw[c4 hk];simp
 have h3:o.s.length≤40:=by
  cases hk:kT o.kind with
  |true=>exact pF (c5 hk)
  |false=>rw[c6 hk];simp
 unfold sE;omega
theorem wW:∀{pre l:List Op},kt pre l=false→l.Pairwise (fun a b=>aK b a=false)∧∀a∈l,∀b∈pre,aK a b=false
 |pre,[],_=>by simp
 |pre,a::r,h=>by
  simp only[kt,Bool.or_eq_false_iff] at h;obtain⟨h1,h2⟩:=wW h.2;have h3:∀b∈pre,aK a b=false:=fun b hb=>by simpa using List.any_eq_false.1 h.1 b hb
  refine⟨List.pairwise_cons.2 ⟨fun b hb=>h2 b hb a (by simp),h1⟩,fun x hx b hb=> ?_⟩;rcases List.mem_cons.1 hx with rfl|hx
  ·exact h3 b hb
  ·exact h2 x hx b (by simp[hb])
theorem wX:∀{pre l:List Op},l.Pairwise (fun a b=>aK b a=false)→(∀a∈l,∀b∈pre,aK a b=false)→kt pre l=false
 |pre,[],_,_=>rfl
 |pre,a::r,h,h2=>by
  rw[List.pairwise_cons] at h;simp only[kt,Bool.or_eq_false_iff];refine⟨List.any_eq_false.2 fun b hb=>by simp[h2 a (by simp) b hb],wX h.2 fun x hx b hb=> ?_⟩;rcases List.mem_append.1 hb with hb|hb
  ·exact h2 x (by simp[hx]) b hb
  ·simp only[List.mem_singleton] at hb;subst hb;exact h.1 x hx
theorem vc (a b:Op):aK a b=aK b a:=by
 unfold aK;rw[Bool.eq_iff_iff];simp only[Bool.and_eq_true,Bool.or_eq_true,beq_iff_eq,decide_eq_true_eq];constructor
 ·rintro⟨h1,h2⟩;refine⟨h1.symm,?_⟩;rcases h2 with⟨⟨h3,h4⟩,h5⟩|⟨⟨h3,h4⟩,h5⟩
  ·exact .inl ⟨⟨h4,h3⟩,h5.symm⟩
  ·exact .inr ⟨⟨h3.symm,by omega⟩,by omega⟩
 ·rintro⟨h1,h2⟩;refine⟨h1.symm,?_⟩;rcases h2 with⟨⟨h3,h4⟩,h5⟩|⟨⟨h3,h4⟩,h5⟩
  ·exact .inl ⟨⟨h4,h3⟩,h5.symm⟩
  ·exact .inr ⟨⟨h3.symm,by omega⟩,by omega⟩
theorem vd {d:Doc} {o:Op} (h:f_ d o=0):fX d=true∧1≤o.kind∧o.kind≤10∧0≤o.target∧∃x,d[o.target.toNat]?=some x∧bx x o=0:=by
 unfold f_ at h;split at h
 ·rename_i hd;split at h
  ·omega
  ·split at h
   ·omega
   ·split at h
    ·rename_i x hx;exact⟨hd,by omega,by omega,by omega,x,hx,h⟩
    ·omega
 ·omega
theorem wY {t:Tree} (ht:t.iu=true) (o:Op):f_ (bF t) o=0↔yG t o:=by
 constructor
 ·intro h;obtain⟨_,k1,D8,h0,x,hx,hw⟩:=vd h;obtain⟨q,y,hl,hs⟩:=rO (List.getElem?_eq_some_iff.1 hx).1;have:x=y.node o.target.toNat q:=by rw[hl.node] at hx;exact(Option.some.inj hx).symm
  subst this;exact⟨⟨_,q,y,hs,by omega,hw⟩,k1,D8⟩
 ·rintro⟨⟨n,q,y,hs,RY,hw⟩,k1,D8⟩;have hl:=hs.rN (bF t) ⟨[],by simp[bF]⟩;have cj:=(List.getElem?_eq_some_iff.1 hl.node).1;unfold f_;rw[if_pos (oF ht),if_neg (by omega),if_neg (by omega),RY,Int.toNat_natCast,hl.node];exact hw
theorem n7 {t:Tree} {l:List Op} (ht:t.iu=true):eH (bF t) l=0↔(∀o∈l,yG t o)∧l.length≤20∧l.Pairwise (fun a b=>aK b a=false):=by
 unfold eH;rw[if_pos (oF ht)];constructor
 ·intro h;split at h
  ·omega
  ·rename_i hl;split at h
   ·rename_i o ho;have:=List.find?_some ho;rw[h] at this;simp at this
   ·rename_i ho;split at h
    ·omega
    ·rename_i RZ;rw[List.find?_eq_none] at ho;exact⟨fun o hm=>(wY ht o).1 (by simpa using ho o hm),by omega,(wW (by simpa using RZ)).1⟩
 ·rintro⟨h1,h2,h3⟩;rw[if_neg (by omega),List.find?_eq_none.2 fun o ho=>by simp[(wY ht o).2 (h1 o ho)]];simp only;rw[wX h3 (by simp)];rfl
theorem tY {d:Doc} {l:List Op} (h:eH d l=0):fX d=true:=by
 unfold eH at h;split at h
 ·assumption
 ·omega
def qh (d:Doc) (n:Int):Bool:=match d[n.toNat]? with|some x=>x.text|none=>false
def vq (d:Doc) (o:Op):Int:=gM o.kind (qh d o.target)
theorem pH (k:Int) (t:Bool):1≤gM k t∧gM k t≤5:=by
 unfold gM
 repeat' split
 all_goals omega
theorem zR {t:Tree} {n:Nat} {q:Int} {y:Tree} (h:Sub 0 (-1) t n q y):qh (bF t) (n:Int)=y.text:=by
 unfold qh;rw[Int.toNat_natCast,(h.rN (bF t) ⟨[],by simp[bF]⟩).node];rfl
theorem Dm {t:Tree} {l:List Op} (h1:∀o∈l,yG t o) (h2:l.Pairwise (fun a b=>aK b a=false)) (h0:∀i q y,Sub 0 (-1) t i q y→y.text=true→y.kids=[]) (p i:Nat) (pre:List Op) (o:Op) (post:List Op)
  (e:dL (vq (bF t)) l p i=pre++o::post):sf t pre o:=by
 obtain⟨r,hr⟩:=sd (vq (bF t)) l p i;rw[e] at hr;have MS:=qf (vq (bF t)) l (p+1);have Pr:=pD (vq (bF t)) l (fun o _=>by have:=(pH o.kind (qh (bF t) o.target)).1;unfold vq;omega) (p+1)
 have Bl:(lB (vq (bF t)) l (p+1)).Pairwise (fun a b=>aK b a=false):=
  (Pr.pairwise_iff (fun {x y} xE=>by rw[vc];exact xE)).2 (h2.filter _)
 rw[hr,List.append_assoc,List.pairwise_append] at MS Bl;have hle:∀a∈pre,vq (bF t) a≤vq (bF t) o:=fun a ha=>MS.2.2 a ha o (by simp)
 have R0:∀a∈pre,aK o a=false:=fun a ha=>Bl.2.2 a ha o (by simp)
 have ra:∀a∈pre,a∈l:=fun a ha=>(oZ (p:=p+1) (ph:=vq (bF t)) (by rw[hr];simp[ha])).1
 have R1:o∈l:=(oZ (p:=p+1) (ph:=vq (bF t)) (by rw[hr];simp)).1;obtain⟨⟨n,q,y,hs,MT,hw⟩,k1,D8⟩:=h1 o R1;obtain⟨c1,c2,c3,c4,c5,c6,c7,c8⟩:=sm hw;have MU:vq (bF t) o=gM o.kind y.text:=by unfold vq;rw[MT,zR hs]
 have qv:∀(k:Int) (m:Nat) (r:Int) (z:Tree),Sub 0 (-1) t m r z→gM o.kind y.text<gM k z.text→cY pre k m=false:=by
  intro k m r z hz cj;cases hh:cY pre k m with
  |false=>rfl
  |true=>
   obtain⟨a,ha,Ps,Pt⟩:=wI.1 hh;have:=hle a ha;rw[MU] at this;unfold vq at this;rw[Ps,Pt,zR hz] at this;omega
 have Mm:3≤o.kind∧o.kind≤6→0≤q:=fun hk=>c7 (by unfold kB;simp[hk])
 have hx:o.kind=1∨o.kind=2∨8≤o.kind→y.text=false:=by
  intro hk;cases hT:y.text with
  |false=>rfl
  |true=>
   rcases c8 hT with h|h
   ·unfold kB at h;simp at h;omega
   ·omega
 refine⟨n,q,y,hs,MT,k1,D8,hx,Mm,fun hk=> ?_,fun hk=> ?_⟩
 ·refine qv 7 n q y hs ?_;rw[hx (by omega)];rcases hk with hk|hk<;>rw[hk]<;>decide
 ·have hq:=Mm (by omega)
  have Pu:∃r z,Sub 0 (-1) t q.toNat r z∧z.text=false:=by
   rcases hs.zI with⟨_,e,_⟩|⟨m,z,r,a,c,e1,e2,e3,e4,e5⟩
   ·omega
   ·refine⟨r,z,by rw[e1];exact e2,?_⟩;cases hT:z.text with
    |false=>rfl
    |true=>have:=h0 m r z e2 hT;rw[e3] at this;simp at this
  obtain⟨r',z,hz,R3⟩:=Pu;refine⟨qv 7 _ r' z hz ?_,?_,qv 5 n q y hs ?_⟩
  ·rw[R3];rcases hk with hk|hk|hk<;>rw[hk]<;>cases y.text<;>decide
  ·rcases hk with hk|hk|hk
   ·exact qv 6 n q y hs (by rw[hk];cases y.text<;>decide)
   ·exact qv 6 n q y hs (by rw[hk];cases y.text<;>decide)
   ·cases hh:cY pre 6 n with
    |false=>rfl
    |true=>
     obtain⟨a,ha,Ps,Pt⟩:=wI.1 hh;have:=R0 a ha;unfold aK at this;simp[hk,Ps,MT,Pt] at this
  ·rcases hk with hk|hk|hk<;>rw[hk]<;>cases y.text<;>decide
end Go.Am

/- Changes: Apply, as it is. -/
set_option pp.deepTerms false
set_option pp.deepTerms.threshold 5
namespace Go.Am
open Go Go.RowKit
def qI (l:List Op):Nat:=(l.map fun o=>sE o+o.name.length).sum
theorem mQ (o:Op) (l:List Op):qI (o::l)=sE o+o.name.length+qI l:=by simp[qI]
theorem Dn:∀{l:List Op} {m:Nat},(∀o∈l,sE o+o.name.length≤m)→qI l≤l.length*m
 |[],m,_=>by simp[qI]
 |o::r,m,h=>by
  have h1:=h o (by simp);have h2:=Dn (l:=r) (m:=m) fun x hx=>h x (by simp[hx])
  rw[mQ,List.length_cons,Nat.add_mul];omega
theorem ve:∀{l:List Op} {o:Op},o∈l→sE o+o.name.length≤qI l
 |a::r,o,h=>by
  rw[mQ];rcases List.mem_cons.1 h with rfl|h
  ·omega
  ·have:=ve h;omega
theorem wZ:∀l:List Op,gG l≤qI l
 |[]=>by simp[gG]
 |o::r=>by have:=wZ r;rw[mQ,show gG (o::r)=sE o+gG r by simp[gG]];omega
theorem jA (k:Int) (n:Nat):∀l:List Op,di (aY l k n)≤qI l
 |[]=>by simp[aY,lz,di]
 |o::r=>by
  have ih:=jA k n r;rw[mQ];unfold aY lz at ih ⊢;rw[List.filter_cons];split
  ·rw[List.flatMap_cons,fW];unfold sE;omega
  ·omega
theorem o2 (l:List Op) (n:Nat) (s:Bs):(eU l n s).length≤s.length+qI l:=by
 unfold eU;split
 ·rename_i o ho;have h1:=(List.mem_filter.1 (List.mem_of_getLast? ho)).1;have:=ve h1;unfold sE at this;omega
 ·omega
theorem w5 (l:List Op) (n:Nat) (s:Bs):(fg l n s).length≤s.length+qI l:=by
 unfold fg;split
 ·rename_i o ho;have h1:=(List.mem_filter.1 (List.mem_of_getLast? ho)).1;have:=ve h1;omega
 ·omega
theorem A8 (as:List Attr) (k:Nat):l_ as=l_ (as.take k)+l_ (as.drop k):=by rw[←nc,List.take_append_drop]
theorem A9:∀as:List Attr,l_ (as.drop 1)≤l_ as
 |[]=>by simp
 |x::r=>by simp[l_]
theorem Dp (as:List Attr) (o:Op):l_ (iM as o)≤l_ as+(sE o+o.name.length):=by
 have h1:=A8 as (er as o.name);have h2:=A9 (as.drop (er as o.name));rw[List.drop_drop] at h2;unfold iM;split
 ·split
  ·rw[nc];omega
  ·omega
 ·split
  ·rw[List.set_eq_take_append_cons_drop];split
   ·rw[nc];simp only[l_,Attr.wt,sE];omega
   ·omega
  ·rw[nc,nc];simp only[l_,Attr.wt,sE];omega
theorem pI (n:Nat):∀(l:List Op) (as:List Attr),l_ (cL l n as)≤l_ as+qI l
 |[],as=>by simp[cL]
 |o::r,as=>by
  have ih:=pI n r (kl n as o)
  have h1:l_ (kl n as o)≤l_ as+(sE o+o.name.length):=by
   unfold kl;split
   ·exact Dp as o
   ·omega
  rw[mQ];unfold cL at ih ⊢;rw[List.foldl_cons];omega
mutual
theorem Gi (l:List Op):∀(x:Tree) (off:Nat),di (x.km l off)+8*qI l+2≤x.wt+x.dg*(8*qI l+2)+(8*qI l+2)
 | .mk t s as ks,off=>by
  have h1:=jA 3 off l;have h2:=jA 6 off l;have h3:=jA 4 off l;have h4:=jA 1 off l;have h5:=jA 2 off l;have h6:=o2 l off s;have h7:=w5 l off s;have h8:=pI off l as;have h9:=sn l ks (off+1);have KL:=o2 l off [];simp only[Tree.km,Tree.wt,Tree.dg,fW,Nat.add_mul,Nat.one_mul];split
  ·omega
  ·split
   ·simp only[di];omega
   ·have e1:(if t=true then eU l off s else fg l off s).length≤s.length+qI l:=by split<;>omega
    have e2:di (if t=true then [] else if cY l 7 off=true then [AT (eU l off [])] else aY l 1 off++turns l (off+1) ks++aY l 2 off)≤di ks+bC ks*(8*qI l+2)+2*qI l+1:=by
     split
     ·simp[di]
     ·split
      ·simp only[di,yr,List.length_nil] at KL ⊢;omega
      ·rw[fW,fW];omega
    simp only[di,Tree.wt];omega
theorem sn (l:List Op):∀(xs:List Tree) (off:Nat),di (turns l off xs)≤di xs+bC xs*(8*qI l+2)
 |[],_=>by simp[turns,di]
 |x::r,off=>by
  have h1:=Gi l x off;have h2:=sn l r (off+x.dg);simp only[turns,fW,di,bC,Nat.add_mul];omega
end
theorem Dq (l:List Op) (x:Tree) (off:Nat):(x.eV l off).wt≤x.wt+x.dg*(8*qI l+2):=by
 have h4:=jA 1 off l;have h5:=jA 2 off l;have h6:=o2 l off x.s;have h7:=w5 l off x.s;have h8:=pI off l x.attrs;have h9:=sn l x.kids (off+1);have KL:=o2 l off [];have e1:(if x.text=true then eU l off x.s else fg l off x.s).length≤x.s.length+qI l:=by split<;>omega
 have e2:di (if x.text=true then [] else if cY l 7 off=true then [AT (eU l off [])] else aY l 1 off++turns l (off+1) x.kids++aY l 2 off)≤di x.kids+bC x.kids*(8*qI l+2)+2*qI l+1:=by
  split
  ·simp[di]
  ·split
   ·simp only[di,yr,List.length_nil] at KL ⊢;omega
   ·rw[fW,fW];omega
 rw[x.iB,x.gm];unfold Tree.eV;simp only[Tree.wt,Nat.add_mul,Nat.one_mul];omega
mutual
theorem so:∀x:Tree,x.dep≤x.dg
 | .mk _ _ _ ks=>by have:=qi ks;simp only[Tree.dep,Tree.dg];omega
theorem qi:∀xs:List Tree,ff xs≤bC xs
 |[]=>by simp[ff]
 |x::r=>by have:=so x;have:=qi r;simp only[ff,bC];omega
end
theorem qj (c:Op→Bool):∀l:List Op,gG (l.filter c)≤gG l
 |[]=>by simp
 |o::r=>by
  have ih:=qj c r;have e:∀(o:Op) r,gG (o::r)=sE o+gG r:=fun o r=>by simp[gG]
  rw[List.filter_cons,e];split
  ·rw[e];omega
  ·omega
def gN (t:Tree) (l:List Op):Tree:= .mk (t.eV l 0).text (t.eV l 0).s (t.eV l 0).attrs (eD (t.eV l 0).kids)
noncomputable def eI (d:Doc) (l:List Op):Doc×Int:=
 if eH d l=0 then(let x:=gN (kJ d d.length 0) l;if x.iu=true then(bF x,0) else(d,2)) else(d,eH d l)
theorem w6 {t:Tree} (ht:t.iu=true):kJ (bF t) (bF t).length 0=t:=by
 refine p9 _ 0 (-1) t (.self _ _ _) ?_;have:=t.cu;rw[iS];exact so t
theorem lW {t:Tree} (ht:t.iu=true) {l:List Op} (h:eH (bF t) l=0):eI (bF t) l=if(gN t l).iu=true then(bF (gN t l),0) else(bF t,2):=by
 unfold eI;rw[if_pos h,w6 ht]
section
variable {P:Program} {G:Nat→Option (List IV)}
theorem J9 {bB bR ah bf b6 ar aJ bD db af an aj au aw:Nat}
  (hF:aA P G bB=some (100,[((some (some 1)),4),(none,5)],(eu bR ah bf b6 ar aJ bD db).bare)) (R4:aA P G ar=some (194,[],(aU af an aj au aw).bare)) (R5:aA P G aJ=some (40,[((some (some 4)),4)],(dG aJ).bare))
  (Ph:∀xs:List Attr,xs.length≤B→uY P G ah [.list (dY xs)] 2 (dY xs)) (Pj:∀xs:List Int,xs.length≤B→uY P G bf [.list (xs.map a6)] 1 (xs.map a6))
  (Pn:∀k t,az P G b6 [.int .i64 k,.bool t] (.int .i64 (gM k t)))
  (hI:sS P G af) (wH:lS P G an) (hD:CZ P G aj) (hV:u4 P G au) (Hs:wF P G aw)
  (hJ:∀l:List Tree,di l≤B→az P G bD [.list (dc l)] (.list (dc (eD l))))
  (hM:∀x:Tree,x.wt≤B→az P G db [x.av] (.dU [Doc.av (lx x).1,.int .i64 (lx x).2]))
  (d:Doc) (l:List Op) (hl:l.length≤B) (A4:az P G bR [Doc.av d,.list (l.map Op.iv)] (.int .i64 (eH d l))) :
  az P G bB [Doc.av d,.list (l.map Op.iv)] (.dU [Doc.av (eI d l).1,.int .i64 (eI d l).2]):=by
 have pw:B=1073741824:=rfl;by_cases hc:eH d l=0
 case neg=>
  have:=A5 hF d l A4 hc;unfold eI;rw[if_neg hc];exact this
 obtain⟨t,ht,rfl⟩:=m8.1 (tY hc);obtain⟨MU,Pv,Oa⟩:=(n7 ht).1 hc;obtain⟨Qn,LY,MV,HA⟩:=(jt t).1 ht;have hlen:(bF t).length=t.dg:=iS t;have h0:∀i q y,Sub 0 (-1) t i q y→y.text=true→y.kids=[]:=fun i q y hy hT=>(Tree.iU (hy.fy HA) hT).1
 have hr:∀i q y,Sub 0 (-1) t i q y→gD y.attrs=true∧y.attrs.length≤80∧y.kids.length≤80:=by
  intro i q y hy;have Nx:=hy.fy HA;have RW:=hy.xX
  have hk:y.kids.length≤80:=by
   have h1:=y.gm
   have h2:y.kids.length≤bC y.kids:=by
    have:∀xs:List Tree,xs.length≤bC xs:=by
     intro xs
     induction xs with
     |nil=>simp
     |cons x r ih=>have:=x.cu;simp only[bC,List.length_cons];omega
    exact this _
   omega
  cases hT:y.text with
  |true=>rw[(Tree.iU Nx hT).2.1];exact⟨rfl,by simp,hk⟩
  |false=>
   rw[Tree.rB y hT] at Nx;simp only[Bool.and_eq_true] at Nx;obtain⟨_,h2,h3⟩:=(kV y.attrs).1 Nx.2.1;exact⟨h2,by omega,hk⟩
 have SI:qI l≤386000:=by
  have h1:=Dn fun o ho=>(MU o ho).small
  have h2:l.length*19300≤20*19300:=Nat.mul_le_mul_right _ Pv;omega
 have SJ:=vb ht;obtain⟨ph,Ge⟩:∃ph,ph=vq (bF t):=⟨_,rfl⟩
 have Dr:∀p i pre o post,dL ph l p i=pre++o::post→sf t pre o:=by
  intro p i pre o post e;rw[Ge] at e;exact Dm MU Oa h0 p i pre o post e
 have gf:∀p i,o5 t (dL ph l p i) ((dL ph l p i).foldl gZ (mN t))∧((dL ph l p i).foldl gZ (mN t)).nodes.length≤t.dg+gG (dL ph l p i):=
  fun p i=>zP h0 _ _ rfl (Dr p i)
 have MW:∀o:Op,1≤ph o∧ph o≤5:=fun o=>by rw[Ge];exact pH _ _
 have Pw:∀p i,gG (dL ph l p i)≤386000:=by
  intro p i;obtain⟨r,mq⟩:=sd ph l p i
  have h1:gG (lB ph l (p+1))≤gG l:=by
   rw[A6 (pD ph l (fun o _=>by have:=(MW o).1;omega) (p+1))];exact qj _ l
  rw[mq,sg] at h1;have:=wZ l;omega
 have Hn:Alike l (dL ph l 6 0):=by
  have Qo:dL ph l 6 0=lB ph l 6:=by simp[dL]
  refine⟨fun k n=> ?_,fun n=> ?_⟩
  ·rw[Qo];unfold lz;have hP:=pH k (qh (bF t) n);rw[mM _ (gM k (qh (bF t) n)) (fun o _ h=> ?_) 6,if_pos (by omega)];simp only[Bool.and_eq_true,beq_iff_eq] at h;rw[Ge];unfold vq;rw[h.1,h.2]
  ·rw[Qo,mM _ 1 (fun o _ h=> ?_) 6,if_pos (by omega)];unfold AY at h;simp only[decide_eq_true_eq] at h;rw[Ge];unfold vq;rcases h.2 with h|h<;>rw[h]<;>rfl
 have hx:t.eV (dL ph l 6 0) 0=t.eV l 0:=Hn.eV t 0;have MX:=(gf 6 0).1.rep t.dg 0 (-1) t (Nat.le_refl _) (.self _ _ _);rw[hx] at MX
 have Qp:(t.eV l 0).wt≤B:=by
  have h1:=Dq l t 0;have h2:t.dg*(8*qI l+2)≤80*(8*386000+2):=Nat.mul_le_mul MV (by omega);omega
 have R6:di (t.eV l 0).kids≤B:=by have:=(t.eV l 0).iB;omega
 have SK:=xU (t.eV l 0).kids
 have R7:(gN t l).wt≤B:=by
  have:=(t.eV l 0).iB;unfold gN;simp only[Tree.wt];omega
 have sK:(.dU [Doc.av (eI (bF t) l).1,.int .i64 (eI (bF t) l).2]:AV)=if(lx (gN t l)).2=0 then .dU [Doc.av (lx (gN t l)).1,.int .i64 0] else .dU [Doc.av (bF t),.int .i64 2]:=by
  rw[lW ht hc];unfold lx;cases (gN t l).iu<;>simp
 rw[sK];have Qi:(2:Nat)^20=1048576:=by decide
 refine Dj hF (bF t) l (t.eV l 0) (fun p i=>(dL ph l p i).foldl gZ (mN t)) (by rw[hlen,Qi];omega) hl A4 hc Ph Pj ?_ ?_ ?_ ?_ ?_ ?_ ?_ ?_ ?_ ?_ _ ?_
 ·intro z hz;obtain⟨i,hi⟩:=List.getElem?_of_mem hz;obtain⟨q,y,R8,hs⟩:=rO (List.getElem?_eq_some_iff.1 hi).1;rw[R8.node] at hi;cases hi;obtain⟨_,h2,h3⟩:=hr i q y hs;refine⟨by simp[Tree.node];omega,?_⟩;show(aS (i+1) y.kids).length≤B;rw[ep];omega
 ·show(dL ph l 1 0).foldl gZ (mN t)=mg (bF t) (bF t).length
  have:dL ph l 1 0=[]:=by
   simp only[dL,lB,List.take_zero,List.filter_nil,List.append_nil,List.nil_append];rw[List.filter_eq_nil_iff];intro o _ h;have:=(MW o).1;simp at h;omega
  rw[this,List.foldl_nil];unfold mg mN nJ;rw[hlen,List.take_of_length_le (by rw[hlen];exact Nat.le_refl _)]
 ·intro p i;have:=(gf p i).1.n0;rw[hlen];exact this
 ·intro p;simp only[wO]
 ·have h1:=(gf 6 0).1.n0;have h2:=(gf 6 0).1.le;rw[hlen,←h1];exact h2
 ·intro o ho;obtain⟨n,q,y,hs,MT,_⟩:=(MU o ho).ex;have ir:=(hs.rN (bF t) ⟨[],by simp[bF]⟩).node;exact⟨_,by omega,by rw[MT,Int.toNat_natCast];exact ir,Pn _ _⟩
 ·intro p i o z ho hz dm;have:ph o≠(p:Int):=by rw[Ge];unfold vq qh;rw[hz];exact dm
  simp only[wP ho this]
 ·intro p i o z ho hz he;have Px:ph o=(p:Int):=by rw[Ge];unfold vq qh;rw[hz];exact he
  have mS:=Dr p (i+1) (dL ph l p i) o [] (pC ho Px);have h1:=(gf p i).2;have h2:=Pw p i;have h3:=Pw p (i+1);rw[pC ho Px] at h3;have:=RU R4 hI wH hD hV Hs (gf p i).1 h0 hr mS (by omega);simp only[pC ho Px,List.foldl_append,List.foldl_cons,List.foldl_nil];exact this
 ·have h1:=(gf 6 0).2;have h2:=Pw 6 0;exact Dd R5 _ _ _ (by omega) _ _ (Nat.le_refl _) 0 MX Qp
 ·exact hJ _ R6
 ·exact hM _ R7
end
end Go.Am

/- Changes: laws of what comes of them. -/
namespace Go.Am
open Go Go.RowKit
theorem w7 {l:List Op} {x y:Tree} {off:Nat} (h:x.km l off=[y]) (h3:aY l 3 off=[]) (h4:aY l 4 off=[]) (h6:cY l 6 off=false) (h5:cY l 5 off=false):x.eV l off=y:=by
 rw[Tree.u5,h3,h4,h6,h5] at h;simpa using h
theorem tZ {d:Doc} {l:List Op} (h:(eI d l).2=0):∃t,t.iu=true∧d=bF t∧eH d l=0∧(gN t l).iu=true∧(eI d l).1=bF (gN t l):=by
 by_cases hc:eH d l=0
 ·obtain⟨t,ht,rfl⟩:=m8.1 (tY hc);rw[lW ht hc] at h ⊢;split at h
  ·rename_i hg;exact⟨t,ht,rfl,hc,hg,by rw[if_pos hg]⟩
  ·simp at h
 ·unfold eI at h;rw[if_neg hc] at h;exact absurd h hc
theorem yH {d:Doc} {l:List Op} (h:(eI d l).2≠0):(eI d l).1=d:=by
 unfold eI at h ⊢;split at h
 ·rename_i hc;rw[if_pos hc];simp only at h ⊢;split at h
  ·simp at h
  ·rename_i hg;rw[if_neg hg]
 ·rename_i hc;rw[if_neg hc]
structure ib (l l':List Op):Prop where
 k:∀k n,lz l' k n=lz l k n
 a:∀n as,gD as=true→cL l' n as=cL l n as
theorem w8 {x:Tree} (h:x.fy=true):gD x.attrs=true:=by
 cases hT:x.text with
 |true=>rw[(Tree.iU h hT).2.1];rfl
 |false=>
  rw[Tree.rB x hT] at h;simp only[Bool.and_eq_true] at h;exact((kV x.attrs).1 h.2.1).2.1
section
variable {l l':List Op} (h:ib l l')
include h
theorem ib.aY (k:Int) (n:Nat):aY l' k n=Am.aY l k n:=by unfold Am.aY;rw[h.k]
theorem ib.cY (k:Int) (n:Nat):cY l' k n=Am.cY l k n:=by unfold Am.cY;rw[h.k]
theorem ib.eU (n:Nat) (s:Bs):eU l' n s=Am.eU l n s:=by unfold Am.eU;rw[h.k]
theorem ib.fg (n:Nat) (s:Bs):fg l' n s=Am.fg l n s:=by unfold Am.fg;rw[h.k]
end
mutual
theorem ib.km {l l':List Op} (h:ib l l'):∀(x:Tree) (off:Nat),x.fy=true→x.km l' off=x.km l off
 | .mk t s as ks,off,hf=>by
  have h1:=ib.turns h ks (off+1) fun x hx=>il (Tree.iT hf) x hx
  have h2:=h.a off as (w8 hf);simp only[Tree.km,h.aY,h.cY,h.eU,h.fg,h1,h2]
theorem ib.turns {l l':List Op} (h:ib l l'):∀(xs:List Tree) (off:Nat),(∀x∈xs,x.fy=true)→turns l' off xs=turns l off xs
 |[],_,_=>by simp[Am.turns]
 |x::r,off,hf=>by simp only[Am.turns,ib.km h x off (hf x (by simp)),ib.turns h r (off+x.dg) fun z hz=>hf z (by simp[hz])]
end
theorem ib.eV {l l':List Op} (h:ib l l') {x:Tree} (hf:x.fy=true) (off:Nat):x.eV l' off=x.eV l off:=by
 have h1:=ib.turns h x.kids (off+1) fun z hz=>il (Tree.iT hf) z hz
 have h2:=h.a off x.attrs (w8 hf);unfold Tree.eV;simp only[h.aY,h.cY,h.eU,h.fg,h1,h2]
end Go.Am

/- The tree at a place, by parents. -/
namespace Go.Am
open Go Go.RowKit
def G3 (d:Doc) (n:Nat):Tree:=kJ d d.length n
end Go.Am

/- Paths: which nodes are meant. -/
namespace Go.Am
open Go Go.RowKit
structure Step where
 name:Bs
 n:Int
def Step.cs (x:Step):List IV:=[.str x.name,.int .i64 x.n]
def Step.iv (x:Step):IV:= .agg x.cs
def Step.av (x:Step):AV:= .agg [.str x.name,.int .i64 x.n]
def MY (text:Bool) (s:Bs) (name:Bs):Bool:=if name==[]||text then name==[]&&text else name==[42]||name==s
def nn (d:Doc) (s:Step):Nat→List Int→List Int
 |_,[]=>[]
 |k,n::r=>match d[n.toNat]? with
  |some x=>if MY x.text x.s s.name then(if s.n=0∨s.n=((k+1:Nat):Int) then n::nn d s (k+1) r else nn d s (k+1) r) else nn d s k r
  |none=>nn d s k r
end Go.Am

/- Paths: chosen step by step, or node by node: the same. -/
namespace Go.Am
open Go Go.RowKit
section
variable {t:Tree}
theorem Sub.at {n:Nat} {q:Int} {y:Tree} (h:Sub 0 (-1) t n q y):(bF t)[n]?=some (y.node n q):=(h.rN _ ⟨[],by simp[bF]⟩).node
end
end Go.Am

/- Paths: which nodes are meant. -/
namespace Go.Am
open Go Go.RowKit
theorem Step.bL (x:Step):x.iv.cells=x.cs:=rfl
section
variable {P:Program} {G:Nat→Option (List IV)}
structure SL (d:Doc) (s:Step) (l:List Int) where
 i:Nat
 k:Nat
 a:List Int
 hi:i≤l.length
 hk:k≤i
 ha:a.length≤i
 h:nn d s 0 l=a++nn d s k (l.drop i)
end
end Go.Am

/- Splitting, as strings.Split does it. -/
namespace Go.Am
open Go Go.RowKit
structure R9 (c:UInt8) (s:Bs) where
 i:Nat
 r:Bs
 hc:r.count c+i=s.count c
 hs:r7 c s=(r7 c s).take i++r7 c r
 hl:r.length≤s.length
end Go.Am

/- topiarykeep: what comes of changes is good; all at once. -/
set_option pp.deepTerms false
set_option pp.deepTerms.threshold 5
set_option maxRecDepth 20000
namespace Go.Am
open Go Go.RowKit
def Gj (l:List Op):Prop:=l.length≤2^22∧∀o∈l,di o.content≤2^22∧o.name.length≤2^22∧o.s.length≤2^22
def vf (P:Program) (G:Nat→Option (List IV)) (f:Nat):Prop:=∀(d:Doc) (l:List Op),kY d≤2^22→Gj l→az P G f [Doc.av d,.list (l.map Op.iv)] (.dU [Doc.av (eI d l).1,.int .i64 (eI d l).2])
def Ds (P:Program) (G:Nat→Option (List IV)) (f:Nat):Prop:=∀d e:Doc,kY d≤B→az P G f [Doc.av d,Doc.av e] (.bool (vp d e))
section
variable {P:Program} {G:Nat→Option (List IV)}
def J':Doc:=[⟨false,[97],[],-1,[1]⟩,⟨false,[98],[],0,[]⟩]
def yI:List Op:=[⟨3,1,[.mk false [99] [] []],[],[]⟩,⟨8,1,[],[101],[]⟩]
theorem Dt:eI J' yI=(bF (.mk false [97] [] [.mk false [99] [] [],.mk false [101] [] []]),0):=by
 have ht:(Tree.mk false [97] [] [.mk false [98] [] []]).iu=true:=by decide
 have hs:Sub 0 (-1) (Tree.mk false [97] [] [.mk false [98] [] []]) 1 0 (.mk false [98] [] []):= .rM [] [] _ rfl (.self _ _ _)
 have hc:eH (bF (.mk false [97] [] [.mk false [98] [] []])) yI=0:=by
  refine(n7 ht).2 ⟨?_,by decide,by unfold yI;simp[aK,cI]⟩;intro o ho;simp only[yI,List.mem_cons,List.not_mem_nil,or_false] at ho;rcases ho with rfl|rfl
  ·exact⟨⟨1,0,_,hs,rfl,by decide⟩,by decide,by decide⟩
  ·exact⟨⟨1,0,_,hs,rfl,by decide⟩,by decide,by decide⟩
 have e:J'=bF (.mk false [97] [] [.mk false [98] [] []]):=rfl;rw[e,lW ht hc];have hT:gN (.mk false [97] [] [.mk false [98] [] []]) yI= .mk false [97] [] [.mk false [99] [] [],.mk false [101] [] []]:=rfl;rw[hT];rfl
def fR (bB:Nat):AC:=
(.seq (.aM [⟨some 0,none,.ak (.c (.bool false))⟩]) (.seq (.aM [⟨some 4,none,.lits 1 1 [(.int .i64 0)] [(0,(.c (.int .i64 1)))]⟩,⟨some 5,none,(.o7 [(.bool false),(.str []),.nil0,(.int .i64 0),.nil0] [(1,(1,(.c (.str [97])))),(3,(1,(.c (.int .i64 (-1))))),(4,(1,(.t 4)))])⟩,⟨some 6,none,(.o7 [(.bool false),(.str []),.nil0,(.int .i64 0),.nil0] [(1,(1,(.c (.str [98])))),(3,(1,(.c (.int .i64 0))))])⟩,⟨some 7,none,.lits 2 5 [(.bool false),(.str []),.nil0,(.int .i64 0),.nil0] [(0,(.t 5)),(1,(.t 6))]⟩,⟨some 8,none,.o7 [.nil0] [(0,(1,(.t 7)))]⟩,⟨some 1,none,.new [.nil0]⟩,⟨none,none,.store 1 (.t 1) (.t 8)⟩]) (.seq (.aM [⟨some 10,none,.load (some 1) (.t 1)⟩,⟨some 11,none,(.o7 [(.bool false),(.str []),.nil0,.nil0] [(1,(1,(.c (.str [99]))))])⟩,⟨some 12,none,.lits 1 4 [(.bool false),(.str []),.nil0,.nil0] [(0,(.t 11))]⟩,⟨some 13,none,(.o7 [(.int .i64 0),(.int .i64 0),.nil0,(.str []),(.str [])] [(0,(1,(.c (.int .i64 3)))),(1,(1,(.c (.int .i64 1)))),(2,(1,(.t 12)))])⟩,⟨some 14,none,(.o7 [(.int .i64 0),(.int .i64 0),.nil0,(.str []),(.str [])] [(0,(1,(.c (.int .i64 8)))),(1,(1,(.c (.int .i64 1)))),(3,(1,(.c (.str [101]))))])⟩,⟨some 15,none,.lits 2 5 [(.int .i64 0),(.int .i64 0),.nil0,(.str []),(.str [])] [(0,(.t 13)),(1,(.t 14))]⟩,⟨some 16,none,.call bB [(.t 10),(.t 15)]⟩,⟨some 9,none,.ak (.t 16)⟩,⟨some 17,none,.ext (.t 9) 0⟩,⟨some 18,none,.ext (.t 9) 1⟩,⟨some 2,none,.new [.nil0]⟩,⟨none,none,.store 1 (.t 2) (.t 17)⟩,⟨some 3,none,.ak (.t 18)⟩]) (.seq (.aM [⟨some 19,none,.ak (.t 3)⟩,⟨some 20,none,.bin .eql (.t 19) (.c (.int .i64 0))⟩,⟨some 21,none,.ak (.t 20)⟩,⟨some 22,(some (21,true)),(.bV (.t 2) 0)⟩,⟨some 23,(some (21,true)),(.load none (.t 22))⟩,⟨some 24,(some (21,true)),(.len (.t 23))⟩,⟨some 25,(some (21,true)),(.bin .eql (.t 24) (.c (.int .i64 3)))⟩,⟨some 26,none,.pick (.t 21) (.t 25) (.c (.bool false))⟩,⟨some 27,none,.ak (.t 26)⟩,⟨some 28,(some (27,true)),(.bV (.t 2) 0)⟩,⟨some 29,(some (27,true)),(.load none (.t 28))⟩,⟨some 30,(some (27,true)),(.fJ (.t 29) (.c (.int .i64 1)) 5)⟩,⟨some 31,(some (27,true)),(.bV (.t 30) 1)⟩,⟨some 32,(some (27,true)),(.load none (.t 31))⟩,⟨some 33,(some (27,true)),(.bin .eql (.t 32) (.c (.str [99])))⟩,⟨some 34,none,.pick (.t 27) (.t 33) (.c (.bool false))⟩,⟨some 35,none,.ak (.t 34)⟩,⟨some 36,(some (35,true)),(.bV (.t 2) 0)⟩,⟨some 37,(some (35,true)),(.load none (.t 36))⟩,⟨some 38,(some (35,true)),(.fJ (.t 37) (.c (.int .i64 2)) 5)⟩,⟨some 39,(some (35,true)),(.bV (.t 38) 1)⟩,⟨some 40,(some (35,true)),(.load none (.t 39))⟩,⟨some 41,(some (35,true)),(.bin .eql (.t 40) (.c (.str [101])))⟩,⟨some 42,none,.pick (.t 35) (.t 41) (.c (.bool false))⟩,⟨some 0,none,.ak (.t 42)⟩]) .ret))))
theorem Du {cm bB:Nat} (hF:aA P G cm=some (43,[(none,0)],(fR bB).bare)) (hA:vf P G bB):az P G cm [] (.bool true):=by
 refine bm hF (by simp) (by simp[ax,AV.aI]) (by simp[AV.aI]) ?_
 have h:=hA J' yI (by decide) ⟨by decide,by
  intro o ho;simp only[yI,List.mem_cons,List.not_mem_nil,or_false] at ho;rcases ho with rfl|rfl<;>decide⟩
 rw[Dt] at h;unfold fR;simp only[↓aX,mX,reduceCtorEq,Nat.reduceEqDiff,Nat.reduceLT,Nat.reduceLeDiff,Nat.reduceAdd,Nat.reduceMul,Int.reduceToNat,Int.reduceLE,Int.reduceLT,List.replicate,List.flatten_cons,List.flatten_nil,List.append_nil,List.length_append];refine aO (h.of rfl) ?_
 have e:(Doc.av (bF (.mk false [97] [] [.mk false [99] [] [],.mk false [101] [] []])):AV)= .agg [.list [.agg [.bool false,.str [97],.list [],.int .i64 (-1),.list [.int .i64 1,.int .i64 2]],.agg [.bool false,.str [99],.list [],.int .i64 0,.list []],.agg [.bool false,.str [101],.list [],.int .i64 0,.list []]]]:=rfl;rw[e]
 have he:iw 5 [IV.agg [.bool false,.str [97],.list [],.int .i64 (-1),.list [.int .i64 1,.int .i64 2]],.agg [.bool false,.str [99],.list [],.int .i64 0,.list []],.agg [.bool false,.str [101],.list [],.int .i64 0,.list []]]:=by simp[iw,IV.cells]
 simp only[↓aX,mX,reduceCtorEq,Nat.reduceEqDiff,Nat.reduceLT,Nat.reduceLeDiff,Nat.reduceAdd,Nat.reduceMul,Int.reduceToNat,Int.reduceLE,Int.reduceLT,Int.reduceBEq,show(((3:Nat):Int)==3)=true from rfl,he]
end
end Go.Am
