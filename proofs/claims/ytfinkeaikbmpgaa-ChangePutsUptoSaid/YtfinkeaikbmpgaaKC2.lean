import Derived.Test.YtfinkeaikbmpgaaKT88
import Derived.Test.YtfinkeaikbmpgaaKT15
set_option linter.unusedSimpArgs false
set_option linter.unusedVariables false
set_option linter.unnecessarySimpa false
set_option linter.defProp false
/- Changes: the bench, step by step. -/
namespace Go.Am
open Go Go.RowKit
theorem Ext.refl (b:Bn):Ext b b:=⟨rfl,Nat.le_refl _,fun _ _ _ _ h=>h⟩
theorem Ext.trans {a b c:Bn} (h1:Ext a b) (h2:Ext b c):Ext a c:=
 ⟨h2.1.trans h1.1,Nat.le_trans h1.2.1 h2.2.1,fun m q tr hm h=>h2.2.2 m q tr (by rw[h1.1];exact hm) (h1.2.2 m q tr hm h)⟩
theorem ja (b:Bn) {i:Nat} (hi:i<b.n0) (y:Node):Ext b (b.set i y):=
 ⟨rfl,by simp[Bn.set],fun m q tr hm h=>by
  obtain⟨post,h⟩:=h;refine⟨post,?_⟩;show(b.nodes.set i y).drop m=_;rw[List.drop_set_of_lt (by omega)];exact h⟩
theorem C9 (b:Bn) (p:Nat) (L:List Tree):Ext b (b.ec p L):=
 ⟨rfl,by simp[Bn.ec],fun m q tr hm h=>by
  have hl:=h.len;obtain⟨post,h⟩:=h;refine⟨post++cR b.nodes.length p L,?_⟩;show(b.nodes++cR b.nodes.length p L).drop m=_;rw[List.drop_append_of_le_length (by omega),h,List.append_assoc]⟩
theorem u6 (b:Bn) (fs as:List Int):Ext b {b with fs:=fs,as:=as}:=⟨rfl,Nat.le_refl _,fun _ _ _ _ h=>h⟩
section
variable {b:Bn} {p:Nat} {x:Node}
theorem sc (hx:b.nodes[p]?=some x) (pl:Nat) (L:List Tree):b.ins p pl L=(b.ec p L).set p {x with kids:=x.kids.take pl++aS b.nodes.length L++x.kids.drop pl}:=by unfold Bn.ins;rw[hx]
theorem lV (hx:b.nodes[p]?=some x) (hp:p<b.n0) (pl:Nat) (L:List Tree):Ext b (b.ins p pl L):=by
 rw[sc hx];exact(C9 b p L).trans (ja (b.ec p L) (show p<(b.ec p L).n0 from hp) _)
theorem pA (hx:b.nodes[p]?=some x) (pl:Nat) (L:List Tree) {i:Nat} (hi:i<b.nodes.length) (dm:i≠p):(b.ins p pl L).nodes[i]?=b.nodes[i]?:=by
 rw[sc hx];show((b.nodes++cR b.nodes.length p L).set p _)[i]?=_;rw[List.getElem?_set_ne (Ne.symm dm),List.getElem?_append_left hi]
theorem pB (hx:b.nodes[p]?=some x) (pl:Nat) (L:List Tree):(b.ins p pl L).nodes[p]?=some {x with kids:=x.kids.take pl++aS b.nodes.length L++x.kids.drop pl}:=by
 rw[sc hx];have:=(List.getElem?_eq_some_iff.1 hx).1;show((b.nodes++cR b.nodes.length p L).set p _)[p]?=_;rw[List.getElem?_set_self (by rw[List.length_append];omega)]
theorem nh (hx:b.nodes[p]?=some x) (pl:Nat) (L:List Tree):(b.ins p pl L).nodes.length=b.nodes.length+bC L:=by
 rw[sc hx];simp[Bn.set,Bn.ec,ik]
theorem ni (hx:b.nodes[p]?=some x) (hp:p<b.n0) (hn:b.n0≤b.nodes.length) (pl:Nat) (L:List Tree) {its:List yu} (h:dP (Rp b) x.kids its) :
  dP (Rp (b.ins p pl L)) (x.kids.take pl++aS b.nodes.length L++x.kids.drop pl) (its.take pl++news L++its.drop pl):=by
 have he:=lV hx hp pl L;refine iG (iG (py pl (eL (fun _ _=>Rp.ext he) h)) ?_) (pz pl (eL (fun _ _=>Rp.ext he) h));have h1:Ext (b.ec p L) (b.ins p pl L):=by rw[sc hx];exact ja (b.ec p L) (show p<(b.ec p L).n0 from hp) _
 exact eL (fun _ _=>Rp.ext h1) (wJ (b:=b.ec p L) (by simp[Bn.ec];omega) p L b.nodes b.nodes.length [] L (by simp[Bn.ec]) rfl hn)
theorem del_eq (hx:b.nodes[p]?=some x) (k:Nat):b.del p k=b.set p {x with kids:=x.kids.take k++x.kids.drop (k+1)}:=by unfold Bn.del;rw[hx]
theorem u7 (hx:b.nodes[p]?=some x) (hp:p<b.n0) (k:Nat):Ext b (b.del p k):=by rw[del_eq hx];exact ja _ hp _
theorem C' (hx:b.nodes[p]?=some x) (k:Nat) {i:Nat} (dm:i≠p):(b.del p k).nodes[i]?=b.nodes[i]?:=by
 rw[del_eq hx];exact List.getElem?_set_ne (Ne.symm dm)
theorem C_ (hx:b.nodes[p]?=some x) (k:Nat):(b.del p k).nodes[p]?=some {x with kids:=x.kids.take k++x.kids.drop (k+1)}:=by
 rw[del_eq hx];exact List.getElem?_set_self (List.getElem?_eq_some_iff.1 hx).1
theorem zG (hx:b.nodes[p]?=some x) (k:Nat):(b.del p k).nodes.length=b.nodes.length:=by rw[del_eq hx];simp[Bn.set]
theorem zH (hx:b.nodes[p]?=some x) (hp:p<b.n0) (k:Nat) {its:List yu} (h:dP (Rp b) x.kids its) :
  dP (Rp (b.del p k)) (x.kids.take k++x.kids.drop (k+1)) (its.take k++its.drop (k+1)):=by
 have he:=u7 hx hp k;exact iG (py k (eL (fun _ _=>Rp.ext he) h)) (pz (k+1) (eL (fun _ _=>Rp.ext he) h))
theorem lR (hx:b.nodes[p]?=some x) (y:Node):(b.set p y).nodes[p]?=some y:=List.getElem?_set_self (List.getElem?_eq_some_iff.1 hx).1
theorem u9 (y:Node) {i:Nat} (dm:i≠p):(b.set p y).nodes[i]?=b.nodes[i]?:=List.getElem?_set_ne (Ne.symm dm)
end
def ko (n:Nat):yu→Bool
 | .sC j=>j==n
 | .new _=>false
theorem Ht {b:Bn} {n:Nat} (hn:n<b.n0) {k:Int}:∀{x:yu},Rp b k x→ko n x=false→k≠(n:Int)
 | .sC j,h,h2=>by simp only[Rp] at h;simp only[ko,beq_eq_false_iff_ne] at h2;omega
 | .new t,⟨m,h1,h2,_⟩,_=>by omega
theorem u_ {b:Bn} {n:Nat} (hn:n<b.n0) {ks:List Int} {A C:List yu} (h:dP (Rp b) ks (A++ .sC n::C)) (hA:∀x∈A,ko n x=false):jE ks n=A.length∧A.length<ks.length:=by
 have hl:=kn h;have cj:A.length<ks.length:=by rw[hl];simp
 obtain⟨k,hk⟩:∃k,ks[A.length]?=some k:=⟨_,List.getElem?_eq_getElem cj⟩;have h1:Rp b k (.sC n):=zF h hk (by simp);have nV:ks[A.length]?=some (n:Int):=by rw[hk];exact congrArg some h1
 refine⟨zy nV fun j hj e=> ?_,cj⟩;obtain⟨x,hx⟩:∃x,A[j]?=some x:=⟨_,List.getElem?_eq_getElem hj⟩;have h2:Rp b (n:Int) x:=zF h e (by rw[List.getElem?_append_left hj];exact hx);exact Ht hn h2 (hA x (List.mem_of_getElem? hx)) rfl
theorem JX {b:Bn} {n:Nat} (hn:n<b.n0) {ks:List Int} {its:List yu} (h:dP (Rp b) ks its) (hA:∀x∈its,ko n x=false):jE ks n= -1:=by
 have hl:=kn h;refine tJ fun j hj e=> ?_
 obtain⟨x,hx⟩:∃x,its[j]?=some x:=⟨_,List.getElem?_eq_getElem (by omega)⟩;exact Ht hn (zF h e hx) (hA x (List.mem_of_getElem? hx)) rfl
theorem gq (n:Nat) (L:List Tree):∀x∈news L,ko n x=false:=by
 intro x hx;obtain⟨t,_,rfl⟩:=List.mem_map.1 hx;rfl
theorem oY {l:List Op} {o:Op} {k:Nat} (h:o.target≠(k:Int)∨(o.kind≠3∧o.kind≠4∧o.kind≠5∧o.kind≠6)):dq (l++[o]) k=dq l k:=by
 unfold dq;rw[bI,bI,bI,df,df];rcases h with h|⟨h1,h2,h3,h4⟩
 ·simp[h]
 ·simp[h1,h2,h3,h4]
theorem nj {l:List Op} {o:Op} {i:Nat} {y:Tree} (h1:o.target≠(i:Int)∨(o.kind≠1∧o.kind≠2∧o.kind≠7)) (h2:∀k∈cC (i+1) y.kids,o.target≠(k:Int)∨(o.kind≠3∧o.kind≠4∧o.kind≠5∧o.kind≠6)) :
  dk (l++[o]) i y=dk l i y:=by
 have hk:(cC (i+1) y.kids).flatMap (dq (l++[o]))=(cC (i+1) y.kids).flatMap (dq l):=by
  rw[List.flatMap_def,List.flatMap_def]
  congr 1
  exact List.map_congr_left fun k hk=>oY (h2 k hk)
 unfold dk;rw[hk,bI,bI,df,ng];rcases h1 with h1|⟨h3,h4,h5⟩
 ·simp[h1]
 ·simp[h3,h4,h5]
theorem tM:∀(off:Nat) (xs:List Tree) (k:Nat),k∈cC off xs→∃a c x,xs=a++x::c∧k=off+bC a
 |off,[],k,h=>by simp[cC] at h
 |off,x::r,k,h=>by
  simp only[cC,List.mem_cons] at h;rcases h with rfl|h
  ·exact⟨[],r,x,rfl,by simp[bC]⟩
  ·obtain⟨a,c,z,h1,h2⟩:=tM (off+x.dg) r k h;exact⟨x::a,c,z,by rw[h1];rfl,by simp only[bC];omega⟩
theorem tP:∀(off:Nat) (a b:List Tree),cC off (a++b)=cC off a++cC (off+bC a) b
 |off,[],b=>by simp[cC,bC]
 |off,x::r,b=>by simp[cC,bC,tP (off+x.dg) r b,Nat.add_assoc]
theorem qe:∀(off:Nat) (xs:List Tree) (k:Nat),k∈cC off xs→k<off+bC xs
 |off,[],k,h=>by simp[cC] at h
 |off,x::r,k,h=>by
  have:=x.cu;simp only[cC,List.mem_cons] at h;rcases h with rfl|h
  ·simp only[bC];omega
  ·have:=qe (off+x.dg) r k h;simp only[bC];omega
theorem fh {t:Tree} {n:Nat} {q q':Int} {y y':Tree} (h:Sub 0 (-1) t n q y) (h':Sub 0 (-1) t n q' y'):y=y'∧q=q':=
 (h.rN (bF t) ⟨[],by simp[bF]⟩).uniq (h'.rN (bF t) ⟨[],by simp[bF]⟩)
theorem FZ {t:Tree} {i:Nat} {q:Int} {y:Tree} (h:Sub 0 (-1) t i q y) {k:Nat} (hk:k∈cC (i+1) y.kids):∃z,Sub 0 (-1) t k i z∧z∈y.kids:=by
 obtain⟨a,c,x,h1,h2⟩:=tM _ _ _ hk;refine⟨x,h.trans (.rM a c x h1 ?_),by rw[h1];simp⟩;rw[h2];exact .self _ _ _
theorem Sub.zI {off:Nat} {p:Int} {t:Tree} {n:Nat} {q:Int} {y:Tree} (h:Sub off p t n q y) :
  (n=off∧q=p∧y=t)∨∃(m:Nat) (z:Tree) (r:Int) (a c:List Tree),q=(m:Int)∧Sub off p t m r z∧z.kids=a++y::c∧n=m+1+bC a∧m<n:=by
 induction h with
 |self=>exact .inl ⟨rfl,rfl,rfl⟩
 |@rM off p t n q y a b k hk hs ih=>
  right;rcases ih with⟨rfl,rfl,rfl⟩|⟨m,z,r,a',c',e1,e2,e3,e4,e5⟩
  ·exact⟨off,t,p,a,b,rfl,.self _ _ _,hk,by omega,by omega⟩
  ·exact⟨m,z,r,a',c',e1,.rM a b k hk e2,e3,e4,e5⟩
theorem wK {t:Tree} {m n:Nat} {r:Int} {z y:Tree} {a c:List Tree} (h1:z.kids=a++y::c) (h2:n=m+1+bC a):cC (m+1) z.kids=cC (m+1) a++n::cC (n+y.dg) c∧(∀k∈cC (m+1) a,k<n)∧∀k∈cC (n+y.dg) c,n<k:=by
 have:=y.cu;refine⟨by rw[h1,tP,h2];simp[cC],fun k hk=>by have:=qe _ _ _ hk;omega,fun k hk=>by have:=oK _ _ k hk;omega⟩
theorem gr {t:Tree} {l:List Op} {o:Op} {b b':Bn} (h:o5 t l b) (he:Ext b b') (c:Nat) (hc:∀i,i<t.dg→i≠c→b'.nodes[i]?=b.nodes[i]?)
  (hs:∀i q y,Sub 0 (-1) t i q y→i≠c→(y.text=true→eU (l++[o]) i y.s=eU l i y.s)∧(y.text=false→fg (l++[o]) i y.s=fg l i y.s)∧cL (l++[o]) i y.attrs=cL l i y.attrs∧dk (l++[o]) i y=dk l i y)
  (hn:∀q y ks,Sub 0 (-1) t c q y→b.nodes[c]?=some ⟨y.text,if y.text then eU l c y.s else fg l c y.s,cL l c y.attrs,q,ks⟩→dP (Rp b) ks (dk l c y) →
   ∃nN,b'.nodes[c]?=some ⟨y.text,if y.text then eU (l++[o]) c y.s else fg (l++[o]) c y.s,cL (l++[o]) c y.attrs,q,nN⟩∧dP (Rp b') nN (dk (l++[o]) c y))
  (hf:b'.fs.length=t.dg∧∀i,i<t.dg→b'.fs[i]?=some ((aY (l++[o]) 1 i).length:Int)) (ha:b'.as.length=t.dg∧∀i,i<t.dg→b'.as[i]?=some ((aY (l++[o]) 4 i).length:Int)):o5 t (l++[o]) b' where
 n0:=he.1.trans h.n0
 le:=by rw[he.1];exact Nat.le_trans h.le he.2.1
 nd i q y hy:=by
  obtain⟨ks,h1,h2⟩:=h.nd i q y hy;by_cases e:i=c
  ·subst e;exact hn q y ks hy h1 h2
  ·have hr:=hy.xX;have Hu:=y.cu;obtain⟨g1,g2,g3,g4⟩:=hs i q y hy e;refine⟨ks,?_,by rw[g4];exact eL (fun _ _=>Rp.ext he) h2⟩;rw[hc i (by omega) e,h1,g3];cases hT:y.text with
   |true=>rw[g1 hT];rfl
   |false=>rw[g2 hT];rfl
 fs:=hf
 as:=ha
theorem jb {t:Tree} {l:List Op} {o:Op} {b:Bn} (h:o5 t l b) (hk:o.kind≠1):b.fs.length=t.dg∧∀i,i<t.dg→b.fs[i]?=some ((aY (l++[o]) 1 i).length:Int):=
 ⟨h.fs.1,fun i hi=>by rw[bI,if_neg (fun e=>hk e.1),List.append_nil];exact h.fs.2 i hi⟩
theorem jc {t:Tree} {l:List Op} {o:Op} {b:Bn} (h:o5 t l b) (hk:o.kind≠4):b.as.length=t.dg∧∀i,i<t.dg→b.as[i]?=some ((aY (l++[o]) 4 i).length:Int):=
 ⟨h.as.1,fun i hi=>by rw[bI,if_neg (fun e=>hk e.1),List.append_nil];exact h.as.2 i hi⟩
theorem dH {l:List Op} {o:Op} {i:Nat} (h:o.target≠(i:Int)∨(o.kind≠9∧o.kind≠10)) (as:List Attr):cL (l++[o]) i as=cL l i as:=by
 rw[qd,kl,if_neg];rintro⟨e1,e2⟩;rcases h with h|⟨h1,h2⟩
 ·exact h e1
 ·exact e2.elim h1 h2
theorem fi {l:List Op} {o:Op} {i:Nat} (h:o.target≠(i:Int)∨o.kind≠7) (s:Bs):eU (l++[o]) i s=eU l i s:=by
 rw[ng,if_neg];rintro⟨e1,e2⟩;exact h.elim (fun h=>h e2) (fun h=>h e1)
theorem fj {l:List Op} {o:Op} {i:Nat} (h:o.target≠(i:Int)∨o.kind≠8) (s:Bs):fg (l++[o]) i s=fg l i s:=by
 rw[tL,if_neg];rintro⟨e1,e2⟩;exact h.elim (fun h=>h e2) (fun h=>h e1)
section
variable {t:Tree} {l:List Op} {b:Bn} {o:Op} {n:Nat} {q:Int} {y:Tree}
theorem j3 (ht:o.target=(n:Int)) (hk:o.kind≠3∧o.kind≠4∧o.kind≠5∧o.kind≠6):∀i q y,Sub 0 (-1) t i q y→i≠n →
  (y.text=true→eU (l++[o]) i y.s=eU l i y.s)∧(y.text=false→fg (l++[o]) i y.s=fg l i y.s)∧cL (l++[o]) i y.attrs=cL l i y.attrs∧dk (l++[o]) i y=dk l i y:=by
 intro i q y hy hi;have dm:o.target≠(i:Int):=by omega
 exact⟨fun _=>fi (.inl dm) _,fun _=>fj (.inl dm) _,dH (.inl dm) _,nj (.inl dm) fun k _=> .inr hk⟩
theorem MD (h:o5 t l b) (hy:Sub 0 (-1) t n q y) (ht:o.target=(n:Int)) (hk:o.kind=1) (hT:y.text=false) (hv:cY l 7 n=false):o5 t (l++[o]) (gZ b o)∧(gZ b o).nodes.length=b.nodes.length+bC o.content:=by
 obtain⟨ks,h1,h2⟩:=h.nd n q y hy;have hr:=hy.xX;have Hu:=y.cu;have hn:n<b.n0:=by rw[h.n0];omega
 have hle:=h.le;have sX:=h.n0;have xm:=h.fs.2 n (by omega);have LB:(b.fs.getD n 0).toNat=(aY l 1 n).length:=by rw[List.getD_eq_getElem?_getD,xm];simp
 have hd:gZ b o={b.ins n (aY l 1 n).length o.content with fs:=b.fs.set n (((aY l 1 n).length+o.content.length:Nat):Int)}:=by
  unfold gZ;rw[ht,Int.toNat_natCast,h1];simp only[hk,if_true,LB]
 rw[hd];refine⟨gr h (o:=o) ((lV h1 hn _ _).trans (u6 _ _ _)) n (fun i hi dm=>pA h1 _ _ (by omega) dm) (j3 ht (by omega)) ?_ ?_ ?_,?_⟩
 ·intro q' y' nN nS e1 e2;obtain⟨rfl,rfl⟩:=fh hy nS;rw[h1] at e1;have e1:ks=nN:=by simp only[Option.some.injEq,Node.mk.injEq] at e1;exact e1.2.2.2.2
  subst e1;refine⟨ks.take (aY l 1 n).length++aS b.nodes.length o.content++ks.drop (aY l 1 n).length,(pB h1 _ _).trans ?_,?_⟩
  ·rw[dH (.inr (by omega)),fi (.inr (by omega)),fj (.inr (by omega))]
  ·have:=ni h1 hn hle (aY l 1 n).length o.content h2;refine eL (fun _ _=>Rp.ext (u6 _ _ _)) ?_;refine cast ?_ this
   congr 1
   unfold dk;rw[hT,hv,df,bI,bI,hv]
   have ME:(cC (n+1) y.kids).flatMap (dq (l++[o]))=(cC (n+1) y.kids).flatMap (dq l):=by
    rw[List.flatMap_def,List.flatMap_def];congr 1;exact List.map_congr_left fun k nV=>oY (.inr (by omega))
   rw[ME];simp[hk,ht,news]
 ·refine⟨by simp[h.fs.1],fun i hi=> ?_⟩;rw[bI];by_cases e:i=n
  ·subst e;rw[List.getElem?_set_self (by rw[h.fs.1];omega),if_pos ⟨hk,ht⟩,List.length_append]
  ·rw[List.getElem?_set_ne (Ne.symm e),if_neg (by omega),List.append_nil];exact h.fs.2 i hi
 ·have:=jc (o:=o) h (by omega);rw[lU];exact this
 ·exact nh h1 _ _
theorem MF (h:o5 t l b) (hy:Sub 0 (-1) t n q y) (ht:o.target=(n:Int)) (hk:o.kind=2) (hT:y.text=false) (hv:cY l 7 n=false):o5 t (l++[o]) (gZ b o)∧(gZ b o).nodes.length=b.nodes.length+bC o.content:=by
 obtain⟨ks,h1,h2⟩:=h.nd n q y hy;have hr:=hy.xX;have Hu:=y.cu;have hn:n<b.n0:=by rw[h.n0];omega
 have hle:=h.le;have sX:=h.n0
 have hd:gZ b o=b.ins n ks.length o.content:=by
  unfold gZ;rw[ht,Int.toNat_natCast,h1];simp[hk]
 rw[hd];refine⟨gr h (o:=o) (lV h1 hn _ _) n (fun i hi dm=>pA h1 _ _ (by omega) dm) (j3 ht (by omega)) ?_ ?_ ?_,nh h1 _ _⟩
 ·intro q' y' nN nS e1 e2;obtain⟨rfl,rfl⟩:=fh hy nS;rw[h1] at e1;have e1:ks=nN:=by simp only[Option.some.injEq,Node.mk.injEq] at e1;exact e1.2.2.2.2
  subst e1;refine⟨ks.take ks.length++aS b.nodes.length o.content++ks.drop ks.length,(pB h1 _ _).trans ?_,?_⟩
  ·rw[dH (.inr (by omega)),fi (.inr (by omega)),fj (.inr (by omega))]
  ·have:=ni h1 hn hle ks.length o.content h2;have hl:=kn h2;refine cast ?_ this
   congr 1
   rw[hl,List.take_length,List.drop_length,List.append_nil];unfold dk;rw[hT,hv,df,bI,bI,hv]
   have ME:(cC (n+1) y.kids).flatMap (dq (l++[o]))=(cC (n+1) y.kids).flatMap (dq l):=by
    rw[List.flatMap_def,List.flatMap_def];congr 1;exact List.map_congr_left fun k nV=>oY (.inr (by omega))
   rw[ME];simp[hk,ht,news]
 ·have:=jb (o:=o) h (by omega);rw[lT];exact this
 ·have:=jc (o:=o) h (by omega);rw[lU];exact this
theorem AU {off k:Nat} {m:Int} {y:Tree} (h:k=off):Sub off m y k m y:=by subst h;exact .self _ _ _
theorem AW {l:List Op} {k n:Nat} (h:k≠n):∀x∈dq l k,ko n x=false:=by
 intro x hx;unfold dq at hx;simp only[List.mem_append] at hx;rcases hx with(hx|hx)|hx
 ·exact gq n _ x hx
 ·split at hx
  ·exact gq n _ x hx
  ·split at hx
   ·simp at hx
   ·simp only[List.mem_singleton] at hx;subst hx;simp[ko,h]
 ·exact gq n _ x hx
theorem wL {l:List Op} {n:Nat} {ks:List Nat} (h:∀k∈ks,k≠n):∀x∈ks.flatMap (dq l),ko n x=false:=by
 intro x hx;obtain⟨k,hk,hx⟩:=List.mem_flatMap.1 hx;exact AW (h k hk) x hx
structure eG (t:Tree) (l:List Op) (b:Bn) (n:Nat) (y:Tree) where
 m:Nat
 z:Tree
 r:Int
 a:List Tree
 c:List Tree
 ks:List Int
 hz:Sub 0 (-1) t m r z
 hk:z.kids=a++y::c
 hn:n=m+1+bC a
 nd:b.nodes[m]?=some ⟨z.text,if z.text then eU l m z.s else fg l m z.s,cL l m z.attrs,r,ks⟩
 rp:dP (Rp b) ks (dk l m z)
 zt:z.text=false
theorem beside (h:o5 t l b) (h0:∀i q y,Sub 0 (-1) t i q y→y.text=true→y.kids=[]) (hy:Sub 0 (-1) t n q y) (hq:0≤q):∃B:eG t l b n y,q=(B.m:Int):=by
 rcases hy.zI with⟨_,rfl,_⟩|⟨m,z,r,a,c,e1,e2,e3,e4,e5⟩
 ·omega
 ·obtain⟨ks,h1,h2⟩:=h.nd m r z e2;refine⟨⟨m,z,r,a,c,ks,e2,e3,e4,h1,h2,?_⟩,e1⟩;cases hT:z.text with
  |false=>rfl
  |true=>have:=h0 m r z e2 hT;rw[e3] at this;simp at this
variable {n:Nat}
def eG.A (B:eG t l b n y):List yu:=news (aY l 1 B.m)++(cC (B.m+1) B.a).flatMap (dq l)
def eG.C (B:eG t l b n y):List yu:=(cC (n+y.dg) B.c).flatMap (dq l)++news (aY l 2 B.m)
theorem eG.split (B:eG t l b n y):cC (B.m+1) B.z.kids=cC (B.m+1) B.a++n::cC (n+y.dg) B.c∧(∀k∈cC (B.m+1) B.a,k<n)∧∀k∈cC (n+y.dg) B.c,n<k:=
 wK (t:=t) (r:=B.r) B.hk B.hn
theorem eG.items (B:eG t l b n y) (hv:cY l 7 B.m=false):dk l B.m B.z=B.A++dq l n++B.C:=by
 unfold dk;rw[B.zt,hv,B.split.1];simp[eG.A,eG.C]
theorem eG.yv (B:eG t l b n y) (hv:cY l 7 B.m=false) (h1:o.kind≠1) (h2:o.kind≠2) (h7:o.kind≠7) (ht:o.target=(n:Int)):dk (l++[o]) B.m B.z=B.A++dq (l++[o]) n++B.C:=by
 unfold dk;rw[B.zt,df,hv,B.split.1,bI,bI]
 have e1:∀ks:List Nat,(∀k∈ks,k≠n)→ks.flatMap (dq (l++[o]))=ks.flatMap (dq l):=fun ks z'=>by
  rw[List.flatMap_def,List.flatMap_def];congr 1;exact List.map_congr_left fun k hk=>oY (.inl (by have:=z' k hk;omega))
 simp only[List.flatMap_append,List.flatMap_cons];rw[e1 _ (fun k hk=>by have:=B.split.2.1 k hk;omega),e1 _ (fun k hk=>by have:=B.split.2.2 k hk;omega)];simp[eG.A,eG.C,h1,h2,h7]
theorem eG.zJ (B:eG t l b n y):∀x∈B.A,ko n x=false:=by
 intro x hx;simp only[eG.A,List.mem_append] at hx;rcases hx with hx|hx
 ·exact gq n _ x hx
 ·exact wL (fun k hk=>by have:=B.split.2.1 k hk;omega) x hx
theorem eG.MG (B:eG t l b n y):∀x∈B.C,ko n x=false:=by
 intro x hx;simp only[eG.C,List.mem_append] at hx;rcases hx with hx|hx
 ·exact wL (fun k hk=>by have:=B.split.2.2 k hk;omega) x hx
 ·exact gq n _ x hx
theorem kq (B:eG t l b n y) (hy:Sub 0 (-1) t n q y) (ht:o.target=(n:Int)) (hk:o.kind=3∨o.kind=4∨o.kind=5∨o.kind=6):∀i q y,Sub 0 (-1) t i q y→i≠B.m →
  (y.text=true→eU (l++[o]) i y.s=eU l i y.s)∧(y.text=false→fg (l++[o]) i y.s=fg l i y.s)∧cL (l++[o]) i y.attrs=cL l i y.attrs∧dk (l++[o]) i y=dk l i y:=by
 intro i q' y' nS hi;refine⟨fun _=>fi (.inr (by omega)) _,fun _=>fj (.inr (by omega)) _,dH (.inr (by omega)) _,nj (.inr (by omega)) fun k nV=> .inl fun e=> ?_⟩;have e:k=n:=by omega
 subst e;obtain⟨w,hw,_⟩:=FZ nS nV;have h1:Sub 0 (-1) t k B.m y:=B.hz.trans (.rM B.a B.c y B.hk (AU B.hn));have:=(fh hw h1).2;omega
theorem JY (h:o5 t l b) (h0:∀i q y,Sub 0 (-1) t i q y→y.text=true→y.kids=[]) (hy:Sub 0 (-1) t n q y) (hq:0≤q) (ht:o.target=(n:Int)) (hk:o.kind=3∨o.kind=4∨o.kind=6) (hv:cY l 7 q.toNat=false) (h6:cY l 6 n=false) (h5:cY l 5 n=false) :
   o5 t (l++[o]) (gZ b o)∧(gZ b o).nodes.length=b.nodes.length+bC o.content:=by
 obtain⟨B,yw⟩:=beside h h0 hy hq
 rw[yw,Int.toNat_natCast] at hv
 obtain⟨ks,h1,-⟩:=h.nd n q y hy
 have hr:=hy.xX
 have Hu:=y.cu
 have Qc:=B.hz.xX
 have MH:=B.z.cu
 have hn:n<b.n0:=by rw[h.n0];omega
 have hm:B.m<b.n0:=by rw[h.n0];omega
 have hle:=h.le
 have sX:=h.n0
 have JZ:=B.items hv
 have Da:dq l n=news (aY l 3 n)++ .sC n::news (aY l 4 n):=by unfold dq;rw[h6,h5];simp
 have D7:dP (Rp b) B.ks ((B.A++news (aY l 3 n))++ .sC n::(news (aY l 4 n)++B.C)):=by
   have:=B.rp;rw[JZ,Da] at this
   simpa using this
 have hA:∀x∈B.A++news (aY l 3 n),ko n x=false:=by
   intro x hx
   rcases List.mem_append.1 hx with hx|hx
   · exact B.zJ x hx
   · exact gq n _ x hx
 obtain⟨lA,cj⟩:=u_ hn D7 hA
 have zB:b.kd B.m=B.ks:=by rw[Bn.i_ B.nd]
 have Nv:=h.as.2 n (by omega)
 have O_:(b.as.getD n 0).toNat=(aY l 4 n).length:=by rw[List.getD_eq_getElem?_getD,Nv];simp
 obtain⟨L,hL⟩:∃L,L=(B.A++news (aY l 3 n)).length:=⟨_,rfl⟩
 rw[←hL] at lA cj
 have Db:=B.yv (o:=o) hv (by omega) (by omega) (by omega) ht
 rcases hk with hk|hk|hk
 · have hd:gZ b o=b.ins B.m L o.content:=by
     unfold gZ;rw[ht,Int.toNat_natCast,h1];simp only[yw,Int.toNat_natCast,zB,lA];simp[hk]
   rw[hd]
   refine⟨gr h (o:=o) (lV B.nd hm _ _) B.m (fun i hi dm=>pA B.nd _ _ (by omega) dm) (kq B hy ht (by omega)) ?_ ?_ ?_,nh B.nd _ _⟩
   · intro q' y' nN nS e1 e2
     obtain⟨rfl,rfl⟩:=fh B.hz nS
     rw[B.nd] at e1
     have e1:B.ks=nN:=by simp only[Option.some.injEq,Node.mk.injEq] at e1;exact e1.2.2.2.2
     subst e1
     refine⟨B.ks.take L++aS b.nodes.length o.content++B.ks.drop L,(pB B.nd _ _).trans ?_,?_⟩
     · rw[dH (.inr (by omega)),fi (.inr (by omega)),fj (.inr (by omega))]
     · have:=ni B.nd hm hle L o.content D7
       refine cast ?_ this
       congr 1
       rw[Db,hL,List.take_left' rfl,List.drop_left' rfl]
       unfold dq
       rw[bI,bI,bI,df,df,h6,h5]
       simp[hk,ht,news]
   · have:=jb (o:=o) h (by omega)
     rw[lT];exact this
   · have:=jc (o:=o) h (by omega)
     rw[lU];exact this
 · have hd:gZ b o={b.ins B.m (L+1+(aY l 4 n).length) o.content with as:=b.as.set n (((aY l 4 n).length+o.content.length:Nat):Int)}:=by
     unfold gZ;rw[ht,Int.toNat_natCast,h1];simp only[yw,Int.toNat_natCast,zB,lA,O_];simp[hk]
   rw[hd]
   refine⟨gr h (o:=o) ((lV B.nd hm _ _).trans (u6 _ _ _)) B.m (fun i hi dm=>pA B.nd _ _ (by omega) dm) (kq B hy ht (by omega)) ?_ ?_ ?_,nh B.nd _ _⟩
   · intro q' y' nN nS e1 e2
     obtain⟨rfl,rfl⟩:=fh B.hz nS
     rw[B.nd] at e1
     have e1:B.ks=nN:=by simp only[Option.some.injEq,Node.mk.injEq] at e1;exact e1.2.2.2.2
     subst e1
     refine⟨B.ks.take (L+1+(aY l 4 n).length)++aS b.nodes.length o.content++B.ks.drop (L+1+(aY l 4 n).length),(pB B.nd _ _).trans ?_,?_⟩
     · rw[dH (.inr (by omega)),fi (.inr (by omega)),fj (.inr (by omega))]
     · have Pa:dP (Rp b) B.ks ((B.A++news (aY l 3 n)++ .sC n::news (aY l 4 n))++B.C):=by simpa using D7
       have RI:L+1+(aY l 4 n).length=(B.A++news (aY l 3 n)++ .sC n::news (aY l 4 n)).length:=by rw[hL];simp[news];omega
       have:=ni B.nd hm hle (L+1+(aY l 4 n).length) o.content Pa
       refine eL (fun _ _=>Rp.ext (u6 _ _ _)) ?_
       refine cast ?_ this
       congr 1
       rw[Db,RI,List.take_left' rfl,List.drop_left' rfl]
       unfold dq
       rw[bI,bI,bI,df,df,h6,h5]
       simp[hk,ht,news]
   · have:=jb (o:=o) h (by omega)
     show(b.ins B.m (L+1+(aY l 4 n).length) o.content).fs.length=_∧_
     rw[lT];exact this
   · refine⟨by simp[h.as.1],fun i hi=> ?_⟩
     rw[bI]
     by_cases e:i=n
     · subst e
       rw[List.getElem?_set_self (by rw[h.as.1];omega),if_pos ⟨hk,ht⟩,List.length_append]
     · rw[List.getElem?_set_ne (Ne.symm e),if_neg (by omega),List.append_nil];exact h.as.2 i hi
 · have hd:gZ b o=(b.del B.m L).ins B.m L o.content:=by
     unfold gZ;rw[ht,Int.toNat_natCast,h1];simp only[yw,Int.toNat_natCast,zB,lA];simp[hk]
   rw[hd]
   have D6:=C_ B.nd L
   have OL:=zG B.nd L
   have L9:(b.del B.m L).n0=b.n0:=kj _ _ _
   refine⟨gr h (o:=o) ((u7 B.nd hm _).trans (lV D6 (by rw[L9];exact hm) _ _)) B.m (fun i hi dm=>(pA D6 _ _ (by omega) dm).trans (C' B.nd _ dm)) (kq B hy ht (by omega)) ?_ ?_ ?_,by rw[nh D6,OL]⟩
   · intro q' y' nN nS e1 e2
     obtain⟨rfl,rfl⟩:=fh B.hz nS
     rw[B.nd] at e1
     have e1:B.ks=nN:=by simp only[Option.some.injEq,Node.mk.injEq] at e1;exact e1.2.2.2.2
     subst e1
     refine⟨(B.ks.take L++B.ks.drop (L+1)).take L++aS (b.del B.m L).nodes.length o.content++(B.ks.take L++B.ks.drop (L+1)).drop L,(pB D6 _ _).trans ?_,?_⟩
     · rw[dH (.inr (by omega)),fi (.inr (by omega)),fj (.inr (by omega))]
     · have nP:=zH B.nd hm L D7
       have z6:((B.A++news (aY l 3 n))++ .sC n::(news (aY l 4 n)++B.C)).take L=B.A++news (aY l 3 n):=by rw[hL];exact List.take_left' rfl
       have Pb:((B.A++news (aY l 3 n))++ .sC n::(news (aY l 4 n)++B.C)).drop (L+1)=news (aY l 4 n)++B.C:=by
         rw[←List.drop_drop,hL,List.drop_left' rfl];rfl
       rw[z6,Pb] at nP
       have:=ni D6 (by rw[L9];exact hm) (by rw[L9,OL];exact hle) L o.content (its:=(B.A++news (aY l 3 n))++(news (aY l 4 n)++B.C)) nP
       refine cast ?_ this
       congr 1
       rw[Db,hL,List.take_left' rfl,List.drop_left' rfl]
       unfold dq
       rw[bI,bI,bI,df,df,h6,h5,yt h6]
       simp[hk,ht,news]
   · have:=jb (o:=o) h (by omega)
     rw[lT,show(b.del B.m L).fs=b.fs by rw[del_eq B.nd];rfl];exact this
   · have:=jc (o:=o) h (by omega)
     rw[lU,show(b.del B.m L).as=b.as by rw[del_eq B.nd];rfl];exact this
end
end Go.Am

/- Changes: the bench, step by step: what is taken away, called otherwise. -/
namespace Go.Am
open Go Go.RowKit
section
variable {t:Tree} {l:List Op} {b:Bn} {o:Op} {n:Nat} {q:Int} {y:Tree}
theorem Dc {l:List Op} {n:Nat} (h:cY l 6 n=true∨cY l 5 n=true):∀x∈dq l n,ko n x=false:=by
 intro x hx;unfold dq at hx;simp only[List.mem_append] at hx;rcases hx with(hx|hx)|hx
 ·exact gq n _ x hx
 ·split at hx
  ·exact gq n _ x hx
  ·rename_i h6;rw[if_pos (h.resolve_left h6)] at hx;simp at hx
 ·exact gq n _ x hx
theorem MI (h:o5 t l b) (h0:∀i q y,Sub 0 (-1) t i q y→y.text=true→y.kids=[]) (hy:Sub 0 (-1) t n q y) (hq:0≤q) (ht:o.target=(n:Int)) (hk:o.kind=5) :
   o5 t (l++[o]) (gZ b o)∧(gZ b o).nodes.length=b.nodes.length:=by
 obtain⟨B,yw⟩:=beside h h0 hy hq
 obtain⟨ks,h1,-⟩:=h.nd n q y hy
 have hr:=hy.xX
 have Hu:=y.cu
 have Qc:=B.hz.xX
 have MH:=B.z.cu
 have hn:n<b.n0:=by rw[h.n0];omega
 have hm:B.m<b.n0:=by rw[h.n0];omega
 have hle:=h.le
 have sX:=h.n0
 have zB:b.kd B.m=B.ks:=by rw[Bn.i_ B.nd]
 by_cases qv:cY l 7 B.m=true∨cY l 6 n=true∨cY l 5 n=true
 · have hold:∀x∈dk l B.m B.z,ko n x=false:=by
     intro x hx
     by_cases h7:cY l 7 B.m=true
     · unfold dk at hx
       rw[B.zt,h7] at hx
       simp only[Bool.false_eq_true,if_false,if_true,List.mem_singleton] at hx
       subst hx;rfl
     · rw[B.items (by simpa using h7)] at hx
       simp only[List.mem_append] at hx
       rcases hx with(hx|hx)|hx
       · exact B.zJ x hx
       · exact Dc (qv.resolve_left h7) x hx
       · exact B.MG x hx
   have lA:=JX hn B.rp hold
   have hd:gZ b o=b:=by
     unfold gZ;rw[ht,Int.toNat_natCast,h1];simp only[yw,Int.toNat_natCast,zB,lA];simp[hk]
   rw[hd]
   refine⟨gr h (o:=o) (Ext.refl _) B.m (fun _ _ _=>rfl) (kq B hy ht (by omega)) ?_ (jb h (by omega)) (jc h (by omega)),rfl⟩
   intro q' y' nN nS e1 e2
   obtain⟨rfl,rfl⟩:=fh B.hz nS
   refine⟨nN,e1.trans ?_,?_⟩
   · rw[dH (.inr (by omega)),fi (.inr (by omega)),fj (.inr (by omega))]
   · have:dk (l++[o]) B.m B.z=dk l B.m B.z:=by
       by_cases h7:cY l 7 B.m=true
       · unfold dk
         rw[B.zt,df,h7,fi (.inr (by omega))]
         rfl
       · rw[B.items (by simpa using h7),B.yv (by simpa using h7) (by omega) (by omega) (by omega) ht]
         have qv:=qv.resolve_left h7
         congr 2
         unfold dq
         rw[bI,bI,bI,df,df]
         rcases qv with h6|h5
         · simp[hk,h6]
         · simp[hk,h5]
     rw[this];exact e2
 · have hv:cY l 7 B.m=false:=by simp at qv;exact qv.1
   have h6:cY l 6 n=false:=by simp at qv;exact qv.2.1
   have h5:cY l 5 n=false:=by simp at qv;exact qv.2.2
   have Da:dq l n=news (aY l 3 n)++ .sC n::news (aY l 4 n):=by unfold dq;rw[h6,h5];simp
   have D7:dP (Rp b) B.ks ((B.A++news (aY l 3 n))++ .sC n::(news (aY l 4 n)++B.C)):=by
     have:=B.rp;rw[B.items hv,Da] at this
     simpa using this
   have hA:∀x∈B.A++news (aY l 3 n),ko n x=false:=by
     intro x hx
     rcases List.mem_append.1 hx with hx|hx
     · exact B.zJ x hx
     · exact gq n _ x hx
   obtain⟨lA,cj⟩:=u_ hn D7 hA
   obtain⟨L,hL⟩:∃L,L=(B.A++news (aY l 3 n)).length:=⟨_,rfl⟩
   rw[←hL] at lA cj
   have Db:=B.yv (o:=o) hv (by omega) (by omega) (by omega) ht
   have hd:gZ b o=b.del B.m L:=by
     unfold gZ;rw[ht,Int.toNat_natCast,h1];simp only[yw,Int.toNat_natCast,zB,lA];simp[hk]
   rw[hd]
   refine⟨gr h (o:=o) (u7 B.nd hm _) B.m (fun i hi dm=>C' B.nd _ dm) (kq B hy ht (by omega)) ?_ ?_ ?_,zG B.nd _⟩
   · intro q' y' nN nS e1 e2
     obtain⟨rfl,rfl⟩:=fh B.hz nS
     rw[B.nd] at e1
     have e1:B.ks=nN:=by simp only[Option.some.injEq,Node.mk.injEq] at e1;exact e1.2.2.2.2
     subst e1
     refine⟨B.ks.take L++B.ks.drop (L+1),(C_ B.nd _).trans ?_,?_⟩
     · rw[dH (.inr (by omega)),fi (.inr (by omega)),fj (.inr (by omega))]
     · have nP:=zH B.nd hm L D7
       have z6:((B.A++news (aY l 3 n))++ .sC n::(news (aY l 4 n)++B.C)).take L=B.A++news (aY l 3 n):=by rw[hL];exact List.take_left' rfl
       have Pb:((B.A++news (aY l 3 n))++ .sC n::(news (aY l 4 n)++B.C)).drop (L+1)=news (aY l 4 n)++B.C:=by
         rw[←List.drop_drop,hL,List.drop_left' rfl];rfl
       rw[z6,Pb] at nP
       refine cast ?_ nP
       congr 1
       rw[Db]
       unfold dq
       rw[bI,bI,bI,df,df,h6,h5]
       simp[hk,ht]
   · have:=jb (o:=o) h (by omega)
     rw[show(b.del B.m L).fs=b.fs by rw[del_eq B.nd];rfl];exact this
   · have:=jc (o:=o) h (by omega)
     rw[show(b.del B.m L).as=b.as by rw[del_eq B.nd];rfl];exact this
theorem MJ (h:o5 t l b) (hy:Sub 0 (-1) t n q y) (ht:o.target=(n:Int)) (hk:o.kind=7):o5 t (l++[o]) (gZ b o)∧(gZ b o).nodes.length≤b.nodes.length+1:=by
 obtain⟨ks,h1,h2⟩:=h.nd n q y hy;have hr:=hy.xX;have Hu:=y.cu;have hn:n<b.n0:=by rw[h.n0];omega
 have hle:=h.le;have sX:=h.n0
 have hd:gZ b o=b.value n o.s:=by
  unfold gZ;rw[ht,Int.toNat_natCast,h1];simp[hk]
 rw[hd];unfold Bn.value;rw[h1];cases hT:y.text with
 |true=>
  simp only[if_true];refine⟨gr h (o:=o) (ja _ hn _) n (fun i hi dm=>u9 _ dm) (j3 ht (by omega)) ?_ (by exact jb (b:=b) (o:=o) h (by omega)) (by exact jc (b:=b) (o:=o) h (by omega)),by simp[Bn.set]⟩;intro q' y' nN nS e1 e2;obtain⟨rfl,rfl⟩:=fh hy nS;rw[h1] at e1;have e1:ks=nN:=by simp only[Option.some.injEq,Node.mk.injEq] at e1;exact e1.2.2.2.2
  subst e1;refine⟨ks,(lR h1 _).trans ?_,?_⟩
  ·rw[dH (.inr (by omega))];simp[hT,ng,hk,ht]
  ·refine eL (fun _ _=>Rp.ext (ja _ hn _)) ?_;unfold dk at e2 ⊢;rw[hT] at e2 ⊢;exact e2
 |false=>
  simp only[Bool.false_eq_true,if_false];have hs:=lR h1 (y:=({text:=false,s:=fg l n y.s,attrs:=cL l n y.attrs,parent:=q,kids:=[]}:Node));refine⟨gr h (o:=o) ((ja _ hn _).trans (lV hs hn _ _)) n (fun i hi dm=>(pA hs _ _ (by simp[Bn.set];omega) dm).trans (u9 _ dm)) (j3 ht (by omega)) ?_ ?_ ?_,?_⟩
  ·intro q' y' nN nS e1 e2;obtain⟨rfl,rfl⟩:=fh hy nS;refine⟨([]:List Int).take 0++aS (b.set n ({text:=false,s:=fg l n y.s,attrs:=cL l n y.attrs,parent:=q,kids:=[]}:Node)).nodes.length [AT o.s]++([]:List Int).drop 0,(pB hs _ _).trans ?_,?_⟩
   ·rw[dH (.inr (by omega)),hT,fj (.inr (by omega))];rfl
   ·have:=ni hs hn (by simp[Bn.set];exact hle) 0 [AT o.s] (its:=[]) .nil;refine cast ?_ this
    congr 1
    unfold dk;rw[hT,df,ng];simp[hk,ht,news]
  ·have:=jb (o:=o) h (by omega);rw[lT];exact this
  ·have:=jc (o:=o) h (by omega);rw[lU];exact this
  ·rw[nh hs];simp[Bn.set,bC,AT,Tree.dg]
theorem MK (h:o5 t l b) (hy:Sub 0 (-1) t n q y) (ht:o.target=(n:Int)) (hk:o.kind=8) (hT:y.text=false):o5 t (l++[o]) (gZ b o)∧(gZ b o).nodes.length=b.nodes.length:=by
 obtain⟨ks,h1,h2⟩:=h.nd n q y hy;have hr:=hy.xX;have Hu:=y.cu;have hn:n<b.n0:=by rw[h.n0];omega
 have hd:gZ b o=b.name n o.name:=by
  unfold gZ;rw[ht,Int.toNat_natCast,h1];simp[hk]
 rw[hd];unfold Bn.name;rw[h1];refine⟨gr h (o:=o) (ja _ hn _) n (fun i hi dm=>u9 _ dm) (j3 ht (by omega)) ?_ (by exact jb (b:=b) (o:=o) h (by omega)) (by exact jc (b:=b) (o:=o) h (by omega)),by simp[Bn.set]⟩;intro q' y' nN nS e1 e2;obtain⟨rfl,rfl⟩:=fh hy nS;rw[h1] at e1;have e1:ks=nN:=by simp only[Option.some.injEq,Node.mk.injEq] at e1;exact e1.2.2.2.2
 subst e1;refine⟨ks,(lR h1 _).trans ?_,?_⟩
 ·rw[dH (.inr (by omega))];simp[hT,tL,hk,ht]
 ·rw[nj (.inr (by omega)) fun k _=> .inr (by omega)];exact eL (fun _ _=>Rp.ext (ja _ hn _)) e2
theorem ML (h:o5 t l b) (hy:Sub 0 (-1) t n q y) (ht:o.target=(n:Int)) (hk:o.kind=9∨o.kind=10):o5 t (l++[o]) (gZ b o)∧(gZ b o).nodes.length=b.nodes.length:=by
 obtain⟨ks,h1,h2⟩:=h.nd n q y hy;have hr:=hy.xX;have Hu:=y.cu;have hn:n<b.n0:=by rw[h.n0];omega
 have hd:gZ b o=b.attr n o:=by
  unfold gZ;rw[ht,Int.toNat_natCast,h1];rcases hk with hk|hk<;>simp[hk]
 rw[hd];unfold Bn.attr;rw[h1];refine⟨gr h (o:=o) (ja _ hn _) n (fun i hi dm=>u9 _ dm) (j3 ht (by omega)) ?_ (by exact jb (b:=b) (o:=o) h (by omega)) (by exact jc (b:=b) (o:=o) h (by omega)),by simp[Bn.set]⟩;intro q' y' nN nS e1 e2;obtain⟨rfl,rfl⟩:=fh hy nS;rw[h1] at e1;have e1:ks=nN:=by simp only[Option.some.injEq,Node.mk.injEq] at e1;exact e1.2.2.2.2
 subst e1;refine⟨ks,(lR h1 _).trans ?_,?_⟩
 ·rw[fi (.inr (by omega)),fj (.inr (by omega)),qd,kl];simp[ht,hk]
 ·rw[nj (.inr (by omega)) fun k _=> .inr (by omega)];exact eL (fun _ _=>Rp.ext (ja _ hn _)) e2
theorem AX (t:Tree) (h0:∀i q y,Sub 0 (-1) t i q y→y.text=true→y.kids=[]):o5 t [] ⟨t.dg,bF t,List.replicate t.dg 0,List.replicate t.dg 0⟩ where
 n0:=rfl
 le:=by rw[iS];exact Nat.le_refl _
 nd i q y hy:=by
  refine⟨aS (i+1) y.kids,?_,?_⟩
  ·have:=(hy.rN (bF t) ⟨[],by simp[bF]⟩).node;simp only at this ⊢;rw[this];simp[Tree.node,eU,fg,lz,cL]
  ·have hK:∀k,dq [] k=[.sC k]:=fun k=>by simp[dq,aY,cY,lz,news]
   unfold dk;cases hT:y.text with
   |true=>rw[h0 i q y hy hT];exact .nil
   |false=>
    simp only[Bool.false_eq_true,if_false,cY,lz,List.filter_nil,List.isEmpty_nil,Bool.not_true,aY,List.flatMap_nil,news,List.map_nil,List.nil_append,List.append_nil]
    have:∀(off:Nat) (xs:List Tree) (b:Bn),dP (Rp b) (aS off xs) ((cC off xs).flatMap (dq [])):=by
     intro off xs b
     induction xs generalizing off with
     |nil=>exact .nil
     |cons x r ih=>simp only[aS,cC,List.flatMap_cons,hK,List.singleton_append];exact .cons rfl (ih _)
    exact this _ _ _
 fs:=by
  refine⟨by simp,fun i hi=> ?_⟩;simp[hi,aY,lz]
 as:=by
  refine⟨by simp,fun i hi=> ?_⟩;simp[hi,aY,lz]
end
end Go.Am

/- The bench: the tree at a node. -/
set_option pp.deepTerms false
set_option pp.deepTerms.threshold 5
namespace Go.Am
open Go Go.RowKit
mutual
def Tree.rep (d:Doc) (n:Nat):Tree→Prop
 | .mk t s as ks=>∃p kd,d[n]?=some ⟨t,s,as,p,kd⟩∧mL d kd ks
def mL (d:Doc):List Int→List Tree→Prop
 |[],[]=>True
 |k::r,x::xs=>(∃m:Nat,k=m∧x.rep d m)∧mL d r xs
 |[],_::_=>False
 |_::_,[]=>False
end
theorem wM {d:Doc}:∀{ks:List Int} {xs:List Tree},mL d ks xs→ks.length=xs.length
 |[],[],_=>rfl
 |k::r,x::xs,h=>by simp only[mL] at h;simp[wM h.2]
 |[],_::_,h=>by simp[mL] at h
 |_::_,[],h=>by simp[mL] at h
theorem wN {d:Doc}:∀{ks:List Int} {xs:List Tree},mL d ks xs→∀{i:Nat} {x:Tree},xs[i]?=some x→∃m:Nat,ks[i]?=some (m:Int)∧x.rep d m
 |[],[],_,i,x,hx=>by simp at hx
 |k::r,y::xs,h,0,x,hx=>by
  simp only[mL] at h;obtain⟨⟨m,rfl,hm⟩,_⟩:=h;simp at hx;subst hx;exact⟨m,rfl,hm⟩
 |k::r,y::xs,h,i+1,x,hx=>by
  simp only[mL] at h;obtain⟨m,h1,h2⟩:=wN h.2 (i:=i) (x:=x) (by simpa using hx);exact⟨m,by simpa using h1,h2⟩
 |[],_::_,h,i,x,hx=>by simp[mL] at h
 |_::_,[],h,i,x,hx=>by simp[mL] at h
def kr (d:Doc) (fs as:List Int):AV:= .lptr [.list (d.map Node.iv),.list (fs.map a6),.list (as.map a6)]
section
variable {P:Program} {G:Nat→Option (List IV)}
def dG (aJ:Nat):AC:=
(.seq (.aM [⟨some 4,none,.new [(.bool false),(.str []),.nil0,.nil0]⟩]) (.seq (.aM [⟨some 9,none,.ak (.t 0)⟩,⟨some 10,none,.ef (.t 9)⟩,⟨some 11,none,.bV (.t 10) 0⟩,⟨some 12,none,.load none (.t 11)⟩,⟨some 13,none,.ak (.t 1)⟩,⟨some 14,none,.fJ (.t 12) (.t 13) 5⟩,⟨some 15,none,.load (some 5) (.t 14)⟩,⟨some 5,none,.new [(.bool false),(.str []),.nil0,(.int .i64 0),.nil0]⟩,⟨none,none,.store 5 (.t 5) (.t 15)⟩]) (.seq (.aM [⟨some 16,none,.bV (.t 5) 0⟩,⟨some 17,none,.load none (.t 16)⟩,⟨some 18,none,.bV (.t 5) 1⟩,⟨some 19,none,.load none (.t 18)⟩,⟨some 20,none,.bV (.t 5) 2⟩,⟨some 21,none,.load none (.t 20)⟩,⟨some 22,none,.o7 [(.bool false),(.str []),.nil0,.nil0] [(0,(1,(.t 17))),(1,(1,(.t 19))),(2,(1,(.t 21)))]⟩,⟨some 6,none,.new [(.bool false),(.str []),.nil0,.nil0]⟩,⟨none,none,.store 4 (.t 6) (.t 22)⟩]) (.seq (.gh .qn (.seq (.aM [⟨some 23,none,.bV (.t 5) 4⟩,⟨some 24,none,.load none (.t 23)⟩,⟨some 25,none,.len (.t 24)⟩,⟨some 26,none,.ak (.c (.int .i64 0))⟩]) (.block 0 (.loop (.seq (.aM [⟨some 27,none,.bin .lss (.t 26) (.t 25)⟩]) (.seq (.cond (.t 27) .skip (.exit 0)) (.seq (.block 1 (.seq (.aM [⟨some 28,none,.fJ (.t 24) (.t 26) 1⟩,⟨some 29,none,.load none (.t 28)⟩,⟨some 8,none,.ak (.t 29)⟩]) (.eY [⟨some 30,none,.bV (.t 6) 3⟩,⟨some 31,none,.load none (.t 30)⟩,⟨some 32,none,.ak (.t 0)⟩,⟨some 33,none,.ak (.t 8)⟩,⟨some 34,none,.call aJ [(.t 32),(.t 33)]⟩,⟨some 35,none,.lits 1 4 [(.bool false),(.str []),.nil0,.nil0] [(0,(.t 34))]⟩,⟨some 36,none,.app (.t 31) (.t 35) 4 72⟩,⟨some 37,none,.bV (.t 6) 3⟩,⟨none,none,.store 1 (.t 37) (.t 36)⟩] [[],[0],[],[],[2,3],[4],[1,5,4],[0,1,2,3,4,5,6],[7,6,6,0,1,2,3,4,5,6]] [.no,.rw [.loc 6] [],.no,.no,.no,.no,(.rw [] [(.loc 50),(.loc 36)]),.no,.rw [] [.loc 6]]))) (.aM [⟨some 38,none,.bin .add (.t 26) (.c (.int .i64 1))⟩,⟨some 26,none,.ak (.t 38)⟩])))))))) (.gh (.As (.loc 50) (.loc 6) 3) (.seq (.aM [⟨some 39,none,.load (some 4) (.t 6)⟩,⟨none,none,.store 4 (.t 4) (.t 39)⟩]) .ret))))))
theorem F0 {aJ:Nat} (hF:aA P G aJ=some (40,[((some (some 4)),4)],(dG aJ).bare)) (d:Doc) (fs as:List Int) (hd:d.length≤B) (n:Nat) (x:Tree) (hL:x.rep d n) (hx:x.wt≤B)
  (hK:∀k∈x.kids,∀(m:Nat),k.rep d m→az P G aJ [kr d fs as,.int .i64 m] k.av):az P G aJ [kr d fs as,.int .i64 n] x.av:=by
 refine jr hF (by simp) (by simp[ax,AV.aI,kr]) (by simp[AV.aI,Tree.av,ax]) ?_;obtain⟨tt,ss,aa,kk⟩:=x;simp only[Tree.rep] at hL;obtain⟨p,kd,pY,Hv⟩:=hL;have cj:=(List.getElem?_eq_some_iff.1 pY).1;have OE:=(Tree.mk tt ss aa kk).iB;simp only[Tree.kids,Tree.s,Tree.attrs] at OE;have yU:=fu kk;have sx:=wM Hv;have J0:(d.map Node.iv)[n]?=some (⟨tt,ss,aa,p,kd⟩:Node).iv:=by rw[List.getElem?_map,pY];rfl
 unfold dG;simp only[↓aX,mX,reduceCtorEq,Nat.reduceEqDiff,Nat.reduceLT,Nat.reduceLeDiff,Nat.reduceAdd,Nat.reduceMul,Int.reduceToNat,Int.reduceLE,Int.reduceLT,kr,List.length_map,J0,oE,Node.bL,Node.cs];rw[mV];refine⟨_,_,pZ (q:= .loc 6) (cs:=[.bool tt,.str ss,.list (dY aa),.nil0]) (j:=3) (d:=50) (sz:=4) rfl rfl (by simp[ai,Hp.none]) (by decide),?_⟩
 simp only[↓aX,mX,reduceCtorEq,Nat.reduceEqDiff,Nat.reduceLT,Nat.reduceLeDiff,Nat.reduceAdd,Nat.reduceMul,Int.reduceToNat,Int.reduceLE,Int.reduceLT]
 refine lv (σ:={i:Nat // i≤kk.length}) (fun _=>[.loc 4,.loc 6,.loc 50]) (fun _ _=>false)
  (fun q=>[(0,kr d fs as),(4,.ptr (.loc 4) 4 0 0),(6,.ptr (.loc 6) 4 0 0),(24,.list (kd.map a6)),(25,.int .i64 kk.length),(26,.int .i64 q.1)])
  (fun q=>[(.loc 4,⟨4,[[.bool false,.str [],.nil0,.nil0]]⟩),(.loc 6,⟨4,[[.bool tt,.str ss,.list (dY aa),.sl (.loc 50) 4 0 q.1]]⟩),(.loc 50,⟨4,ay (dc (kk.take q.1))⟩)])
  (fun q=>kk.length - q.1) ⟨0,Nat.zero_le _⟩ (fun _=>rfl) (fun q=>by simp[ax,AV.aI,kr]) ?_ ⟨[],?_⟩ ?_
 ·rintro q r hr cs b5 l hl;simp only[List.mem_cons,List.not_mem_nil,or_false] at hr;rcases hr with rfl|rfl|rfl
  ·simp only[List.mem_singleton] at b5;subst b5;simp[ax,AV.aI] at hl
  ·simp only[List.mem_singleton] at b5;subst b5;simp[ax,AV.aI] at hl;subst hl;simp
  ·rw[dK b5] at hl;simp at hl
 ·refine⟨?_,?_,?_,by simp[dS],fun l _=>⟨id,fun _=>rfl⟩⟩
  ·intro l hf hu;exfalso;apply hu;cases l<;>simp_all[Lb.fresh,ai,Hp.none]
  ·simp[nt,dS,cG,put,sx,kr,b7]
  ·simp[zb,dS,ai,dB,cn,cG,ay,dc]
 ·rintro⟨i,hi⟩;rw[CJ];simp only[↓aX,mX,reduceCtorEq,Nat.reduceEqDiff,Nat.reduceLT,Nat.reduceLeDiff,Nat.reduceAdd,Nat.reduceMul,Int.reduceToNat,Int.reduceLE,Int.reduceLT,jQ,iD];by_cases cj:i<kk.length
  ·rw[show decide ((i:Int)<(kk.length:Int))=true by simpa using cj];obtain⟨k,nE⟩:∃k,kk[i]?=some k:=⟨_,List.getElem?_eq_getElem cj⟩;have hw:IntKind.i64.wrap ((i:Int)+1)=((i+1:Nat):Int):=wrap64 (by omega) (by unfold B at hx;omega);obtain⟨m,hg,hm⟩:=wN Hv nE
   simp only[↓aX,mX,reduceCtorEq,Nat.reduceEqDiff,Nat.reduceLT,Nat.reduceLeDiff,Nat.reduceAdd,Nat.reduceMul,Int.reduceToNat,Int.reduceLE,Int.reduceLT,uV,hg,oD,List.length_map,Option.map_some,a6,IV.cells];have OK:=List.mem_of_getElem? nE;have Mc:(dc (kk.take i)).length=i:=by rw[bb,List.length_take];omega
   have Km:dc (kk.take (i+1))=dc (kk.take i)++[.agg [.bool k.text,.str k.s,.list (dY k.attrs),.list (dc k.kids)]]:=by rw[eo nE,uL];simp[dc,Tree.y_,Tree.cs]
   refine⟨rfl,kb (hK k OK m hm) ?_⟩;simp only[↓aX,mX,reduceCtorEq,Nat.reduceEqDiff,Nat.reduceLT,Nat.reduceLeDiff,Nat.reduceAdd,Nat.reduceMul,Int.reduceToNat,Int.reduceLE,Int.reduceLT,Tree.av]
   rw[jO 4 72 36 50 (dc (kk.take i)) (.agg [.bool k.text,.str k.s,.list (dY k.attrs),.list (dc k.kids)]) (by simp[ai]) Mc rfl (by simp[IV.cells]) (by unfold B at hx;omega) (by decide) (by decide) (by simp[ai,Hp.none])];simp only[↓aX,mX,reduceCtorEq,Nat.reduceEqDiff,Nat.reduceLT,Nat.reduceLeDiff,Nat.reduceAdd,Nat.reduceMul,Int.reduceToNat,Int.reduceLE,Int.reduceLT,hw]
   refine⟨by rintro l (rfl|rfl)<;>simp[Lb.iJ],?_⟩;refine⟨⟨i+1,cj⟩,by simp only;omega,[(.loc 50,.loc 36)],?_⟩;refine⟨?_,?_,?_,by simp[dS],?_⟩
   ·intro l hf hu;exfalso;apply hu;cases l<;>simp_all[Lb.fresh,ai,Hp.none]
   ·simp[nt,dS,cG,put,kr,kF]
   ·have hr:∀xs:List IV,dB (dS [(.loc 50,.loc 36)]) ⟨4,ay xs⟩=⟨4,ay xs⟩:=fun xs=>de _ _ _
    simp[zb,dS,ai,dB,cn,cG,Km];simp[ay,ll]
   ·intro l hl;simp only[List.mem_cons,List.not_mem_nil,or_false] at hl;rcases hl with rfl|rfl|rfl
    ·exact⟨fun _=>rfl,fun _=>rfl⟩
    ·exact⟨fun _=>rfl,fun _=>rfl⟩
    ·exact⟨fun _=>rfl,fun h=>by simp[Lb.fresh] at h⟩
  ·have qT:i=kk.length:=by omega
   subst qT;rw[show decide ((kk.length:Int)<(kk.length:Int))=false by simp];simp only[↓aX,mX,reduceCtorEq,Nat.reduceEqDiff,Nat.reduceLT,Nat.reduceLeDiff,Nat.reduceAdd,Nat.reduceMul,Int.reduceToNat,Int.reduceLE,Int.reduceLT,List.take_length];refine⟨4,dc kk,0,kk.length,[.bool tt,.str ss,.list (dY aa),.sl (.loc 50) 4 0 kk.length],rfl,rfl,rfl,by simp,by rw[bb];omega,Ck _,?_⟩
   simp only[↓aX,mX,reduceCtorEq,Nat.reduceEqDiff,Nat.reduceLT,Nat.reduceLeDiff,Nat.reduceAdd,Nat.reduceMul,Int.reduceToNat,Int.reduceLE,Int.reduceLT,List.drop_zero,List.take_of_length_le (show(dc kk).length≤kk.length by rw[bb];exact Nat.le_refl _)];rfl
theorem Dd {aJ:Nat} (hF:aA P G aJ=some (40,[((some (some 4)),4)],(dG aJ).bare)) (d:Doc) (fs as:List Int) (hd:d.length≤B):∀(m:Nat) (x:Tree),x.dg≤m→∀(n:Nat),x.rep d n→x.wt≤B→az P G aJ [kr d fs as,.int .i64 n] x.av
 |0,x,h,_,_,_=>by have:=x.cu;omega
 |m+1,x,h,n,hL,hx=>by
  have hw:=x.iB;refine F0 hF d fs as hd n x hL hx fun k hk n' hr=> ?_
  have h1:=sa hk;obtain⟨i,hi⟩:=List.getElem?_of_mem hk;have h2:=jN _ _ _ hi;exact Dd hF d fs as hd m k (by rw[x.gm] at h;omega) n' hr (by omega)
end
end Go.Am

/- Changes: what the bench has at the end; in which order all is done. -/
namespace Go.Am
open Go Go.RowKit
mutual
theorem gU.rep {d:Doc}:∀(x:Tree) (n:Nat) (q:Int),gU d n q x→x.rep d n
 | .mk t s as ks,n,q,h=>by
  simp only[Tree.rep];exact⟨q,aS (n+1) ks,h.node,tU n q (.mk t s as ks) h ks [] (by rfl)⟩
theorem tU {d:Doc} (n:Nat) (q:Int) (x:Tree) (h:gU d n q x):∀(ks pre:List Tree),x.kids=pre++ks→mL d (aS (n+1+bC pre) ks) ks
 |[],_,_=>by simp[aS,mL]
 |k::r,pre,e=>by
  simp only[aS,mL];refine⟨⟨_,rfl,gU.rep k _ _ (h.rM pre r k e)⟩,?_⟩;have:=tU n q x h r (pre++[k]) (by rw[e];simp);rw[eP] at this;simpa[bC,Nat.add_assoc] using this
end
def Rt (d:Doc):yu→Tree→Prop
 | .sC k,x=>x.rep d k
 | .new t,x=>x=t
theorem zK {b:Bn}:∀{ks:List Int} {its:List yu} {xs:List Tree},dP (Rp b) ks its→dP (Rt b.nodes) its xs→mL b.nodes ks xs
 |_,_,_,.nil,.nil=>by simp[mL]
 |_,_,_,.cons (b:=i) h1 h2,.cons (b:=x) g1 g2=>by
  simp only[mL];refine⟨?_,zK h2 g2⟩;cases i with
  |sC j=>exact⟨j,h1,g1⟩
  |new t=>
   obtain⟨m,e,_,q,hl⟩:=h1;have g1:x=t:=g1;subst g1;exact⟨m,e,gU.rep _ _ _ hl⟩
theorem nk (d:Doc):∀L:List Tree,dP (Rt d) (news L) L
 |[]=> .nil
 |x::r=>by simp only[news,List.map_cons];exact .cons rfl (nk d r)
theorem J1 {d:Doc} {l:List Op} {k:Nat} {x:Tree} (h:(x.eV l k).rep d k):dP (Rt d) (dq l k) (x.km l k):=by
 rw[Tree.u5];unfold dq;refine iG (iG (nk d _) ?_) (nk d _);split
 ·exact nk d _
 ·split
  ·exact .nil
  ·exact .cons h .nil
theorem zL {d:Doc} {l:List Op}:∀(off:Nat) (ks:List Tree),(∀a x c,ks=a++x::c→(x.eV l (off+bC a)).rep d (off+bC a))→dP (Rt d) ((cC off ks).flatMap (dq l)) (turns l off ks)
 |_,[],_=>by simp[cC,turns];exact .nil
 |off,x::r,h=>by
  simp only[cC,turns,List.flatMap_cons];refine iG (J1 (by simpa[bC] using h [] x r rfl)) (zL _ r fun a z c e=> ?_);have:=h (x::a) z c (by rw[e];rfl);simp only[bC] at this;rw[Nat.add_assoc];exact this
theorem o5.rep {t:Tree} {l:List Op} {b:Bn} (h:o5 t l b):∀(m i:Nat) (q:Int) (y:Tree),y.dg≤m→Sub 0 (-1) t i q y→(y.eV l i).rep b.nodes i
 |0,_,_,y,hm,_=>by have:=y.cu;omega
 |m+1,i,q,y,hm,hy=>by
  obtain⟨ks,h1,h2⟩:=h.nd i q y hy;unfold Tree.eV;simp only[Tree.rep];refine⟨q,ks,h1,zK h2 ?_⟩;unfold dk;split
  ·exact .nil
  ·split
   ·exact .cons rfl .nil
   ·refine iG (iG (nk _ _) (zL _ _ fun a x c e=> ?_)) (nk _ _);have hc:=y.gm;rw[e,eP] at hc;simp only[bC] at hc;exact o5.rep h m _ i x (by omega) (hy.trans (.rM a c x e (.self _ _ _)))
def AY (n:Nat) (o:Op):Bool:=decide (o.target=(n:Int)∧(o.kind=9∨o.kind=10))
theorem tV (l:List Op) (n:Nat) (as:List Attr):cL l n as=(l.filter (AY n)).foldl iM as:=by
 unfold cL
 induction l generalizing as with
 |nil=>rfl
 |cons o r ih=>
  rw[List.foldl_cons,ih,List.filter_cons];by_cases h:o.target=(n:Int)∧(o.kind=9∨o.kind=10)
  ·rw[if_pos (by simp[AY,h]),List.foldl_cons,kl,if_pos h]
  ·rw[if_neg (by simpa[AY] using h),kl,if_neg h]
structure Alike (l l':List Op):Prop where
 k:∀k n,lz l' k n=lz l k n
 a:∀n,l'.filter (AY n)=l.filter (AY n)
section
variable {l l':List Op} (h:Alike l l')
include h
theorem Alike.aY (k:Int) (n:Nat):aY l' k n=Am.aY l k n:=by unfold Am.aY;rw[h.k]
theorem Alike.cY (k:Int) (n:Nat):cY l' k n=Am.cY l k n:=by unfold Am.cY;rw[h.k]
theorem Alike.eU (n:Nat) (s:Bs):eU l' n s=Am.eU l n s:=by unfold Am.eU;rw[h.k]
theorem Alike.fg (n:Nat) (s:Bs):fg l' n s=Am.fg l n s:=by unfold Am.fg;rw[h.k]
theorem Alike.cL (n:Nat) (as:List Attr):cL l' n as=Am.cL l n as:=by rw[tV,tV,h.a]
end
mutual
theorem Alike.km {l l':List Op} (h:Alike l l'):∀(x:Tree) (off:Nat),x.km l' off=x.km l off
 | .mk t s as ks,off=>by simp only[Tree.km,h.aY,h.cY,h.eU,h.fg,h.cL,Alike.turns h ks (off+1)]
theorem Alike.turns {l l':List Op} (h:Alike l l'):∀(xs:List Tree) (off:Nat),turns l' off xs=turns l off xs
 |[],_=>by simp[Am.turns]
 |x::r,off=>by simp only[Am.turns,Alike.km h x off,Alike.turns h r (off+x.dg)]
end
theorem Alike.eV {l l':List Op} (h:Alike l l') (x:Tree) (off:Nat):x.eV l' off=x.eV l off:=by
 unfold Tree.eV;simp only[h.aY,h.cY,h.eU,h.fg,h.cL,h.turns]
def lB (ph:Op→Int) (l:List Op):Nat→List Op
 |0=>[]
 |p+1=>lB ph l p++l.filter fun o=>ph o==(p:Int)
def dL (ph:Op→Int) (l:List Op) (p i:Nat):List Op:=lB ph l p++(l.take i).filter fun o=>ph o==(p:Int)
theorem wO (ph:Op→Int) (l:List Op) (p:Nat):dL ph l (p+1) 0=dL ph l p l.length:=by simp[dL,lB]
theorem wP {ph:Op→Int} {l:List Op} {p i:Nat} {o:Op} (ho:l[i]?=some o) (h:ph o≠(p:Int)):dL ph l p (i+1)=dL ph l p i:=by
 unfold dL;rw[eo ho,List.filter_append,List.filter_cons_of_neg (by simpa using h)];simp
theorem pC {ph:Op→Int} {l:List Op} {p i:Nat} {o:Op} (ho:l[i]?=some o) (h:ph o=(p:Int)):dL ph l p (i+1)=dL ph l p i++[o]:=by
 unfold dL;rw[eo ho,List.filter_append,List.filter_cons_of_pos (by simpa using h)];simp
theorem sd (ph:Op→Int) (l:List Op) (p i:Nat):∃r,lB ph l (p+1)=dL ph l p i++r:=by
 refine⟨(l.drop i).filter fun o=>ph o==(p:Int),?_⟩;unfold dL;rw[lB,List.append_assoc,←List.filter_append,List.take_append_drop]
theorem oZ {ph:Op→Int} {l:List Op}:∀{p:Nat} {o:Op},o∈lB ph l p→o∈l∧ph o<(p:Int)
 |0,o,h=>by simp[lB] at h
 |p+1,o,h=>by
  simp only[lB,List.mem_append,List.mem_filter,beq_iff_eq] at h;rcases h with h|⟨h,e⟩
  ·obtain⟨h1,h2⟩:=oZ h;exact⟨h1,by omega⟩
  ·exact⟨h,by omega⟩
theorem qf (ph:Op→Int) (l:List Op):∀p:Nat,(lB ph l p).Pairwise fun a b=>ph a≤ph b
 |0=>by simp[lB]
 |p+1=>by
  rw[lB,List.pairwise_append];refine⟨qf ph l p,?_,fun a ha b hb=> ?_⟩
  ·refine List.Pairwise.imp_of_mem (R:=fun _ _=>True) (fun {a b} ha hb _=> ?_) (List.pairwise_of_forall fun _ _=>trivial);simp only[List.mem_filter,beq_iff_eq] at ha hb;omega
  ·have:=(oZ ha).2;simp only[List.mem_filter,beq_iff_eq] at hb;omega
theorem pD (ph:Op→Int) (l:List Op) (h0:∀o∈l,0≤ph o):∀p:Nat,(lB ph l p).Perm (l.filter fun o=>decide (ph o<(p:Int)))
 |0=>by
  rw[show(l.filter fun o=>decide (ph o<((0:Nat):Int)))=[] from List.filter_eq_nil_iff.2 fun o ho=>by have:=h0 o ho;simp;omega];exact .refl _
 |p+1=>by
  rw[lB];have h1:=List.filter_append_perm (fun o=>decide (ph o<(p:Int))) (l.filter fun o=>decide (ph o<((p+1:Nat):Int)));rw[List.filter_filter,List.filter_filter] at h1;refine((pD ph l h0 p).append_right _).trans (.trans (.of_eq ?_) h1)
  congr 1
  ·refine List.filter_congr fun o _=> ?_
   by_cases h:ph o<(p:Int)
   ·simp[h];omega
   ·simp[h]
  ·refine List.filter_congr fun o _=> ?_
   rw[Bool.eq_iff_iff];simp only[beq_iff_eq,Bool.and_eq_true,Bool.not_eq_true',decide_eq_false_iff_not,decide_eq_true_eq];omega
theorem mM {ph:Op→Int} {l:List Op} (c:Op→Bool) (P:Int) (hc:∀o∈l,c o=true→ph o=P):∀p:Nat,(lB ph l p).filter c=if 0≤P∧P<(p:Int) then l.filter c else []
 |0=>by simp[lB];omega
 |p+1=>by
   rw[lB,List.filter_append,mM c P hc p,List.filter_filter]
   by_cases h1:P=(p:Int)
   · rw[if_neg (by omega),if_pos (by omega),List.nil_append]
     refine List.filter_congr fun o ho=> ?_
     cases Nw:c o with
     |false=>rfl
     |true=>simp[hc o ho Nw,h1]
   · have:(l.filter fun o=>c o&&(ph o==(p:Int)))=[]:=by
       rw[List.filter_eq_nil_iff]
       intro o ho h
       simp only[Bool.and_eq_true,beq_iff_eq] at h
       exact h1 ((hc o ho h.1).symm.trans h.2)
     rw[this,List.append_nil]
     by_cases h2:0≤P∧P<(p:Int)
     · rw[if_pos h2,if_pos (by omega)]
     · rw[if_neg h2,if_neg (by omega)]
end Go.Am
