import Derived.Test.YtfinkeaikbmpgaaGreatDoorKT88
import Derived.Test.YtfinkeaikbmpgaaGreatDoorKT15
import Derived.Test.YtfinkeaikbmpgaaGreatDoorKT80
import Derived.Test.YtfinkeaikbmpgaaGreatDoorKT21
set_option linter.unusedSimpArgs false
set_option linter.unusedVariables false
set_option linter.unnecessarySimpa false
set_option linter.defProp false
/- Changes: the bench, step by step. -/
namespace Go.Am
open Go Go.RowKit
def Ext.refl (b:Bn):Ext b b:=⟨rfl,adw _,fun _ _ _ _ h=>h⟩
def Ext.trans {a b c:Bn} (h1:Ext a b) (h2:Ext b c):Ext a c:=
 ⟨h2.1.trans h1.1,aeZ h1.2.1 h2.2.1,fun m q tr hm h=>h2.2.2 m q tr (by rw[h1.1];exact hm) (h1.2.2 m q tr hm h)⟩
def oh (b:Bn) {i:Nat} (hi:i<b.n0) (y:Node):Ext b (b.set i y):=
 ⟨rfl,by simp[Bn.set],fun m q tr hm h=>by
  obtain⟨post,h⟩:=h;refine⟨post,?_⟩;show(b.nodes.set i y).drop m=_;rw[agW (by omega)];exact h⟩
def O1 (b:Bn) (p:Nat) (L:List Tree):Ext b (b.iz p L):=
 ⟨rfl,by simp[Bn.iz],fun m q tr hm h=>by
  have hl:=h.len;obtain⟨post,h⟩:=h;refine⟨post++eE b.nodes.length p L,?_⟩;show(b.nodes++eE b.nodes.length p L).drop m=_;rw[ae9 (by omega),h,adV]⟩
def D4 (b:Bn) (fs as:List Int):Ext b {b with fs:=fs,as:=as}:=⟨rfl,adw _,fun _ _ _ _ h=>h⟩
section
variable {b:Bn} {p:Nat} {x:Node}
def Bg (hx:b.nodes[p]?=some x) (pl:Nat) (L:List Tree):b.ins p pl L=(b.iz p L).set p {x with kids:=x.kids.take pl++aV b.nodes.length L++x.kids.drop pl}:=by unfold Bn.ins;rw[hx]
def su (hx:b.nodes[p]?=some x) (hp:p<b.n0) (pl:Nat) (L:List Tree):Ext b (b.ins p pl L):=by
 rw[Bg hx];exact(O1 b p L).trans (oh (b.iz p L) (show p<(b.iz p L).n0 from hp) _)
def yd (hx:b.nodes[p]?=some x) (pl:Nat) (L:List Tree) {i:Nat} (hi:i<b.nodes.length) (ff:i≠p):(b.ins p pl L).nodes[i]?=b.nodes[i]?:=by
 rw[Bg hx];show((b.nodes++eE b.nodes.length p L).set p _)[i]?=_;rw[aeH (aef ff),ad6 hi]
def ye (hx:b.nodes[p]?=some x) (pl:Nat) (L:List Tree):(b.ins p pl L).nodes[p]?=some {x with kids:=x.kids.take pl++aV b.nodes.length L++x.kids.drop pl}:=by
 rw[Bg hx];have:=(ag6.1 hx).1;show((b.nodes++eE b.nodes.length p L).set p _)[p]?=_;rw[aeA (by rw[adE];omega)]
def uV (hx:b.nodes[p]?=some x) (pl:Nat) (L:List Tree):(b.ins p pl L).nodes.length=b.nodes.length+bC L:=by
 rw[Bg hx];simp[Bn.set,Bn.iz,mL]
def uW (hx:b.nodes[p]?=some x) (hp:p<b.n0) (hn:b.n0≤b.nodes.length) (pl:Nat) (L:List Tree) {its:List H7} (h:gT (Rp b) x.kids its) :
  gT (Rp (b.ins p pl L)) (x.kids.take pl++aV b.nodes.length L++x.kids.drop pl) (its.take pl++news L++its.drop pl):=by
 have he:=su hx hp pl L;refine nu (nu (yb pl (jk (fun _ _=>Rp.ext he) h)) ?_) (yc pl (jk (fun _ _=>Rp.ext he) h));have h1:Ext (b.iz p L) (b.ins p pl L):=by rw[Bg hx];exact oh (b.iz p L) (show p<(b.iz p L).n0 from hp) _
 exact jk (fun _ _=>Rp.ext h1) (F0 (b:=b.iz p L) (by simp[Bn.iz];omega) p L b.nodes b.nodes.length [] L (by simp[Bn.iz]) rfl hn)
def del_eq (hx:b.nodes[p]?=some x) (k:Nat):b.del p k=b.set p {x with kids:=x.kids.take k++x.kids.drop (k+1)}:=by unfold Bn.del;rw[hx]
def D5 (hx:b.nodes[p]?=some x) (hp:p<b.n0) (k:Nat):Ext b (b.del p k):=by rw[del_eq hx];exact oh _ hp _
def O2 (hx:b.nodes[p]?=some x) (k:Nat) {i:Nat} (ff:i≠p):(b.del p k).nodes[i]?=b.nodes[i]?:=by
 rw[del_eq hx];exact aeH (aef ff)
def O3 (hx:b.nodes[p]?=some x) (k:Nat):(b.del p k).nodes[p]?=some {x with kids:=x.kids.take k++x.kids.drop (k+1)}:=by
 rw[del_eq hx];exact aeA (ag6.1 hx).1
def JQ (hx:b.nodes[p]?=some x) (k:Nat):(b.del p k).nodes.length=b.nodes.length:=by rw[del_eq hx];simp[Bn.set]
def JR (hx:b.nodes[p]?=some x) (hp:p<b.n0) (k:Nat) {its:List H7} (h:gT (Rp b) x.kids its) :
  gT (Rp (b.del p k)) (x.kids.take k++x.kids.drop (k+1)) (its.take k++its.drop (k+1)):=by
 have he:=D5 hx hp k;exact nu (yb k (jk (fun _ _=>Rp.ext he) h)) (yc (k+1) (jk (fun _ _=>Rp.ext he) h))
def se (hx:b.nodes[p]?=some x) (y:Node):(b.set p y).nodes[p]?=some y:=aeA (ag6.1 hx).1
def D6 (y:Node) {i:Nat} (ff:i≠p):(b.set p y).nodes[i]?=b.nodes[i]?:=aeH (aef ff)
end
def pU (n:Nat):H7→Bool
 | .BI j=>j==n
 | .new _=>false
theorem Un {b:Bn} {n:Nat} (hn:n<b.n0) {k:Int}:∀{x:H7},Rp b k x→pU n x=false→k≠(n:Int)
 | .BI j,h,h2=>by simp only[Rp] at h;simp only[pU,aew] at h2;omega
 | .new t,⟨m,h1,h2,_⟩,_=>by omega
def D7 {b:Bn} {n:Nat} (hn:n<b.n0) {ks:List Int} {A C:List H7} (h:gT (Rp b) ks (A++ .BI n::C)) (hA:∀x∈A,pU n x=false):o2 ks n=A.length∧A.length<ks.length:=by
 have hl:=pT h;have bO:A.length<ks.length:=by rw[hl];simp
 obtain⟨k,hk⟩:∃k,ks[A.length]?=some k:=⟨_,ag7 bO⟩;have h1:Rp b k (.BI n):=JP h hk (by simp);have vL:ks[A.length]?=some (n:Int):=by rw[hk];exact afb some h1
 refine⟨JE vL fun j hj e=> ?_,bO⟩;obtain⟨x,hx⟩:∃x,A[j]?=some x:=⟨_,ag7 hj⟩;have h2:Rp b (n:Int) x:=JP h e (by rw[ad6 hj];exact hx);exact Un hn h2 (hA x (adu hx)) rfl
def Xl {b:Bn} {n:Nat} (hn:n<b.n0) {ks:List Int} {its:List H7} (h:gT (Rp b) ks its) (hA:∀x∈its,pU n x=false):o2 ks n= -1:=by
 have hl:=pT h;refine CT fun j hj e=> ?_;obtain⟨x,hx⟩:∃x,its[j]?=some x:=⟨_,ag7 (by omega)⟩;exact Un hn (JP h e hx) (hA x (adu hx)) rfl
def ll (n:Nat) (L:List Tree):∀x∈news L,pU n x=false:=by
 intro x hx;obtain⟨t,_,rfl⟩:=adY.1 hx;rfl
def xg {l:List Op} {o:Op} {k:Nat} (h:o.target≠(k:Int)∨(o.kind≠3∧o.kind≠4∧o.kind≠5∧o.kind≠6)):fR (l++[o]) k=fR l k:=by
 unfold fR;rw[b_,b_,b_,fu,fu];rcases h with h|⟨h1,h2,h3,h4⟩
 ·simp[h]
 simp[h1,h2,h3,h4]
def uX {l:List Op} {o:Op} {i:Nat} {y:Tree} (h1:o.target≠(i:Int)∨(o.kind≠1∧o.kind≠2∧o.kind≠7)) (h2:∀k∈cO (i+1) y.kids,o.target≠(k:Int)∨(o.kind≠3∧o.kind≠4∧o.kind≠5∧o.kind≠6)) :
  fO (l++[o]) i y=fO l i y:=by
 have hk:(cO (i+1) y.kids).flatMap (fR (l++[o]))=(cO (i+1) y.kids).flatMap (fR l):=by
  rw[aff,aff];congr 1;exact aej fun k hk=>xg (h2 k hk)
 unfold fO;rw[hk,b_,b_,fu,uU];rcases h1 with h1|⟨h3,h4,h5⟩
 ·simp[h1]
 simp[h3,h4,h5]
theorem C1:∀(off:Nat) (xs:List Tree) (k:Nat),k∈cO off xs→∃a c x,xs=a++x::c∧k=off+bC a
 |off,[],k,h=>by simp[cO] at h
 |off,x::r,k,h=>by
  simp only[cO,adz] at h;rcases h with rfl|h
  ·exact⟨[],r,x,rfl,by simp[bC]⟩
  obtain⟨a,c,z,h1,h2⟩:=C1 (off+x.fI) r k h;exact⟨x::a,c,z,by rw[h1];rfl,by simp only[bC];omega⟩
theorem C2:∀(off:Nat) (a b:List Tree),cO off (a++b)=cO off a++cO (off+bC a) b
 |off,[],b=>by simp[cO,bC]
 |off,x::r,b=>by simp[cO,bC,C2 (off+x.fI) r b,aer]
theorem yY:∀(off:Nat) (xs:List Tree) (k:Nat),k∈cO off xs→k<off+bC xs
 |off,[],k,h=>by simp[cO] at h
 |off,x::r,k,h=>by
  have:=x.dH;simp only[cO,adz] at h;rcases h with rfl|h
  ·simp only[bC];omega
  have:=yY (off+x.fI) r k h;simp only[bC];omega
def kr {t:Tree} {n:Nat} {q q':Int} {y y':Tree} (h:Sub 0 (-1) t n q y) (h':Sub 0 (-1) t n q' y'):y=y'∧q=q':=
 (h.AA (aK t) ⟨[],by simp[aK]⟩).uniq (h'.AA (aK t) ⟨[],by simp[aK]⟩)
def SE {t:Tree} {i:Nat} {q:Int} {y:Tree} (h:Sub 0 (-1) t i q y) {k:Nat} (hk:k∈cO (i+1) y.kids):∃z,Sub 0 (-1) t k i z∧z∈y.kids:=by
 obtain⟨a,c,x,h1,h2⟩:=C1 _ _ _ hk;refine⟨x,h.trans (.BS a c x h1 ?_),by rw[h1];simp⟩;rw[h2];exact .self _ _ _
def Sub.JS {off:Nat} {p:Int} {t:Tree} {n:Nat} {q:Int} {y:Tree} (h:Sub off p t n q y) :
  (n=off∧q=p∧y=t)∨∃(m:Nat) (z:Tree) (r:Int) (a c:List Tree),q=(m:Int)∧Sub off p t m r z∧z.kids=a++y::c∧n=m+1+bC a∧m<n:=by
 induction h with
 |self=>exact .inl ⟨rfl,rfl,rfl⟩
 |@BS off p t n q y a b k hk hs ih=>
 right;rcases ih with⟨rfl,rfl,rfl⟩|⟨m,z,r,a',c',e1,e2,e3,e4,e5⟩
 ·exact⟨off,t,p,a,b,rfl,.self _ _ _,hk,by omega,by omega⟩
 exact⟨m,z,r,a',c',e1,.BS a b k hk e2,e3,e4,e5⟩
def F1 {t:Tree} {m n:Nat} {r:Int} {z y:Tree} {a c:List Tree} (h1:z.kids=a++y::c) (h2:n=m+1+bC a):cO (m+1) z.kids=cO (m+1) a++n::cO (n+y.fI) c∧(∀k∈cO (m+1) a,k<n)∧∀k∈cO (n+y.fI) c,n<k:=by
 have:=y.dH;refine⟨by rw[h1,C2,h2];simp[cO],fun k hk=>by have:=yY _ _ _ hk;omega,fun k hk=>by have:=tp _ _ k hk;omega⟩
def ln {t:Tree} {l:List Op} {o:Op} {b b':Bn} (h:xr t l b) (he:Ext b b') (c:Nat) (hc:∀i,i<t.fI→i≠c→b'.nodes[i]?=b.nodes[i]?)
  (hs:∀i q y,Sub 0 (-1) t i q y→i≠c→(y.text=true→j6 (l++[o]) i y.s=j6 l i y.s)∧(y.text=false→kD (l++[o]) i y.s=kD l i y.s)∧en (l++[o]) i y.attrs=en l i y.attrs∧fO (l++[o]) i y=fO l i y)
  (hn:∀q y ks,Sub 0 (-1) t c q y→b.nodes[c]?=some ⟨y.text,if y.text then j6 l c y.s else kD l c y.s,en l c y.attrs,q,ks⟩→gT (Rp b) ks (fO l c y) →
   ∃vF,b'.nodes[c]?=some ⟨y.text,if y.text then j6 (l++[o]) c y.s else kD (l++[o]) c y.s,en (l++[o]) c y.attrs,q,vF⟩∧gT (Rp b') vF (fO (l++[o]) c y))
  (hf:b'.fs.length=t.fI∧∀i,i<t.fI→b'.fs[i]?=some ((bg (l++[o]) 1 i).length:Int)) (ha:b'.as.length=t.fI∧∀i,i<t.fI→b'.as[i]?=some ((bg (l++[o]) 4 i).length:Int)):xr t (l++[o]) b' where
 n0:=he.1.trans h.n0
 le:=by rw[he.1];exact aeZ h.le he.2.1
 nd i q y hy:=by
  obtain⟨ks,h1,h2⟩:=h.nd i q y hy;by_cases e:i=c
  ·subst e;exact hn q y ks hy h1 h2
  have hr:=hy.Jj;have Uo:=y.dH;obtain⟨g1,g2,g3,g4⟩:=hs i q y hy e;refine⟨ks,?_,by rw[g4];exact jk (fun _ _=>Rp.ext he) h2⟩;rw[hc i (by omega) e,h1,g3];cases hT:y.text with
  |true=>rw[g1 hT];rfl
  |false=>rw[g2 hT];rfl
 fs:=hf
 as:=ha
def oi {t:Tree} {l:List Op} {o:Op} {b:Bn} (h:xr t l b) (hk:o.kind≠1):b.fs.length=t.fI∧∀i,i<t.fI→b.fs[i]?=some ((bg (l++[o]) 1 i).length:Int):=
 ⟨h.fs.1,fun i hi=>by rw[b_,ag8 (fun e=>hk e.1),adN];exact h.fs.2 i hi⟩
def oj {t:Tree} {l:List Op} {o:Op} {b:Bn} (h:xr t l b) (hk:o.kind≠4):b.as.length=t.fI∧∀i,i<t.fI→b.as[i]?=some ((bg (l++[o]) 4 i).length:Int):=
 ⟨h.as.1,fun i hi=>by rw[b_,ag8 (fun e=>hk e.1),adN];exact h.as.2 i hi⟩
def gI {l:List Op} {o:Op} {i:Nat} (h:o.target≠(i:Int)∨(o.kind≠9∧o.kind≠10)) (as:List Attr):en (l++[o]) i as=en l i as:=by
 rw[yX,o6,ag8];rintro⟨e1,e2⟩;rcases h with h|⟨h1,h2⟩
 ·exact h e1
 exact e2.elim h1 h2
def jW {l:List Op} {o:Op} {i:Nat} (h:o.target≠(i:Int)∨o.kind≠7) (s:Bs):j6 (l++[o]) i s=j6 l i s:=by
 rw[uU,ag8];rintro⟨e1,e2⟩;exact h.elim (fun h=>h e2) (fun h=>h e1)
def jX {l:List Op} {o:Op} {i:Nat} (h:o.target≠(i:Int)∨o.kind≠8) (s:Bs):kD (l++[o]) i s=kD l i s:=by
 rw[C0,ag8];rintro⟨e1,e2⟩;exact h.elim (fun h=>h e2) (fun h=>h e1)
section
variable {t:Tree} {l:List Op} {b:Bn} {o:Op} {n:Nat} {q:Int} {y:Tree}
def pA (ht:o.target=(n:Int)) (hk:o.kind≠3∧o.kind≠4∧o.kind≠5∧o.kind≠6):∀i q y,Sub 0 (-1) t i q y→i≠n →
  (y.text=true→j6 (l++[o]) i y.s=j6 l i y.s)∧(y.text=false→kD (l++[o]) i y.s=kD l i y.s)∧en (l++[o]) i y.attrs=en l i y.attrs∧fO (l++[o]) i y=fO l i y:=by
 intro i q y hy hi;have ff:o.target≠(i:Int):=by omega
 exact⟨fun _=>jW (.inl ff) _,fun _=>jX (.inl ff) _,gI (.inl ff) _,uX (.inl ff) fun k _=> .inr hk⟩
def step1 (h:xr t l b) (hy:Sub 0 (-1) t n q y) (ht:o.target=(n:Int)) (hk:o.kind=1) (hT:y.text=false) (hv:gi l 7 n=false):xr t (l++[o]) (mj b o)∧(mj b o).nodes.length=b.nodes.length+bC o.content:=by
 obtain⟨ks,h1,h2⟩:=h.nd n q y hy;have hr:=hy.Jj;have Uo:=y.dH;have hn:n<b.n0:=by rw[h.n0];omega
 have hle:=h.le;have qX:=h.n0;have vi:=h.fs.2 n (by omega);have Zw:(b.fs.getD n 0).toNat=(bg l 1 n).length:=by rw[aex,vi];simp
 have hd:mj b o={b.ins n (bg l 1 n).length o.content with fs:=b.fs.set n (((bg l 1 n).length+o.content.length:Nat):Int)}:=by
  unfold mj;rw[ht,ag9,h1];simp only[hk,adH,Zw]
 rw[hd];refine⟨ln h (o:=o) ((su h1 hn _ _).trans (D4 _ _ _)) n (fun i hi ff=>yd h1 _ _ (by omega) ff) (pA ht (by omega)) ?_ ?_ ?_,?_⟩
 ·intro q' y' vF vH e1 e2;obtain⟨rfl,rfl⟩:=kr hy vH;rw[h1] at e1;have e1:ks=vF:=by simp only[jl,Node.mk.injEq] at e1;exact e1.2.2.2.2
  subst e1;refine⟨ks.take (bg l 1 n).length++aV b.nodes.length o.content++ks.drop (bg l 1 n).length,(ye h1 _ _).trans ?_,?_⟩
  ·rw[gI (.inr (by omega)),jW (.inr (by omega)),jX (.inr (by omega))]
  have:=uW h1 hn hle (bg l 1 n).length o.content h2;refine jk (fun _ _=>Rp.ext (D4 _ _ _)) ?_;refine cast ?_ this;congr 1;unfold fO;rw[hT,hv,fu,b_,b_,hv];have Qx:(cO (n+1) y.kids).flatMap (fR (l++[o]))=(cO (n+1) y.kids).flatMap (fR l):=by
   rw[aff,aff];congr 1;exact aej fun k vL=>xg (.inr (by omega))
  rw[Qx];simp[hk,ht,news]
 ·refine⟨by simp[h.fs.1],fun i hi=> ?_⟩;rw[b_];by_cases e:i=n
  ·subst e;rw[aeA (by rw[h.fs.1];omega),adv ⟨hk,ht⟩,adE]
  rw[aeH (aef e),ag8 (by omega),adN];exact h.fs.2 i hi
 ·have:=oj (o:=o) h (by omega);rw[sr];exact this
 exact uV h1 _ _
def step2 (h:xr t l b) (hy:Sub 0 (-1) t n q y) (ht:o.target=(n:Int)) (hk:o.kind=2) (hT:y.text=false) (hv:gi l 7 n=false):xr t (l++[o]) (mj b o)∧(mj b o).nodes.length=b.nodes.length+bC o.content:=by
 obtain⟨ks,h1,h2⟩:=h.nd n q y hy;have hr:=hy.Jj;have Uo:=y.dH;have hn:n<b.n0:=by rw[h.n0];omega
 have hle:=h.le;have qX:=h.n0;have hd:mj b o=b.ins n ks.length o.content:=by
  unfold mj;rw[ht,ag9,h1];simp[hk]
 rw[hd];refine⟨ln h (o:=o) (su h1 hn _ _) n (fun i hi ff=>yd h1 _ _ (by omega) ff) (pA ht (by omega)) ?_ ?_ ?_,uV h1 _ _⟩
 ·intro q' y' vF vH e1 e2;obtain⟨rfl,rfl⟩:=kr hy vH;rw[h1] at e1;have e1:ks=vF:=by simp only[jl,Node.mk.injEq] at e1;exact e1.2.2.2.2
  subst e1;refine⟨ks.take ks.length++aV b.nodes.length o.content++ks.drop ks.length,(ye h1 _ _).trans ?_,?_⟩
  ·rw[gI (.inr (by omega)),jW (.inr (by omega)),jX (.inr (by omega))]
  have:=uW h1 hn hle ks.length o.content h2;have hl:=pT h2;refine cast ?_ this;congr 1;rw[hl,aee,agx,adN];unfold fO;rw[hT,hv,fu,b_,b_,hv];have Qx:(cO (n+1) y.kids).flatMap (fR (l++[o]))=(cO (n+1) y.kids).flatMap (fR l):=by
   rw[aff,aff];congr 1;exact aej fun k vL=>xg (.inr (by omega))
  rw[Qx];simp[hk,ht,news]
 ·have:=oi (o:=o) h (by omega);rw[sn];exact this
 have:=oj (o:=o) h (by omega);rw[sr];exact this
def LH {off k:Nat} {m:Int} {y:Tree} (h:k=off):Sub off m y k m y:=by subst h;exact .self _ _ _
def LI {l:List Op} {k n:Nat} (h:k≠n):∀x∈fR l k,pU n x=false:=by
 intro x hx;unfold fR at hx;simp only[adD] at hx;rcases hx with(hx|hx)|hx
 ·exact ll n _ x hx
 ·split at hx
  ·exact ll n _ x hx
  split at hx
  ·simp at hx
  simp only[adr] at hx;subst hx;simp[pU,h]
 exact ll n _ x hx
def F2 {l:List Op} {n:Nat} {ks:List Nat} (h:∀k∈ks,k≠n):∀x∈ks.flatMap (fR l),pU n x=false:=by
 intro x hx;obtain⟨k,hk,hx⟩:=agu.1 hx;exact LI (h k hk) x hx
structure ji (t:Tree) (l:List Op) (b:Bn) (n:Nat) (y:Tree) where
 m:Nat
 z:Tree
 r:Int
 a:List Tree
 c:List Tree
 ks:List Int
 hz:Sub 0 (-1) t m r z
 hk:z.kids=a++y::c
 hn:n=m+1+bC a
 nd:b.nodes[m]?=some ⟨z.text,if z.text then j6 l m z.s else kD l m z.s,en l m z.attrs,r,ks⟩
 rp:gT (Rp b) ks (fO l m z)
 zt:z.text=false
def beside (h:xr t l b) (h0:∀i q y,Sub 0 (-1) t i q y→y.text=true→y.kids=[]) (hy:Sub 0 (-1) t n q y) (hq:0≤q):∃B:ji t l b n y,q=(B.m:Int):=by
 rcases hy.JS with⟨_,rfl,_⟩|⟨m,z,r,a,c,e1,e2,e3,e4,e5⟩
 ·omega
 obtain⟨ks,h1,h2⟩:=h.nd m r z e2;refine⟨⟨m,z,r,a,c,ks,e2,e3,e4,h1,h2,?_⟩,e1⟩;cases hT:z.text with
 |false=>rfl
 |true=>have:=h0 m r z e2 hT;rw[e3] at this;simp at this
variable {n:Nat}
def ji.A (B:ji t l b n y):List H7:=news (bg l 1 B.m)++(cO (B.m+1) B.a).flatMap (fR l)
def ji.C (B:ji t l b n y):List H7:=(cO (n+y.fI) B.c).flatMap (fR l)++news (bg l 2 B.m)
def ji.split (B:ji t l b n y):cO (B.m+1) B.z.kids=cO (B.m+1) B.a++n::cO (n+y.fI) B.c∧(∀k∈cO (B.m+1) B.a,k<n)∧∀k∈cO (n+y.fI) B.c,n<k:=
 F1 (t:=t) (r:=B.r) B.hk B.hn
def ji.items (B:ji t l b n y) (hv:gi l 7 B.m=false):fO l B.m B.z=B.A++fR l n++B.C:=by
 unfold fO;rw[B.zt,hv,B.split.1];simp[ji.A,ji.C]
def ji.H8 (B:ji t l b n y) (hv:gi l 7 B.m=false) (h1:o.kind≠1) (h2:o.kind≠2) (h7:o.kind≠7) (ht:o.target=(n:Int)):fO (l++[o]) B.m B.z=B.A++fR (l++[o]) n++B.C:=by
 unfold fO;rw[B.zt,fu,hv,B.split.1,b_,b_];have e1:∀ks:List Nat,(∀k∈ks,k≠n)→ks.flatMap (fR (l++[o]))=ks.flatMap (fR l):=fun ks Kq=>by
  rw[aff,aff];congr 1;exact aej fun k hk=>xg (.inl (by have:=Kq k hk;omega))
 simp only[afe,aeK];rw[e1 _ (fun k hk=>by have:=B.split.2.1 k hk;omega),e1 _ (fun k hk=>by have:=B.split.2.2 k hk;omega)];simp[ji.A,ji.C,h1,h2,h7]
def ji.JT (B:ji t l b n y):∀x∈B.A,pU n x=false:=by
 intro x hx;simp only[ji.A,adD] at hx;rcases hx with hx|hx
 ·exact ll n _ x hx
 exact F2 (fun k hk=>by have:=B.split.2.1 k hk;omega) x hx
def ji.aaL (B:ji t l b n y):∀x∈B.C,pU n x=false:=by
 intro x hx;simp only[ji.C,adD] at hx;rcases hx with hx|hx
 ·exact F2 (fun k hk=>by have:=B.split.2.2 k hk;omega) x hx
 exact ll n _ x hx
def pV (B:ji t l b n y) (hy:Sub 0 (-1) t n q y) (ht:o.target=(n:Int)) (hk:o.kind=3∨o.kind=4∨o.kind=5∨o.kind=6):∀i q y,Sub 0 (-1) t i q y→i≠B.m →
  (y.text=true→j6 (l++[o]) i y.s=j6 l i y.s)∧(y.text=false→kD (l++[o]) i y.s=kD l i y.s)∧en (l++[o]) i y.attrs=en l i y.attrs∧fO (l++[o]) i y=fO l i y:=by
 intro i q' y' vH hi;refine⟨fun _=>jW (.inr (by omega)) _,fun _=>jX (.inr (by omega)) _,gI (.inr (by omega)) _,uX (.inr (by omega)) fun k vL=> .inl fun e=> ?_⟩;have e:k=n:=by omega
 subst e;obtain⟨w,hw,_⟩:=SE vH vL;have h1:Sub 0 (-1) t k B.m y:=B.hz.trans (.BS B.a B.c y B.hk (LH B.hn));have:=(kr hw h1).2;omega
def Xm (h:xr t l b) (h0:∀i q y,Sub 0 (-1) t i q y→y.text=true→y.kids=[]) (hy:Sub 0 (-1) t n q y) (hq:0≤q) (ht:o.target=(n:Int)) (hk:o.kind=3∨o.kind=4∨o.kind=6) (hv:gi l 7 q.toNat=false) (h6:gi l 6 n=false) (h5:gi l 5 n=false) :
   xr t (l++[o]) (mj b o)∧(mj b o).nodes.length=b.nodes.length+bC o.content:=by
 obtain⟨B,H9⟩:=beside h h0 hy hq
 rw[H9,ag9] at hv
 obtain⟨ks,h1,-⟩:=h.nd n q y hy
 have hr:=hy.Jj
 have Uo:=y.dH
 have hr2:=B.hz.Jj
 have aaM:=B.z.dH
 have hn:n<b.n0:=by rw[h.n0];omega
 have hm:B.m<b.n0:=by rw[h.n0];omega
 have hle:=h.le
 have qX:=h.n0
 have Xn:=B.items hv
 have O4:fR l n=news (bg l 3 n)++ .BI n::news (bg l 4 n):=by unfold fR;rw[h6,h5];simp
 have Qz:gT (Rp b) B.ks ((B.A++news (bg l 3 n))++ .BI n::(news (bg l 4 n)++B.C)):=by
   have:=B.rp;rw[Xn,O4] at this
   simpa using this
 have hA:∀x∈B.A++news (bg l 3 n),pU n x=false:=by
   intro x hx
   rcases adD.1 hx with hx|hx
   · exact B.JT x hx
   exact ll n _ x hx
 obtain⟨rD,bO⟩:=D7 hn Qz hA
 have zG:b.kd B.m=B.ks:=by rw[Bn.oe B.nd]
 have han:=h.as.2 n (by omega)
 have ha0:(b.as.getD n 0).toNat=(bg l 4 n).length:=by rw[aex,han];simp
 obtain⟨L,hL⟩:∃L,L=(B.A++news (bg l 3 n)).length:=⟨_,rfl⟩
 rw[←hL] at rD bO
 have O5:=B.H8 (o:=o) hv (by omega) (by omega) (by omega) ht
 rcases hk with hk|hk|hk
 · have hd:mj b o=b.ins B.m L o.content:=by
     unfold mj;rw[ht,ag9,h1];simp only[H9,ag9,zG,rD];simp[hk]
   rw[hd]
   refine⟨ln h (o:=o) (su B.nd hm _ _) B.m (fun i hi ff=>yd B.nd _ _ (by omega) ff) (pV B hy ht (by omega)) ?_ ?_ ?_,uV B.nd _ _⟩
   · intro q' y' vF vH e1 e2
     obtain⟨rfl,rfl⟩:=kr B.hz vH
     rw[B.nd] at e1
     have e1:B.ks=vF:=by simp only[jl,Node.mk.injEq] at e1;exact e1.2.2.2.2
     subst e1
     refine⟨B.ks.take L++aV b.nodes.length o.content++B.ks.drop L,(ye B.nd _ _).trans ?_,?_⟩
     · rw[gI (.inr (by omega)),jW (.inr (by omega)),jX (.inr (by omega))]
     have:=uW B.nd hm hle L o.content Qz
     refine cast ?_ this
     congr 1
     rw[O5,hL,ae2 rfl,afB rfl]
     unfold fR
     rw[b_,b_,b_,fu,fu,h6,h5]
     simp[hk,ht,news]
   · have:=oi (o:=o) h (by omega)
     rw[sn];exact this
   have:=oj (o:=o) h (by omega)
   rw[sr];exact this
 · have hd:mj b o={b.ins B.m (L+1+(bg l 4 n).length) o.content with as:=b.as.set n (((bg l 4 n).length+o.content.length:Nat):Int)}:=by
     unfold mj;rw[ht,ag9,h1];simp only[H9,ag9,zG,rD,ha0];simp[hk]
   rw[hd]
   refine⟨ln h (o:=o) ((su B.nd hm _ _).trans (D4 _ _ _)) B.m (fun i hi ff=>yd B.nd _ _ (by omega) ff) (pV B hy ht (by omega)) ?_ ?_ ?_,uV B.nd _ _⟩
   · intro q' y' vF vH e1 e2
     obtain⟨rfl,rfl⟩:=kr B.hz vH
     rw[B.nd] at e1
     have e1:B.ks=vF:=by simp only[jl,Node.mk.injEq] at e1;exact e1.2.2.2.2
     subst e1
     refine⟨B.ks.take (L+1+(bg l 4 n).length)++aV b.nodes.length o.content++B.ks.drop (L+1+(bg l 4 n).length),(ye B.nd _ _).trans ?_,?_⟩
     · rw[gI (.inr (by omega)),jW (.inr (by omega)),jX (.inr (by omega))]
     have acG:gT (Rp b) B.ks ((B.A++news (bg l 3 n)++ .BI n::news (bg l 4 n))++B.C):=by simpa using Qz
     have hL2:L+1+(bg l 4 n).length=(B.A++news (bg l 3 n)++ .BI n::news (bg l 4 n)).length:=by rw[hL];simp[news];omega
     have:=uW B.nd hm hle (L+1+(bg l 4 n).length) o.content acG
     refine jk (fun _ _=>Rp.ext (D4 _ _ _)) ?_
     refine cast ?_ this
     congr 1
     rw[O5,hL2,ae2 rfl,afB rfl]
     unfold fR
     rw[b_,b_,b_,fu,fu,h6,h5]
     simp[hk,ht,news]
   · have:=oi (o:=o) h (by omega)
     show(b.ins B.m (L+1+(bg l 4 n).length) o.content).fs.length=_∧_
     rw[sn];exact this
   refine⟨by simp[h.as.1],fun i hi=> ?_⟩
   rw[b_]
   by_cases e:i=n
   · subst e
     rw[aeA (by rw[h.as.1];omega),adv ⟨hk,ht⟩,adE]
   rw[aeH (aef e),ag8 (by omega),adN];exact h.as.2 i hi
 have hd:mj b o=(b.del B.m L).ins B.m L o.content:=by
   unfold mj;rw[ht,ag9,h1];simp only[H9,ag9,zG,rD];simp[hk]
 rw[hd]
 have Qy:=O3 B.nd L
 have Mx:=JQ B.nd L
 have Wu:(b.del B.m L).n0=b.n0:=pS _ _ _
 refine⟨ln h (o:=o) ((D5 B.nd hm _).trans (su Qy (by rw[Wu];exact hm) _ _)) B.m (fun i hi ff=>(yd Qy _ _ (by omega) ff).trans (O2 B.nd _ ff)) (pV B hy ht (by omega)) ?_ ?_ ?_,by rw[uV Qy,Mx]⟩
 · intro q' y' vF vH e1 e2
   obtain⟨rfl,rfl⟩:=kr B.hz vH
   rw[B.nd] at e1
   have e1:B.ks=vF:=by simp only[jl,Node.mk.injEq] at e1;exact e1.2.2.2.2
   subst e1
   refine⟨(B.ks.take L++B.ks.drop (L+1)).take L++aV (b.del B.m L).nodes.length o.content++(B.ks.take L++B.ks.drop (L+1)).drop L,(ye Qy _ _).trans ?_,?_⟩
   · rw[gI (.inr (by omega)),jW (.inr (by omega)),jX (.inr (by omega))]
   have pf:=JR B.nd hm L Qz
   have Dj:((B.A++news (bg l 3 n))++ .BI n::(news (bg l 4 n)++B.C)).take L=B.A++news (bg l 3 n):=by rw[hL];exact ae2 rfl
   have Sr:((B.A++news (bg l 3 n))++ .BI n::(news (bg l 4 n)++B.C)).drop (L+1)=news (bg l 4 n)++B.C:=by
     rw[←afv,hL,afB rfl];rfl
   rw[Dj,Sr] at pf
   have:=uW Qy (by rw[Wu];exact hm) (by rw[Wu,Mx];exact hle) L o.content (its:=(B.A++news (bg l 3 n))++(news (bg l 4 n)++B.C)) pf
   refine cast ?_ this
   congr 1
   rw[O5,hL,ae2 rfl,afB rfl]
   unfold fR
   rw[b_,b_,b_,fu,fu,h6,h5,H6 h6]
   simp[hk,ht,news]
 · have:=oi (o:=o) h (by omega)
   rw[sn,show(b.del B.m L).fs=b.fs by rw[del_eq B.nd];rfl];exact this
 have:=oj (o:=o) h (by omega)
 rw[sr,show(b.del B.m L).as=b.as by rw[del_eq B.nd];rfl];exact this
end

section
variable {t:Tree} {l:List Op} {b:Bn} {o:Op} {n:Nat} {q:Int} {y:Tree}
def O6 {l:List Op} {n:Nat} (h:gi l 6 n=true∨gi l 5 n=true):∀x∈fR l n,pU n x=false:=by
 intro x hx;unfold fR at hx;simp only[adD] at hx;rcases hx with(hx|hx)|hx
 ·exact ll n _ x hx
 ·split at hx
  ·exact ll n _ x hx
  rename_i h6;rw[adv (h.resolve_left h6)] at hx;simp at hx
 exact ll n _ x hx
def aaN (h:xr t l b) (h0:∀i q y,Sub 0 (-1) t i q y→y.text=true→y.kids=[]) (hy:Sub 0 (-1) t n q y) (hq:0≤q) (ht:o.target=(n:Int)) (hk:o.kind=5) :
   xr t (l++[o]) (mj b o)∧(mj b o).nodes.length=b.nodes.length:=by
 obtain⟨B,H9⟩:=beside h h0 hy hq
 obtain⟨ks,h1,-⟩:=h.nd n q y hy
 have hr:=hy.Jj
 have Uo:=y.dH
 have hr2:=B.hz.Jj
 have aaM:=B.z.dH
 have hn:n<b.n0:=by rw[h.n0];omega
 have hm:B.m<b.n0:=by rw[h.n0];omega
 have hle:=h.le
 have qX:=h.n0
 have zG:b.kd B.m=B.ks:=by rw[Bn.oe B.nd]
 by_cases vI:gi l 7 B.m=true∨gi l 6 n=true∨gi l 5 n=true
 · have hold:∀x∈fO l B.m B.z,pU n x=false:=by
     intro x hx
     by_cases h7:gi l 7 B.m=true
     · unfold fO at hx
       rw[B.zt,h7] at hx
       simp only[adQ,adS,adH,adr] at hx
       subst hx;rfl
     rw[B.items (by simpa using h7)] at hx
     simp only[adD] at hx
     rcases hx with(hx|hx)|hx
     · exact B.JT x hx
     · exact O6 (vI.resolve_left h7) x hx
     exact B.aaL x hx
   have rD:=Xl hn B.rp hold
   have hd:mj b o=b:=by
     unfold mj;rw[ht,ag9,h1];simp only[H9,ag9,zG,rD];simp[hk]
   rw[hd]
   refine⟨ln h (o:=o) (Ext.refl _) B.m (fun _ _ _=>rfl) (pV B hy ht (by omega)) ?_ (oi h (by omega)) (oj h (by omega)),rfl⟩
   intro q' y' vF vH e1 e2
   obtain⟨rfl,rfl⟩:=kr B.hz vH
   refine⟨vF,e1.trans ?_,?_⟩
   · rw[gI (.inr (by omega)),jW (.inr (by omega)),jX (.inr (by omega))]
   have:fO (l++[o]) B.m B.z=fO l B.m B.z:=by
     by_cases h7:gi l 7 B.m=true
     · unfold fO
       rw[B.zt,fu,h7,jW (.inr (by omega))]
       rfl
     rw[B.items (by simpa using h7),B.H8 (by simpa using h7) (by omega) (by omega) (by omega) ht]
     have vI:=vI.resolve_left h7
     congr 2
     unfold fR
     rw[b_,b_,b_,fu,fu]
     rcases vI with h6|h5
     · simp[hk,h6]
     simp[hk,h5]
   rw[this];exact e2
 have hv:gi l 7 B.m=false:=by simp at vI;exact vI.1
 have h6:gi l 6 n=false:=by simp at vI;exact vI.2.1
 have h5:gi l 5 n=false:=by simp at vI;exact vI.2.2
 have O4:fR l n=news (bg l 3 n)++ .BI n::news (bg l 4 n):=by unfold fR;rw[h6,h5];simp
 have Qz:gT (Rp b) B.ks ((B.A++news (bg l 3 n))++ .BI n::(news (bg l 4 n)++B.C)):=by
   have:=B.rp;rw[B.items hv,O4] at this
   simpa using this
 have hA:∀x∈B.A++news (bg l 3 n),pU n x=false:=by
   intro x hx
   rcases adD.1 hx with hx|hx
   · exact B.JT x hx
   exact ll n _ x hx
 obtain⟨rD,bO⟩:=D7 hn Qz hA
 obtain⟨L,hL⟩:∃L,L=(B.A++news (bg l 3 n)).length:=⟨_,rfl⟩
 rw[←hL] at rD bO
 have O5:=B.H8 (o:=o) hv (by omega) (by omega) (by omega) ht
 have hd:mj b o=b.del B.m L:=by
   unfold mj;rw[ht,ag9,h1];simp only[H9,ag9,zG,rD];simp[hk]
 rw[hd]
 refine⟨ln h (o:=o) (D5 B.nd hm _) B.m (fun i hi ff=>O2 B.nd _ ff) (pV B hy ht (by omega)) ?_ ?_ ?_,JQ B.nd _⟩
 · intro q' y' vF vH e1 e2
   obtain⟨rfl,rfl⟩:=kr B.hz vH
   rw[B.nd] at e1
   have e1:B.ks=vF:=by simp only[jl,Node.mk.injEq] at e1;exact e1.2.2.2.2
   subst e1
   refine⟨B.ks.take L++B.ks.drop (L+1),(O3 B.nd _).trans ?_,?_⟩
   · rw[gI (.inr (by omega)),jW (.inr (by omega)),jX (.inr (by omega))]
   have pf:=JR B.nd hm L Qz
   have Dj:((B.A++news (bg l 3 n))++ .BI n::(news (bg l 4 n)++B.C)).take L=B.A++news (bg l 3 n):=by rw[hL];exact ae2 rfl
   have Sr:((B.A++news (bg l 3 n))++ .BI n::(news (bg l 4 n)++B.C)).drop (L+1)=news (bg l 4 n)++B.C:=by
     rw[←afv,hL,afB rfl];rfl
   rw[Dj,Sr] at pf
   refine cast ?_ pf
   congr 1
   rw[O5]
   unfold fR
   rw[b_,b_,b_,fu,fu,h6,h5]
   simp[hk,ht]
 · have:=oi (o:=o) h (by omega)
   rw[show(b.del B.m L).fs=b.fs by rw[del_eq B.nd];rfl];exact this
 have:=oj (o:=o) h (by omega)
 rw[show(b.del B.m L).as=b.as by rw[del_eq B.nd];rfl];exact this
def aaO (h:xr t l b) (hy:Sub 0 (-1) t n q y) (ht:o.target=(n:Int)) (hk:o.kind=7):xr t (l++[o]) (mj b o)∧(mj b o).nodes.length≤b.nodes.length+1:=by
 obtain⟨ks,h1,h2⟩:=h.nd n q y hy;have hr:=hy.Jj;have Uo:=y.dH;have hn:n<b.n0:=by rw[h.n0];omega
 have hle:=h.le;have qX:=h.n0;have hd:mj b o=b.value n o.s:=by
  unfold mj;rw[ht,ag9,h1];simp[hk]
 rw[hd];unfold Bn.value;rw[h1];cases hT:y.text with
 |true=>
  simp only[adH];refine⟨ln h (o:=o) (oh _ hn _) n (fun i hi ff=>D6 _ ff) (pA ht (by omega)) ?_ (by exact oi (b:=b) (o:=o) h (by omega)) (by exact oj (b:=b) (o:=o) h (by omega)),by simp[Bn.set]⟩;intro q' y' vF vH e1 e2;obtain⟨rfl,rfl⟩:=kr hy vH;rw[h1] at e1;have e1:ks=vF:=by simp only[jl,Node.mk.injEq] at e1;exact e1.2.2.2.2
  subst e1;refine⟨ks,(se h1 _).trans ?_,?_⟩
  ·rw[gI (.inr (by omega))];simp[hT,uU,hk,ht]
  refine jk (fun _ _=>Rp.ext (oh _ hn _)) ?_;unfold fO at e2 ⊢;rw[hT] at e2 ⊢;exact e2
 |false=>
 simp only[adQ,adS];have hs:=se h1 (y:=({text:=false,s:=kD l n y.s,attrs:=en l n y.attrs,parent:=q,kids:=[]}:Node));refine⟨ln h (o:=o) ((oh _ hn _).trans (su hs hn _ _)) n (fun i hi ff=>(yd hs _ _ (by simp[Bn.set];omega) ff).trans (D6 _ ff)) (pA ht (by omega)) ?_ ?_ ?_,?_⟩
 ·intro q' y' vF vH e1 e2;obtain⟨rfl,rfl⟩:=kr hy vH;refine⟨([]:List Int).take 0++aV (b.set n ({text:=false,s:=kD l n y.s,attrs:=en l n y.attrs,parent:=q,kids:=[]}:Node)).nodes.length [LG o.s]++([]:List Int).drop 0,(ye hs _ _).trans ?_,?_⟩
  ·rw[gI (.inr (by omega)),hT,jX (.inr (by omega))];rfl
  have:=uW hs hn (by simp[Bn.set];exact hle) 0 [LG o.s] (its:=[]) .nil;refine cast ?_ this;congr 1;unfold fO;rw[hT,fu,uU];simp[hk,ht,news]
 ·have:=oi (o:=o) h (by omega);rw[sn];exact this
 ·have:=oj (o:=o) h (by omega);rw[sr];exact this
 rw[uV hs];simp[Bn.set,bC,LG,Tree.fI]
def aaP (h:xr t l b) (hy:Sub 0 (-1) t n q y) (ht:o.target=(n:Int)) (hk:o.kind=8) (hT:y.text=false):xr t (l++[o]) (mj b o)∧(mj b o).nodes.length=b.nodes.length:=by
 obtain⟨ks,h1,h2⟩:=h.nd n q y hy;have hr:=hy.Jj;have Uo:=y.dH;have hn:n<b.n0:=by rw[h.n0];omega
 have hd:mj b o=b.name n o.name:=by
  unfold mj;rw[ht,ag9,h1];simp[hk]
 rw[hd];unfold Bn.name;rw[h1];refine⟨ln h (o:=o) (oh _ hn _) n (fun i hi ff=>D6 _ ff) (pA ht (by omega)) ?_ (by exact oi (b:=b) (o:=o) h (by omega)) (by exact oj (b:=b) (o:=o) h (by omega)),by simp[Bn.set]⟩;intro q' y' vF vH e1 e2;obtain⟨rfl,rfl⟩:=kr hy vH;rw[h1] at e1;have e1:ks=vF:=by simp only[jl,Node.mk.injEq] at e1;exact e1.2.2.2.2
 subst e1;refine⟨ks,(se h1 _).trans ?_,?_⟩
 ·rw[gI (.inr (by omega))];simp[hT,C0,hk,ht]
 rw[uX (.inr (by omega)) fun k _=> .inr (by omega)];exact jk (fun _ _=>Rp.ext (oh _ hn _)) e2
def aaQ (h:xr t l b) (hy:Sub 0 (-1) t n q y) (ht:o.target=(n:Int)) (hk:o.kind=9∨o.kind=10):xr t (l++[o]) (mj b o)∧(mj b o).nodes.length=b.nodes.length:=by
 obtain⟨ks,h1,h2⟩:=h.nd n q y hy;have hr:=hy.Jj;have Uo:=y.dH;have hn:n<b.n0:=by rw[h.n0];omega
 have hd:mj b o=b.attr n o:=by
  unfold mj;rw[ht,ag9,h1];rcases hk with hk|hk<;>simp[hk]
 rw[hd];unfold Bn.attr;rw[h1];refine⟨ln h (o:=o) (oh _ hn _) n (fun i hi ff=>D6 _ ff) (pA ht (by omega)) ?_ (by exact oi (b:=b) (o:=o) h (by omega)) (by exact oj (b:=b) (o:=o) h (by omega)),by simp[Bn.set]⟩;intro q' y' vF vH e1 e2;obtain⟨rfl,rfl⟩:=kr hy vH;rw[h1] at e1;have e1:ks=vF:=by simp only[jl,Node.mk.injEq] at e1;exact e1.2.2.2.2
 subst e1;refine⟨ks,(se h1 _).trans ?_,?_⟩
 ·rw[jW (.inr (by omega)),jX (.inr (by omega)),yX,o6];simp[ht,hk]
 rw[uX (.inr (by omega)) fun k _=> .inr (by omega)];exact jk (fun _ _=>Rp.ext (oh _ hn _)) e2
def LJ (t:Tree) (h0:∀i q y,Sub 0 (-1) t i q y→y.text=true→y.kids=[]):xr t [] ⟨t.fI,aK t,List.replicate t.fI 0,List.replicate t.fI 0⟩ where
 n0:=rfl
 le:=by rw[jU];exact adw _
 nd i q y hy:=by
  refine⟨aV (i+1) y.kids,?_,?_⟩
  ·have:=(hy.AA (aK t) ⟨[],by simp[aK]⟩).node;simp only at this ⊢;rw[this];simp[Tree.node,j6,kD,zq,en]
  have hK:∀k,fR [] k=[.BI k]:=fun k=>by simp[fR,bg,gi,zq,news]
  unfold fO;cases hT:y.text with
  |true=>rw[h0 i q y hy hT];exact .nil
  |false=>
  simp only[adQ,adS,gi,zq,afo,List.isEmpty_nil,adL,bg,afG,news,aeW,aec,adN];have:∀(off:Nat) (xs:List Tree) (b:Bn),gT (Rp b) (aV off xs) ((cO off xs).flatMap (fR [])):=by
   intro off xs b;induction xs generalizing off with
   |nil=>exact .nil
   |cons x r ih=>simp only[aV,cO,aeK,hK,afS];exact .cons rfl (ih _)
  exact this _ _ _
 fs:=by
  refine⟨by simp,fun i hi=> ?_⟩;simp[hi,bg,zq]
 as:=by
  refine⟨by simp,fun i hi=> ?_⟩;simp[hi,bg,zq]
end

mutual
def Tree.rep (d:Doc) (n:Nat):Tree→Prop
 | .mk t s as ks=>∃p kd,d[n]?=some ⟨t,s,as,p,kd⟩∧tY d kd ks
def tY (d:Doc):List Int→List Tree→Prop
 |[],[]=>True
 |k::r,x::xs=>(∃m:Nat,k=m∧x.rep d m)∧tY d r xs
 |[],_::_=>False
 |_::_,[]=>False
end
theorem F3 {d:Doc}:∀{ks:List Int} {xs:List Tree},tY d ks xs→ks.length=xs.length
 |[],[],_=>rfl
 |k::r,x::xs,h=>by simp only[tY] at h;simp[F3 h.2]
 |[],_::_,h=>by simp[tY] at h
 |_::_,[],h=>by simp[tY] at h
theorem F4 {d:Doc}:∀{ks:List Int} {xs:List Tree},tY d ks xs→∀{i:Nat} {x:Tree},xs[i]?=some x→∃m:Nat,ks[i]?=some (m:Int)∧x.rep d m
 |[],[],_,i,x,hx=>by simp at hx
 |k::r,y::xs,h,0,x,hx=>by
  simp only[tY] at h;obtain⟨⟨m,rfl,hm⟩,_⟩:=h;simp at hx;subst hx;exact⟨m,rfl,hm⟩
 |k::r,y::xs,h,i+1,x,hx=>by
  simp only[tY] at h;obtain⟨m,h1,h2⟩:=F4 h.2 (i:=i) (x:=x) (by simpa using hx);exact⟨m,by simpa using h1,h2⟩
 |[],_::_,h,i,x,hx=>by simp[tY] at h
 |_::_,[],h,i,x,hx=>by simp[tY] at h
def pX (d:Doc) (fs as:List Int):AV:= .lptr [.list (d.map Node.iv),.list (fs.map aW),.list (as.map aW)]
section
variable {P:Program} {G:Nat→Option (List IV)}
def gD (aQ:Nat):AC:=
(ay [aE 4 (.new [(.bool false),(.str []),.nil0,.nil0])] (ay [af 9 0,aE 10 (.dc (.t 9)),b7 11 10 0,cS 12 11,af 13 1,ig 14 12 13 5,gd 15 5 14,aE 5 (.new [(.bool false),(.str []),.nil0,(.int .i64 0),.nil0]),dT (.store 5 (.t 5) (.t 15))] (ay [b7 16 5 0,cS 17 16,b7 18 5 1,cS 19 18,b7 20 5 2,cS 21 20,aE 22 (.oa [(.bool false),(.str []),.nil0,.nil0] [(0,(1,(.t 17))),(1,(1,(.t 19))),(2,(1,(.t 21)))]),aE 6 (.new [(.bool false),(.str []),.nil0,.nil0]),dT (.store 4 (.t 6) (.t 22))] (.seq (.gh .xD (ay [b7 23 5 4,cS 24 23,ky 25 24,eX 26 0] (.block 0 (.loop (ay [eS 27 .lss 26 25] (.seq (.cond (.t 27) .skip (.exit 0)) (.seq (.block 1 (ay [ig 28 24 26 1,cS 29 28,af 8 29] (.fg [b7 30 6 3,cS 31 30,af 32 0,af 33 8,aE 34 (.call aQ [(.t 32),(.t 33)]),aE 35 (.lits 1 4 [(.bool false),(.str []),.nil0,.nil0] [(0,(.t 34))]),aE 36 (.app (.t 31) (.t 35) 4 72),b7 37 6 3,dT (.store 1 (.t 37) (.t 36))] [[],[0],[],[],[2,3],[4],[1,5,4],[0,1,2,3,4,5,6],[7,6,6,0,1,2,3,4,5,6]] [.no,.rw [.loc 6] [],.no,.no,.no,.no,(.rw [] [(.loc 50),(.loc 36)]),.no,.rw [] [.loc 6]]))) (.ec [db 38 .add 26 1,af 26 38])))))))) (.gh (.Ha (.loc 50) (.loc 6) 3) (ay [gd 39 4 6,dT (.store 4 (.t 4) (.t 39))] .ret))))))
def SF {aQ:Nat} (hF:an P G aQ=some (40,[((some (some 4)),4)],(gD aQ).bare)) (d:Doc) (fs as:List Int) (hd:d.length≤B) (n:Nat) (x:Tree) (hL:x.rep d n) (hx:x.wt≤B)
  (hK:∀k∈x.kids,∀(m:Nat),k.rep d m→aw P G aQ [pX d fs as,.int .i64 m] k.av):aw P G aQ [pX d fs as,.int .i64 n] x.av:=by
 refine iC hF (by simp) (by simp[ah,AV.aB,pX]) (by simp[AV.aB,Tree.av,ah]) ?_;obtain⟨tt,ss,aa,kk⟩:=x;simp only[Tree.rep] at hL;obtain⟨p,kd,yD,Up⟩:=hL;have bO:=(ag6.1 yD).1;have hwx:=(Tree.mk tt ss aa kk).kZ;simp only[Tree.kids,Tree.s,Tree.attrs] at hwx;have G4:=jr kk;have BF:=F3 Up;have Xo:(d.map Node.iv)[n]?=some (⟨tt,ss,aa,p,kd⟩:Node).iv:=by rw[adX,yD];rfl
 unfold gD;simp only[↓aX,mX,seval,pX,ag5,Xo,tl,Node.bw,Node.cs];rw[rS];refine⟨_,_,tn (q:= .loc 6) (cs:=[.bool tt,.str ss,.list (dA aa),.nil0]) (j:=3) (d:=50) (sz:=4) rfl rfl (by simp[ae,Hp.none]) (by decide),?_⟩;simp only[↓aX,mX,seval];refine jj (σ:={i:Nat // i≤kk.length}) (fun _=>[.loc 4,.loc 6,.loc 50]) (fun _ _=>false)
  (fun q=>[(0,pX d fs as),(4,.ptr (.loc 4) 4 0 0),(6,.ptr (.loc 6) 4 0 0),(24,.list (kd.map aW)),(25,.int .i64 kk.length),(26,.int .i64 q.1)])
  (fun q=>[(.loc 4,⟨4,[[.bool false,.str [],.nil0,.nil0]]⟩),(.loc 6,⟨4,[[.bool tt,.str ss,.list (dA aa),.sl (.loc 50) 4 0 q.1]]⟩),(.loc 50,⟨4,ar (eR (kk.take q.1))⟩)])
  (fun q=>kk.length - q.1) ⟨0,ad3 _⟩ (fun _=>rfl) (fun q=>by simp[ah,AV.aB,pX]) ?_ ⟨[],?_⟩ ?_
 ·rintro q r hr cs bS l hl;simp only[adz,adG,adO] at hr;rcases hr with rfl|rfl|rfl
  ·simp only[adr] at bS;subst bS;simp[ah,AV.aB] at hl
  ·simp only[adr] at bS;subst bS;simp[ah,AV.aB] at hl;subst hl;simp
  rw[bT bS] at hl;simp at hl
 ·refine⟨?_,?_,?_,by simp[bZ],fun l _=>⟨id,fun _=>rfl⟩⟩
  ·intro l hf hu;exfalso;apply hu;cases l<;>simp_all[Lb.fresh,ae,Hp.none]
  ·simp[kv,bZ,e7,put,BF,pX,lE]
  simp[qe,bZ,ae,cV,aY,e7,ar,eR]
 rintro⟨i,hi⟩;rw[vt];simp only[↓aX,mX,seval,ed,dk];by_cases bO:i<kk.length
 ·rw[show decide ((i:Int)<(kk.length:Int))=true by simpa using bO];obtain⟨k,vo⟩:∃k,kk[i]?=some k:=⟨_,ag7 bO⟩;have hw:IntKind.i64.wrap ((i:Int)+1)=((i+1:Nat):Int):=wrap64 (by omega) (by unfold B at hx;omega);obtain⟨m,hg,hm⟩:=F4 Up vo;simp only[↓aX,mX,seval,xT,hg,rj,ag5,adB,aW,IV.cells];have hkm:=adu vo;have Yn:(eR (kk.take i)).length=i:=by rw[bx,adP];omega
  have TC:eR (kk.take (i+1))=eR (kk.take i)++[.agg [.bool k.text,.str k.s,.list (dA k.attrs),.list (eR k.kids)]]:=by rw[iP vo,DF];simp[eR,Tree.Cl,Tree.cs]
  refine⟨rfl,gJ (hK k hkm m hm) ?_⟩;simp only[↓aX,mX,seval,Tree.av];rw[gU 4 72 36 50 (eR (kk.take i)) (.agg [.bool k.text,.str k.s,.list (dA k.attrs),.list (eR k.kids)]) (by simp[ae]) Yn rfl (by simp[IV.cells]) (by unfold B at hx;omega) (by decide) (by decide) (by simp[ae,Hp.none])];simp only[↓aX,mX,seval,hw];refine⟨by rintro l (rfl|rfl)<;>simp[Lb.kQ],?_⟩;refine⟨⟨i+1,bO⟩,by simp only;omega,[(.loc 50,.loc 36)],?_⟩;refine⟨?_,?_,?_,by simp[bZ],?_⟩
  ·intro l hf hu;exfalso;apply hu;cases l<;>simp_all[Lb.fresh,ae,Hp.none]
  ·simp[kv,bZ,e7,put,pX,qc]
  ·have hr:∀xs:List IV,cV (bZ [(.loc 50,.loc 36)]) ⟨4,ar xs⟩=⟨4,ar xs⟩:=fun xs=>b5 _ _ _;simp[qe,bZ,ae,cV,aY,e7,TC];simp[ar,pJ]
  intro l hl;simp only[adz,adG,adO] at hl;rcases hl with rfl|rfl|rfl
  ·exact⟨fun _=>rfl,fun _=>rfl⟩
  ·exact⟨fun _=>rfl,fun _=>rfl⟩
  exact⟨fun _=>rfl,fun h=>by simp[Lb.fresh] at h⟩
 have qV:i=kk.length:=by omega
 subst qV;rw[show decide ((kk.length:Int)<(kk.length:Int))=false by simp];simp only[↓aX,mX,seval,aee];refine⟨4,eR kk,0,kk.length,[.bool tt,.str ss,.list (dA aa),.sl (.loc 50) 4 0 kk.length],rfl,rfl,rfl,by simp,by rw[bx];omega,Cm _,?_⟩;simp only[↓aX,mX,seval,ad1,ads (show(eR kk).length≤kk.length by rw[bx];exact adw _)];rfl
theorem O7 {aQ:Nat} (hF:an P G aQ=some (40,[((some (some 4)),4)],(gD aQ).bare)) (d:Doc) (fs as:List Int) (hd:d.length≤B):∀(m:Nat) (x:Tree),x.fI≤m→∀(n:Nat),x.rep d n→x.wt≤B→aw P G aQ [pX d fs as,.int .i64 n] x.av
 |0,x,h,_,_,_=>by have:=x.dH;omega
 |m+1,x,h,n,hL,hx=>by
  have hw:=x.kZ;refine SF hF d fs as hd n x hL hx fun k hk n' hr=> ?_;have h1:=Be hk;obtain⟨i,hi⟩:=aeh hk;have h2:=o8 _ _ _ hi;exact O7 hF d fs as hd m k (by rw[x.kc] at h;omega) n' hr (by omega)
end

mutual
theorem mf.rep {d:Doc}:∀(x:Tree) (n:Nat) (q:Int),mf d n q x→x.rep d n
 | .mk t s as ks,n,q,h=>by
  simp only[Tree.rep];exact⟨q,aV (n+1) ks,h.node,C3 n q (.mk t s as ks) h ks [] (by rfl)⟩
theorem C3 {d:Doc} (n:Nat) (q:Int) (x:Tree) (h:mf d n q x):∀(ks pre:List Tree),x.kids=pre++ks→tY d (aV (n+1+bC pre) ks) ks
 |[],_,_=>by simp[aV,tY]
 |k::r,pre,e=>by
  simp only[aV,tY];refine⟨⟨_,rfl,mf.rep k _ _ (h.BS pre r k e)⟩,?_⟩;have:=C3 n q x h r (pre++[k]) (by rw[e];simp);rw[jt] at this;simpa[bC,aer] using this
end
def Rt (d:Doc):H7→Tree→Prop
 | .BI k,x=>x.rep d k
 | .new t,x=>x=t
theorem JU {b:Bn}:∀{ks:List Int} {its:List H7} {xs:List Tree},gT (Rp b) ks its→gT (Rt b.nodes) its xs→tY b.nodes ks xs
 |_,_,_,.nil,.nil=>by simp[tY]
 |_,_,_,.cons (b:=i) h1 h2,.cons (b:=x) g1 g2=>by
  simp only[tY];refine⟨?_,JU h2 g2⟩;cases i with
  |BI j=>exact⟨j,h1,g1⟩
  |new t=>
  obtain⟨m,e,_,q,hl⟩:=h1;have g1:x=t:=g1;subst g1;exact⟨m,e,mf.rep _ _ _ hl⟩
theorem uY (d:Doc):∀L:List Tree,gT (Rt d) (news L) L
 |[]=> .nil
 |x::r=>by simp only[news,ad5];exact .cons rfl (uY d r)
def Xp {d:Doc} {l:List Op} {k:Nat} {x:Tree} (h:(x.iW l k).rep d k):gT (Rt d) (fR l k) (x.rC l k):=by
 rw[Tree.JO];unfold fR;refine nu (nu (uY d _) ?_) (uY d _);split
 ·exact uY d _
 split
 ·exact .nil
 exact .cons h .nil
theorem JV {d:Doc} {l:List Op}:∀(off:Nat) (ks:List Tree),(∀a x c,ks=a++x::c→(x.iW l (off+bC a)).rep d (off+bC a))→gT (Rt d) ((cO off ks).flatMap (fR l)) (turns l off ks)
 |_,[],_=>by simp[cO,turns];exact .nil
 |off,x::r,h=>by
  simp only[cO,turns,aeK];refine nu (Xp (by simpa[bC] using h [] x r rfl)) (JV _ r fun a z c e=> ?_);have:=h (x::a) z c (by rw[e];rfl);simp only[bC] at this;rw[aer];exact this
theorem xr.rep {t:Tree} {l:List Op} {b:Bn} (h:xr t l b):∀(m i:Nat) (q:Int) (y:Tree),y.fI≤m→Sub 0 (-1) t i q y→(y.iW l i).rep b.nodes i
 |0,_,_,y,hm,_=>by have:=y.dH;omega
 |m+1,i,q,y,hm,hy=>by
  obtain⟨ks,h1,h2⟩:=h.nd i q y hy;unfold Tree.iW;simp only[Tree.rep];refine⟨q,ks,h1,JU h2 ?_⟩;unfold fO;split
  ·exact .nil
  split
  ·exact .cons rfl .nil
  refine nu (nu (uY _ _) (JV _ _ fun a x c e=> ?_)) (uY _ _);have hc:=y.kc;rw[e,jt] at hc;simp only[bC] at hc;exact xr.rep h m _ i x (by omega) (hy.trans (.BS a c x e (.self _ _ _)))
def LK (n:Nat) (o:Op):Bool:=decide (o.target=(n:Int)∧(o.kind=9∨o.kind=10))
def C4 (l:List Op) (n:Nat) (as:List Attr):en l n as=(l.filter (LK n)).foldl lS as:=by
 unfold en;induction l generalizing as with
 |nil=>rfl
 |cons o r ih=>
 rw[aeP,ih,aeo];by_cases h:o.target=(n:Int)∧(o.kind=9∨o.kind=10)
 ·rw[adv (by simp[LK,h]),aeP,o6,adv h]
 rw[ag8 (by simpa[LK] using h),o6,ag8 h]
structure Alike (l l':List Op):Prop where
 k:∀k n,zq l' k n=zq l k n
 a:∀n,l'.filter (LK n)=l.filter (LK n)
section
variable {l l':List Op} (h:Alike l l')
include h
def Alike.bg (k:Int) (n:Nat):bg l' k n=Am.bg l k n:=by unfold Am.bg;rw[h.k]
def Alike.gi (k:Int) (n:Nat):gi l' k n=Am.gi l k n:=by unfold Am.gi;rw[h.k]
def Alike.j6 (n:Nat) (s:Bs):j6 l' n s=Am.j6 l n s:=by unfold Am.j6;rw[h.k]
def Alike.kD (n:Nat) (s:Bs):kD l' n s=Am.kD l n s:=by unfold Am.kD;rw[h.k]
def Alike.en (n:Nat) (as:List Attr):en l' n as=Am.en l n as:=by rw[C4,C4,h.a]
end
mutual
theorem Alike.rC {l l':List Op} (h:Alike l l'):∀(x:Tree) (off:Nat),x.rC l' off=x.rC l off
 | .mk t s as ks,off=>by simp only[Tree.rC,h.bg,h.gi,h.j6,h.kD,h.en,Alike.turns h ks (off+1)]
theorem Alike.turns {l l':List Op} (h:Alike l l'):∀(xs:List Tree) (off:Nat),turns l' off xs=turns l off xs
 |[],_=>by simp[Am.turns]
 |x::r,off=>by simp only[Am.turns,Alike.rC h x off,Alike.turns h r (off+x.fI)]
end
def Alike.iW {l l':List Op} (h:Alike l l') (x:Tree) (off:Nat):x.iW l' off=x.iW l off:=by
 unfold Tree.iW;simp only[h.bg,h.gi,h.j6,h.kD,h.en,h.turns]
def rE (ph:Op→Int) (l:List Op):Nat→List Op
 |0=>[]
 |p+1=>rE ph l p++l.filter fun o=>ph o==(p:Int)
def gO (ph:Op→Int) (l:List Op) (p i:Nat):List Op:=rE ph l p++(l.take i).filter fun o=>ph o==(p:Int)
def F5 (ph:Op→Int) (l:List Op) (p:Nat):gO ph l (p+1) 0=gO ph l p l.length:=by simp[gO,rE]
def F6 {ph:Op→Int} {l:List Op} {p i:Nat} {o:Op} (ho:l[i]?=some o) (h:ph o≠(p:Int)):gO ph l p (i+1)=gO ph l p i:=by
 unfold gO;rw[iP ho,aeO,afI (by simpa using h)];simp
def yf {ph:Op→Int} {l:List Op} {p i:Nat} {o:Op} (ho:l[i]?=some o) (h:ph o=(p:Int)):gO ph l p (i+1)=gO ph l p i++[o]:=by
 unfold gO;rw[iP ho,aeO,agA (by simpa using h)];simp
def Bh (ph:Op→Int) (l:List Op) (p i:Nat):∃r,rE ph l (p+1)=gO ph l p i++r:=by
 refine⟨(l.drop i).filter fun o=>ph o==(p:Int),?_⟩;unfold gO;rw[rE,adV,←aeO,ad0]
theorem xh {ph:Op→Int} {l:List Op}:∀{p:Nat} {o:Op},o∈rE ph l p→o∈l∧ph o<(p:Int)
 |0,o,h=>by simp[rE] at h
 |p+1,o,h=>by
  simp only[rE,adD,aey,aep] at h;rcases h with h|⟨h,e⟩
  ·obtain⟨h1,h2⟩:=xh h;exact⟨h1,by omega⟩
  exact⟨h,by omega⟩
theorem yZ (ph:Op→Int) (l:List Op):∀p:Nat,(rE ph l p).Pairwise fun a b=>ph a≤ph b
 |0=>by simp[rE]
 |p+1=>by
  rw[rE,ae4];refine⟨yZ ph l p,?_,fun a ha b hb=> ?_⟩
  ·refine List.Pairwise.imp_of_mem (R:=fun _ _=>True) (fun {a b} ha hb _=> ?_) (List.pairwise_of_forall fun _ _=>trivial);simp only[aey,aep] at ha hb;omega
  have:=(xh ha).2;simp only[aey,aep] at hb;omega
theorem yg (ph:Op→Int) (l:List Op) (h0:∀o∈l,0≤ph o):∀p:Nat,(rE ph l p).Perm (l.filter fun o=>decide (ph o<(p:Int)))
 |0=>by
  rw[show(l.filter fun o=>decide (ph o<((0:Nat):Int)))=[] from aeI.2 fun o ho=>by have:=h0 o ho;simp;omega];exact .refl _
 |p+1=>by
  rw[rE];have h1:=List.filter_append_perm (fun o=>decide (ph o<(p:Int))) (l.filter fun o=>decide (ph o<((p+1:Nat):Int)));rw[agk,agk] at h1;refine((yg ph l h0 p).append_right _).trans (.trans (.of_eq ?_) h1);congr 1
  ·refine agp fun o _=> ?_;by_cases h:ph o<(p:Int)
   ·simp[h];omega
   simp[h]
  refine agp fun o _=> ?_;rw[aeG];simp only[aep,ady,aeT,aeV,adM];omega
theorem tZ {ph:Op→Int} {l:List Op} (c:Op→Bool) (P:Int) (hc:∀o∈l,c o=true→ph o=P):∀p:Nat,(rE ph l p).filter c=if 0≤P∧P<(p:Int) then l.filter c else []
 |0=>by simp[rE];omega
 |p+1=>by
  rw[rE,aeO,tZ c P hc p,agk];by_cases h1:P=(p:Int)
  ·rw[ag8 (by omega),adv (by omega),aec];refine agp fun o ho=> ?_;cases hco:c o with
   |false=>rfl
   |true=>simp[hc o ho hco,h1]
  have:(l.filter fun o=>c o&&(ph o==(p:Int)))=[]:=by
   rw[aeI];intro o ho h;simp only[ady,aep] at h;exact h1 ((hc o ho h.1).symm.trans h.2)
  rw[this,adN];by_cases h2:0≤P∧P<(p:Int)
  ·rw[adv h2,adv (by omega)]
  rw[ag8 h2,ag8 (by omega)]

def kC (k:Int):Bool:=decide (k≤4)||k==6
def kN (k:Int):Bool:=decide (8≤k)
def kT (k:Int):Bool:=k==7||k==9
def kB (k:Int):Bool:=decide (3≤k)&&decide (k≤6)
def sv (x:Node) (o:Op):Int:=
 if(if kC o.kind then !content o.content else decide ((o.content.length:Int)>0)) then 1
 else if(if kN o.kind then !named o.name else o.name !=[]) then 1
 else if(if kT o.kind then !plain o.s else o.s !=[]) then 1
 else if kB o.kind&&decide (x.parent<0) then 6
 else if x.text&&(!kB o.kind&&o.kind !=7) then 4 else 0
def tQ:=And.intro @ge_iff_le.{0} (And.intro @gt_iff_lt.{0} (And.intro aeB (And.intro aeL (And.intro @bx (And.intro Op.av.eq_1 (And.intro Node.av.eq_1 (And.intro @List.length_cons.{0} (And.intro @List.length_nil.{0} (And.intro adL adI)))))))))
def lr (cj dU dV:Nat):AC:=
(ay [oN 2 0,oN 3 1,eX 4 0] (ay [b7 9 3 0,cS 10 9,db 11 .leq 10 4,af 12 11,j3 13 12 3 0,jP 14 12 13,hQ 15 12 (.bin .eql (.t 14) (ij 6)),nC 16 12 15,af 5 16] (ay [b7 17 3 0,cS 18 17,db 19 .geq 18 8,af 6 19] (ay [b7 20 3 0,cS 21 20,db 22 .eql 21 7,af 23 22,j3 24 23 3 0,jP 25 23 24,hQ 26 23 (.bin .eql (.t 25) (ij 9)),nC 27 23 26,af 7 27] (ay [b7 28 3 0,cS 29 28,db 30 .geq 29 3,af 31 30,iu 32 31 3 0,ir 33 31 32,eP 34 31 (.bin .leq (.t 33) (ij 6)),l7 35 31 34,af 8 35] (.seq (.block 0 (ay [af 37 5,af 38 37,iu 39 38 3 2,ir 40 38 39,eP 41 38 (.call cj [(.t 40)]),eP 42 38 (.not (.t 41)),l7 43 38 42,af 44 43,gj 45 44 5,hQ 46 44 (.not (.t 45)),gj 47 44 46,iu 48 47 3 2,ir 49 47 48,eP 50 47 (.len (.t 49)),eP 51 47 (.bin .gtr (.t 50) (ij 0)),hQ 52 44 (.pick (.t 47) (.t 51) (vC false)),nC 53 44 52,af 36 53] (.cond (.t 36) (ay [eX 4 1] .ret) (ay [af 55 6,af 56 55,iu 57 56 3 3,ir 58 56 57,eP 59 56 (.call dU [(.t 58)]),eP 60 56 (.not (.t 59)),l7 61 56 60,af 62 61,gj 63 62 6,hQ 64 62 (.not (.t 63)),gj 65 62 64,iu 66 65 3 3,ir 67 65 66,eP 68 65 (.bin .neq (.t 67) (.c (.str []))),hQ 69 62 (.pick (.t 65) (.t 68) (vC false)),nC 70 62 69,af 54 70] (.cond (.t 54) (ay [eX 4 1] .ret) (ay [af 72 7,af 73 72,iu 74 73 3 4,ir 75 73 74,eP 76 73 (.call dV [(.t 75)]),eP 77 73 (.not (.t 76)),l7 78 73 77,af 79 78,gj 80 79 7,hQ 81 79 (.not (.t 80)),gj 82 79 81,iu 83 82 3 4,ir 84 82 83,eP 85 82 (.bin .neq (.t 84) (.c (.str []))),hQ 86 79 (.pick (.t 82) (.t 85) (vC false)),nC 87 79 86,af 71 87] (.cond (.t 71) (ay [eX 4 1] .ret) (ay [af 89 8,af 90 89,iu 91 90 2 3,ir 92 90 91,eP 93 90 (.bin .lss (.t 92) (ij 0)),l7 94 90 93,af 88 94] (.cond (.t 88) (ay [eX 4 6] .ret) (ay [b7 96 2 0,cS 97 96,af 98 97,eJ 99 98 8,eP 100 98 (.not (.t 99)),l7 101 98 100,af 102 101,iu 103 102 3 0,ir 104 102 103,eP 105 102 (.bin .neq (.t 104) (ij 7)),l7 106 102 105,af 95 106] (.cond (.t 95) (ay [eX 4 4] .ret) .skip))))))))))) (ay [eX 4 0] .ret)))))))
set_option maxHeartbeats 4000000 in
def SG {P:Program} {G:Nat→Option (List IV)} {dK cj dU dV:Nat} (hF:an P G dK=some (107,[(none,4)],(lr cj dU dV).bare)) (x:Node) (k ta:Int) (co:List Tree) (na st:Bs)
  (hC:aw P G cj [.list (eR co)] (.bool (content co))) (hN:aw P G dU [.str na] (.bool (named na))) (hP:aw P G dV [.str st] (.bool (plain st)))
  (hk:k=1∨k=2∨k=3∨k=4∨k=5∨k=6∨k=7∨k=8∨k=9∨k=10) :
  aw P G dK [x.av,(⟨k,ta,co,na,st⟩:Op).av] (.int .i64 (sv x ⟨k,ta,co,na,st⟩)):=by
 refine aM hF (by simp) (by simp[ah,AV.aB,Op.av,Node.av]) (by simp[AV.aB]) ?_;unfold lr;clear hF;rcases hk with rfl|rfl|rfl|rfl|rfl|rfl|rfl|rfl|rfl|rfl
 all_goals
  simp only[↓aX,mX,seval,Int.reduceBEq,Int.reduceBNe,tQ]
  repeat' (first
   |(refine aq hC ?_;simp only[↓aX,mX,seval,Int.reduceBEq,Int.reduceBNe,tQ])
   |(refine aq hN ?_;simp only[↓aX,mX,seval,Int.reduceBEq,Int.reduceBNe,tQ])
   |(refine aq hP ?_;simp only[↓aX,mX,seval,Int.reduceBEq,Int.reduceBNe,tQ])
   |(refine qG (fun h=> ?_) (fun h=> ?_)<;>try simp only[h,↓aX,mX,seval,Int.reduceBEq,Int.reduceBNe,tQ])
   |(refine ZC (fun h=> ?_) (fun h=> ?_)<;>try simp only[h,↓aX,mX,seval,Int.reduceBEq,Int.reduceBNe,tQ]))
  all_goals simp_all[sv,kC,kN,kT,kB]
def Xq {P:Program} {G:Nat→Option (List IV)} {dK cj dU dV:Nat} (hF:an P G dK=some (107,[(none,4)],(lr cj dU dV).bare)) (x:Node) (o:Op) (h1:1≤o.kind) (h2:o.kind≤10)
  (hC:aw P G cj [.list (eR o.content)] (.bool (content o.content))) (hN:aw P G dU [.str o.name] (.bool (named o.name))) (hP:aw P G dV [.str o.s] (.bool (plain o.s))) :
  aw P G dK [x.av,o.av] (.int .i64 (sv x o)):=by
 obtain⟨k,ta,co,na,st⟩:=o;simp only at h1 h2 hC hN hP;have h:k=1∨k=2∨k=3∨k=4∨k=5∨k=6∨k=7∨k=8∨k=9∨k=10:=by omega
 exact SG hF x k ta co na st hC hN hP h

section
variable {K:Kx} {β:Lb→Option Nat} {env:Env} {H:Hp} {a:Act} {w:World}
def SH (hr:bu K β env H a w) {l:Lb} {sz:Nat} {y:IV} {v:Value} (hl:H l= .live ⟨sz,ar [y]⟩) (hf:l.fresh=true) (B_:Flat [y])
  (hv:RV w β H (Im K β H) (.ptr l sz 0 0) v):RV w β (bF H l .dead) (Im K β (bF H l .dead)) (.lptr y.cells) v:=by
 have bo:∀q,live (bF H l .dead) q→live H q∧q≠l:=by
  rintro q ⟨r,h⟩;by_cases e:q=l
  ·subst e;simp at h
  rw[ax _ _ e] at h;exact⟨⟨r,h⟩,e⟩
 have hk:mV w w (Im K β H) (Im K β (bF H l .dead)):=⟨fun k hk hs=>⟨⟨hk.1,fun q hq=>hk.2 q (bo q hq).1⟩,hs,rfl⟩⟩;simp only[RV] at hv;obtain⟨ad,rfl,h5⟩:=hv;obtain⟨g,e1,e2⟩:=h5 ⟨_,hl⟩;simp only[afl,ae0] at e2;obtain⟨cur,e0,cap,k1,k2,k3,k4,k5⟩:=(hr.rows l _ hl).block e1;have TD:Im K β (bF H l .dead) g:=⟨.inr (hr.fr l g ⟨_,hl⟩ hf e1),fun q hq hb=>(bo q hq).2 (hr.inj q l g (bo q hq).1 ⟨_,hl⟩ hb e1)⟩;simp only[RV];refine⟨g,0,by rw[e2],TD,(aed.1 k1).1,nS _ _ _ (fun j z hz=> ?_)⟩;obtain⟨u,q1,q2⟩:=k5 0 j (y.cells.map IV.gK) z.gK (by simp[ar]) (by simp[hz]);refine⟨u,?_,z_ hk (B_ y (by simp) z (adu hz)) q2⟩;rw[cell_of_row w g _ cur e0 (0,0) k1,←q1];congr 1;omega
end
def y5 {S:St} {env:Env} {H:Hp} {l:Lb} {sz d:Nat} {y:IV} (hd:env d= .ptr l sz 0 0) (hl:H l= .live ⟨sz,ar [y]⟩) (hf:l.fresh=true) (B_:Flat [y]) :
  nb S env H (put env d (.lptr y.cells)) (bF H l .dead):=by
 intro K β a w _ _ hr;have hv:=hr.mS d;rw[hd] at hv;exact⟨β,zv (hr.kill l (by rw[hl];simp)) d (SH hr hl hf B_ hv) (by simp[AV.aB])⟩
end Go.Am
