import Derived.Test.YtfinkeaikbmpgaaGreatDoorKT88
import Derived.Test.YtfinkeaikbmpgaaGreatDoorKT16
import Derived.Test.YtfinkeaikbmpgaaGreatDoorKT80
import Derived.Test.YtfinkeaikbmpgaaGreatDoorKT21
set_option linter.unusedSimpArgs false
set_option linter.unusedVariables false
set_option linter.unnecessarySimpa false
set_option linter.defProp false
/- Changes: the bench, step by step. -/
namespace Go.Am
open Go Go.RowKit
def Ext.refl (b:Bn):Ext b b:=⟨rfl,eM _,fun _ _ _ _ h=>h⟩
def Ext.trans {a b c:Bn} (h1:Ext a b) (h2:Ext b c):Ext a c:=
 ⟨h2.1.trans h1.1,D' h1.2.1 h2.2.1,fun m q tr hm h=>h2.2.2 m q tr (by rw[h1.1];exact hm) (h1.2.2 m q tr hm h)⟩
def Xl (b:Bn) {i:Nat} (hi:i<b.n0) (y:Node):Ext b (b.set i y):=
 ⟨rfl,QC,fun m q tr hm h=>by
  obtain⟨post,h⟩:=h;refine⟨post,?_⟩;show(b.nodes.set i y).drop m=_;rw[OV tM];exact h⟩
def aeR (b:Bn) (p:Nat) (L:List Tree):Ext b (b.Uf p L):=
 ⟨rfl,by simp[Bn.Uf],fun m q tr hm h=>by
  have hl:=h.len;obtain⟨post,h⟩:=h;refine⟨post++akX b.nodes.length p L,?_⟩;show(b.nodes++akX b.nodes.length p L).drop m=_;rw[Gk tM,h,yo]⟩
def aa8 (b:Bn) (fs az:List Int):Ext b {b with fs:=fs,az:=az}:=⟨rfl,eM _,fun _ _ _ _ h=>h⟩
section
variable {b:Bn} {p:Nat} {x:Node}
def aad (hx:b.nodes[p]?=some x) (pl:Nat) (L:List Tree):b.ins p pl L=(b.Uf p L).set p {x with kids:=x.kids.take pl++mw b.nodes.length L++x.kids.drop pl}:=by unfold Bn.ins;rw[hx]
def Yb (hx:b.nodes[p]?=some x) (hp:p<b.n0) (pl:Nat) (L:List Tree):Ext b (b.ins p pl L):=by
 rw[aad hx];exact(aeR b p L).trans (Xl (b.Uf p L) (show p<(b.Uf p L).n0 from hp) _)
def Zj (hx:b.nodes[p]?=some x) (pl:Nat) (L:List Tree) {i:Nat} (hi:i<b.nodes.length) (Vi:i≠p):(b.ins p pl L).nodes[i]?=b.nodes[i]?:=by
 rw[aad hx];show((b.nodes++akX b.nodes.length p L).set p _)[i]?=_;rw[Bd (yd Vi),bB hi]
def Zk (hx:b.nodes[p]?=some x) (pl:Nat) (L:List Tree):(b.ins p pl L).nodes[p]?=some {x with kids:=x.kids.take pl++mw b.nodes.length L++x.kids.drop pl}:=by
 rw[aad hx];have:=(bd.1 hx).1;show((b.nodes++akX b.nodes.length p L).set p _)[p]?=_;rw[A9 (by rw[ko];omega)]
def YE (hx:b.nodes[p]?=some x) (pl:Nat) (L:List Tree):(b.ins p pl L).nodes.length=b.nodes.length+dP L:=by
 rw[aad hx];simp[Bn.set,Bn.Uf,my]
def YF (hx:b.nodes[p]?=some x) (hp:p<b.n0) (hn:b.n0≤b.nodes.length) (pl:Nat) (L:List Tree) {its:List Itm} (h:iF (Rp b) x.kids its) :
  iF (Rp (b.ins p pl L)) (x.kids.take pl++mw b.nodes.length L++x.kids.drop pl) (its.take pl++news L++its.drop pl):=by
 have he:=Yb hx hp pl L;refine W8 (W8 (Zh pl (V0 (fun _ _=>Rp.ext he) h)) ?_) (Zi pl (V0 (fun _ _=>Rp.ext he) h));have h1:Ext (b.Uf p L) (b.ins p pl L):=by rw[aad hx];exact Xl (b.Uf p L) (show p<(b.Uf p L).n0 from hp) _
 exact V0 (fun _ _=>Rp.ext h1) (abG (b:=b.Uf p L) (by simp[Bn.Uf];omega) p L b.nodes b.nodes.length [] L (by simp[Bn.Uf]) rfl hn)
def del_eq (hx:b.nodes[p]?=some x) (k:Nat):b.del p k=b.set p {x with kids:=x.kids.take k++x.kids.drop (k+1)}:=by unfold Bn.del;rw[hx]
def aa9 (hx:b.nodes[p]?=some x) (hp:p<b.n0) (k:Nat):Ext b (b.del p k):=by rw[del_eq hx];exact Xl _ hp _
def aeS (hx:b.nodes[p]?=some x) (k:Nat) {i:Nat} (Vi:i≠p):(b.del p k).nodes[i]?=b.nodes[i]?:=by
 rw[del_eq hx];exact Bd (yd Vi)
def aeT (hx:b.nodes[p]?=some x) (k:Nat):(b.del p k).nodes[p]?=some {x with kids:=x.kids.take k++x.kids.drop (k+1)}:=by
 rw[del_eq hx];exact A9 (bd.1 hx).1
def ac4 (hx:b.nodes[p]?=some x) (k:Nat):(b.del p k).nodes.length=b.nodes.length:=by rw[del_eq hx];simp[Bn.set]
def ac5 (hx:b.nodes[p]?=some x) (hp:p<b.n0) (k:Nat) {its:List Itm} (h:iF (Rp b) x.kids its) :
  iF (Rp (b.del p k)) (x.kids.take k++x.kids.drop (k+1)) (its.take k++its.drop (k+1)):=by
 have he:=aa9 hx hp k;exact W8 (Zh k (V0 (fun _ _=>Rp.ext he) h)) (Zi (k+1) (V0 (fun _ _=>Rp.ext he) h))
def Th (hx:b.nodes[p]?=some x) (y:Node):(b.set p y).nodes[p]?=some y:=A9 (bd.1 hx).1
def aa' (y:Node) {i:Nat} (Vi:i≠p):(b.set p y).nodes[i]?=b.nodes[i]?:=Bd (yd Vi)
end
def XM (n:Nat):Itm→Bool
 | .old j=>j==n
 | .new _=>false
theorem agv {b:Bn} {n:Nat} (hn:n<b.n0) {k:Int}:∀{x:Itm},Rp b k x→XM n x=false→k≠(n:Int)
 | .old j,h,h2=>by simp only[Rp] at h;simp only[XM,A8] at h2;omega
 | .new t,⟨m,h1,h2,_⟩,_=>by omega
def aa_ {b:Bn} {n:Nat} (hn:n<b.n0) {ks:List Int} {A C:List Itm} (h:iF (Rp b) ks (A++ .old n::C)) (hA:∀x∈A,XM n x=false):Xw ks n=A.length∧A.length<ks.length:=by
 have hl:=XL h;have bI:A.length<ks.length:=by rw[hl];simp
 obtain⟨k,hk⟩:∃k,ks[A.length]?=some k:=⟨_,bS bI⟩;have h1:Rp b k (.old n):=ac3 h hk N7;have vy:ks[A.length]?=some (n:Int):=by rw[hk];exact GB some h1
 refine⟨acZ vy fun j hj e=> ?_,bI⟩;obtain⟨x,hx⟩:∃x,A[j]?=some x:=⟨_,bS hj⟩;have h2:Rp b (n:Int) x:=ac3 h e (by rw[bB hj];exact hx);exact agv hn h2 (hA x (dc hx)) rfl
def ag3 {b:Bn} {n:Nat} (hn:n<b.n0) {ks:List Int} {its:List Itm} (h:iF (Rp b) ks its) (hA:∀x∈its,XM n x=false):Xw ks n= -1:=by
 have hl:=XL h;refine aaJ fun j hj e=> ?_;obtain⟨x,hx⟩:∃x,its[j]?=some x:=⟨_,bS tM⟩;exact agv hn (ac3 h e hx) (hA x (dc hx)) rfl
def Ww (n:Nat) (L:List Tree):∀x∈news L,XM n x=false:=by
 intro x hx;obtain⟨t,_,rfl⟩:=pb.1 hx;rfl
def Za {l:List Op} {o:Op} {k:Nat} (h:o.target≠(k:Int)∨(o.kind≠3∧o.kind≠4∧o.kind≠5∧o.kind≠6)):Vp (l++[o]) k=Vp l k:=by
 unfold Vp;rw[akJ,akJ,akJ,Vk,Vk];rcases h with h|⟨h1,h2,h3,h4⟩
 ·simp[h]
 simp[h1,h2,h3,h4]
def YG {l:List Op} {o:Op} {i:Nat} {y:Tree} (h1:o.target≠(i:Int)∨(o.kind≠1∧o.kind≠2∧o.kind≠7)) (h2:∀k∈S6 (i+1) y.kids,o.target≠(k:Int)∨(o.kind≠3∧o.kind≠4∧o.kind≠5∧o.kind≠6)) :
  Vm (l++[o]) i y=Vm l i y:=by
 have hk:(S6 (i+1) y.kids).flatMap (Vp (l++[o]))=(S6 (i+1) y.kids).flatMap (Vp l):=by
  rw[GG,GG];congr 1;exact yp fun k hk=>Za (h2 k hk)
 unfold Vm;rw[hk,akJ,akJ,Vk,YD];rcases h1 with h1|⟨h3,h4,h5⟩
 ·simp[h1]
 simp[h3,h4,h5]
theorem aaM:∀(off:Nat) (xs:List Tree) (k:Nat),k∈S6 off xs→∃a c x,xs=a++x::c∧k=off+dP a
 |off,[],k,h=>by simp[S6] at h
 |off,x::r,k,h=>by
  simp only[S6,dU] at h;rcases h with rfl|h
  ·exact⟨[],r,x,rfl,by simp[dP]⟩
  obtain⟨a,c,z,h1,h2⟩:=aaM (off+x.jz) r k h;exact⟨x::a,c,z,by rw[h1];rfl,by simp only[dP];omega⟩
theorem aaN:∀(off:Nat) (a b:List Tree),S6 off (a++b)=S6 off a++S6 (off+dP a) b
 |off,[],b=>by simp[S6,dP]
 |off,x::r,b=>by simp[S6,dP,aaN (off+x.jz) r b,ze]
theorem Zz:∀(off:Nat) (xs:List Tree) (k:Nat),k∈S6 off xs→k<off+dP xs
 |off,[],k,h=>by simp[S6] at h
 |off,x::r,k,h=>by
  have:=x.uE;simp only[S6,dU] at h;rcases h with rfl|h
  ·simp only[dP];omega
  have:=Zz (off+x.jz) r k h;simp only[dP];omega
def Wm {t:Tree} {n:Nat} {q q':Int} {y y':Tree} (h:Sub 0 (-1) t n q y) (h':Sub 0 (-1) t n q' y'):y=y'∧q=q':=
 (h.Gv (lW t) ⟨[],Qb⟩).uniq (h'.Gv (lW t) ⟨[],Qb⟩)
def afX {t:Tree} {i:Nat} {q:Int} {y:Tree} (h:Sub 0 (-1) t i q y) {k:Nat} (hk:k∈S6 (i+1) y.kids):∃z,Sub 0 (-1) t k i z∧z∈y.kids:=by
 obtain⟨a,c,x,h1,h2⟩:=aaM _ _ _ hk;refine⟨x,h.trans (.Ce a c x h1 ?_),by rw[h1];simp⟩;rw[h2];exact .self _ _ _
def Sub.ac6 {off:Nat} {p:Int} {t:Tree} {n:Nat} {q:Int} {y:Tree} (h:Sub off p t n q y) :
  (n=off∧q=p∧y=t)∨∃(m:Nat) (z:Tree) (r:Int) (a c:List Tree),q=(m:Int)∧Sub off p t m r z∧z.kids=a++y::c∧n=m+1+dP a∧m<n:=by
 induction h with
 |self=>exact .inl ⟨rfl,rfl,rfl⟩
 |@Ce off p t n q y a b k hk hs ih=>
 right;rcases ih with⟨rfl,rfl,rfl⟩|⟨m,z,r,a',c',e1,e2,e3,e4,e5⟩
 ·exact⟨off,t,p,a,b,rfl,.self _ _ _,hk,tM,tM⟩
 exact⟨m,z,r,a',c',e1,.Ce a b k hk e2,e3,e4,e5⟩
def abH {t:Tree} {m n:Nat} {r:Int} {z y:Tree} {a c:List Tree} (h1:z.kids=a++y::c) (h2:n=m+1+dP a):S6 (m+1) z.kids=S6 (m+1) a++n::S6 (n+y.jz) c∧(∀k∈S6 (m+1) a,k<n)∧∀k∈S6 (n+y.jz) c,n<k:=by
 have:=y.uE;refine⟨by rw[h1,aaN,h2];simp[S6],fun k hk=>by have:=Zz _ _ _ hk;omega,fun k hk=>by have:=Y1 _ _ k hk;omega⟩
def Wx {t:Tree} {l:List Op} {o:Op} {b b':Bn} (h:Ze t l b) (he:Ext b b') (c:Nat) (hc:∀i,i<t.jz→i≠c→b'.nodes[i]?=b.nodes[i]?)
  (hs:∀i q y,Sub 0 (-1) t i q y→i≠c→(y.text=true→Wi (l++[o]) i y.s=Wi l i y.s)∧(y.text=false→Wr (l++[o]) i y.s=Wr l i y.s)∧Vb (l++[o]) i y.attrs=Vb l i y.attrs∧Vm (l++[o]) i y=Vm l i y)
  (hn:∀q y ks,Sub 0 (-1) t c q y→b.nodes[c]?=some ⟨y.text,if y.text then Wi l c y.s else Wr l c y.s,Vb l c y.attrs,q,ks⟩→iF (Rp b) ks (Vm l c y) →
   ∃Hj,b'.nodes[c]?=some ⟨y.text,if y.text then Wi (l++[o]) c y.s else Wr (l++[o]) c y.s,Vb (l++[o]) c y.attrs,q,Hj⟩∧iF (Rp b') Hj (Vm (l++[o]) c y))
  (hf:b'.fs.length=t.jz∧∀i,i<t.jz→b'.fs[i]?=some ((gl (l++[o]) 1 i).length:Int)) (ha:b'.az.length=t.jz∧∀i,i<t.jz→b'.az[i]?=some ((gl (l++[o]) 4 i).length:Int)):Ze t (l++[o]) b' where
 n0:=he.1.trans h.n0
 le:=by rw[he.1];exact D' h.le he.2.1
 nd i q y hy:=by
  obtain⟨ks,h1,h2⟩:=h.nd i q y hy;by_cases e:i=c
  ·subst e;exact hn q y ks hy h1 h2
  have hr:=hy.rng;have hcp:=y.uE;obtain⟨g1,g2,g3,g4⟩:=hs i q y hy e;refine⟨ks,?_,by rw[g4];exact V0 (fun _ _=>Rp.ext he) h2⟩;rw[hc i tM e,h1,g3];cases hT:y.text with
  |true=>rw[g1 hT];rfl
  |false=>rw[g2 hT];rfl
 fs:=hf
 az:=ha
def Xm {t:Tree} {l:List Op} {o:Op} {b:Bn} (h:Ze t l b) (hk:o.kind≠1):b.fs.length=t.jz∧∀i,i<t.jz→b.fs[i]?=some ((gl (l++[o]) 1 i).length:Int):=
 ⟨h.fs.1,fun i hi=>by rw[akJ,cY (fun e=>hk e.1),rI];exact h.fs.2 i hi⟩
def Xn {t:Tree} {l:List Op} {o:Op} {b:Bn} (h:Ze t l b) (hk:o.kind≠4):b.az.length=t.jz∧∀i,i<t.jz→b.az[i]?=some ((gl (l++[o]) 4 i).length:Int):=
 ⟨h.az.1,fun i hi=>by rw[akJ,cY (fun e=>hk e.1),rI];exact h.az.2 i hi⟩
def Vv {l:List Op} {o:Op} {i:Nat} (h:o.target≠(i:Int)∨(o.kind≠9∧o.kind≠10)) (az:List Attr):Vb (l++[o]) i az=Vb l i az:=by
 rw[Zy,X4,cY];rintro⟨e1,e2⟩;rcases h with h|⟨h1,h2⟩
 ·exact h e1
 exact e2.elim h1 h2
def V_ {l:List Op} {o:Op} {i:Nat} (h:o.target≠(i:Int)∨o.kind≠7) (s:Bs):Wi (l++[o]) i s=Wi l i s:=by
 rw[YD,cY];rintro⟨e1,e2⟩;exact h.elim (fun h=>h e2) (fun h=>h e1)
def Wa {l:List Op} {o:Op} {i:Nat} (h:o.target≠(i:Int)∨o.kind≠8) (s:Bs):Wr (l++[o]) i s=Wr l i s:=by
 rw[aaL,cY];rintro⟨e1,e2⟩;exact h.elim (fun h=>h e2) (fun h=>h e1)
section
variable {t:Tree} {l:List Op} {b:Bn} {o:Op} {n:Nat} {q:Int} {y:Tree}
def XB (ht:o.target=(n:Int)) (hk:o.kind≠3∧o.kind≠4∧o.kind≠5∧o.kind≠6):∀i q y,Sub 0 (-1) t i q y→i≠n →
  (y.text=true→Wi (l++[o]) i y.s=Wi l i y.s)∧(y.text=false→Wr (l++[o]) i y.s=Wr l i y.s)∧Vb (l++[o]) i y.attrs=Vb l i y.attrs∧Vm (l++[o]) i y=Vm l i y:=by
 intro i q y hy hi;have Vi:o.target≠(i:Int):=tM
 exact⟨fun _=>V_ (.inl Vi) _,fun _=>Wa (.inl Vi) _,Vv (.inl Vi) _,YG (.inl Vi) fun k _=> .inr hk⟩
def step1 (h:Ze t l b) (hy:Sub 0 (-1) t n q y) (ht:o.target=(n:Int)) (hk:o.kind=1) (hT:y.text=false) (hv:VA l 7 n=false):Ze t (l++[o]) (WX b o)∧(WX b o).nodes.length=b.nodes.length+dP o.content:=by
 obtain⟨ks,h1,h2⟩:=h.nd n q y hy;have hr:=hy.rng;have hcp:=y.uE;have hn:n<b.n0:=by rw[h.n0];omega
 have hle:=h.le;have wq:=h.n0;have w5:=h.fs.2 n tM;have Ld:(b.fs.getD n 0).toNat=(gl l 1 n).length:=by rw[zf,w5];simp
 have hd:WX b o={b.ins n (gl l 1 n).length o.content with fs:=b.fs.set n (((gl l 1 n).length+o.content.length:Nat):Int)}:=by
  unfold WX;rw[ht,bX,h1];simp only[hk,ku,Ld]
 rw[hd];refine⟨Wx h (o:=o) ((Yb h1 hn _ _).trans (aa8 _ _ _)) n (fun i hi Vi=>Zj h1 _ _ tM Vi) (XB ht tM) ?_ ?_ ?_,?_⟩
 ·intro q' y' Hj C0 e1 e2;obtain⟨rfl,rfl⟩:=Wm hy C0;rw[h1] at e1;have e1:ks=Hj:=by simp only[di,Node.mk.injEq] at e1;exact e1.2.2.2.2
  subst e1;refine⟨ks.take (gl l 1 n).length++mw b.nodes.length o.content++ks.drop (gl l 1 n).length,(Zk h1 _ _).trans ?_,?_⟩
  ·rw[Vv (.inr tM),V_ (.inr tM),Wa (.inr tM)]
  have:=YF h1 hn hle (gl l 1 n).length o.content h2;refine V0 (fun _ _=>Rp.ext (aa8 _ _ _)) ?_;refine cast ?_ this;congr 1;unfold Vm;rw[hT,hv,Vk,akJ,akJ,hv];have Kq:(S6 (n+1) y.kids).flatMap (Vp (l++[o]))=(S6 (n+1) y.kids).flatMap (Vp l):=by
   rw[GG,GG];congr 1;exact yp fun k vy=>Za (.inr tM)
  rw[Kq];simp[hk,ht,news]
 ·refine⟨by simp[h.fs.1],fun i hi=> ?_⟩;rw[akJ];by_cases e:i=n
  ·subst e;rw[A9 (by rw[h.fs.1];omega),eE ⟨hk,ht⟩,ko]
  rw[Bd (yd e),cY tM,rI];exact h.fs.2 i hi
 ·have:=Xn (o:=o) h tM;rw[Ya];exact this
 exact YE h1 _ _
def step2 (h:Ze t l b) (hy:Sub 0 (-1) t n q y) (ht:o.target=(n:Int)) (hk:o.kind=2) (hT:y.text=false) (hv:VA l 7 n=false):Ze t (l++[o]) (WX b o)∧(WX b o).nodes.length=b.nodes.length+dP o.content:=by
 obtain⟨ks,h1,h2⟩:=h.nd n q y hy;have hr:=hy.rng;have hcp:=y.uE;have hn:n<b.n0:=by rw[h.n0];omega
 have hle:=h.le;have wq:=h.n0;have hd:WX b o=b.ins n ks.length o.content:=by
  unfold WX;rw[ht,bX,h1];simp[hk]
 rw[hd];refine⟨Wx h (o:=o) (Yb h1 hn _ _) n (fun i hi Vi=>Zj h1 _ _ tM Vi) (XB ht tM) ?_ ?_ ?_,YE h1 _ _⟩
 ·intro q' y' Hj C0 e1 e2;obtain⟨rfl,rfl⟩:=Wm hy C0;rw[h1] at e1;have e1:ks=Hj:=by simp only[di,Node.mk.injEq] at e1;exact e1.2.2.2.2
  subst e1;refine⟨ks.take ks.length++mw b.nodes.length o.content++ks.drop ks.length,(Zk h1 _ _).trans ?_,?_⟩
  ·rw[Vv (.inr tM),V_ (.inr tM),Wa (.inr tM)]
  have:=YF h1 hn hle ks.length o.content h2;have hl:=XL h2;refine cast ?_ this;congr 1;rw[hl,va,Of,rI];unfold Vm;rw[hT,hv,Vk,akJ,akJ,hv];have Kq:(S6 (n+1) y.kids).flatMap (Vp (l++[o]))=(S6 (n+1) y.kids).flatMap (Vp l):=by
   rw[GG,GG];congr 1;exact yp fun k vy=>Za (.inr tM)
  rw[Kq];simp[hk,ht,news]
 ·have:=Xm (o:=o) h tM;rw[X_];exact this
 have:=Xn (o:=o) h tM;rw[Ya];exact this
def adD {off k:Nat} {m:Int} {y:Tree} (h:k=off):Sub off m y k m y:=by subst h;exact .self _ _ _
def adE {l:List Op} {k n:Nat} (h:k≠n):∀x∈Vp l k,XM n x=false:=by
 intro x hx;unfold Vp at hx;simp only[eR] at hx;rcases hx with(hx|hx)|hx
 ·exact Ww n _ x hx
 ·split at hx
  ·exact Ww n _ x hx
  split at hx
  ·simp at hx
  simp only[bY] at hx;subst hx;simp[XM,h]
 exact Ww n _ x hx
def abI {l:List Op} {n:Nat} {ks:List Nat} (h:∀k∈ks,k≠n):∀x∈ks.flatMap (Vp l),XM n x=false:=by
 intro x hx;obtain⟨k,hk,hx⟩:=Ob.1 hx;exact adE (h k hk) x hx
structure VY (t:Tree) (l:List Op) (b:Bn) (n:Nat) (y:Tree) where
 m:Nat
 z:Tree
 r:Int
 a:List Tree
 c:List Tree
 ks:List Int
 hz:Sub 0 (-1) t m r z
 hk:z.kids=a++y::c
 hn:n=m+1+dP a
 nd:b.nodes[m]?=some ⟨z.text,if z.text then Wi l m z.s else Wr l m z.s,Vb l m z.attrs,r,ks⟩
 rp:iF (Rp b) ks (Vm l m z)
 zt:z.text=false
def beside (h:Ze t l b) (h0:∀i q y,Sub 0 (-1) t i q y→y.text=true→y.kids=[]) (hy:Sub 0 (-1) t n q y) (hq:0≤q):∃B:VY t l b n y,q=(B.m:Int):=by
 rcases hy.ac6 with⟨_,rfl,_⟩|⟨m,z,r,a,c,e1,e2,e3,e4,e5⟩
 ·omega
 obtain⟨ks,h1,h2⟩:=h.nd m r z e2;refine⟨⟨m,z,r,a,c,ks,e2,e3,e4,h1,h2,?_⟩,e1⟩;cases hT:z.text with
 |false=>rfl
 |true=>have:=h0 m r z e2 hT;rw[e3] at this;simp at this
variable {n:Nat}
def VY.A (B:VY t l b n y):List Itm:=news (gl l 1 B.m)++(S6 (B.m+1) B.a).flatMap (Vp l)
def VY.C (B:VY t l b n y):List Itm:=(S6 (n+y.jz) B.c).flatMap (Vp l)++news (gl l 2 B.m)
def VY.split (B:VY t l b n y):S6 (B.m+1) B.z.kids=S6 (B.m+1) B.a++n::S6 (n+y.jz) B.c∧(∀k∈S6 (B.m+1) B.a,k<n)∧∀k∈S6 (n+y.jz) B.c,n<k:=
 abH (t:=t) (r:=B.r) B.hk B.hn
def VY.items (B:VY t l b n y) (hv:VA l 7 B.m=false):Vm l B.m B.z=B.A++Vp l n++B.C:=by
 unfold Vm;rw[B.zt,hv,B.split.1];simp[VY.A,VY.C]
def VY.acv (B:VY t l b n y) (hv:VA l 7 B.m=false) (h1:o.kind≠1) (h2:o.kind≠2) (h7:o.kind≠7) (ht:o.target=(n:Int)):Vm (l++[o]) B.m B.z=B.A++Vp (l++[o]) n++B.C:=by
 unfold Vm;rw[B.zt,Vk,hv,B.split.1,akJ,akJ];have e1:∀ks:List Nat,(∀k∈ks,k≠n)→ks.flatMap (Vp (l++[o]))=ks.flatMap (Vp l):=fun ks hks=>by
  rw[GG,GG];congr 1;exact yp fun k hk=>Za (.inl (by have:=hks k hk;omega))
 simp only[tG,Bc];rw[e1 _ (fun k hk=>by have:=B.split.2.1 k hk;omega),e1 _ (fun k hk=>by have:=B.split.2.2 k hk;omega)];simp[VY.A,VY.C,h1,h2,h7]
def VY.ac7 (B:VY t l b n y):∀x∈B.A,XM n x=false:=by
 intro x hx;simp only[VY.A,eR] at hx;rcases hx with hx|hx
 ·exact Ww n _ x hx
 exact abI (fun k hk=>by have:=B.split.2.1 k hk;omega) x hx
def VY.ahZ (B:VY t l b n y):∀x∈B.C,XM n x=false:=by
 intro x hx;simp only[VY.C,eR] at hx;rcases hx with hx|hx
 ·exact abI (fun k hk=>by have:=B.split.2.2 k hk;omega) x hx
 exact Ww n _ x hx
def XN (B:VY t l b n y) (hy:Sub 0 (-1) t n q y) (ht:o.target=(n:Int)) (hk:o.kind=3∨o.kind=4∨o.kind=5∨o.kind=6):∀i q y,Sub 0 (-1) t i q y→i≠B.m →
  (y.text=true→Wi (l++[o]) i y.s=Wi l i y.s)∧(y.text=false→Wr (l++[o]) i y.s=Wr l i y.s)∧Vb (l++[o]) i y.attrs=Vb l i y.attrs∧Vm (l++[o]) i y=Vm l i y:=by
 intro i q' y' C0 hi;refine⟨fun _=>V_ (.inr tM) _,fun _=>Wa (.inr tM) _,Vv (.inr tM) _,YG (.inr tM) fun k vy=> .inl fun e=> ?_⟩;have e:k=n:=tM
 subst e;obtain⟨w,hw,_⟩:=afX C0 vy;have h1:Sub 0 (-1) t k B.m y:=B.hz.trans (.Ce B.a B.c y B.hk (adD B.hn));have:=(Wm hw h1).2;omega
def ag4 (h:Ze t l b) (h0:∀i q y,Sub 0 (-1) t i q y→y.text=true→y.kids=[]) (hy:Sub 0 (-1) t n q y) (hq:0≤q) (ht:o.target=(n:Int)) (hk:o.kind=3∨o.kind=4∨o.kind=6) (hv:VA l 7 q.toNat=false) (h6:VA l 6 n=false) (h5:VA l 5 n=false) :
   Ze t (l++[o]) (WX b o)∧(WX b o).nodes.length=b.nodes.length+dP o.content:=by
 obtain⟨B,hqm⟩:=beside h h0 hy hq
 rw[hqm,bX] at hv
 obtain⟨ks,h1,-⟩:=h.nd n q y hy
 have hr:=hy.rng
 have hcp:=y.uE
 have T0:=B.hz.rng
 have ah0:=B.z.uE
 have hn:n<b.n0:=by rw[h.n0];omega
 have hm:B.m<b.n0:=by rw[h.n0];omega
 have hle:=h.le
 have wq:=h.n0
 have ag5:=B.items hv
 have aeU:Vp l n=news (gl l 3 n)++ .old n::news (gl l 4 n):=by unfold Vp;rw[h6,h5];simp
 have hrp:iF (Rp b) B.ks ((B.A++news (gl l 3 n))++ .old n::(news (gl l 4 n)++B.C)):=by
   have:=B.rp;rw[ag5,aeU] at this
   simpa using this
 have hA:∀x∈B.A++news (gl l 3 n),XM n x=false:=by
   intro x hx
   rcases eR.1 hx with hx|hx
   · exact B.ac7 x hx
   exact Ww n _ x hx
 obtain⟨X5,bI⟩:=aa_ hn hrp hA
 have K2:b.kd B.m=B.ks:=by rw[Bn.Ru B.nd]
 have han:=h.az.2 n tM
 have U2:(b.az.getD n 0).toNat=(gl l 4 n).length:=by rw[zf,han];simp
 obtain⟨L,hL⟩:∃L,L=(B.A++news (gl l 3 n)).length:=⟨_,rfl⟩
 rw[←hL] at X5 bI
 have aeV:=B.acv (o:=o) hv tM tM tM ht
 rcases hk with hk|hk|hk
 · have hd:WX b o=b.ins B.m L o.content:=by
     unfold WX;rw[ht,bX,h1];simp only[hqm,bX,K2,X5];simp[hk]
   rw[hd]
   refine⟨Wx h (o:=o) (Yb B.nd hm _ _) B.m (fun i hi Vi=>Zj B.nd _ _ tM Vi) (XN B hy ht tM) ?_ ?_ ?_,YE B.nd _ _⟩
   · intro q' y' Hj C0 e1 e2
     obtain⟨rfl,rfl⟩:=Wm B.hz C0
     rw[B.nd] at e1
     have e1:B.ks=Hj:=by simp only[di,Node.mk.injEq] at e1;exact e1.2.2.2.2
     subst e1
     refine⟨B.ks.take L++mw b.nodes.length o.content++B.ks.drop L,(Zk B.nd _ _).trans ?_,?_⟩
     · rw[Vv (.inr tM),V_ (.inr tM),Wa (.inr tM)]
     have:=YF B.nd hm hle L o.content hrp
     refine cast ?_ this
     congr 1
     rw[aeV,hL,Nr rfl,Ns rfl]
     unfold Vp
     rw[akJ,akJ,akJ,Vk,Vk,h6,h5]
     simp[hk,ht,news]
   · have:=Xm (o:=o) h tM
     rw[X_];exact this
   have:=Xn (o:=o) h tM
   rw[Ya];exact this
 · have hd:WX b o={b.ins B.m (L+1+(gl l 4 n).length) o.content with az:=b.az.set n (((gl l 4 n).length+o.content.length:Nat):Int)}:=by
     unfold WX;rw[ht,bX,h1];simp only[hqm,bX,K2,X5,U2];simp[hk]
   rw[hd]
   refine⟨Wx h (o:=o) ((Yb B.nd hm _ _).trans (aa8 _ _ _)) B.m (fun i hi Vi=>Zj B.nd _ _ tM Vi) (XN B hy ht tM) ?_ ?_ ?_,YE B.nd _ _⟩
   · intro q' y' Hj C0 e1 e2
     obtain⟨rfl,rfl⟩:=Wm B.hz C0
     rw[B.nd] at e1
     have e1:B.ks=Hj:=by simp only[di,Node.mk.injEq] at e1;exact e1.2.2.2.2
     subst e1
     refine⟨B.ks.take (L+1+(gl l 4 n).length)++mw b.nodes.length o.content++B.ks.drop (L+1+(gl l 4 n).length),(Zk B.nd _ _).trans ?_,?_⟩
     · rw[Vv (.inr tM),V_ (.inr tM),Wa (.inr tM)]
     have aiN:iF (Rp b) B.ks ((B.A++news (gl l 3 n)++ .old n::news (gl l 4 n))++B.C):=by simpa using hrp
     have hL2:L+1+(gl l 4 n).length=(B.A++news (gl l 3 n)++ .old n::news (gl l 4 n)).length:=by rw[hL];simp[news];omega
     have:=YF B.nd hm hle (L+1+(gl l 4 n).length) o.content aiN
     refine V0 (fun _ _=>Rp.ext (aa8 _ _ _)) ?_
     refine cast ?_ this
     congr 1
     rw[aeV,hL2,Nr rfl,Ns rfl]
     unfold Vp
     rw[akJ,akJ,akJ,Vk,Vk,h6,h5]
     simp[hk,ht,news]
   · have:=Xm (o:=o) h tM
     show(b.ins B.m (L+1+(gl l 4 n).length) o.content).fs.length=_∧_
     rw[X_];exact this
   refine⟨by simp[h.az.1],fun i hi=> ?_⟩
   rw[akJ]
   by_cases e:i=n
   · subst e
     rw[A9 (by rw[h.az.1];omega),eE ⟨hk,ht⟩,ko]
   rw[Bd (yd e),cY tM,rI];exact h.az.2 i hi
 have hd:WX b o=(b.del B.m L).ins B.m L o.content:=by
   unfold WX;rw[ht,bX,h1];simp only[hqm,bX,K2,X5];simp[hk]
 rw[hd]
 have hdn:=aeT B.nd L
 have zR:=ac4 B.nd L
 have Lq:(b.del B.m L).n0=b.n0:=XJ _ _ _
 refine⟨Wx h (o:=o) ((aa9 B.nd hm _).trans (Yb hdn (by rw[Lq];exact hm) _ _)) B.m (fun i hi Vi=>(Zj hdn _ _ tM Vi).trans (aeS B.nd _ Vi)) (XN B hy ht tM) ?_ ?_ ?_,by rw[YE hdn,zR]⟩
 · intro q' y' Hj C0 e1 e2
   obtain⟨rfl,rfl⟩:=Wm B.hz C0
   rw[B.nd] at e1
   have e1:B.ks=Hj:=by simp only[di,Node.mk.injEq] at e1;exact e1.2.2.2.2
   subst e1
   refine⟨(B.ks.take L++B.ks.drop (L+1)).take L++mw (b.del B.m L).nodes.length o.content++(B.ks.take L++B.ks.drop (L+1)).drop L,(Zk hdn _ _).trans ?_,?_⟩
   · rw[Vv (.inr tM),V_ (.inr tM),Wa (.inr tM)]
   have iS:=ac5 B.nd hm L hrp
   have u6:((B.A++news (gl l 3 n))++ .old n::(news (gl l 4 n)++B.C)).take L=B.A++news (gl l 3 n):=by rw[hL];exact Nr rfl
   have GM:((B.A++news (gl l 3 n))++ .old n::(news (gl l 4 n)++B.C)).drop (L+1)=news (gl l 4 n)++B.C:=by
     rw[←JO,hL,Ns rfl];rfl
   rw[u6,GM] at iS
   have:=YF hdn (by rw[Lq];exact hm) (by rw[Lq,zR];exact hle) L o.content (its:=(B.A++news (gl l 3 n))++(news (gl l 4 n)++B.C)) iS
   refine cast ?_ this
   congr 1
   rw[aeV,hL,Nr rfl,Ns rfl]
   unfold Vp
   rw[akJ,akJ,akJ,Vk,Vk,h6,h5,acu h6]
   simp[hk,ht,news]
 · have:=Xm (o:=o) h tM
   rw[X_,show(b.del B.m L).fs=b.fs by rw[del_eq B.nd];rfl];exact this
 have:=Xn (o:=o) h tM
 rw[Ya,show(b.del B.m L).az=b.az by rw[del_eq B.nd];rfl];exact this
end

section
variable {t:Tree} {l:List Op} {b:Bn} {o:Op} {n:Nat} {q:Int} {y:Tree}
def aeW {l:List Op} {n:Nat} (h:VA l 6 n=true∨VA l 5 n=true):∀x∈Vp l n,XM n x=false:=by
 intro x hx;unfold Vp at hx;simp only[eR] at hx;rcases hx with(hx|hx)|hx
 ·exact Ww n _ x hx
 ·split at hx
  ·exact Ww n _ x hx
  rename_i h6;rw[eE (h.resolve_left h6)] at hx;simp at hx
 exact Ww n _ x hx
def ah1 (h:Ze t l b) (h0:∀i q y,Sub 0 (-1) t i q y→y.text=true→y.kids=[]) (hy:Sub 0 (-1) t n q y) (hq:0≤q) (ht:o.target=(n:Int)) (hk:o.kind=5) :
   Ze t (l++[o]) (WX b o)∧(WX b o).nodes.length=b.nodes.length:=by
 obtain⟨B,hqm⟩:=beside h h0 hy hq
 obtain⟨ks,h1,-⟩:=h.nd n q y hy
 have hr:=hy.rng
 have hcp:=y.uE
 have T0:=B.hz.rng
 have ah0:=B.z.uE
 have hn:n<b.n0:=by rw[h.n0];omega
 have hm:B.m<b.n0:=by rw[h.n0];omega
 have hle:=h.le
 have wq:=h.n0
 have K2:b.kd B.m=B.ks:=by rw[Bn.Ru B.nd]
 by_cases FQ:VA l 7 B.m=true∨VA l 6 n=true∨VA l 5 n=true
 · have hold:∀x∈Vm l B.m B.z,XM n x=false:=by
     intro x hx
     by_cases h7:VA l 7 B.m=true
     · unfold Vm at hx
       rw[B.zt,h7] at hx
       simp only[jy,nX,ku,bY] at hx
       subst hx;rfl
     rw[B.items (by simpa using h7)] at hx
     simp only[eR] at hx
     rcases hx with(hx|hx)|hx
     · exact B.ac7 x hx
     · exact aeW (FQ.resolve_left h7) x hx
     exact B.ahZ x hx
   have X5:=ag3 hn B.rp hold
   have hd:WX b o=b:=by
     unfold WX;rw[ht,bX,h1];simp only[hqm,bX,K2,X5];simp[hk]
   rw[hd]
   refine⟨Wx h (o:=o) (Ext.refl _) B.m (fun _ _ _=>rfl) (XN B hy ht tM) ?_ (Xm h tM) (Xn h tM),rfl⟩
   intro q' y' Hj C0 e1 e2
   obtain⟨rfl,rfl⟩:=Wm B.hz C0
   refine⟨Hj,e1.trans ?_,?_⟩
   · rw[Vv (.inr tM),V_ (.inr tM),Wa (.inr tM)]
   have:Vm (l++[o]) B.m B.z=Vm l B.m B.z:=by
     by_cases h7:VA l 7 B.m=true
     · unfold Vm
       rw[B.zt,Vk,h7,V_ (.inr tM)]
       rfl
     rw[B.items (by simpa using h7),B.acv (by simpa using h7) tM tM tM ht]
     have FQ:=FQ.resolve_left h7
     congr 2
     unfold Vp
     rw[akJ,akJ,akJ,Vk,Vk]
     rcases FQ with h6|h5
     · simp[hk,h6]
     simp[hk,h5]
   rw[this];exact e2
 have hv:VA l 7 B.m=false:=by simp at FQ;exact FQ.1
 have h6:VA l 6 n=false:=by simp at FQ;exact FQ.2.1
 have h5:VA l 5 n=false:=by simp at FQ;exact FQ.2.2
 have aeU:Vp l n=news (gl l 3 n)++ .old n::news (gl l 4 n):=by unfold Vp;rw[h6,h5];simp
 have hrp:iF (Rp b) B.ks ((B.A++news (gl l 3 n))++ .old n::(news (gl l 4 n)++B.C)):=by
   have:=B.rp;rw[B.items hv,aeU] at this
   simpa using this
 have hA:∀x∈B.A++news (gl l 3 n),XM n x=false:=by
   intro x hx
   rcases eR.1 hx with hx|hx
   · exact B.ac7 x hx
   exact Ww n _ x hx
 obtain⟨X5,bI⟩:=aa_ hn hrp hA
 obtain⟨L,hL⟩:∃L,L=(B.A++news (gl l 3 n)).length:=⟨_,rfl⟩
 rw[←hL] at X5 bI
 have aeV:=B.acv (o:=o) hv tM tM tM ht
 have hd:WX b o=b.del B.m L:=by
   unfold WX;rw[ht,bX,h1];simp only[hqm,bX,K2,X5];simp[hk]
 rw[hd]
 refine⟨Wx h (o:=o) (aa9 B.nd hm _) B.m (fun i hi Vi=>aeS B.nd _ Vi) (XN B hy ht tM) ?_ ?_ ?_,ac4 B.nd _⟩
 · intro q' y' Hj C0 e1 e2
   obtain⟨rfl,rfl⟩:=Wm B.hz C0
   rw[B.nd] at e1
   have e1:B.ks=Hj:=by simp only[di,Node.mk.injEq] at e1;exact e1.2.2.2.2
   subst e1
   refine⟨B.ks.take L++B.ks.drop (L+1),(aeT B.nd _).trans ?_,?_⟩
   · rw[Vv (.inr tM),V_ (.inr tM),Wa (.inr tM)]
   have iS:=ac5 B.nd hm L hrp
   have u6:((B.A++news (gl l 3 n))++ .old n::(news (gl l 4 n)++B.C)).take L=B.A++news (gl l 3 n):=by rw[hL];exact Nr rfl
   have GM:((B.A++news (gl l 3 n))++ .old n::(news (gl l 4 n)++B.C)).drop (L+1)=news (gl l 4 n)++B.C:=by
     rw[←JO,hL,Ns rfl];rfl
   rw[u6,GM] at iS
   refine cast ?_ iS
   congr 1
   rw[aeV]
   unfold Vp
   rw[akJ,akJ,akJ,Vk,Vk,h6,h5]
   simp[hk,ht]
 · have:=Xm (o:=o) h tM
   rw[show(b.del B.m L).fs=b.fs by rw[del_eq B.nd];rfl];exact this
 have:=Xn (o:=o) h tM
 rw[show(b.del B.m L).az=b.az by rw[del_eq B.nd];rfl];exact this
def ah2 (h:Ze t l b) (hy:Sub 0 (-1) t n q y) (ht:o.target=(n:Int)) (hk:o.kind=7):Ze t (l++[o]) (WX b o)∧(WX b o).nodes.length≤b.nodes.length+1:=by
 obtain⟨ks,h1,h2⟩:=h.nd n q y hy;have hr:=hy.rng;have hcp:=y.uE;have hn:n<b.n0:=by rw[h.n0];omega
 have hle:=h.le;have wq:=h.n0;have hd:WX b o=b.value n o.s:=by
  unfold WX;rw[ht,bX,h1];simp[hk]
 rw[hd];unfold Bn.value;rw[h1];cases hT:y.text with
 |true=>
  simp only[ku];refine⟨Wx h (o:=o) (Xl _ hn _) n (fun i hi Vi=>aa' _ Vi) (XB ht tM) ?_ (by exact Xm (b:=b) (o:=o) h tM) (by exact Xn (b:=b) (o:=o) h tM),QC⟩;intro q' y' Hj C0 e1 e2;obtain⟨rfl,rfl⟩:=Wm hy C0;rw[h1] at e1;have e1:ks=Hj:=by simp only[di,Node.mk.injEq] at e1;exact e1.2.2.2.2
  subst e1;refine⟨ks,(Th h1 _).trans ?_,?_⟩
  ·rw[Vv (.inr tM)];simp[hT,YD,hk,ht]
  refine V0 (fun _ _=>Rp.ext (Xl _ hn _)) ?_;unfold Vm at e2 ⊢;rw[hT] at e2 ⊢;exact e2
 |false=>
 simp only[jy,nX];have hs:=Th h1 (y:=({text:=false,s:=Wr l n y.s,attrs:=Vb l n y.attrs,parent:=q,kids:=[]}:Node));refine⟨Wx h (o:=o) ((Xl _ hn _).trans (Yb hs hn _ _)) n (fun i hi Vi=>(Zj hs _ _ (by simp[Bn.set];omega) Vi).trans (aa' _ Vi)) (XB ht tM) ?_ ?_ ?_,?_⟩
 ·intro q' y' Hj C0 e1 e2;obtain⟨rfl,rfl⟩:=Wm hy C0;refine⟨([]:List Int).take 0++mw (b.set n ({text:=false,s:=Wr l n y.s,attrs:=Vb l n y.attrs,parent:=q,kids:=[]}:Node)).nodes.length [UR o.s]++([]:List Int).drop 0,(Zk hs _ _).trans ?_,?_⟩
  ·rw[Vv (.inr tM),hT,Wa (.inr tM)];rfl
  have:=YF hs hn (by simp[Bn.set];exact hle) 0 [UR o.s] (its:=[]) .nil;refine cast ?_ this;congr 1;unfold Vm;rw[hT,Vk,YD];simp[hk,ht,news]
 ·have:=Xm (o:=o) h tM;rw[X_];exact this
 ·have:=Xn (o:=o) h tM;rw[Ya];exact this
 rw[YE hs];simp[Bn.set,dP,UR,Tree.jz]
def ah3 (h:Ze t l b) (hy:Sub 0 (-1) t n q y) (ht:o.target=(n:Int)) (hk:o.kind=8) (hT:y.text=false):Ze t (l++[o]) (WX b o)∧(WX b o).nodes.length=b.nodes.length:=by
 obtain⟨ks,h1,h2⟩:=h.nd n q y hy;have hr:=hy.rng;have hcp:=y.uE;have hn:n<b.n0:=by rw[h.n0];omega
 have hd:WX b o=b.name n o.name:=by
  unfold WX;rw[ht,bX,h1];simp[hk]
 rw[hd];unfold Bn.name;rw[h1];refine⟨Wx h (o:=o) (Xl _ hn _) n (fun i hi Vi=>aa' _ Vi) (XB ht tM) ?_ (by exact Xm (b:=b) (o:=o) h tM) (by exact Xn (b:=b) (o:=o) h tM),QC⟩;intro q' y' Hj C0 e1 e2;obtain⟨rfl,rfl⟩:=Wm hy C0;rw[h1] at e1;have e1:ks=Hj:=by simp only[di,Node.mk.injEq] at e1;exact e1.2.2.2.2
 subst e1;refine⟨ks,(Th h1 _).trans ?_,?_⟩
 ·rw[Vv (.inr tM)];simp[hT,aaL,hk,ht]
 rw[YG (.inr tM) fun k _=> .inr tM];exact V0 (fun _ _=>Rp.ext (Xl _ hn _)) e2
def ah4 (h:Ze t l b) (hy:Sub 0 (-1) t n q y) (ht:o.target=(n:Int)) (hk:o.kind=9∨o.kind=10):Ze t (l++[o]) (WX b o)∧(WX b o).nodes.length=b.nodes.length:=by
 obtain⟨ks,h1,h2⟩:=h.nd n q y hy;have hr:=hy.rng;have hcp:=y.uE;have hn:n<b.n0:=by rw[h.n0];omega
 have hd:WX b o=b.attr n o:=by
  unfold WX;rw[ht,bX,h1];rcases hk with hk|hk<;>simp[hk]
 rw[hd];unfold Bn.attr;rw[h1];refine⟨Wx h (o:=o) (Xl _ hn _) n (fun i hi Vi=>aa' _ Vi) (XB ht tM) ?_ (by exact Xm (b:=b) (o:=o) h tM) (by exact Xn (b:=b) (o:=o) h tM),QC⟩;intro q' y' Hj C0 e1 e2;obtain⟨rfl,rfl⟩:=Wm hy C0;rw[h1] at e1;have e1:ks=Hj:=by simp only[di,Node.mk.injEq] at e1;exact e1.2.2.2.2
 subst e1;refine⟨ks,(Th h1 _).trans ?_,?_⟩
 ·rw[V_ (.inr tM),Wa (.inr tM),Zy,X4];simp[ht,hk]
 rw[YG (.inr tM) fun k _=> .inr tM];exact V0 (fun _ _=>Rp.ext (Xl _ hn _)) e2
def adF (t:Tree) (h0:∀i q y,Sub 0 (-1) t i q y→y.text=true→y.kids=[]):Ze t [] ⟨t.jz,lW t,List.replicate t.jz 0,List.replicate t.jz 0⟩ where
 n0:=rfl
 le:=by rw[pf];exact eM _
 nd i q y hy:=by
  refine⟨mw (i+1) y.kids,?_,?_⟩
  ·have:=(hy.Gv (lW t) ⟨[],Qb⟩).node;simp only at this ⊢;rw[this];simp[Tree.node,Wi,Wr,ofK,Vb]
  have hK:∀k,Vp [] k=[.old k]:=fun k=>by simp[Vp,gl,VA,ofK,news]
  unfold Vm;cases hT:y.text with
  |true=>rw[h0 i q y hy hT];exact .nil
  |false=>
  simp only[jy,nX,VA,ofK,vU,List.isEmpty_nil,ib,gl,Ke,news,D7,List.nil_append,rI];have:∀(off:Nat) (xs:List Tree) (b:Bn),iF (Rp b) (mw off xs) ((S6 off xs).flatMap (Vp [])):=by
   intro off xs b;induction xs generalizing off with
   |nil=>exact .nil
   |cons x r ih=>simp only[mw,S6,Bc,hK,Nj];exact .cons rfl (ih _)
  exact this _ _ _
 fs:=by
  refine⟨N7,fun i hi=> ?_⟩;simp[hi,gl,ofK]
 az:=by
  refine⟨N7,fun i hi=> ?_⟩;simp[hi,gl,ofK]
end

mutual
def Tree.rep (d:Doc) (n:Nat):Tree→Prop
 | .mk t s az ks=>∃p kd,d[n]?=some ⟨t,s,az,p,kd⟩∧Yt d kd ks
def Yt (d:Doc):List Int→List Tree→Prop
 |[],[]=>True
 |k::r,x::xs=>(∃m:Nat,k=m∧x.rep d m)∧Yt d r xs
 |[],_::_=>False
 |_::_,[]=>False
end
theorem abJ {d:Doc}:∀{ks:List Int} {xs:List Tree},Yt d ks xs→ks.length=xs.length
 |[],[],_=>rfl
 |k::r,x::xs,h=>by simp only[Yt] at h;simp[abJ h.2]
 |[],_::_,h=>by simp[Yt] at h
 |_::_,[],h=>by simp[Yt] at h
theorem abK {d:Doc}:∀{ks:List Int} {xs:List Tree},Yt d ks xs→∀{i:Nat} {x:Tree},xs[i]?=some x→∃m:Nat,ks[i]?=some (m:Int)∧x.rep d m
 |[],[],_,i,x,hx=>by simp at hx
 |k::r,y::xs,h,0,x,hx=>by
  simp only[Yt] at h;obtain⟨⟨m,rfl,hm⟩,_⟩:=h;simp at hx;subst hx;exact⟨m,rfl,hm⟩
 |k::r,y::xs,h,i+1,x,hx=>by
  simp only[Yt] at h;obtain⟨m,h1,h2⟩:=abK h.2 (i:=i) (x:=x) (by simpa using hx);exact⟨m,by simpa using h1,h2⟩
 |[],_::_,h,i,x,hx=>by simp[Yt] at h
 |_::_,[],h,i,x,hx=>by simp[Yt] at h
def XO (d:Doc) (fs az:List Int):AV:= .lptr [.list (d.map Node.iv),.list (fs.map xX),.list (az.map xX)]
section
variable {P:Program} {G:Nat→Option (List IV)}
def Vu (fl:Nat):AC:=
(aM [aQ 4 (.new [(.bool false),(.str []),.nil0,.nil0])] (aM [MR 9 0,aQ 10 (.dp (.t 9)),ep 11 10 0,fm 12 11,MR 13 1,jL 14 12 13 5,gz 15 5 14,aQ 5 (.new [(.bool false),(.str []),.nil0,(.int .i64 0),.nil0]),gg (.store 5 (.t 5) (.t 15))] (aM [ep 16 5 0,fm 17 16,ep 18 5 1,fm 19 18,ep 20 5 2,fm 21 20,aQ 22 (.sg [(.bool false),(.str []),.nil0,.nil0] [(0,(1,(.t 17))),(1,(1,(.t 19))),(2,(1,(.t 21)))]),aQ 6 (.new [(.bool false),(.str []),.nil0,.nil0]),gg (.store 4 (.t 6) (.t 22))] (.seq (.gh .vk (aM [ep 23 5 4,fm 24 23,oy 25 24,gH 26 0] (.block 0 (.loop (aM [et 27 .lss 26 25] (.seq (.cond (.t 27) .skip (.exit 0)) (.seq (.block 1 (aM [jL 28 24 26 1,fm 29 28,MR 8 29] (.VL [ep 30 6 3,fm 31 30,MR 32 0,MR 33 8,aQ 34 (.call fl [(.t 32),(.t 33)]),aQ 35 (.lits 1 4 [(.bool false),(.str []),.nil0,.nil0] [(0,(.t 34))]),aQ 36 (.app (.t 31) (.t 35) 4 72),ep 37 6 3,gg (.store 1 (.t 37) (.t 36))] [[],[0],[],[],[2,3],[4],[1,5,4],[0,1,2,3,4,5,6],[7,6,6,0,1,2,3,4,5,6]] [.no,.rw [.loc 6] [],.no,.no,.no,.no,(.rw [] [(.loc 50),(.loc 36)]),.no,.rw [] [.loc 6]]))) (.cq [eY 38 .add 26 1,MR 26 38])))))))) (.gh (.xd (.loc 50) (.loc 6) 3) (aM [gz 39 4 6,gg (.store 4 (.t 4) (.t 39))] .ret))))))
def afY {fl:Nat} (hF:aw P G fl=some (40,[((some (some 4)),4)],(Vu fl).bare)) (d:Doc) (fs az:List Int) (hd:d.length≤B) (n:Nat) (x:Tree) (hL:x.rep d n) (hx:x.wt≤B)
  (hK:∀k∈x.kids,∀(m:Nat),k.rep d m→au P G fl [XO d fs az,.int .i64 m] k.av):au P G fl [XO d fs az,.int .i64 n] x.av:=by
 refine Ws hF N7 (by simp[ah,AV.an,XO]) (by simp[AV.an,Tree.av,ah]) ?_;obtain⟨tt,ss,aa,kk⟩:=x;simp only[Tree.rep] at hL;obtain⟨p,kd,Zs,agw⟩:=hL;have bI:=(bd.1 Zs).1;have hwx:=(Tree.mk tt ss aa kk).gx;simp only[Tree.kids,Tree.s,Tree.attrs] at hwx;have Hm:=eZ kk;have JV:=abJ agw;have hgd:(d.map Node.iv)[n]?=some (⟨tt,ss,aa,p,kd⟩:Node).iv:=by rw[cn,Zs];rfl
 unfold Vu;simp only[↓aX,mX,seval,XO,bA,hgd,Xx,Node.cJ,Node.cs];rw[Ox];refine⟨_,_,Qm (q:= .loc 6) (cs:=[.bool tt,.str ss,.list (cD aa),.nil0]) (j:=3) (d:=50) (sz:=4) rfl rfl PU Pr,?_⟩;simp only[↓aX,mX,seval];refine pe (σ:={i:Nat // i≤kk.length}) (fun _=>[.loc 4,.loc 6,.loc 50]) (fun _ _=>false)
  (fun q=>[(0,XO d fs az),(4,.ptr (.loc 4) 4 0 0),(6,.ptr (.loc 6) 4 0 0),(24,.list (kd.map xX)),(25,.int .i64 kk.length),(26,.int .i64 q.1)])
  (fun q=>[(.loc 4,⟨4,[[.bool false,.str [],.nil0,.nil0]]⟩),(.loc 6,⟨4,[[.bool tt,.str ss,.list (cD aa),.sl (.loc 50) 4 0 q.1]]⟩),(.loc 50,⟨4,aB (dq (kk.take q.1))⟩)])
  (fun q=>kk.length - q.1) ⟨0,zd _⟩ (fun _=>rfl) (fun q=>by simp[ah,AV.an,XO]) ?_ ⟨[],?_⟩ ?_
 ·rintro q r hr cs bV l hl;simp only[dU,e7,kt] at hr;rcases hr with rfl|rfl|rfl
  ·simp only[bY] at bV;subst bV;simp[ah,AV.an] at hl
  ·simp only[bY] at bV;subst bV;simp[ah,AV.an] at hl;subst hl;simp
  rw[bU bV] at hl;simp at hl
 ·refine⟨?_,?_,?_,PN,fun l _=>⟨id,fun _=>rfl⟩⟩
  ·intro l hf hu;exfalso;apply hu;cases l<;>simp_all[Lb.fresh,ae,Hp.none]
  ·simp[k_,dn,bJ,put,JV,XO,jP]
  simp[tc,dn,ae,dO,bu,bJ,aB,dq]
 rintro⟨i,hi⟩;rw[Cf];simp only[↓aX,mX,seval,cF,bW];by_cases bI:i<kk.length
 ·rw[show decide ((i:Int)<(kk.length:Int))=true by simpa using bI];obtain⟨k,HA⟩:∃k,kk[i]?=some k:=⟨_,bS bI⟩;have hw:IntKind.i64.wrap ((i:Int)+1)=((i+1:Nat):Int):=wrap64 tM (by unfold B at hx;omega);obtain⟨m,hg,hm⟩:=abK agw HA;simp only[↓aX,mX,seval,aaX,hg,YN,bA,bT,xX,IV.cells];have hkm:=dc HA;have MG:(dq (kk.take i)).length=i:=by rw[bF,tp];omega
  have zB:dq (kk.take (i+1))=dq (kk.take i)++[.agg [.bool k.text,.str k.s,.list (cD k.attrs),.list (dq k.kids)]]:=by rw[Vl HA,qh];simp[dq,Tree.o_,Tree.cs]
  refine⟨rfl,jw (hK k hkm m hm) ?_⟩;simp only[↓aX,mX,seval,Tree.av];rw[qg 4 72 36 50 (dq (kk.take i)) (.agg [.bool k.text,.str k.s,.list (cD k.attrs),.list (dq k.kids)]) PE MG rfl PX (by unfold B at hx;omega) Pr Pr PU];simp only[↓aX,mX,seval,hw];refine⟨by rintro l (rfl|rfl)<;>simp[Lb.iQ],?_⟩;refine⟨⟨i+1,bI⟩,Pq,[(.loc 50,.loc 36)],?_⟩;refine⟨?_,?_,?_,PN,?_⟩
  ·intro l hf hu;exfalso;apply hu;cases l<;>simp_all[Lb.fresh,ae,Hp.none]
  ·simp[k_,dn,bJ,put,XO,o9]
  ·have hr:∀xs:List IV,dO (dn [(.loc 50,.loc 36)]) ⟨4,aB xs⟩=⟨4,aB xs⟩:=fun xs=>dy _ _ _;simp[tc,dn,ae,dO,bu,bJ,zB];simp[aB,nT]
  intro l hl;simp only[dU,e7,kt] at hl;rcases hl with rfl|rfl|rfl
  ·exact⟨fun _=>rfl,fun _=>rfl⟩
  ·exact⟨fun _=>rfl,fun _=>rfl⟩
  exact⟨fun _=>rfl,fun h=>by simp[Lb.fresh] at h⟩
 have XV:i=kk.length:=tM
 subst XV;rw[show decide ((kk.length:Int)<(kk.length:Int))=false by simp];simp only[↓aX,mX,seval,va];refine⟨4,dq kk,0,kk.length,[.bool tt,.str ss,.list (cD aa),.sl (.loc 50) 4 0 kk.length],rfl,rfl,rfl,N7,by rw[bF];omega,pa _,?_⟩;simp only[↓aX,mX,seval,tn,eN (show(dq kk).length≤kk.length by rw[bF];exact eM _)];rfl
theorem aeX {fl:Nat} (hF:aw P G fl=some (40,[((some (some 4)),4)],(Vu fl).bare)) (d:Doc) (fs az:List Int) (hd:d.length≤B):∀(m:Nat) (x:Tree),x.jz≤m→∀(n:Nat),x.rep d n→x.wt≤B→au P G fl [XO d fs az,.int .i64 n] x.av
 |0,x,h,_,_,_=>by have:=x.uE;omega
 |m+1,x,h,n,hL,hx=>by
  have hw:=x.gx;refine afY hF d fs az hd n x hL hx fun k hk n' hr=> ?_;have h1:=aab hk;obtain⟨i,hi⟩:=yl hk;have h2:=jx _ _ _ hi;exact aeX hF d fs az hd m k (by rw[x.n8] at h;omega) n' hr tM
end

mutual
theorem oc.rep {d:Doc}:∀(x:Tree) (n:Nat) (q:Int),oc d n q x→x.rep d n
 | .mk t s az ks,n,q,h=>by
  simp only[Tree.rep];exact⟨q,mw (n+1) ks,h.node,aaO n q (.mk t s az ks) h ks [] (by rfl)⟩
theorem aaO {d:Doc} (n:Nat) (q:Int) (x:Tree) (h:oc d n q x):∀(ks pre:List Tree),x.kids=pre++ks→Yt d (mw (n+1+dP pre) ks) ks
 |[],_,_=>by simp[mw,Yt]
 |k::r,pre,e=>by
  simp only[mw,Yt];refine⟨⟨_,rfl,oc.rep k _ _ (h.Ce pre r k e)⟩,?_⟩;have:=aaO n q x h r (pre++[k]) (by rw[e];simp);rw[lU] at this;simpa[dP,ze] using this
end
def Rt (d:Doc):Itm→Tree→Prop
 | .old k,x=>x.rep d k
 | .new t,x=>x=t
theorem ac8 {b:Bn}:∀{ks:List Int} {its:List Itm} {xs:List Tree},iF (Rp b) ks its→iF (Rt b.nodes) its xs→Yt b.nodes ks xs
 |_,_,_,.nil,.nil=>by simp[Yt]
 |_,_,_,.cons (b:=i) h1 h2,.cons (b:=x) g1 g2=>by
  simp only[Yt];refine⟨?_,ac8 h2 g2⟩;cases i with
  |old j=>exact⟨j,h1,g1⟩
  |new t=>
  obtain⟨m,e,_,q,hl⟩:=h1;have g1:x=t:=g1;subst g1;exact⟨m,e,oc.rep _ _ _ hl⟩
theorem YH (d:Doc):∀L:List Tree,iF (Rt d) (news L) L
 |[]=> .nil
 |x::r=>by simp only[news,o2];exact .cons rfl (YH d r)
def ag6 {d:Doc} {l:List Op} {k:Nat} {x:Tree} (h:(x.V5 l k).rep d k):iF (Rt d) (Vp l k) (x.YL l k):=by
 rw[Tree.afW];unfold Vp;refine W8 (W8 (YH d _) ?_) (YH d _);split
 ·exact YH d _
 split
 ·exact .nil
 exact .cons h .nil
theorem ac9 {d:Doc} {l:List Op}:∀(off:Nat) (ks:List Tree),(∀a x c,ks=a++x::c→(x.V5 l (off+dP a)).rep d (off+dP a))→iF (Rt d) ((S6 off ks).flatMap (Vp l)) (turns l off ks)
 |_,[],_=>by simp[S6,turns];exact .nil
 |off,x::r,h=>by
  simp only[S6,turns,Bc];refine W8 (ag6 (by simpa[dP] using h [] x r rfl)) (ac9 _ r fun a z c e=> ?_);have:=h (x::a) z c (by rw[e];rfl);simp only[dP] at this;rw[ze];exact this
theorem Ze.rep {t:Tree} {l:List Op} {b:Bn} (h:Ze t l b):∀(m i:Nat) (q:Int) (y:Tree),y.jz≤m→Sub 0 (-1) t i q y→(y.V5 l i).rep b.nodes i
 |0,_,_,y,hm,_=>by have:=y.uE;omega
 |m+1,i,q,y,hm,hy=>by
  obtain⟨ks,h1,h2⟩:=h.nd i q y hy;unfold Tree.V5;simp only[Tree.rep];refine⟨q,ks,h1,ac8 h2 ?_⟩;unfold Vm;split
  ·exact .nil
  split
  ·exact .cons rfl .nil
  refine W8 (W8 (YH _ _) (ac9 _ _ fun a x c e=> ?_)) (YH _ _);have hc:=y.n8;rw[e,lU] at hc;simp only[dP] at hc;exact Ze.rep h m _ i x tM (hy.trans (.Ce a c x e (.self _ _ _)))
def adG (n:Nat) (o:Op):Bool:=decide (o.target=(n:Int)∧(o.kind=9∨o.kind=10))
def aaP (l:List Op) (n:Nat) (az:List Attr):Vb l n az=(l.filter (adG n)).foldl TV az:=by
 unfold Vb;induction l generalizing az with
 |nil=>rfl
 |cons o r ih=>
 rw[Bw,ih,zp];by_cases h:o.target=(n:Int)∧(o.kind=9∨o.kind=10)
 ·rw[eE (by simp[adG,h]),Bw,X4,eE h]
 rw[cY (by simpa[adG] using h),X4,cY h]
structure Alike (l l':List Op):Prop where
 k:∀k n,ofK l' k n=ofK l k n
 a:∀n,l'.filter (adG n)=l.filter (adG n)
section
variable {l l':List Op} (h:Alike l l')
include h
def Alike.gl (k:Int) (n:Nat):gl l' k n=Am.gl l k n:=by unfold Am.gl;rw[h.k]
def Alike.VA (k:Int) (n:Nat):VA l' k n=Am.VA l k n:=by unfold Am.VA;rw[h.k]
def Alike.Wi (n:Nat) (s:Bs):Wi l' n s=Am.Wi l n s:=by unfold Am.Wi;rw[h.k]
def Alike.Wr (n:Nat) (s:Bs):Wr l' n s=Am.Wr l n s:=by unfold Am.Wr;rw[h.k]
def Alike.Vb (n:Nat) (az:List Attr):Vb l' n az=Am.Vb l n az:=by rw[aaP,aaP,h.a]
end
mutual
theorem Alike.YL {l l':List Op} (h:Alike l l'):∀(x:Tree) (off:Nat),x.YL l' off=x.YL l off
 | .mk t s az ks,off=>by simp only[Tree.YL,h.gl,h.VA,h.Wi,h.Wr,h.Vb,Alike.turns h ks (off+1)]
theorem Alike.turns {l l':List Op} (h:Alike l l'):∀(xs:List Tree) (off:Nat),turns l' off xs=turns l off xs
 |[],_=>by simp[Am.turns]
 |x::r,off=>by simp only[Am.turns,Alike.YL h x off,Alike.turns h r (off+x.jz)]
end
def Alike.V5 {l l':List Op} (h:Alike l l') (x:Tree) (off:Nat):x.V5 l' off=x.V5 l off:=by
 unfold Tree.V5;simp only[h.gl,h.VA,h.Wi,h.Wr,h.Vb,h.turns]
def X6 (ph:Op→Int) (l:List Op):Nat→List Op
 |0=>[]
 |p+1=>X6 ph l p++l.filter fun o=>ph o==(p:Int)
def VC (ph:Op→Int) (l:List Op) (p i:Nat):List Op:=X6 ph l p++(l.take i).filter fun o=>ph o==(p:Int)
def abL (ph:Op→Int) (l:List Op) (p:Nat):VC ph l (p+1) 0=VC ph l p l.length:=by simp[VC,X6]
def abM {ph:Op→Int} {l:List Op} {p i:Nat} {o:Op} (ho:l[i]?=some o) (h:ph o≠(p:Int)):VC ph l p (i+1)=VC ph l p i:=by
 unfold VC;rw[Vl ho,D8,M3 (by simpa using h)];simp
def Zl {ph:Op→Int} {l:List Op} {p i:Nat} {o:Op} (ho:l[i]?=some o) (h:ph o=(p:Int)):VC ph l p (i+1)=VC ph l p i++[o]:=by
 unfold VC;rw[Vl ho,D8,Ov (by simpa using h)];simp
def aae (ph:Op→Int) (l:List Op) (p i:Nat):∃r,X6 ph l (p+1)=VC ph l p i++r:=by
 refine⟨(l.drop i).filter fun o=>ph o==(p:Int),?_⟩;unfold VC;rw[X6,yo,←D8,tO]
theorem Zb {ph:Op→Int} {l:List Op}:∀{p:Nat} {o:Op},o∈X6 ph l p→o∈l∧ph o<(p:Int)
 |0,o,h=>by simp[X6] at h
 |p+1,o,h=>by
  simp only[X6,eR,A6,yt] at h;rcases h with h|⟨h,e⟩
  ·obtain⟨h1,h2⟩:=Zb h;exact⟨h1,tM⟩
  exact⟨h,tM⟩
theorem ZA (ph:Op→Int) (l:List Op):∀p:Nat,(X6 ph l p).Pairwise fun a b=>ph a≤ph b
 |0=>by simp[X6]
 |p+1=>by
  rw[X6,jk];refine⟨ZA ph l p,?_,fun a ha b hb=> ?_⟩
  ·refine List.Pairwise.imp_of_mem (R:=fun _ _=>True) (fun {a b} ha hb _=> ?_) (List.pairwise_of_forall fun _ _=>trivial);simp only[A6,yt] at ha hb;omega
  have:=(Zb ha).2;simp only[A6,yt] at hb;omega
theorem Zm (ph:Op→Int) (l:List Op) (h0:∀o∈l,0≤ph o):∀p:Nat,(X6 ph l p).Perm (l.filter fun o=>decide (ph o<(p:Int)))
 |0=>by
  rw[show(l.filter fun o=>decide (ph o<((0:Nat):Int)))=[] from mc.2 fun o ho=>by have:=h0 o ho;simp;omega];exact .refl _
 |p+1=>by
  rw[X6];have h1:=List.filter_append_perm (fun o=>decide (ph o<(p:Int))) (l.filter fun o=>decide (ph o<((p+1:Nat):Int)));rw[N1,N1] at h1;refine((Zm ph l h0 p).append_right _).trans (.trans (.of_eq ?_) h1);congr 1
  ·refine Nx fun o _=> ?_;by_cases h:ph o<(p:Int)
   ·simp[h];omega
   simp[h]
  refine Nx fun o _=> ?_;rw[Bb];simp only[yt,de,D0,D5,dj];omega
theorem Yu {ph:Op→Int} {l:List Op} (c:Op→Bool) (P:Int) (hc:∀o∈l,c o=true→ph o=P):∀p:Nat,(X6 ph l p).filter c=if 0≤P∧P<(p:Int) then l.filter c else []
 |0=>by simp[X6];omega
 |p+1=>by
  rw[X6,D8,Yu c P hc p,N1];by_cases h1:P=(p:Int)
  ·rw[cY tM,eE tM,List.nil_append];refine Nx fun o ho=> ?_;cases hco:c o with
   |false=>rfl
   |true=>simp[hc o ho hco,h1]
  have:(l.filter fun o=>c o&&(ph o==(p:Int)))=[]:=by
   rw[mc];intro o ho h;simp only[de,yt] at h;exact h1 ((hc o ho h.1).symm.trans h.2)
  rw[this,rI];by_cases h2:0≤P∧P<(p:Int)
  ·rw[eE h2,eE tM]
  rw[cY h2,cY tM]

def kC (k:Int):Bool:=decide (k≤4)||k==6
def kN (k:Int):Bool:=decide (8≤k)
def kT (k:Int):Bool:=k==7||k==9
def kB (k:Int):Bool:=decide (3≤k)&&decide (k≤6)
def XS (x:Node) (o:Op):Int:=
 if(if kC o.kind then !content o.content else decide ((o.content.length:Int)>0)) then 1
 else if(if kN o.kind then !named o.name else o.name !=[]) then 1
 else if(if kT o.kind then !plain o.s else o.s !=[]) then 1
 else if kB o.kind&&decide (x.parent<0) then 6
 else if x.text&&(!kB o.kind&&o.kind !=7) then 4 else 0
def tQ:=And.intro @ge_iff_le.{0} (And.intro @gt_iff_lt.{0} (And.intro A_ (And.intro XG (And.intro @bF (And.intro Op.av.eq_1 (And.intro Node.av.eq_1 (And.intro @List.length_cons.{0} (And.intro @List.length_nil.{0} (And.intro ib fj)))))))))
def Wy (No Vs Oo:Nat):AC:=
(aM [zzX 2 0,zzX 3 1,gH 4 0] (aM [ep 9 3 0,fm 10 9,eY 11 .leq 10 4,MR 12 11,oH 13 12 3 0,oG 14 12 13,iR 15 12 (.bin .eql (.t 14) (jS 6)),sj 16 12 15,MR 5 16] (aM [ep 17 3 0,fm 18 17,eY 19 .geq 18 8,MR 6 19] (aM [ep 20 3 0,fm 21 20,eY 22 .eql 21 7,MR 23 22,oH 24 23 3 0,oG 25 23 24,iR 26 23 (.bin .eql (.t 25) (jS 9)),sj 27 23 26,MR 7 27] (aM [ep 28 3 0,fm 29 28,eY 30 .geq 29 3,MR 31 30,Wb 32 31 3 0,jm 33 31 32,dW 34 31 (.bin .leq (.t 33) (jS 6)),jT 35 31 34,MR 8 35] (.seq (.block 0 (aM [MR 37 5,MR 38 37,Wb 39 38 3 2,jm 40 38 39,dW 41 38 (.call No [(.t 40)]),dW 42 38 (.not (.t 41)),jT 43 38 42,MR 44 43,gV 45 44 5,iR 46 44 (.not (.t 45)),gV 47 44 46,Wb 48 47 3 2,jm 49 47 48,dW 50 47 (.len (.t 49)),dW 51 47 (.bin .gtr (.t 50) (jS 0)),iR 52 44 (.pick (.t 47) (.t 51) (me false)),sj 53 44 52,MR 36 53] (.cond (.t 36) (aM [gH 4 1] .ret) (aM [MR 55 6,MR 56 55,Wb 57 56 3 3,jm 58 56 57,dW 59 56 (.call Vs [(.t 58)]),dW 60 56 (.not (.t 59)),jT 61 56 60,MR 62 61,gV 63 62 6,iR 64 62 (.not (.t 63)),gV 65 62 64,Wb 66 65 3 3,jm 67 65 66,dW 68 65 (.bin .neq (.t 67) (.c (.str []))),iR 69 62 (.pick (.t 65) (.t 68) (me false)),sj 70 62 69,MR 54 70] (.cond (.t 54) (aM [gH 4 1] .ret) (aM [MR 72 7,MR 73 72,Wb 74 73 3 4,jm 75 73 74,dW 76 73 (.call Oo [(.t 75)]),dW 77 73 (.not (.t 76)),jT 78 73 77,MR 79 78,gV 80 79 7,iR 81 79 (.not (.t 80)),gV 82 79 81,Wb 83 82 3 4,jm 84 82 83,dW 85 82 (.bin .neq (.t 84) (.c (.str []))),iR 86 79 (.pick (.t 82) (.t 85) (me false)),sj 87 79 86,MR 71 87] (.cond (.t 71) (aM [gH 4 1] .ret) (aM [MR 89 8,MR 90 89,Wb 91 90 2 3,jm 92 90 91,dW 93 90 (.bin .lss (.t 92) (jS 0)),jT 94 90 93,MR 88 94] (.cond (.t 88) (aM [gH 4 6] .ret) (aM [ep 96 2 0,fm 97 96,MR 98 97,cU 99 98 8,dW 100 98 (.not (.t 99)),jT 101 98 100,MR 102 101,Wb 103 102 3 0,jm 104 102 103,dW 105 102 (.bin .neq (.t 104) (jS 7)),jT 106 102 105,MR 95 106] (.cond (.t 95) (aM [gH 4 4] .ret) .skip))))))))))) (aM [gH 4 0] .ret)))))))
set_option maxHeartbeats 4000000 in
def afZ {P:Program} {G:Nat→Option (List IV)} {akT No Vs Oo:Nat} (hF:aw P G akT=some (107,[(none,4)],(Wy No Vs Oo).bare)) (x:Node) (k ta:Int) (co:List Tree) (na st:Bs)
  (hC:au P G No [.list (dq co)] (.bool (content co))) (hN:au P G Vs [.str na] (.bool (named na))) (hP:au P G Oo [.str st] (.bool (plain st)))
  (hk:k=1∨k=2∨k=3∨k=4∨k=5∨k=6∨k=7∨k=8∨k=9∨k=10) :
  au P G akT [x.av,(⟨k,ta,co,na,st⟩:Op).av] (.int .i64 (XS x ⟨k,ta,co,na,st⟩)):=by
 refine aR hF N7 (by simp[ah,AV.an,Op.av,Node.av]) Pv ?_;unfold Wy;clear hF;rcases hk with rfl|rfl|rfl|rfl|rfl|rfl|rfl|rfl|rfl|rfl
 all_goals
  simp only[↓aX,mX,seval,Int.reduceBEq,Int.reduceBNe,tQ]
  repeat' (first
   |(refine ay hC ?_;simp only[↓aX,mX,seval,Int.reduceBEq,Int.reduceBNe,tQ])
   |(refine ay hN ?_;simp only[↓aX,mX,seval,Int.reduceBEq,Int.reduceBNe,tQ])
   |(refine ay hP ?_;simp only[↓aX,mX,seval,Int.reduceBEq,Int.reduceBNe,tQ])
   |(refine AU (fun h=> ?_) (fun h=> ?_)<;>try simp only[h,↓aX,mX,seval,Int.reduceBEq,Int.reduceBNe,tQ])
   |(refine ahq (fun h=> ?_) (fun h=> ?_)<;>try simp only[h,↓aX,mX,seval,Int.reduceBEq,Int.reduceBNe,tQ]))
  all_goals simp_all[XS,kC,kN,kT,kB]
def ag7 {P:Program} {G:Nat→Option (List IV)} {akT No Vs Oo:Nat} (hF:aw P G akT=some (107,[(none,4)],(Wy No Vs Oo).bare)) (x:Node) (o:Op) (h1:1≤o.kind) (h2:o.kind≤10)
  (hC:au P G No [.list (dq o.content)] (.bool (content o.content))) (hN:au P G Vs [.str o.name] (.bool (named o.name))) (hP:au P G Oo [.str o.s] (.bool (plain o.s))) :
  au P G akT [x.av,o.av] (.int .i64 (XS x o)):=by
 obtain⟨k,ta,co,na,st⟩:=o;simp only at h1 h2 hC hN hP;have h:k=1∨k=2∨k=3∨k=4∨k=5∨k=6∨k=7∨k=8∨k=9∨k=10:=tM
 exact afZ hF x k ta co na st hC hN hP h

section
variable {K:Kx} {β:Lb→Option Nat} {env:Env} {H:Hp} {a:Act} {w:World}
def af0 (hr:aH K β env H a w) {l:Lb} {sz:Nat} {y:IV} {v:Value} (hl:H l= .live ⟨sz,aB [y]⟩) (hf:l.fresh=true) (FO:Flat [y])
  (hv:RV w β H (Im K β H) (.ptr l sz 0 0) v):RV w β (bD H l .dead) (Im K β (bD H l .dead)) (.lptr y.cells) v:=by
 have aK:∀q,live (bD H l .dead) q→live H q∧q≠l:=by
  rintro q ⟨r,h⟩;by_cases e:q=l
  ·subst e;simp at h
  rw[aq _ _ e] at h;exact⟨⟨r,h⟩,e⟩
 have hk:W4 w w (Im K β H) (Im K β (bD H l .dead)):=⟨fun k hk hs=>⟨⟨hk.1,fun q hq=>hk.2 q (aK q hq).1⟩,hs,rfl⟩⟩;simp only[RV] at hv;obtain⟨ad,rfl,h5⟩:=hv;obtain⟨g,e1,e2⟩:=h5 ⟨_,hl⟩;simp only[I2,kf] at e2;obtain⟨cur,e0,cap,k1,k2,k3,k4,k5⟩:=(hr.rows l _ hl).block e1;have EN:Im K β (bD H l .dead) g:=⟨.inr (hr.fr l g ⟨_,hl⟩ hf e1),fun q hq hb=>(aK q hq).2 (hr.inj q l g (aK q hq).1 ⟨_,hl⟩ hb e1)⟩;simp only[RV];refine⟨g,0,by rw[e2],EN,(vN.1 k1).1,Xz _ _ _ (fun j z hz=> ?_)⟩;obtain⟨u,q1,q2⟩:=k5 0 j (y.cells.map IV.dQ) z.dQ Qt (by simp[hz]);refine⟨u,?_,pX hk (FO y N7 z (dc hz)) q2⟩;rw[cell_of_row w g _ cur e0 (0,0) k1,←q1];congr 1;omega
end
def Yv {S:St} {env:Env} {H:Hp} {l:Lb} {sz d:Nat} {y:IV} (hd:env d= .ptr l sz 0 0) (hl:H l= .live ⟨sz,aB [y]⟩) (hf:l.fresh=true) (FO:Flat [y]) :
  nQ S env H (put env d (.lptr y.cells)) (bD H l .dead):=by
 intro K β a w _ _ hr;have hv:=hr.N8 d;rw[hd] at hv;exact⟨β,um (hr.kill l (by rw[hl];simp)) d (af0 hr hl hf FO hv) Pv⟩
end Go.Am
