import Derived.Test.YtfinkeaikbmpgaaKC7
import Derived.Test.YtfinkeaikbmpgaaKT15
set_option linter.unusedSimpArgs false
set_option linter.unusedVariables false
set_option linter.unnecessarySimpa false
set_option linter.defProp false
/- Changes: called otherwise and as it was again; an attribute set and dropped. -/
namespace Go.Am
open Go Go.RowKit
abbrev Ny:=Nat→Bool→Bs→List Attr→Bs×List Attr
def Ny.seq (f g:Ny):Ny:=fun n t s as=>g n t (f n t s as).1 (f n t s as).2
def fO (l:List Op):Ny:=fun n t s as=>(if t then eU l n s else fg l n s,cL l n as)
theorem DU {t:Tree} (ht:t.iu=true) (o:Op):eH (bF t) [o]=0↔yG t o:=by
 rw[n7 ht];simp
end Go.Am

/- topiarykeep: called otherwise and as it was again. -/
set_option pp.deepTerms false
set_option pp.deepTerms.threshold 5
set_option maxRecDepth 20000
namespace Go.Am
open Go Go.RowKit
theorem xb (o:Op) (h1:di o.content≤2^22) (h2:o.name.length≤2^22) (h3:o.s.length≤2^22):Gj [o]:=by
 refine⟨by simp,fun x hx=> ?_⟩;simp only[List.mem_singleton] at hx;subst hx;exact⟨h1,h2,h3⟩
theorem Bh {d:Doc} (hd:kY d≤2^22) (l:List Op):kY (eI d l).1≤2^22:=by
 by_cases he:(eI d l).2=0
 ·obtain⟨t,ht,rfl,hc,hg,h1⟩:=tZ he;rw[h1];have:=wg (gN t l);have:=vb hg;have PA:(2:Nat)^22=4194304:=by decide
  omega
 ·rw[yH he];exact hd
section
variable {P:Program} {G:Nat→Option (List IV)}
end
end Go.Am

/- Changes: elements put in ahead of a node, and taken out again. -/
namespace Go.Am
open Go Go.RowKit
mutual
def Tree.pre (n:Nat) (r:List Tree) (off:Nat):Tree→Tree
 | .mk t s as ks=> .mk t s as (jF n r (off+1) ks)
def jF (n:Nat) (r:List Tree) (off:Nat):List Tree→List Tree
 |[]=>[]
 |k::z=>(if off=n then r else [])++k.pre n r off::jF n r (off+k.dg) z
end
theorem xc (n:Nat) (r:List Tree) (off:Nat) (x:Tree):(x.pre n r off).text=x.text:=by cases x;rfl
mutual
theorem o3 (n:Nat) (r:List Tree):∀(x:Tree) (off:Nat),(n≤off∨off+x.dg≤n)→x.pre n r off=x
 | .mk t s as ks,off,h=>by
  simp only[Tree.dg] at h;rw[Tree.pre,ku n r ks (off+1) (by omega)]
theorem ku (n:Nat) (r:List Tree):∀(xs:List Tree) (off:Nat),(n<off∨off+bC xs≤n)→jF n r off xs=xs
 |[],_,_=>rfl
 |x::z,off,h=>by
  simp only[bC] at h;have:=x.cu;rw[jF,if_neg (by omega),o3 n r x off (by omega),ku n r z (off+x.dg) (by omega)];rfl
end
mutual
theorem vh (n:Nat):∀(x:Tree) (off:Nat),x.pre n [] off=x
 | .mk t s as ks,off=>by rw[Tree.pre,xd n ks (off+1)]
theorem xd (n:Nat):∀(xs:List Tree) (off:Nat),jF n [] off xs=xs
 |[],_=>rfl
 |x::z,off=>by rw[jF,vh n x off,xd n z (off+x.dg),ite_self];rfl
end
theorem sr (n:Nat) (r:List Tree) (k:Tree) (b:List Tree):∀(a:List Tree) (off:Nat),off+bC a≤n→n<off+bC a+k.dg→jF n r off (a++k::b)=a++((if off+bC a=n then r else [])++k.pre n r (off+bC a)::b)
 |[],off,h1,h2=>by
  simp only[bC,Nat.add_zero] at h1 h2;simp only[List.nil_append,jF,bC,Nat.add_zero];rw[ku n r b (off+k.dg) (by omega)];rfl
 |x::z,off,h1,h2=>by
  simp only[bC] at h1 h2;have:=x.cu;simp only[List.cons_append,jF,bC];rw[if_neg (by omega),o3 n r x off (by omega),sr n r k b z (off+x.dg) (by omega) (by omega),Nat.add_assoc];rfl
mutual
theorem vi (n:Nat) {r l:List Tree} (h:bC r≤bC l):∀(x:Tree) (off:Nat),(x.pre n r off).dg≤(x.pre n l off).dg
 | .mk t s as ks,off=>by have:=xe n h ks (off+1);simp only[Tree.pre,Tree.dg];omega
theorem xe (n:Nat) {r l:List Tree} (h:bC r≤bC l):∀(xs:List Tree) (off:Nat),bC (jF n r off xs)≤bC (jF n l off xs)
 |[],_=>Nat.le_refl _
 |x::z,off=>by
  have h1:=vi n h x off;have h2:=xe n h z (off+x.dg);simp only[jF,eP,bC];split<;>(try simp only[bC])<;>omega
end
theorem Gv (n:Nat) (r:List Tree) (x:Tree) (off:Nat):x.dg≤(x.pre n r off).dg:=by
 have:=vi n (r:=[]) (l:=r) (by simp[bC]) x off
 rwa[vh] at this
mutual
theorem zY (n:Nat) {r l:List Tree} (h:ff r≤ff l):∀(x:Tree) (off:Nat),(x.pre n r off).dep≤(x.pre n l off).dep
 | .mk t s as ks,off=>by have:=xf n h ks (off+1);simp only[Tree.pre,Tree.dep];omega
theorem xf (n:Nat) {r l:List Tree} (h:ff r≤ff l):∀(xs:List Tree) (off:Nat),ff (jF n r off xs)≤ff (jF n l off xs)
 |[],_=>Nat.le_refl _
 |x::z,off=>by
  have h1:=zY n h x off;have h2:=xf n h z (off+x.dg);simp only[jF,mE,ff];split<;>(try simp only[ff])<;>omega
end
def HJ (r:List Tree):Prop:=∀x∈r,x.fy=true∧x.text=false
theorem yL {p:Option Bool}:∀{w:List Tree},dT p w=true→dT (some false) w=true
 |[],_=>rfl
 |x::z,h=>by
  simp only[dT,Bool.and_eq_true] at h ⊢;exact⟨h.1,by simp,h.2.2⟩
theorem ua {w:List Tree}:∀{r:List Tree} {p:Option Bool},HJ r→dT p w=true→dT p (r++w)=true
 |[],_,_,h=>h
 |x::z,p,hr,h=>by
  obtain⟨h1,h2⟩:=hr x (by simp);simp only[List.cons_append,dT,h1,h2,Bool.and_false,Bool.not_false,Bool.true_and];exact ua (fun y hy=>hr y (by simp[hy])) (yL h)
mutual
theorem su (n:Nat) {r:List Tree} (hr:HJ r):∀(x:Tree) (off:Nat),x.fy=true→(x.pre n r off).fy=true
 | .mk t s as ks,off,h=>by
  cases t with
  |true=>
   have:=(Tree.iU h rfl).1;simp only[Tree.kids] at this;subst this;exact h
  |false=>
   rw[Tree.rB _ rfl] at h ⊢;simp only[Tree.pre,Tree.s,Tree.attrs,Tree.kids,Bool.and_eq_true] at h ⊢;exact⟨h.1,h.2.1,sv n hr ks (off+1) none h.2.2⟩
theorem sv (n:Nat) {r:List Tree} (hr:HJ r):∀(xs:List Tree) (off:Nat) (p:Option Bool),dT p xs=true→dT p (jF n r off xs)=true
 |[],_,_,_=>rfl
 |x::z,off,p,h=>by
  simp only[dT,Bool.and_eq_true] at h;have h1:=su n hr x off h.1;have h2:=sv n hr z (off+x.dg) _ h.2.2
  have h3:dT p (x.pre n r off::jF n r (off+x.dg) z)=true:=by
   simp only[dT,Bool.and_eq_true,xc];exact⟨h1,h.2.1,h2⟩
  rw[jF];split
  ·exact ua hr h3
  ·exact h3
end
theorem Gw (h:Tree) (r:List Tree) {off:Nat} {p:Int} {x:Tree} {n:Nat} {q:Int} {y:Tree} (hs:Sub off p x n q y):off<n→∃q':Nat,Sub off p (x.pre n (h::r) off) n q' h:=by
 induction hs with
 |self=>intro h;omega
 |@rM off p x n q y a b k e hs ih=>
  intro _;have hr:=hs.xX;have hp:=y.cu;have e2:(x.pre n (h::r) off).kids=jF n (h::r) (off+1) x.kids:=by cases x;rfl
  rw[e,sr n (h::r) k b a (off+1) (by omega) (by omega)] at e2;by_cases e3:off+1+bC a=n
  ·rw[if_pos e3] at e2;refine⟨off,.rM a (r++k.pre n (h::r) (off+1+bC a)::b) h (by rw[e2];rfl) ?_⟩;rw[e3];exact .self _ _ _
  ·rw[if_neg e3] at e2;obtain⟨q',h5⟩:=ih (by omega);exact⟨q',.rM a b _ (by rw[e2];rfl) h5⟩
mutual
theorem xg (n:Nat) (l:List Tree):∀(x:Tree) (off:Nat),x.fy=true→x.km [⟨3,n,l,[],[]⟩] off=(if off=n then l else [])++[x.pre n l off]
 | .mk t s as ks,off,hf=>by
  have hk:=ub n l ks (off+1) fun x hx=>il (Tree.iT hf) x hx
  have e3:aY [(⟨3,n,l,[],[]⟩:Op)] 3 off=if off=n then l else []:=by
   have:=bI [] (⟨3,n,l,[],[]⟩:Op) 3 off;rw[List.nil_append] at this;rw[this];by_cases e:off=n
   ·subst e;simp[aY,lz]
   ·rw[if_neg e,if_neg (by rintro⟨_,h⟩;simp only at h;omega)];rfl
  have e0:∀k,k≠3→aY [(⟨3,n,l,[],[]⟩:Op)] k off=[]:=by
   intro k hk;unfold aY lz;rw[List.filter_cons_of_neg (by simp;omega)];rfl
  have eh:∀k,k≠3→cY [(⟨3,n,l,[],[]⟩:Op)] k off=false:=by
   intro k hk;unfold cY lz;rw[List.filter_cons_of_neg (by simp;omega)];rfl
  have e8:∀z,fg [(⟨3,n,l,[],[]⟩:Op)] off z=z:=by intro z;simp[fg,lz]
  have KD:∀z,eU [(⟨3,n,l,[],[]⟩:Op)] off z=z:=by intro z;simp[eU,lz]
  have e9:cL [(⟨3,n,l,[],[]⟩:Op)] off as=as:=by simp[cL,kl]
  simp only[Tree.km,e3,e0 1 (by omega),e0 2 (by omega),e0 4 (by omega),eh 5 (by omega),eh 6 (by omega),eh 7 (by omega),e8,e9,KD,hk,Tree.pre,Bool.false_eq_true,if_false,List.nil_append,List.append_nil,ite_self];cases t with
  |true=>
   have:=(Tree.iU hf rfl).1;simp only[Tree.kids] at this;subst this;rfl
  |false=>rfl
theorem ub (n:Nat) (l:List Tree):∀(xs:List Tree) (off:Nat),(∀x∈xs,x.fy=true)→turns [⟨3,n,l,[],[]⟩] off xs=jF n l off xs
 |[],_,_=>rfl
 |x::r,off,hf=>by simp[turns,jF,xg n l x off (hf x (by simp)),ub n l r (off+x.dg) fun z hz=>hf z (by simp[hz])]
end
theorem pJ (n off:Nat):(∀k,aY [(⟨5,n,[],[],[]⟩:Op)] k off=[])∧(∀k,k≠5→cY [(⟨5,n,[],[],[]⟩:Op)] k off=false)∧(∀z,fg [(⟨5,n,[],[],[]⟩:Op)] off z=z)∧(∀z,eU [(⟨5,n,[],[],[]⟩:Op)] off z=z) ∧
   (∀as,cL [(⟨5,n,[],[],[]⟩:Op)] off as=as)∧cY [(⟨5,n,[],[],[]⟩:Op)] 5 off=decide (off=n):=by
 refine⟨fun k=> ?_,fun k hk=> ?_,fun z=>by simp[fg,lz],fun z=>by simp[eU,lz],fun as=>by simp[cL,kl],?_⟩
 · unfold aY lz
   rw[List.filter_cons];split<;>simp
 · unfold cY lz
   rw[List.filter_cons_of_neg (by simp;omega)];rfl
 · by_cases e : off = n
   · subst e;simp[cY,lz]
   · unfold cY lz
     rw[List.filter_cons_of_neg (by simp;omega)];simp[e]
mutual
theorem vj (n:Nat):∀(x:Tree) (off:Nat),x.fy=true→(n<off∨off+x.dg≤n)→x.km [⟨5,n,[],[],[]⟩] off=[x]
 | .mk t s as ks,off,hf,h=>by
  simp only[Tree.dg] at h;have hk:=jf n ks (off+1) (fun x hx=>il (Tree.iT hf) x hx) (by omega);obtain⟨e0,eh,e8,KD,e9,e5⟩:=pJ n off;have e5:cY [(⟨5,n,[],[],[]⟩:Op)] 5 off=false:=by rw[e5];simp;omega
  simp only[Tree.km,e0,e5,eh 6 (by omega),eh 7 (by omega),e8,e9,KD,hk,Bool.false_eq_true,if_false,List.nil_append,List.append_nil,ite_self];cases t with
  |true=>
   have:=(Tree.iU hf rfl).1;simp only[Tree.kids] at this;subst this;rfl
  |false=>rfl
theorem jf (n:Nat):∀(xs:List Tree) (off:Nat),(∀x∈xs,x.fy=true)→(n<off∨off+bC xs≤n)→turns [⟨5,n,[],[],[]⟩] off xs=xs
 |[],_,_,_=>rfl
 |x::r,off,hf,h=>by
  simp only[bC] at h;simp[turns,vj n x off (hf x (by simp)) (by omega),jf n r (off+x.dg) (fun z hz=>hf z (by simp[hz])) (by omega)]
end
mutual
theorem xh (n:Nat) (h:Tree) (r:List Tree) (hr:HJ r):∀(x:Tree) (off:Nat),x.fy=true→off≠n→(x.pre n (h::r) off).km [⟨5,n,[],[],[]⟩] off=[x.pre n r off]
 | .mk t s as ks,off,hf,hn=>by
  have hk:=uc n h r hr ks (off+1) fun x hx=>il (Tree.iT hf) x hx
  obtain⟨e0,eh,e8,KD,e9,e5⟩:=pJ n off;have e5:cY [(⟨5,n,[],[],[]⟩:Op)] 5 off=false:=by rw[e5];simpa using hn
  simp only[Tree.pre,Tree.km,e0,e5,eh 6 (by omega),eh 7 (by omega),e8,e9,KD,hk,Bool.false_eq_true,if_false,List.nil_append,List.append_nil,ite_self];cases t with
  |true=>
   have:=(Tree.iU hf rfl).1;simp only[Tree.kids] at this;subst this;rfl
  |false=>rfl
theorem uc (n:Nat) (h:Tree) (r:List Tree) (hr:HJ r):∀(xs:List Tree) (off:Nat),(∀x∈xs,x.fy=true)→turns [⟨5,n,[],[],[]⟩] off (jF n (h::r) off xs)=jF n r off xs
 |[],_,_=>rfl
 |k::z,off,hf=>by
  have Sb:=hf k (by simp);have hp:=k.cu;have Ge:=h.cu;by_cases e:off=n
  ·subst e;simp only[jF,if_true];rw[o3 off _ k off (.inl (Nat.le_refl _)),o3 off _ k off (.inl (Nat.le_refl _)),ku off _ z _ (.inl (by omega)),ku off _ z _ (.inl (by omega))];obtain⟨e0,eh,e8,KD,e9,e5⟩:=pJ off off;simp only[List.cons_append,turns];rw[jf off (r++k::z) (off+h.dg) (fun x hx=> ?_) (.inl (by omega)),Tree.u5,e0 3,e0 4,eh 6 (by omega),e5]
   ·simp
   ·rcases List.mem_append.1 hx with hx|hx
    ·exact(hr x hx).1
    ·exact hf x hx
  ·simp only[jF,if_neg e,List.nil_append,turns];rw[xh n h r hr k off Sb e];by_cases mn:off<n∧n<off+k.dg
   ·have hc:=Gv n (h::r) k off;rw[ku n _ z _ (.inl (by omega)),ku n _ z _ (.inl (by omega)),jf n z _ (fun x hx=>hf x (by simp[hx])) (.inl (by omega))];rfl
   ·rw[o3 n (h::r) k off (by omega),uc n h r hr z (off+k.dg) fun x hx=>hf x (by simp[hx])];rfl
end
theorem Gx {d:Doc} {n:Int} {l:List Tree} (hl:∀x∈l,x.text=false) (h:(eI d [⟨3,n,l,[],[]⟩]).2=0) :
  ∃D:Nat→Doc,(eI d [⟨3,n,l,[],[]⟩]).1=D 0∧D l.length=d∧(∀i,kY (D i)≤2^22)∧∀i x,l[i]?=some x→kK (D i) n=(x,0)∧eI (D i) [⟨5,n,[],[],[]⟩]=(D (i+1),0):=by
 obtain⟨t,ht,rfl,hc,hg,h1⟩:=tZ h;obtain⟨m,q,y,hy,hm,hw⟩:=((DU ht _).1 hc).ex;simp only at hm;subst hm;obtain⟨Qn,LY,MV,hf⟩:=(jt t).1 ht
 have Nw:content l=true∧¬q<0:=by
  have e1:kC 3=true:=by decide
  have e2:kN 3=false:=by decide
  have e3:kT 3=false:=by decide
  have e4:kB 3=true:=by decide
  simp only[bx,e1,e2,e3,e4,if_true,Bool.true_and,Bool.false_eq_true,if_false,Tree.node] at hw;constructor
  ·refine Classical.byContradiction fun dm=> ?_
   simp[dm] at hw
  ·intro hq;simp[hq] at hw;split at hw<;>simp at hw
 have vv:m≠0:=by
  rintro rfl;obtain⟨_,e⟩:=fh hy (.self 0 (-1) t);exact Nw.2 (by omega)
 have qM:HJ l:=by
  have h5:=Nw.1;unfold content at h5;simp only[Bool.and_eq_true] at h5;exact fun x hx=>⟨il h5.2.2 x hx,hl x hx⟩
 have Qt:∀{r:List Tree},HJ r→G8 false (t.pre m r 0).kids=true:=fun hr=>po none _ (Tree.iT (su m hr t 0 hf))
 have hT:gN t [⟨3,m,l,[],[]⟩]=t.pre m l 0:=by
  have e:=xg m l t 0 hf;rw[if_neg (Ne.symm vv),List.nil_append] at e
  have e3:aY [(⟨3,(m:Int),l,[],[]⟩:Op)] 3 0=[]:=by
   unfold aY lz;rw[List.filter_cons_of_neg (by simp;omega)];rfl
  have h1:=w7 e e3 (by simp[aY,lz]) (by simp[cY,lz]) (by simp[cY,lz]);unfold gN;rw[h1,tm (Qt qM)];cases t.pre m l 0;rfl
 rw[hT] at hg h1;obtain⟨_,gd,gc,_⟩:=(jt _).1 hg;have Kj:∀i,HJ (l.drop i):=fun i x hx=>qM x (List.mem_of_mem_drop hx)
 have DV:∀i,(t.pre m (l.drop i) 0).iu=true:=by
  intro i;have e1:l=l.take i++l.drop i:=(List.take_append_drop i l).symm
  have c1:bC (l.drop i)≤bC l:=by
   have:=eP (l.take i) (l.drop i);rw[List.take_append_drop] at this;omega
  have c2:ff (l.drop i)≤ff l:=by
   have:=mE (l.take i) (l.drop i);rw[List.take_append_drop] at this;omega
  have:=vi m c1 t 0;have:=zY m c2 t 0;exact(jt _).2 ⟨by rw[xc];exact Qn,by omega,by omega,su m (Kj i) t 0 hf⟩
 refine⟨fun i=>bF (t.pre m (l.drop i) 0),by rw[h1];rfl,by simp only[List.drop_length,vh],fun i=> ?_,fun i x hx=> ?_⟩
 ·have PA:(2:Nat)^22=4194304:=by decide
  have:=wg (t.pre m (l.drop i) 0);have:=vb (DV i);simp only;omega
 ·have e:=drop_eq hx;have Nz:=DV i;have Sc:=DV (i+1);obtain⟨q',hs⟩:=Gw x (l.drop (i+1)) hy (by omega);simp only;rw[e] at Nz ⊢;refine⟨wa Nz hs,?_⟩;have s5:=hl x (List.mem_of_getElem? hx)
  have n9:yG (t.pre m (x::l.drop (i+1)) 0) ⟨5,m,[],[],[]⟩:=by
   refine⟨⟨m,q',x,hs,rfl,?_⟩,by simp,by simp⟩;simp[bx,kC,kN,kT,kB,Tree.node,s5]
  have Sd:gN (t.pre m (x::l.drop (i+1)) 0) [⟨5,m,[],[],[]⟩]=t.pre m (l.drop (i+1)) 0:=by
   have h1:=w7 (xh m x (l.drop (i+1)) (Kj (i+1)) t 0 hf (Ne.symm vv)) (by simp[aY,lz]) (by simp[aY,lz]) (by simp[cY,lz]) (by
    unfold cY lz;rw[List.filter_cons_of_neg (by simp;omega)];rfl)
   unfold gN;rw[h1,tm (Qt (Kj (i+1)))];cases t.pre m (l.drop (i+1)) 0;rfl
  rw[lW Nz ((DU Nz _).2 n9),Sd,if_pos Sc]
end Go.Am

/- topiarykeep: elements put in ahead of a node, and taken out again. -/
set_option pp.deepTerms false
set_option pp.deepTerms.threshold 8
set_option maxRecDepth 20000
namespace Go.Am
open Go Go.RowKit
section
variable {P:Program} {G:Nat→Option (List IV)}
def e7 (cm bB h_ cy cS:Nat):AC:=
(.seq (.aM [⟨some 3,none,.box (.t 0)⟩,⟨some 6,none,.ak (.c (.bool false))⟩]) (.seq (.seq (.aM [⟨some 15,none,.ak (.t 2)⟩,⟨some 16,none,.len (.t 15)⟩,⟨some 17,none,.ak (.c (.int .i64 0))⟩]) (.block 0 (.loop (.seq (.aM [⟨some 18,none,.bin .lss (.t 17) (.t 16)⟩]) (.seq (.cond (.t 18) .skip (.exit 0)) (.seq (.block 1 (.seq (.aM [⟨some 19,none,.fJ (.t 15) (.t 17) 4⟩,⟨some 20,none,.load (some 4) (.t 19)⟩,⟨some 8,none,.new [(.bool false),(.str []),.nil0,.nil0]⟩,⟨none,none,.store 4 (.t 8) (.t 20)⟩]) (.seq (.aM [⟨some 21,none,.bV (.t 8) 0⟩,⟨some 22,none,.load none (.t 21)⟩]) (.cond (.t 22) (.seq (.aM [⟨some 23,none,.call cm []⟩,⟨some 6,none,.ak (.t 23)⟩]) .ret) .skip)))) (.aM [⟨some 24,none,.bin .add (.t 17) (.c (.int .i64 1))⟩,⟨some 17,none,.ak (.t 24)⟩]))))))) (.seq (.aM [⟨some 26,none,.load (some 1) (.t 3)⟩,⟨some 27,none,.ak (.t 1)⟩,⟨some 28,none,.ak (.t 2)⟩,⟨some 29,none,(.o7 [(.int .i64 0),(.int .i64 0),.nil0,(.str []),(.str [])] [(0,(1,(.c (.int .i64 3)))),(1,(1,(.t 27))),(2,(1,(.t 28)))])⟩,⟨some 30,none,.lits 1 5 [(.int .i64 0),(.int .i64 0),.nil0,(.str []),(.str [])] [(0,(.t 29))]⟩,⟨some 31,none,.call bB [(.t 26),(.t 30)]⟩,⟨some 25,none,.ak (.t 31)⟩,⟨some 32,none,.ext (.t 25) 0⟩,⟨some 33,none,.ext (.t 25) 1⟩,⟨some 9,none,.new [.nil0]⟩,⟨none,none,.store 1 (.t 9) (.t 32)⟩,⟨some 10,none,.ak (.t 33)⟩]) (.seq (.seq (.aM [⟨some 34,none,.ak (.t 10)⟩,⟨some 35,none,.bin .neq (.t 34) (.c (.int .i64 0))⟩,⟨some 36,none,.ak (.t 35)⟩,⟨some 37,(some (36,false)),(.call cm [])⟩,⟨some 38,(some (36,false)),(.not (.t 37))⟩,⟨some 39,none,.pick (.t 36) (.c (.bool true)) (.t 38)⟩]) (.cond (.t 39) (.seq (.aM [⟨some 40,none,.call cm []⟩,⟨some 6,none,.ak (.t 40)⟩]) .ret) .skip)) (.seq (.seq (.aM [⟨some 41,none,.ak (.t 2)⟩,⟨some 42,none,.len (.t 41)⟩,⟨some 43,none,.ak (.c (.int .i64 0))⟩]) (.block 2 (.loop (.seq (.aM [⟨some 44,none,.bin .lss (.t 43) (.t 42)⟩]) (.seq (.cond (.t 44) .skip (.exit 2)) (.seq (.block 3 (.seq (.aM [⟨some 45,none,.fJ (.t 41) (.t 43) 4⟩,⟨some 46,none,.load (some 4) (.t 45)⟩,⟨some 12,none,.new [(.bool false),(.str []),.nil0,.nil0]⟩,⟨none,none,.store 4 (.t 12) (.t 46)⟩]) (.seq (.aM [⟨some 48,none,.load (some 1) (.t 9)⟩,⟨some 49,none,.ak (.t 1)⟩,⟨some 50,none,.call h_ [(.t 48),(.t 49)]⟩,⟨some 47,none,.ak (.t 50)⟩,⟨some 51,none,.ext (.t 47) 0⟩,⟨some 52,none,.ext (.t 47) 1⟩,⟨some 13,none,.new [(.bool false),(.str []),.nil0,.nil0]⟩,⟨none,none,.store 4 (.t 13) (.t 51)⟩,⟨some 14,none,.ak (.t 52)⟩]) (.seq (.seq (.aM [⟨some 53,none,.ak (.t 14)⟩,⟨some 54,none,.bin .neq (.t 53) (.c (.int .i64 0))⟩,⟨some 55,none,.ak (.t 54)⟩,⟨some 56,(some (55,false)),(.load (some 4) (.t 12))⟩,⟨some 57,(some (55,false)),(.load (some 4) (.t 13))⟩,⟨some 58,(some (55,false)),(.call cy [(.t 56),(.t 57)])⟩,⟨some 59,(some (55,false)),(.not (.t 58))⟩,⟨some 60,none,.pick (.t 55) (.c (.bool true)) (.t 59)⟩]) (.cond (.t 60) (.seq (.aM [⟨some 6,none,.ak (.c (.bool false))⟩]) .ret) .skip)) (.seq (.aM [⟨some 62,none,.load (some 1) (.t 9)⟩,⟨some 63,none,.ak (.t 1)⟩,⟨some 64,none,(.o7 [(.int .i64 0),(.int .i64 0),.nil0,(.str []),(.str [])] [(0,(1,(.c (.int .i64 5)))),(1,(1,(.t 63)))])⟩,⟨some 65,none,.lits 1 5 [(.int .i64 0),(.int .i64 0),.nil0,(.str []),(.str [])] [(0,(.t 64))]⟩,⟨some 66,none,.call bB [(.t 62),(.t 65)]⟩,⟨some 61,none,.ak (.t 66)⟩,⟨some 67,none,.ext (.t 61) 0⟩,⟨some 68,none,.ext (.t 61) 1⟩,⟨none,none,.store 1 (.t 9) (.t 67)⟩,⟨some 14,none,.ak (.t 68)⟩]) (.seq (.aM [⟨some 69,none,.ak (.t 14)⟩,⟨some 70,none,.bin .neq (.t 69) (.c (.int .i64 0))⟩]) (.cond (.t 70) (.seq (.aM [⟨some 6,none,.ak (.c (.bool false))⟩]) .ret) .skip))))))) (.aM [⟨some 71,none,.bin .add (.t 43) (.c (.int .i64 1))⟩,⟨some 43,none,.ak (.t 71)⟩]))))))) (.seq (.aM [⟨some 72,none,.load (some 1) (.t 9)⟩,⟨some 73,none,.load (some 1) (.t 3)⟩,⟨some 74,none,.call cS [(.t 72),(.t 73)]⟩,⟨some 6,none,.ak (.t 74)⟩]) .ret))))))
set_option maxHeartbeats 1600000 in
theorem sw {g9 cm bB h_ cy cS:Nat} (hF:aA P G g9=some (75,[(none,6)],(e7 cm bB h_ cy cS).bare)) (d:Doc) (n:Int) (l:List Tree) (hd:kY d≤2^22) (hl:di l≤2^22)
   (hA:vf P G bB) (hC:az P G cm [] (.bool true)) (Se:∀(e:Doc) (k:Int),kY e≤B→az P G h_ [Doc.av e,.int .i64 k] (.dU [(kK e k).1.av,.int .i64 (kK e k).2]))
   (Sf:∀x y:Tree,x.wt≤B→az P G cy [x.av,y.av] (.bool (vp x y))) (hS:Ds P G cS) :
   az P G g9 [Doc.av d,.int .i64 n,.list (dc l)] (.bool true):=by
 refine bm hF (by simp) (by simp[ax,AV.aI,Doc.av]) (by simp[AV.aI]) ?_
 have pw:B=1073741824:=rfl
 have PA:(2:Nat)^22=4194304:=by decide
 have PL:=fu l
 have ho:Gj [(⟨3,n,l,[],[]⟩:Op)]:=xb _ hl (by simp) (by simp)
 have Sg:Gj [(⟨5,n,[],[],[]⟩:Op)]:=xb _ (by simp[di]) (by simp) (by simp)
 unfold e7
 simp only[↓aX,mX,reduceCtorEq,Nat.reduceEqDiff,Nat.reduceLT,Nat.reduceLeDiff,Nat.reduceAdd,Nat.reduceMul,Int.reduceToNat,Int.reduceLE,Int.reduceLT,Doc.av,bb]
 refine jX (σ:={i:Nat // i≤l.length∧∀j x,j<i→l[j]?=some x→x.text=false}) [.loc 3]
   (fun p=>[(1,.int .i64 n),(2,.list (dc l)),(3,.ptr (.loc 3) 1 0 0),(15,.list (dc l)),(16,.int .i64 l.length),(17,.int .i64 p.1)])
   (fun _=>[(.loc 3,⟨1,[[.list (d.map Node.iv)]]⟩)])
   (fun p=>l.length - p.1) ⟨0,by simp⟩ (fun _=>rfl) (by decide) (by simp[ax,AV.aI]) (by
     intro p r hr cs b5 l hl
     simp only[List.mem_singleton] at hr
     subst hr
     simp only[List.mem_singleton] at b5;subst b5;simp[ax,AV.aI] at hl) ?_ ?_
 · refine ma ?_ (by repeat' constructor) ?_
   · intro l hl hu
     exfalso;apply hu
     cases l<;>simp_all[Lb.fresh,ai,Hp.none]
   · simp[rF,uQ,ai]
 · rintro ⟨i,hi,PE⟩
   simp only[↓aX,mX,reduceCtorEq,Nat.reduceEqDiff,Nat.reduceLT,Nat.reduceLeDiff,Nat.reduceAdd,Nat.reduceMul,Int.reduceToNat,Int.reduceLE,Int.reduceLT,jQ,iD]
   by_cases cj:i<l.length
   · rw[show decide ((i:Int)<(l.length:Int))=true by simpa using cj]
     obtain⟨x,hx⟩:∃x,l[i]?=some x:=⟨_,List.getElem?_eq_getElem cj⟩
     have xV:IntKind.i64.wrap ((i:Int)+1)=((i+1:Nat):Int):=wrap64 (by omega) (by omega)
     simp only[↓aX,mX,reduceCtorEq,Nat.reduceEqDiff,Nat.reduceLT,Nat.reduceLeDiff,Nat.reduceAdd,Nat.reduceMul,Int.reduceToNat,Int.reduceLE,Int.reduceLT,gC,hx,Option.map_some,l9,Tree.bL,Tree.cs]
     cases hT:x.text with
     |true=>
       simp only[↓aX,mX,reduceCtorEq,Nat.reduceEqDiff,Nat.reduceLT,Nat.reduceLeDiff,Nat.reduceAdd,Nat.reduceMul,Int.reduceToNat,Int.reduceLE,Int.reduceLT]
       refine aO hC ?_
       simp only[↓aX,mX,reduceCtorEq,Nat.reduceEqDiff,Nat.reduceLT,Nat.reduceLeDiff,Nat.reduceAdd,Nat.reduceMul,Int.reduceToNat,Int.reduceLE,Int.reduceLT]
     |false=>
       simp only[↓aX,mX,reduceCtorEq,Nat.reduceEqDiff,Nat.reduceLT,Nat.reduceLeDiff,Nat.reduceAdd,Nat.reduceMul,Int.reduceToNat,Int.reduceLE,Int.reduceLT,xV]
       refine⟨⟨i+1,cj,fun j z hj hz=> ?_⟩,by simp only;omega,ma ?_ (by repeat' constructor) ⟨rfl,trivial⟩⟩
       · by_cases ej : j = i
         · subst ej
           rw[hx] at hz
           cases hz
           exact hT
         · exact PE j z (by omega) hz
       · intro l hl hu
         exfalso;apply hu
         cases l<;>simp_all[Lb.fresh,ai,Hp.none]
   · rw[show decide ((i:Int)<(l.length:Int))=false by simpa using cj]
     have gf:∀x∈l,x.text=false:=by
       intro x hx
       obtain⟨j,hj⟩:=List.getElem?_of_mem hx
       have:=(List.getElem?_eq_some_iff.1 hj).1
       exact PE j x (by omega) hj
     simp only[↓aX,mX,reduceCtorEq,Nat.reduceEqDiff,Nat.reduceLT,Nat.reduceLeDiff,Nat.reduceAdd,Nat.reduceMul,Int.reduceToNat,Int.reduceLE,Int.reduceLT]
     refine aO ((hA _ _ hd ho).of rfl) ?_
     have hv:=@Gx d n l gf
     have mT:=Bh hd [(⟨3,n,l,[],[]⟩:Op)]
     generalize NQ:eI d [(⟨3,n,l,[],[]⟩:Op)]=A1 at *
     obtain⟨D1,r1⟩:=A1
     simp only[] at hv mT
     simp only[↓aX,mX,reduceCtorEq,Nat.reduceEqDiff,Nat.reduceLT,Nat.reduceLeDiff,Nat.reduceAdd,Nat.reduceMul,Int.reduceToNat,Int.reduceLE,Int.reduceLT,Doc.av]
     by_cases hr:r1=0
     case neg=>
       rw[show(r1 !=0)=true by simpa using hr]
       simp only[↓aX,mX,reduceCtorEq,Nat.reduceEqDiff,Nat.reduceLT,Nat.reduceLeDiff,Nat.reduceAdd,Nat.reduceMul,Int.reduceToNat,Int.reduceLE,Int.reduceLT]
       refine aO hC ?_
       simp only[↓aX,mX,reduceCtorEq,Nat.reduceEqDiff,Nat.reduceLT,Nat.reduceLeDiff,Nat.reduceAdd,Nat.reduceMul,Int.reduceToNat,Int.reduceLE,Int.reduceLT]
     subst hr
     obtain⟨D,rfl,h2,Qu,v7⟩:=hv rfl
     simp only[↓aX,mX,reduceCtorEq,Nat.reduceEqDiff,Nat.reduceLT,Nat.reduceLeDiff,Nat.reduceAdd,Nat.reduceMul,Int.reduceToNat,Int.reduceLE,Int.reduceLT,Int.reduceBNe]
     refine aO hC ?_
     simp only[↓aX,mX,reduceCtorEq,Nat.reduceEqDiff,Nat.reduceLT,Nat.reduceLeDiff,Nat.reduceAdd,Nat.reduceMul,Int.reduceToNat,Int.reduceLE,Int.reduceLT,Bool.not_true,bb]
     clear PE hi cj
     refine jX (σ:={i:Nat // i≤l.length}) [.loc 3,.loc 9]
       (fun p=>[(1,.int .i64 n),(3,.ptr (.loc 3) 1 0 0),(9,.ptr (.loc 9) 1 0 0),(41,.list (dc l)),(42,.int .i64 l.length),(43,.int .i64 p.1)])
       (fun p=>[(.loc 3,⟨1,[[.list (d.map Node.iv)]]⟩),(.loc 9,⟨1,[[.list ((D p.1).map Node.iv)]]⟩)])
       (fun p=>l.length - p.1) ⟨0,by omega⟩ (fun _=>rfl) (by decide) (by simp[ax,AV.aI]) (by
         intro p r hr cs b5 l hl
         simp only[List.mem_cons,List.not_mem_nil,or_false] at hr
         rcases hr with rfl|rfl<;>(simp only[List.mem_singleton] at b5;subst b5;simp[ax,AV.aI] at hl)) ?_ ?_
     · refine ma ?_ (by repeat' constructor) ?_
       · intro l hl hu
         exfalso;apply hu
         cases l<;>simp_all[Lb.fresh,ai,Hp.none]
       · simp[rF,uQ,ai]
     · rintro⟨i,hi⟩
       simp only[↓aX,mX,reduceCtorEq,Nat.reduceEqDiff,Nat.reduceLT,Nat.reduceLeDiff,Nat.reduceAdd,Nat.reduceMul,Int.reduceToNat,Int.reduceLE,Int.reduceLT,jQ,iD]
       by_cases cj:i<l.length
       · rw[show decide ((i:Int)<(l.length:Int))=true by simpa using cj]
         obtain⟨x,hx⟩:∃x,l[i]?=some x:=⟨_,List.getElem?_eq_getElem cj⟩
         have xV:IntKind.i64.wrap ((i:Int)+1)=((i+1:Nat):Int):=wrap64 (by omega) (by omega)
         obtain⟨g1,g2⟩:=v7 i x hx
         have Qp:=pq (List.mem_of_getElem? hx)
         have M9:=Se (D i) n (by have:=Qu i;omega)
         rw[g1] at M9
         have Qv:=hA (D i) _ (Qu i) Sg
         rw[g2] at Qv
         simp only[↓aX,mX,reduceCtorEq,Nat.reduceEqDiff,Nat.reduceLT,Nat.reduceLeDiff,Nat.reduceAdd,Nat.reduceMul,Int.reduceToNat,Int.reduceLE,Int.reduceLT,gC,hx,Option.map_some,l9,Tree.bL,Tree.cs]
         refine aO M9 ?_
         simp only[↓aX,mX,reduceCtorEq,Nat.reduceEqDiff,Nat.reduceLT,Nat.reduceLeDiff,Nat.reduceAdd,Nat.reduceMul,Int.reduceToNat,Int.reduceLE,Int.reduceLT,Tree.av,Int.reduceBNe]
         refine aO (Sf x x (by omega)) ?_
         rw[jq]
         simp only[↓aX,mX,reduceCtorEq,Nat.reduceEqDiff,Nat.reduceLT,Nat.reduceLeDiff,Nat.reduceAdd,Nat.reduceMul,Int.reduceToNat,Int.reduceLE,Int.reduceLT,Bool.not_true]
         refine aO (Qv.of rfl) ?_
         simp only[↓aX,mX,reduceCtorEq,Nat.reduceEqDiff,Nat.reduceLT,Nat.reduceLeDiff,Nat.reduceAdd,Nat.reduceMul,Int.reduceToNat,Int.reduceLE,Int.reduceLT,Doc.av,Int.reduceBNe,xV]
         refine⟨⟨i+1,cj⟩,by simp only;omega,ma ?_ (by repeat' constructor) ⟨rfl,rfl,trivial⟩⟩
         intro l hl hu
         exfalso;apply hu
         cases l<;>simp_all[Lb.fresh,ai,Hp.none]
       · rw[show decide ((i:Int)<(l.length:Int))=false by simpa using cj]
         have eJ:i=l.length:=by omega
         simp only[↓aX,mX,reduceCtorEq,Nat.reduceEqDiff,Nat.reduceLT,Nat.reduceLeDiff,Nat.reduceAdd,Nat.reduceMul,Int.reduceToNat,Int.reduceLE,Int.reduceLT]
         rw[eJ,h2]
         refine aO (hS d d (by omega)) ?_
         rw[jq]
         simp only[↓aX,mX,reduceCtorEq,Nat.reduceEqDiff,Nat.reduceLT,Nat.reduceLeDiff,Nat.reduceAdd,Nat.reduceMul,Int.reduceToNat,Int.reduceLE,Int.reduceLT]
end
end Go.Am
