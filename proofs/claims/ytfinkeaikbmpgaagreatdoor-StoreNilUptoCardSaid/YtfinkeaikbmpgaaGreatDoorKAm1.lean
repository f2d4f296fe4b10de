import Derived.WalkKit
set_option linter.unusedSimpArgs false
set_option linter.unusedVariables false
set_option linter.unnecessarySimpa false
set_option linter.defProp false
/- THE ABSTRACT MACHINE, part 1: abstract values, labelled rows, and what they say of a world. -/
namespace Go.Am
open Go Go.RowKit
inductive Lb where
 |loc (n:Nat)
 |par (n:Nat)
 |gen (n:Nat)
 |nest (l:Lb) (i j:Nat)
 deriving DecidableEq
def Lb.fresh:Lb→Bool
 | .loc _=>true
 | .nest l _ _=>l.fresh
 |_=>false
def Lb.entry:Lb→Bool
 | .par _=>true
 |_=>false
theorem Lb.eY {l:Lb} (h:l.entry=true):l.fresh=false:=by
 cases l<;>simp_all[Lb.entry,Lb.fresh]
def Lb.c8:Lb→Lb
 | .nest l _ j=> .nest l 0 j
 |l=>l
theorem iZ (n:Nat):(Lb.loc n).c8= .loc n:=rfl
theorem i_ (n:Nat):(Lb.par n).c8= .par n:=rfl
theorem ja (n:Nat):(Lb.gen n).c8= .gen n:=rfl
theorem gN (l:Lb) (i j:Nat):(Lb.nest l i j).c8= .nest l 0 j:=rfl
def Lb.app (l:Lb) (d:Nat):Lb:=if l.fresh then .loc d else .gen d
theorem Lb.bL (l:Lb) (d:Nat) (h:(l.app d).fresh=true):l.fresh=true:=by
 unfold Lb.app at h;split at h
 ·assumption
 ·simp[Lb.fresh] at h
inductive IV where
 |bool (b:Bool)
 |int (k:IntKind) (n:Int)
 |str (s:List UInt8)
 |list (xs:List IV)
 |agg (cs:List IV)
 |ifc (t:Nat)
def IV.cells:IV→List IV
 | .agg cs=>cs
 |x=>[x]
inductive AV where
 |any
 |un
 |bool (b:Bool)
 |int (k:IntKind) (n:Int)
 |str (s:List UInt8)
 |list (xs:List IV)
 |nil0
 |bY
 |cT
 |agg (cs:List AV)
 |eN (cs:List AV)
 |sl (l:Lb) (sz i n:Nat)
 |slk (l:Lb) (sz i n c:Nat)
 |ptr (l:Lb) (sz i j:Nat)
 |lptr (cs:List IV)
 |fn (f:Nat) (first cap:List AV)
 |ifc (t:Nat) (x:AV)
def IV.bV:IV→AV
 | .bool b=> .bool b
 | .int k n=> .int k n
 | .str s=> .str s
 | .list xs=> .list xs
 | .agg _=> .any
 | .ifc t=> .ifc t .any
def IV.av:IV→AV
 | .agg cs=> .agg (cs.map IV.bV)
 |x=>x.bV
structure Row where
 sz:Nat
 aQ:List (List AV)
inductive Slot where
 |unused
 |dead
 |live (r:Row)
abbrev Hp:=Lb→Slot
abbrev Env:=Nat→AV
def live (H:Hp) (l:Lb):Prop:=∃r,H l= .live r
def cG (w:World) (k:Nat):Option Nat:=
 match w.heap[k]? with
 |some (.cells c _ _)=>some c.size
 |_=>none
def oA (w:World) (Im:Nat→Prop) (n:Nat) (aQ:Nat→Nat→Nat→Prop) (v:Value):Prop:=
 ∃a c,v= .slice a n c∧n≤c∧c≤maxLen ∧
  (n=0∨∃b o sz,a=some ⟨b,o,none⟩∧Im b∧b<w.heap.size∧0<sz∧aQ b o sz)
mutual
def bA (w:World) (Im:Nat→Prop):IV→Value→Prop
 | .bool b,v=>v= .bool b
 | .int k n,v=>v= .int k n
 | .str s,v=>v= .string ⟨s.toArray⟩
 | .list xs,v=>oA w Im xs.length (fun b o sz=>ax w Im xs b o sz) v
 | .agg _,_=>False
 | .ifc t,v=>∃u,v= .iface t u
def ay (w:World) (Im:Nat→Prop):List IV→Nat→Nat→Prop
 |[],_,_=>True
 |x::r,b,o=>(∃v,w.cell? ⟨b,o,none⟩=some v∧bA w Im x v)∧ay w Im r b (o+1)
def bG (w:World) (Im:Nat→Prop):IV→Nat→Nat→Nat→Prop
 | .agg cs,b,o,sz=>sz=cs.length∧ay w Im cs b o
 | .bool x,b,o,sz=>sz=1∧∃v,w.cell? ⟨b,o,none⟩=some v∧v= .bool x
 | .int k n,b,o,sz=>sz=1∧∃v,w.cell? ⟨b,o,none⟩=some v∧v= .int k n
 | .str s,b,o,sz=>sz=1∧∃v,w.cell? ⟨b,o,none⟩=some v∧v= .string ⟨s.toArray⟩
 | .list xs,b,o,sz=>sz=1∧∃v,w.cell? ⟨b,o,none⟩=some v∧oA w Im xs.length (fun b o sz=>ax w Im xs b o sz) v
 | .ifc t,b,o,sz=>sz=1∧∃v,w.cell? ⟨b,o,none⟩=some v∧∃u,v= .iface t u
def ax (w:World) (Im:Nat→Prop):List IV→Nat→Nat→Nat→Prop
 |[],_,_,_=>True
 |x::r,b,o,sz=>bG w Im x b o sz∧ax w Im r b (o+sz) sz
end
theorem bx (w:World) (Im:Nat→Prop) (x:IV) (b o sz:Nat):bG w Im x b o sz↔sz=x.cells.length∧ay w Im x.cells b o:=by
 cases x<;>simp[bG,IV.cells,ay,bA]
structure bW (w w':World) (Im dT:Nat→Prop):Prop where
 im:∀k,Im k→k<w.heap.size→dT k∧k<w'.heap.size∧w'.heap[k]?=w.heap[k]?
theorem oA.mono {w w':World} {Im dT:Nat→Prop} (h:bW w w' Im dT) {n:Nat} {e e':Nat→Nat→Nat→Prop}
  (he:∀b o sz,Im b→b<w.heap.size→e b o sz→e' b o sz) {v:Value} (hv:oA w Im n e v):oA w' dT n e' v:=by
 obtain⟨a,c,h1,h2,h3,h4⟩:=hv;refine⟨a,c,h1,h2,h3,h4.imp id ?_⟩;rintro⟨b,o,sz,e1,e2,e3,e4,e5⟩;obtain⟨k1,k2,_⟩:=h.im b e2 e3;exact⟨b,o,sz,e1,k1,k2,e4,he _ _ _ e2 e3 e5⟩
theorem b5 {w w':World} {b o:Nat} (h:w'.heap[b]?=w.heap[b]?):w'.cell? ⟨b,o,none⟩=w.cell? ⟨b,o,none⟩:=
 World.cell?_of_block (w:=w) (a:=⟨b,o,none⟩) h
mutual
theorem bA.mono {w w':World} {Im dT:Nat→Prop} (h:bW w w' Im dT):∀(x:IV) (v:Value),bA w Im x v→bA w' dT x v
 | .bool b,v,hv=>by simpa[bA] using hv
 | .int k n,v,hv=>by simpa[bA] using hv
 | .str s,v,hv=>by simpa[bA] using hv
 | .list xs,v,hv=>by
  simp only[bA] at hv ⊢;exact oA.mono h (fun b o sz hb hs he=>ax.mono h xs b o sz hb hs he) hv
 | .agg _,v,hv=>by simp[bA] at hv
 | .ifc t,v,hv=>by simpa[bA] using hv
theorem ay.mono {w w':World} {Im dT:Nat→Prop} (h:bW w w' Im dT):∀(xs:List IV) (b o:Nat),Im b→b<w.heap.size→ay w Im xs b o→ay w' dT xs b o
 |[],_,_,_,_,_=>by simp[ay]
 |x::r,b,o,hb,hs,hv=>by
  simp only[ay] at hv ⊢;obtain⟨⟨v,h1,h2⟩,h3⟩:=hv;obtain⟨_,_,k3⟩:=h.im b hb hs;exact⟨⟨v,(b5 k3).trans h1,bA.mono h x v h2⟩,ay.mono h r b (o+1) hb hs h3⟩
theorem bG.mono {w w':World} {Im dT:Nat→Prop} (h:bW w w' Im dT):∀(x:IV) (b o sz:Nat),Im b→b<w.heap.size→bG w Im x b o sz→bG w' dT x b o sz
 | .agg cs,b,o,sz,hb,hs,hv=>by
  simp only[bG] at hv ⊢;exact⟨hv.1,ay.mono h cs b o hb hs hv.2⟩
 | .bool x,b,o,sz,hb,hs,hv=>by
  simp only[bG] at hv ⊢;obtain⟨h0,v,h1,h2⟩:=hv;exact⟨h0,v,(b5 (h.im b hb hs).2.2).trans h1,h2⟩
 | .int k n,b,o,sz,hb,hs,hv=>by
  simp only[bG] at hv ⊢;obtain⟨h0,v,h1,h2⟩:=hv;exact⟨h0,v,(b5 (h.im b hb hs).2.2).trans h1,h2⟩
 | .str s,b,o,sz,hb,hs,hv=>by
  simp only[bG] at hv ⊢;obtain⟨h0,v,h1,h2⟩:=hv;exact⟨h0,v,(b5 (h.im b hb hs).2.2).trans h1,h2⟩
 | .ifc t,b,o,sz,hb,hs,hv=>by
  simp only[bG] at hv ⊢;obtain⟨h0,v,h1,h2⟩:=hv;exact⟨h0,v,(b5 (h.im b hb hs).2.2).trans h1,h2⟩
 | .list xs,b,o,sz,hb,hs,hv=>by
  simp only[bG] at hv ⊢;obtain⟨h0,v,h1,h2⟩:=hv;exact⟨h0,v,(b5 (h.im b hb hs).2.2).trans h1,oA.mono h (fun b o sz hb hs he=>ax.mono h xs b o sz hb hs he) h2⟩
theorem ax.mono {w w':World} {Im dT:Nat→Prop} (h:bW w w' Im dT):∀(xs:List IV) (b o sz:Nat),Im b→b<w.heap.size→ax w Im xs b o sz→ax w' dT xs b o sz
 |[],_,_,_,_,_,_=>by simp[ax]
 |x::r,b,o,sz,hb,hs,hv=>by
  simp only[ax] at hv ⊢;exact⟨bG.mono h x b o sz hb hs hv.1,ax.mono h r b (o+sz) sz hb hs hv.2⟩
end
def l_ (w:World) (β:Lb→Option Nat) (l:Lb) (sz i c:Nat) (a:Option Addr):Prop:=
 c=0∨∃g S,β l=some g∧a=some ⟨g,i*sz,none⟩∧cG w g=some S∧(i+c)*sz=S
mutual
def RV (w:World) (β:Lb→Option Nat) (H:Hp) (Im:Nat→Prop):AV→Value→Prop
 | .any,_=>True
 | .un,v=>v=undef
 | .bool b,v=>v= .bool b
 | .int k n,v=>v= .int k n
 | .str s,v=>v= .string ⟨s.toArray⟩
 | .list xs,v=>bA w Im (.list xs) v
 | .nil0,v=>∃a,v= .slice a 0 0
 | .bY,v=>v= .pointer none
 | .cT,v=>v= .nilIface
 | .agg cs,v=>∃vs:List Value,v= .agg vs.toArray∧au w β H Im cs vs
 | .eN cs,v=>∃vs:List Value,v= .tuple vs.toArray∧au w β H Im cs vs
 | .sl l sz i n,v=>∃a c,v= .slice a n c∧n≤c∧c≤maxLen∧(0<n→a.isSome=true)∧(live H l→l_ w β l sz i c a)
 | .slk l sz i n c,v=>∃a,v= .slice a n c∧n≤c∧c≤maxLen∧(0<c→a.isSome=true)∧(live H l→l_ w β l sz i c a)
 | .ptr l sz i j,v=>∃a,v= .pointer (some a)∧(live H l→∃g,β l=some g∧a=⟨g,i*sz+j,none⟩)
 | .lptr cs,v=>∃b o,v= .pointer (some ⟨b,o,none⟩)∧Im b∧b<w.heap.size∧ay w Im cs b o
 | .fn f fs cs,v=>∃vs us:List Value,v= .func (.func f) vs.toArray us.toArray∧au w β H Im fs vs∧au w β H Im cs us
 | .ifc t x,v=>∃u,v= .iface t u∧RV w β H Im x u
def au (w:World) (β:Lb→Option Nat) (H:Hp) (Im:Nat→Prop):List AV→List Value→Prop
 |[],vs=>vs=[]
 |x::r,vs=>∃v us,vs=v::us∧RV w β H Im x v∧au w β H Im r us
end
mutual
def AV.aw:AV→List Lb
 | .sl l _ _ _=>[l]
 | .slk l _ _ _ _=>[l]
 | .ptr l _ _ _=>[l]
 | .agg cs=>ak cs
 | .eN cs=>ak cs
 | .fn _ fs cs=>ak fs++ak cs
 | .ifc _ x=>x.aw
 |_=>[]
def ak:List AV→List Lb
 |[]=>[]
 |x::r=>x.aw++ak r
end
structure bC (w w':World) (β β':Lb→Option Nat) (H H':Hp) (Im dT:Nat→Prop) (ls:List Lb):Prop extends bW w w' Im dT where
 lb:∀l∈ls,live H' l→live H l∧β' l=β l∧∀g S,β l=some g→cG w g=some S→cG w' g=some S
theorem bC.sub {w w':World} {β β':Lb→Option Nat} {H H':Hp} {Im dT:Nat→Prop} {ls ra:List Lb} (h:bC w w' β β' H H' Im dT ls) (hs:∀l∈ra,l∈ls) :
 bC w w' β β' H H' Im dT ra:=⟨h.tobW,fun l hl=>h.lb l (hs l hl)⟩
mutual
theorem RV.mono {w w':World} {β β':Lb→Option Nat} {H H':Hp} {Im dT:Nat→Prop}:∀(x:AV) (v:Value),bC w w' β β' H H' Im dT x.aw→RV w β H Im x v→RV w' β' H' dT x v
 | .any,_,_,_=>by simp[RV]
 | .un,_,_,hv=>by simpa[RV] using hv
 | .bool _,_,_,hv=>by simpa[RV] using hv
 | .int _ _,_,_,hv=>by simpa[RV] using hv
 | .str _,_,_,hv=>by simpa[RV] using hv
 | .nil0,_,_,hv=>by simpa[RV] using hv
 | .bY,_,_,hv=>by simpa[RV] using hv
 | .cT,_,_,hv=>by simpa[RV] using hv
 | .list xs,v,h,hv=>by simp only[RV] at hv ⊢;exact bA.mono h.tobW _ _ hv
 | .agg cs,v,h,hv=>by
  simp only[RV] at hv ⊢;obtain⟨vs,rfl,h1⟩:=hv;exact⟨vs,rfl,au.mono cs vs (by simpa[AV.aw] using h) h1⟩
 | .eN cs,v,h,hv=>by
  simp only[RV] at hv ⊢;obtain⟨vs,rfl,h1⟩:=hv;exact⟨vs,rfl,au.mono cs vs (by simpa[AV.aw] using h) h1⟩
 | .sl l sz i n,v,h,hv=>by
  simp only[RV] at hv ⊢;obtain⟨a,c,h1,h2,h3,h4,h5⟩:=hv;refine⟨a,c,h1,h2,h3,h4,fun hl=> ?_⟩;obtain⟨k1,k2,k3⟩:=h.lb l (by simp[AV.aw]) hl;rcases h5 k1 with h6|⟨g,S,e1,e2,e3,e4⟩
  ·exact .inl h6
  ·exact .inr ⟨g,S,k2.trans e1,e2,k3 g S e1 e3,e4⟩
 | .slk l sz i n c,v,h,hv=>by
  simp only[RV] at hv ⊢;obtain⟨a,h1,h2,h3,h4,h5⟩:=hv;refine⟨a,h1,h2,h3,h4,fun hl=> ?_⟩;obtain⟨k1,k2,k3⟩:=h.lb l (by simp[AV.aw]) hl;rcases h5 k1 with h6|⟨g,S,e1,e2,e3,e4⟩
  ·exact .inl h6
  ·exact .inr ⟨g,S,k2.trans e1,e2,k3 g S e1 e3,e4⟩
 | .ptr l sz i j,v,h,hv=>by
  simp only[RV] at hv ⊢;obtain⟨a,h1,h2⟩:=hv;refine⟨a,h1,fun hl=> ?_⟩;obtain⟨k1,k2,k3⟩:=h.lb l (by simp[AV.aw]) hl;obtain⟨g,e1,e2⟩:=h2 k1;exact⟨g,k2.trans e1,e2⟩
 | .lptr cs,v,h,hv=>by
  simp only[RV] at hv ⊢;obtain⟨b,o,h1,h2,h3,h4⟩:=hv;obtain⟨k1,k2,_⟩:=h.im b h2 h3;exact⟨b,o,h1,k1,k2,ay.mono h.tobW cs b o h2 h3 h4⟩
 | .fn f fs cs,v,h,hv=>by
  simp only[RV] at hv ⊢;obtain⟨vs,us,rfl,h1,h2⟩:=hv;exact⟨vs,us,rfl,au.mono fs vs (h.sub (by simp[AV.aw];intro l hl;exact .inl hl)) h1,au.mono cs us (h.sub (by simp[AV.aw];intro l hl;exact .inr hl)) h2⟩
 | .ifc t x,v,h,hv=>by
  simp only[RV] at hv ⊢;obtain⟨u,rfl,h1⟩:=hv;exact⟨u,rfl,RV.mono x u (by simpa[AV.aw] using h) h1⟩
theorem au.mono {w w':World} {β β':Lb→Option Nat} {H H':Hp} {Im dT:Nat→Prop}:∀(xs:List AV) (vs:List Value),bC w w' β β' H H' Im dT (ak xs)→au w β H Im xs vs→au w' β' H' dT xs vs
 |[],_,_,hv=>by simpa[au] using hv
 |x::r,vs,h,hv=>by
  simp only[au] at hv ⊢;obtain⟨v,us,rfl,h1,h2⟩:=hv;exact⟨v,us,rfl,RV.mono x v (h.sub (by simp[ak];intro l hl;exact .inl hl)) h1,au.mono r us (h.sub (by simp[ak];intro l hl;exact .inr hl)) h2⟩
end
def eO (w:World) (β:Lb→Option Nat) (H:Hp) (Im:Nat→Prop) (l:Lb) (r:Row):Prop:=
 0<r.sz∧(∀cs∈r.aQ,cs.length=r.sz) ∧
 match β l with
 |none=>r.aQ=[]
 |some g=>∃cur e cap,w.heap[g]?=some (.cells cur e (0,0))∧cur.size=cap*r.sz∧cap≤maxLen∧r.aQ.length≤cap ∧
  ∀i j cs x,r.aQ[i]?=some cs→cs[j]?=some x→∃v,cur[i*r.sz+j]?=some v∧RV w β H Im x v
def bD (w:World) (Im:Nat→Prop) (cs:List IV) (g:Nat):Prop:=ay w Im cs g 0∧cG w g=some cs.length
theorem bD.mono {w w':World} {Im dT:Nat→Prop} (h:bW w w' Im dT) {cs:List IV} {g:Nat} (hb:Im g) (hs:g<w.heap.size) (hg:bD w Im cs g):bD w' dT cs g:=
 ⟨ay.mono h cs g 0 hb hs hg.1,by unfold cG;rw[(h.im g hb hs).2.2];exact hg.2⟩
end Go.Am

/- THE ABSTRACT MACHINE, part 2: instructions, how the model's operations are read as them, and the state's relation to the world. -/
namespace Go.Am
open Go Go.RowKit
inductive O where
 |t (n:Nat)
 |c (x:AV)
def ev (env:Env):O→AV
 | .t n=>env n
 | .c x=>x
inductive Kd where
 |b|i|s
 deriving DecidableEq
inductive az where
 |bT (x:O)
 |pick (c a b:O)
 |dU (a:O) (off:Nat)
 |kr (x i:O) (sz:Nat)
 |ma (x i:O)
 |len (x:O)
 |lens (x:O)
 |mb (x:O) (lo hi mx:Option O) (sz:Nat)
 |gg (x:O) (lo hi:Option O)
 |bin (op:BinOp) (x y:O)
 |mc (neg:Bool) (x y:O)
 |kt (neg:Bool) (x y:O)
 |me (neg:Bool) (x y:O)
 |fx (neg:Bool) (ks:List Kd) (x y:O)
 |not (x:O)
 |neg (x:O)
 |max (x y:O)
 |min (x y:O)
 |ext (x:O) (i:Nat)
 |jb (z:List AV) (ps:List (Nat×Nat×O))
 |fy (x:O) (off:Nat) (m:Option Nat)
 |lits (n sz:Nat) (z:List AV) (ps:List (Nat×O))
 |fz (x:O)
 |c_ (x:O)
 |stuck
 |mf (f:Nat) (cap:List O)
 |mg (k:IntKind) (x:O)
 |dr (x:O)
 |mh (x:O)
 |mi (x:O)
 |gi (t:Nat) (x:O)
 |load (m:Option Nat) (a:O)
 |box (x:O)
 |new (cs:List AV)
 |jc (n c:O) (sz bytes:Nat) (z:List AV)
 |store (m:Nat) (a x:O)
 |app (s x:O) (sz bytes:Nat)
 |gO (s x:O) (sz:Nat)
 |call (f:Nat) (args:List O)
 |bH (x:O) (args:List O)
 |n1 (neg:Bool) (x:O)
 |mj (x i:O) (n sz:Nat)
 |cap (x:O)
 |ir (x:O) (sz:Nat) (z:List AV)
 |dW (f:Nat) (args:List O)
 |gj (x:O) (n sz:Nat)
 |fB (s x:O) (sz bytes:Nat)
 |gk (s n:O) (sz bytes:Nat) (z:List AV)
 |ml (f:Nat) (first cs:List O)
 |bX (sz:Nat) (z:List AV) (ps:List (Nat×O))
structure aB where
 d:Option Nat
 g:Option (Nat×Bool)
 i:az
structure Kx where
 P:Program
 G:Nat→Option (List IV)
 w0:World
 A:Nat→Prop
 D:Nat→Prop
 N:Nat
 H0:Hp
 β0:Lb→Option Nat
def Im (K:Kx) (β:Lb→Option Nat) (H:Hp) (k:Nat):Prop:=(K.A k∨K.w0.heap.size≤k)∧∀l,live H l→β l≠some k
structure sJ (D:Nat→Prop) (w0 w:World):Prop where
 os:w.os=w0.os
 tape:w.tape=w0.tape
 output:w.output=w0.output
 size:w0.heap.size≤w.heap.size
 block:∀k,k<w0.heap.size→¬D k→w.heap[k]?=w0.heap[k]?
 bs:∀k S,cG w0 k=some S→cG w k=some S
structure aj (K:Kx) (β:Lb→Option Nat) (env:Env) (H:Hp) (a:Act) (w:World):Prop where
 defers:a.defers=[]
 size:a.tmps.size=K.N
 cd:∀n,RV w β H (Im K β H) (env n) (a.tmps.getD n undef)
 rows:∀l r,H l= .live r→eO w β H (Im K β H) l r
 own:∀l g,live H l→β l=some g→(K.D g∨K.w0.heap.size≤g)
 inj:∀l l' g,live H l→live H l'→β l=some g→β l'=some g→l=l'
 bB:∀n,∀l∈(env n).aw,H l≠ .unused
 aK:∀l r,H l= .live r→∀cs∈r.aQ,∀l'∈ak cs,H l'≠ .unused
 frame:sJ K.D K.w0 w
 cf:∀g cs,K.G g=some cs→Im K β H g∧g<w.heap.size∧bD w (Im K β H) cs g
 cx:∀l,live K.H0 l→H l≠ .unused∧(live H l→β l=K.β0 l)
 fr:∀l g,live H l→l.fresh=true→β l=some g→K.w0.heap.size≤g
def put (env:Env) (d:Nat) (x:AV):Env:=fun n=>if n=d then x else env n
def aM (env:Env):Option Nat→AV→Env
 |some d,x=>put env d x
 |none,_=>env
abbrev cZ (w w':World):Prop:=Below w.heap.size w w'
theorem cZ.fK {w w':World} (h:cZ w w') (β:Lb→Option Nat) (H:Hp) (I:Nat→Prop) (ls:List Lb):bC w w' β β H H I I ls where
 im k hk hs:=⟨hk,Nat.lt_of_lt_of_le hs h.size,h.block k hs⟩
 lb l _ hl:=⟨hl,rfl,fun g S _ hS=>by
  unfold cG at *
  have:g<w.heap.size:=by
   cases hg:w.heap[g]? with
   |none=>simp[hg] at hS
   |some o=>exact(Array.getElem?_eq_some_iff.1 hg).1
  rwa[h.block g this]⟩
theorem eO.mm {w w':World} (h:cZ w w') {β:Lb→Option Nat} {H:Hp} {I:Nat→Prop} {l:Lb} {r:Row} (hr:eO w β H I l r):eO w' β H I l r:=by
 obtain⟨h1,h2,h3⟩:=hr;refine⟨h1,h2,?_⟩;cases hb:β l with
 |none=>simpa[hb] using h3
 |some g=>
  simp only[hb] at h3 ⊢;obtain⟨cur,e,cap,e1,e2,e3,e4,e5⟩:=h3;have hg:g<w.heap.size:=(Array.getElem?_eq_some_iff.1 e1).1;refine⟨cur,e,cap,(h.block g hg).trans e1,e2,e3,e4,fun i j cs x hi hj=> ?_⟩;obtain⟨v,k1,k2⟩:=e5 i j cs x hi hj;exact⟨v,k1,RV.mono x v (h.fK _ _ _ _) k2⟩
theorem sJ.mm {D:Nat→Prop} {w0 w w':World} (h:sJ D w0 w) (g:cZ w w'):sJ D w0 w':=
 ⟨g.os.trans h.os,g.tape.trans h.tape,g.output.trans h.output,Nat.le_trans h.size g.size,
   fun k hk hd => (g.block k (Nat.lt_of_lt_of_le hk h.size)).trans (h.block k hk hd),fun k S hS => by
     have h1:=h.bs k S hS
     unfold cG at h1 ⊢
     have:k<w.heap.size:=by
       cases hg:w.heap[k]? with
       |none=>simp[hg] at h1
       |some o=>exact(Array.getElem?_eq_some_iff.1 hg).1
     rwa[g.block k this]⟩
theorem ku (t:Array Value) (d n:Nat) (v:Value):(t.setIfInBounds d v).getD n undef=if n=d∧d<t.size then v else t.getD n undef:=by
 simp only[Array.getD_eq_getD_getElem?,Array.getElem?_setIfInBounds];by_cases h:d=n
 ·subst h;by_cases h2:d<t.size
  ·simp[h2]
  ·simp[h2,Array.getElem?_eq_none (Nat.le_of_not_lt h2)]
 ·simp[h,Ne.symm h,eq_comm]
theorem aj.step {K:Kx} {β:Lb→Option Nat} {env:Env} {H:Hp} {a:Act} {w w':World} (h:aj K β env H a w) (g:cZ w w')
  {d:Option Nat} {x:AV} {v:Value} (hd:∀n,d=some n→n<K.N) (hx:d.isSome=true→RV w' β H (Im K β H) x v) (hm:d.isSome=true→∀l∈x.aw,H l≠ .unused):aj K β (aM env d x) H (a.put d v) w' where
 defers:=by cases d<;>simp[Act.put,h.defers]
 size:=by cases d<;>simp[Act.put,h.size]
 cd n:=by
  have ho:=RV.mono (env n) (a.tmps.getD n undef) (g.fK β H (Im K β H) _) (h.cd n);cases d with
  |none=>simpa[aM,Act.put] using ho
  |some d=>
   simp only[aM,Act.put,put,ku];by_cases e:n=d
   ·subst e;have:=hd n rfl;rw[←h.size] at this;simpa[this] using hx rfl
   ·simpa[e] using ho
 rows l r hl:=(h.rows l r hl).mm g
 own:=h.own
 inj:=h.inj
 bB n:=by
  cases d with
  |none=>exact h.bB n
  |some d=>
   simp only[aM,put];split
   ·exact hm rfl
   ·exact h.bB n
 aK:=h.aK
 frame:=h.frame.mm g
 cf k cs hk:=by
  obtain⟨h1,h2,h3⟩:=h.cf k cs hk;exact⟨h1,Nat.lt_of_lt_of_le h2 g.size,bD.mono (g.fK β H (Im K β H) []).tobW h1 h2 h3⟩
 cx:=h.cx
 fr:=h.fr
def qL:Value→Option AV
 | .bool b=>some (.bool b)
 | .int k n=>some (.int k n)
 | .string s=>some (.str s.data.toList)
 | .slice none 0 0=>some .nil0
 | .pointer none=>some .bY
 | .nilIface=>some .cT
 |_=>none
def n2:List Value→Option (List AV)
 |[]=>some []
 |v::r=>(qL v).bind fun x=>(n2 r).map fun s=>x::s
def cv:Value→Option AV
 | .agg a=>(n2 a.toList).map .agg
 |v=>qL v
def co (G:Nat→Option (List IV)):Operand→Option O
 | .tmp t=>some (.t t)
 | .const v=>(cv v).map .c
 | .func f=>some (.c (.fn f [] []))
 | .global g=>(G g).map fun cs=> .c (.lptr cs)
theorem jd {v:Value} {x:AV} (h:qL v=some x):x.aw=[]:=by
 unfold qL at h;split at h<;>simp at h<;>subst h<;>simp[AV.aw]
theorem kv {v:Value} {x:AV} (h:qL v=some x) (w:World) (β:Lb→Option Nat) (H:Hp) (I:Nat→Prop):RV w β H I x v:=by
 unfold qL at h;split at h<;>simp at h<;>subst h<;>simp[RV]
theorem je:∀(l:List Value) (xs:List AV),n2 l=some xs→ak xs=[]
 |[],xs,h=>by simp[n2] at h;subst h;rfl
 |v::r,xs,h=>by
  simp only[n2,Option.bind_eq_some_iff,Option.map_eq_some_iff] at h;obtain⟨x,h1,s,h2,rfl⟩:=h;simp[ak,jd h1,je r s h2]
theorem kx (w:World) (β:Lb→Option Nat) (H:Hp) (I:Nat→Prop):∀(l:List Value) (xs:List AV),n2 l=some xs→au w β H I xs l
 |[],xs,h=>by simp[n2] at h;subst h;simp[au]
 |v::r,xs,h=>by
  simp only[n2,Option.bind_eq_some_iff,Option.map_eq_some_iff] at h;obtain⟨x,h1,s,h2,rfl⟩:=h;simp only[au];exact⟨v,r,rfl,kv h1 _ _ _ _,kx w β H I r s h2⟩
theorem ix {v:Value} {x:AV} (h:cv v=some x):x.aw=[]:=by
 unfold cv at h;split at h
 ·obtain⟨cs,h1,rfl⟩:=Option.map_eq_some_iff.1 h;simp[AV.aw,je _ _ h1]
 ·exact jd h
theorem n3 {v:Value} {x:AV} (h:cv v=some x) (w:World) (β:Lb→Option Nat) (H:Hp) (I:Nat→Prop):RV w β H I x v:=by
 unfold cv at h;split at h
 ·rename_i a;obtain⟨cs,h1,rfl⟩:=Option.map_eq_some_iff.1 h;simp only[RV];exact⟨a.toList,by simp,kx w β H I _ _ h1⟩
 ·exact kv h _ _ _ _
theorem aj.ev {K:Kx} {β:Lb→Option Nat} {env:Env} {H:Hp} {a:Act} {w:World} (h:aj K β env H a w) {x:Operand} {o:O} (hx:co K.G x=some o) :
  RV w β H (Im K β H) (ev env o) (a.eval x):=by
 cases x with
 |tmp t=>simp[co] at hx;subst hx;exact h.cd t
 |const v=>
  simp only[co,Option.map_eq_some_iff] at hx;obtain⟨y,h1,rfl⟩:=hx;exact n3 h1 _ _ _ _
 |func f=>simp[co] at hx;subst hx;simp[Am.ev,RV,au,Act.eval]
 |global g=>
  simp only[co,Option.map_eq_some_iff] at hx;obtain⟨cs,h1,rfl⟩:=hx;obtain⟨h2,h3,h4⟩:=h.cf g cs h1;exact⟨g,0,rfl,h2,h3,h4.1⟩
theorem aj.bd {K:Kx} {β:Lb→Option Nat} {env:Env} {H:Hp} {a:Act} {w:World} (h:aj K β env H a w) {x:Operand} {o:O} (hx:co K.G x=some o) :
  ∀l∈(Am.ev env o).aw,H l≠ .unused:=by
 cases x with
 |tmp t=>simp[co] at hx;subst hx;exact h.bB t
 |const v=>
  simp only[co,Option.map_eq_some_iff] at hx;obtain⟨y,h1,rfl⟩:=hx;simp[Am.ev,ix h1]
 |func f=>simp[co] at hx;subst hx;simp[Am.ev,AV.aw,ak]
 |global g=>
  simp only[co,Option.map_eq_some_iff] at hx;obtain⟨cs,h1,rfl⟩:=hx;simp[Am.ev,AV.aw]
end Go.Am

/- THE ABSTRACT MACHINE, part 3: how operations are read as instructions; those that leave the rows alone. -/
namespace Go.Am
open Go Go.RowKit
def eZ (P:Program) (t:TypeId):Option Nat:=(P.info? t).map (·.size)
def jG (P:Program) (t:TypeId):Option (Option Nat):=
 match P.underlying t with
 |some (.struct _)|some (.array _ _)=>(eZ P t).map some
 |some _=>some none
 |none=>none
def cos (G:Nat→Option (List IV)):List Operand→Option (List O)
 |[]=>some []
 |x::r=>(co G x).bind fun y=>(cos G r).map fun s=>y::s
def br (G:Nat→Option (List IV)):Option Operand→Option (Option O)
 |none=>some none
 |some x=>(co G x).map some
def AV.iv:AV→Option IV
 | .bool b=>some (.bool b)
 | .int k n=>some (.int k n)
 | .str s=>some (.str s)
 | .list xs=>some (.list xs)
 | .nil0=>some (.list [])
 | .ifc t _=>some (.ifc t)
 |_=>none
def iy:List AV→Option (List IV)
 |[]=>some []
 |x::r=>x.iv.bind fun y=>(iy r).map fun s=>y::s
def AV.cells:AV→List AV
 | .agg cs=>cs
 |x=>[x]
def dr (l:List Value):Option (List AV):=
 match l with
 |[]=>some []
 |v::r=>(cv v).bind fun x=>(dr r).map fun s=>x::s
def bf (P:Program):Nat→List Field→Option (List Kd)
 |_,[]=>some []
 |n,f::r=>if f.name != "_"&&f.offset==n then
   match P.underlying f.type with
   |some .string=>(bf P (n+1) r).map fun s=> .s::s
   |some .bool=>(bf P (n+1) r).map fun s=> .b::s
   |some (.int _)=>(bf P (n+1) r).map fun s=> .i::s
   |_=>none
  else none
def da (P:Program) (t:TypeId):Option (List Kd):=
 match P.underlying t with
 |some (.struct fs)=>if !P.stoodInHeld t&& !P.eqGuardType P.depth t then bf P 0 fs.toList else none
 |_=>none
def cU:BinOp→Option Bool
 | .eql=>some false
 | .neq=>some true
 |_=>none
def iz:Operand→Bool
 | .const .nilIface=>true
 |_=>false
def dy (pl:List (Nat×Nat)):List Nat→List O→Option (List (Nat×Nat×O))
 |j::js,x::xs=>(pl[j]?).bind fun p=>(dy pl js xs).map fun r=>(p.1,p.2,x)::r
 |[],[]=>some []
 |_,_=>none
def rb (P:Program) (xt:TypeId):Bool:=match P.underlying xt with|some .string|some (.slice _)=>true|_=>false
def db (P:Program) (f:Nat):Bool:=(P.funcs[f]?).any (fun fn=>fn.body.isSome&&fn.name != "runtime.NumGoroutine")
def iA:Operand→Bool
 | .const (.slice none 0 0)=>true
 |_=>false
def ky (P : Program) (G : Nat → Option (List IV)) (o : Oper) : Option az :=
 match o.op with
 | .move x| .assign x=>(co G x).map .bT
 | .pick c a b=>(co G c).bind fun c=>(co G a).bind fun a=>(co G b).map fun b=> .pick c a b
 | .fieldAddr t x f=>
   match P.underlying t with
   |some (.struct fs)=>fs[f]?.bind fun fd=>(eZ P fd.type).bind fun s=>if s=0 then none else(co G x).map fun x=> .dU x fd.offset
   |_=>none
 | .indexAddr t x i=>
   match P.underlying t with
   |some (.slice e)=>(eZ P e).bind fun s=>(co G x).bind fun x=>(co G i).map fun i=> .kr x i s
   |some (.array n e)=>(eZ P e).bind fun s=>(co G x).bind fun x=>(co G i).map fun i=> .mj x i n s
   |_=>none
 | .index t x i=>
   match P.underlying t with
   |some .string=>(co G x).bind fun x=>(co G i).map fun i=> .ma x i
   |_=>none
 | .slice t x lo hi mx=>
   match P.underlying t with
   |some (.slice e)=>(eZ P e).bind fun s=>(co G x).bind fun x=>(br G lo).bind fun lo=>(br G hi).bind fun hi=>(br G mx).map fun mx=> .mb x lo hi mx s
   |some .string=>if mx.isSome then none else(co G x).bind fun x=>(br G lo).bind fun lo=>(br G hi).map fun hi=> .gg x lo hi
   |some (.array n e)=>if lo.isNone&&hi.isNone&&mx.isNone then(eZ P e).bind fun s=>if s=0 then none else(co G x).map fun x=> .gj x n s else none
   |_=>none
 | .makeSlice t n c=>
   match P.underlying t with
   |some (.slice e)=>match P.info? e with
     |some i=>match i.zero with
       |some z=>if z.cells.size=i.size∧0<i.size∧0<i.bytes then(dr z.cells.toList).bind fun zs=>(co G n).bind fun n=>(co G c).map fun c=> .jc n c i.size i.bytes zs else none
       |none=>none
     |none=>none
   |_=>none
 | .binOp op t x y _=>
   match P.underlying t with
   |some (.int _)|some .string=>(co G x).bind fun x=>(co G y).map fun y=> .bin op x y
   |some .bool=>(cU op).bind fun n=>(co G x).bind fun x=>(co G y).map fun y=> .mc n x y
   |some (.pointer _)=>(cU op).bind fun n=>(co G x).bind fun x=>(co G y).map fun y=> .kt n x y
   |some (.interface _)=>if iz y then(cU op).bind fun n=>(co G x).bind fun x=>(co G y).map fun y=> .me n x y else none
   |some (.struct _)=>(da P t).bind fun ks=>(cU op).bind fun n=>(co G x).bind fun x=>(co G y).map fun y=> .fx n ks x y
   |some (.slice _)=>if iA y then(cU op).bind fun n=>(co G x).map fun x=> .n1 n x else none
   |_=>none
 | .unOp .not _ x=>(co G x).map .not
 | .unOp .neg _ x=>(co G x).map .neg
 | .extract x i=>(co G x).map fun x=> .ext x i
 | .nilCheck x=>(co G x).map .c_
 | .box _ x=>(co G x).map .box
 | .makeFunc (.func f) first cap=>if first.isEmpty then(cos G cap.toList).map fun c=> .mf f c else(cos G first.toList).bind fun q=>(cos G cap.toList).map fun c=> .ml f q c
 | .load t x=>(jG P t).bind fun m=>(co G x).map fun x=> .load m x
 | .alloc t=>match P.info? t with
   |some i=>match i.zero with
     |some z=>if z.cells.size=i.size then(dr z.cells.toList).map .new else none
     |none=>none
   |none=>none
 | .store t x y=>(eZ P t).bind fun s=>(co G x).bind fun x=>(co G y).map fun y=> .store s x y
 | .convert s d x=>
   match P.underlying s,P.underlying d with
   |some (.int _),some (.int k)=>(co G x).map fun x=> .mg k x
   |some .string,some .string=>(co G x).map .dr
   |some .string,some (.slice e)=>match P.underlying e with
     |some (.int .u8)=>(co G x).map .mh
     |_=>none
   |some (.slice e),some .string=>match P.underlying e with
     |some (.int .u8)=>(co G x).map .mi
     |_=>none
   |_,_=>none
 | .makeInterface t x=>
   match P.underlying t with
   |some (.interface _)=>none
   |some _=>(co G x).map fun x=> .gi t x
   |none=>none
 | .field t x f=>
   match P.underlying t with
   |some (.struct fs)=>fs[f]?.bind fun fd=>(jG P fd.type).bind fun m=>(co G x).map fun x=> .fy x fd.offset m
   |_=>none
 | .buildSlice t n ps=>
   match P.underlying t with
   |some (.slice e)=>match P.info? e with
     |some i=>match i.zero with
       |some z=>if z.cells.size=i.size∧0<i.size∧n*i.size≤2^24 then(dr z.cells.toList).bind fun zs=>(cos G (ps.toList.map (·.2))).map fun xs=> .lits n i.size zs ((ps.toList.map (·.1)).zip xs) else none
       |none=>none
     |none=>none
   |_=>none
 | .build t ps=>
   match P.info? t,P.underlying t with
   |some it,some (.struct fields)=>match it.zero,fields.toList.mapM (fun f=>(P.info? f.type).map fun i=>(f.offset,i.size)) with
     |some z,some places=>(dr z.cells.toList).bind fun zs=>(cos G (ps.toList.map (·.2))).bind fun xs=>(dy places (ps.toList.map (·.1)) xs).map fun qs=> .jb zs qs
     |_,_=>none
   |_,_=>none
 | .call c=>
   match c.callee with
   | .builtin .len=>match c.args.toList,c.argTypes[0]?.bind P.underlying with
     |[x],some .string=>(co G x).map .lens
     |[x],some (.slice _)=>(co G x).map .len
     |_,_=>none
   | .builtin .max=>match c.args.toList with
     |[x,y]=>(co G x).bind fun x=>(co G y).map fun y=> .max x y
     |_=>none
   | .builtin .min=>match c.args.toList with
     |[x,y]=>(co G x).bind fun x=>(co G y).map fun y=> .min x y
     |_=>none
   | .builtin .append=>match c.args.toList,c.argTypes.toList with
     |[s,x],[st,xt]=>match P.underlying st with
       | some (.slice e) => match P.info? e with
         |some i=>if(i.zero.map (·.cells.size))==some i.size&&decide (0<i.size)&&rb P xt then
             (co G s).bind fun s=>(co G x).map fun x=> .app s x i.size i.bytes else match P.underlying xt,i.zero with
               |some (.int _),some z=>if z.cells.size=i.size∧0<i.size∧0<i.bytes then(dr z.cells.toList).bind fun zs=>(co G s).bind fun s=>(co G x).map fun x=> .gk s x i.size i.bytes zs else none
               |_,_=>none
         |none=>none
       |_=>none
     |_,_=>none
   | .builtin .cap=>match c.args.toList,c.argTypes[0]?.bind P.underlying with
     |[x],some (.slice _)=>(co G x).map .cap
     |_,_=>none
   | .builtin .copy=>match c.args.toList,c.argTypes.toList with
     |[d,x],[dt,_]=>match P.underlying dt with
       |some (.slice e)=>(eZ P e).bind fun s=>if s=0 then none else(co G d).bind fun d=>(co G x).map fun x=> .gO d x s
       |_=>none
     |_,_=>none
   | .builtin .clear=>match c.args.toList,c.argTypes[0]?.bind P.underlying with
     |[x],some (.slice e)=>match P.info? e with
       |some i=>match i.zero with
         |some z=>if z.cells.size=i.size∧0<i.size then(dr z.cells.toList).bind fun zs=>(co G x).map fun x=> .ir x i.size zs else none
         |none=>none
       |none=>none
     |_,_=>none
   | .builtin _=>none
   | .invoke _ _=>none
   | .value (.func f)=>if db P f then(cos G c.args.toList).map fun xs=> .call f xs else(cos G c.args.toList).map fun xs=> .dW f xs
   | .value f=>(co G f).bind fun y=>(cos G c.args.toList).map fun xs=> .bH y xs
 |_=>none
def comp (P:Program) (G:Nat→Option (List IV)) (o:Oper):Option az:=match ky P G o with
 |some i=>some i
 |none=>some .stuck
open Classical in
noncomputable def gH (env:Env) (o:Option O) (tg mx:Nat):Option Nat:=
 match o with
 |none=>some tg
 |some x=>match ev env x with
  | .int _ v=>if 0≤v∧v.toNat≤mx then some v.toNat else none
  |_=>none
def vv (xs:List IV):Prop:=∀y∈xs,∀z∈y.cells,∀cs,z≠ .agg cs
def iB (sz:Nat) (xs:List IV):Prop:=∀x∈xs,x.cells.length=sz
def bZ (op:BinOp) (x y:AV):Option AV:=
 match x,y with
 | .int k a,.int k' b=>if k=k' then match op with
   | .add=>some (.int k (k.wrap (a+b)))
   | .sub=>some (.int k (k.wrap (a - b)))
   | .mul=>some (.int k (k.wrap (a*b)))
   | .quo=>if b=0 then none else some (.int k (k.wrap (a.tdiv b)))
   | .rem=>if b=0 then none else some (.int k (a.tmod b))
   | .eql=>some (.bool (a==b))
   | .neq=>some (.bool (a !=b))
   | .lss=>some (.bool (a<b))
   | .leq=>some (.bool (a≤b))
   | .gtr=>some (.bool (a>b))
   | .geq=>some (.bool (a≥b))
   | .shr=>if 0≤b then some (.int k (a/2^min b.toNat k.bits)) else none
   |_=>none
  else none
 | .str a,.str b=>match op with
   | .add=>if a.length+b.length≤9223372036854775807 then some (.str (a++b)) else none
   | .eql=>some (.bool (a==b))
   | .neq=>some (.bool !(a==b))
   | .lss=>some (.bool (Op.bytesLess a b))
   | .leq=>some (.bool (Op.bytesLess a b||a==b))
   | .gtr=>some (.bool !(Op.bytesLess a b||a==b))
   | .geq=>some (.bool !(Op.bytesLess a b))
   |_=>none
 |_,_=>none
def uW:Kd→AV→AV→Option Bool
 | .b,.bool a,.bool b=>some (a==b)
 | .i,.int k a,.int k' b=>if k=k' then some (a==b) else none
 | .s,.str a,.str b=>some (a==b)
 |_,_,_=>none
def eqs:List Kd→List AV→List AV→Option Bool
 |[],[],[]=>some true
 |k::ks,x::r,y::s=>(uW k x y).bind fun a=>(eqs ks r s).map fun b=>a&&b
 |_,_,_=>none
def sK:AV→AV→Option Bool
 | .bY,.bY=>some true
 | .bY,.ptr ..=>some false
 | .bY,.lptr ..=>some false
 | .ptr ..,.bY=>some false
 | .lptr ..,.bY=>some false
 |_,_=>none
noncomputable def e7 (env:Env) (lo hi mx:Option O) (n:Nat):Option (Nat×Nat×Option Nat):=
 match mx with
 |none=>(gH env hi n n).bind fun h=>(gH env lo 0 h).map fun l=>(l,h,none)
 |some m=>if hi.isNone then none else(gH env (some m) 0 n).bind fun m=>(gH env hi 0 m).bind fun h=>(gH env lo 0 h).map fun l=>(l,h,some m)
noncomputable def iC (env:Env) (lo hi mx:Option O) (n c:Nat):Option (Nat×Nat×Option Nat):=
 match mx with
 |none=>(gH env hi n c).bind fun h=>(gH env lo 0 h).map fun l=>(l,h,none)
 |some m=>if hi.isNone then none else(gH env (some m) 0 c).bind fun m=>(gH env hi 0 m).bind fun h=>(gH env lo 0 h).map fun l=>(l,h,some m)
open Classical in
noncomputable def oB (env:Env) (x:AV) (lo hi mx:Option O) (sz:Nat):Option AV:=
 match x with
 | .nil0=>(e7 env lo hi mx 0).map fun _=> .nil0
 | .list xs=>if iB sz xs then(e7 env lo hi mx xs.length).map fun b=>if b.2.2=some b.1 then .nil0 else .list ((xs.take b.2.1).drop b.1) else none
 | .sl lb s i n=>if s=sz then(e7 env lo hi mx n).bind fun b=>if b.2.2.isSome then none else some (.sl lb s (i+b.1) (b.2.1 - b.1)) else none
 | .slk lb s i n c=>if s=sz then(iC env lo hi mx n c).bind fun b=>if b.2.2.isSome then some .any else some (.slk lb s (i+b.1) (b.2.1 - b.1) (c - b.1)) else none
 |_=>none
def AV.one:AV→Bool
 | .any| .un| .agg _| .eN _=>false
 |_=>true
def AV.jH:AV→Bool
 | .agg cs=>cs.all AV.one
 |x=>x.one
def bI:List AV→List (Nat×Nat×AV)→Option (List AV)
 |cs,[]=>some cs
 |cs,(off,sz,x)::r=>if x.jH=true∧x.cells.length=sz∧off+sz≤cs.length then bI (cs.take off++x.cells++cs.drop (off+sz)) r else none
def oC:List IV→IV
 |[y]=>y
 |ys=> .agg ys
def chunks (sz:Nat):Nat→List IV→List IV
 |0,_=>[]
 |n+1,ys=>oC (ys.take sz)::chunks sz n (ys.drop sz)
def dX:List IV→Option (List UInt8)
 |[]=>some []
 | .int .u8 n::r=>(dX r).map (UInt8.ofNat n.toNat::·)
 |_=>none
def re:AV→Option AV
 | .list xs=>(dX xs).map .str
 | .nil0=>some (.str [])
 |_=>none
open Classical in
noncomputable def aa (i:az) (env:Env):Option AV:=
 match i with
 | .bT x=>some (ev env x)
 | .pick c a b=>match ev env c with
  | .bool t=>some (if t then ev env a else ev env b)
  |_=>none
 | .dU a off=>match ev env a with
  | .ptr l sz i j=>some (.ptr l sz i (j+off))
  | .lptr cs=>some (.lptr (cs.drop off))
  |_=>none
 | .kr x i sz=>match ev env x,ev env i with
  | .list xs,.int _ n=>if 0≤n then match xs[n.toNat]? with
    |some y=>if iB sz xs then some (.lptr y.cells) else none
    |none=>none
   else none
  | .sl l s i0 m,.int _ n=>if 0≤n∧n.toNat<m∧s=sz then some (.ptr l s (i0+n.toNat) 0) else none
  |_,_=>none
 | .ma x i=>match ev env x,ev env i with
  | .str s,.int _ n=>if 0≤n then match s[n.toNat]? with
    |some c=>some (.int .u8 c.toNat)
    |none=>none
   else none
  |_,_=>none
 | .lens x=>match ev env x with
  | .str s=>some (.int .i64 s.length)
  |_=>none
 | .len x=>match ev env x with
  | .list xs=>some (.int .i64 xs.length)
  | .nil0=>some (.int .i64 0)
  | .sl _ _ _ n=>some (.int .i64 n)
  | .slk _ _ _ n _=>some (.int .i64 n)
  |_=>none
 | .mb x lo hi mx sz=>oB env (ev env x) lo hi mx sz
 | .gg x lo hi=>match ev env x with
  | .str s=>(gH env hi s.length s.length).bind fun h=>(gH env lo 0 h).map fun l=> .str ((s.take h).drop l)
  |_=>none
 | .bin op x y=>bZ op (ev env x) (ev env y)
 | .mc neg x y=>match ev env x,ev env y with
  | .bool a,.bool b=>some (.bool (neg ^^ (a==b)))
  |_,_=>none
 | .kt neg x y=>(sK (ev env x) (ev env y)).map fun b=> .bool (neg ^^ b)
 | .me neg x _=>match ev env x with
  | .cT=>some (.bool (neg ^^ true))
  | .ifc _ _=>some (.bool (neg ^^ false))
  |_=>none
 | .fx neg ks x y=>match ev env x,ev env y with
  | .agg xs,.agg ys=>(eqs ks xs ys).map fun b=> .bool (neg ^^ b)
  |_,_=>none
 | .not x=>match ev env x with
  | .bool b=>some (.bool !b)
  |_=>none
 | .neg x=>match ev env x with
  | .int k n=>some (.int k (k.wrap (0 - n)))
  |_=>none
 | .max x y=>match ev env x,ev env y with
  | .int k a,.int k' b=>if k=k' then some (.int k (if b>a then b else a)) else none
  |_,_=>none
 | .min x y=>match ev env x,ev env y with
  | .int k a,.int k' b=>if k=k' then some (.int k (if b<a then b else a)) else none
  |_,_=>none
 | .ext x i=>match ev env x with
  | .eN cs=>cs[i]?
  |_=>none
 | .c_ x=>match ev env x with
  | .ptr l sz i j=>some (.ptr l sz i j)
  | .lptr cs=>some (.lptr cs)
  | .fn f a b=>some (.fn f a b)
  |_=>none
 | .mf f cap=>some (.fn f [] (cap.map (ev env)))
 | .ml f q cap=>some (.fn f (q.map (ev env)) (cap.map (ev env)))
 | .mg k x=>match ev env x with
  | .int _ n=>some (.int k (k.wrap n))
  |_=>none
 | .dr x=>match ev env x with
  | .str s=>some (.str s)
  |_=>none
 | .gi t x=>some (.ifc t (ev env x))
 | .jb z ps=>(bI z (ps.map fun p=>(p.1,p.2.1,ev env p.2.2))).map .agg
 | .fy x off m=>match ev env x with
  | .agg cs=>match m with
   |none=>cs[off]?
   |some k=>if off+k≤cs.length then some (.agg ((cs.drop off).take k)) else none
  |_=>none
 | .fz x=>(iy (ev env x).cells).map .lptr
 | .lits n sz z ps=>if sz*n=0 then(if n=0∧ps.isEmpty=true then some .nil0 else none) else(bI ((List.replicate n z).flatten) (ps.map fun p=>(p.1*sz,sz,ev env p.2))).bind fun cs=>(iy cs).map fun ys=>
   .list (chunks sz n ys)
 | .load m a=>match ev env a with
  | .lptr cs=>match m with
   |none=>cs[0]?.map IV.bV
   |some k=>if k≤cs.length then some (.agg ((cs.take k).map IV.bV)) else none
  |_=>none
 | .mh x=>match ev env x with
  | .str s=>if s.length≤140737488355328 then some (.list (s.map fun c=> .int .u8 c.toNat)) else none
  |_=>none
 | .mi x=>re (ev env x)
 | .mj x i n sz=>match ev env x,ev env i with
  | .ptr l s a j,.int _ m=>if 0≤m∧m.toNat<n then some (.ptr l s a (j+m.toNat*sz)) else none
  | .lptr cs,.int _ m=>if 0≤m∧m.toNat<n then some (.lptr (cs.drop (m.toNat*sz))) else none
  |_,_=>none
 | .gj x n sz=>match ev env x with
  | .lptr cs=>if cs.length=n*sz∧n≤maxLen∧(∀y∈cs,y.cells=[y]) then some (.list (chunks sz n cs)) else none
  |_=>none
 | .fB s x sz bytes=>match ev env s,ev env x with
  | .nil0,.list xs=>if iB sz xs∧vv xs∧xs.length*bytes≤140737488355328∧0<bytes∧0<sz then some (.list xs) else none
  | .nil0,.nil0=>if 0<sz then some (.list []) else none
  |_,_=>none
 |_=>none
end Go.Am

/- THE ABSTRACT MACHINE, part 4: the instructions that leave the rows alone do what the model's operations do. -/
namespace Go.Am
open Go Go.RowKit
def ai (K:Kx) (β:Lb→Option Nat) (H:Hp) (a:Act) (w:World) (o:Oper) (x:AV):Prop:=
 ∃v w',(execOp a.eval o).run K.P w= .ok (.value v) w'∧cZ w w'∧RV w' β H (Im K β H) x v∧∀l∈x.aw,H l≠ .unused
theorem ai.same {K:Kx} {β:Lb→Option Nat} {H:Hp} {a:Act} {w:World} {o:Oper} {x:AV} {v:Value} (h:(execOp a.eval o).run K.P w= .ok (.value v) w)
 (hv:RV w β H (Im K β H) x v) (hm:∀l∈x.aw,H l≠ .unused):ai K β H a w o x:=⟨v,w,h,Below.refl _ _,hv,hm⟩
section
variable {K:Kx} {β:Lb→Option Nat} {env:Env} {H:Hp} {a:Act} {w:World}
theorem n4 (hr:aj K β env H a w) {o:Oper} {x:Operand} {y:O} (ho:o.op= .move x∨o.op= .assign x) (hy:co K.G x=some y):ai K β H a w o (ev env y):=by
 refine ai.same (v:=a.eval x) ?_ (hr.ev hy) (hr.bd hy);rcases ho with ho|ho<;>simp[execOp,ho]
theorem oD (hr:aj K β env H a w) {o:Oper} {c x y:Operand} {c' x' y':O} (ho:o.op= .pick c x y) (hc:co K.G c=some c') (hx:co K.G x=some x') (hy:co K.G y=some y')
  {t:Bool} (ht:ev env c'= .bool t):ai K β H a w o (if t then ev env x' else ev env y'):=by
 have h:=hr.ev hc;rw[ht] at h;simp only[RV] at h;refine ai.same (v:=if t then a.eval x else a.eval y) ?_ ?_ ?_
 ·cases t<;>simp[execOp,ho,h,asBool]
 ·cases t
  ·simpa using hr.ev hy
  ·simpa using hr.ev hx
 ·cases t
  ·simpa using hr.bd hy
  ·simpa using hr.bd hx
theorem addr_add (g off n:Nat):(⟨g,off,none⟩:Addr).add n=⟨g,off+n,none⟩:=by
 unfold Addr.add;split<;>simp_all
theorem aC {P:Program} {t:TypeId} {s:Nat} (h:eZ P t=some s) (w:World):(sizeOf t).run P w= .ok s w:=by
 unfold eZ at h;obtain⟨i,h1,h2⟩:=Option.map_eq_some_iff.1 h;simp[sizeOf,typeInfo,h1,h2]
theorem cm {w:World} {I:Nat→Prop}:∀(n:Nat) (cs:List IV) (b o:Nat),ay w I cs b o→ay w I (cs.drop n) b (o+n)
 |0,cs,b,o,h=>by simpa using h
 |n+1,[],b,o,_=>by simp[ay]
 |n+1,x::r,b,o,h=>by
  simp only[ay] at h;have:=cm n r b (o+1) h.2;rw[List.drop_succ_cons]
  rwa[show o+1+n=o+(n+1) by omega] at this
theorem rf (hr:aj K β env H a w) {o:Oper} {t:TypeId} {x:Operand} {f:Nat} {fs:Array Field} {fd:Field} {s:Nat} {x':O} (ho:o.op= .fieldAddr t x f)
  (ht:K.P.underlying t=some (.struct fs)) (hf:fs[f]?=some fd) (hs:eZ K.P fd.type=some s) (n5:s≠0) (hx:co K.G x=some x') {y:AV}
  (hy:aa (.dU x' fd.offset) env=some y):ai K β H a w o y:=by
 have h:=hr.ev hx;have hm:=hr.bd hx
 have run:∀ad:Addr,a.eval x= .pointer (some ad)→(execOp a.eval o).run K.P w= .ok (.value (.pointer (some (ad.add fd.offset)))) w:=fun ad th=>by
  simp[execOp,ho,th,Instr.fieldAt,run_underlying ht,hf,Instr.sureAddr,fieldPlace,aC hs,n5,Result.andThen]
 simp only[aa] at hy;split at hy<;>simp at hy<;>subst hy<;>rename_i heq
 ·rw[heq] at h hm;simp only[RV] at h;obtain⟨ad,h1,h2⟩:=h;refine ai.same (run ad h1) ?_ (by simpa[AV.aw] using hm);simp only[RV];refine⟨_,rfl,fun hl=> ?_⟩;obtain⟨g,k1,rfl⟩:=h2 hl;exact⟨g,k1,by rw[addr_add];simp[Nat.add_assoc]⟩
 ·rw[heq] at h;simp only[RV] at h;obtain⟨b,o',h1,h2,h3,h4⟩:=h;refine ai.same (run _ h1) ?_ (by simp[AV.aw]);rw[addr_add];exact⟨b,_,rfl,h2,h3,cm _ _ _ _ h4⟩
theorem fL {w:World} {I:Nat→Prop} {sz:Nat}:∀(k:Nat) (xs:List IV) (b o:Nat) (y:IV),xs[k]?=some y→ax w I xs b o sz→bG w I y b (o+k*sz) sz
 |0,[],_,_,_,h,_=>by simp at h
 |0,x::r,b,o,y,h,he=>by
  simp at h;subst h;simp only[ax] at he;simpa using he.1
 |k+1,[],_,_,_,h,_=>by simp at h
 |k+1,x::r,b,o,y,h,he=>by
  simp only[ax] at he;have:=fL k r b (o+sz) y (by simpa using h) he.2
  rwa[show o+sz+k*sz=o+(k+1)*sz by rw[Nat.add_mul];omega] at this
theorem run_indexAt_slice {P:Program} {w:World} {t e:TypeId} {s:Nat} (ht:P.underlying t=some (.slice e)) (hs:eZ P e=some s) (ad:Addr) (n c:Nat) (k:IntKind) (i:Int) (h0:0≤i) (hi:i.toNat<n) :
  (Instr.indexAt t (.slice (some ad) n c) (.int k i)).run P w= .ok (.pointer (some (ad.add (i.toNat*s)))) w:=by
 have:i<(n:Int):=by omega
 simp[Instr.indexAt,asIntOf,run_underlying ht,aC hs,h0,this,Result.andThen]
theorem rh (hr:aj K β env H a w) {o:Oper} {t e:TypeId} {x i:Operand} {n s:Nat} {x' i':O} (ho:o.op= .indexAddr t x i)
  (ht:K.P.underlying t=some (.array n e)) (hs:eZ K.P e=some s) (hx:co K.G x=some x') (hi:co K.G i=some i') {y:AV}
  (hy:aa (.mj x' i' n s) env=some y):ai K β H a w o y:=by
 have h:=hr.ev hx;have h2:=hr.ev hi;have hm:=hr.bd hx
 have run:∀(ad:Addr) (k:IntKind) (m:Int),a.eval x= .pointer (some ad)→a.eval i= .int k m→0≤m→m.toNat<n→(execOp a.eval o).run K.P w= .ok (.value (.pointer (some (ad.add (m.toNat*s))))) w:=fun ad k m th jI h0 dI=>by
  have vw:m<(n:Int):=by omega
  simp[execOp,ho,th,jI,Instr.indexAt,asIntOf,run_underlying ht,Instr.sureAddr,aC hs,Result.andThen,h0,vw]
 simp only[aa] at hy;split at hy
 ·rename_i l sz a0 j k m e1 e2;rw[e1] at h hm;rw[e2] at h2;simp only[RV,bA] at h h2;split at hy
  ·rename_i hn;simp only[Option.some.injEq] at hy;subst hy;obtain⟨ad,h3,h4⟩:=h;refine ai.same (run ad k m h3 h2 hn.1 hn.2) ?_ (by simpa[AV.aw] using hm);simp only[RV];refine⟨_,rfl,fun hl=> ?_⟩;obtain⟨g,k1,rfl⟩:=h4 hl;exact⟨g,k1,by rw[addr_add];simp[Nat.add_assoc]⟩
  ·simp at hy
 ·rename_i cs k m e1 e2;rw[e1] at h;rw[e2] at h2;simp only[RV,bA] at h h2;split at hy
  ·rename_i hn;simp only[Option.some.injEq] at hy;subst hy;obtain⟨b,o',h3,h4,h5,h6⟩:=h;refine ai.same (run _ k m h3 h2 hn.1 hn.2) ?_ (by simp[AV.aw]);rw[addr_add];exact⟨b,_,rfl,h4,h5,cm _ _ _ _ h6⟩
  ·simp at hy
 ·simp at hy
theorem ri (hr:aj K β env H a w) {o:Oper} {t e:TypeId} {x i:Operand} {s:Nat} {x' i':O} (ho:o.op= .indexAddr t x i)
  (ht:K.P.underlying t=some (.slice e)) (hs:eZ K.P e=some s) (hx:co K.G x=some x') (hi:co K.G i=some i') {y:AV}
  (hy:aa (.kr x' i' s) env=some y):ai K β H a w o y:=by
 have h:=hr.ev hx;have h2:=hr.ev hi;have hm:=hr.bd hx;simp only[aa] at hy;split at hy
 ·rename_i xs k n e1 e2;rw[e1] at h;rw[e2] at h2;simp only[RV,bA] at h h2;split at hy
  ·rename_i hn;split at hy
   ·rename_i z hz;split at hy
    ·rename_i fM;simp only[Option.some.injEq] at hy;subst hy;obtain⟨ad,c,h3,h4,h5,h6⟩:=h;have dI:n.toNat<xs.length:=(List.getElem?_eq_some_iff.1 hz).1;rcases h6 with h6|⟨b,of,sz,rfl,h7,h8,h9,vy⟩
     ·omega
     ·have oE:=fL n.toNat xs b of z hz vy;rw[bx] at oE;have vz:sz=s:=by rw[oE.1];exact fM z (List.mem_of_getElem? hz)
      subst vz;refine ai.same (v:= .pointer (some ⟨b,of+n.toNat*sz,none⟩)) ?_ ⟨b,_,rfl,h7,h8,oE.2⟩ (by simp[AV.aw]);simp[execOp,ho,h3,h2,run_indexAt_slice ht hs _ _ _ _ _ hn dI,addr_add]
    ·simp at hy
   ·simp at hy
  ·simp at hy
 ·rename_i l s' i0 m k n e1 e2;rw[e1] at h hm;rw[e2] at h2;simp only[RV] at h h2;split at hy
  ·rename_i hn;obtain⟨kk,rj,rfl⟩:=hn;simp only[Option.some.injEq] at hy;subst hy;obtain⟨ad,c,h3,h4,h5,h6,h7⟩:=h;obtain⟨vA,rfl⟩:=Option.isSome_iff_exists.1 (h6 (by omega));refine ai.same (v:= .pointer (some (vA.add (n.toNat*s')))) ?_ ?_ (by simpa[AV.aw] using hm)
   ·simp[execOp,ho,h3,h2,run_indexAt_slice ht hs _ _ _ _ _ kk rj]
   ·refine⟨_,rfl,fun hl=> ?_⟩;rcases h7 hl with h8|⟨g,S,k1,k2,k3,k4⟩
    ·omega
    ·simp only[Option.some.injEq] at k2;subst k2;exact⟨g,k1,by rw[addr_add];simp[Nat.add_mul]⟩
  ·simp at hy
 ·simp at hy
theorem rk (hr:aj K β env H a w) {o:Oper} {t:TypeId} {x i:Operand} {x' i':O} (ho:o.op= .index t x i)
  (ht:K.P.underlying t=some .string) (hx:co K.G x=some x') (hi:co K.G i=some i') {y:AV}
  (hy:aa (.ma x' i') env=some y):ai K β H a w o y:=by
 have h:=hr.ev hx;have h2:=hr.ev hi;simp only[aa] at hy;split at hy
 ·rename_i s k n e1 e2;rw[e1] at h;rw[e2] at h2;simp only[RV] at h h2;split at hy
  ·rename_i hn;split at hy
   ·rename_i c hc;simp only[Option.some.injEq] at hy;subst hy;have dI:n.toNat<s.length:=(List.getElem?_eq_some_iff.1 hc).1;refine ai.same (v:= .int .u8 c.toNat) ?_ (by simp[RV]) (by simp[AV.aw])
    have vB:(⟨s.toArray⟩:ByteArray)[n.toNat]?=some c:=by
     have e:s[n.toNat]=c:=(List.getElem?_eq_some_iff.1 hc).2;have hs:n.toNat<(⟨s.toArray⟩:ByteArray).size:=by show n.toNat<s.toArray.size;simpa using dI
     rw[getElem?_pos (⟨s.toArray⟩:ByteArray) n.toNat hs];exact congrArg some e
    simp[execOp,ho,h,h2,Instr.index,asIntOf,run_underlying ht,hn,vB]
   ·simp at hy
  ·simp at hy
 ·simp at hy
theorem dc (s:List UInt8):(⟨s.toArray⟩:ByteArray).size=s.length:=by show s.toArray.size=_;simp
theorem oF (hr:aj K β env H a w) {o:Oper} {c:Call} {x:Operand} {x':O} (ho:o.op= .call c) (hc:c.callee= .builtin .len) (ha:c.args.toList=[x])
  (ht:c.argTypes[0]?.bind K.P.underlying=some .string) (hx:co K.G x=some x') {y:AV} (hy:aa (.lens x') env=some y):ai K β H a w o y:=by
 have h:=hr.ev hx;obtain⟨t,mn,mo⟩:=Option.bind_eq_some_iff.1 ht;have gl:c.args=#[x]:=by cases hh:c.args;simp_all
 simp only[aa] at hy;split at hy
 ·rename_i s hs;rw[hs] at h;simp only[RV,Option.some.injEq] at h hy;subst hy;refine ai.same (v:= .int .i64 s.length) ?_ (by simp[RV]) (by simp[AV.aw]);simp[execOp,ho,resolve,hc,gl,h,invoke,builtin,Builtin.len_,mn,run_underlying mo,goInt,dc]
 ·simp at hy
theorem rl (hr:aj K β env H a w) {o:Oper} {c:Call} {x:Operand} {x':O} {e:TypeId} (ho:o.op= .call c) (hc:c.callee= .builtin .len) (ha:c.args.toList=[x])
  (ht:c.argTypes[0]?.bind K.P.underlying=some (.slice e)) (hx:co K.G x=some x') {y:AV} (hy:aa (.len x') env=some y):ai K β H a w o y:=by
 have h:=hr.ev hx;obtain⟨t,mn,mo⟩:=Option.bind_eq_some_iff.1 ht;have gl:c.args=#[x]:=by cases hh:c.args;simp_all
 have sl:∀(ad:Option Addr) (n c':Nat),a.eval x= .slice ad n c'→(execOp a.eval o).run K.P w= .ok (.value (.int .i64 n)) w:=by
  intro ad n c' hv;simp[execOp,ho,resolve,hc,gl,hv,invoke,builtin,Builtin.len_,mn,run_underlying mo,goInt]
 simp only[aa] at hy;split at hy
 ·rename_i xs hs;rw[hs] at h;simp only[RV,bA,Option.some.injEq] at h hy;subst hy;obtain⟨ad,c',h3,h4⟩:=h;exact ai.same (sl _ _ _ h3) (by simp[RV]) (by simp[AV.aw])
 ·rename_i hs;rw[hs] at h;simp only[RV,Option.some.injEq] at h hy;subst hy;obtain⟨ad,h3⟩:=h;exact ai.same (sl _ _ _ h3) (by simp[RV]) (by simp[AV.aw])
 ·rename_i l sz i n hs;rw[hs] at h;simp only[RV,Option.some.injEq] at h hy;subst hy;obtain⟨ad,c',h3,h4⟩:=h;exact ai.same (sl _ _ _ h3) (by simp[RV]) (by simp[AV.aw])
 ·rename_i l sz i n c hs;rw[hs] at h;simp only[RV,Option.some.injEq] at h hy;subst hy;obtain⟨ad,h3,h4⟩:=h;exact ai.same (sl _ _ _ h3) (by simp[RV]) (by simp[AV.aw])
 ·simp at hy
theorem eP (op:BinOp) (t:TypeId) (x y:Operand) (k k':IntKind) (m n:Int) {P:Program} {w:World}:(eqGuard op t x y (.int k m) (.int k' n)).run P w= .ok () w:=by
 cases op<;>simp[eqGuard]
theorem eQ (op:BinOp) (t:TypeId) (x y:Operand) (m n:ByteArray) {P:Program} {w:World}:(eqGuard op t x y (.string m) (.string n)).run P w= .ok () w:=by
 cases op<;>simp[eqGuard]
theorem n6 (hr:aj K β env H a w) {o:Oper} {op:BinOp} {t t2:TypeId} {x y:Operand} {x' y':O} (ho:o.op= .binOp op t x y t2)
  (hx:co K.G x=some x') (hy:co K.G y=some y') {z:AV} (hz:aa (.bin op x' y') env=some z):ai K β H a w o z:=by
 have h:=hr.ev hx;have h2:=hr.ev hy;simp only[aa,bZ] at hz;split at hz
 ·rename_i k m k' n e1 e2;rw[e1] at h;rw[e2] at h2;simp only[RV] at h h2;split at hz
  ·rename_i hk;subst hk
   have key:∀v,(binOp op t (.int k m) (.int k n)).run K.P w= .ok v w→RV w β H (Im K β H) z v→z.aw=[]→ai K β H a w o z:=by
    intro v hv n7 hl;refine ai.same (v:=v) ?_ n7 (by simp[hl]);simp[execOp,ho,h,h2,eP,hv]
   cases op<;>simp only[Option.some.injEq,reduceCtorEq] at hz
   case quo=>
    split at hz
    ·simp at hz
    ·rename_i hn;simp only[Option.some.injEq] at hz;subst hz;exact key (.int k (k.wrap (m.tdiv n))) (by simp[binOp,Op.intDiv,hn]) (by simp[RV]) (by simp[AV.aw])
   case rem=>
    split at hz
    ·simp at hz
    ·rename_i hn;simp only[Option.some.injEq] at hz;subst hz;exact key (.int k (m.tmod n)) (by simp[binOp,Op.intDiv,hn]) (by simp[RV]) (by simp[AV.aw])
   case shr=>
    split at hz
    ·rename_i hn;simp only[Option.some.injEq] at hz;subst hz;exact key (.int k (m/2^min n.toNat k.bits)) (by rw[binOp_shr,shift_shr_any k k m n hn];rfl) (by simp[RV]) (by simp[AV.aw])
    ·simp at hz
   all_goals (subst hz;refine key _ (by simp[binOp,Op.intArith,Op.intCmp];rfl) (by simp[RV]) (by simp[AV.aw]))
  ·simp at hz
 ·rename_i s u e1 e2;rw[e1] at h;rw[e2] at h2;simp only[RV] at h h2
  have key:∀v,(binOp op t (.string ⟨s.toArray⟩) (.string ⟨u.toArray⟩)).run K.P w= .ok v w→RV w β H (Im K β H) z v→z.aw=[]→ai K β H a w o z:=by
   intro v hv n7 hl;refine ai.same (v:=v) ?_ n7 (by simp[hl]);simp[execOp,ho,h,h2,eQ,hv]
  cases op<;>simp only[Option.some.injEq,reduceCtorEq] at hz
  case add=>
   split at hz
   ·rename_i hn;simp only[Option.some.injEq] at hz;subst hz;refine key (.string ⟨(s++u).toArray⟩) ?_ (by simp[RV]) (by simp[AV.aw])
    have h1:¬((((⟨s.toArray⟩:ByteArray).size+(⟨u.toArray⟩:ByteArray).size:Nat):Int)>IntKind.i64.max):=by
     rw[dc,dc];simp only[IntKind.max,IntKind.signed,IntKind.bits];simp;omega
    have h3:(⟨s.toArray⟩:ByteArray)++⟨u.toArray⟩=⟨(s++u).toArray⟩:=by
     apply ByteArray.ext;show((⟨s.toArray⟩:ByteArray)++⟨u.toArray⟩).data=(s++u).toArray;simp[ByteArray.data_append]
    simp only[binOp,Op.stringOp,h1,if_false,h3,Sem.run_pure]
   ·simp at hz
  all_goals (subst hz;refine key _ (by simp[binOp,Op.stringOp,ByteArray.toList_mk];rfl) (by simp[RV]) (by simp[AV.aw]))
 ·simp at hz
end
end Go.Am
