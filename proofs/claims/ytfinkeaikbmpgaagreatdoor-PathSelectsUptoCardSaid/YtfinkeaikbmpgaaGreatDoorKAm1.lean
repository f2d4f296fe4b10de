import Derived.WalkKit
set_option linter.unusedSimpArgs false
set_option linter.unusedVariables false
set_option linter.unnecessarySimpa false
set_option linter.defProp false
/- THE ABSTRACT MACHINE, part 1: abstract values, labelled rows, and what they say of a world. -/
namespace Go.Am
open Go Go.RowKit
inductive Lb where
 |loc (n:Nat)
 |par (n:Nat)
 |gen (n:Nat)
 |nest (l:Lb) (i j:Nat)
 deriving DecidableEq
def Lb.fresh:Lb→Bool
 | .loc _=>true
 | .nest l _ _=>l.fresh
 |_=>false
def Lb.entry:Lb→Bool
 | .par _=>true
 |_=>false
theorem Lb.gD {l:Lb} (h:l.entry=true):l.fresh=false:=by
 cases l<;>simp_all[Lb.entry,Lb.fresh]
def Lb.iM:Lb→Lb
 | .nest l _ j=> .nest l 0 j
 |l=>l
theorem aw (n:Nat):(Lb.loc n).iM= .loc n:=rfl
theorem ax (n:Nat):(Lb.par n).iM= .par n:=rfl
theorem ay (n:Nat):(Lb.gen n).iM= .gen n:=rfl
theorem ak (l:Lb) (i j:Nat):(Lb.nest l i j).iM= .nest l 0 j:=rfl
def Lb.app (l:Lb) (d:Nat):Lb:=if l.fresh then .loc d else .gen d
theorem Lb.gf (l:Lb) (d:Nat) (h:(l.app d).fresh=true):l.fresh=true:=by
 unfold Lb.app at h;split at h
 ·assumption
 ·simp[Lb.fresh] at h
inductive IV where
 |bool (b:Bool)
 |int (k:IntKind) (n:Int)
 |str (s:List UInt8)
 |list (xs:List IV)
 |agg (cs:List IV)
 |ifc (t:Nat)
def IV.cells:IV→List IV
 | .agg cs=>cs
 |x=>[x]
inductive AV where
 |any
 |un
 |bool (b:Bool)
 |int (k:IntKind) (n:Int)
 |str (s:List UInt8)
 |list (xs:List IV)
 |nil0
 |iN
 |fy
 |agg (cs:List AV)
 |ei (cs:List AV)
 |sl (l:Lb) (sz i n:Nat)
 |slk (l:Lb) (sz i n c:Nat)
 |ptr (l:Lb) (sz i j:Nat)
 |lptr (cs:List IV)
 |fn (f:Nat) (first cap:List AV)
 |ifc (t:Nat) (x:AV)
def IV.b7:IV→AV
 | .bool b=> .bool b
 | .int k n=> .int k n
 | .str s=> .str s
 | .list xs=> .list xs
 | .agg _=> .any
 | .ifc t=> .ifc t .any
def IV.av:IV→AV
 | .agg cs=> .agg (cs.map IV.b7)
 |x=>x.b7
structure Row where
 sz:Nat
 els:List (List AV)
inductive Slot where
 |unused
 |dead
 |live (r:Row)
abbrev Hp:=Lb→Slot
abbrev Env:=Nat→AV
def live (H:Hp) (l:Lb):Prop:=∃r,H l= .live r
def iX (w:World) (k:Nat):Option Nat:=
 match w.heap[k]? with
 |some (.cells c _ _)=>some c.size
 |_=>none
def B8 (w:World) (Im:Nat→Prop) (n:Nat) (els:Nat→Nat→Nat→Prop) (v:Value):Prop:=
 ∃a c,v= .slice a n c∧n≤c∧c≤maxLen ∧
  (n=0∨∃b o sz,a=some ⟨b,o,none⟩∧Im b∧b<w.heap.size∧0<sz∧els b o sz)
mutual
def eT (w:World) (Im:Nat→Prop):IV→Value→Prop
 | .bool b,v=>v= .bool b
 | .int k n,v=>v= .int k n
 | .str s,v=>v= .string ⟨s.toArray⟩
 | .list xs,v=>B8 w Im xs.length (fun b o sz=>bN w Im xs b o sz) v
 | .agg _,_=>False
 | .ifc t,v=>∃u,v= .iface t u
def bH (w:World) (Im:Nat→Prop):List IV→Nat→Nat→Prop
 |[],_,_=>True
 |x::r,b,o=>(∃v,w.cell? ⟨b,o,none⟩=some v∧eT w Im x v)∧bH w Im r b (o+1)
def f_ (w:World) (Im:Nat→Prop):IV→Nat→Nat→Nat→Prop
 | .agg cs,b,o,sz=>sz=cs.length∧bH w Im cs b o
 | .bool x,b,o,sz=>sz=1∧∃v,w.cell? ⟨b,o,none⟩=some v∧v= .bool x
 | .int k n,b,o,sz=>sz=1∧∃v,w.cell? ⟨b,o,none⟩=some v∧v= .int k n
 | .str s,b,o,sz=>sz=1∧∃v,w.cell? ⟨b,o,none⟩=some v∧v= .string ⟨s.toArray⟩
 | .list xs,b,o,sz=>sz=1∧∃v,w.cell? ⟨b,o,none⟩=some v∧B8 w Im xs.length (fun b o sz=>bN w Im xs b o sz) v
 | .ifc t,b,o,sz=>sz=1∧∃v,w.cell? ⟨b,o,none⟩=some v∧∃u,v= .iface t u
def bN (w:World) (Im:Nat→Prop):List IV→Nat→Nat→Nat→Prop
 |[],_,_,_=>True
 |x::r,b,o,sz=>f_ w Im x b o sz∧bN w Im r b (o+sz) sz
end
theorem fB (w:World) (Im:Nat→Prop) (x:IV) (b o sz:Nat):f_ w Im x b o sz↔sz=x.cells.length∧bH w Im x.cells b o:=by
 cases x<;>simp[f_,IV.cells,bH,eT]
structure gE (w w':World) (Im lB:Nat→Prop):Prop where
 im:∀k,Im k→k<w.heap.size→lB k∧k<w'.heap.size∧w'.heap[k]?=w.heap[k]?
theorem B8.mono {w w':World} {Im lB:Nat→Prop} (h:gE w w' Im lB) {n:Nat} {e e':Nat→Nat→Nat→Prop}
  (he:∀b o sz,Im b→b<w.heap.size→e b o sz→e' b o sz) {v:Value} (hv:B8 w Im n e v):B8 w' lB n e' v:=by
 obtain⟨a,c,h1,h2,h3,h4⟩:=hv;refine⟨a,c,h1,h2,h3,h4.imp id ?_⟩;rintro⟨b,o,sz,e1,e2,e3,e4,e5⟩;obtain⟨k1,k2,_⟩:=h.im b e2 e3;exact⟨b,o,sz,e1,k1,k2,e4,he _ _ _ e2 e3 e5⟩
theorem hQ {w w':World} {b o:Nat} (h:w'.heap[b]?=w.heap[b]?):w'.cell? ⟨b,o,none⟩=w.cell? ⟨b,o,none⟩:=
 World.cell?_of_block (w:=w) (a:=⟨b,o,none⟩) h
mutual
theorem eT.mono {w w':World} {Im lB:Nat→Prop} (h:gE w w' Im lB):∀(x:IV) (v:Value),eT w Im x v→eT w' lB x v
 | .bool b,v,hv=>by simpa[eT] using hv
 | .int k n,v,hv=>by simpa[eT] using hv
 | .str s,v,hv=>by simpa[eT] using hv
 | .list xs,v,hv=>by
  simp only[eT] at hv ⊢;exact B8.mono h (fun b o sz hb hs he=>bN.mono h xs b o sz hb hs he) hv
 | .agg _,v,hv=>by simp[eT] at hv
 | .ifc t,v,hv=>by simpa[eT] using hv
theorem bH.mono {w w':World} {Im lB:Nat→Prop} (h:gE w w' Im lB):∀(xs:List IV) (b o:Nat),Im b→b<w.heap.size→bH w Im xs b o→bH w' lB xs b o
 |[],_,_,_,_,_=>by simp[bH]
 |x::r,b,o,hb,hs,hv=>by
  simp only[bH] at hv ⊢;obtain⟨⟨v,h1,h2⟩,h3⟩:=hv;obtain⟨_,_,k3⟩:=h.im b hb hs;exact⟨⟨v,(hQ k3).trans h1,eT.mono h x v h2⟩,bH.mono h r b (o+1) hb hs h3⟩
theorem f_.mono {w w':World} {Im lB:Nat→Prop} (h:gE w w' Im lB):∀(x:IV) (b o sz:Nat),Im b→b<w.heap.size→f_ w Im x b o sz→f_ w' lB x b o sz
 | .agg cs,b,o,sz,hb,hs,hv=>by
  simp only[f_] at hv ⊢;exact⟨hv.1,bH.mono h cs b o hb hs hv.2⟩
 | .bool x,b,o,sz,hb,hs,hv=>by
  simp only[f_] at hv ⊢;obtain⟨h0,v,h1,h2⟩:=hv;exact⟨h0,v,(hQ (h.im b hb hs).2.2).trans h1,h2⟩
 | .int k n,b,o,sz,hb,hs,hv=>by
  simp only[f_] at hv ⊢;obtain⟨h0,v,h1,h2⟩:=hv;exact⟨h0,v,(hQ (h.im b hb hs).2.2).trans h1,h2⟩
 | .str s,b,o,sz,hb,hs,hv=>by
  simp only[f_] at hv ⊢;obtain⟨h0,v,h1,h2⟩:=hv;exact⟨h0,v,(hQ (h.im b hb hs).2.2).trans h1,h2⟩
 | .ifc t,b,o,sz,hb,hs,hv=>by
  simp only[f_] at hv ⊢;obtain⟨h0,v,h1,h2⟩:=hv;exact⟨h0,v,(hQ (h.im b hb hs).2.2).trans h1,h2⟩
 | .list xs,b,o,sz,hb,hs,hv=>by
  simp only[f_] at hv ⊢;obtain⟨h0,v,h1,h2⟩:=hv;exact⟨h0,v,(hQ (h.im b hb hs).2.2).trans h1,B8.mono h (fun b o sz hb hs he=>bN.mono h xs b o sz hb hs he) h2⟩
theorem bN.mono {w w':World} {Im lB:Nat→Prop} (h:gE w w' Im lB):∀(xs:List IV) (b o sz:Nat),Im b→b<w.heap.size→bN w Im xs b o sz→bN w' lB xs b o sz
 |[],_,_,_,_,_,_=>by simp[bN]
 |x::r,b,o,sz,hb,hs,hv=>by
  simp only[bN] at hv ⊢;exact⟨f_.mono h x b o sz hb hs hv.1,bN.mono h r b (o+sz) sz hb hs hv.2⟩
end
def z6 (w:World) (β:Lb→Option Nat) (l:Lb) (sz i c:Nat) (a:Option Addr):Prop:=
 c=0∨∃g S,β l=some g∧a=some ⟨g,i*sz,none⟩∧iX w g=some S∧(i+c)*sz=S
mutual
def RV (w:World) (β:Lb→Option Nat) (H:Hp) (Im:Nat→Prop):AV→Value→Prop
 | .any,_=>True
 | .un,v=>v=undef
 | .bool b,v=>v= .bool b
 | .int k n,v=>v= .int k n
 | .str s,v=>v= .string ⟨s.toArray⟩
 | .list xs,v=>eT w Im (.list xs) v
 | .nil0,v=>∃a,v= .slice a 0 0
 | .iN,v=>v= .pointer none
 | .fy,v=>v= .nilIface
 | .agg cs,v=>∃vs:List Value,v= .agg vs.toArray∧bo w β H Im cs vs
 | .ei cs,v=>∃vs:List Value,v= .tuple vs.toArray∧bo w β H Im cs vs
 | .sl l sz i n,v=>∃a c,v= .slice a n c∧n≤c∧c≤maxLen∧(0<n→a.isSome=true)∧(live H l→z6 w β l sz i c a)
 | .slk l sz i n c,v=>∃a,v= .slice a n c∧n≤c∧c≤maxLen∧(0<c→a.isSome=true)∧(live H l→z6 w β l sz i c a)
 | .ptr l sz i j,v=>∃a,v= .pointer (some a)∧(live H l→∃g,β l=some g∧a=⟨g,i*sz+j,none⟩)
 | .lptr cs,v=>∃b o,v= .pointer (some ⟨b,o,none⟩)∧Im b∧b<w.heap.size∧bH w Im cs b o
 | .fn f fs cs,v=>∃vs us:List Value,v= .func (.func f) vs.toArray us.toArray∧bo w β H Im fs vs∧bo w β H Im cs us
 | .ifc t x,v=>∃u,v= .iface t u∧RV w β H Im x u
def bo (w:World) (β:Lb→Option Nat) (H:Hp) (Im:Nat→Prop):List AV→List Value→Prop
 |[],vs=>vs=[]
 |x::r,vs=>∃v us,vs=v::us∧RV w β H Im x v∧bo w β H Im r us
end
mutual
def AV.ar:AV→List Lb
 | .sl l _ _ _=>[l]
 | .slk l _ _ _ _=>[l]
 | .ptr l _ _ _=>[l]
 | .agg cs=>ah cs
 | .ei cs=>ah cs
 | .fn _ fs cs=>ah fs++ah cs
 | .ifc _ x=>x.ar
 |_=>[]
def ah:List AV→List Lb
 |[]=>[]
 |x::r=>x.ar++ah r
end
structure eA (w w':World) (β β':Lb→Option Nat) (H H':Hp) (Im lB:Nat→Prop) (ls:List Lb):Prop extends gE w w' Im lB where
 lb:∀l∈ls,live H' l→live H l∧β' l=β l∧∀g S,β l=some g→iX w g=some S→iX w' g=some S
theorem eA.sub {w w':World} {β β':Lb→Option Nat} {H H':Hp} {Im lB:Nat→Prop} {ls Fc:List Lb} (h:eA w w' β β' H H' Im lB ls) (hs:∀l∈Fc,l∈ls) :
 eA w w' β β' H H' Im lB Fc:=⟨h.togE,fun l hl=>h.lb l (hs l hl)⟩
mutual
theorem RV.mono {w w':World} {β β':Lb→Option Nat} {H H':Hp} {Im lB:Nat→Prop}:∀(x:AV) (v:Value),eA w w' β β' H H' Im lB x.ar→RV w β H Im x v→RV w' β' H' lB x v
 | .any,_,_,_=>by simp[RV]
 | .un,_,_,hv=>by simpa[RV] using hv
 | .bool _,_,_,hv=>by simpa[RV] using hv
 | .int _ _,_,_,hv=>by simpa[RV] using hv
 | .str _,_,_,hv=>by simpa[RV] using hv
 | .nil0,_,_,hv=>by simpa[RV] using hv
 | .iN,_,_,hv=>by simpa[RV] using hv
 | .fy,_,_,hv=>by simpa[RV] using hv
 | .list xs,v,h,hv=>by simp only[RV] at hv ⊢;exact eT.mono h.togE _ _ hv
 | .agg cs,v,h,hv=>by
  simp only[RV] at hv ⊢;obtain⟨vs,rfl,h1⟩:=hv;exact⟨vs,rfl,bo.mono cs vs (by simpa[AV.ar] using h) h1⟩
 | .ei cs,v,h,hv=>by
  simp only[RV] at hv ⊢;obtain⟨vs,rfl,h1⟩:=hv;exact⟨vs,rfl,bo.mono cs vs (by simpa[AV.ar] using h) h1⟩
 | .sl l sz i n,v,h,hv=>by
  simp only[RV] at hv ⊢;obtain⟨a,c,h1,h2,h3,h4,h5⟩:=hv;refine⟨a,c,h1,h2,h3,h4,fun hl=> ?_⟩;obtain⟨k1,k2,k3⟩:=h.lb l (by simp[AV.ar]) hl;rcases h5 k1 with h6|⟨g,S,e1,e2,e3,e4⟩
  ·exact .inl h6
  ·exact .inr ⟨g,S,k2.trans e1,e2,k3 g S e1 e3,e4⟩
 | .slk l sz i n c,v,h,hv=>by
  simp only[RV] at hv ⊢;obtain⟨a,h1,h2,h3,h4,h5⟩:=hv;refine⟨a,h1,h2,h3,h4,fun hl=> ?_⟩;obtain⟨k1,k2,k3⟩:=h.lb l (by simp[AV.ar]) hl;rcases h5 k1 with h6|⟨g,S,e1,e2,e3,e4⟩
  ·exact .inl h6
  ·exact .inr ⟨g,S,k2.trans e1,e2,k3 g S e1 e3,e4⟩
 | .ptr l sz i j,v,h,hv=>by
  simp only[RV] at hv ⊢;obtain⟨a,h1,h2⟩:=hv;refine⟨a,h1,fun hl=> ?_⟩;obtain⟨k1,k2,k3⟩:=h.lb l (by simp[AV.ar]) hl;obtain⟨g,e1,e2⟩:=h2 k1;exact⟨g,k2.trans e1,e2⟩
 | .lptr cs,v,h,hv=>by
  simp only[RV] at hv ⊢;obtain⟨b,o,h1,h2,h3,h4⟩:=hv;obtain⟨k1,k2,_⟩:=h.im b h2 h3;exact⟨b,o,h1,k1,k2,bH.mono h.togE cs b o h2 h3 h4⟩
 | .fn f fs cs,v,h,hv=>by
  simp only[RV] at hv ⊢;obtain⟨vs,us,rfl,h1,h2⟩:=hv;exact⟨vs,us,rfl,bo.mono fs vs (h.sub (by simp[AV.ar];intro l hl;exact .inl hl)) h1,bo.mono cs us (h.sub (by simp[AV.ar];intro l hl;exact .inr hl)) h2⟩
 | .ifc t x,v,h,hv=>by
  simp only[RV] at hv ⊢;obtain⟨u,rfl,h1⟩:=hv;exact⟨u,rfl,RV.mono x u (by simpa[AV.ar] using h) h1⟩
theorem bo.mono {w w':World} {β β':Lb→Option Nat} {H H':Hp} {Im lB:Nat→Prop}:∀(xs:List AV) (vs:List Value),eA w w' β β' H H' Im lB (ah xs)→bo w β H Im xs vs→bo w' β' H' lB xs vs
 |[],_,_,hv=>by simpa[bo] using hv
 |x::r,vs,h,hv=>by
  simp only[bo] at hv ⊢;obtain⟨v,us,rfl,h1,h2⟩:=hv;exact⟨v,us,rfl,RV.mono x v (h.sub (by simp[ah];intro l hl;exact .inl hl)) h1,bo.mono r us (h.sub (by simp[ah];intro l hl;exact .inr hl)) h2⟩
end
def nw (w:World) (β:Lb→Option Nat) (H:Hp) (Im:Nat→Prop) (l:Lb) (r:Row):Prop:=
 0<r.sz∧(∀cs∈r.els,cs.length=r.sz) ∧
 match β l with
 |none=>r.els=[]
 |some g=>∃cur e cap,w.heap[g]?=some (.cells cur e (0,0))∧cur.size=cap*r.sz∧cap≤maxLen∧r.els.length≤cap ∧
  ∀i j cs x,r.els[i]?=some cs→cs[j]?=some x→∃v,cur[i*r.sz+j]?=some v∧RV w β H Im x v
def da (w:World) (Im:Nat→Prop) (cs:List IV) (g:Nat):Prop:=bH w Im cs g 0∧iX w g=some cs.length
theorem da.mono {w w':World} {Im lB:Nat→Prop} (h:gE w w' Im lB) {cs:List IV} {g:Nat} (hb:Im g) (hs:g<w.heap.size) (hg:da w Im cs g):da w' lB cs g:=
 ⟨bH.mono h cs g 0 hb hs hg.1,by unfold iX;rw[(h.im g hb hs).2.2];exact hg.2⟩
end Go.Am

/- THE ABSTRACT MACHINE, part 2: instructions, how the model's operations are read as them, and the state's relation to the world. -/
namespace Go.Am
open Go Go.RowKit
inductive O where
 |t (n:Nat)
 |c (x:AV)
def ev (env:Env):O→AV
 | .t n=>env n
 | .c x=>x
inductive Kd where
 |b|i|s
 deriving DecidableEq
inductive b6 where
 |af (x:O)
 |pick (c a b:O)
 |bU (a:O) (off:Nat)
 |fH (x i:O) (sz:Nat)
 |mR (x i:O)
 |len (x:O)
 |lens (x:O)
 |uM (x:O) (lo hi mx:Option O) (sz:Nat)
 |gV (x:O) (lo hi:Option O)
 |bin (op:BinOp) (x y:O)
 |xa (neg:Bool) (x y:O)
 |z7 (neg:Bool) (x y:O)
 |zP (neg:Bool) (x y:O)
 |ny (neg:Bool) (ks:List Kd) (x y:O)
 |not (x:O)
 |neg (x:O)
 |max (x y:O)
 |min (x y:O)
 |ext (x:O) (i:Nat)
 |rp (z:List AV) (ps:List (Nat×Nat×O))
 |qg (x:O) (off:Nat) (m:Option Nat)
 |lits (n sz:Nat) (z:List AV) (ps:List (Nat×O))
 |pd (x:O)
 |mq (x:O)
 |stuck
 |z8 (f:Nat) (cap:List O)
 |z' (k:IntKind) (x:O)
 |kJ (x:O)
 |zQ (x:O)
 |z_ (x:O)
 |qh (t:Nat) (x:O)
 |load (m:Option Nat) (a:O)
 |box (x:O)
 |new (cs:List AV)
 |s9 (n c:O) (sz bytes:Nat) (z:List AV)
 |store (m:Nat) (a x:O)
 |app (s x:O) (sz bytes:Nat)
 |rq (s x:O) (sz:Nat)
 |call (f:Nat) (args:List O)
 |j0 (x:O) (args:List O)
 |zR (neg:Bool) (x:O)
 |xi (x i:O) (n sz:Nat)
 |cap (x:O)
 |s4 (x:O) (sz:Nat) (z:List AV)
 |iY (f:Nat) (args:List O)
 |qi (x:O) (n sz:Nat)
 |nU (s x:O) (sz bytes:Nat)
 |qj (s n:O) (sz bytes:Nat) (z:List AV)
 |Aa (f:Nat) (first cs:List O)
 |ga (sz:Nat) (z:List AV) (ps:List (Nat×O))
structure cx where
 d:Option Nat
 g:Option (Nat×Bool)
 i:b6
structure Kx where
 P:Program
 G:Nat→Option (List IV)
 w0:World
 A:Nat→Prop
 D:Nat→Prop
 N:Nat
 H0:Hp
 β0:Lb→Option Nat
def Im (K:Kx) (β:Lb→Option Nat) (H:Hp) (k:Nat):Prop:=(K.A k∨K.w0.heap.size≤k)∧∀l,live H l→β l≠some k
structure G_ (D:Nat→Prop) (w0 w:World):Prop where
 os:w.os=w0.os
 tape:w.tape=w0.tape
 output:w.output=w0.output
 size:w0.heap.size≤w.heap.size
 block:∀k,k<w0.heap.size→¬D k→w.heap[k]?=w0.heap[k]?
 bs:∀k S,iX w0 k=some S→iX w k=some S
structure aM (K:Kx) (β:Lb→Option Nat) (env:Env) (H:Hp) (a:Act) (w:World):Prop where
 defers:a.defers=[]
 size:a.tmps.size=K.N
 gg:∀n,RV w β H (Im K β H) (env n) (a.tmps.getD n undef)
 rows:∀l r,H l= .live r→nw w β H (Im K β H) l r
 own:∀l g,live H l→β l=some g→(K.D g∨K.w0.heap.size≤g)
 inj:∀l l' g,live H l→live H l'→β l=some g→β l'=some g→l=l'
 eB:∀n,∀l∈(env n).ar,H l≠ .unused
 cB:∀l r,H l= .live r→∀cs∈r.els,∀l'∈ah cs,H l'≠ .unused
 frame:G_ K.D K.w0 w
 fI:∀g cs,K.G g=some cs→Im K β H g∧g<w.heap.size∧da w (Im K β H) cs g
 fX:∀l,live K.H0 l→H l≠ .unused∧(live H l→β l=K.β0 l)
 fr:∀l g,live H l→l.fresh=true→β l=some g→K.w0.heap.size≤g
def put (env:Env) (d:Nat) (x:AV):Env:=fun n=>if n=d then x else env n
def db (env:Env):Option Nat→AV→Env
 |some d,x=>put env d x
 |none,_=>env
abbrev jT (w w':World):Prop:=Below w.heap.size w w'
theorem jT.pr {w w':World} (h:jT w w') (β:Lb→Option Nat) (H:Hp) (I:Nat→Prop) (ls:List Lb):eA w w' β β H H I I ls where
 im k hk hs:=⟨hk,Nat.lt_of_lt_of_le hs h.size,h.block k hs⟩
 lb l _ hl:=⟨hl,rfl,fun g S _ hS=>by
  unfold iX at *
  have:g<w.heap.size:=by
   cases hg:w.heap[g]? with
   |none=>simp[hg] at hS
   |some o=>exact(Array.getElem?_eq_some_iff.1 hg).1
  rwa[h.block g this]⟩
theorem nw.xj {w w':World} (h:jT w w') {β:Lb→Option Nat} {H:Hp} {I:Nat→Prop} {l:Lb} {r:Row} (hr:nw w β H I l r):nw w' β H I l r:=by
 obtain⟨h1,h2,h3⟩:=hr;refine⟨h1,h2,?_⟩;cases hb:β l with
 |none=>simpa[hb] using h3
 |some g=>
  simp only[hb] at h3 ⊢;obtain⟨cur,e,cap,e1,e2,e3,e4,e5⟩:=h3;have hg:g<w.heap.size:=(Array.getElem?_eq_some_iff.1 e1).1;refine⟨cur,e,cap,(h.block g hg).trans e1,e2,e3,e4,fun i j cs x hi hj=> ?_⟩;obtain⟨v,k1,k2⟩:=e5 i j cs x hi hj;exact⟨v,k1,RV.mono x v (h.pr _ _ _ _) k2⟩
theorem G_.xj {D:Nat→Prop} {w0 w w':World} (h:G_ D w0 w) (g:jT w w'):G_ D w0 w':=
 ⟨g.os.trans h.os,g.tape.trans h.tape,g.output.trans h.output,Nat.le_trans h.size g.size,
   fun k hk hd => (g.block k (Nat.lt_of_lt_of_le hk h.size)).trans (h.block k hk hd),fun k S hS => by
     have h1:=h.bs k S hS
     unfold iX at h1 ⊢
     have:k<w.heap.size:=by
       cases hg:w.heap[k]? with
       |none=>simp[hg] at h1
       |some o=>exact(Array.getElem?_eq_some_iff.1 hg).1
     rwa[g.block k this]⟩
theorem xk (t:Array Value) (d n:Nat) (v:Value):(t.setIfInBounds d v).getD n undef=if n=d∧d<t.size then v else t.getD n undef:=by
 simp only[Array.getD_eq_getD_getElem?,Array.getElem?_setIfInBounds];by_cases h:d=n
 ·subst h;by_cases h2:d<t.size
  ·simp[h2]
  ·simp[h2,Array.getElem?_eq_none (Nat.le_of_not_lt h2)]
 ·simp[h,Ne.symm h,eq_comm]
theorem aM.step {K:Kx} {β:Lb→Option Nat} {env:Env} {H:Hp} {a:Act} {w w':World} (h:aM K β env H a w) (g:jT w w')
  {d:Option Nat} {x:AV} {v:Value} (hd:∀n,d=some n→n<K.N) (hx:d.isSome=true→RV w' β H (Im K β H) x v) (hm:d.isSome=true→∀l∈x.ar,H l≠ .unused):aM K β (db env d x) H (a.put d v) w' where
 defers:=by cases d<;>simp[Act.put,h.defers]
 size:=by cases d<;>simp[Act.put,h.size]
 gg n:=by
  have ho:=RV.mono (env n) (a.tmps.getD n undef) (g.pr β H (Im K β H) _) (h.gg n);cases d with
  |none=>simpa[db,Act.put] using ho
  |some d=>
   simp only[db,Act.put,put,xk];by_cases e:n=d
   ·subst e;have:=hd n rfl;rw[←h.size] at this;simpa[this] using hx rfl
   ·simpa[e] using ho
 rows l r hl:=(h.rows l r hl).xj g
 own:=h.own
 inj:=h.inj
 eB n:=by
  cases d with
  |none=>exact h.eB n
  |some d=>
   simp only[db,put];split
   ·exact hm rfl
   ·exact h.eB n
 cB:=h.cB
 frame:=h.frame.xj g
 fI k cs hk:=by
  obtain⟨h1,h2,h3⟩:=h.fI k cs hk;exact⟨h1,Nat.lt_of_lt_of_le h2 g.size,da.mono (g.pr β H (Im K β H) []).togE h1 h2 h3⟩
 fX:=h.fX
 fr:=h.fr
def EU:Value→Option AV
 | .bool b=>some (.bool b)
 | .int k n=>some (.int k n)
 | .string s=>some (.str s.data.toList)
 | .slice none 0 0=>some .nil0
 | .pointer none=>some .iN
 | .nilIface=>some .fy
 |_=>none
def B9:List Value→Option (List AV)
 |[]=>some []
 |v::r=>(EU v).bind fun x=>(B9 r).map fun s=>x::s
def cv:Value→Option AV
 | .agg a=>(B9 a.toList).map .agg
 |v=>EU v
def co (G:Nat→Option (List IV)):Operand→Option O
 | .tmp t=>some (.t t)
 | .const v=>(cv v).map .c
 | .func f=>some (.c (.fn f [] []))
 | .global g=>(G g).map fun cs=> .c (.lptr cs)
theorem uO {v:Value} {x:AV} (h:EU v=some x):x.ar=[]:=by
 unfold EU at h;split at h<;>simp at h<;>subst h<;>simp[AV.ar]
theorem xl {v:Value} {x:AV} (h:EU v=some x) (w:World) (β:Lb→Option Nat) (H:Hp) (I:Nat→Prop):RV w β H I x v:=by
 unfold EU at h;split at h<;>simp at h<;>subst h<;>simp[RV]
theorem uQ:∀(l:List Value) (xs:List AV),B9 l=some xs→ah xs=[]
 |[],xs,h=>by simp[B9] at h;subst h;rfl
 |v::r,xs,h=>by
  simp only[B9,Option.bind_eq_some_iff,Option.map_eq_some_iff] at h;obtain⟨x,h1,s,h2,rfl⟩:=h;simp[ah,uO h1,uQ r s h2]
theorem xm (w:World) (β:Lb→Option Nat) (H:Hp) (I:Nat→Prop):∀(l:List Value) (xs:List AV),B9 l=some xs→bo w β H I xs l
 |[],xs,h=>by simp[B9] at h;subst h;simp[bo]
 |v::r,xs,h=>by
  simp only[B9,Option.bind_eq_some_iff,Option.map_eq_some_iff] at h;obtain⟨x,h1,s,h2,rfl⟩:=h;simp only[bo];exact⟨v,r,rfl,xl h1 _ _ _ _,xm w β H I r s h2⟩
theorem s_ {v:Value} {x:AV} (h:cv v=some x):x.ar=[]:=by
 unfold cv at h;split at h
 ·obtain⟨cs,h1,rfl⟩:=Option.map_eq_some_iff.1 h;simp[AV.ar,uQ _ _ h1]
 ·exact uO h
theorem B' {v:Value} {x:AV} (h:cv v=some x) (w:World) (β:Lb→Option Nat) (H:Hp) (I:Nat→Prop):RV w β H I x v:=by
 unfold cv at h;split at h
 ·rename_i a;obtain⟨cs,h1,rfl⟩:=Option.map_eq_some_iff.1 h;simp only[RV];exact⟨a.toList,by simp,xm w β H I _ _ h1⟩
 ·exact xl h _ _ _ _
theorem aM.ev {K:Kx} {β:Lb→Option Nat} {env:Env} {H:Hp} {a:Act} {w:World} (h:aM K β env H a w) {x:Operand} {o:O} (hx:co K.G x=some o) :
  RV w β H (Im K β H) (ev env o) (a.eval x):=by
 cases x with
 |tmp t=>simp[co] at hx;subst hx;exact h.gg t
 |const v=>
  simp only[co,Option.map_eq_some_iff] at hx;obtain⟨y,h1,rfl⟩:=hx;exact B' h1 _ _ _ _
 |func f=>simp[co] at hx;subst hx;simp[Am.ev,RV,bo,Act.eval]
 |global g=>
  simp only[co,Option.map_eq_some_iff] at hx;obtain⟨cs,h1,rfl⟩:=hx;obtain⟨h2,h3,h4⟩:=h.fI g cs h1;exact⟨g,0,rfl,h2,h3,h4.1⟩
theorem aM.eu {K:Kx} {β:Lb→Option Nat} {env:Env} {H:Hp} {a:Act} {w:World} (h:aM K β env H a w) {x:Operand} {o:O} (hx:co K.G x=some o) :
  ∀l∈(Am.ev env o).ar,H l≠ .unused:=by
 cases x with
 |tmp t=>simp[co] at hx;subst hx;exact h.eB t
 |const v=>
  simp only[co,Option.map_eq_some_iff] at hx;obtain⟨y,h1,rfl⟩:=hx;simp[Am.ev,s_ h1]
 |func f=>simp[co] at hx;subst hx;simp[Am.ev,AV.ar,ah]
 |global g=>
  simp only[co,Option.map_eq_some_iff] at hx;obtain⟨cs,h1,rfl⟩:=hx;simp[Am.ev,AV.ar]
end Go.Am

/- THE ABSTRACT MACHINE, part 3: how operations are read as instructions; those that leave the rows alone. -/
namespace Go.Am
open Go Go.RowKit
def nV (P:Program) (t:TypeId):Option Nat:=(P.info? t).map (·.size)
def vL (P:Program) (t:TypeId):Option (Option Nat):=
 match P.underlying t with
 |some (.struct _)|some (.array _ _)=>(nV P t).map some
 |some _=>some none
 |none=>none
def cos (G:Nat→Option (List IV)):List Operand→Option (List O)
 |[]=>some []
 |x::r=>(co G x).bind fun y=>(cos G r).map fun s=>y::s
def eZ (G:Nat→Option (List IV)):Option Operand→Option (Option O)
 |none=>some none
 |some x=>(co G x).map some
def AV.iv:AV→Option IV
 | .bool b=>some (.bool b)
 | .int k n=>some (.int k n)
 | .str s=>some (.str s)
 | .list xs=>some (.list xs)
 | .nil0=>some (.list [])
 | .ifc t _=>some (.ifc t)
 |_=>none
def dj:List AV→Option (List IV)
 |[]=>some []
 |x::r=>x.iv.bind fun y=>(dj r).map fun s=>y::s
def AV.cells:AV→List AV
 | .agg cs=>cs
 |x=>[x]
def kJ (l:List Value):Option (List AV):=
 match l with
 |[]=>some []
 |v::r=>(cv v).bind fun x=>(kJ r).map fun s=>x::s
def eC (P:Program):Nat→List Field→Option (List Kd)
 |_,[]=>some []
 |n,f::r=>if f.name != "_"&&f.offset==n then
   match P.underlying f.type with
   |some .string=>(eC P (n+1) r).map fun s=> .s::s
   |some .bool=>(eC P (n+1) r).map fun s=> .b::s
   |some (.int _)=>(eC P (n+1) r).map fun s=> .i::s
   |_=>none
  else none
def j3 (P:Program) (t:TypeId):Option (List Kd):=
 match P.underlying t with
 |some (.struct fs)=>if !P.stoodInHeld t&& !P.eqGuardType P.depth t then eC P 0 fs.toList else none
 |_=>none
def jM:BinOp→Option Bool
 | .eql=>some false
 | .neq=>some true
 |_=>none
def ta:Operand→Bool
 | .const .nilIface=>true
 |_=>false
def kN (pl:List (Nat×Nat)):List Nat→List O→Option (List (Nat×Nat×O))
 |j::js,x::xs=>(pl[j]?).bind fun p=>(kN pl js xs).map fun r=>(p.1,p.2,x)::r
 |[],[]=>some []
 |_,_=>none
def Fe (P:Program) (xt:TypeId):Bool:=match P.underlying xt with|some .string|some (.slice _)=>true|_=>false
def nW (P:Program) (f:Nat):Bool:=(P.funcs[f]?).any (fun fn=>fn.body.isSome&&fn.name != "runtime.NumGoroutine")
def tc:Operand→Bool
 | .const (.slice none 0 0)=>true
 |_=>false
def xn (P : Program) (G : Nat → Option (List IV)) (o : Oper) : Option b6 :=
 match o.op with
 | .move x| .assign x=>(co G x).map .af
 | .pick c a b=>(co G c).bind fun c=>(co G a).bind fun a=>(co G b).map fun b=> .pick c a b
 | .fieldAddr t x f=>
   match P.underlying t with
   |some (.struct fs)=>fs[f]?.bind fun fd=>(nV P fd.type).bind fun s=>if s=0 then none else(co G x).map fun x=> .bU x fd.offset
   |_=>none
 | .indexAddr t x i=>
   match P.underlying t with
   |some (.slice e)=>(nV P e).bind fun s=>(co G x).bind fun x=>(co G i).map fun i=> .fH x i s
   |some (.array n e)=>(nV P e).bind fun s=>(co G x).bind fun x=>(co G i).map fun i=> .xi x i n s
   |_=>none
 | .index t x i=>
   match P.underlying t with
   |some .string=>(co G x).bind fun x=>(co G i).map fun i=> .mR x i
   |_=>none
 | .slice t x lo hi mx=>
   match P.underlying t with
   |some (.slice e)=>(nV P e).bind fun s=>(co G x).bind fun x=>(eZ G lo).bind fun lo=>(eZ G hi).bind fun hi=>(eZ G mx).map fun mx=> .uM x lo hi mx s
   |some .string=>if mx.isSome then none else(co G x).bind fun x=>(eZ G lo).bind fun lo=>(eZ G hi).map fun hi=> .gV x lo hi
   |some (.array n e)=>if lo.isNone&&hi.isNone&&mx.isNone then(nV P e).bind fun s=>if s=0 then none else(co G x).map fun x=> .qi x n s else none
   |_=>none
 | .makeSlice t n c=>
   match P.underlying t with
   |some (.slice e)=>match P.info? e with
     |some i=>match i.zero with
       |some z=>if z.cells.size=i.size∧0<i.size∧0<i.bytes then(kJ z.cells.toList).bind fun zs=>(co G n).bind fun n=>(co G c).map fun c=> .s9 n c i.size i.bytes zs else none
       |none=>none
     |none=>none
   |_=>none
 | .binOp op t x y _=>
   match P.underlying t with
   |some (.int _)|some .string=>(co G x).bind fun x=>(co G y).map fun y=> .bin op x y
   |some .bool=>(jM op).bind fun n=>(co G x).bind fun x=>(co G y).map fun y=> .xa n x y
   |some (.pointer _)=>(jM op).bind fun n=>(co G x).bind fun x=>(co G y).map fun y=> .z7 n x y
   |some (.interface _)=>if ta y then(jM op).bind fun n=>(co G x).bind fun x=>(co G y).map fun y=> .zP n x y else none
   |some (.struct _)=>(j3 P t).bind fun ks=>(jM op).bind fun n=>(co G x).bind fun x=>(co G y).map fun y=> .ny n ks x y
   |some (.slice _)=>if tc y then(jM op).bind fun n=>(co G x).map fun x=> .zR n x else none
   |_=>none
 | .unOp .not _ x=>(co G x).map .not
 | .unOp .neg _ x=>(co G x).map .neg
 | .extract x i=>(co G x).map fun x=> .ext x i
 | .nilCheck x=>(co G x).map .mq
 | .box _ x=>(co G x).map .box
 | .makeFunc (.func f) first cap=>if first.isEmpty then(cos G cap.toList).map fun c=> .z8 f c else(cos G first.toList).bind fun q=>(cos G cap.toList).map fun c=> .Aa f q c
 | .load t x=>(vL P t).bind fun m=>(co G x).map fun x=> .load m x
 | .alloc t=>match P.info? t with
   |some i=>match i.zero with
     |some z=>if z.cells.size=i.size then(kJ z.cells.toList).map .new else none
     |none=>none
   |none=>none
 | .store t x y=>(nV P t).bind fun s=>(co G x).bind fun x=>(co G y).map fun y=> .store s x y
 | .convert s d x=>
   match P.underlying s,P.underlying d with
   |some (.int _),some (.int k)=>(co G x).map fun x=> .z' k x
   |some .string,some .string=>(co G x).map .kJ
   |some .string,some (.slice e)=>match P.underlying e with
     |some (.int .u8)=>(co G x).map .zQ
     |_=>none
   |some (.slice e),some .string=>match P.underlying e with
     |some (.int .u8)=>(co G x).map .z_
     |_=>none
   |_,_=>none
 | .makeInterface t x=>
   match P.underlying t with
   |some (.interface _)=>none
   |some _=>(co G x).map fun x=> .qh t x
   |none=>none
 | .field t x f=>
   match P.underlying t with
   |some (.struct fs)=>fs[f]?.bind fun fd=>(vL P fd.type).bind fun m=>(co G x).map fun x=> .qg x fd.offset m
   |_=>none
 | .buildSlice t n ps=>
   match P.underlying t with
   |some (.slice e)=>match P.info? e with
     |some i=>match i.zero with
       |some z=>if z.cells.size=i.size∧0<i.size∧n*i.size≤2^24 then(kJ z.cells.toList).bind fun zs=>(cos G (ps.toList.map (·.2))).map fun xs=> .lits n i.size zs ((ps.toList.map (·.1)).zip xs) else none
       |none=>none
     |none=>none
   |_=>none
 | .build t ps=>
   match P.info? t,P.underlying t with
   |some it,some (.struct fields)=>match it.zero,fields.toList.mapM (fun f=>(P.info? f.type).map fun i=>(f.offset,i.size)) with
     |some z,some places=>(kJ z.cells.toList).bind fun zs=>(cos G (ps.toList.map (·.2))).bind fun xs=>(kN places (ps.toList.map (·.1)) xs).map fun qs=> .rp zs qs
     |_,_=>none
   |_,_=>none
 | .call c=>
   match c.callee with
   | .builtin .len=>match c.args.toList,c.argTypes[0]?.bind P.underlying with
     |[x],some .string=>(co G x).map .lens
     |[x],some (.slice _)=>(co G x).map .len
     |_,_=>none
   | .builtin .max=>match c.args.toList with
     |[x,y]=>(co G x).bind fun x=>(co G y).map fun y=> .max x y
     |_=>none
   | .builtin .min=>match c.args.toList with
     |[x,y]=>(co G x).bind fun x=>(co G y).map fun y=> .min x y
     |_=>none
   | .builtin .append=>match c.args.toList,c.argTypes.toList with
     |[s,x],[st,xt]=>match P.underlying st with
       | some (.slice e) => match P.info? e with
         |some i=>if(i.zero.map (·.cells.size))==some i.size&&decide (0<i.size)&&Fe P xt then
             (co G s).bind fun s=>(co G x).map fun x=> .app s x i.size i.bytes else match P.underlying xt,i.zero with
               |some (.int _),some z=>if z.cells.size=i.size∧0<i.size∧0<i.bytes then(kJ z.cells.toList).bind fun zs=>(co G s).bind fun s=>(co G x).map fun x=> .qj s x i.size i.bytes zs else none
               |_,_=>none
         |none=>none
       |_=>none
     |_,_=>none
   | .builtin .cap=>match c.args.toList,c.argTypes[0]?.bind P.underlying with
     |[x],some (.slice _)=>(co G x).map .cap
     |_,_=>none
   | .builtin .copy=>match c.args.toList,c.argTypes.toList with
     |[d,x],[dt,_]=>match P.underlying dt with
       |some (.slice e)=>(nV P e).bind fun s=>if s=0 then none else(co G d).bind fun d=>(co G x).map fun x=> .rq d x s
       |_=>none
     |_,_=>none
   | .builtin .clear=>match c.args.toList,c.argTypes[0]?.bind P.underlying with
     |[x],some (.slice e)=>match P.info? e with
       |some i=>match i.zero with
         |some z=>if z.cells.size=i.size∧0<i.size then(kJ z.cells.toList).bind fun zs=>(co G x).map fun x=> .s4 x i.size zs else none
         |none=>none
       |none=>none
     |_,_=>none
   | .builtin _=>none
   | .invoke _ _=>none
   | .value (.func f)=>if nW P f then(cos G c.args.toList).map fun xs=> .call f xs else(cos G c.args.toList).map fun xs=> .iY f xs
   | .value f=>(co G f).bind fun y=>(cos G c.args.toList).map fun xs=> .j0 y xs
 |_=>none
def comp (P:Program) (G:Nat→Option (List IV)) (o:Oper):Option b6:=match xn P G o with
 |some i=>some i
 |none=>some .stuck
open Classical in
noncomputable def kZ (env:Env) (o:Option O) (HD mx:Nat):Option Nat:=
 match o with
 |none=>some HD
 |some x=>match ev env x with
  | .int _ v=>if 0≤v∧v.toNat≤mx then some v.toNat else none
  |_=>none
def Jn (xs:List IV):Prop:=∀y∈xs,∀z∈y.cells,∀cs,z≠ .agg cs
def ia (sz:Nat) (xs:List IV):Prop:=∀x∈xs,x.cells.length=sz
def br (op:BinOp) (x y:AV):Option AV:=
 match x,y with
 | .int k a,.int k' b=>if k=k' then match op with
   | .add=>some (.int k (k.wrap (a+b)))
   | .sub=>some (.int k (k.wrap (a - b)))
   | .mul=>some (.int k (k.wrap (a*b)))
   | .quo=>if b=0 then none else some (.int k (k.wrap (a.tdiv b)))
   | .rem=>if b=0 then none else some (.int k (a.tmod b))
   | .eql=>some (.bool (a==b))
   | .neq=>some (.bool (a !=b))
   | .lss=>some (.bool (a<b))
   | .leq=>some (.bool (a≤b))
   | .gtr=>some (.bool (a>b))
   | .geq=>some (.bool (a≥b))
   | .shr=>if 0≤b then some (.int k (a/2^min b.toNat k.bits)) else none
   |_=>none
  else none
 | .str a,.str b=>match op with
   | .add=>if a.length+b.length≤9223372036854775807 then some (.str (a++b)) else none
   | .eql=>some (.bool (a==b))
   | .neq=>some (.bool !(a==b))
   | .lss=>some (.bool (Op.bytesLess a b))
   | .leq=>some (.bool (Op.bytesLess a b||a==b))
   | .gtr=>some (.bool !(Op.bytesLess a b||a==b))
   | .geq=>some (.bool !(Op.bytesLess a b))
   |_=>none
 |_,_=>none
def Ha:Kd→AV→AV→Option Bool
 | .b,.bool a,.bool b=>some (a==b)
 | .i,.int k a,.int k' b=>if k=k' then some (a==b) else none
 | .s,.str a,.str b=>some (a==b)
 |_,_,_=>none
def eqs:List Kd→List AV→List AV→Option Bool
 |[],[],[]=>some true
 |k::ks,x::r,y::s=>(Ha k x y).bind fun a=>(eqs ks r s).map fun b=>a&&b
 |_,_,_=>none
def Jo:AV→AV→Option Bool
 | .iN,.iN=>some true
 | .iN,.ptr ..=>some false
 | .iN,.lptr ..=>some false
 | .ptr ..,.iN=>some false
 | .lptr ..,.iN=>some false
 |_,_=>none
noncomputable def j4 (env:Env) (lo hi mx:Option O) (n:Nat):Option (Nat×Nat×Option Nat):=
 match mx with
 |none=>(kZ env hi n n).bind fun h=>(kZ env lo 0 h).map fun l=>(l,h,none)
 |some m=>if hi.isNone then none else(kZ env (some m) 0 n).bind fun m=>(kZ env hi 0 m).bind fun h=>(kZ env lo 0 h).map fun l=>(l,h,some m)
noncomputable def td (env:Env) (lo hi mx:Option O) (n c:Nat):Option (Nat×Nat×Option Nat):=
 match mx with
 |none=>(kZ env hi n c).bind fun h=>(kZ env lo 0 h).map fun l=>(l,h,none)
 |some m=>if hi.isNone then none else(kZ env (some m) 0 c).bind fun m=>(kZ env hi 0 m).bind fun h=>(kZ env lo 0 h).map fun l=>(l,h,some m)
open Classical in
noncomputable def qk (env:Env) (x:AV) (lo hi mx:Option O) (sz:Nat):Option AV:=
 match x with
 | .nil0=>(j4 env lo hi mx 0).map fun _=> .nil0
 | .list xs=>if ia sz xs then(j4 env lo hi mx xs.length).map fun b=>if b.2.2=some b.1 then .nil0 else .list ((xs.take b.2.1).drop b.1) else none
 | .sl lb s i n=>if s=sz then(j4 env lo hi mx n).bind fun b=>if b.2.2.isSome then none else some (.sl lb s (i+b.1) (b.2.1 - b.1)) else none
 | .slk lb s i n c=>if s=sz then(td env lo hi mx n c).bind fun b=>if b.2.2.isSome then some .any else some (.slk lb s (i+b.1) (b.2.1 - b.1) (c - b.1)) else none
 |_=>none
def AV.one:AV→Bool
 | .any| .un| .agg _| .ei _=>false
 |_=>true
def AV.dk:AV→Bool
 | .agg cs=>cs.all AV.one
 |x=>x.one
def aQ:List AV→List (Nat×Nat×AV)→Option (List AV)
 |cs,[]=>some cs
 |cs,(off,sz,x)::r=>if x.dk=true∧x.cells.length=sz∧off+sz≤cs.length then aQ (cs.take off++x.cells++cs.drop (off+sz)) r else none
def dF:List IV→IV
 |[y]=>y
 |ys=> .agg ys
def chunks (sz:Nat):Nat→List IV→List IV
 |0,_=>[]
 |n+1,ys=>dF (ys.take sz)::chunks sz n (ys.drop sz)
def lD:List IV→Option (List UInt8)
 |[]=>some []
 | .int .u8 n::r=>(lD r).map (UInt8.ofNat n.toNat::·)
 |_=>none
def Ff:AV→Option AV
 | .list xs=>(lD xs).map .str
 | .nil0=>some (.str [])
 |_=>none
open Classical in
noncomputable def aa (i:b6) (env:Env):Option AV:=
 match i with
 | .af x=>some (ev env x)
 | .pick c a b=>match ev env c with
  | .bool t=>some (if t then ev env a else ev env b)
  |_=>none
 | .bU a off=>match ev env a with
  | .ptr l sz i j=>some (.ptr l sz i (j+off))
  | .lptr cs=>some (.lptr (cs.drop off))
  |_=>none
 | .fH x i sz=>match ev env x,ev env i with
  | .list xs,.int _ n=>if 0≤n then match xs[n.toNat]? with
    |some y=>if ia sz xs then some (.lptr y.cells) else none
    |none=>none
   else none
  | .sl l s i0 m,.int _ n=>if 0≤n∧n.toNat<m∧s=sz then some (.ptr l s (i0+n.toNat) 0) else none
  |_,_=>none
 | .mR x i=>match ev env x,ev env i with
  | .str s,.int _ n=>if 0≤n then match s[n.toNat]? with
    |some c=>some (.int .u8 c.toNat)
    |none=>none
   else none
  |_,_=>none
 | .lens x=>match ev env x with
  | .str s=>some (.int .i64 s.length)
  |_=>none
 | .len x=>match ev env x with
  | .list xs=>some (.int .i64 xs.length)
  | .nil0=>some (.int .i64 0)
  | .sl _ _ _ n=>some (.int .i64 n)
  | .slk _ _ _ n _=>some (.int .i64 n)
  |_=>none
 | .uM x lo hi mx sz=>qk env (ev env x) lo hi mx sz
 | .gV x lo hi=>match ev env x with
  | .str s=>(kZ env hi s.length s.length).bind fun h=>(kZ env lo 0 h).map fun l=> .str ((s.take h).drop l)
  |_=>none
 | .bin op x y=>br op (ev env x) (ev env y)
 | .xa neg x y=>match ev env x,ev env y with
  | .bool a,.bool b=>some (.bool (neg ^^ (a==b)))
  |_,_=>none
 | .z7 neg x y=>(Jo (ev env x) (ev env y)).map fun b=> .bool (neg ^^ b)
 | .zP neg x _=>match ev env x with
  | .fy=>some (.bool (neg ^^ true))
  | .ifc _ _=>some (.bool (neg ^^ false))
  |_=>none
 | .ny neg ks x y=>match ev env x,ev env y with
  | .agg xs,.agg ys=>(eqs ks xs ys).map fun b=> .bool (neg ^^ b)
  |_,_=>none
 | .not x=>match ev env x with
  | .bool b=>some (.bool !b)
  |_=>none
 | .neg x=>match ev env x with
  | .int k n=>some (.int k (k.wrap (0 - n)))
  |_=>none
 | .max x y=>match ev env x,ev env y with
  | .int k a,.int k' b=>if k=k' then some (.int k (if b>a then b else a)) else none
  |_,_=>none
 | .min x y=>match ev env x,ev env y with
  | .int k a,.int k' b=>if k=k' then some (.int k (if b<a then b else a)) else none
  |_,_=>none
 | .ext x i=>match ev env x with
  | .ei cs=>cs[i]?
  |_=>none
 | .mq x=>match ev env x with
  | .ptr l sz i j=>some (.ptr l sz i j)
  | .lptr cs=>some (.lptr cs)
  | .fn f a b=>some (.fn f a b)
  |_=>none
 | .z8 f cap=>some (.fn f [] (cap.map (ev env)))
 | .Aa f q cap=>some (.fn f (q.map (ev env)) (cap.map (ev env)))
 | .z' k x=>match ev env x with
  | .int _ n=>some (.int k (k.wrap n))
  |_=>none
 | .kJ x=>match ev env x with
  | .str s=>some (.str s)
  |_=>none
 | .qh t x=>some (.ifc t (ev env x))
 | .rp z ps=>(aQ z (ps.map fun p=>(p.1,p.2.1,ev env p.2.2))).map .agg
 | .qg x off m=>match ev env x with
  | .agg cs=>match m with
   |none=>cs[off]?
   |some k=>if off+k≤cs.length then some (.agg ((cs.drop off).take k)) else none
  |_=>none
 | .pd x=>(dj (ev env x).cells).map .lptr
 | .lits n sz z ps=>if sz*n=0 then(if n=0∧ps.isEmpty=true then some .nil0 else none) else(aQ ((List.replicate n z).flatten) (ps.map fun p=>(p.1*sz,sz,ev env p.2))).bind fun cs=>(dj cs).map fun ys=>
   .list (chunks sz n ys)
 | .load m a=>match ev env a with
  | .lptr cs=>match m with
   |none=>cs[0]?.map IV.b7
   |some k=>if k≤cs.length then some (.agg ((cs.take k).map IV.b7)) else none
  |_=>none
 | .zQ x=>match ev env x with
  | .str s=>if s.length≤140737488355328 then some (.list (s.map fun c=> .int .u8 c.toNat)) else none
  |_=>none
 | .z_ x=>Ff (ev env x)
 | .xi x i n sz=>match ev env x,ev env i with
  | .ptr l s a j,.int _ m=>if 0≤m∧m.toNat<n then some (.ptr l s a (j+m.toNat*sz)) else none
  | .lptr cs,.int _ m=>if 0≤m∧m.toNat<n then some (.lptr (cs.drop (m.toNat*sz))) else none
  |_,_=>none
 | .qi x n sz=>match ev env x with
  | .lptr cs=>if cs.length=n*sz∧n≤maxLen∧(∀y∈cs,y.cells=[y]) then some (.list (chunks sz n cs)) else none
  |_=>none
 | .nU s x sz bytes=>match ev env s,ev env x with
  | .nil0,.list xs=>if ia sz xs∧Jn xs∧xs.length*bytes≤140737488355328∧0<bytes∧0<sz then some (.list xs) else none
  | .nil0,.nil0=>if 0<sz then some (.list []) else none
  |_,_=>none
 |_=>none
end Go.Am

/- THE ABSTRACT MACHINE, part 4: the instructions that leave the rows alone do what the model's operations do. -/
namespace Go.Am
open Go Go.RowKit
def aO (K:Kx) (β:Lb→Option Nat) (H:Hp) (a:Act) (w:World) (o:Oper) (x:AV):Prop:=
 ∃v w',(execOp a.eval o).run K.P w= .ok (.value v) w'∧jT w w'∧RV w' β H (Im K β H) x v∧∀l∈x.ar,H l≠ .unused
theorem aO.same {K:Kx} {β:Lb→Option Nat} {H:Hp} {a:Act} {w:World} {o:Oper} {x:AV} {v:Value} (h:(execOp a.eval o).run K.P w= .ok (.value v) w)
 (hv:RV w β H (Im K β H) x v) (hm:∀l∈x.ar,H l≠ .unused):aO K β H a w o x:=⟨v,w,h,Below.refl _ _,hv,hm⟩
section
variable {K:Kx} {β:Lb→Option Nat} {env:Env} {H:Hp} {a:Act} {w:World}
theorem B_ (hr:aM K β env H a w) {o:Oper} {x:Operand} {y:O} (ho:o.op= .move x∨o.op= .assign x) (hy:co K.G x=some y):aO K β H a w o (ev env y):=by
 refine aO.same (v:=a.eval x) ?_ (hr.ev hy) (hr.eu hy);rcases ho with ho|ho<;>simp[execOp,ho]
theorem CG (hr:aM K β env H a w) {o:Oper} {c x y:Operand} {c' x' y':O} (ho:o.op= .pick c x y) (hc:co K.G c=some c') (hx:co K.G x=some x') (hy:co K.G y=some y')
  {t:Bool} (ht:ev env c'= .bool t):aO K β H a w o (if t then ev env x' else ev env y'):=by
 have h:=hr.ev hc;rw[ht] at h;simp only[RV] at h;refine aO.same (v:=if t then a.eval x else a.eval y) ?_ ?_ ?_
 ·cases t<;>simp[execOp,ho,h,asBool]
 ·cases t
  ·simpa using hr.ev hy
  ·simpa using hr.ev hx
 ·cases t
  ·simpa using hr.eu hy
  ·simpa using hr.eu hx
theorem addr_add (g off n:Nat):(⟨g,off,none⟩:Addr).add n=⟨g,off+n,none⟩:=by
 unfold Addr.add;split<;>simp_all
theorem cy {P:Program} {t:TypeId} {s:Nat} (h:nV P t=some s) (w:World):(sizeOf t).run P w= .ok s w:=by
 unfold nV at h;obtain⟨i,h1,h2⟩:=Option.map_eq_some_iff.1 h;simp[sizeOf,typeInfo,h1,h2]
theorem iD {w:World} {I:Nat→Prop}:∀(n:Nat) (cs:List IV) (b o:Nat),bH w I cs b o→bH w I (cs.drop n) b (o+n)
 |0,cs,b,o,h=>by simpa using h
 |n+1,[],b,o,_=>by simp[bH]
 |n+1,x::r,b,o,h=>by
  simp only[bH] at h;have:=iD n r b (o+1) h.2;rw[List.drop_succ_cons]
  rwa[show o+1+n=o+(n+1) by omega] at this
theorem Fg (hr:aM K β env H a w) {o:Oper} {t:TypeId} {x:Operand} {f:Nat} {fs:Array Field} {fd:Field} {s:Nat} {x':O} (ho:o.op= .fieldAddr t x f)
  (ht:K.P.underlying t=some (.struct fs)) (hf:fs[f]?=some fd) (hs:nV K.P fd.type=some s) (zS:s≠0) (hx:co K.G x=some x') {y:AV}
  (hy:aa (.bU x' fd.offset) env=some y):aO K β H a w o y:=by
 have h:=hr.ev hx;have hm:=hr.eu hx
 have run:∀ad:Addr,a.eval x= .pointer (some ad)→(execOp a.eval o).run K.P w= .ok (.value (.pointer (some (ad.add fd.offset)))) w:=fun ad HE=>by
  simp[execOp,ho,HE,Instr.fieldAt,run_underlying ht,hf,Instr.sureAddr,fieldPlace,cy hs,zS,Result.andThen]
 simp only[aa] at hy;split at hy<;>simp at hy<;>subst hy<;>rename_i heq
 ·rw[heq] at h hm;simp only[RV] at h;obtain⟨ad,h1,h2⟩:=h;refine aO.same (run ad h1) ?_ (by simpa[AV.ar] using hm);simp only[RV];refine⟨_,rfl,fun hl=> ?_⟩;obtain⟨g,k1,rfl⟩:=h2 hl;exact⟨g,k1,by rw[addr_add];simp[Nat.add_assoc]⟩
 ·rw[heq] at h;simp only[RV] at h;obtain⟨b,o',h1,h2,h3,h4⟩:=h;refine aO.same (run _ h1) ?_ (by simp[AV.ar]);rw[addr_add];exact⟨b,_,rfl,h2,h3,iD _ _ _ _ h4⟩
theorem pt {w:World} {I:Nat→Prop} {sz:Nat}:∀(k:Nat) (xs:List IV) (b o:Nat) (y:IV),xs[k]?=some y→bN w I xs b o sz→f_ w I y b (o+k*sz) sz
 |0,[],_,_,_,h,_=>by simp at h
 |0,x::r,b,o,y,h,he=>by
  simp at h;subst h;simp only[bN] at he;simpa using he.1
 |k+1,[],_,_,_,h,_=>by simp at h
 |k+1,x::r,b,o,y,h,he=>by
  simp only[bN] at he;have:=pt k r b (o+sz) y (by simpa using h) he.2
  rwa[show o+sz+k*sz=o+(k+1)*sz by rw[Nat.add_mul];omega] at this
theorem run_indexAt_slice {P:Program} {w:World} {t e:TypeId} {s:Nat} (ht:P.underlying t=some (.slice e)) (hs:nV P e=some s) (ad:Addr) (n c:Nat) (k:IntKind) (i:Int) (h0:0≤i) (hi:i.toNat<n) :
  (Instr.indexAt t (.slice (some ad) n c) (.int k i)).run P w= .ok (.pointer (some (ad.add (i.toNat*s)))) w:=by
 have:i<(n:Int):=by omega
 simp[Instr.indexAt,asIntOf,run_underlying ht,cy hs,h0,this,Result.andThen]
theorem Fh (hr:aM K β env H a w) {o:Oper} {t e:TypeId} {x i:Operand} {n s:Nat} {x' i':O} (ho:o.op= .indexAddr t x i)
  (ht:K.P.underlying t=some (.array n e)) (hs:nV K.P e=some s) (hx:co K.G x=some x') (hi:co K.G i=some i') {y:AV}
  (hy:aa (.xi x' i' n s) env=some y):aO K β H a w o y:=by
 have h:=hr.ev hx;have h2:=hr.ev hi;have hm:=hr.eu hx
 have run:∀(ad:Addr) (k:IntKind) (m:Int),a.eval x= .pointer (some ad)→a.eval i= .int k m→0≤m→m.toNat<n→(execOp a.eval o).run K.P w= .ok (.value (.pointer (some (ad.add (m.toNat*s))))) w:=fun ad k m HE te h0 bz=>by
  have J6:m<(n:Int):=by omega
  simp[execOp,ho,HE,te,Instr.indexAt,asIntOf,run_underlying ht,Instr.sureAddr,cy hs,Result.andThen,h0,J6]
 simp only[aa] at hy;split at hy
 ·rename_i l sz a0 j k m e1 e2;rw[e1] at h hm;rw[e2] at h2;simp only[RV,eT] at h h2;split at hy
  ·rename_i hn;simp only[Option.some.injEq] at hy;subst hy;obtain⟨ad,h3,h4⟩:=h;refine aO.same (run ad k m h3 h2 hn.1 hn.2) ?_ (by simpa[AV.ar] using hm);simp only[RV];refine⟨_,rfl,fun hl=> ?_⟩;obtain⟨g,k1,rfl⟩:=h4 hl;exact⟨g,k1,by rw[addr_add];simp[Nat.add_assoc]⟩
  ·simp at hy
 ·rename_i cs k m e1 e2;rw[e1] at h;rw[e2] at h2;simp only[RV,eT] at h h2;split at hy
  ·rename_i hn;simp only[Option.some.injEq] at hy;subst hy;obtain⟨b,o',h3,h4,h5,h6⟩:=h;refine aO.same (run _ k m h3 h2 hn.1 hn.2) ?_ (by simp[AV.ar]);rw[addr_add];exact⟨b,_,rfl,h4,h5,iD _ _ _ _ h6⟩
  ·simp at hy
 ·simp at hy
theorem Fi (hr:aM K β env H a w) {o:Oper} {t e:TypeId} {x i:Operand} {s:Nat} {x' i':O} (ho:o.op= .indexAddr t x i)
  (ht:K.P.underlying t=some (.slice e)) (hs:nV K.P e=some s) (hx:co K.G x=some x') (hi:co K.G i=some i') {y:AV}
  (hy:aa (.fH x' i' s) env=some y):aO K β H a w o y:=by
 have h:=hr.ev hx;have h2:=hr.ev hi;have hm:=hr.eu hx;simp only[aa] at hy;split at hy
 ·rename_i xs k n e1 e2;rw[e1] at h;rw[e2] at h2;simp only[RV,eT] at h h2;split at hy
  ·rename_i hn;split at hy
   ·rename_i z hz;split at hy
    ·rename_i nz;simp only[Option.some.injEq] at hy;subst hy;obtain⟨ad,c,h3,h4,h5,h6⟩:=h;have bz:n.toNat<xs.length:=(List.getElem?_eq_some_iff.1 hz).1;rcases h6 with h6|⟨b,of,sz,rfl,h7,h8,h9,J7⟩
     ·omega
     ·have CH:=pt n.toNat xs b of z hz J7;rw[fB] at CH;have J8:sz=s:=by rw[CH.1];exact nz z (List.mem_of_getElem? hz)
      subst J8;refine aO.same (v:= .pointer (some ⟨b,of+n.toNat*sz,none⟩)) ?_ ⟨b,_,rfl,h7,h8,CH.2⟩ (by simp[AV.ar]);simp[execOp,ho,h3,h2,run_indexAt_slice ht hs _ _ _ _ _ hn bz,addr_add]
    ·simp at hy
   ·simp at hy
  ·simp at hy
 ·rename_i l s' i0 m k n e1 e2;rw[e1] at h hm;rw[e2] at h2;simp only[RV] at h h2;split at hy
  ·rename_i hn;obtain⟨mm,Ab,rfl⟩:=hn;simp only[Option.some.injEq] at hy;subst hy;obtain⟨ad,c,h3,h4,h5,h6,h7⟩:=h;obtain⟨J9,rfl⟩:=Option.isSome_iff_exists.1 (h6 (by omega));refine aO.same (v:= .pointer (some (J9.add (n.toNat*s')))) ?_ ?_ (by simpa[AV.ar] using hm)
   ·simp[execOp,ho,h3,h2,run_indexAt_slice ht hs _ _ _ _ _ mm Ab]
   ·refine⟨_,rfl,fun hl=> ?_⟩;rcases h7 hl with h8|⟨g,S,k1,k2,k3,k4⟩
    ·omega
    ·simp only[Option.some.injEq] at k2;subst k2;exact⟨g,k1,by rw[addr_add];simp[Nat.add_mul]⟩
  ·simp at hy
 ·simp at hy
theorem Fj (hr:aM K β env H a w) {o:Oper} {t:TypeId} {x i:Operand} {x' i':O} (ho:o.op= .index t x i)
  (ht:K.P.underlying t=some .string) (hx:co K.G x=some x') (hi:co K.G i=some i') {y:AV}
  (hy:aa (.mR x' i') env=some y):aO K β H a w o y:=by
 have h:=hr.ev hx;have h2:=hr.ev hi;simp only[aa] at hy;split at hy
 ·rename_i s k n e1 e2;rw[e1] at h;rw[e2] at h2;simp only[RV] at h h2;split at hy
  ·rename_i hn;split at hy
   ·rename_i c hc;simp only[Option.some.injEq] at hy;subst hy;have bz:n.toNat<s.length:=(List.getElem?_eq_some_iff.1 hc).1;refine aO.same (v:= .int .u8 c.toNat) ?_ (by simp[RV]) (by simp[AV.ar])
    have J':(⟨s.toArray⟩:ByteArray)[n.toNat]?=some c:=by
     have e:s[n.toNat]=c:=(List.getElem?_eq_some_iff.1 hc).2;have hs:n.toNat<(⟨s.toArray⟩:ByteArray).size:=by show n.toNat<s.toArray.size;simpa using bz
     rw[getElem?_pos (⟨s.toArray⟩:ByteArray) n.toNat hs];exact congrArg some e
    simp[execOp,ho,h,h2,Instr.index,asIntOf,run_underlying ht,hn,J']
   ·simp at hy
  ·simp at hy
 ·simp at hy
theorem j5 (s:List UInt8):(⟨s.toArray⟩:ByteArray).size=s.length:=by show s.toArray.size=_;simp
theorem CI (hr:aM K β env H a w) {o:Oper} {c:Call} {x:Operand} {x':O} (ho:o.op= .call c) (hc:c.callee= .builtin .len) (ha:c.args.toList=[x])
  (ht:c.argTypes[0]?.bind K.P.underlying=some .string) (hx:co K.G x=some x') {y:AV} (hy:aa (.lens x') env=some y):aO K β H a w o y:=by
 have h:=hr.ev hx;obtain⟨t,Ac,Ad⟩:=Option.bind_eq_some_iff.1 ht;have nA:c.args=#[x]:=by cases hh:c.args;simp_all
 simp only[aa] at hy;split at hy
 ·rename_i s hs;rw[hs] at h;simp only[RV,Option.some.injEq] at h hy;subst hy;refine aO.same (v:= .int .i64 s.length) ?_ (by simp[RV]) (by simp[AV.ar]);simp[execOp,ho,resolve,hc,nA,h,invoke,builtin,Builtin.len_,Ac,run_underlying Ad,goInt,j5]
 ·simp at hy
theorem Fk (hr:aM K β env H a w) {o:Oper} {c:Call} {x:Operand} {x':O} {e:TypeId} (ho:o.op= .call c) (hc:c.callee= .builtin .len) (ha:c.args.toList=[x])
  (ht:c.argTypes[0]?.bind K.P.underlying=some (.slice e)) (hx:co K.G x=some x') {y:AV} (hy:aa (.len x') env=some y):aO K β H a w o y:=by
 have h:=hr.ev hx;obtain⟨t,Ac,Ad⟩:=Option.bind_eq_some_iff.1 ht;have nA:c.args=#[x]:=by cases hh:c.args;simp_all
 have sl:∀(ad:Option Addr) (n c':Nat),a.eval x= .slice ad n c'→(execOp a.eval o).run K.P w= .ok (.value (.int .i64 n)) w:=by
  intro ad n c' hv;simp[execOp,ho,resolve,hc,nA,hv,invoke,builtin,Builtin.len_,Ac,run_underlying Ad,goInt]
 simp only[aa] at hy;split at hy
 ·rename_i xs hs;rw[hs] at h;simp only[RV,eT,Option.some.injEq] at h hy;subst hy;obtain⟨ad,c',h3,h4⟩:=h;exact aO.same (sl _ _ _ h3) (by simp[RV]) (by simp[AV.ar])
 ·rename_i hs;rw[hs] at h;simp only[RV,Option.some.injEq] at h hy;subst hy;obtain⟨ad,h3⟩:=h;exact aO.same (sl _ _ _ h3) (by simp[RV]) (by simp[AV.ar])
 ·rename_i l sz i n hs;rw[hs] at h;simp only[RV,Option.some.injEq] at h hy;subst hy;obtain⟨ad,c',h3,h4⟩:=h;exact aO.same (sl _ _ _ h3) (by simp[RV]) (by simp[AV.ar])
 ·rename_i l sz i n c hs;rw[hs] at h;simp only[RV,Option.some.injEq] at h hy;subst hy;obtain⟨ad,h3,h4⟩:=h;exact aO.same (sl _ _ _ h3) (by simp[RV]) (by simp[AV.ar])
 ·simp at hy
theorem nB (op:BinOp) (t:TypeId) (x y:Operand) (k k':IntKind) (m n:Int) {P:Program} {w:World}:(eqGuard op t x y (.int k m) (.int k' n)).run P w= .ok () w:=by
 cases op<;>simp[eqGuard]
theorem nC (op:BinOp) (t:TypeId) (x y:Operand) (m n:ByteArray) {P:Program} {w:World}:(eqGuard op t x y (.string m) (.string n)).run P w= .ok () w:=by
 cases op<;>simp[eqGuard]
theorem Ca (hr:aM K β env H a w) {o:Oper} {op:BinOp} {t t2:TypeId} {x y:Operand} {x' y':O} (ho:o.op= .binOp op t x y t2)
  (hx:co K.G x=some x') (hy:co K.G y=some y') {z:AV} (hz:aa (.bin op x' y') env=some z):aO K β H a w o z:=by
 have h:=hr.ev hx;have h2:=hr.ev hy;simp only[aa,br] at hz;split at hz
 ·rename_i k m k' n e1 e2;rw[e1] at h;rw[e2] at h2;simp only[RV] at h h2;split at hz
  ·rename_i hk;subst hk
   have key:∀v,(binOp op t (.int k m) (.int k n)).run K.P w= .ok v w→RV w β H (Im K β H) z v→z.ar=[]→aO K β H a w o z:=by
    intro v hv Cb hl;refine aO.same (v:=v) ?_ Cb (by simp[hl]);simp[execOp,ho,h,h2,nB,hv]
   cases op<;>simp only[Option.some.injEq,reduceCtorEq] at hz
   case quo=>
    split at hz
    ·simp at hz
    ·rename_i hn;simp only[Option.some.injEq] at hz;subst hz;exact key (.int k (k.wrap (m.tdiv n))) (by simp[binOp,Op.intDiv,hn]) (by simp[RV]) (by simp[AV.ar])
   case rem=>
    split at hz
    ·simp at hz
    ·rename_i hn;simp only[Option.some.injEq] at hz;subst hz;exact key (.int k (m.tmod n)) (by simp[binOp,Op.intDiv,hn]) (by simp[RV]) (by simp[AV.ar])
   case shr=>
    split at hz
    ·rename_i hn;simp only[Option.some.injEq] at hz;subst hz;exact key (.int k (m/2^min n.toNat k.bits)) (by rw[binOp_shr,shift_shr_any k k m n hn];rfl) (by simp[RV]) (by simp[AV.ar])
    ·simp at hz
   all_goals (subst hz;refine key _ (by simp[binOp,Op.intArith,Op.intCmp];rfl) (by simp[RV]) (by simp[AV.ar]))
  ·simp at hz
 ·rename_i s u e1 e2;rw[e1] at h;rw[e2] at h2;simp only[RV] at h h2
  have key:∀v,(binOp op t (.string ⟨s.toArray⟩) (.string ⟨u.toArray⟩)).run K.P w= .ok v w→RV w β H (Im K β H) z v→z.ar=[]→aO K β H a w o z:=by
   intro v hv Cb hl;refine aO.same (v:=v) ?_ Cb (by simp[hl]);simp[execOp,ho,h,h2,nC,hv]
  cases op<;>simp only[Option.some.injEq,reduceCtorEq] at hz
  case add=>
   split at hz
   ·rename_i hn;simp only[Option.some.injEq] at hz;subst hz;refine key (.string ⟨(s++u).toArray⟩) ?_ (by simp[RV]) (by simp[AV.ar])
    have h1:¬((((⟨s.toArray⟩:ByteArray).size+(⟨u.toArray⟩:ByteArray).size:Nat):Int)>IntKind.i64.max):=by
     rw[j5,j5];simp only[IntKind.max,IntKind.signed,IntKind.bits];simp;omega
    have h3:(⟨s.toArray⟩:ByteArray)++⟨u.toArray⟩=⟨(s++u).toArray⟩:=by
     apply ByteArray.ext;show((⟨s.toArray⟩:ByteArray)++⟨u.toArray⟩).data=(s++u).toArray;simp[ByteArray.data_append]
    simp only[binOp,Op.stringOp,h1,if_false,h3,Sem.run_pure]
   ·simp at hz
  all_goals (subst hz;refine key _ (by simp[binOp,Op.stringOp,ByteArray.toList_mk];rfl) (by simp[RV]) (by simp[AV.ar]))
 ·simp at hz
end
end Go.Am
