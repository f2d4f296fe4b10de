/- THE ABSTRACT MACHINE, part 1: abstract values, labelled rows, and what they say of a world. -/
import Derived.WalkKit
set_option linter.defProp false
set_option linter.unnecessarySimpa false
set_option linter.unusedVariables false
set_option linter.unusedSimpArgs false
namespace Go.Am
open Go Go.RowKit

/-- A label of a row that the call owns. -/
inductive Lb where
  | loc (n : Nat)
  | par (n : Nat)
  | gen (n : Nat)
  | nest (l : Lb) (i j : Nat)
  deriving DecidableEq

/-- Was its block made by this call? -/
def Lb.fresh : Lb → Bool
  | .loc _ => true
  | _ => false

/-- The label of what comes of an append. -/
def Lb.app (l : Lb) (d : Nat) : Lb := if l.fresh then .loc d else .gen d

theorem Lb.app_fresh (l : Lb) (d : Nat) (h : (l.app d).fresh = true) : l.fresh = true := by
  unfold Lb.app at h
  split at h
  · assumption
  · simp [Lb.fresh] at h

/-- Data that nobody writes any more. -/
inductive IV where
  | bool (b : Bool)
  | int (k : IntKind) (n : Int)
  | str (s : List UInt8)
  | list (xs : List IV)
  | agg (cs : List IV)

def IV.cells : IV → List IV
  | .agg cs => cs
  | x => [x]

/-- What a register or a cell of an owned row holds. -/
inductive AV where
  | any
  | un
  | bool (b : Bool)
  | int (k : IntKind) (n : Int)
  | str (s : List UInt8)
  | list (xs : List IV)
  | nil0
  | nilp
  | nilif
  | agg (cs : List AV)
  | tup (cs : List AV)
  | sl (l : Lb) (sz i n : Nat)
  | ptr (l : Lb) (sz i j : Nat)
  | lptr (cs : List IV)
  | fn (f : Nat) (first cap : List AV)
  | ifc (t : Nat) (x : AV)

def IV.av1 : IV → AV
  | .bool b => .bool b
  | .int k n => .int k n
  | .str s => .str s
  | .list xs => .list xs
  | .agg _ => .any

def IV.av : IV → AV
  | .agg cs => .agg (cs.map IV.av1)
  | x => x.av1

structure Row where
  sz : Nat
  els : List (List AV)

inductive Slot where
  | unused
  | dead
  | live (r : Row)

abbrev Hp := Lb → Slot
abbrev Env := Nat → AV

def live (H : Hp) (l : Lb) : Prop := ∃ r, H l = .live r

/-- How many cells a block has. -/
def bsz (w : World) (k : Nat) : Option Nat :=
  match w.heap[k]? with
  | some (.cells c _ _) => some c.size
  | _ => none

/-- A slice of n elements that lies in a block that nobody writes. -/
def SlV (w : World) (Im : Nat → Prop) (n : Nat) (els : Nat → Nat → Nat → Prop) (v : Value) : Prop :=
  ∃ a c, v = .slice a n c ∧ n ≤ c ∧ c ≤ maxLen ∧
    (n = 0 ∨ ∃ b o sz, a = some ⟨b, o, none⟩ ∧ Im b ∧ b < w.heap.size ∧ 0 < sz ∧ els b o sz)

mutual
def IVR (w : World) (Im : Nat → Prop) : IV → Value → Prop
  | .bool b, v => v = .bool b
  | .int k n, v => v = .int k n
  | .str s, v => v = .string ⟨s.toArray⟩
  | .list xs, v => SlV w Im xs.length (fun b o sz => ElemsR w Im xs b o sz) v
  | .agg _, _ => False
def CellsR (w : World) (Im : Nat → Prop) : List IV → Nat → Nat → Prop
  | [], _, _ => True
  | x :: r, b, o => (∃ v, w.cell? ⟨b, o, none⟩ = some v ∧ IVR w Im x v) ∧ CellsR w Im r b (o + 1)
def ElemR (w : World) (Im : Nat → Prop) : IV → Nat → Nat → Nat → Prop
  | .agg cs, b, o, sz => sz = cs.length ∧ CellsR w Im cs b o
  | .bool x, b, o, sz => sz = 1 ∧ ∃ v, w.cell? ⟨b, o, none⟩ = some v ∧ v = .bool x
  | .int k n, b, o, sz => sz = 1 ∧ ∃ v, w.cell? ⟨b, o, none⟩ = some v ∧ v = .int k n
  | .str s, b, o, sz => sz = 1 ∧ ∃ v, w.cell? ⟨b, o, none⟩ = some v ∧ v = .string ⟨s.toArray⟩
  | .list xs, b, o, sz => sz = 1 ∧ ∃ v, w.cell? ⟨b, o, none⟩ = some v ∧ SlV w Im xs.length (fun b o sz => ElemsR w Im xs b o sz) v
def ElemsR (w : World) (Im : Nat → Prop) : List IV → Nat → Nat → Nat → Prop
  | [], _, _, _ => True
  | x :: r, b, o, sz => ElemR w Im x b o sz ∧ ElemsR w Im r b (o + sz) sz
end

/-- An element's cells, in one word. -/
theorem ElemR_iff (w : World) (Im : Nat → Prop) (x : IV) (b o sz : Nat) : ElemR w Im x b o sz ↔ sz = x.cells.length ∧ CellsR w Im x.cells b o := by
  cases x <;> simp [ElemR, IV.cells, CellsR, IVR]

/-- What stays: blocks that nobody writes read as they did. -/
structure Keeps (w w' : World) (Im Im' : Nat → Prop) : Prop where
  im : ∀ k, Im k → k < w.heap.size → Im' k ∧ k < w'.heap.size ∧ w'.heap[k]? = w.heap[k]?

theorem SlV.mono {w w' : World} {Im Im' : Nat → Prop} (h : Keeps w w' Im Im') {n : Nat} {e e' : Nat → Nat → Nat → Prop}
    (he : ∀ b o sz, Im b → b < w.heap.size → e b o sz → e' b o sz) {v : Value} (hv : SlV w Im n e v) : SlV w' Im' n e' v := by
  obtain ⟨a, c, h1, h2, h3, h4⟩ := hv
  refine ⟨a, c, h1, h2, h3, h4.imp id ?_⟩
  rintro ⟨b, o, sz, e1, e2, e3, e4, e5⟩
  obtain ⟨k1, k2, _⟩ := h.im b e2 e3
  exact ⟨b, o, sz, e1, k1, k2, e4, he _ _ _ e2 e3 e5⟩

theorem cell_keep {w w' : World} {b o : Nat} (h : w'.heap[b]? = w.heap[b]?) : w'.cell? ⟨b, o, none⟩ = w.cell? ⟨b, o, none⟩ :=
  World.cell?_of_block (w := w) (a := ⟨b, o, none⟩) h

mutual
theorem IVR.mono {w w' : World} {Im Im' : Nat → Prop} (h : Keeps w w' Im Im') : ∀ (x : IV) (v : Value), IVR w Im x v → IVR w' Im' x v
  | .bool b, v, hv => by simpa [IVR] using hv
  | .int k n, v, hv => by simpa [IVR] using hv
  | .str s, v, hv => by simpa [IVR] using hv
  | .list xs, v, hv => by
    simp only [IVR] at hv ⊢
    exact SlV.mono h (fun b o sz hb hs he => ElemsR.mono h xs b o sz hb hs he) hv
  | .agg _, v, hv => by simp [IVR] at hv
theorem CellsR.mono {w w' : World} {Im Im' : Nat → Prop} (h : Keeps w w' Im Im') : ∀ (xs : List IV) (b o : Nat), Im b → b < w.heap.size → CellsR w Im xs b o → CellsR w' Im' xs b o
  | [], _, _, _, _, _ => by simp [CellsR]
  | x :: r, b, o, hb, hs, hv => by
    simp only [CellsR] at hv ⊢
    obtain ⟨⟨v, h1, h2⟩, h3⟩ := hv
    obtain ⟨_, _, k3⟩ := h.im b hb hs
    exact ⟨⟨v, (cell_keep k3).trans h1, IVR.mono h x v h2⟩, CellsR.mono h r b (o + 1) hb hs h3⟩
theorem ElemR.mono {w w' : World} {Im Im' : Nat → Prop} (h : Keeps w w' Im Im') : ∀ (x : IV) (b o sz : Nat), Im b → b < w.heap.size → ElemR w Im x b o sz → ElemR w' Im' x b o sz
  | .agg cs, b, o, sz, hb, hs, hv => by
    simp only [ElemR] at hv ⊢
    exact ⟨hv.1, CellsR.mono h cs b o hb hs hv.2⟩
  | .bool x, b, o, sz, hb, hs, hv => by
    simp only [ElemR] at hv ⊢
    obtain ⟨h0, v, h1, h2⟩ := hv
    exact ⟨h0, v, (cell_keep (h.im b hb hs).2.2).trans h1, h2⟩
  | .int k n, b, o, sz, hb, hs, hv => by
    simp only [ElemR] at hv ⊢
    obtain ⟨h0, v, h1, h2⟩ := hv
    exact ⟨h0, v, (cell_keep (h.im b hb hs).2.2).trans h1, h2⟩
  | .str s, b, o, sz, hb, hs, hv => by
    simp only [ElemR] at hv ⊢
    obtain ⟨h0, v, h1, h2⟩ := hv
    exact ⟨h0, v, (cell_keep (h.im b hb hs).2.2).trans h1, h2⟩
  | .list xs, b, o, sz, hb, hs, hv => by
    simp only [ElemR] at hv ⊢
    obtain ⟨h0, v, h1, h2⟩ := hv
    exact ⟨h0, v, (cell_keep (h.im b hb hs).2.2).trans h1, SlV.mono h (fun b o sz hb hs he => ElemsR.mono h xs b o sz hb hs he) h2⟩
theorem ElemsR.mono {w w' : World} {Im Im' : Nat → Prop} (h : Keeps w w' Im Im') : ∀ (xs : List IV) (b o sz : Nat), Im b → b < w.heap.size → ElemsR w Im xs b o sz → ElemsR w' Im' xs b o sz
  | [], _, _, _, _, _, _ => by simp [ElemsR]
  | x :: r, b, o, sz, hb, hs, hv => by
    simp only [ElemsR] at hv ⊢
    exact ⟨ElemR.mono h x b o sz hb hs hv.1, ElemsR.mono h r b (o + sz) sz hb hs hv.2⟩
end

/-- The address of a slice over an owned row. -/
def SlAt (w : World) (β : Lb → Option Nat) (l : Lb) (sz i c : Nat) (a : Option Addr) : Prop :=
  c = 0 ∨ ∃ g S, β l = some g ∧ a = some ⟨g, i * sz, none⟩ ∧ bsz w g = some S ∧ (i + c) * sz = S

mutual
def RV (w : World) (β : Lb → Option Nat) (H : Hp) (Im : Nat → Prop) : AV → Value → Prop
  | .any, _ => True
  | .un, v => v = undef
  | .bool b, v => v = .bool b
  | .int k n, v => v = .int k n
  | .str s, v => v = .string ⟨s.toArray⟩
  | .list xs, v => IVR w Im (.list xs) v
  | .nil0, v => ∃ a, v = .slice a 0 0
  | .nilp, v => v = .pointer none
  | .nilif, v => v = .nilIface
  | .agg cs, v => ∃ vs : List Value, v = .agg vs.toArray ∧ RVs w β H Im cs vs
  | .tup cs, v => ∃ vs : List Value, v = .tuple vs.toArray ∧ RVs w β H Im cs vs
  | .sl l sz i n, v => ∃ a c, v = .slice a n c ∧ n ≤ c ∧ c ≤ maxLen ∧ (0 < n → a.isSome = true) ∧ (live H l → SlAt w β l sz i c a)
  | .ptr l sz i j, v => ∃ a, v = .pointer (some a) ∧ (live H l → ∃ g, β l = some g ∧ a = ⟨g, i * sz + j, none⟩)
  | .lptr cs, v => ∃ b o, v = .pointer (some ⟨b, o, none⟩) ∧ Im b ∧ b < w.heap.size ∧ CellsR w Im cs b o
  | .fn f fs cs, v => ∃ vs us : List Value, v = .func (.func f) vs.toArray us.toArray ∧ RVs w β H Im fs vs ∧ RVs w β H Im cs us
  | .ifc t x, v => ∃ u, v = .iface t u ∧ RV w β H Im x u
def RVs (w : World) (β : Lb → Option Nat) (H : Hp) (Im : Nat → Prop) : List AV → List Value → Prop
  | [], vs => vs = []
  | x :: r, vs => ∃ v us, vs = v :: us ∧ RV w β H Im x v ∧ RVs w β H Im r us
end

mutual
/-- The labels that a value names. -/
def AV.lbs : AV → List Lb
  | .sl l _ _ _ => [l]
  | .ptr l _ _ _ => [l]
  | .agg cs => lbss cs
  | .tup cs => lbss cs
  | .fn _ fs cs => lbss fs ++ lbss cs
  | .ifc _ x => x.lbs
  | _ => []
def lbss : List AV → List Lb
  | [] => []
  | x :: r => x.lbs ++ lbss r
end

structure Keeps2 (w w' : World) (β β' : Lb → Option Nat) (H H' : Hp) (Im Im' : Nat → Prop) (ls : List Lb) : Prop extends Keeps w w' Im Im' where
  lb : ∀ l ∈ ls, live H' l → live H l ∧ β' l = β l ∧ ∀ g S, β l = some g → bsz w g = some S → bsz w' g = some S

theorem Keeps2.sub {w w' : World} {β β' : Lb → Option Nat} {H H' : Hp} {Im Im' : Nat → Prop} {ls ls' : List Lb} (h : Keeps2 w w' β β' H H' Im Im' ls) (hs : ∀ l ∈ ls', l ∈ ls) :
    Keeps2 w w' β β' H H' Im Im' ls' := ⟨h.toKeeps, fun l hl => h.lb l (hs l hl)⟩

mutual
theorem RV.mono {w w' : World} {β β' : Lb → Option Nat} {H H' : Hp} {Im Im' : Nat → Prop} : ∀ (x : AV) (v : Value), Keeps2 w w' β β' H H' Im Im' x.lbs → RV w β H Im x v → RV w' β' H' Im' x v
  | .any, _, _, _ => by simp [RV]
  | .un, _, _, hv => by simpa [RV] using hv
  | .bool _, _, _, hv => by simpa [RV] using hv
  | .int _ _, _, _, hv => by simpa [RV] using hv
  | .str _, _, _, hv => by simpa [RV] using hv
  | .nil0, _, _, hv => by simpa [RV] using hv
  | .nilp, _, _, hv => by simpa [RV] using hv
  | .nilif, _, _, hv => by simpa [RV] using hv
  | .list xs, v, h, hv => by simp only [RV] at hv ⊢; exact IVR.mono h.toKeeps _ _ hv
  | .agg cs, v, h, hv => by
    simp only [RV] at hv ⊢
    obtain ⟨vs, rfl, h1⟩ := hv
    exact ⟨vs, rfl, RVs.mono cs vs (by simpa [AV.lbs] using h) h1⟩
  | .tup cs, v, h, hv => by
    simp only [RV] at hv ⊢
    obtain ⟨vs, rfl, h1⟩ := hv
    exact ⟨vs, rfl, RVs.mono cs vs (by simpa [AV.lbs] using h) h1⟩
  | .sl l sz i n, v, h, hv => by
    simp only [RV] at hv ⊢
    obtain ⟨a, c, h1, h2, h3, h4, h5⟩ := hv
    refine ⟨a, c, h1, h2, h3, h4, fun hl => ?_⟩
    obtain ⟨k1, k2, k3⟩ := h.lb l (by simp [AV.lbs]) hl
    rcases h5 k1 with h6 | ⟨g, S, e1, e2, e3, e4⟩
    · exact .inl h6
    · exact .inr ⟨g, S, k2.trans e1, e2, k3 g S e1 e3, e4⟩
  | .ptr l sz i j, v, h, hv => by
    simp only [RV] at hv ⊢
    obtain ⟨a, h1, h2⟩ := hv
    refine ⟨a, h1, fun hl => ?_⟩
    obtain ⟨k1, k2, k3⟩ := h.lb l (by simp [AV.lbs]) hl
    obtain ⟨g, e1, e2⟩ := h2 k1
    exact ⟨g, k2.trans e1, e2⟩
  | .lptr cs, v, h, hv => by
    simp only [RV] at hv ⊢
    obtain ⟨b, o, h1, h2, h3, h4⟩ := hv
    obtain ⟨k1, k2, _⟩ := h.im b h2 h3
    exact ⟨b, o, h1, k1, k2, CellsR.mono h.toKeeps cs b o h2 h3 h4⟩
  | .fn f fs cs, v, h, hv => by
    simp only [RV] at hv ⊢
    obtain ⟨vs, us, rfl, h1, h2⟩ := hv
    exact ⟨vs, us, rfl, RVs.mono fs vs (h.sub (by simp [AV.lbs]; intro l hl; exact .inl hl)) h1, RVs.mono cs us (h.sub (by simp [AV.lbs]; intro l hl; exact .inr hl)) h2⟩
  | .ifc t x, v, h, hv => by
    simp only [RV] at hv ⊢
    obtain ⟨u, rfl, h1⟩ := hv
    exact ⟨u, rfl, RV.mono x u (by simpa [AV.lbs] using h) h1⟩
theorem RVs.mono {w w' : World} {β β' : Lb → Option Nat} {H H' : Hp} {Im Im' : Nat → Prop} : ∀ (xs : List AV) (vs : List Value), Keeps2 w w' β β' H H' Im Im' (lbss xs) → RVs w β H Im xs vs → RVs w' β' H' Im' xs vs
  | [], _, _, hv => by simpa [RVs] using hv
  | x :: r, vs, h, hv => by
    simp only [RVs] at hv ⊢
    obtain ⟨v, us, rfl, h1, h2⟩ := hv
    exact ⟨v, us, rfl, RV.mono x v (h.sub (by simp [lbss]; intro l hl; exact .inl hl)) h1, RVs.mono r us (h.sub (by simp [lbss]; intro l hl; exact .inr hl)) h2⟩
end

/-- An owned row, in its block. -/
def RowR (w : World) (β : Lb → Option Nat) (H : Hp) (Im : Nat → Prop) (l : Lb) (r : Row) : Prop :=
  0 < r.sz ∧ (∀ cs ∈ r.els, cs.length = r.sz) ∧
  match β l with
  | none => r.els = []
  | some g => ∃ cur e cap, w.heap[g]? = some (.cells cur e (0, 0)) ∧ cur.size = cap * r.sz ∧ cap ≤ maxLen ∧ r.els.length ≤ cap ∧
      ∀ i j cs x, r.els[i]? = some cs → cs[j]? = some x → ∃ v, cur[i * r.sz + j]? = some v ∧ RV w β H Im x v

end Go.Am
