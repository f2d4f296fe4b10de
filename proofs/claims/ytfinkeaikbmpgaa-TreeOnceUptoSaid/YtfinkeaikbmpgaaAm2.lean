/- THE ABSTRACT MACHINE, part 2: instructions, how the model's operations are read as them, and the state's relation to the world. -/
import Derived.Test.YtfinkeaikbmpgaaAm1
set_option linter.defProp false
set_option linter.unnecessarySimpa false
set_option linter.unusedVariables false
set_option linter.unusedSimpArgs false
namespace Go.Am
open Go Go.RowKit

/-- An operand: a slot, or a constant. -/
inductive O where
  | t (n : Nat)
  | c (x : AV)

def ev (env : Env) : O → AV
  | .t n => env n
  | .c x => x

/-- Kinds of plain cells. -/
inductive Kd where
  | b | i | s
  deriving DecidableEq

inductive Ins where
  | mov (x : O)
  | pick (c a b : O)
  | fld (a : O) (off : Nat)
  | ixa (x i : O) (sz : Nat)
  | ixs (x i : O)
  | len (x : O)
  | lens (x : O)
  | slc (x : O) (lo hi mx : Option O) (sz : Nat)
  | slcs (x : O) (lo hi : Option O)
  | bin (op : BinOp) (x y : O)
  | eqb (neg : Bool) (x y : O)
  | eqp (neg : Bool) (x y : O)
  | eqi (neg : Bool) (x y : O)
  | eqst (neg : Bool) (ks : List Kd) (x y : O)
  | not (x : O)
  | neg (x : O)
  | max (x y : O)
  | min (x y : O)
  | ext (x : O) (i : Nat)
  | bld (z : List AV) (ps : List (Nat × Nat × O))
  | getf (x : O) (off : Nat) (m : Option Nat)
  | lits (n sz : Nat) (z : List AV) (ps : List (Nat × O))
  | boxi (x : O)
  | nchk (x : O)
  | mkf (f : Nat) (cap : List O)
  | cvi (k : IntKind) (x : O)
  | cvs (x : O)
  | cvb (x : O)
  | cvt (x : O)
  | mkif (t : Nat) (x : O)
  | load (m : Option Nat) (a : O)
  | box (x : O)
  | new (cs : List AV)
  | mks (n c : O) (sz bytes : Nat) (z : List AV)
  | store (m : Nat) (a x : O)
  | app (s x : O) (sz bytes : Nat)
  | cpy (s x : O) (sz : Nat)
  | call (f : Nat) (args : List O)
  | callv (x : O) (args : List O)

structure LIns where
  d : Option Nat
  g : Option (Nat × Bool)
  i : Ins

/-- What stands fast while a function's body runs. -/
structure Kx where
  P : Program
  G : Nat → Option (List IV)
  w0 : World
  A : Nat → Prop
  D : Nat → Prop
  N : Nat
  H0 : Hp
  β0 : Lb → Option Nat

def Im (K : Kx) (β : Lb → Option Nat) (H : Hp) (k : Nat) : Prop := (K.A k ∨ K.w0.heap.size ≤ k) ∧ ∀ l, live H l → β l ≠ some k

structure Frm (D : Nat → Prop) (w0 w : World) : Prop where
  os : w.os = w0.os
  tape : w.tape = w0.tape
  output : w.output = w0.output
  size : w0.heap.size ≤ w.heap.size
  block : ∀ k, k < w0.heap.size → ¬ D k → w.heap[k]? = w0.heap[k]?
  bs : ∀ k S, bsz w0 k = some S → bsz w k = some S

structure RelB (K : Kx) (β : Lb → Option Nat) (env : Env) (H : Hp) (a : Act) (w : World) : Prop where
  defers : a.defers = []
  size : a.tmps.size = K.N
  regs : ∀ n, RV w β H (Im K β H) (env n) (a.tmps.getD n undef)
  rows : ∀ l r, H l = .live r → RowR w β H (Im K β H) l r
  own : ∀ l g, live H l → β l = some g → (K.D g ∨ K.w0.heap.size ≤ g)
  inj : ∀ l l' g, live H l → live H l' → β l = some g → β l' = some g → l = l'
  ment : ∀ n, ∀ l ∈ (env n).lbs, H l ≠ .unused
  rment : ∀ l r, H l = .live r → ∀ cs ∈ r.els, ∀ l' ∈ lbss cs, H l' ≠ .unused
  frame : Frm K.D K.w0 w
  glob : ∀ g cs, K.G g = some cs → Im K β H g ∧ g < w.heap.size ∧ CellsR w (Im K β H) cs g 0
  stab : ∀ l, live K.H0 l → H l ≠ .unused ∧ (live H l → β l = K.β0 l)
  fr : ∀ l g, live H l → l.fresh = true → β l = some g → K.w0.heap.size ≤ g

def Rel (K : Kx) (env : Env) (H : Hp) (a : Act) (w : World) : Prop := ∃ β, RelB K β env H a w

def put (env : Env) (d : Nat) (x : AV) : Env := fun n => if n = d then x else env n

def putO (env : Env) : Option Nat → AV → Env
  | some d, x => put env d x
  | none, _ => env

/-- A world that has grown, nothing that was there having turned. -/
abbrev Grew (w w' : World) : Prop := Below w.heap.size w w'

theorem Grew.keep2 {w w' : World} (h : Grew w w') (β : Lb → Option Nat) (H : Hp) (I : Nat → Prop) (ls : List Lb) : Keeps2 w w' β β H H I I ls where
  im k hk hs := ⟨hk, Nat.lt_of_lt_of_le hs h.size, h.block k hs⟩
  lb l _ hl := ⟨hl, rfl, fun g S _ hS => by
    unfold bsz at *
    have : g < w.heap.size := by
      cases hg : w.heap[g]? with
      | none => simp [hg] at hS
      | some o => exact (Array.getElem?_eq_some_iff.1 hg).1
    rwa [h.block g this]⟩

theorem RowR.grew {w w' : World} (h : Grew w w') {β : Lb → Option Nat} {H : Hp} {I : Nat → Prop} {l : Lb} {r : Row} (hr : RowR w β H I l r) : RowR w' β H I l r := by
  obtain ⟨h1, h2, h3⟩ := hr
  refine ⟨h1, h2, ?_⟩
  cases hb : β l with
  | none => simpa [hb] using h3
  | some g =>
    simp only [hb] at h3 ⊢
    obtain ⟨cur, e, cap, e1, e2, e3, e4, e5⟩ := h3
    have hg : g < w.heap.size := (Array.getElem?_eq_some_iff.1 e1).1
    refine ⟨cur, e, cap, (h.block g hg).trans e1, e2, e3, e4, fun i j cs x hi hj => ?_⟩
    obtain ⟨v, k1, k2⟩ := e5 i j cs x hi hj
    exact ⟨v, k1, RV.mono x v (h.keep2 _ _ _ _) k2⟩

theorem Frm.grew {D : Nat → Prop} {w0 w w' : World} (h : Frm D w0 w) (g : Grew w w') : Frm D w0 w' :=
  ⟨g.os.trans h.os, g.tape.trans h.tape, g.output.trans h.output, Nat.le_trans h.size g.size,
    fun k hk hd => (g.block k (Nat.lt_of_lt_of_le hk h.size)).trans (h.block k hk hd), fun k S hS => by
      have h1 := h.bs k S hS
      unfold bsz at h1 ⊢
      have : k < w.heap.size := by
        cases hg : w.heap[k]? with
        | none => simp [hg] at h1
        | some o => exact (Array.getElem?_eq_some_iff.1 hg).1
      rwa [g.block k this]⟩

theorem getD_set (t : Array Value) (d n : Nat) (v : Value) : (t.setIfInBounds d v).getD n undef = if n = d ∧ d < t.size then v else t.getD n undef := by
  simp only [Array.getD_eq_getD_getElem?, Array.getElem?_setIfInBounds]
  by_cases h : d = n
  · subst h
    by_cases h2 : d < t.size
    · simp [h2]
    · simp [h2, Array.getElem?_eq_none (Nat.le_of_not_lt h2)]
  · simp [h, Ne.symm h, eq_comm]

/-- The common step: a value is put into a slot; the world has grown. -/
theorem RelB.step {K : Kx} {β : Lb → Option Nat} {env : Env} {H : Hp} {a : Act} {w w' : World} (h : RelB K β env H a w) (g : Grew w w')
    {d : Option Nat} {x : AV} {v : Value} (hd : ∀ n, d = some n → n < K.N) (hx : d.isSome = true → RV w' β H (Im K β H) x v) (hm : d.isSome = true → ∀ l ∈ x.lbs, H l ≠ .unused) : RelB K β (putO env d x) H (a.put d v) w' where
  defers := by cases d <;> simp [Act.put, h.defers]
  size := by cases d <;> simp [Act.put, h.size]
  regs n := by
    have ho := RV.mono (env n) (a.tmps.getD n undef) (g.keep2 β H (Im K β H) _) (h.regs n)
    cases d with
    | none => simpa [putO, Act.put] using ho
    | some d =>
      simp only [putO, Act.put, put, getD_set]
      by_cases e : n = d
      · subst e
        have := hd n rfl
        rw [← h.size] at this
        simpa [this] using hx rfl
      · simpa [e] using ho
  rows l r hl := (h.rows l r hl).grew g
  own := h.own
  inj := h.inj
  ment n := by
    cases d with
    | none => exact h.ment n
    | some d =>
      simp only [putO, put]
      split
      · exact hm rfl
      · exact h.ment n
  rment := h.rment
  frame := h.frame.grew g
  glob k cs hk := by
    obtain ⟨h1, h2, h3⟩ := h.glob k cs hk
    exact ⟨h1, Nat.lt_of_lt_of_le h2 g.size, CellsR.mono (g.keep2 β H (Im K β H) []).toKeeps cs k 0 h1 h2 h3⟩
  stab := h.stab
  fr := h.fr

/-- A constant's value. -/
def cv : Value → Option AV
  | .bool b => some (.bool b)
  | .int k n => some (.int k n)
  | .string s => some (.str s.data.toList)
  | .slice none 0 0 => some .nil0
  | .pointer none => some .nilp
  | .nilIface => some .nilif
  | _ => none

def co (G : Nat → Option (List IV)) : Operand → Option O
  | .tmp t => some (.t t)
  | .const v => (cv v).map .c
  | .func f => some (.c (.fn f [] []))
  | .global g => (G g).map fun cs => .c (.lptr cs)

theorem cv_lbs {v : Value} {x : AV} (h : cv v = some x) : x.lbs = [] := by
  unfold cv at h
  split at h <;> simp at h <;> subst h <;> simp [AV.lbs]

theorem cv_rv {v : Value} {x : AV} (h : cv v = some x) (w : World) (β : Lb → Option Nat) (H : Hp) (I : Nat → Prop) : RV w β H I x v := by
  unfold cv at h
  split at h <;> simp at h <;> subst h <;> simp [RV]

theorem RelB.ev {K : Kx} {β : Lb → Option Nat} {env : Env} {H : Hp} {a : Act} {w : World} (h : RelB K β env H a w) {x : Operand} {o : O} (hx : co K.G x = some o) :
    RV w β H (Im K β H) (ev env o) (a.eval x) := by
  cases x with
  | tmp t => simp [co] at hx; subst hx; exact h.regs t
  | const v =>
    simp only [co, Option.map_eq_some_iff] at hx
    obtain ⟨y, h1, rfl⟩ := hx
    exact cv_rv h1 _ _ _ _
  | func f => simp [co] at hx; subst hx; simp [Am.ev, RV, RVs, Act.eval]
  | global g =>
    simp only [co, Option.map_eq_some_iff] at hx
    obtain ⟨cs, h1, rfl⟩ := hx
    obtain ⟨h2, h3, h4⟩ := h.glob g cs h1
    exact ⟨g, 0, rfl, h2, h3, h4⟩

theorem RelB.ev_ment {K : Kx} {β : Lb → Option Nat} {env : Env} {H : Hp} {a : Act} {w : World} (h : RelB K β env H a w) {x : Operand} {o : O} (hx : co K.G x = some o) :
    ∀ l ∈ (Am.ev env o).lbs, H l ≠ .unused := by
  cases x with
  | tmp t => simp [co] at hx; subst hx; exact h.ment t
  | const v =>
    simp only [co, Option.map_eq_some_iff] at hx
    obtain ⟨y, h1, rfl⟩ := hx
    simp [Am.ev, cv_lbs h1]
  | func f => simp [co] at hx; subst hx; simp [Am.ev, AV.lbs, lbss]
  | global g =>
    simp only [co, Option.map_eq_some_iff] at hx
    obtain ⟨cs, h1, rfl⟩ := hx
    simp [Am.ev, AV.lbs]

end Go.Am
