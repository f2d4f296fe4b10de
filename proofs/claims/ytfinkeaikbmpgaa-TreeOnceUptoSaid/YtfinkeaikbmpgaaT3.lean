/- Trees: out of readings. -/
import Derived.Test.YtfinkeaikbmpgaaT2
import Derived.Test.YtfinkeaikbmpgaaAm25
set_option linter.defProp false
set_option linter.unnecessarySimpa false
set_option linter.unusedVariables false
set_option linter.unusedSimpArgs false
namespace Go.Am
open Go Go.RowKit

section
variable {P : Program}
theorem Sh.inv_b {t : TypeId} {y : IV} (h : Sh P t y) (hu : P.underlying t = some .bool) : ∃ x, y = .bool x := by
  cases h <;> simp_all
theorem Sh.inv_i {t : TypeId} {y : IV} {k : IntKind} (h : Sh P t y) (hu : P.underlying t = some (.int k)) : ∃ n, y = .int k n ∧ (Lit.int k n).wf = true := by
  cases h <;> simp_all
theorem Sh.inv_s {t : TypeId} {y : IV} (h : Sh P t y) (hu : P.underlying t = some .string) : ∃ x, y = .str x := by
  cases h <;> simp_all
theorem Sh.inv_l {t e : TypeId} {y : IV} (h : Sh P t y) (hu : P.underlying t = some (.slice e)) : ∃ ys, y = .list ys ∧ ∀ y ∈ ys, Sh P e y := by
  cases h <;> simp_all
theorem Sh.inv_g {t : TypeId} {fs : Array Field} {y : IV} (h : Sh P t y) (hu : P.underlying t = some (.struct fs)) :
    ∃ ys, y = .agg ys ∧ ys.length = fs.size ∧ ∀ (j : Nat) (f : Field) (y : IV), fs[j]? = some f → ys[j]? = some y → Sh P f.type y := by
  cases h with
  | g hu' h1 h2 =>
    rw [hu'] at hu; cases hu; exact ⟨_, rfl, h1, h2⟩
  | _ => simp_all

/-- The types of trees. -/
structure TyT (P : Program) where
  tB : TypeId
  tS : TypeId
  tA : TypeId
  tAs : TypeId
  tT : TypeId
  tTs : TypeId
  fA : Array Field
  fT : Array Field
  uB : P.underlying tB = some .bool
  uS : P.underlying tS = some .string
  uAs : P.underlying tAs = some (.slice tA)
  uTs : P.underlying tTs = some (.slice tT)
  uA : P.underlying tA = some (.struct fA)
  uT : P.underlying tT = some (.struct fT)
  sA : fA.toList.map (·.type) = [tS, tS]
  sT : fT.toList.map (·.type) = [tB, tS, tAs, tTs]

theorem field_of {fs : Array Field} {ts : List TypeId} (h : fs.toList.map (·.type) = ts) (j : Nat) (t : TypeId) (ht : ts[j]? = some t) : ∃ f, fs[j]? = some f ∧ f.type = t := by
  subst h
  rw [List.getElem?_map] at ht
  obtain ⟨f, h1, rfl⟩ := Option.map_eq_some_iff.1 ht
  exact ⟨f, by simpa using h1, rfl⟩

theorem Sh.attr (T : TyT P) {y : IV} (h : Sh P T.tA y) : ∃ a : Attr, y = a.iv ∧ a.wt ≤ y.wt := by
  obtain ⟨ys, rfl, hl, hy⟩ := h.inv_g T.uA
  have hs : T.fA.size = 2 := by have := congrArg List.length T.sA; simpa using this
  match ys, hl.trans hs, hy with
  | [y0, y1], _, hy =>
    obtain ⟨f0, e0, t0⟩ := field_of T.sA 0 T.tS rfl
    obtain ⟨f1, e1, t1⟩ := field_of T.sA 1 T.tS rfl
    have h0 := hy 0 f0 y0 e0 rfl
    have h1 := hy 1 f1 y1 e1 rfl
    rw [t0] at h0
    rw [t1] at h1
    obtain ⟨x0, rfl⟩ := h0.inv_s T.uS
    obtain ⟨x1, rfl⟩ := h1.inv_s T.uS
    exact ⟨⟨x0, x1⟩, rfl, by simp [Attr.wt, IV.wt, wtI]; omega⟩

theorem Sh.attrs (T : TyT P) : ∀ (ys : List IV), (∀ y ∈ ys, Sh P T.tA y) → ∃ as, ys = ivA as ∧ wtA as ≤ wtI ys
  | [], _ => ⟨[], rfl, by simp [wtA, wtI]⟩
  | y :: r, h => by
    obtain ⟨a, rfl, h1⟩ := (h y (by simp)).attr T
    obtain ⟨as, rfl, h2⟩ := Sh.attrs T r (fun z hz => h z (by simp [hz]))
    exact ⟨a :: as, rfl, by simp only [wtA, wtI]; omega⟩

theorem Sh.treeN (T : TyT P) : ∀ (n : Nat), (∀ y : IV, y.wt ≤ n → Sh P T.tT y → ∃ x : Tree, y = x.iv ∧ x.wt ≤ y.wt) ∧ ∀ ys : List IV, wtI ys ≤ n → (∀ y ∈ ys, Sh P T.tT y) → ∃ xs, ys = ivT xs ∧ wtT xs ≤ wtI ys := by
  intro n
  induction n with
  | zero =>
    refine ⟨fun y hy h => ?_, fun ys hy h => ?_⟩
    · exfalso; cases y <;> simp [IV.wt] at hy
    · cases ys with
      | nil => exact ⟨[], rfl, by simp [wtT, wtI]⟩
      | cons y r => exfalso; cases y <;> simp [IV.wt, wtI] at hy
  | succ n ih =>
    have one : ∀ y : IV, y.wt ≤ n + 1 → Sh P T.tT y → ∃ x : Tree, y = x.iv ∧ x.wt ≤ y.wt := by
      intro y hy h
      obtain ⟨ys, rfl, hl, hys⟩ := h.inv_g T.uT
      have hs : T.fT.size = 4 := by have := congrArg List.length T.sT; simpa using this
      match ys, hl.trans hs, hys, hy with
      | [y0, y1, y2, y3], _, hys, hy =>
        obtain ⟨f0, e0, t0⟩ := field_of T.sT 0 T.tB rfl
        obtain ⟨f1, e1, t1⟩ := field_of T.sT 1 T.tS rfl
        obtain ⟨f2, e2, t2⟩ := field_of T.sT 2 T.tAs rfl
        obtain ⟨f3, e3, t3⟩ := field_of T.sT 3 T.tTs rfl
        have h0 := hys 0 f0 y0 e0 rfl
        have h1 := hys 1 f1 y1 e1 rfl
        have h2 := hys 2 f2 y2 e2 rfl
        have h3 := hys 3 f3 y3 e3 rfl
        rw [t0] at h0; rw [t1] at h1; rw [t2] at h2; rw [t3] at h3
        obtain ⟨b, rfl⟩ := h0.inv_b T.uB
        obtain ⟨s, rfl⟩ := h1.inv_s T.uS
        obtain ⟨z2, rfl, g2⟩ := h2.inv_l T.uAs
        obtain ⟨z3, rfl, g3⟩ := h3.inv_l T.uTs
        obtain ⟨as, rfl, w2⟩ := Sh.attrs T z2 g2
        simp only [IV.wt, wtI] at hy
        obtain ⟨ks, rfl, w3⟩ := ih.2 z3 (by omega) g3
        exact ⟨.mk b s as ks, by simp [Tree.iv], by simp only [Tree.wt, IV.wt, wtI]; omega⟩
    refine ⟨one, fun ys => ?_⟩
    induction ys with
    | nil => exact fun _ _ => ⟨[], rfl, by simp [wtT, wtI]⟩
    | cons y r ihr =>
      intro hy h
      simp only [wtI] at hy
      obtain ⟨x, rfl, h1⟩ := one y (by omega) (h y (by simp))
      obtain ⟨xs, rfl, h2⟩ := ihr (by omega) (fun z hz => h z (by simp [hz]))
      exact ⟨x :: xs, rfl, by simp only [wtT, wtI]; omega⟩

theorem Sh.trees (T : TyT P) {y : IV} (h : Sh P T.tTs y) : ∃ xs : List Tree, y = .list (ivT xs) ∧ wtT xs ≤ y.wt := by
  obtain ⟨ys, rfl, hy⟩ := h.inv_l T.uTs
  obtain ⟨xs, rfl, hw⟩ := (Sh.treeN T (wtI ys)).2 ys (Nat.le_refl _) hy
  exact ⟨xs, rfl, by simp only [IV.wt]; omega⟩
end
end Go.Am
