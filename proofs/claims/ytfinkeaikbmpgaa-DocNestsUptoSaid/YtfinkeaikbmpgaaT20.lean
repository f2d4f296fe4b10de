import Derived.Test.YtfinkeaikbmpgaaT19
import Derived.Test.YtfinkeaikbmpgaaKT2
set_option linter.unusedSimpArgs false
set_option linter.unusedVariables false
set_option linter.unnecessarySimpa false
set_option linter.defProp false
/- Documents: out of readings. -/
namespace Go.Am
open Go Go.RowKit

mutual
theorem Tree.wt_flat_le (off : Nat) (p : Int) : ∀ x : Tree, wtN (x.flat off p) + 1 ≤ 2 * x.wt
  | .mk t s as ks => by
    have := wt_flats_le (off + 1) off ks
    simp only [Tree.flat, wtN, Node.wt, Tree.wt, kidsAt_len]; omega
theorem wt_flats_le (off p : Nat) : ∀ xs : List Tree, wtN (flats off p xs) + xs.length ≤ 2 * wtT xs
  | [] => by simp [wtT, flats, wtN]
  | k :: r => by
    have := k.wt_flat_le off p
    have := wt_flats_le (off + k.cnt) p r
    simp only [flats, wtN_app, wtT, List.length_cons]; omega
end
theorem wt_docOf (x : Tree) : wtN (docOf x) ≤ 2 * x.wt := by have := x.wt_flat_le 0 (-1); unfold docOf; omega

section
variable {P : Program}

/-- The types of documents. -/
structure TyD (P : Program) (T : TyT P) where
  tI : TypeId
  tIs : TypeId
  tN : TypeId
  tNs : TypeId
  tD : TypeId
  fN : Array Field
  fD : Array Field
  uI : P.underlying tI = some (.int .i64)
  uIs : P.underlying tIs = some (.slice tI)
  uN : P.underlying tN = some (.struct fN)
  uNs : P.underlying tNs = some (.slice tN)
  uD : P.underlying tD = some (.struct fD)
  sN : fN.toList.map (·.type) = [T.tB, T.tS, T.tAs, tI, tIs]
  sD : fD.toList.map (·.type) = [tNs]

theorem Sh.tree (T : TyT P) {y : IV} (h : Sh P T.tT y) : ∃ x : Tree, y = x.iv ∧ x.wt ≤ y.wt := by
  obtain ⟨xs, e, hw⟩ := (Sh.treeN T (wtI [y])).2 [y] (Nat.le_refl _) (by simpa using h)
  match xs, e with
  | [x], e =>
    simp only [ivT, List.cons.injEq, and_true] at e
    exact ⟨x, e, by simp only [wtT, wtI] at hw; omega⟩

theorem Sh.ints {T : TyT P} (D : TyD P T) : ∀ (ys : List IV), (∀ y ∈ ys, Sh P D.tI y) → ∃ xs : List Int, ys = xs.map intIV ∧ xs.length ≤ wtI ys
  | [], _ => ⟨[], rfl, by simp [wtI]⟩
  | y :: r, h => by
    obtain ⟨n, rfl, _⟩ := (h y (by simp)).inv_i D.uI
    obtain ⟨xs, rfl, h2⟩ := Sh.ints D r (fun z hz => h z (by simp [hz]))
    exact ⟨n :: xs, rfl, by simp only [List.length_cons, wtI, IV.wt]; omega⟩

theorem Sh.node {T : TyT P} (D : TyD P T) {y : IV} (h : Sh P D.tN y) : ∃ x : Node, y = x.iv ∧ x.wt ≤ y.wt := by
  obtain ⟨ys, rfl, hl, hys⟩ := h.inv_g D.uN
  have hs : D.fN.size = 5 := by have := congrArg List.length D.sN; simpa using this
  match ys, hl.trans hs, hys with
  | [y0, y1, y2, y3, y4], _, hys =>
    obtain ⟨f0, e0, t0⟩ := field_of D.sN 0 T.tB rfl
    obtain ⟨f1, e1, t1⟩ := field_of D.sN 1 T.tS rfl
    obtain ⟨f2, e2, t2⟩ := field_of D.sN 2 T.tAs rfl
    obtain ⟨f3, e3, t3⟩ := field_of D.sN 3 D.tI rfl
    obtain ⟨f4, e4, t4⟩ := field_of D.sN 4 D.tIs rfl
    have h0 := hys 0 f0 y0 e0 rfl
    have h1 := hys 1 f1 y1 e1 rfl
    have h2 := hys 2 f2 y2 e2 rfl
    have h3 := hys 3 f3 y3 e3 rfl
    have h4 := hys 4 f4 y4 e4 rfl
    rw [t0] at h0; rw [t1] at h1; rw [t2] at h2; rw [t3] at h3; rw [t4] at h4
    obtain ⟨b, rfl⟩ := h0.inv_b T.uB
    obtain ⟨s, rfl⟩ := h1.inv_s T.uS
    obtain ⟨z2, rfl, g2⟩ := h2.inv_l T.uAs
    obtain ⟨p, rfl, _⟩ := h3.inv_i D.uI
    obtain ⟨z4, rfl, g4⟩ := h4.inv_l D.uIs
    obtain ⟨as, rfl, w2⟩ := Sh.attrs T z2 g2
    obtain ⟨ks, rfl, w4⟩ := Sh.ints D z4 g4
    exact ⟨⟨b, s, as, p, ks⟩, rfl, by simp only [Node.wt, IV.wt, wtI]; omega⟩

theorem Sh.nodes {T : TyT P} (D : TyD P T) : ∀ (ys : List IV), (∀ y ∈ ys, Sh P D.tN y) → ∃ d : Doc, ys = d.map Node.iv ∧ wtN d ≤ wtI ys
  | [], _ => ⟨[], rfl, by simp [wtI, wtN]⟩
  | y :: r, h => by
    obtain ⟨x, rfl, h1⟩ := (h y (by simp)).node D
    obtain ⟨d, rfl, h2⟩ := Sh.nodes D r (fun z hz => h z (by simp [hz]))
    exact ⟨x :: d, rfl, by simp only [wtN, wtI]; omega⟩

theorem Sh.doc {T : TyT P} (D : TyD P T) {y : IV} (h : Sh P D.tD y) : ∃ d : Doc, y = .agg [.list (d.map Node.iv)] ∧ wtN d ≤ y.wt := by
  obtain ⟨ys, rfl, hl, hys⟩ := h.inv_g D.uD
  have hs : D.fD.size = 1 := by have := congrArg List.length D.sD; simpa using this
  match ys, hl.trans hs, hys with
  | [y0], _, hys =>
    obtain ⟨f0, e0, t0⟩ := field_of D.sD 0 D.tNs rfl
    have h0 := hys 0 f0 y0 e0 rfl
    rw [t0] at h0
    obtain ⟨z, rfl, g⟩ := h0.inv_l D.uNs
    obtain ⟨d, rfl, w⟩ := Sh.nodes D z g
    exact ⟨d, rfl, by simp only [IV.wt, wtI]; omega⟩
end
end Go.Am
