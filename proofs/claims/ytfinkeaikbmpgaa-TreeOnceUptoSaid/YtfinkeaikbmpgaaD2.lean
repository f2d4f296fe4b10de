/- Documents: which lists of nodes are some. -/
import Derived.Test.YtfinkeaikbmpgaaD1
set_option linter.defProp false
set_option linter.unnecessarySimpa false
set_option linter.unusedVariables false
set_option linter.unusedSimpArgs false
namespace Go.Am
open Go Go.RowKit

/-- One node after the other, in the order in which one reads: what comes next. -/
def wk (d : Doc) : Nat → Int → Int → Int → Option Int
  | 0, _, _, _ => none
  | f + 1, n, p, nx => if n = nx then match d[n.toNat]? with
      | some x => if x.parent = p then x.kids.foldlM (fun q k => wk d f k n q) (nx + 1) else none
      | none => none
    else none

theorem drop_mem {α : Type} {l : List α} {n : Nat} {x : α} {r : List α} (h : l.drop n = x :: r) : l[n]? = some x ∧ l.drop (n + 1) = r := by
  have h1 : (l.drop n)[0]? = some x := by rw [h]; rfl
  refine ⟨by simpa [List.getElem?_drop] using h1, ?_⟩
  have : (l.drop n).drop 1 = r := by rw [h]; rfl
  rwa [List.drop_drop] at this

theorem drop_eq {α : Type} {l : List α} {n : Nat} {x : α} (h : l[n]? = some x) : l.drop n = x :: l.drop (n + 1) := by
  obtain ⟨hn, rfl⟩ := List.getElem?_eq_some_iff.1 h
  exact List.drop_eq_getElem_cons hn

theorem wk_some (d : Doc) : ∀ (f : Nat),
    (∀ (m : Nat) (n p r : Int), wk d f n p m = some r → n = m ∧ ∃ x : Tree, x.dep ≤ f ∧ (∃ post, d.drop m = x.flat m p ++ post) ∧ r = ((m + x.cnt : Nat) : Int)) := by
  intro f
  induction f with
  | zero => intro m n p r h; simp [wk] at h
  | succ f ih =>
    intro m n p r h
    unfold wk at h
    split at h
    · rename_i hn
      subst hn
      simp only [Int.toNat_natCast] at h
      cases hx : d[m]? with
      | none => rw [hx] at h; simp at h
      | some nd =>
        rw [hx] at h
        simp only at h
        split at h
        · rename_i hp
          refine ⟨rfl, ?_⟩
          have kids : ∀ (ks : List Int) (q : Nat) (r : Int), ks.foldlM (fun q k => wk d f k (m : Int) q) (q : Int) = some r → ∃ xs : List Tree, ks = kidsAt q xs ∧ depT xs ≤ f ∧ (∃ post, d.drop q = flats q m xs ++ post) ∧ r = ((q + cntT xs : Nat) : Int) := by
            intro ks
            induction ks with
            | nil => intro q r h; simp at h; subst h; exact ⟨[], rfl, by simp [depT], ⟨_, by simp [flats]; rfl⟩, by simp [cntT]⟩
            | cons k ks ihk =>
              intro q r h
              rw [List.foldlM_cons] at h
              obtain ⟨q', h1, h2⟩ := Option.bind_eq_some_iff.1 h
              obtain ⟨rfl, x, x1, ⟨post, x2⟩, rfl⟩ := ih q k m q' h1
              obtain ⟨xs, e1, e2, ⟨post2, e3⟩, rfl⟩ := ihk _ _ h2
              refine ⟨x :: xs, by simp only [kidsAt, e1], by simp only [depT]; omega, ⟨post2, ?_⟩, by simp only [cntT, Nat.add_assoc]⟩
              have : d.drop (q + x.cnt) = post := by
                rw [← List.drop_drop, x2, List.drop_append_of_le_length (by rw [x.flat_len]; exact Nat.le_refl _), List.drop_eq_nil_of_le (by rw [x.flat_len]; exact Nat.le_refl _)]; rfl
              rw [x2, ← this, e3]; simp [flats]
          obtain ⟨xs, e1, e2, ⟨post, e3⟩, rfl⟩ := kids nd.kids (m + 1) r (by simpa using h)
          refine ⟨.mk nd.text nd.s nd.attrs xs, by simp only [Tree.dep]; omega, ⟨post, ?_⟩, by simp only [Tree.cnt]; congr 1; omega⟩
          rw [drop_eq hx, e3]
          simp only [Tree.flat, List.cons_append, List.cons.injEq, and_true]
          exact Node.ext' rfl rfl rfl hp e1
        · simp at h
    · simp at h

theorem wk_of (d : Doc) : ∀ (f : Nat) (x : Tree) (m : Nat) (p : Int), x.dep ≤ f → (∃ post, d.drop m = x.flat m p ++ post) → wk d f m p m = some ((m + x.cnt : Nat) : Int) := by
  intro f
  induction f with
  | zero => intro x m p h; rw [x.dep_eq] at h; omega
  | succ f ih =>
    intro x m p hd ⟨post, hx⟩
    rw [x.flat_eq] at hx
    obtain ⟨h1, h2⟩ := drop_mem hx
    unfold wk
    rw [if_pos rfl, Int.toNat_natCast, h1]
    simp only [Tree.node, if_true]
    have kids : ∀ (xs : List Tree) (q : Nat), depT xs ≤ f → (∃ post, d.drop q = flats q m xs ++ post) → (kidsAt q xs).foldlM (fun q k => wk d f k (m : Int) q) (q : Int) = some ((q + cntT xs : Nat) : Int) := by
      intro xs
      induction xs with
      | nil => intro q _ _; simp [kidsAt, cntT]
      | cons y ys ihk =>
        intro q hq ⟨post, hp⟩
        simp only [depT] at hq
        simp only [flats, List.append_assoc] at hp
        simp only [kidsAt, List.foldlM_cons]
        rw [ih y q m (by omega) ⟨_, hp⟩]
        simp only [Option.bind_eq_bind, Option.bind_some]
        rw [ihk (q + y.cnt) (by omega) ⟨post, by rw [← List.drop_drop, hp, List.drop_append_of_le_length (by rw [y.flat_len]; exact Nat.le_refl _), List.drop_eq_nil_of_le (by rw [y.flat_len]; exact Nat.le_refl _)]; rfl⟩]
        simp only [cntT, Nat.add_assoc]
    have hdep := x.dep_eq
    have := kids x.kids (m + 1) (by omega) ⟨post, h2⟩
    rw [show ((m : Int) + 1) = ((m + 1 : Nat) : Int) by omega, this, x.cnt_eq]
    congr 2; omega

/-! A tree is known by its nodes. -/
mutual
theorem Tree.flat_inj : ∀ (x y : Tree) (off : Nat) (p : Int) (r r' : List Node), x.flat off p ++ r = y.flat off p ++ r' → x = y
  | .mk t s as ks, .mk t' s' as' ks', off, p, r, r', h => by
    simp only [Tree.flat, List.cons_append, List.cons.injEq, Node.mk.injEq] at h
    obtain ⟨⟨rfl, rfl, rfl, _, hk⟩, h⟩ := h
    have hl : ks.length = ks'.length := by have := congrArg List.length hk; simpa [kidsAt_len] using this
    rw [flats_inj ks ks' (off + 1) off r r' hl h]
theorem flats_inj : ∀ (xs ys : List Tree) (off p : Nat) (r r' : List Node), xs.length = ys.length → flats off p xs ++ r = flats off p ys ++ r' → xs = ys
  | [], [], _, _, _, _, _, _ => rfl
  | [], _ :: _, _, _, _, _, h, _ => by simp at h
  | _ :: _, [], _, _, _, _, h, _ => by simp at h
  | x :: xs, y :: ys, off, p, r, r', hl, h => by
    simp only [flats, List.append_assoc] at h
    have e := x.flat_inj y off p _ _ h
    subst e
    have := List.append_cancel_left h
    rw [flats_inj xs ys _ p r r' (by simpa using hl) this]
end

theorem docOf_inj {x y : Tree} (h : docOf x = docOf y) : x = y := x.flat_inj y 0 (-1) [] [] (by simpa [docOf] using h)
theorem docOf_len (x : Tree) : (docOf x).length = x.cnt := x.flat_len 0 (-1)

/-- The documents. -/
def IsDoc (d : Doc) : Prop := ∃ x : Tree, x.good = true ∧ d = docOf x
open Classical in
noncomputable def isDoc (d : Doc) : Bool := decide (IsDoc d)
theorem isDoc_iff {d : Doc} : isDoc d = true ↔ IsDoc d := by simp [isDoc]
theorem isDoc_of {x : Tree} (h : x.good = true) : isDoc (docOf x) = true := isDoc_iff.2 ⟨x, h, rfl⟩
theorem isDoc_not {d : Doc} (h : ¬ IsDoc d) : isDoc d = false := by simp [isDoc, h]

theorem good_iff (x : Tree) : x.good = true ↔ x.text = false ∧ x.dep ≤ 8 ∧ x.cnt ≤ 80 ∧ x.fine = true := by
  simp only [Tree.good, Bool.and_eq_true, Bool.not_eq_true', decide_eq_true_eq]
  constructor
  · rintro ⟨h1, h2, h3, h4⟩; exact ⟨h1, by omega, by omega, h4⟩
  · rintro ⟨h1, h2, h3, h4⟩; exact ⟨h1, by omega, by omega, h4⟩

theorem wk_doc {d : Doc} (h : wk d 8 0 (-1) 0 = some (d.length : Int)) : ∃ x : Tree, x.dep ≤ 8 ∧ d = docOf x := by
  obtain ⟨_, x, h1, ⟨post, h2⟩, h3⟩ := wk_some d 8 0 0 (-1) _ h
  refine ⟨x, h1, ?_⟩
  simp only [List.drop_zero, Nat.zero_add] at h2 h3
  have hl : post = [] := by
    have := congrArg List.length h2
    rw [List.length_append, x.flat_len] at this
    have : x.cnt = d.length := by omega
    exact List.length_eq_zero_iff.1 (by omega)
  rw [h2, hl, List.append_nil]; rfl
theorem wk_doc' {x : Tree} (h : x.dep ≤ 8) : wk (docOf x) 8 0 (-1) 0 = some ((docOf x).length : Int) := by
  have := wk_of (docOf x) 8 x 0 (-1) h ⟨[], by simp [docOf]⟩
  rw [docOf_len]; simpa using this

end Go.Am
