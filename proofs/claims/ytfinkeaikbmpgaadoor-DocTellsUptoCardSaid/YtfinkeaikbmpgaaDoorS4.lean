import Derived.Test.YtfinkeaikbmpgaaDoorKD3
set_option linter.unusedSimpArgs false
set_option linter.unusedVariables false
set_option linter.unnecessarySimpa false
set_option linter.defProp false
/- Documents: parents, step by step upward; ends, found one by one. -/
namespace Go.Am
open Go Go.RowKit
theorem drop_take_snoc' {α : Type} {l : List α} {m i : Nat} {x : α} (hm : m ≤ i) (hx : l[i]? = some x) : (l.drop m).take (i + 1 - m) = (l.drop m).take (i - m) ++ [x] := by
  rw [show i + 1 - m = (i - m) + 1 by omega, List.take_add_one, List.getElem?_drop, show m + (i - m) = i by omega, hx]
  rfl
theorem doc_parent {t : Tree} {n : Nat} {x : Node} (h : (docOf t)[n]? = some x) : (n = 0 ∧ x.parent = -1) ∨ (0 < n ∧ 0 ≤ x.parent ∧ x.parent < n) := by
  have hlt := (List.getElem?_eq_some_iff.1 h).1
  obtain ⟨q, y, l, s⟩ := lies_doc hlt
  have hn := l.node
  rw [h] at hn
  have hp : x.parent = q := by simp only [Option.some.injEq] at hn; rw [hn]; rfl
  rcases s.parent with ⟨e1, e2, _⟩ | ⟨m, z, r, e1, e2, e3, e4, _⟩
  · left; exact ⟨e1, by omega⟩
  · right; omega
theorem doc_head {t : Tree} : 1 ≤ (docOf t).length := by rw [docOf_len]; exact t.cnt_pos
theorem inD_self {d : Doc} (hd : isDoc d = true) {n : Nat} (h : n < d.length) : inD d n n = true := by
  obtain ⟨t, ht, rfl⟩ := isDoc_iff.1 hd
  obtain ⟨q, y, l, s⟩ := lies_doc h
  have := y.cnt_pos
  unfold inD
  rw [endD_of ht l]
  simp only [Bool.and_eq_true, decide_eq_true_eq]
  omega
/-- One step upward asks the same. -/
theorem inD_up {d : Doc} (hd : isDoc d = true) {n : Nat} {x : Node} (h : d[n]? = some x) {m : Int} (hm : 0 ≤ m) (hne : (n : Int) ≠ m) : inD d n m = if 0 ≤ x.parent then inD d x.parent m else false := by
  obtain ⟨t, ht, rfl⟩ := isDoc_iff.1 hd
  have hlt := (List.getElem?_eq_some_iff.1 h).1
  obtain ⟨k, rfl⟩ := Int.eq_ofNat_of_zero_le hm
  by_cases hk : k < (docOf t).length
  · obtain ⟨qm, ym, lm, sm⟩ := lies_doc hk
    have hend := endD_of ht lm
    have hc := ym.cnt_pos
    have hl := lm.len
    rcases doc_parent h with ⟨e1, e2⟩ | ⟨e1, e2, e3⟩
    · rw [e2, if_neg (by decide)]
      unfold inD
      rw [hend]
      simp only [Bool.and_eq_false_iff, decide_eq_false_iff_not]
      omega
    · rw [if_pos e2]
      obtain ⟨p, hp⟩ := Int.eq_ofNat_of_zero_le e2
      rw [hp] at e3 ⊢
      rw [Bool.eq_iff_iff]
      unfold inD
      rw [hend]
      simp only [Bool.and_eq_true, decide_eq_true_eq]
      constructor
      · rintro ⟨a1, a2, _⟩
        have hmn : k < n := by omega
        obtain ⟨q, z, sz⟩ := sub_all ym.cnt ym k qm n (Nat.le_refl _) (by omega) (by omega)
        have ln := sz.lies (docOf t) lm
        have hnd := ln.node
        rw [h] at hnd
        have hq : x.parent = q := by simp only [Option.some.injEq] at hnd; rw [hnd]; rfl
        rcases sz.parent with ⟨b1, _⟩ | ⟨p', z', r, b1, b2, b3, b4, _, b6⟩
        · omega
        · omega
      · rintro ⟨a1, a2, _⟩
        obtain ⟨q, z, sz⟩ := sub_all ym.cnt ym k qm p (Nat.le_refl _) (by omega) (by omega)
        have hr := sz.rng
        have lp := sz.lies (docOf t) lm
        -- n's own tree lies in its parent's
        obtain ⟨qn, yn, ln, sn⟩ := lies_doc hlt
        have hnd := ln.node
        rw [h] at hnd
        have hq : x.parent = qn := by simp only [Option.some.injEq] at hnd; rw [hnd]; rfl
        have hyn := yn.cnt_pos
        rcases sn.parent with ⟨b1, b2, _⟩ | ⟨p', z', r, b1, b2, b3, b4, _, _⟩
        · omega
        · have : p' = p := by omega
          subst this
          have lz := b2.lies (docOf t) ⟨[], by simp [docOf]⟩
          have := (lz.uniq lp).1
          subst this
          omega
  · have e : ∀ j : Int, j < (docOf t).length → inD (docOf t) j k = false := fun j hj => by
      unfold inD
      simp only [Bool.and_eq_false_iff, decide_eq_false_iff_not]
      left; omega
    rw [e n (by omega)]
    split
    · rcases doc_parent h with ⟨e1, e2⟩ | ⟨e1, e2, e3⟩
      · omega
      · rw [e _ (by omega)]
    · rfl
theorem endD_rng (d : Doc) (m : Int) : endD d m = 0 ∨ (isDoc d = true ∧ 0 ≤ m ∧ m < endD d m ∧ endD d m ≤ d.length) := by
  by_cases h : isDoc d = true ∧ 0 ≤ m ∧ m < d.length
  · right
    obtain ⟨h1, h2, h3⟩ := h
    obtain ⟨t, ht, rfl⟩ := isDoc_iff.1 h1
    obtain ⟨k, rfl⟩ := Int.eq_ofNat_of_zero_le h2
    obtain ⟨q, y, l, s⟩ := lies_doc (t := t) (n := k) (by omega)
    have := l.len
    have := y.cnt_pos
    rw [endD_of ht l]
    refine ⟨h1, by omega, by omega, by omega⟩
  · left; exact endD_out h
/-- What IsIn asks. -/
theorem inD_all (d : Doc) (n m : Int) : inD d n m = (isDoc d && (decide (0 ≤ n) && (decide (n < d.length) && (decide (0 ≤ m) && inD d n m)))) := by
  rw [Bool.eq_iff_iff]
  simp only [Bool.and_eq_true, decide_eq_true_eq]
  constructor
  · intro h
    refine ⟨?_, ?_, ?_, ?_, h⟩ <;> (unfold inD at h; simp only [Bool.and_eq_true, decide_eq_true_eq] at h; rcases endD_rng d m with e | ⟨e1, e2, e3, e4⟩)
    · omega
    · exact e1
    all_goals omega
  · exact fun h => h.2.2.2.2
/-- The end so far. -/
noncomputable def endTo (d : Doc) (m : Int) (i : Nat) : Int := if m < i ∧ 0 < endD d m then min (i : Int) (endD d m) else 0
theorem endTo_zero (d : Doc) (m : Int) : endTo d m 0 = 0 := by
  unfold endTo
  rcases endD_rng d m with e | ⟨e1, e2, e3, e4⟩
  · rw [if_neg (by omega)]
  · rw [if_neg (by omega)]
theorem endTo_all (d : Doc) (m : Int) : endTo d m d.length = endD d m := by
  unfold endTo
  rcases endD_rng d m with e | ⟨e1, e2, e3, e4⟩
  · rw [if_neg (by omega), e]
  · rw [if_pos (by omega)]; omega
theorem endTo_step (d : Doc) (m : Int) (i : Nat) : endTo d m (i + 1) = if inD d i m = true then ((i + 1 : Nat) : Int) else endTo d m i := by
  unfold endTo
  by_cases h : inD d i m = true
  · rw [if_pos h]
    unfold inD at h
    simp only [Bool.and_eq_true, decide_eq_true_eq] at h
    rw [if_pos (by omega)]
    omega
  · rw [if_neg h]
    unfold inD at h
    simp only [Bool.and_eq_true, decide_eq_true_eq] at h
    rcases endD_rng d m with e | ⟨e1, e2, e3, e4⟩
    · rw [if_neg (by omega), if_neg (by omega)]
    · by_cases h2 : m < i
      · rw [if_pos (by omega), if_pos (by omega)]; omega
      · rw [if_neg (by omega), if_neg (by omega)]
/-- What is said so far. -/
noncomputable def strTo (d : Doc) (m : Int) (i : Nat) : Bs := ((d.drop m.toNat).take (min i (endD d m).toNat - m.toNat)).flatMap Node.told
theorem strTo_zero (d : Doc) (m : Int) : strTo d m 0 = [] := by simp [strTo]
theorem strTo_all (d : Doc) (m : Int) : strTo d m d.length = strD d m := by
  unfold strTo strD
  rcases endD_rng d m with e | ⟨e1, e2, e3, e4⟩
  · rw [e]; simp
  · rw [Nat.min_eq_right (by omega)]
theorem strTo_step {d : Doc} {m : Int} {i : Nat} {x : Node} (hx : d[i]? = some x) : strTo d m (i + 1) = strTo d m i ++ (if x.text = true ∧ inD d i m = true then x.s else []) := by
  unfold strTo
  by_cases h : inD d i m = true
  · have h' := h
    unfold inD at h'
    simp only [Bool.and_eq_true, decide_eq_true_eq] at h'
    rw [Nat.min_eq_left (by omega), Nat.min_eq_left (by omega), drop_take_snoc' (by omega) hx, List.flatMap_append]
    congr 1
    simp only [List.flatMap_cons, List.flatMap_nil, List.append_nil, Node.told, h, and_true]
  · rw [if_neg (by simp [h]), List.append_nil]
    unfold inD at h
    simp only [Bool.and_eq_true, decide_eq_true_eq] at h
    rcases endD_rng d m with e | ⟨e1, e2, e3, e4⟩
    · rw [e]; simp
    · congr 2
      omega
end Go.Am
