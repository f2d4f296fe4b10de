import Derived.Test.YtfinkeaikbmpgaaDoorKT65
set_option linter.unusedSimpArgs false
set_option linter.unusedVariables false
set_option linter.unnecessarySimpa false
set_option linter.defProp false
/- Attributes sorted: merges. -/
set_option pp.deepTerms false
set_option pp.deepTerms.threshold 5
namespace Go.Am
open Go Go.RowKit
section
variable {P : Program} {G : Nat → Option (List IV)}
/-- What these functions do: the elements are others' places. -/
abbrev PermR (l : List Attr) : AV → List IV → Prop := fun _ ys => ∃ zs : List Attr, ys = ivA zs ∧ zs.Perm l
def c_slices_swapRangeCmpFunc_Attr : AC :=
(.seq (.reg [⟨(some 10), none, (.mov (.c (.int .i64 0)))⟩]) (.block 0 (.loop (.seq (.seq (.reg [⟨(some 11), none, (.mov (.t 10))⟩, ⟨(some 12), none, (.mov (.t 3))⟩, ⟨(some 13), none, (.bin .lss (.t 11) (.t 12))⟩]) (.cond (.t 13) .skip (.exit 0))) (.seq (.block 1 (.dreg [⟨(some 16), none, (.mov (.t 0))⟩, ⟨(some 17), none, (.mov (.t 1))⟩, ⟨(some 18), none, (.mov (.t 10))⟩, ⟨(some 19), none, (.bin .add (.t 17) (.t 18))⟩, ⟨(some 20), none, (.mov (.t 0))⟩, ⟨(some 21), none, (.mov (.t 2))⟩, ⟨(some 22), none, (.mov (.t 10))⟩, ⟨(some 23), none, (.bin .add (.t 21) (.t 22))⟩, ⟨(some 24), none, (.mov (.t 0))⟩, ⟨(some 25), none, (.mov (.t 2))⟩, ⟨(some 26), none, (.mov (.t 10))⟩, ⟨(some 27), none, (.bin .add (.t 25) (.t 26))⟩, ⟨(some 28), none, (.ixa (.t 24) (.t 27) 2)⟩, ⟨(some 29), none, (.load (some 2) (.t 28))⟩, ⟨(some 30), none, (.mov (.t 0))⟩, ⟨(some 31), none, (.mov (.t 1))⟩, ⟨(some 32), none, (.mov (.t 10))⟩, ⟨(some 33), none, (.bin .add (.t 31) (.t 32))⟩, ⟨(some 34), none, (.ixa (.t 30) (.t 33) 2)⟩, ⟨(some 35), none, (.load (some 2) (.t 34))⟩, ⟨(some 36), none, (.ixa (.t 16) (.t 19) 2)⟩, ⟨none, none, (.store 2 (.t 36) (.t 29))⟩, ⟨(some 37), none, (.ixa (.t 20) (.t 23) 2)⟩, ⟨none, none, (.store 2 (.t 37) (.t 35))⟩] [[], [], [], [1, 2], [], [], [], [5, 6], [], [], [], [9, 10], [8, 11], [12], [], [], [], [15, 16], [14, 17], [18], [0, 3, 0, 1, 2, 3, 8, 9, 10, 11, 12, 13, 19], [20, 13, 0, 1, 2, 3, 8, 9, 10, 11, 12, 13, 19], [4, 7, 0, 1, 2, 3, 4, 5, 6, 7, 8, 9, 10, 11, 12, 13, 14, 15, 16, 17, 18, 19, 20, 21], [22, 19, 21, 0, 1, 2, 3, 4, 5, 6, 7, 8, 9, 10, 11, 12, 13, 14, 15, 16, 17, 18, 19, 20, 21]] [.no, .no, .no, .no, .no, .no, .no, .no, .no, .no, .no, .no, .no, (.rw [(.par 0)] []), .no, .no, .no, .no, .no, (.rw [(.par 0)] []), .no, (.rw [] [(.par 0)]), .no, (.rw [] [(.par 0)])])) (.reg [⟨(some 14), none, (.mov (.t 10))⟩, ⟨(some 15), none, (.bin .add (.t 14) (.c (.int .i64 1)))⟩, ⟨(some 10), none, (.mov (.t 15))⟩]))))))
theorem pSwapRange {f_slices_swapRangeCmpFunc_Attr : Nat} (c : AV) (hc : c.lbs = []) (hF : compF P G f_slices_swapRangeCmpFunc_Attr = some (38, [], c_slices_swapRangeCmpFunc_Attr.bare)) (l : List Attr) (hl : l.length ≤ B) (a b n : Nat) (ha : a + n ≤ l.length) (hb : b + n ≤ l.length) :
    RowC P G f_slices_swapRangeCmpFunc_Attr [.sl (.par 0) 2 0 l.length, .int .i64 a, .int .i64 b, .int .i64 n, c] 2 (ivA l) (PermR l) := by
  refine row_of_go hF (by simp) (by simp [lbss, AV.lbs, hc]) ?_
  have hBv : B = 1073741824 := rfl
  unfold c_slices_swapRangeCmpFunc_Attr
  simp only [↓aX, evp, evq, evl, boxK, stillV, binV, AV.cells, mP, loadV, storeV, ldV, AV.stb, AV.one, IV.av1, Lb.app, Lb.fresh, reduceCtorEq, ptrL, appL, fillA, chunks, ivs, AV.iv, mkE, if_false, if_true, List.not_mem_nil, forall_eq, beq_self_eq_true, List.isEmpty_nil, Nat.reduceEqDiff, Nat.reduceLT, Nat.reduceLeDiff, Nat.reduceAdd, Nat.reduceMul, Int.reduceToNat, Int.reduceLE, Int.reduceLT, rowX]
  refine loop_same (σ := { q : Nat × List Attr // q.1 ≤ n ∧ q.2.Perm l }) [.par 0] (fun q => [(0, .sl (.par 0) 2 0 l.length), (1, .int .i64 a), (2, .int .i64 b), (3, .int .i64 n), (10, .int .i64 q.1.1)]) (fun q => [(.par 0, ⟨2, immE (ivA q.1.2)⟩)]) (fun q => n - q.1.1)
    ⟨(0, l), Nat.zero_le _, .refl _⟩ (fun _ => rfl) (by decide) (by simp [lbss, AV.lbs]) ?_ ?_ ?_
  · intro q w hw cs hcs z hz
    simp only [List.mem_singleton] at hw; subst hw
    rw [lbss_immE hcs] at hz; simp at hz
  · refine WS_mk ?_ (by repeat' constructor) (by repeat' constructor)
    intro z hz hu
    by_cases e : z = .par 0
    · subst e; simp
    · exfalso; apply hu; simp [upd_at, e, Hp.none]
  · rintro ⟨⟨i, M⟩, hi, hM⟩
    simp only at hi hM
    have hMl : M.length = l.length := hM.length_eq
    simp only [↓aX, evp, evq, evl, boxK, stillV, binV, AV.cells, mP, loadV, storeV, ldV, AV.stb, AV.one, IV.av1, Lb.app, Lb.fresh, reduceCtorEq, ptrL, appL, fillA, chunks, ivs, AV.iv, mkE, if_false, if_true, List.not_mem_nil, forall_eq, beq_self_eq_true, List.isEmpty_nil, Nat.reduceEqDiff, Nat.reduceLT, Nat.reduceLeDiff, Nat.reduceAdd, Nat.reduceMul, Int.reduceToNat, Int.reduceLE, Int.reduceLT, ofH_nil, ofH_cons]
    by_cases hlt : i < n
    · rw [show decide (((i : Nat) : Int) < ((n : Nat) : Int)) = true by simpa using hlt]
      have hw : IntKind.i64.wrap ((i : Int) + 1) = ((i + 1 : Nat) : Int) := wrap64 (by omega) (by omega)
      have hwa : IntKind.i64.wrap ((a : Int) + (i : Int)) = ((a + i : Nat) : Int) := wrap64 (by omega) (by omega)
      have hwb : IntKind.i64.wrap ((b : Int) + (i : Int)) = ((b + i : Nat) : Int) := wrap64 (by omega) (by omega)
      obtain ⟨x, hx⟩ : ∃ x, M[a + i]? = some x := ⟨_, List.getElem?_eq_getElem (by omega)⟩
      obtain ⟨y, hy⟩ : ∃ y, M[b + i]? = some y := ⟨_, List.getElem?_eq_getElem (by omega)⟩
      simp only [↓aX, evp, evq, evl, boxK, stillV, binV, AV.cells, mP, loadV, storeV, ldV, AV.stb, AV.one, IV.av1, Lb.app, Lb.fresh, reduceCtorEq, ptrL, appL, fillA, chunks, ivs, AV.iv, mkE, if_false, if_true, List.not_mem_nil, forall_eq, beq_self_eq_true, List.isEmpty_nil, Nat.reduceEqDiff, Nat.reduceLT, Nat.reduceLeDiff, Nat.reduceAdd, Nat.reduceMul, Int.reduceToNat, Int.reduceLE, Int.reduceLT]
      refine ⟨by decide +kernel, ?_⟩
      simp only [↓aX, evp, evq, evl, boxK, stillV, binV, AV.cells, mP, loadV, storeV, ldV, AV.stb, AV.one, IV.av1, Lb.app, Lb.fresh, reduceCtorEq, ptrL, appL, fillA, chunks, ivs, AV.iv, mkE, if_false, if_true, List.not_mem_nil, forall_eq, beq_self_eq_true, List.isEmpty_nil, Nat.reduceEqDiff, Nat.reduceLT, Nat.reduceLeDiff, Nat.reduceAdd, Nat.reduceMul, Int.reduceToNat, Int.reduceLE, Int.reduceLT, hwa, hwb, Int.natCast_nonneg, Int.toNat_natCast, Nat.zero_add, getA hx, getA hy, show a + i < l.length by omega, show b + i < l.length by omega, ptrL]
      rw [setA2 M (a + i) y]
      obtain ⟨y2, hy2⟩ : ∃ y2, (M.set (a + i) y)[b + i]? = some y2 := ⟨_, List.getElem?_eq_getElem (by rw [List.length_set]; omega)⟩
      simp only [↓aX, evp, evq, evl, boxK, stillV, binV, AV.cells, mP, loadV, storeV, ldV, AV.stb, AV.one, IV.av1, Lb.app, Lb.fresh, reduceCtorEq, ptrL, appL, fillA, chunks, ivs, AV.iv, mkE, if_false, if_true, List.not_mem_nil, forall_eq, beq_self_eq_true, List.isEmpty_nil, Nat.reduceEqDiff, Nat.reduceLT, Nat.reduceLeDiff, Nat.reduceAdd, Nat.reduceMul, Int.reduceToNat, Int.reduceLE, Int.reduceLT, getA hy2, hw]
      exact ⟨⟨(i + 1, (M.set (a + i) y).set (b + i) x), hlt, (swap_perm hx hy).trans hM⟩, by simp only; omega, by
        refine WS_mk ?_ (by repeat' constructor) ⟨by simp only [upd_at, if_true]; rw [setA2], trivial⟩
        intro z hz hu
        by_cases e : z = .par 0
        · subst e; simp
        · exfalso; apply hu; simp [upd_at, e, Hp.none]⟩
    · rw [show decide (((i : Nat) : Int) < ((n : Nat) : Int)) = false by simpa using hlt]
      simp only [↓aX, evp, evq, evl, boxK, stillV, binV, AV.cells, mP, loadV, storeV, ldV, AV.stb, AV.one, IV.av1, Lb.app, Lb.fresh, reduceCtorEq, ptrL, appL, fillA, chunks, ivs, AV.iv, mkE, if_false, if_true, List.not_mem_nil, forall_eq, beq_self_eq_true, List.isEmpty_nil, Nat.reduceEqDiff, Nat.reduceLT, Nat.reduceLeDiff, Nat.reduceAdd, Nat.reduceMul, Int.reduceToNat, Int.reduceLE, Int.reduceLT, ret_n, resVs, oneV]
      exact ⟨_, rfl, ivA M, ⟨M, rfl, hM⟩, by simp [AV.lbs, lbss], by rw [ivA_len, ivA_len, hMl], by simp [upd_at]⟩
def c_slices_rotateCmpFunc_Attr (f_slices_swapRangeCmpFunc_Attr : Nat) : AC :=
(.seq (.reg [⟨(some 12), none, (.mov (.t 2))⟩, ⟨(some 13), none, (.mov (.t 1))⟩, ⟨(some 14), none, (.bin .sub (.t 12) (.t 13))⟩, ⟨(some 10), none, (.mov (.t 14))⟩]) (.seq (.reg [⟨(some 15), none, (.mov (.t 3))⟩, ⟨(some 16), none, (.mov (.t 2))⟩, ⟨(some 17), none, (.bin .sub (.t 15) (.t 16))⟩, ⟨(some 11), none, (.mov (.t 17))⟩]) (.seq (.block 0 (.loop (.seq (.seq (.reg [⟨(some 18), none, (.mov (.t 10))⟩, ⟨(some 19), none, (.mov (.t 11))⟩, ⟨(some 20), none, (.bin .neq (.t 18) (.t 19))⟩]) (.cond (.t 20) .skip (.exit 0))) (.block 1 (.seq (.reg [⟨(some 21), none, (.mov (.t 10))⟩, ⟨(some 22), none, (.mov (.t 11))⟩, ⟨(some 23), none, (.bin .gtr (.t 21) (.t 22))⟩]) (.cond (.t 23) (.seq (.reg [⟨(some 24), none, (.mov (.t 0))⟩, ⟨(some 25), none, (.mov (.t 2))⟩, ⟨(some 26), none, (.mov (.t 10))⟩, ⟨(some 27), none, (.bin .sub (.t 25) (.t 26))⟩, ⟨(some 28), none, (.mov (.t 2))⟩, ⟨(some 29), none, (.mov (.t 11))⟩, ⟨(some 30), none, (.mov (.t 4))⟩, ⟨(some 31), none, (.call f_slices_swapRangeCmpFunc_Attr [(.t 24), (.t 27), (.t 28), (.t 29), (.t 30)])⟩]) (.reg [⟨(some 32), none, (.mov (.t 10))⟩, ⟨(some 33), none, (.mov (.t 11))⟩, ⟨(some 34), none, (.bin .sub (.t 32) (.t 33))⟩, ⟨(some 10), none, (.mov (.t 34))⟩])) (.seq (.reg [⟨(some 35), none, (.mov (.t 0))⟩, ⟨(some 36), none, (.mov (.t 2))⟩, ⟨(some 37), none, (.mov (.t 10))⟩, ⟨(some 38), none, (.bin .sub (.t 36) (.t 37))⟩, ⟨(some 39), none, (.mov (.t 2))⟩, ⟨(some 40), none, (.mov (.t 11))⟩, ⟨(some 41), none, (.bin .add (.t 39) (.t 40))⟩, ⟨(some 42), none, (.mov (.t 10))⟩, ⟨(some 43), none, (.bin .sub (.t 41) (.t 42))⟩, ⟨(some 44), none, (.mov (.t 10))⟩, ⟨(some 45), none, (.mov (.t 4))⟩, ⟨(some 46), none, (.call f_slices_swapRangeCmpFunc_Attr [(.t 35), (.t 38), (.t 43), (.t 44), (.t 45)])⟩]) (.reg [⟨(some 47), none, (.mov (.t 11))⟩, ⟨(some 48), none, (.mov (.t 10))⟩, ⟨(some 49), none, (.bin .sub (.t 47) (.t 48))⟩, ⟨(some 11), none, (.mov (.t 49))⟩])))))))) (.reg [⟨(some 50), none, (.mov (.t 0))⟩, ⟨(some 51), none, (.mov (.t 2))⟩, ⟨(some 52), none, (.mov (.t 10))⟩, ⟨(some 53), none, (.bin .sub (.t 51) (.t 52))⟩, ⟨(some 54), none, (.mov (.t 2))⟩, ⟨(some 55), none, (.mov (.t 10))⟩, ⟨(some 56), none, (.mov (.t 4))⟩, ⟨(some 57), none, (.call f_slices_swapRangeCmpFunc_Attr [(.t 50), (.t 53), (.t 54), (.t 55), (.t 56)])⟩]))))
theorem pRotate {f_slices_rotateCmpFunc_Attr f_slices_swapRangeCmpFunc_Attr : Nat} (f_cmp : Nat) (hF : compF P G f_slices_rotateCmpFunc_Attr = some (58, [], (c_slices_rotateCmpFunc_Attr f_slices_swapRangeCmpFunc_Attr).bare))
    (hS : ∀ (l : List Attr), l.length ≤ B → ∀ a b n : Nat, a + n ≤ l.length → b + n ≤ l.length → RowC P G f_slices_swapRangeCmpFunc_Attr [.sl (.par 0) 2 0 l.length, .int .i64 a, .int .i64 b, .int .i64 n, .fn f_cmp [] []] 2 (ivA l) (PermR l))
    (l : List Attr) (hl : l.length ≤ B) (a m b : Nat) (ha : a < m) (hm : m < b) (hb : b ≤ l.length) :
    RowC P G f_slices_rotateCmpFunc_Attr [.sl (.par 0) 2 0 l.length, .int .i64 a, .int .i64 m, .int .i64 b, .fn f_cmp [] []] 2 (ivA l) (PermR l) := by
  refine row_of_go hF (by simp) (by simp [lbss, AV.lbs]) ?_
  have hBv : B = 1073741824 := rfl
  have hw1 : IntKind.i64.wrap ((m : Int) - (a : Int)) = ((m - a : Nat) : Int) := by rw [wrap64 (by omega) (by omega)]; omega
  have hw2 : IntKind.i64.wrap ((b : Int) - (m : Int)) = ((b - m : Nat) : Int) := by rw [wrap64 (by omega) (by omega)]; omega
  unfold c_slices_rotateCmpFunc_Attr
  simp only [↓aX, evp, evq, evl, boxK, stillV, binV, AV.cells, mP, loadV, storeV, ldV, AV.stb, AV.one, IV.av1, Lb.app, Lb.fresh, reduceCtorEq, ptrL, appL, fillA, chunks, ivs, AV.iv, mkE, if_false, if_true, List.not_mem_nil, forall_eq, beq_self_eq_true, List.isEmpty_nil, Nat.reduceEqDiff, Nat.reduceLT, Nat.reduceLeDiff, Nat.reduceAdd, Nat.reduceMul, Int.reduceToNat, Int.reduceLE, Int.reduceLT, rowX, hw1, hw2]
  refine loop_same (σ := { q : Nat × Nat × List Attr // 0 < q.1 ∧ q.1 ≤ m ∧ 0 < q.2.1 ∧ m + q.2.1 ≤ l.length ∧ q.2.2.Perm l }) [.par 0] (fun q => [(0, .sl (.par 0) 2 0 l.length), (2, .int .i64 m), (4, .fn f_cmp [] []), (10, .int .i64 q.1.1), (11, .int .i64 q.1.2.1)]) (fun q => [(.par 0, ⟨2, immE (ivA q.1.2.2)⟩)]) (fun q => q.1.1 + q.1.2.1)
    ⟨(m - a, b - m, l), by simp only; omega, by simp only; omega, by simp only; omega, by simp only; omega, .refl _⟩ (fun _ => rfl) (by decide) (by simp [lbss, AV.lbs]) ?_ ?_ ?_
  · intro q w hw cs hcs z hz
    simp only [List.mem_singleton] at hw; subst hw
    rw [lbss_immE hcs] at hz; simp at hz
  · refine WS_mk ?_ (by repeat' constructor) (by repeat' constructor)
    intro z hz hu
    by_cases e : z = .par 0
    · subst e; simp
    · exfalso; apply hu; simp [upd_at, e, Hp.none]
  · rintro ⟨⟨i, j, M⟩, hi, hi2, hj, hj2, hM⟩
    simp only at hi hi2 hj hj2 hM
    have hMl : M.length = l.length := hM.length_eq
    have hwi : IntKind.i64.wrap ((m : Int) - (i : Int)) = ((m - i : Nat) : Int) := by rw [wrap64 (by omega) (by omega)]; omega
    have hs := hS M (by omega)
    rw [hMl] at hs
    simp only [↓aX, evp, evq, evl, boxK, stillV, binV, AV.cells, mP, loadV, storeV, ldV, AV.stb, AV.one, IV.av1, Lb.app, Lb.fresh, reduceCtorEq, ptrL, appL, fillA, chunks, ivs, AV.iv, mkE, if_false, if_true, List.not_mem_nil, forall_eq, beq_self_eq_true, List.isEmpty_nil, Nat.reduceEqDiff, Nat.reduceLT, Nat.reduceLeDiff, Nat.reduceAdd, Nat.reduceMul, Int.reduceToNat, Int.reduceLE, Int.reduceLT, ofH_nil, ofH_cons]
    by_cases hne : i = j
    · rw [show (((i : Nat) : Int) != ((j : Nat) : Int)) = false by simp [hne]]
      simp only [↓aX, evp, evq, evl, boxK, stillV, binV, AV.cells, mP, loadV, storeV, ldV, AV.stb, AV.one, IV.av1, Lb.app, Lb.fresh, reduceCtorEq, ptrL, appL, fillA, chunks, ivs, AV.iv, mkE, if_false, if_true, List.not_mem_nil, forall_eq, beq_self_eq_true, List.isEmpty_nil, Nat.reduceEqDiff, Nat.reduceLT, Nat.reduceLeDiff, Nat.reduceAdd, Nat.reduceMul, Int.reduceToNat, Int.reduceLE, Int.reduceLT, hwi]
      refine callT_row (l := .par 0) (hs (m - i) m i (by omega) (by omega)) (by simp [rens, ren, atL]) (by simp [upd_at]) ?_
      rintro x1 ys ⟨zs, rfl, hz⟩ _ hzl
      simp only [↓aX, evp, evq, evl, boxK, stillV, binV, AV.cells, mP, loadV, storeV, ldV, AV.stb, AV.one, IV.av1, Lb.app, Lb.fresh, reduceCtorEq, ptrL, appL, fillA, chunks, ivs, AV.iv, mkE, if_false, if_true, List.not_mem_nil, forall_eq, beq_self_eq_true, List.isEmpty_nil, Nat.reduceEqDiff, Nat.reduceLT, Nat.reduceLeDiff, Nat.reduceAdd, Nat.reduceMul, Int.reduceToNat, Int.reduceLE, Int.reduceLT, ret_n, resVs, oneV]
      exact ⟨_, rfl, ivA zs, ⟨zs, rfl, hz.trans hM⟩, by simp [AV.lbs, lbss], by rw [ivA_len, ivA_len, (hz.trans hM).length_eq], by simp [upd_at]⟩
    · rw [show (((i : Nat) : Int) != ((j : Nat) : Int)) = true by rw [bne_iff_ne]; omega]
      simp only [↓aX, evp, evq, evl, boxK, stillV, binV, AV.cells, mP, loadV, storeV, ldV, AV.stb, AV.one, IV.av1, Lb.app, Lb.fresh, reduceCtorEq, ptrL, appL, fillA, chunks, ivs, AV.iv, mkE, if_false, if_true, List.not_mem_nil, forall_eq, beq_self_eq_true, List.isEmpty_nil, Nat.reduceEqDiff, Nat.reduceLT, Nat.reduceLeDiff, Nat.reduceAdd, Nat.reduceMul, Int.reduceToNat, Int.reduceLE, Int.reduceLT]
      by_cases hgt : j < i
      · have hw3 : IntKind.i64.wrap ((i : Int) - (j : Int)) = ((i - j : Nat) : Int) := by rw [wrap64 (by omega) (by omega)]; omega
        rw [show decide (((i : Nat) : Int) > ((j : Nat) : Int)) = true by simpa using hgt]
        simp only [↓aX, evp, evq, evl, boxK, stillV, binV, AV.cells, mP, loadV, storeV, ldV, AV.stb, AV.one, IV.av1, Lb.app, Lb.fresh, reduceCtorEq, ptrL, appL, fillA, chunks, ivs, AV.iv, mkE, if_false, if_true, List.not_mem_nil, forall_eq, beq_self_eq_true, List.isEmpty_nil, Nat.reduceEqDiff, Nat.reduceLT, Nat.reduceLeDiff, Nat.reduceAdd, Nat.reduceMul, Int.reduceToNat, Int.reduceLE, Int.reduceLT, hwi]
        refine callT_row (l := .par 0) (hs (m - i) m j (by omega) (by omega)) (by simp [rens, ren, atL]) (by simp [upd_at]) ?_
        rintro x1 ys ⟨zs, rfl, hz⟩ _ hzl
        simp only [↓aX, evp, evq, evl, boxK, stillV, binV, AV.cells, mP, loadV, storeV, ldV, AV.stb, AV.one, IV.av1, Lb.app, Lb.fresh, reduceCtorEq, ptrL, appL, fillA, chunks, ivs, AV.iv, mkE, if_false, if_true, List.not_mem_nil, forall_eq, beq_self_eq_true, List.isEmpty_nil, Nat.reduceEqDiff, Nat.reduceLT, Nat.reduceLeDiff, Nat.reduceAdd, Nat.reduceMul, Int.reduceToNat, Int.reduceLE, Int.reduceLT, hw3]
        exact ⟨⟨(i - j, j, zs), by simp only; omega, by simp only; omega, hj, hj2, hz.trans hM⟩, by simp only; omega, by
          refine WS_mk ?_ (by repeat' constructor) (by repeat' constructor)
          intro z hz hu
          by_cases e : z = .par 0
          · subst e; simp
          · exfalso; apply hu; simp [upd_at, e, Hp.none]⟩
      · have hw3 : IntKind.i64.wrap ((m : Int) + (j : Int)) = ((m + j : Nat) : Int) := wrap64 (by omega) (by omega)
        have hw4 : IntKind.i64.wrap (((m + j : Nat) : Int) - (i : Int)) = ((m + j - i : Nat) : Int) := by rw [wrap64 (by omega) (by omega)]; omega
        have hw5 : IntKind.i64.wrap ((j : Int) - (i : Int)) = ((j - i : Nat) : Int) := by rw [wrap64 (by omega) (by omega)]; omega
        rw [show decide (((i : Nat) : Int) > ((j : Nat) : Int)) = false by simpa using hgt]
        simp only [↓aX, evp, evq, evl, boxK, stillV, binV, AV.cells, mP, loadV, storeV, ldV, AV.stb, AV.one, IV.av1, Lb.app, Lb.fresh, reduceCtorEq, ptrL, appL, fillA, chunks, ivs, AV.iv, mkE, if_false, if_true, List.not_mem_nil, forall_eq, beq_self_eq_true, List.isEmpty_nil, Nat.reduceEqDiff, Nat.reduceLT, Nat.reduceLeDiff, Nat.reduceAdd, Nat.reduceMul, Int.reduceToNat, Int.reduceLE, Int.reduceLT, hwi, hw3, hw4]
        refine callT_row (l := .par 0) (hs (m - i) (m + j - i) i (by omega) (by omega)) (by simp [rens, ren, atL]) (by simp [upd_at]) ?_
        rintro x1 ys ⟨zs, rfl, hz⟩ _ hzl
        simp only [↓aX, evp, evq, evl, boxK, stillV, binV, AV.cells, mP, loadV, storeV, ldV, AV.stb, AV.one, IV.av1, Lb.app, Lb.fresh, reduceCtorEq, ptrL, appL, fillA, chunks, ivs, AV.iv, mkE, if_false, if_true, List.not_mem_nil, forall_eq, beq_self_eq_true, List.isEmpty_nil, Nat.reduceEqDiff, Nat.reduceLT, Nat.reduceLeDiff, Nat.reduceAdd, Nat.reduceMul, Int.reduceToNat, Int.reduceLE, Int.reduceLT, hw5]
        exact ⟨⟨(i, j - i, zs), hi, hi2, by simp only; omega, by simp only; omega, hz.trans hM⟩, by simp only; omega, by
          refine WS_mk ?_ (by repeat' constructor) (by repeat' constructor)
          intro z hz hu
          by_cases e : z = .par 0
          · subst e; simp
          · exfalso; apply hu; simp [upd_at, e, Hp.none]⟩
theorem half64 {x y : Nat} (h : x + y ≤ 2 ^ 40) : IntKind.i64.wrap (IntKind.u64.wrap (IntKind.i64.wrap ((x : Int) + (y : Int))) / 2 ^ min 1 IntKind.u64.bits) = (((x + y) / 2 : Nat) : Int) := by
  have hb : (2 : Nat) ^ 40 = 1099511627776 := by decide
  have h1 : IntKind.i64.wrap ((x : Int) + (y : Int)) = ((x + y : Nat) : Int) := wrap64 (by omega) (by omega)
  have h2 : IntKind.u64.wrap ((x + y : Nat) : Int) = ((x + y : Nat) : Int) := by
    rw [IntKind.wrap_u64]; omega
  have h3 : min 1 IntKind.u64.bits = 1 := by decide
  rw [h1, h2, h3]
  have h4 : ((x + y : Nat) : Int) / 2 ^ 1 = (((x + y) / 2 : Nat) : Int) := by omega
  rw [h4, wrap64 (by omega) (by omega)]
def c_slices_symMergeCmpFunc_Attr (f_slices_rotateCmpFunc_Attr f_slices_symMergeCmpFunc_Attr : Nat) : AC :=
(.seq (.seq (.reg [⟨(some 25), none, (.mov (.t 2))⟩, ⟨(some 26), none, (.mov (.t 1))⟩, ⟨(some 27), none, (.bin .sub (.t 25) (.t 26))⟩, ⟨(some 28), none, (.bin .eql (.t 27) (.c (.int .i64 1)))⟩]) (.cond (.t 28) (.seq (.reg [⟨(some 29), none, (.mov (.t 2))⟩, ⟨(some 10), none, (.mov (.t 29))⟩]) (.seq (.reg [⟨(some 30), none, (.mov (.t 3))⟩, ⟨(some 11), none, (.mov (.t 30))⟩]) (.seq (.block 0 (.loop (.seq (.seq (.reg [⟨(some 31), none, (.mov (.t 10))⟩, ⟨(some 32), none, (.mov (.t 11))⟩, ⟨(some 33), none, (.bin .lss (.t 31) (.t 32))⟩]) (.cond (.t 33) .skip (.exit 0))) (.block 1 (.seq (.reg [⟨(some 34), none, (.mov (.t 10))⟩, ⟨(some 35), none, (.mov (.t 11))⟩, ⟨(some 36), none, (.bin .add (.t 34) (.t 35))⟩, ⟨(some 37), none, (.cvi .u64 (.t 36))⟩, ⟨(some 38), none, (.bin .shr (.t 37) (.c (.int .u64 1)))⟩, ⟨(some 39), none, (.cvi .i64 (.t 38))⟩, ⟨(some 12), none, (.mov (.t 39))⟩]) (.seq (.dreg [⟨(some 40), none, (.mov (.t 4))⟩, ⟨(some 41), none, (.mov (.t 0))⟩, ⟨(some 42), none, (.mov (.t 12))⟩, ⟨(some 43), none, (.ixa (.t 41) (.t 42) 2)⟩, ⟨(some 44), none, (.load (some 2) (.t 43))⟩, ⟨(some 45), none, (.mov (.t 0))⟩, ⟨(some 46), none, (.mov (.t 1))⟩, ⟨(some 47), none, (.ixa (.t 45) (.t 46) 2)⟩, ⟨(some 48), none, (.load (some 2) (.t 47))⟩, ⟨(some 49), none, (.callv (.t 40) [(.t 44), (.t 48)])⟩, ⟨(some 50), none, (.bin .lss (.t 49) (.c (.int .i64 0)))⟩] [[], [], [], [1, 2], [3], [], [], [5, 6], [7], [0, 4, 8], [9]] [.no, .no, .no, .no, (.rw [(.par 0)] []), .no, .no, .no, (.rw [(.par 0)] []), .no, .no]) (.cond (.t 50) (.reg [⟨(some 51), none, (.mov (.t 12))⟩, ⟨(some 52), none, (.bin .add (.t 51) (.c (.int .i64 1)))⟩, ⟨(some 10), none, (.mov (.t 52))⟩]) (.reg [⟨(some 53), none, (.mov (.t 12))⟩, ⟨(some 11), none, (.mov (.t 53))⟩])))))))) (.seq (.seq (.reg [⟨(some 54), none, (.mov (.t 1))⟩, ⟨(some 13), none, (.mov (.t 54))⟩]) (.block 2 (.loop (.seq (.seq (.reg [⟨(some 55), none, (.mov (.t 13))⟩, ⟨(some 56), none, (.mov (.t 10))⟩, ⟨(some 57), none, (.bin .sub (.t 56) (.c (.int .i64 1)))⟩, ⟨(some 58), none, (.bin .lss (.t 55) (.t 57))⟩]) (.cond (.t 58) .skip (.exit 2))) (.seq (.block 3 (.dreg [⟨(some 61), none, (.mov (.t 0))⟩, ⟨(some 62), none, (.mov (.t 13))⟩, ⟨(some 63), none, (.mov (.t 0))⟩, ⟨(some 64), none, (.mov (.t 13))⟩, ⟨(some 65), none, (.bin .add (.t 64) (.c (.int .i64 1)))⟩, ⟨(some 66), none, (.mov (.t 0))⟩, ⟨(some 67), none, (.mov (.t 13))⟩, ⟨(some 68), none, (.bin .add (.t 67) (.c (.int .i64 1)))⟩, ⟨(some 69), none, (.ixa (.t 66) (.t 68) 2)⟩, ⟨(some 70), none, (.load (some 2) (.t 69))⟩, ⟨(some 71), none, (.mov (.t 0))⟩, ⟨(some 72), none, (.mov (.t 13))⟩, ⟨(some 73), none, (.ixa (.t 71) (.t 72) 2)⟩, ⟨(some 74), none, (.load (some 2) (.t 73))⟩, ⟨(some 75), none, (.ixa (.t 61) (.t 62) 2)⟩, ⟨none, none, (.store 2 (.t 75) (.t 70))⟩, ⟨(some 76), none, (.ixa (.t 63) (.t 65) 2)⟩, ⟨none, none, (.store 2 (.t 76) (.t 74))⟩] [[], [], [], [], [3], [], [], [6], [5, 7], [8], [], [], [10, 11], [12], [0, 1, 0, 1, 5, 6, 7, 8, 9, 13], [14, 9, 0, 1, 5, 6, 7, 8, 9, 13], [2, 4, 0, 1, 2, 3, 4, 5, 6, 7, 8, 9, 10, 11, 12, 13, 14, 15], [16, 13, 15, 0, 1, 2, 3, 4, 5, 6, 7, 8, 9, 10, 11, 12, 13, 14, 15]] [.no, .no, .no, .no, .no, .no, .no, .no, .no, (.rw [(.par 0)] []), .no, .no, .no, (.rw [(.par 0)] []), .no, (.rw [] [(.par 0)]), .no, (.rw [] [(.par 0)])])) (.reg [⟨(some 59), none, (.mov (.t 13))⟩, ⟨(some 60), none, (.bin .add (.t 59) (.c (.int .i64 1)))⟩, ⟨(some 13), none, (.mov (.t 60))⟩])))))) .ret)))) .skip)) (.seq (.seq (.reg [⟨(some 77), none, (.mov (.t 3))⟩, ⟨(some 78), none, (.mov (.t 2))⟩, ⟨(some 79), none, (.bin .sub (.t 77) (.t 78))⟩, ⟨(some 80), none, (.bin .eql (.t 79) (.c (.int .i64 1)))⟩]) (.cond (.t 80) (.seq (.reg [⟨(some 81), none, (.mov (.t 1))⟩, ⟨(some 14), none, (.mov (.t 81))⟩]) (.seq (.reg [⟨(some 82), none, (.mov (.t 2))⟩, ⟨(some 15), none, (.mov (.t 82))⟩]) (.seq (.block 4 (.loop (.seq (.seq (.reg [⟨(some 83), none, (.mov (.t 14))⟩, ⟨(some 84), none, (.mov (.t 15))⟩, ⟨(some 85), none, (.bin .lss (.t 83) (.t 84))⟩]) (.cond (.t 85) .skip (.exit 4))) (.block 5 (.seq (.reg [⟨(some 86), none, (.mov (.t 14))⟩, ⟨(some 87), none, (.mov (.t 15))⟩, ⟨(some 88), none, (.bin .add (.t 86) (.t 87))⟩, ⟨(some 89), none, (.cvi .u64 (.t 88))⟩, ⟨(some 90), none, (.bin .shr (.t 89) (.c (.int .u64 1)))⟩, ⟨(some 91), none, (.cvi .i64 (.t 90))⟩, ⟨(some 16), none, (.mov (.t 91))⟩]) (.seq (.dreg [⟨(some 92), none, (.mov (.t 4))⟩, ⟨(some 93), none, (.mov (.t 0))⟩, ⟨(some 94), none, (.mov (.t 2))⟩, ⟨(some 95), none, (.ixa (.t 93) (.t 94) 2)⟩, ⟨(some 96), none, (.load (some 2) (.t 95))⟩, ⟨(some 97), none, (.mov (.t 0))⟩, ⟨(some 98), none, (.mov (.t 16))⟩, ⟨(some 99), none, (.ixa (.t 97) (.t 98) 2)⟩, ⟨(some 100), none, (.load (some 2) (.t 99))⟩, ⟨(some 101), none, (.callv (.t 92) [(.t 96), (.t 100)])⟩, ⟨(some 102), none, (.bin .lss (.t 101) (.c (.int .i64 0)))⟩, ⟨(some 103), none, (.not (.t 102))⟩] [[], [], [], [1, 2], [3], [], [], [5, 6], [7], [0, 4, 8], [9], [10]] [.no, .no, .no, .no, (.rw [(.par 0)] []), .no, .no, .no, (.rw [(.par 0)] []), .no, .no, .no]) (.cond (.t 103) (.reg [⟨(some 104), none, (.mov (.t 16))⟩, ⟨(some 105), none, (.bin .add (.t 104) (.c (.int .i64 1)))⟩, ⟨(some 14), none, (.mov (.t 105))⟩]) (.reg [⟨(some 106), none, (.mov (.t 16))⟩, ⟨(some 15), none, (.mov (.t 106))⟩])))))))) (.seq (.seq (.reg [⟨(some 107), none, (.mov (.t 2))⟩, ⟨(some 17), none, (.mov (.t 107))⟩]) (.block 6 (.loop (.seq (.seq (.reg [⟨(some 108), none, (.mov (.t 17))⟩, ⟨(some 109), none, (.mov (.t 14))⟩, ⟨(some 110), none, (.bin .gtr (.t 108) (.t 109))⟩]) (.cond (.t 110) .skip (.exit 6))) (.seq (.block 7 (.dreg [⟨(some 113), none, (.mov (.t 0))⟩, ⟨(some 114), none, (.mov (.t 17))⟩, ⟨(some 115), none, (.mov (.t 0))⟩, ⟨(some 116), none, (.mov (.t 17))⟩, ⟨(some 117), none, (.bin .sub (.t 116) (.c (.int .i64 1)))⟩, ⟨(some 118), none, (.mov (.t 0))⟩, ⟨(some 119), none, (.mov (.t 17))⟩, ⟨(some 120), none, (.bin .sub (.t 119) (.c (.int .i64 1)))⟩, ⟨(some 121), none, (.ixa (.t 118) (.t 120) 2)⟩, ⟨(some 122), none, (.load (some 2) (.t 121))⟩, ⟨(some 123), none, (.mov (.t 0))⟩, ⟨(some 124), none, (.mov (.t 17))⟩, ⟨(some 125), none, (.ixa (.t 123) (.t 124) 2)⟩, ⟨(some 126), none, (.load (some 2) (.t 125))⟩, ⟨(some 127), none, (.ixa (.t 113) (.t 114) 2)⟩, ⟨none, none, (.store 2 (.t 127) (.t 122))⟩, ⟨(some 128), none, (.ixa (.t 115) (.t 117) 2)⟩, ⟨none, none, (.store 2 (.t 128) (.t 126))⟩] [[], [], [], [], [3], [], [], [6], [5, 7], [8], [], [], [10, 11], [12], [0, 1, 0, 1, 5, 6, 7, 8, 9, 13], [14, 9, 0, 1, 5, 6, 7, 8, 9, 13], [2, 4, 0, 1, 2, 3, 4, 5, 6, 7, 8, 9, 10, 11, 12, 13, 14, 15], [16, 13, 15, 0, 1, 2, 3, 4, 5, 6, 7, 8, 9, 10, 11, 12, 13, 14, 15]] [.no, .no, .no, .no, .no, .no, .no, .no, .no, (.rw [(.par 0)] []), .no, .no, .no, (.rw [(.par 0)] []), .no, (.rw [] [(.par 0)]), .no, (.rw [] [(.par 0)])])) (.reg [⟨(some 111), none, (.mov (.t 17))⟩, ⟨(some 112), none, (.bin .sub (.t 111) (.c (.int .i64 1)))⟩, ⟨(some 17), none, (.mov (.t 112))⟩])))))) .ret)))) .skip)) (.seq (.reg [⟨(some 129), none, (.mov (.t 1))⟩, ⟨(some 130), none, (.mov (.t 3))⟩, ⟨(some 131), none, (.bin .add (.t 129) (.t 130))⟩, ⟨(some 132), none, (.cvi .u64 (.t 131))⟩, ⟨(some 133), none, (.bin .shr (.t 132) (.c (.int .u64 1)))⟩, ⟨(some 134), none, (.cvi .i64 (.t 133))⟩, ⟨(some 18), none, (.mov (.t 134))⟩]) (.seq (.reg [⟨(some 135), none, (.mov (.t 18))⟩, ⟨(some 136), none, (.mov (.t 2))⟩, ⟨(some 137), none, (.bin .add (.t 135) (.t 136))⟩, ⟨(some 19), none, (.mov (.t 137))⟩]) (.seq (.reg [⟨(some 20), none, (.mov (.c (.int .i64 0)))⟩, ⟨(some 21), none, (.mov (.c (.int .i64 0)))⟩]) (.seq (.seq (.reg [⟨(some 138), none, (.mov (.t 2))⟩, ⟨(some 139), none, (.mov (.t 18))⟩, ⟨(some 140), none, (.bin .gtr (.t 138) (.t 139))⟩]) (.cond (.t 140) (.seq (.reg [⟨(some 141), none, (.mov (.t 19))⟩, ⟨(some 142), none, (.mov (.t 3))⟩, ⟨(some 143), none, (.bin .sub (.t 141) (.t 142))⟩, ⟨(some 20), none, (.mov (.t 143))⟩]) (.reg [⟨(some 144), none, (.mov (.t 18))⟩, ⟨(some 21), none, (.mov (.t 144))⟩])) (.seq (.reg [⟨(some 145), none, (.mov (.t 1))⟩, ⟨(some 20), none, (.mov (.t 145))⟩]) (.reg [⟨(some 146), none, (.mov (.t 2))⟩, ⟨(some 21), none, (.mov (.t 146))⟩])))) (.seq (.reg [⟨(some 147), none, (.mov (.t 19))⟩, ⟨(some 148), none, (.bin .sub (.t 147) (.c (.int .i64 1)))⟩, ⟨(some 22), none, (.mov (.t 148))⟩]) (.seq (.block 8 (.loop (.seq (.seq (.reg [⟨(some 149), none, (.mov (.t 20))⟩, ⟨(some 150), none, (.mov (.t 21))⟩, ⟨(some 151), none, (.bin .lss (.t 149) (.t 150))⟩]) (.cond (.t 151) .skip (.exit 8))) (.block 9 (.seq (.reg [⟨(some 152), none, (.mov (.t 20))⟩, ⟨(some 153), none, (.mov (.t 21))⟩, ⟨(some 154), none, (.bin .add (.t 152) (.t 153))⟩, ⟨(some 155), none, (.cvi .u64 (.t 154))⟩, ⟨(some 156), none, (.bin .shr (.t 155) (.c (.int .u64 1)))⟩, ⟨(some 157), none, (.cvi .i64 (.t 156))⟩, ⟨(some 23), none, (.mov (.t 157))⟩]) (.seq (.dreg [⟨(some 158), none, (.mov (.t 4))⟩, ⟨(some 159), none, (.mov (.t 0))⟩, ⟨(some 160), none, (.mov (.t 22))⟩, ⟨(some 161), none, (.mov (.t 23))⟩, ⟨(some 162), none, (.bin .sub (.t 160) (.t 161))⟩, ⟨(some 163), none, (.ixa (.t 159) (.t 162) 2)⟩, ⟨(some 164), none, (.load (some 2) (.t 163))⟩, ⟨(some 165), none, (.mov (.t 0))⟩, ⟨(some 166), none, (.mov (.t 23))⟩, ⟨(some 167), none, (.ixa (.t 165) (.t 166) 2)⟩, ⟨(some 168), none, (.load (some 2) (.t 167))⟩, ⟨(some 169), none, (.callv (.t 158) [(.t 164), (.t 168)])⟩, ⟨(some 170), none, (.bin .lss (.t 169) (.c (.int .i64 0)))⟩, ⟨(some 171), none, (.not (.t 170))⟩] [[], [], [], [], [2, 3], [1, 4], [5], [], [], [7, 8], [9], [0, 6, 10], [11], [12]] [.no, .no, .no, .no, .no, .no, (.rw [(.par 0)] []), .no, .no, .no, (.rw [(.par 0)] []), .no, .no, .no]) (.cond (.t 171) (.reg [⟨(some 172), none, (.mov (.t 23))⟩, ⟨(some 173), none, (.bin .add (.t 172) (.c (.int .i64 1)))⟩, ⟨(some 20), none, (.mov (.t 173))⟩]) (.reg [⟨(some 174), none, (.mov (.t 23))⟩, ⟨(some 21), none, (.mov (.t 174))⟩])))))))) (.seq (.reg [⟨(some 175), none, (.mov (.t 19))⟩, ⟨(some 176), none, (.mov (.t 20))⟩, ⟨(some 177), none, (.bin .sub (.t 175) (.t 176))⟩, ⟨(some 24), none, (.mov (.t 177))⟩]) (.seq (.seq (.reg [⟨(some 178), none, (.mov (.t 20))⟩, ⟨(some 179), none, (.mov (.t 2))⟩, ⟨(some 180), none, (.bin .lss (.t 178) (.t 179))⟩, ⟨(some 181), none, (.mov (.t 180))⟩, ⟨(some 182), (some (181, true)), (.mov (.t 2))⟩, ⟨(some 183), (some (181, true)), (.mov (.t 24))⟩, ⟨(some 184), (some (181, true)), (.bin .lss (.t 182) (.t 183))⟩, ⟨(some 185), none, (.pick (.t 181) (.t 184) (.c (.bool false)))⟩]) (.cond (.t 185) (.reg [⟨(some 186), none, (.mov (.t 0))⟩, ⟨(some 187), none, (.mov (.t 20))⟩, ⟨(some 188), none, (.mov (.t 2))⟩, ⟨(some 189), none, (.mov (.t 24))⟩, ⟨(some 190), none, (.mov (.t 4))⟩, ⟨(some 191), none, (.call f_slices_rotateCmpFunc_Attr [(.t 186), (.t 187), (.t 188), (.t 189), (.t 190)])⟩]) .skip)) (.seq (.seq (.reg [⟨(some 192), none, (.mov (.t 1))⟩, ⟨(some 193), none, (.mov (.t 20))⟩, ⟨(some 194), none, (.bin .lss (.t 192) (.t 193))⟩, ⟨(some 195), none, (.mov (.t 194))⟩, ⟨(some 196), (some (195, true)), (.mov (.t 20))⟩, ⟨(some 197), (some (195, true)), (.mov (.t 18))⟩, ⟨(some 198), (some (195, true)), (.bin .lss (.t 196) (.t 197))⟩, ⟨(some 199), none, (.pick (.t 195) (.t 198) (.c (.bool false)))⟩]) (.cond (.t 199) (.reg [⟨(some 200), none, (.mov (.t 0))⟩, ⟨(some 201), none, (.mov (.t 1))⟩, ⟨(some 202), none, (.mov (.t 20))⟩, ⟨(some 203), none, (.mov (.t 18))⟩, ⟨(some 204), none, (.mov (.t 4))⟩, ⟨(some 205), none, (.call f_slices_symMergeCmpFunc_Attr [(.t 200), (.t 201), (.t 202), (.t 203), (.t 204)])⟩]) .skip)) (.seq (.reg [⟨(some 206), none, (.mov (.t 18))⟩, ⟨(some 207), none, (.mov (.t 24))⟩, ⟨(some 208), none, (.bin .lss (.t 206) (.t 207))⟩, ⟨(some 209), none, (.mov (.t 208))⟩, ⟨(some 210), (some (209, true)), (.mov (.t 24))⟩, ⟨(some 211), (some (209, true)), (.mov (.t 3))⟩, ⟨(some 212), (some (209, true)), (.bin .lss (.t 210) (.t 211))⟩, ⟨(some 213), none, (.pick (.t 209) (.t 212) (.c (.bool false)))⟩]) (.cond (.t 213) (.reg [⟨(some 214), none, (.mov (.t 0))⟩, ⟨(some 215), none, (.mov (.t 18))⟩, ⟨(some 216), none, (.mov (.t 24))⟩, ⟨(some 217), none, (.mov (.t 3))⟩, ⟨(some 218), none, (.mov (.t 4))⟩, ⟨(some 219), none, (.call f_slices_symMergeCmpFunc_Attr [(.t 214), (.t 215), (.t 216), (.t 217), (.t 218)])⟩]) .skip)))))))))))))
set_option maxHeartbeats 2000000 in
theorem pSymMerge {f_slices_symMergeCmpFunc_Attr f_slices_rotateCmpFunc_Attr f_cmp : Nat} (hF : compF P G f_slices_symMergeCmpFunc_Attr = some (220, [], (c_slices_symMergeCmpFunc_Attr f_slices_rotateCmpFunc_Attr f_slices_symMergeCmpFunc_Attr).bare)) (hBd : goBody P f_cmp = true) (hC : ∀ a b : Attr, PureC P G f_cmp [a.avA, b.avA] (.int .i64 (cmpA a b)))
    (hR : ∀ (l : List Attr), l.length ≤ B → ∀ a m b : Nat, a < m → m < b → b ≤ l.length → RowC P G f_slices_rotateCmpFunc_Attr [.sl (.par 0) 2 0 l.length, .int .i64 a, .int .i64 m, .int .i64 b, .fn f_cmp [] []] 2 (ivA l) (PermR l)) :
    ∀ (k : Nat) (l : List Attr), l.length ≤ B → ∀ a m b : Nat, a < m → m < b → b ≤ l.length → b - a ≤ k → RowC P G f_slices_symMergeCmpFunc_Attr [.sl (.par 0) 2 0 l.length, .int .i64 a, .int .i64 m, .int .i64 b, .fn f_cmp [] []] 2 (ivA l) (PermR l) := by
  intro k
  induction k with
  | zero => intro l hl a m b h1 h2 h3 h4; omega
  | succ k ih =>
  intro l hl a m b ham hmb hb hk
  refine row_of_go hF (by simp) (by simp [lbss, AV.lbs]) ?_
  have hBv : B = 1073741824 := rfl
  have hbv : (2 : Nat) ^ 40 = 1099511627776 := by decide
  have hC' : ∀ x y : Attr, PureC P G f_cmp [.agg [.str x.name, .str x.val], .agg [.str y.name, .str y.val]] (.int .i64 (cmpA x y)) := hC
  have hw1 : IntKind.i64.wrap ((m : Int) - (a : Int)) = ((m - a : Nat) : Int) := by rw [wrap64 (by omega) (by omega)]; omega
  have hw2 : IntKind.i64.wrap ((b : Int) - (m : Int)) = ((b - m : Nat) : Int) := by rw [wrap64 (by omega) (by omega)]; omega
  unfold c_slices_symMergeCmpFunc_Attr
  simp only [↓aX, evp, evq, evl, boxK, stillV, binV, AV.cells, mP, loadV, storeV, ldV, AV.stb, AV.one, IV.av1, Lb.app, Lb.fresh, reduceCtorEq, ptrL, appL, fillA, chunks, ivs, AV.iv, mkE, if_false, if_true, List.not_mem_nil, forall_eq, beq_self_eq_true, List.isEmpty_nil, Nat.reduceEqDiff, Nat.reduceLT, Nat.reduceLeDiff, Nat.reduceAdd, Nat.reduceMul, Int.reduceToNat, Int.reduceLE, Int.reduceLT, rowX, hw1]
  by_cases hma : m - a = 1
  · rw [show (((m - a : Nat) : Int) == 1) = true by simp [hma]]
    simp only [↓aX, evp, evq, evl, boxK, stillV, binV, AV.cells, mP, loadV, storeV, ldV, AV.stb, AV.one, IV.av1, Lb.app, Lb.fresh, reduceCtorEq, ptrL, appL, fillA, chunks, ivs, AV.iv, mkE, if_false, if_true, List.not_mem_nil, forall_eq, beq_self_eq_true, List.isEmpty_nil, Nat.reduceEqDiff, Nat.reduceLT, Nat.reduceLeDiff, Nat.reduceAdd, Nat.reduceMul, Int.reduceToNat, Int.reduceLE, Int.reduceLT]
    refine loop_same (σ := { q : Nat × Nat // m ≤ q.1 ∧ q.1 ≤ q.2 ∧ q.2 ≤ b }) [.par 0] (fun q => [(0, .sl (.par 0) 2 0 l.length), (1, .int .i64 a), (2, .int .i64 m), (3, .int .i64 b), (4, .fn f_cmp [] []), (10, .int .i64 q.1.1), (11, .int .i64 q.1.2)]) (fun _ => [(.par 0, ⟨2, immE (ivA l)⟩)]) (fun q => q.1.2 - q.1.1)
      ⟨(m, b), Nat.le_refl _, by simp only; omega, Nat.le_refl _⟩ (fun _ => rfl) (by decide) (by simp [lbss, AV.lbs]) ?_ ?_ ?_
    · intro q w hw cs hcs z hz
      simp only [List.mem_singleton] at hw; subst hw
      rw [lbss_immE hcs] at hz; simp at hz
    · refine WS_mk ?_ (by repeat' constructor) (by repeat' constructor)
      intro z hz hu
      by_cases e : z = .par 0
      · subst e; simp
      · exfalso; apply hu; simp [upd_at, e, Hp.none]
    · rintro ⟨⟨i, j⟩, hi, hij, hj⟩
      simp only at hi hij hj
      simp only [↓aX, evp, evq, evl, boxK, stillV, binV, AV.cells, mP, loadV, storeV, ldV, AV.stb, AV.one, IV.av1, Lb.app, Lb.fresh, reduceCtorEq, ptrL, appL, fillA, chunks, ivs, AV.iv, mkE, if_false, if_true, List.not_mem_nil, forall_eq, beq_self_eq_true, List.isEmpty_nil, Nat.reduceEqDiff, Nat.reduceLT, Nat.reduceLeDiff, Nat.reduceAdd, Nat.reduceMul, Int.reduceToNat, Int.reduceLE, Int.reduceLT, ofH_nil, ofH_cons]
      by_cases hlt : i < j
      · rw [show decide (((i : Nat) : Int) < ((j : Nat) : Int)) = true by simpa using hlt]
        obtain ⟨h, hh⟩ : ∃ h, h = (i + j) / 2 := ⟨_, rfl⟩
        have hhv := half64 (x := i) (y := j) (by omega)
        rw [← hh] at hhv
        obtain ⟨x, hx⟩ : ∃ x, l[h]? = some x := ⟨_, List.getElem?_eq_getElem (by omega)⟩
        obtain ⟨y, hy⟩ : ∃ y, l[a]? = some y := ⟨_, List.getElem?_eq_getElem (by omega)⟩
        have hwh : IntKind.i64.wrap ((h : Int) + 1) = ((h + 1 : Nat) : Int) := wrap64 (by omega) (by omega)
        simp only [↓aX, evp, evq, evl, boxK, stillV, binV, AV.cells, mP, loadV, storeV, ldV, AV.stb, AV.one, IV.av1, Lb.app, Lb.fresh, reduceCtorEq, ptrL, appL, fillA, chunks, ivs, AV.iv, mkE, if_false, if_true, List.not_mem_nil, forall_eq, beq_self_eq_true, List.isEmpty_nil, Nat.reduceEqDiff, Nat.reduceLT, Nat.reduceLeDiff, Nat.reduceAdd, Nat.reduceMul, Int.reduceToNat, Int.reduceLE, Int.reduceLT]
        refine ⟨by decide +kernel, ?_⟩
        simp only [↓aX, evp, evq, evl, boxK, stillV, binV, AV.cells, mP, loadV, storeV, ldV, AV.stb, AV.one, IV.av1, Lb.app, Lb.fresh, reduceCtorEq, ptrL, appL, fillA, chunks, ivs, AV.iv, mkE, if_false, if_true, List.not_mem_nil, forall_eq, beq_self_eq_true, List.isEmpty_nil, Nat.reduceEqDiff, Nat.reduceLT, Nat.reduceLeDiff, Nat.reduceAdd, Nat.reduceMul, Int.reduceToNat, Int.reduceLE, Int.reduceLT, hhv, Int.natCast_nonneg, Int.toNat_natCast, Nat.zero_add, getA hx, getA hy, show h < l.length by omega, show a < l.length by omega, af_callv, pvK_fn]
        refine ⟨hBd, puK_in (hC' x y) ?_⟩
        simp only [↓aX, evp, evq, evl, boxK, stillV, binV, AV.cells, mP, loadV, storeV, ldV, AV.stb, AV.one, IV.av1, Lb.app, Lb.fresh, reduceCtorEq, ptrL, appL, fillA, chunks, ivs, AV.iv, mkE, if_false, if_true, List.not_mem_nil, forall_eq, beq_self_eq_true, List.isEmpty_nil, Nat.reduceEqDiff, Nat.reduceLT, Nat.reduceLeDiff, Nat.reduceAdd, Nat.reduceMul, Int.reduceToNat, Int.reduceLE, Int.reduceLT]
        cases hcmp : decide (cmpA x y < 0) with
        | true =>
          simp only [↓aX, evp, evq, evl, boxK, stillV, binV, AV.cells, mP, loadV, storeV, ldV, AV.stb, AV.one, IV.av1, Lb.app, Lb.fresh, reduceCtorEq, ptrL, appL, fillA, chunks, ivs, AV.iv, mkE, if_false, if_true, List.not_mem_nil, forall_eq, beq_self_eq_true, List.isEmpty_nil, Nat.reduceEqDiff, Nat.reduceLT, Nat.reduceLeDiff, Nat.reduceAdd, Nat.reduceMul, Int.reduceToNat, Int.reduceLE, Int.reduceLT, hhv, hwh]
          exact ⟨⟨(h + 1, j), by simp only; omega, by simp only; omega, by simp only; omega⟩, by simp only; omega, by
            refine WS_mk ?_ (by repeat' constructor) (by repeat' constructor)
            intro z hz hu
            by_cases e : z = .par 0
            · subst e; simp
            · exfalso; apply hu; simp [upd_at, e, Hp.none]⟩
        | false =>
          simp only [↓aX, evp, evq, evl, boxK, stillV, binV, AV.cells, mP, loadV, storeV, ldV, AV.stb, AV.one, IV.av1, Lb.app, Lb.fresh, reduceCtorEq, ptrL, appL, fillA, chunks, ivs, AV.iv, mkE, if_false, if_true, List.not_mem_nil, forall_eq, beq_self_eq_true, List.isEmpty_nil, Nat.reduceEqDiff, Nat.reduceLT, Nat.reduceLeDiff, Nat.reduceAdd, Nat.reduceMul, Int.reduceToNat, Int.reduceLE, Int.reduceLT, hhv, hwh]
          exact ⟨⟨(i, h), by simp only; omega, by simp only; omega, by simp only; omega⟩, by simp only; omega, by
            refine WS_mk ?_ (by repeat' constructor) (by repeat' constructor)
            intro z hz hu
            by_cases e : z = .par 0
            · subst e; simp
            · exfalso; apply hu; simp [upd_at, e, Hp.none]⟩
      · rw [show decide (((i : Nat) : Int) < ((j : Nat) : Int)) = false by simpa using hlt]
        have hwi1 : IntKind.i64.wrap ((i : Int) - 1) = ((i - 1 : Nat) : Int) := by rw [wrap64 (by omega) (by omega)]; omega
        simp only [↓aX, evp, evq, evl, boxK, stillV, binV, AV.cells, mP, loadV, storeV, ldV, AV.stb, AV.one, IV.av1, Lb.app, Lb.fresh, reduceCtorEq, ptrL, appL, fillA, chunks, ivs, AV.iv, mkE, if_false, if_true, List.not_mem_nil, forall_eq, beq_self_eq_true, List.isEmpty_nil, Nat.reduceEqDiff, Nat.reduceLT, Nat.reduceLeDiff, Nat.reduceAdd, Nat.reduceMul, Int.reduceToNat, Int.reduceLE, Int.reduceLT, hwi1]
        refine loop_same (σ := { q : Nat × List Attr // a ≤ q.1 ∧ q.1 ≤ i - 1 ∧ q.2.Perm l }) [.par 0] (fun q => [(0, .sl (.par 0) 2 0 l.length), (10, .int .i64 i), (13, .int .i64 q.1.1)]) (fun q => [(.par 0, ⟨2, immE (ivA q.1.2)⟩)]) (fun q => i - q.1.1)
          ⟨(a, l), Nat.le_refl _, by simp only; omega, .refl _⟩ (fun _ => rfl) (by decide) (by simp [lbss, AV.lbs]) ?_ ?_ ?_
        · intro q w hw cs hcs z hz
          simp only [List.mem_singleton] at hw; subst hw
          rw [lbss_immE hcs] at hz; simp at hz
        · refine WS_mk ?_ (by repeat' constructor) (by repeat' constructor)
          intro z hz hu
          by_cases e : z = .par 0
          · subst e; simp
          · exfalso; apply hu; simp [upd_at, e, Hp.none]
        · rintro ⟨⟨p, M⟩, hp1, hp2, hM⟩
          simp only at hp1 hp2 hM
          have hMl : M.length = l.length := hM.length_eq
          simp only [↓aX, evp, evq, evl, boxK, stillV, binV, AV.cells, mP, loadV, storeV, ldV, AV.stb, AV.one, IV.av1, Lb.app, Lb.fresh, reduceCtorEq, ptrL, appL, fillA, chunks, ivs, AV.iv, mkE, if_false, if_true, List.not_mem_nil, forall_eq, beq_self_eq_true, List.isEmpty_nil, Nat.reduceEqDiff, Nat.reduceLT, Nat.reduceLeDiff, Nat.reduceAdd, Nat.reduceMul, Int.reduceToNat, Int.reduceLE, Int.reduceLT, ofH_nil, ofH_cons, hwi1]
          by_cases hlt2 : p < i - 1
          · rw [show decide (((p : Nat) : Int) < ((i - 1 : Nat) : Int)) = true by rw [decide_eq_true_eq]; omega]
            have hw : IntKind.i64.wrap ((p : Int) + 1) = ((p + 1 : Nat) : Int) := wrap64 (by omega) (by omega)
            obtain ⟨x, hx⟩ : ∃ x, M[p]? = some x := ⟨_, List.getElem?_eq_getElem (by omega)⟩
            obtain ⟨y, hy⟩ : ∃ y, M[p + 1]? = some y := ⟨_, List.getElem?_eq_getElem (by omega)⟩
            simp only [↓aX, evp, evq, evl, boxK, stillV, binV, AV.cells, mP, loadV, storeV, ldV, AV.stb, AV.one, IV.av1, Lb.app, Lb.fresh, reduceCtorEq, ptrL, appL, fillA, chunks, ivs, AV.iv, mkE, if_false, if_true, List.not_mem_nil, forall_eq, beq_self_eq_true, List.isEmpty_nil, Nat.reduceEqDiff, Nat.reduceLT, Nat.reduceLeDiff, Nat.reduceAdd, Nat.reduceMul, Int.reduceToNat, Int.reduceLE, Int.reduceLT]
            refine ⟨by decide +kernel, ?_⟩
            simp only [↓aX, evp, evq, evl, boxK, stillV, binV, AV.cells, mP, loadV, storeV, ldV, AV.stb, AV.one, IV.av1, Lb.app, Lb.fresh, reduceCtorEq, ptrL, appL, fillA, chunks, ivs, AV.iv, mkE, if_false, if_true, List.not_mem_nil, forall_eq, beq_self_eq_true, List.isEmpty_nil, Nat.reduceEqDiff, Nat.reduceLT, Nat.reduceLeDiff, Nat.reduceAdd, Nat.reduceMul, Int.reduceToNat, Int.reduceLE, Int.reduceLT, hw, Int.natCast_nonneg, Int.toNat_natCast, Nat.zero_add, getA hx, getA hy, show p < l.length by omega, show p + 1 < l.length by omega, ptrL]
            rw [setA2 M p y]
            obtain ⟨y2, hy2⟩ : ∃ y2, (M.set p y)[p + 1]? = some y2 := ⟨_, List.getElem?_eq_getElem (by rw [List.length_set]; omega)⟩
            simp only [↓aX, evp, evq, evl, boxK, stillV, binV, AV.cells, mP, loadV, storeV, ldV, AV.stb, AV.one, IV.av1, Lb.app, Lb.fresh, reduceCtorEq, ptrL, appL, fillA, chunks, ivs, AV.iv, mkE, if_false, if_true, List.not_mem_nil, forall_eq, beq_self_eq_true, List.isEmpty_nil, Nat.reduceEqDiff, Nat.reduceLT, Nat.reduceLeDiff, Nat.reduceAdd, Nat.reduceMul, Int.reduceToNat, Int.reduceLE, Int.reduceLT, getA hy2, hw]
            exact ⟨⟨(p + 1, (M.set p y).set (p + 1) x), by simp only; omega, by simp only; omega, (swap_perm hx hy).trans hM⟩, by simp only; omega, by
              refine WS_mk ?_ (by repeat' constructor) ⟨by simp only [upd_at, if_true]; rw [setA2], trivial⟩
              intro z hz hu
              by_cases e : z = .par 0
              · subst e; simp
              · exfalso; apply hu; simp [upd_at, e, Hp.none]⟩
          · rw [show decide (((p : Nat) : Int) < ((i - 1 : Nat) : Int)) = false by rw [decide_eq_false_iff_not]; omega]
            simp only [↓aX, evp, evq, evl, boxK, stillV, binV, AV.cells, mP, loadV, storeV, ldV, AV.stb, AV.one, IV.av1, Lb.app, Lb.fresh, reduceCtorEq, ptrL, appL, fillA, chunks, ivs, AV.iv, mkE, if_false, if_true, List.not_mem_nil, forall_eq, beq_self_eq_true, List.isEmpty_nil, Nat.reduceEqDiff, Nat.reduceLT, Nat.reduceLeDiff, Nat.reduceAdd, Nat.reduceMul, Int.reduceToNat, Int.reduceLE, Int.reduceLT, ret_r, resVs, oneV]
            exact ⟨_, rfl, ivA M, ⟨M, rfl, hM⟩, by simp [AV.lbs, lbss], by rw [ivA_len, ivA_len, hMl], by simp [upd_at]⟩
  · rw [show (((m - a : Nat) : Int) == 1) = false by rw [beq_eq_false_iff_ne]; omega]
    simp only [↓aX, evp, evq, evl, boxK, stillV, binV, AV.cells, mP, loadV, storeV, ldV, AV.stb, AV.one, IV.av1, Lb.app, Lb.fresh, reduceCtorEq, ptrL, appL, fillA, chunks, ivs, AV.iv, mkE, if_false, if_true, List.not_mem_nil, forall_eq, beq_self_eq_true, List.isEmpty_nil, Nat.reduceEqDiff, Nat.reduceLT, Nat.reduceLeDiff, Nat.reduceAdd, Nat.reduceMul, Int.reduceToNat, Int.reduceLE, Int.reduceLT, hw2]
    by_cases hbm : b - m = 1
    · rw [show (((b - m : Nat) : Int) == 1) = true by simp [hbm]]
      simp only [↓aX, evp, evq, evl, boxK, stillV, binV, AV.cells, mP, loadV, storeV, ldV, AV.stb, AV.one, IV.av1, Lb.app, Lb.fresh, reduceCtorEq, ptrL, appL, fillA, chunks, ivs, AV.iv, mkE, if_false, if_true, List.not_mem_nil, forall_eq, beq_self_eq_true, List.isEmpty_nil, Nat.reduceEqDiff, Nat.reduceLT, Nat.reduceLeDiff, Nat.reduceAdd, Nat.reduceMul, Int.reduceToNat, Int.reduceLE, Int.reduceLT]
      refine loop_same (σ := { q : Nat × Nat // a ≤ q.1 ∧ q.1 ≤ q.2 ∧ q.2 ≤ m }) [.par 0] (fun q => [(0, .sl (.par 0) 2 0 l.length), (1, .int .i64 a), (2, .int .i64 m), (3, .int .i64 b), (4, .fn f_cmp [] []), (14, .int .i64 q.1.1), (15, .int .i64 q.1.2)]) (fun _ => [(.par 0, ⟨2, immE (ivA l)⟩)]) (fun q => q.1.2 - q.1.1)
        ⟨(a, m), Nat.le_refl _, by simp only; omega, Nat.le_refl _⟩ (fun _ => rfl) (by decide) (by simp [lbss, AV.lbs]) ?_ ?_ ?_
      · intro q w hw cs hcs z hz
        simp only [List.mem_singleton] at hw; subst hw
        rw [lbss_immE hcs] at hz; simp at hz
      · refine WS_mk ?_ (by repeat' constructor) (by repeat' constructor)
        intro z hz hu
        by_cases e : z = .par 0
        · subst e; simp
        · exfalso; apply hu; simp [upd_at, e, Hp.none]
      · rintro ⟨⟨i, j⟩, hi, hij, hj⟩
        simp only at hi hij hj
        simp only [↓aX, evp, evq, evl, boxK, stillV, binV, AV.cells, mP, loadV, storeV, ldV, AV.stb, AV.one, IV.av1, Lb.app, Lb.fresh, reduceCtorEq, ptrL, appL, fillA, chunks, ivs, AV.iv, mkE, if_false, if_true, List.not_mem_nil, forall_eq, beq_self_eq_true, List.isEmpty_nil, Nat.reduceEqDiff, Nat.reduceLT, Nat.reduceLeDiff, Nat.reduceAdd, Nat.reduceMul, Int.reduceToNat, Int.reduceLE, Int.reduceLT, ofH_nil, ofH_cons]
        by_cases hlt : i < j
        · rw [show decide (((i : Nat) : Int) < ((j : Nat) : Int)) = true by simpa using hlt]
          obtain ⟨h, hh⟩ : ∃ h, h = (i + j) / 2 := ⟨_, rfl⟩
          have hhv := half64 (x := i) (y := j) (by omega)
          rw [← hh] at hhv
          obtain ⟨x, hx⟩ : ∃ x, l[m]? = some x := ⟨_, List.getElem?_eq_getElem (by omega)⟩
          obtain ⟨y, hy⟩ : ∃ y, l[h]? = some y := ⟨_, List.getElem?_eq_getElem (by omega)⟩
          have hwh : IntKind.i64.wrap ((h : Int) + 1) = ((h + 1 : Nat) : Int) := wrap64 (by omega) (by omega)
          simp only [↓aX, evp, evq, evl, boxK, stillV, binV, AV.cells, mP, loadV, storeV, ldV, AV.stb, AV.one, IV.av1, Lb.app, Lb.fresh, reduceCtorEq, ptrL, appL, fillA, chunks, ivs, AV.iv, mkE, if_false, if_true, List.not_mem_nil, forall_eq, beq_self_eq_true, List.isEmpty_nil, Nat.reduceEqDiff, Nat.reduceLT, Nat.reduceLeDiff, Nat.reduceAdd, Nat.reduceMul, Int.reduceToNat, Int.reduceLE, Int.reduceLT]
          refine ⟨by decide +kernel, ?_⟩
          simp only [↓aX, evp, evq, evl, boxK, stillV, binV, AV.cells, mP, loadV, storeV, ldV, AV.stb, AV.one, IV.av1, Lb.app, Lb.fresh, reduceCtorEq, ptrL, appL, fillA, chunks, ivs, AV.iv, mkE, if_false, if_true, List.not_mem_nil, forall_eq, beq_self_eq_true, List.isEmpty_nil, Nat.reduceEqDiff, Nat.reduceLT, Nat.reduceLeDiff, Nat.reduceAdd, Nat.reduceMul, Int.reduceToNat, Int.reduceLE, Int.reduceLT, hhv, Int.natCast_nonneg, Int.toNat_natCast, Nat.zero_add, getA hx, getA hy, show m < l.length by omega, show h < l.length by omega, af_callv, pvK_fn]
          refine ⟨hBd, puK_in (hC' x y) ?_⟩
          simp only [↓aX, evp, evq, evl, boxK, stillV, binV, AV.cells, mP, loadV, storeV, ldV, AV.stb, AV.one, IV.av1, Lb.app, Lb.fresh, reduceCtorEq, ptrL, appL, fillA, chunks, ivs, AV.iv, mkE, if_false, if_true, List.not_mem_nil, forall_eq, beq_self_eq_true, List.isEmpty_nil, Nat.reduceEqDiff, Nat.reduceLT, Nat.reduceLeDiff, Nat.reduceAdd, Nat.reduceMul, Int.reduceToNat, Int.reduceLE, Int.reduceLT]
          cases hcmp : decide (cmpA x y < 0) with
          | true =>
            simp only [↓aX, evp, evq, evl, boxK, stillV, binV, AV.cells, mP, loadV, storeV, ldV, AV.stb, AV.one, IV.av1, Lb.app, Lb.fresh, reduceCtorEq, ptrL, appL, fillA, chunks, ivs, AV.iv, mkE, if_false, if_true, List.not_mem_nil, forall_eq, beq_self_eq_true, List.isEmpty_nil, Nat.reduceEqDiff, Nat.reduceLT, Nat.reduceLeDiff, Nat.reduceAdd, Nat.reduceMul, Int.reduceToNat, Int.reduceLE, Int.reduceLT, Bool.not_true, hhv, hwh]
            exact ⟨⟨(i, h), by simp only; omega, by simp only; omega, by simp only; omega⟩, by simp only; omega, by
              refine WS_mk ?_ (by repeat' constructor) (by repeat' constructor)
              intro z hz hu
              by_cases e : z = .par 0
              · subst e; simp
              · exfalso; apply hu; simp [upd_at, e, Hp.none]⟩
          | false =>
            simp only [↓aX, evp, evq, evl, boxK, stillV, binV, AV.cells, mP, loadV, storeV, ldV, AV.stb, AV.one, IV.av1, Lb.app, Lb.fresh, reduceCtorEq, ptrL, appL, fillA, chunks, ivs, AV.iv, mkE, if_false, if_true, List.not_mem_nil, forall_eq, beq_self_eq_true, List.isEmpty_nil, Nat.reduceEqDiff, Nat.reduceLT, Nat.reduceLeDiff, Nat.reduceAdd, Nat.reduceMul, Int.reduceToNat, Int.reduceLE, Int.reduceLT, Bool.not_false, hhv, hwh]
            exact ⟨⟨(h + 1, j), by simp only; omega, by simp only; omega, by simp only; omega⟩, by simp only; omega, by
              refine WS_mk ?_ (by repeat' constructor) (by repeat' constructor)
              intro z hz hu
              by_cases e : z = .par 0
              · subst e; simp
              · exfalso; apply hu; simp [upd_at, e, Hp.none]⟩
        · rw [show decide (((i : Nat) : Int) < ((j : Nat) : Int)) = false by simpa using hlt]
          simp only [↓aX, evp, evq, evl, boxK, stillV, binV, AV.cells, mP, loadV, storeV, ldV, AV.stb, AV.one, IV.av1, Lb.app, Lb.fresh, reduceCtorEq, ptrL, appL, fillA, chunks, ivs, AV.iv, mkE, if_false, if_true, List.not_mem_nil, forall_eq, beq_self_eq_true, List.isEmpty_nil, Nat.reduceEqDiff, Nat.reduceLT, Nat.reduceLeDiff, Nat.reduceAdd, Nat.reduceMul, Int.reduceToNat, Int.reduceLE, Int.reduceLT]
          refine loop_same (σ := { q : Nat × List Attr // i ≤ q.1 ∧ q.1 ≤ m ∧ q.2.Perm l }) [.par 0] (fun q => [(0, .sl (.par 0) 2 0 l.length), (14, .int .i64 i), (17, .int .i64 q.1.1)]) (fun q => [(.par 0, ⟨2, immE (ivA q.1.2)⟩)]) (fun q => q.1.1)
            ⟨(m, l), by simp only; omega, Nat.le_refl _, .refl _⟩ (fun _ => rfl) (by decide) (by simp [lbss, AV.lbs]) ?_ ?_ ?_
          · intro q w hw cs hcs z hz
            simp only [List.mem_singleton] at hw; subst hw
            rw [lbss_immE hcs] at hz; simp at hz
          · refine WS_mk ?_ (by repeat' constructor) (by repeat' constructor)
            intro z hz hu
            by_cases e : z = .par 0
            · subst e; simp
            · exfalso; apply hu; simp [upd_at, e, Hp.none]
          · rintro ⟨⟨p, M⟩, hp1, hp2, hM⟩
            simp only at hp1 hp2 hM
            have hMl : M.length = l.length := hM.length_eq
            simp only [↓aX, evp, evq, evl, boxK, stillV, binV, AV.cells, mP, loadV, storeV, ldV, AV.stb, AV.one, IV.av1, Lb.app, Lb.fresh, reduceCtorEq, ptrL, appL, fillA, chunks, ivs, AV.iv, mkE, if_false, if_true, List.not_mem_nil, forall_eq, beq_self_eq_true, List.isEmpty_nil, Nat.reduceEqDiff, Nat.reduceLT, Nat.reduceLeDiff, Nat.reduceAdd, Nat.reduceMul, Int.reduceToNat, Int.reduceLE, Int.reduceLT, ofH_nil, ofH_cons]
            by_cases hlt2 : i < p
            · rw [show decide (((p : Nat) : Int) > ((i : Nat) : Int)) = true by simpa using hlt2]
              have hw : IntKind.i64.wrap ((p : Int) - 1) = ((p - 1 : Nat) : Int) := by rw [wrap64 (by omega) (by omega)]; omega
              obtain ⟨x, hx⟩ : ∃ x, M[p]? = some x := ⟨_, List.getElem?_eq_getElem (by omega)⟩
              obtain ⟨y, hy⟩ : ∃ y, M[p - 1]? = some y := ⟨_, List.getElem?_eq_getElem (by omega)⟩
              simp only [↓aX, evp, evq, evl, boxK, stillV, binV, AV.cells, mP, loadV, storeV, ldV, AV.stb, AV.one, IV.av1, Lb.app, Lb.fresh, reduceCtorEq, ptrL, appL, fillA, chunks, ivs, AV.iv, mkE, if_false, if_true, List.not_mem_nil, forall_eq, beq_self_eq_true, List.isEmpty_nil, Nat.reduceEqDiff, Nat.reduceLT, Nat.reduceLeDiff, Nat.reduceAdd, Nat.reduceMul, Int.reduceToNat, Int.reduceLE, Int.reduceLT]
              refine ⟨by decide +kernel, ?_⟩
              simp only [↓aX, evp, evq, evl, boxK, stillV, binV, AV.cells, mP, loadV, storeV, ldV, AV.stb, AV.one, IV.av1, Lb.app, Lb.fresh, reduceCtorEq, ptrL, appL, fillA, chunks, ivs, AV.iv, mkE, if_false, if_true, List.not_mem_nil, forall_eq, beq_self_eq_true, List.isEmpty_nil, Nat.reduceEqDiff, Nat.reduceLT, Nat.reduceLeDiff, Nat.reduceAdd, Nat.reduceMul, Int.reduceToNat, Int.reduceLE, Int.reduceLT, hw, Int.natCast_nonneg, Int.toNat_natCast, Nat.zero_add, getA hx, getA hy, show p < l.length by omega, show p - 1 < l.length by omega, ptrL]
              rw [setA2 M p y]
              obtain ⟨y2, hy2⟩ : ∃ y2, (M.set p y)[p - 1]? = some y2 := ⟨_, List.getElem?_eq_getElem (by rw [List.length_set]; omega)⟩
              simp only [↓aX, evp, evq, evl, boxK, stillV, binV, AV.cells, mP, loadV, storeV, ldV, AV.stb, AV.one, IV.av1, Lb.app, Lb.fresh, reduceCtorEq, ptrL, appL, fillA, chunks, ivs, AV.iv, mkE, if_false, if_true, List.not_mem_nil, forall_eq, beq_self_eq_true, List.isEmpty_nil, Nat.reduceEqDiff, Nat.reduceLT, Nat.reduceLeDiff, Nat.reduceAdd, Nat.reduceMul, Int.reduceToNat, Int.reduceLE, Int.reduceLT, getA hy2, hw]
              exact ⟨⟨(p - 1, (M.set p y).set (p - 1) x), by simp only; omega, by simp only; omega, (swap_perm hx hy).trans hM⟩, by simp only; omega, by
                refine WS_mk ?_ (by repeat' constructor) ⟨by simp only [upd_at, if_true]; rw [setA2], trivial⟩
                intro z hz hu
                by_cases e : z = .par 0
                · subst e; simp
                · exfalso; apply hu; simp [upd_at, e, Hp.none]⟩
            · rw [show decide (((p : Nat) : Int) > ((i : Nat) : Int)) = false by simpa using hlt2]
              simp only [↓aX, evp, evq, evl, boxK, stillV, binV, AV.cells, mP, loadV, storeV, ldV, AV.stb, AV.one, IV.av1, Lb.app, Lb.fresh, reduceCtorEq, ptrL, appL, fillA, chunks, ivs, AV.iv, mkE, if_false, if_true, List.not_mem_nil, forall_eq, beq_self_eq_true, List.isEmpty_nil, Nat.reduceEqDiff, Nat.reduceLT, Nat.reduceLeDiff, Nat.reduceAdd, Nat.reduceMul, Int.reduceToNat, Int.reduceLE, Int.reduceLT, ret_r, resVs, oneV]
              exact ⟨_, rfl, ivA M, ⟨M, rfl, hM⟩, by simp [AV.lbs, lbss], by rw [ivA_len, ivA_len, hMl], by simp [upd_at]⟩
    · rw [show (((b - m : Nat) : Int) == 1) = false by rw [beq_eq_false_iff_ne]; omega]
      obtain ⟨mid, hmid⟩ : ∃ mid, mid = (a + b) / 2 := ⟨_, rfl⟩
      have hhv0 := half64 (x := a) (y := b) (by omega)
      rw [← hmid] at hhv0
      have hwn : IntKind.i64.wrap ((mid : Int) + (m : Int)) = ((mid + m : Nat) : Int) := wrap64 (by omega) (by omega)
      have hwp : IntKind.i64.wrap (((mid + m : Nat) : Int) - 1) = ((mid + m - 1 : Nat) : Int) := by rw [wrap64 (by omega) (by omega)]; omega
      simp only [↓aX, evp, evq, evl, boxK, stillV, binV, AV.cells, mP, loadV, storeV, ldV, AV.stb, AV.one, IV.av1, Lb.app, Lb.fresh, reduceCtorEq, ptrL, appL, fillA, chunks, ivs, AV.iv, mkE, if_false, if_true, List.not_mem_nil, forall_eq, beq_self_eq_true, List.isEmpty_nil, Nat.reduceEqDiff, Nat.reduceLT, Nat.reduceLeDiff, Nat.reduceAdd, Nat.reduceMul, Int.reduceToNat, Int.reduceLE, Int.reduceLT, hhv0, hwn]
      by_cases hgt : mid < m
      · obtain ⟨lo, hlo⟩ : ∃ lo, lo = mid + m - b := ⟨_, rfl⟩
        have hwl : IntKind.i64.wrap (((mid + m : Nat) : Int) - (b : Int)) = ((lo : Nat) : Int) := by rw [wrap64 (by omega) (by omega)]; omega
        rw [show decide (((m : Nat) : Int) > ((mid : Nat) : Int)) = true by simpa using hgt]
        simp only [↓aX, evp, evq, evl, boxK, stillV, binV, AV.cells, mP, loadV, storeV, ldV, AV.stb, AV.one, IV.av1, Lb.app, Lb.fresh, reduceCtorEq, ptrL, appL, fillA, chunks, ivs, AV.iv, mkE, if_false, if_true, List.not_mem_nil, forall_eq, beq_self_eq_true, List.isEmpty_nil, Nat.reduceEqDiff, Nat.reduceLT, Nat.reduceLeDiff, Nat.reduceAdd, Nat.reduceMul, Int.reduceToNat, Int.reduceLE, Int.reduceLT, hwl, hwp]
        refine loop_same (σ := { q : Nat × Nat // lo ≤ q.1 ∧ q.1 ≤ q.2 ∧ q.2 ≤ mid }) [.par 0] (fun q => [(0, .sl (.par 0) 2 0 l.length), (1, .int .i64 a), (2, .int .i64 m), (3, .int .i64 b), (4, .fn f_cmp [] []), (20, .int .i64 q.1.1), (21, .int .i64 q.1.2), (18, .int .i64 mid), (19, .int .i64 ((mid + m : Nat) : Int)), (22, .int .i64 ((mid + m - 1 : Nat) : Int))]) (fun _ => [(.par 0, ⟨2, immE (ivA l)⟩)]) (fun q => q.1.2 - q.1.1)
          ⟨(lo, mid), Nat.le_refl _, by simp only; omega, Nat.le_refl _⟩ (fun _ => rfl) (by decide) (by simp [lbss, AV.lbs]) ?_ ?_ ?_
        · intro q w hw cs hcs z hz
          simp only [List.mem_singleton] at hw; subst hw
          rw [lbss_immE hcs] at hz; simp at hz
        · refine WS_mk ?_ (by repeat' constructor) (by repeat' constructor)
          intro z hz hu
          by_cases e : z = .par 0
          · subst e; simp
          · exfalso; apply hu; simp [upd_at, e, Hp.none]
        · rintro ⟨⟨i, j⟩, hi, hij, hj⟩
          simp only at hi hij hj
          simp only [↓aX, evp, evq, evl, boxK, stillV, binV, AV.cells, mP, loadV, storeV, ldV, AV.stb, AV.one, IV.av1, Lb.app, Lb.fresh, reduceCtorEq, ptrL, appL, fillA, chunks, ivs, AV.iv, mkE, if_false, if_true, List.not_mem_nil, forall_eq, beq_self_eq_true, List.isEmpty_nil, Nat.reduceEqDiff, Nat.reduceLT, Nat.reduceLeDiff, Nat.reduceAdd, Nat.reduceMul, Int.reduceToNat, Int.reduceLE, Int.reduceLT, ofH_nil, ofH_cons]
          by_cases hlt : i < j
          · rw [show decide (((i : Nat) : Int) < ((j : Nat) : Int)) = true by simpa using hlt]
            obtain ⟨h, hh⟩ : ∃ h, h = (i + j) / 2 := ⟨_, rfl⟩
            have hhv := half64 (x := i) (y := j) (by omega)
            rw [← hh] at hhv
            obtain ⟨g, hg⟩ : ∃ g, g = mid + m - 1 - h := ⟨_, rfl⟩
            have hwg : IntKind.i64.wrap (((mid + m - 1 : Nat) : Int) - (h : Int)) = ((g : Nat) : Int) := by rw [wrap64 (by omega) (by omega)]; omega
            obtain ⟨x, hx⟩ : ∃ x, l[g]? = some x := ⟨_, List.getElem?_eq_getElem (by omega)⟩
            obtain ⟨y, hy⟩ : ∃ y, l[h]? = some y := ⟨_, List.getElem?_eq_getElem (by omega)⟩
            have hwh : IntKind.i64.wrap ((h : Int) + 1) = ((h + 1 : Nat) : Int) := wrap64 (by omega) (by omega)
            simp only [↓aX, evp, evq, evl, boxK, stillV, binV, AV.cells, mP, loadV, storeV, ldV, AV.stb, AV.one, IV.av1, Lb.app, Lb.fresh, reduceCtorEq, ptrL, appL, fillA, chunks, ivs, AV.iv, mkE, if_false, if_true, List.not_mem_nil, forall_eq, beq_self_eq_true, List.isEmpty_nil, Nat.reduceEqDiff, Nat.reduceLT, Nat.reduceLeDiff, Nat.reduceAdd, Nat.reduceMul, Int.reduceToNat, Int.reduceLE, Int.reduceLT]
            refine ⟨by decide +kernel, ?_⟩
            simp only [↓aX, evp, evq, evl, boxK, stillV, binV, AV.cells, mP, loadV, storeV, ldV, AV.stb, AV.one, IV.av1, Lb.app, Lb.fresh, reduceCtorEq, ptrL, appL, fillA, chunks, ivs, AV.iv, mkE, if_false, if_true, List.not_mem_nil, forall_eq, beq_self_eq_true, List.isEmpty_nil, Nat.reduceEqDiff, Nat.reduceLT, Nat.reduceLeDiff, Nat.reduceAdd, Nat.reduceMul, Int.reduceToNat, Int.reduceLE, Int.reduceLT, hhv, hwg, Int.natCast_nonneg, Int.toNat_natCast, Nat.zero_add, getA hx, getA hy, show g < l.length by omega, show h < l.length by omega, af_callv, pvK_fn]
            refine ⟨hBd, puK_in (hC' x y) ?_⟩
            simp only [↓aX, evp, evq, evl, boxK, stillV, binV, AV.cells, mP, loadV, storeV, ldV, AV.stb, AV.one, IV.av1, Lb.app, Lb.fresh, reduceCtorEq, ptrL, appL, fillA, chunks, ivs, AV.iv, mkE, if_false, if_true, List.not_mem_nil, forall_eq, beq_self_eq_true, List.isEmpty_nil, Nat.reduceEqDiff, Nat.reduceLT, Nat.reduceLeDiff, Nat.reduceAdd, Nat.reduceMul, Int.reduceToNat, Int.reduceLE, Int.reduceLT]
            cases hcmp : decide (cmpA x y < 0) with
            | true =>
              simp only [↓aX, evp, evq, evl, boxK, stillV, binV, AV.cells, mP, loadV, storeV, ldV, AV.stb, AV.one, IV.av1, Lb.app, Lb.fresh, reduceCtorEq, ptrL, appL, fillA, chunks, ivs, AV.iv, mkE, if_false, if_true, List.not_mem_nil, forall_eq, beq_self_eq_true, List.isEmpty_nil, Nat.reduceEqDiff, Nat.reduceLT, Nat.reduceLeDiff, Nat.reduceAdd, Nat.reduceMul, Int.reduceToNat, Int.reduceLE, Int.reduceLT, Bool.not_true, hhv, hwh]
              exact ⟨⟨(i, h), by simp only; omega, by simp only; omega, by simp only; omega⟩, by simp only; omega, by
                refine WS_mk ?_ (by repeat' constructor) (by repeat' constructor)
                intro z hz hu
                by_cases e : z = .par 0
                · subst e; simp
                · exfalso; apply hu; simp [upd_at, e, Hp.none]⟩
            | false =>
              simp only [↓aX, evp, evq, evl, boxK, stillV, binV, AV.cells, mP, loadV, storeV, ldV, AV.stb, AV.one, IV.av1, Lb.app, Lb.fresh, reduceCtorEq, ptrL, appL, fillA, chunks, ivs, AV.iv, mkE, if_false, if_true, List.not_mem_nil, forall_eq, beq_self_eq_true, List.isEmpty_nil, Nat.reduceEqDiff, Nat.reduceLT, Nat.reduceLeDiff, Nat.reduceAdd, Nat.reduceMul, Int.reduceToNat, Int.reduceLE, Int.reduceLT, Bool.not_false, hhv, hwh]
              exact ⟨⟨(h + 1, j), by simp only; omega, by simp only; omega, by simp only; omega⟩, by simp only; omega, by
                refine WS_mk ?_ (by repeat' constructor) (by repeat' constructor)
                intro z hz hu
                by_cases e : z = .par 0
                · subst e; simp
                · exfalso; apply hu; simp [upd_at, e, Hp.none]⟩
          · rw [show decide (((i : Nat) : Int) < ((j : Nat) : Int)) = false by simpa using hlt]
            obtain ⟨e, he⟩ : ∃ e, e = mid + m - i := ⟨_, rfl⟩
            have hwe : IntKind.i64.wrap (((mid + m : Nat) : Int) - (i : Int)) = ((e : Nat) : Int) := by rw [wrap64 (by omega) (by omega)]; omega
            simp only [↓aX, evp, evq, evl, boxK, stillV, binV, AV.cells, mP, loadV, storeV, ldV, AV.stb, AV.one, IV.av1, Lb.app, Lb.fresh, reduceCtorEq, ptrL, appL, fillA, chunks, ivs, AV.iv, mkE, if_false, if_true, List.not_mem_nil, forall_eq, beq_self_eq_true, List.isEmpty_nil, Nat.reduceEqDiff, Nat.reduceLT, Nat.reduceLeDiff, Nat.reduceAdd, Nat.reduceMul, Int.reduceToNat, Int.reduceLE, Int.reduceLT, hwe]
            by_cases q1 : i < m
            · rw [show decide (((i : Nat) : Int) < ((m : Nat) : Int)) = true by simpa using q1]
              simp only [↓aX, evp, evq, evl, boxK, stillV, binV, AV.cells, mP, loadV, storeV, ldV, AV.stb, AV.one, IV.av1, Lb.app, Lb.fresh, reduceCtorEq, ptrL, appL, fillA, chunks, ivs, AV.iv, mkE, if_false, if_true, List.not_mem_nil, forall_eq, beq_self_eq_true, List.isEmpty_nil, Nat.reduceEqDiff, Nat.reduceLT, Nat.reduceLeDiff, Nat.reduceAdd, Nat.reduceMul, Int.reduceToNat, Int.reduceLE, Int.reduceLT]
              by_cases q2 : m < e
              · rw [show decide (((m : Nat) : Int) < ((e : Nat) : Int)) = true by simpa using q2]
                simp only [↓aX, evp, evq, evl, boxK, stillV, binV, AV.cells, mP, loadV, storeV, ldV, AV.stb, AV.one, IV.av1, Lb.app, Lb.fresh, reduceCtorEq, ptrL, appL, fillA, chunks, ivs, AV.iv, mkE, if_false, if_true, List.not_mem_nil, forall_eq, beq_self_eq_true, List.isEmpty_nil, Nat.reduceEqDiff, Nat.reduceLT, Nat.reduceLeDiff, Nat.reduceAdd, Nat.reduceMul, Int.reduceToNat, Int.reduceLE, Int.reduceLT]
                refine callT_row (l := .par 0) (hR l hl i m e q1 q2 (by omega)) (by simp [rens, ren, atL]) (by simp [upd_at]) ?_
                rintro x1 ys ⟨z1, rfl, hz1⟩ _ _
                simp only [↓aX, evp, evq, evl, boxK, stillV, binV, AV.cells, mP, loadV, storeV, ldV, AV.stb, AV.one, IV.av1, Lb.app, Lb.fresh, reduceCtorEq, ptrL, appL, fillA, chunks, ivs, AV.iv, mkE, if_false, if_true, List.not_mem_nil, forall_eq, beq_self_eq_true, List.isEmpty_nil, Nat.reduceEqDiff, Nat.reduceLT, Nat.reduceLeDiff, Nat.reduceAdd, Nat.reduceMul, Int.reduceToNat, Int.reduceLE, Int.reduceLT]
                by_cases q3 : a < i
                · rw [show decide (((a : Nat) : Int) < ((i : Nat) : Int)) = true by simpa using q3]
                  simp only [↓aX, evp, evq, evl, boxK, stillV, binV, AV.cells, mP, loadV, storeV, ldV, AV.stb, AV.one, IV.av1, Lb.app, Lb.fresh, reduceCtorEq, ptrL, appL, fillA, chunks, ivs, AV.iv, mkE, if_false, if_true, List.not_mem_nil, forall_eq, beq_self_eq_true, List.isEmpty_nil, Nat.reduceEqDiff, Nat.reduceLT, Nat.reduceLeDiff, Nat.reduceAdd, Nat.reduceMul, Int.reduceToNat, Int.reduceLE, Int.reduceLT]
                  by_cases q4 : i < mid
                  · rw [show decide (((i : Nat) : Int) < ((mid : Nat) : Int)) = true by simpa using q4]
                    simp only [↓aX, evp, evq, evl, boxK, stillV, binV, AV.cells, mP, loadV, storeV, ldV, AV.stb, AV.one, IV.av1, Lb.app, Lb.fresh, reduceCtorEq, ptrL, appL, fillA, chunks, ivs, AV.iv, mkE, if_false, if_true, List.not_mem_nil, forall_eq, beq_self_eq_true, List.isEmpty_nil, Nat.reduceEqDiff, Nat.reduceLT, Nat.reduceLeDiff, Nat.reduceAdd, Nat.reduceMul, Int.reduceToNat, Int.reduceLE, Int.reduceLT]
                    have hlz : (z1).length = l.length := (hz1).length_eq
                    have hc := ih (z1) (by omega) a i mid q3 q4 (by omega) (by omega)
                    rw [hlz] at hc
                    refine callT_row (l := .par 0) hc (by simp [rens, ren, atL]) (by simp [upd_at]) ?_
                    rintro x1 ys ⟨z2, rfl, hz2⟩ _ _
                    simp only [↓aX, evp, evq, evl, boxK, stillV, binV, AV.cells, mP, loadV, storeV, ldV, AV.stb, AV.one, IV.av1, Lb.app, Lb.fresh, reduceCtorEq, ptrL, appL, fillA, chunks, ivs, AV.iv, mkE, if_false, if_true, List.not_mem_nil, forall_eq, beq_self_eq_true, List.isEmpty_nil, Nat.reduceEqDiff, Nat.reduceLT, Nat.reduceLeDiff, Nat.reduceAdd, Nat.reduceMul, Int.reduceToNat, Int.reduceLE, Int.reduceLT]
                    by_cases q5 : mid < e
                    · rw [show decide (((mid : Nat) : Int) < ((e : Nat) : Int)) = true by simpa using q5]
                      simp only [↓aX, evp, evq, evl, boxK, stillV, binV, AV.cells, mP, loadV, storeV, ldV, AV.stb, AV.one, IV.av1, Lb.app, Lb.fresh, reduceCtorEq, ptrL, appL, fillA, chunks, ivs, AV.iv, mkE, if_false, if_true, List.not_mem_nil, forall_eq, beq_self_eq_true, List.isEmpty_nil, Nat.reduceEqDiff, Nat.reduceLT, Nat.reduceLeDiff, Nat.reduceAdd, Nat.reduceMul, Int.reduceToNat, Int.reduceLE, Int.reduceLT]
                      by_cases q6 : e < b
                      · rw [show decide (((e : Nat) : Int) < ((b : Nat) : Int)) = true by simpa using q6]
                        simp only [↓aX, evp, evq, evl, boxK, stillV, binV, AV.cells, mP, loadV, storeV, ldV, AV.stb, AV.one, IV.av1, Lb.app, Lb.fresh, reduceCtorEq, ptrL, appL, fillA, chunks, ivs, AV.iv, mkE, if_false, if_true, List.not_mem_nil, forall_eq, beq_self_eq_true, List.isEmpty_nil, Nat.reduceEqDiff, Nat.reduceLT, Nat.reduceLeDiff, Nat.reduceAdd, Nat.reduceMul, Int.reduceToNat, Int.reduceLE, Int.reduceLT]
                        have hlz : (z2).length = l.length := (hz2.trans (hz1)).length_eq
                        have hc := ih (z2) (by omega) mid e b q5 q6 (by omega) (by omega)
                        rw [hlz] at hc
                        refine callT_row (l := .par 0) hc (by simp [rens, ren, atL]) (by simp [upd_at]) ?_
                        rintro x1 ys ⟨z3, rfl, hz3⟩ _ _
                        simp only [↓aX, evp, evq, evl, boxK, stillV, binV, AV.cells, mP, loadV, storeV, ldV, AV.stb, AV.one, IV.av1, Lb.app, Lb.fresh, reduceCtorEq, ptrL, appL, fillA, chunks, ivs, AV.iv, mkE, if_false, if_true, List.not_mem_nil, forall_eq, beq_self_eq_true, List.isEmpty_nil, Nat.reduceEqDiff, Nat.reduceLT, Nat.reduceLeDiff, Nat.reduceAdd, Nat.reduceMul, Int.reduceToNat, Int.reduceLE, Int.reduceLT, ret_n, resVs, oneV]
                        exact ⟨_, rfl, ivA z3, ⟨z3, rfl, hz3.trans (hz2.trans (hz1))⟩, by simp [AV.lbs, lbss], ((ivA_len _).trans (hz3.trans (hz2.trans (hz1))).length_eq).trans (ivA_len l).symm, by simp [upd_at]⟩
                      · rw [show decide (((e : Nat) : Int) < ((b : Nat) : Int)) = false by simpa using q6]
                        simp only [↓aX, evp, evq, evl, boxK, stillV, binV, AV.cells, mP, loadV, storeV, ldV, AV.stb, AV.one, IV.av1, Lb.app, Lb.fresh, reduceCtorEq, ptrL, appL, fillA, chunks, ivs, AV.iv, mkE, if_false, if_true, List.not_mem_nil, forall_eq, beq_self_eq_true, List.isEmpty_nil, Nat.reduceEqDiff, Nat.reduceLT, Nat.reduceLeDiff, Nat.reduceAdd, Nat.reduceMul, Int.reduceToNat, Int.reduceLE, Int.reduceLT, ret_n, resVs, oneV]
                        exact ⟨_, rfl, ivA z2, ⟨z2, rfl, hz2.trans (hz1)⟩, by simp [AV.lbs, lbss], ((ivA_len _).trans (hz2.trans (hz1)).length_eq).trans (ivA_len l).symm, by simp [upd_at]⟩
                    · rw [show decide (((mid : Nat) : Int) < ((e : Nat) : Int)) = false by simpa using q5]
                      simp only [↓aX, evp, evq, evl, boxK, stillV, binV, AV.cells, mP, loadV, storeV, ldV, AV.stb, AV.one, IV.av1, Lb.app, Lb.fresh, reduceCtorEq, ptrL, appL, fillA, chunks, ivs, AV.iv, mkE, if_false, if_true, List.not_mem_nil, forall_eq, beq_self_eq_true, List.isEmpty_nil, Nat.reduceEqDiff, Nat.reduceLT, Nat.reduceLeDiff, Nat.reduceAdd, Nat.reduceMul, Int.reduceToNat, Int.reduceLE, Int.reduceLT, ret_n, resVs, oneV]
                      exact ⟨_, rfl, ivA z2, ⟨z2, rfl, hz2.trans (hz1)⟩, by simp [AV.lbs, lbss], ((ivA_len _).trans (hz2.trans (hz1)).length_eq).trans (ivA_len l).symm, by simp [upd_at]⟩
                  · rw [show decide (((i : Nat) : Int) < ((mid : Nat) : Int)) = false by simpa using q4]
                    simp only [↓aX, evp, evq, evl, boxK, stillV, binV, AV.cells, mP, loadV, storeV, ldV, AV.stb, AV.one, IV.av1, Lb.app, Lb.fresh, reduceCtorEq, ptrL, appL, fillA, chunks, ivs, AV.iv, mkE, if_false, if_true, List.not_mem_nil, forall_eq, beq_self_eq_true, List.isEmpty_nil, Nat.reduceEqDiff, Nat.reduceLT, Nat.reduceLeDiff, Nat.reduceAdd, Nat.reduceMul, Int.reduceToNat, Int.reduceLE, Int.reduceLT]
                    by_cases q5 : mid < e
                    · rw [show decide (((mid : Nat) : Int) < ((e : Nat) : Int)) = true by simpa using q5]
                      simp only [↓aX, evp, evq, evl, boxK, stillV, binV, AV.cells, mP, loadV, storeV, ldV, AV.stb, AV.one, IV.av1, Lb.app, Lb.fresh, reduceCtorEq, ptrL, appL, fillA, chunks, ivs, AV.iv, mkE, if_false, if_true, List.not_mem_nil, forall_eq, beq_self_eq_true, List.isEmpty_nil, Nat.reduceEqDiff, Nat.reduceLT, Nat.reduceLeDiff, Nat.reduceAdd, Nat.reduceMul, Int.reduceToNat, Int.reduceLE, Int.reduceLT]
                      by_cases q6 : e < b
                      · rw [show decide (((e : Nat) : Int) < ((b : Nat) : Int)) = true by simpa using q6]
                        simp only [↓aX, evp, evq, evl, boxK, stillV, binV, AV.cells, mP, loadV, storeV, ldV, AV.stb, AV.one, IV.av1, Lb.app, Lb.fresh, reduceCtorEq, ptrL, appL, fillA, chunks, ivs, AV.iv, mkE, if_false, if_true, List.not_mem_nil, forall_eq, beq_self_eq_true, List.isEmpty_nil, Nat.reduceEqDiff, Nat.reduceLT, Nat.reduceLeDiff, Nat.reduceAdd, Nat.reduceMul, Int.reduceToNat, Int.reduceLE, Int.reduceLT]
                        have hlz : (z1).length = l.length := (hz1).length_eq
                        have hc := ih (z1) (by omega) mid e b q5 q6 (by omega) (by omega)
                        rw [hlz] at hc
                        refine callT_row (l := .par 0) hc (by simp [rens, ren, atL]) (by simp [upd_at]) ?_
                        rintro x1 ys ⟨z3, rfl, hz3⟩ _ _
                        simp only [↓aX, evp, evq, evl, boxK, stillV, binV, AV.cells, mP, loadV, storeV, ldV, AV.stb, AV.one, IV.av1, Lb.app, Lb.fresh, reduceCtorEq, ptrL, appL, fillA, chunks, ivs, AV.iv, mkE, if_false, if_true, List.not_mem_nil, forall_eq, beq_self_eq_true, List.isEmpty_nil, Nat.reduceEqDiff, Nat.reduceLT, Nat.reduceLeDiff, Nat.reduceAdd, Nat.reduceMul, Int.reduceToNat, Int.reduceLE, Int.reduceLT, ret_n, resVs, oneV]
                        exact ⟨_, rfl, ivA z3, ⟨z3, rfl, hz3.trans (hz1)⟩, by simp [AV.lbs, lbss], ((ivA_len _).trans (hz3.trans (hz1)).length_eq).trans (ivA_len l).symm, by simp [upd_at]⟩
                      · rw [show decide (((e : Nat) : Int) < ((b : Nat) : Int)) = false by simpa using q6]
                        simp only [↓aX, evp, evq, evl, boxK, stillV, binV, AV.cells, mP, loadV, storeV, ldV, AV.stb, AV.one, IV.av1, Lb.app, Lb.fresh, reduceCtorEq, ptrL, appL, fillA, chunks, ivs, AV.iv, mkE, if_false, if_true, List.not_mem_nil, forall_eq, beq_self_eq_true, List.isEmpty_nil, Nat.reduceEqDiff, Nat.reduceLT, Nat.reduceLeDiff, Nat.reduceAdd, Nat.reduceMul, Int.reduceToNat, Int.reduceLE, Int.reduceLT, ret_n, resVs, oneV]
                        exact ⟨_, rfl, ivA z1, ⟨z1, rfl, hz1⟩, by simp [AV.lbs, lbss], ((ivA_len _).trans (hz1).length_eq).trans (ivA_len l).symm, by simp [upd_at]⟩
                    · rw [show decide (((mid : Nat) : Int) < ((e : Nat) : Int)) = false by simpa using q5]
                      simp only [↓aX, evp, evq, evl, boxK, stillV, binV, AV.cells, mP, loadV, storeV, ldV, AV.stb, AV.one, IV.av1, Lb.app, Lb.fresh, reduceCtorEq, ptrL, appL, fillA, chunks, ivs, AV.iv, mkE, if_false, if_true, List.not_mem_nil, forall_eq, beq_self_eq_true, List.isEmpty_nil, Nat.reduceEqDiff, Nat.reduceLT, Nat.reduceLeDiff, Nat.reduceAdd, Nat.reduceMul, Int.reduceToNat, Int.reduceLE, Int.reduceLT, ret_n, resVs, oneV]
                      exact ⟨_, rfl, ivA z1, ⟨z1, rfl, hz1⟩, by simp [AV.lbs, lbss], ((ivA_len _).trans (hz1).length_eq).trans (ivA_len l).symm, by simp [upd_at]⟩
                · rw [show decide (((a : Nat) : Int) < ((i : Nat) : Int)) = false by simpa using q3]
                  simp only [↓aX, evp, evq, evl, boxK, stillV, binV, AV.cells, mP, loadV, storeV, ldV, AV.stb, AV.one, IV.av1, Lb.app, Lb.fresh, reduceCtorEq, ptrL, appL, fillA, chunks, ivs, AV.iv, mkE, if_false, if_true, List.not_mem_nil, forall_eq, beq_self_eq_true, List.isEmpty_nil, Nat.reduceEqDiff, Nat.reduceLT, Nat.reduceLeDiff, Nat.reduceAdd, Nat.reduceMul, Int.reduceToNat, Int.reduceLE, Int.reduceLT]
                  by_cases q5 : mid < e
                  · rw [show decide (((mid : Nat) : Int) < ((e : Nat) : Int)) = true by simpa using q5]
                    simp only [↓aX, evp, evq, evl, boxK, stillV, binV, AV.cells, mP, loadV, storeV, ldV, AV.stb, AV.one, IV.av1, Lb.app, Lb.fresh, reduceCtorEq, ptrL, appL, fillA, chunks, ivs, AV.iv, mkE, if_false, if_true, List.not_mem_nil, forall_eq, beq_self_eq_true, List.isEmpty_nil, Nat.reduceEqDiff, Nat.reduceLT, Nat.reduceLeDiff, Nat.reduceAdd, Nat.reduceMul, Int.reduceToNat, Int.reduceLE, Int.reduceLT]
                    by_cases q6 : e < b
                    · rw [show decide (((e : Nat) : Int) < ((b : Nat) : Int)) = true by simpa using q6]
                      simp only [↓aX, evp, evq, evl, boxK, stillV, binV, AV.cells, mP, loadV, storeV, ldV, AV.stb, AV.one, IV.av1, Lb.app, Lb.fresh, reduceCtorEq, ptrL, appL, fillA, chunks, ivs, AV.iv, mkE, if_false, if_true, List.not_mem_nil, forall_eq, beq_self_eq_true, List.isEmpty_nil, Nat.reduceEqDiff, Nat.reduceLT, Nat.reduceLeDiff, Nat.reduceAdd, Nat.reduceMul, Int.reduceToNat, Int.reduceLE, Int.reduceLT]
                      have hlz : (z1).length = l.length := (hz1).length_eq
                      have hc := ih (z1) (by omega) mid e b q5 q6 (by omega) (by omega)
                      rw [hlz] at hc
                      refine callT_row (l := .par 0) hc (by simp [rens, ren, atL]) (by simp [upd_at]) ?_
                      rintro x1 ys ⟨z3, rfl, hz3⟩ _ _
                      simp only [↓aX, evp, evq, evl, boxK, stillV, binV, AV.cells, mP, loadV, storeV, ldV, AV.stb, AV.one, IV.av1, Lb.app, Lb.fresh, reduceCtorEq, ptrL, appL, fillA, chunks, ivs, AV.iv, mkE, if_false, if_true, List.not_mem_nil, forall_eq, beq_self_eq_true, List.isEmpty_nil, Nat.reduceEqDiff, Nat.reduceLT, Nat.reduceLeDiff, Nat.reduceAdd, Nat.reduceMul, Int.reduceToNat, Int.reduceLE, Int.reduceLT, ret_n, resVs, oneV]
                      exact ⟨_, rfl, ivA z3, ⟨z3, rfl, hz3.trans (hz1)⟩, by simp [AV.lbs, lbss], ((ivA_len _).trans (hz3.trans (hz1)).length_eq).trans (ivA_len l).symm, by simp [upd_at]⟩
                    · rw [show decide (((e : Nat) : Int) < ((b : Nat) : Int)) = false by simpa using q6]
                      simp only [↓aX, evp, evq, evl, boxK, stillV, binV, AV.cells, mP, loadV, storeV, ldV, AV.stb, AV.one, IV.av1, Lb.app, Lb.fresh, reduceCtorEq, ptrL, appL, fillA, chunks, ivs, AV.iv, mkE, if_false, if_true, List.not_mem_nil, forall_eq, beq_self_eq_true, List.isEmpty_nil, Nat.reduceEqDiff, Nat.reduceLT, Nat.reduceLeDiff, Nat.reduceAdd, Nat.reduceMul, Int.reduceToNat, Int.reduceLE, Int.reduceLT, ret_n, resVs, oneV]
                      exact ⟨_, rfl, ivA z1, ⟨z1, rfl, hz1⟩, by simp [AV.lbs, lbss], ((ivA_len _).trans (hz1).length_eq).trans (ivA_len l).symm, by simp [upd_at]⟩
                  · rw [show decide (((mid : Nat) : Int) < ((e : Nat) : Int)) = false by simpa using q5]
                    simp only [↓aX, evp, evq, evl, boxK, stillV, binV, AV.cells, mP, loadV, storeV, ldV, AV.stb, AV.one, IV.av1, Lb.app, Lb.fresh, reduceCtorEq, ptrL, appL, fillA, chunks, ivs, AV.iv, mkE, if_false, if_true, List.not_mem_nil, forall_eq, beq_self_eq_true, List.isEmpty_nil, Nat.reduceEqDiff, Nat.reduceLT, Nat.reduceLeDiff, Nat.reduceAdd, Nat.reduceMul, Int.reduceToNat, Int.reduceLE, Int.reduceLT, ret_n, resVs, oneV]
                    exact ⟨_, rfl, ivA z1, ⟨z1, rfl, hz1⟩, by simp [AV.lbs, lbss], ((ivA_len _).trans (hz1).length_eq).trans (ivA_len l).symm, by simp [upd_at]⟩
              · rw [show decide (((m : Nat) : Int) < ((e : Nat) : Int)) = false by simpa using q2]
                simp only [↓aX, evp, evq, evl, boxK, stillV, binV, AV.cells, mP, loadV, storeV, ldV, AV.stb, AV.one, IV.av1, Lb.app, Lb.fresh, reduceCtorEq, ptrL, appL, fillA, chunks, ivs, AV.iv, mkE, if_false, if_true, List.not_mem_nil, forall_eq, beq_self_eq_true, List.isEmpty_nil, Nat.reduceEqDiff, Nat.reduceLT, Nat.reduceLeDiff, Nat.reduceAdd, Nat.reduceMul, Int.reduceToNat, Int.reduceLE, Int.reduceLT]
                by_cases q3 : a < i
                · rw [show decide (((a : Nat) : Int) < ((i : Nat) : Int)) = true by simpa using q3]
                  simp only [↓aX, evp, evq, evl, boxK, stillV, binV, AV.cells, mP, loadV, storeV, ldV, AV.stb, AV.one, IV.av1, Lb.app, Lb.fresh, reduceCtorEq, ptrL, appL, fillA, chunks, ivs, AV.iv, mkE, if_false, if_true, List.not_mem_nil, forall_eq, beq_self_eq_true, List.isEmpty_nil, Nat.reduceEqDiff, Nat.reduceLT, Nat.reduceLeDiff, Nat.reduceAdd, Nat.reduceMul, Int.reduceToNat, Int.reduceLE, Int.reduceLT]
                  by_cases q4 : i < mid
                  · rw [show decide (((i : Nat) : Int) < ((mid : Nat) : Int)) = true by simpa using q4]
                    simp only [↓aX, evp, evq, evl, boxK, stillV, binV, AV.cells, mP, loadV, storeV, ldV, AV.stb, AV.one, IV.av1, Lb.app, Lb.fresh, reduceCtorEq, ptrL, appL, fillA, chunks, ivs, AV.iv, mkE, if_false, if_true, List.not_mem_nil, forall_eq, beq_self_eq_true, List.isEmpty_nil, Nat.reduceEqDiff, Nat.reduceLT, Nat.reduceLeDiff, Nat.reduceAdd, Nat.reduceMul, Int.reduceToNat, Int.reduceLE, Int.reduceLT]
                    have hlz : (l).length = l.length := (List.Perm.refl l).length_eq
                    have hc := ih (l) (by omega) a i mid q3 q4 (by omega) (by omega)
                    rw [hlz] at hc
                    refine callT_row (l := .par 0) hc (by simp [rens, ren, atL]) (by simp [upd_at]) ?_
                    rintro x1 ys ⟨z2, rfl, hz2⟩ _ _
                    simp only [↓aX, evp, evq, evl, boxK, stillV, binV, AV.cells, mP, loadV, storeV, ldV, AV.stb, AV.one, IV.av1, Lb.app, Lb.fresh, reduceCtorEq, ptrL, appL, fillA, chunks, ivs, AV.iv, mkE, if_false, if_true, List.not_mem_nil, forall_eq, beq_self_eq_true, List.isEmpty_nil, Nat.reduceEqDiff, Nat.reduceLT, Nat.reduceLeDiff, Nat.reduceAdd, Nat.reduceMul, Int.reduceToNat, Int.reduceLE, Int.reduceLT]
                    by_cases q5 : mid < e
                    · rw [show decide (((mid : Nat) : Int) < ((e : Nat) : Int)) = true by simpa using q5]
                      simp only [↓aX, evp, evq, evl, boxK, stillV, binV, AV.cells, mP, loadV, storeV, ldV, AV.stb, AV.one, IV.av1, Lb.app, Lb.fresh, reduceCtorEq, ptrL, appL, fillA, chunks, ivs, AV.iv, mkE, if_false, if_true, List.not_mem_nil, forall_eq, beq_self_eq_true, List.isEmpty_nil, Nat.reduceEqDiff, Nat.reduceLT, Nat.reduceLeDiff, Nat.reduceAdd, Nat.reduceMul, Int.reduceToNat, Int.reduceLE, Int.reduceLT]
                      by_cases q6 : e < b
                      · rw [show decide (((e : Nat) : Int) < ((b : Nat) : Int)) = true by simpa using q6]
                        simp only [↓aX, evp, evq, evl, boxK, stillV, binV, AV.cells, mP, loadV, storeV, ldV, AV.stb, AV.one, IV.av1, Lb.app, Lb.fresh, reduceCtorEq, ptrL, appL, fillA, chunks, ivs, AV.iv, mkE, if_false, if_true, List.not_mem_nil, forall_eq, beq_self_eq_true, List.isEmpty_nil, Nat.reduceEqDiff, Nat.reduceLT, Nat.reduceLeDiff, Nat.reduceAdd, Nat.reduceMul, Int.reduceToNat, Int.reduceLE, Int.reduceLT]
                        have hlz : (z2).length = l.length := (hz2.trans (List.Perm.refl l)).length_eq
                        have hc := ih (z2) (by omega) mid e b q5 q6 (by omega) (by omega)
                        rw [hlz] at hc
                        refine callT_row (l := .par 0) hc (by simp [rens, ren, atL]) (by simp [upd_at]) ?_
                        rintro x1 ys ⟨z3, rfl, hz3⟩ _ _
                        simp only [↓aX, evp, evq, evl, boxK, stillV, binV, AV.cells, mP, loadV, storeV, ldV, AV.stb, AV.one, IV.av1, Lb.app, Lb.fresh, reduceCtorEq, ptrL, appL, fillA, chunks, ivs, AV.iv, mkE, if_false, if_true, List.not_mem_nil, forall_eq, beq_self_eq_true, List.isEmpty_nil, Nat.reduceEqDiff, Nat.reduceLT, Nat.reduceLeDiff, Nat.reduceAdd, Nat.reduceMul, Int.reduceToNat, Int.reduceLE, Int.reduceLT, ret_n, resVs, oneV]
                        exact ⟨_, rfl, ivA z3, ⟨z3, rfl, hz3.trans (hz2.trans (List.Perm.refl l))⟩, by simp [AV.lbs, lbss], ((ivA_len _).trans (hz3.trans (hz2.trans (List.Perm.refl l))).length_eq).trans (ivA_len l).symm, by simp [upd_at]⟩
                      · rw [show decide (((e : Nat) : Int) < ((b : Nat) : Int)) = false by simpa using q6]
                        simp only [↓aX, evp, evq, evl, boxK, stillV, binV, AV.cells, mP, loadV, storeV, ldV, AV.stb, AV.one, IV.av1, Lb.app, Lb.fresh, reduceCtorEq, ptrL, appL, fillA, chunks, ivs, AV.iv, mkE, if_false, if_true, List.not_mem_nil, forall_eq, beq_self_eq_true, List.isEmpty_nil, Nat.reduceEqDiff, Nat.reduceLT, Nat.reduceLeDiff, Nat.reduceAdd, Nat.reduceMul, Int.reduceToNat, Int.reduceLE, Int.reduceLT, ret_n, resVs, oneV]
                        exact ⟨_, rfl, ivA z2, ⟨z2, rfl, hz2.trans (List.Perm.refl l)⟩, by simp [AV.lbs, lbss], ((ivA_len _).trans (hz2.trans (List.Perm.refl l)).length_eq).trans (ivA_len l).symm, by simp [upd_at]⟩
                    · rw [show decide (((mid : Nat) : Int) < ((e : Nat) : Int)) = false by simpa using q5]
                      simp only [↓aX, evp, evq, evl, boxK, stillV, binV, AV.cells, mP, loadV, storeV, ldV, AV.stb, AV.one, IV.av1, Lb.app, Lb.fresh, reduceCtorEq, ptrL, appL, fillA, chunks, ivs, AV.iv, mkE, if_false, if_true, List.not_mem_nil, forall_eq, beq_self_eq_true, List.isEmpty_nil, Nat.reduceEqDiff, Nat.reduceLT, Nat.reduceLeDiff, Nat.reduceAdd, Nat.reduceMul, Int.reduceToNat, Int.reduceLE, Int.reduceLT, ret_n, resVs, oneV]
                      exact ⟨_, rfl, ivA z2, ⟨z2, rfl, hz2.trans (List.Perm.refl l)⟩, by simp [AV.lbs, lbss], ((ivA_len _).trans (hz2.trans (List.Perm.refl l)).length_eq).trans (ivA_len l).symm, by simp [upd_at]⟩
                  · rw [show decide (((i : Nat) : Int) < ((mid : Nat) : Int)) = false by simpa using q4]
                    simp only [↓aX, evp, evq, evl, boxK, stillV, binV, AV.cells, mP, loadV, storeV, ldV, AV.stb, AV.one, IV.av1, Lb.app, Lb.fresh, reduceCtorEq, ptrL, appL, fillA, chunks, ivs, AV.iv, mkE, if_false, if_true, List.not_mem_nil, forall_eq, beq_self_eq_true, List.isEmpty_nil, Nat.reduceEqDiff, Nat.reduceLT, Nat.reduceLeDiff, Nat.reduceAdd, Nat.reduceMul, Int.reduceToNat, Int.reduceLE, Int.reduceLT]
                    by_cases q5 : mid < e
                    · rw [show decide (((mid : Nat) : Int) < ((e : Nat) : Int)) = true by simpa using q5]
                      simp only [↓aX, evp, evq, evl, boxK, stillV, binV, AV.cells, mP, loadV, storeV, ldV, AV.stb, AV.one, IV.av1, Lb.app, Lb.fresh, reduceCtorEq, ptrL, appL, fillA, chunks, ivs, AV.iv, mkE, if_false, if_true, List.not_mem_nil, forall_eq, beq_self_eq_true, List.isEmpty_nil, Nat.reduceEqDiff, Nat.reduceLT, Nat.reduceLeDiff, Nat.reduceAdd, Nat.reduceMul, Int.reduceToNat, Int.reduceLE, Int.reduceLT]
                      by_cases q6 : e < b
                      · rw [show decide (((e : Nat) : Int) < ((b : Nat) : Int)) = true by simpa using q6]
                        simp only [↓aX, evp, evq, evl, boxK, stillV, binV, AV.cells, mP, loadV, storeV, ldV, AV.stb, AV.one, IV.av1, Lb.app, Lb.fresh, reduceCtorEq, ptrL, appL, fillA, chunks, ivs, AV.iv, mkE, if_false, if_true, List.not_mem_nil, forall_eq, beq_self_eq_true, List.isEmpty_nil, Nat.reduceEqDiff, Nat.reduceLT, Nat.reduceLeDiff, Nat.reduceAdd, Nat.reduceMul, Int.reduceToNat, Int.reduceLE, Int.reduceLT]
                        have hlz : (l).length = l.length := (List.Perm.refl l).length_eq
                        have hc := ih (l) (by omega) mid e b q5 q6 (by omega) (by omega)
                        rw [hlz] at hc
                        refine callT_row (l := .par 0) hc (by simp [rens, ren, atL]) (by simp [upd_at]) ?_
                        rintro x1 ys ⟨z3, rfl, hz3⟩ _ _
                        simp only [↓aX, evp, evq, evl, boxK, stillV, binV, AV.cells, mP, loadV, storeV, ldV, AV.stb, AV.one, IV.av1, Lb.app, Lb.fresh, reduceCtorEq, ptrL, appL, fillA, chunks, ivs, AV.iv, mkE, if_false, if_true, List.not_mem_nil, forall_eq, beq_self_eq_true, List.isEmpty_nil, Nat.reduceEqDiff, Nat.reduceLT, Nat.reduceLeDiff, Nat.reduceAdd, Nat.reduceMul, Int.reduceToNat, Int.reduceLE, Int.reduceLT, ret_n, resVs, oneV]
                        exact ⟨_, rfl, ivA z3, ⟨z3, rfl, hz3.trans (List.Perm.refl l)⟩, by simp [AV.lbs, lbss], ((ivA_len _).trans (hz3.trans (List.Perm.refl l)).length_eq).trans (ivA_len l).symm, by simp [upd_at]⟩
                      · rw [show decide (((e : Nat) : Int) < ((b : Nat) : Int)) = false by simpa using q6]
                        simp only [↓aX, evp, evq, evl, boxK, stillV, binV, AV.cells, mP, loadV, storeV, ldV, AV.stb, AV.one, IV.av1, Lb.app, Lb.fresh, reduceCtorEq, ptrL, appL, fillA, chunks, ivs, AV.iv, mkE, if_false, if_true, List.not_mem_nil, forall_eq, beq_self_eq_true, List.isEmpty_nil, Nat.reduceEqDiff, Nat.reduceLT, Nat.reduceLeDiff, Nat.reduceAdd, Nat.reduceMul, Int.reduceToNat, Int.reduceLE, Int.reduceLT, ret_n, resVs, oneV]
                        exact ⟨_, rfl, ivA l, ⟨l, rfl, List.Perm.refl l⟩, by simp [AV.lbs, lbss], ((ivA_len _).trans (List.Perm.refl l).length_eq).trans (ivA_len l).symm, by simp [upd_at]⟩
                    · rw [show decide (((mid : Nat) : Int) < ((e : Nat) : Int)) = false by simpa using q5]
                      simp only [↓aX, evp, evq, evl, boxK, stillV, binV, AV.cells, mP, loadV, storeV, ldV, AV.stb, AV.one, IV.av1, Lb.app, Lb.fresh, reduceCtorEq, ptrL, appL, fillA, chunks, ivs, AV.iv, mkE, if_false, if_true, List.not_mem_nil, forall_eq, beq_self_eq_true, List.isEmpty_nil, Nat.reduceEqDiff, Nat.reduceLT, Nat.reduceLeDiff, Nat.reduceAdd, Nat.reduceMul, Int.reduceToNat, Int.reduceLE, Int.reduceLT, ret_n, resVs, oneV]
                      exact ⟨_, rfl, ivA l, ⟨l, rfl, List.Perm.refl l⟩, by simp [AV.lbs, lbss], ((ivA_len _).trans (List.Perm.refl l).length_eq).trans (ivA_len l).symm, by simp [upd_at]⟩
                · rw [show decide (((a : Nat) : Int) < ((i : Nat) : Int)) = false by simpa using q3]
                  simp only [↓aX, evp, evq, evl, boxK, stillV, binV, AV.cells, mP, loadV, storeV, ldV, AV.stb, AV.one, IV.av1, Lb.app, Lb.fresh, reduceCtorEq, ptrL, appL, fillA, chunks, ivs, AV.iv, mkE, if_false, if_true, List.not_mem_nil, forall_eq, beq_self_eq_true, List.isEmpty_nil, Nat.reduceEqDiff, Nat.reduceLT, Nat.reduceLeDiff, Nat.reduceAdd, Nat.reduceMul, Int.reduceToNat, Int.reduceLE, Int.reduceLT]
                  by_cases q5 : mid < e
                  · rw [show decide (((mid : Nat) : Int) < ((e : Nat) : Int)) = true by simpa using q5]
                    simp only [↓aX, evp, evq, evl, boxK, stillV, binV, AV.cells, mP, loadV, storeV, ldV, AV.stb, AV.one, IV.av1, Lb.app, Lb.fresh, reduceCtorEq, ptrL, appL, fillA, chunks, ivs, AV.iv, mkE, if_false, if_true, List.not_mem_nil, forall_eq, beq_self_eq_true, List.isEmpty_nil, Nat.reduceEqDiff, Nat.reduceLT, Nat.reduceLeDiff, Nat.reduceAdd, Nat.reduceMul, Int.reduceToNat, Int.reduceLE, Int.reduceLT]
                    by_cases q6 : e < b
                    · rw [show decide (((e : Nat) : Int) < ((b : Nat) : Int)) = true by simpa using q6]
                      simp only [↓aX, evp, evq, evl, boxK, stillV, binV, AV.cells, mP, loadV, storeV, ldV, AV.stb, AV.one, IV.av1, Lb.app, Lb.fresh, reduceCtorEq, ptrL, appL, fillA, chunks, ivs, AV.iv, mkE, if_false, if_true, List.not_mem_nil, forall_eq, beq_self_eq_true, List.isEmpty_nil, Nat.reduceEqDiff, Nat.reduceLT, Nat.reduceLeDiff, Nat.reduceAdd, Nat.reduceMul, Int.reduceToNat, Int.reduceLE, Int.reduceLT]
                      have hlz : (l).length = l.length := (List.Perm.refl l).length_eq
                      have hc := ih (l) (by omega) mid e b q5 q6 (by omega) (by omega)
                      rw [hlz] at hc
                      refine callT_row (l := .par 0) hc (by simp [rens, ren, atL]) (by simp [upd_at]) ?_
                      rintro x1 ys ⟨z3, rfl, hz3⟩ _ _
                      simp only [↓aX, evp, evq, evl, boxK, stillV, binV, AV.cells, mP, loadV, storeV, ldV, AV.stb, AV.one, IV.av1, Lb.app, Lb.fresh, reduceCtorEq, ptrL, appL, fillA, chunks, ivs, AV.iv, mkE, if_false, if_true, List.not_mem_nil, forall_eq, beq_self_eq_true, List.isEmpty_nil, Nat.reduceEqDiff, Nat.reduceLT, Nat.reduceLeDiff, Nat.reduceAdd, Nat.reduceMul, Int.reduceToNat, Int.reduceLE, Int.reduceLT, ret_n, resVs, oneV]
                      exact ⟨_, rfl, ivA z3, ⟨z3, rfl, hz3.trans (List.Perm.refl l)⟩, by simp [AV.lbs, lbss], ((ivA_len _).trans (hz3.trans (List.Perm.refl l)).length_eq).trans (ivA_len l).symm, by simp [upd_at]⟩
                    · rw [show decide (((e : Nat) : Int) < ((b : Nat) : Int)) = false by simpa using q6]
                      simp only [↓aX, evp, evq, evl, boxK, stillV, binV, AV.cells, mP, loadV, storeV, ldV, AV.stb, AV.one, IV.av1, Lb.app, Lb.fresh, reduceCtorEq, ptrL, appL, fillA, chunks, ivs, AV.iv, mkE, if_false, if_true, List.not_mem_nil, forall_eq, beq_self_eq_true, List.isEmpty_nil, Nat.reduceEqDiff, Nat.reduceLT, Nat.reduceLeDiff, Nat.reduceAdd, Nat.reduceMul, Int.reduceToNat, Int.reduceLE, Int.reduceLT, ret_n, resVs, oneV]
                      exact ⟨_, rfl, ivA l, ⟨l, rfl, List.Perm.refl l⟩, by simp [AV.lbs, lbss], ((ivA_len _).trans (List.Perm.refl l).length_eq).trans (ivA_len l).symm, by simp [upd_at]⟩
                  · rw [show decide (((mid : Nat) : Int) < ((e : Nat) : Int)) = false by simpa using q5]
                    simp only [↓aX, evp, evq, evl, boxK, stillV, binV, AV.cells, mP, loadV, storeV, ldV, AV.stb, AV.one, IV.av1, Lb.app, Lb.fresh, reduceCtorEq, ptrL, appL, fillA, chunks, ivs, AV.iv, mkE, if_false, if_true, List.not_mem_nil, forall_eq, beq_self_eq_true, List.isEmpty_nil, Nat.reduceEqDiff, Nat.reduceLT, Nat.reduceLeDiff, Nat.reduceAdd, Nat.reduceMul, Int.reduceToNat, Int.reduceLE, Int.reduceLT, ret_n, resVs, oneV]
                    exact ⟨_, rfl, ivA l, ⟨l, rfl, List.Perm.refl l⟩, by simp [AV.lbs, lbss], ((ivA_len _).trans (List.Perm.refl l).length_eq).trans (ivA_len l).symm, by simp [upd_at]⟩
            · rw [show decide (((i : Nat) : Int) < ((m : Nat) : Int)) = false by simpa using q1]
              simp only [↓aX, evp, evq, evl, boxK, stillV, binV, AV.cells, mP, loadV, storeV, ldV, AV.stb, AV.one, IV.av1, Lb.app, Lb.fresh, reduceCtorEq, ptrL, appL, fillA, chunks, ivs, AV.iv, mkE, if_false, if_true, List.not_mem_nil, forall_eq, beq_self_eq_true, List.isEmpty_nil, Nat.reduceEqDiff, Nat.reduceLT, Nat.reduceLeDiff, Nat.reduceAdd, Nat.reduceMul, Int.reduceToNat, Int.reduceLE, Int.reduceLT]
              by_cases q3 : a < i
              · rw [show decide (((a : Nat) : Int) < ((i : Nat) : Int)) = true by simpa using q3]
                simp only [↓aX, evp, evq, evl, boxK, stillV, binV, AV.cells, mP, loadV, storeV, ldV, AV.stb, AV.one, IV.av1, Lb.app, Lb.fresh, reduceCtorEq, ptrL, appL, fillA, chunks, ivs, AV.iv, mkE, if_false, if_true, List.not_mem_nil, forall_eq, beq_self_eq_true, List.isEmpty_nil, Nat.reduceEqDiff, Nat.reduceLT, Nat.reduceLeDiff, Nat.reduceAdd, Nat.reduceMul, Int.reduceToNat, Int.reduceLE, Int.reduceLT]
                by_cases q4 : i < mid
                · rw [show decide (((i : Nat) : Int) < ((mid : Nat) : Int)) = true by simpa using q4]
                  simp only [↓aX, evp, evq, evl, boxK, stillV, binV, AV.cells, mP, loadV, storeV, ldV, AV.stb, AV.one, IV.av1, Lb.app, Lb.fresh, reduceCtorEq, ptrL, appL, fillA, chunks, ivs, AV.iv, mkE, if_false, if_true, List.not_mem_nil, forall_eq, beq_self_eq_true, List.isEmpty_nil, Nat.reduceEqDiff, Nat.reduceLT, Nat.reduceLeDiff, Nat.reduceAdd, Nat.reduceMul, Int.reduceToNat, Int.reduceLE, Int.reduceLT]
                  have hlz : (l).length = l.length := (List.Perm.refl l).length_eq
                  have hc := ih (l) (by omega) a i mid q3 q4 (by omega) (by omega)
                  rw [hlz] at hc
                  refine callT_row (l := .par 0) hc (by simp [rens, ren, atL]) (by simp [upd_at]) ?_
                  rintro x1 ys ⟨z2, rfl, hz2⟩ _ _
                  simp only [↓aX, evp, evq, evl, boxK, stillV, binV, AV.cells, mP, loadV, storeV, ldV, AV.stb, AV.one, IV.av1, Lb.app, Lb.fresh, reduceCtorEq, ptrL, appL, fillA, chunks, ivs, AV.iv, mkE, if_false, if_true, List.not_mem_nil, forall_eq, beq_self_eq_true, List.isEmpty_nil, Nat.reduceEqDiff, Nat.reduceLT, Nat.reduceLeDiff, Nat.reduceAdd, Nat.reduceMul, Int.reduceToNat, Int.reduceLE, Int.reduceLT]
                  by_cases q5 : mid < e
                  · rw [show decide (((mid : Nat) : Int) < ((e : Nat) : Int)) = true by simpa using q5]
                    simp only [↓aX, evp, evq, evl, boxK, stillV, binV, AV.cells, mP, loadV, storeV, ldV, AV.stb, AV.one, IV.av1, Lb.app, Lb.fresh, reduceCtorEq, ptrL, appL, fillA, chunks, ivs, AV.iv, mkE, if_false, if_true, List.not_mem_nil, forall_eq, beq_self_eq_true, List.isEmpty_nil, Nat.reduceEqDiff, Nat.reduceLT, Nat.reduceLeDiff, Nat.reduceAdd, Nat.reduceMul, Int.reduceToNat, Int.reduceLE, Int.reduceLT]
                    by_cases q6 : e < b
                    · rw [show decide (((e : Nat) : Int) < ((b : Nat) : Int)) = true by simpa using q6]
                      simp only [↓aX, evp, evq, evl, boxK, stillV, binV, AV.cells, mP, loadV, storeV, ldV, AV.stb, AV.one, IV.av1, Lb.app, Lb.fresh, reduceCtorEq, ptrL, appL, fillA, chunks, ivs, AV.iv, mkE, if_false, if_true, List.not_mem_nil, forall_eq, beq_self_eq_true, List.isEmpty_nil, Nat.reduceEqDiff, Nat.reduceLT, Nat.reduceLeDiff, Nat.reduceAdd, Nat.reduceMul, Int.reduceToNat, Int.reduceLE, Int.reduceLT]
                      have hlz : (z2).length = l.length := (hz2.trans (List.Perm.refl l)).length_eq
                      have hc := ih (z2) (by omega) mid e b q5 q6 (by omega) (by omega)
                      rw [hlz] at hc
                      refine callT_row (l := .par 0) hc (by simp [rens, ren, atL]) (by simp [upd_at]) ?_
                      rintro x1 ys ⟨z3, rfl, hz3⟩ _ _
                      simp only [↓aX, evp, evq, evl, boxK, stillV, binV, AV.cells, mP, loadV, storeV, ldV, AV.stb, AV.one, IV.av1, Lb.app, Lb.fresh, reduceCtorEq, ptrL, appL, fillA, chunks, ivs, AV.iv, mkE, if_false, if_true, List.not_mem_nil, forall_eq, beq_self_eq_true, List.isEmpty_nil, Nat.reduceEqDiff, Nat.reduceLT, Nat.reduceLeDiff, Nat.reduceAdd, Nat.reduceMul, Int.reduceToNat, Int.reduceLE, Int.reduceLT, ret_n, resVs, oneV]
                      exact ⟨_, rfl, ivA z3, ⟨z3, rfl, hz3.trans (hz2.trans (List.Perm.refl l))⟩, by simp [AV.lbs, lbss], ((ivA_len _).trans (hz3.trans (hz2.trans (List.Perm.refl l))).length_eq).trans (ivA_len l).symm, by simp [upd_at]⟩
                    · rw [show decide (((e : Nat) : Int) < ((b : Nat) : Int)) = false by simpa using q6]
                      simp only [↓aX, evp, evq, evl, boxK, stillV, binV, AV.cells, mP, loadV, storeV, ldV, AV.stb, AV.one, IV.av1, Lb.app, Lb.fresh, reduceCtorEq, ptrL, appL, fillA, chunks, ivs, AV.iv, mkE, if_false, if_true, List.not_mem_nil, forall_eq, beq_self_eq_true, List.isEmpty_nil, Nat.reduceEqDiff, Nat.reduceLT, Nat.reduceLeDiff, Nat.reduceAdd, Nat.reduceMul, Int.reduceToNat, Int.reduceLE, Int.reduceLT, ret_n, resVs, oneV]
                      exact ⟨_, rfl, ivA z2, ⟨z2, rfl, hz2.trans (List.Perm.refl l)⟩, by simp [AV.lbs, lbss], ((ivA_len _).trans (hz2.trans (List.Perm.refl l)).length_eq).trans (ivA_len l).symm, by simp [upd_at]⟩
                  · rw [show decide (((mid : Nat) : Int) < ((e : Nat) : Int)) = false by simpa using q5]
                    simp only [↓aX, evp, evq, evl, boxK, stillV, binV, AV.cells, mP, loadV, storeV, ldV, AV.stb, AV.one, IV.av1, Lb.app, Lb.fresh, reduceCtorEq, ptrL, appL, fillA, chunks, ivs, AV.iv, mkE, if_false, if_true, List.not_mem_nil, forall_eq, beq_self_eq_true, List.isEmpty_nil, Nat.reduceEqDiff, Nat.reduceLT, Nat.reduceLeDiff, Nat.reduceAdd, Nat.reduceMul, Int.reduceToNat, Int.reduceLE, Int.reduceLT, ret_n, resVs, oneV]
                    exact ⟨_, rfl, ivA z2, ⟨z2, rfl, hz2.trans (List.Perm.refl l)⟩, by simp [AV.lbs, lbss], ((ivA_len _).trans (hz2.trans (List.Perm.refl l)).length_eq).trans (ivA_len l).symm, by simp [upd_at]⟩
                · rw [show decide (((i : Nat) : Int) < ((mid : Nat) : Int)) = false by simpa using q4]
                  simp only [↓aX, evp, evq, evl, boxK, stillV, binV, AV.cells, mP, loadV, storeV, ldV, AV.stb, AV.one, IV.av1, Lb.app, Lb.fresh, reduceCtorEq, ptrL, appL, fillA, chunks, ivs, AV.iv, mkE, if_false, if_true, List.not_mem_nil, forall_eq, beq_self_eq_true, List.isEmpty_nil, Nat.reduceEqDiff, Nat.reduceLT, Nat.reduceLeDiff, Nat.reduceAdd, Nat.reduceMul, Int.reduceToNat, Int.reduceLE, Int.reduceLT]
                  by_cases q5 : mid < e
                  · rw [show decide (((mid : Nat) : Int) < ((e : Nat) : Int)) = true by simpa using q5]
                    simp only [↓aX, evp, evq, evl, boxK, stillV, binV, AV.cells, mP, loadV, storeV, ldV, AV.stb, AV.one, IV.av1, Lb.app, Lb.fresh, reduceCtorEq, ptrL, appL, fillA, chunks, ivs, AV.iv, mkE, if_false, if_true, List.not_mem_nil, forall_eq, beq_self_eq_true, List.isEmpty_nil, Nat.reduceEqDiff, Nat.reduceLT, Nat.reduceLeDiff, Nat.reduceAdd, Nat.reduceMul, Int.reduceToNat, Int.reduceLE, Int.reduceLT]
                    by_cases q6 : e < b
                    · rw [show decide (((e : Nat) : Int) < ((b : Nat) : Int)) = true by simpa using q6]
                      simp only [↓aX, evp, evq, evl, boxK, stillV, binV, AV.cells, mP, loadV, storeV, ldV, AV.stb, AV.one, IV.av1, Lb.app, Lb.fresh, reduceCtorEq, ptrL, appL, fillA, chunks, ivs, AV.iv, mkE, if_false, if_true, List.not_mem_nil, forall_eq, beq_self_eq_true, List.isEmpty_nil, Nat.reduceEqDiff, Nat.reduceLT, Nat.reduceLeDiff, Nat.reduceAdd, Nat.reduceMul, Int.reduceToNat, Int.reduceLE, Int.reduceLT]
                      have hlz : (l).length = l.length := (List.Perm.refl l).length_eq
                      have hc := ih (l) (by omega) mid e b q5 q6 (by omega) (by omega)
                      rw [hlz] at hc
                      refine callT_row (l := .par 0) hc (by simp [rens, ren, atL]) (by simp [upd_at]) ?_
                      rintro x1 ys ⟨z3, rfl, hz3⟩ _ _
                      simp only [↓aX, evp, evq, evl, boxK, stillV, binV, AV.cells, mP, loadV, storeV, ldV, AV.stb, AV.one, IV.av1, Lb.app, Lb.fresh, reduceCtorEq, ptrL, appL, fillA, chunks, ivs, AV.iv, mkE, if_false, if_true, List.not_mem_nil, forall_eq, beq_self_eq_true, List.isEmpty_nil, Nat.reduceEqDiff, Nat.reduceLT, Nat.reduceLeDiff, Nat.reduceAdd, Nat.reduceMul, Int.reduceToNat, Int.reduceLE, Int.reduceLT, ret_n, resVs, oneV]
                      exact ⟨_, rfl, ivA z3, ⟨z3, rfl, hz3.trans (List.Perm.refl l)⟩, by simp [AV.lbs, lbss], ((ivA_len _).trans (hz3.trans (List.Perm.refl l)).length_eq).trans (ivA_len l).symm, by simp [upd_at]⟩
                    · rw [show decide (((e : Nat) : Int) < ((b : Nat) : Int)) = false by simpa using q6]
                      simp only [↓aX, evp, evq, evl, boxK, stillV, binV, AV.cells, mP, loadV, storeV, ldV, AV.stb, AV.one, IV.av1, Lb.app, Lb.fresh, reduceCtorEq, ptrL, appL, fillA, chunks, ivs, AV.iv, mkE, if_false, if_true, List.not_mem_nil, forall_eq, beq_self_eq_true, List.isEmpty_nil, Nat.reduceEqDiff, Nat.reduceLT, Nat.reduceLeDiff, Nat.reduceAdd, Nat.reduceMul, Int.reduceToNat, Int.reduceLE, Int.reduceLT, ret_n, resVs, oneV]
                      exact ⟨_, rfl, ivA l, ⟨l, rfl, List.Perm.refl l⟩, by simp [AV.lbs, lbss], ((ivA_len _).trans (List.Perm.refl l).length_eq).trans (ivA_len l).symm, by simp [upd_at]⟩
                  · rw [show decide (((mid : Nat) : Int) < ((e : Nat) : Int)) = false by simpa using q5]
                    simp only [↓aX, evp, evq, evl, boxK, stillV, binV, AV.cells, mP, loadV, storeV, ldV, AV.stb, AV.one, IV.av1, Lb.app, Lb.fresh, reduceCtorEq, ptrL, appL, fillA, chunks, ivs, AV.iv, mkE, if_false, if_true, List.not_mem_nil, forall_eq, beq_self_eq_true, List.isEmpty_nil, Nat.reduceEqDiff, Nat.reduceLT, Nat.reduceLeDiff, Nat.reduceAdd, Nat.reduceMul, Int.reduceToNat, Int.reduceLE, Int.reduceLT, ret_n, resVs, oneV]
                    exact ⟨_, rfl, ivA l, ⟨l, rfl, List.Perm.refl l⟩, by simp [AV.lbs, lbss], ((ivA_len _).trans (List.Perm.refl l).length_eq).trans (ivA_len l).symm, by simp [upd_at]⟩
              · rw [show decide (((a : Nat) : Int) < ((i : Nat) : Int)) = false by simpa using q3]
                simp only [↓aX, evp, evq, evl, boxK, stillV, binV, AV.cells, mP, loadV, storeV, ldV, AV.stb, AV.one, IV.av1, Lb.app, Lb.fresh, reduceCtorEq, ptrL, appL, fillA, chunks, ivs, AV.iv, mkE, if_false, if_true, List.not_mem_nil, forall_eq, beq_self_eq_true, List.isEmpty_nil, Nat.reduceEqDiff, Nat.reduceLT, Nat.reduceLeDiff, Nat.reduceAdd, Nat.reduceMul, Int.reduceToNat, Int.reduceLE, Int.reduceLT]
                by_cases q5 : mid < e
                · rw [show decide (((mid : Nat) : Int) < ((e : Nat) : Int)) = true by simpa using q5]
                  simp only [↓aX, evp, evq, evl, boxK, stillV, binV, AV.cells, mP, loadV, storeV, ldV, AV.stb, AV.one, IV.av1, Lb.app, Lb.fresh, reduceCtorEq, ptrL, appL, fillA, chunks, ivs, AV.iv, mkE, if_false, if_true, List.not_mem_nil, forall_eq, beq_self_eq_true, List.isEmpty_nil, Nat.reduceEqDiff, Nat.reduceLT, Nat.reduceLeDiff, Nat.reduceAdd, Nat.reduceMul, Int.reduceToNat, Int.reduceLE, Int.reduceLT]
                  by_cases q6 : e < b
                  · rw [show decide (((e : Nat) : Int) < ((b : Nat) : Int)) = true by simpa using q6]
                    simp only [↓aX, evp, evq, evl, boxK, stillV, binV, AV.cells, mP, loadV, storeV, ldV, AV.stb, AV.one, IV.av1, Lb.app, Lb.fresh, reduceCtorEq, ptrL, appL, fillA, chunks, ivs, AV.iv, mkE, if_false, if_true, List.not_mem_nil, forall_eq, beq_self_eq_true, List.isEmpty_nil, Nat.reduceEqDiff, Nat.reduceLT, Nat.reduceLeDiff, Nat.reduceAdd, Nat.reduceMul, Int.reduceToNat, Int.reduceLE, Int.reduceLT]
                    have hlz : (l).length = l.length := (List.Perm.refl l).length_eq
                    have hc := ih (l) (by omega) mid e b q5 q6 (by omega) (by omega)
                    rw [hlz] at hc
                    refine callT_row (l := .par 0) hc (by simp [rens, ren, atL]) (by simp [upd_at]) ?_
                    rintro x1 ys ⟨z3, rfl, hz3⟩ _ _
                    simp only [↓aX, evp, evq, evl, boxK, stillV, binV, AV.cells, mP, loadV, storeV, ldV, AV.stb, AV.one, IV.av1, Lb.app, Lb.fresh, reduceCtorEq, ptrL, appL, fillA, chunks, ivs, AV.iv, mkE, if_false, if_true, List.not_mem_nil, forall_eq, beq_self_eq_true, List.isEmpty_nil, Nat.reduceEqDiff, Nat.reduceLT, Nat.reduceLeDiff, Nat.reduceAdd, Nat.reduceMul, Int.reduceToNat, Int.reduceLE, Int.reduceLT, ret_n, resVs, oneV]
                    exact ⟨_, rfl, ivA z3, ⟨z3, rfl, hz3.trans (List.Perm.refl l)⟩, by simp [AV.lbs, lbss], ((ivA_len _).trans (hz3.trans (List.Perm.refl l)).length_eq).trans (ivA_len l).symm, by simp [upd_at]⟩
                  · rw [show decide (((e : Nat) : Int) < ((b : Nat) : Int)) = false by simpa using q6]
                    simp only [↓aX, evp, evq, evl, boxK, stillV, binV, AV.cells, mP, loadV, storeV, ldV, AV.stb, AV.one, IV.av1, Lb.app, Lb.fresh, reduceCtorEq, ptrL, appL, fillA, chunks, ivs, AV.iv, mkE, if_false, if_true, List.not_mem_nil, forall_eq, beq_self_eq_true, List.isEmpty_nil, Nat.reduceEqDiff, Nat.reduceLT, Nat.reduceLeDiff, Nat.reduceAdd, Nat.reduceMul, Int.reduceToNat, Int.reduceLE, Int.reduceLT, ret_n, resVs, oneV]
                    exact ⟨_, rfl, ivA l, ⟨l, rfl, List.Perm.refl l⟩, by simp [AV.lbs, lbss], ((ivA_len _).trans (List.Perm.refl l).length_eq).trans (ivA_len l).symm, by simp [upd_at]⟩
                · rw [show decide (((mid : Nat) : Int) < ((e : Nat) : Int)) = false by simpa using q5]
                  simp only [↓aX, evp, evq, evl, boxK, stillV, binV, AV.cells, mP, loadV, storeV, ldV, AV.stb, AV.one, IV.av1, Lb.app, Lb.fresh, reduceCtorEq, ptrL, appL, fillA, chunks, ivs, AV.iv, mkE, if_false, if_true, List.not_mem_nil, forall_eq, beq_self_eq_true, List.isEmpty_nil, Nat.reduceEqDiff, Nat.reduceLT, Nat.reduceLeDiff, Nat.reduceAdd, Nat.reduceMul, Int.reduceToNat, Int.reduceLE, Int.reduceLT, ret_n, resVs, oneV]
                  exact ⟨_, rfl, ivA l, ⟨l, rfl, List.Perm.refl l⟩, by simp [AV.lbs, lbss], ((ivA_len _).trans (List.Perm.refl l).length_eq).trans (ivA_len l).symm, by simp [upd_at]⟩
      · rw [show decide (((m : Nat) : Int) > ((mid : Nat) : Int)) = false by simpa using hgt]
        simp only [↓aX, evp, evq, evl, boxK, stillV, binV, AV.cells, mP, loadV, storeV, ldV, AV.stb, AV.one, IV.av1, Lb.app, Lb.fresh, reduceCtorEq, ptrL, appL, fillA, chunks, ivs, AV.iv, mkE, if_false, if_true, List.not_mem_nil, forall_eq, beq_self_eq_true, List.isEmpty_nil, Nat.reduceEqDiff, Nat.reduceLT, Nat.reduceLeDiff, Nat.reduceAdd, Nat.reduceMul, Int.reduceToNat, Int.reduceLE, Int.reduceLT, hwp]
        refine loop_same (σ := { q : Nat × Nat // a ≤ q.1 ∧ q.1 ≤ q.2 ∧ q.2 ≤ m }) [.par 0] (fun q => [(0, .sl (.par 0) 2 0 l.length), (1, .int .i64 a), (2, .int .i64 m), (3, .int .i64 b), (4, .fn f_cmp [] []), (20, .int .i64 q.1.1), (21, .int .i64 q.1.2), (18, .int .i64 mid), (19, .int .i64 ((mid + m : Nat) : Int)), (22, .int .i64 ((mid + m - 1 : Nat) : Int))]) (fun _ => [(.par 0, ⟨2, immE (ivA l)⟩)]) (fun q => q.1.2 - q.1.1)
          ⟨(a, m), Nat.le_refl _, by simp only; omega, Nat.le_refl _⟩ (fun _ => rfl) (by decide) (by simp [lbss, AV.lbs]) ?_ ?_ ?_
        · intro q w hw cs hcs z hz
          simp only [List.mem_singleton] at hw; subst hw
          rw [lbss_immE hcs] at hz; simp at hz
        · refine WS_mk ?_ (by repeat' constructor) (by repeat' constructor)
          intro z hz hu
          by_cases e : z = .par 0
          · subst e; simp
          · exfalso; apply hu; simp [upd_at, e, Hp.none]
        · rintro ⟨⟨i, j⟩, hi, hij, hj⟩
          simp only at hi hij hj
          simp only [↓aX, evp, evq, evl, boxK, stillV, binV, AV.cells, mP, loadV, storeV, ldV, AV.stb, AV.one, IV.av1, Lb.app, Lb.fresh, reduceCtorEq, ptrL, appL, fillA, chunks, ivs, AV.iv, mkE, if_false, if_true, List.not_mem_nil, forall_eq, beq_self_eq_true, List.isEmpty_nil, Nat.reduceEqDiff, Nat.reduceLT, Nat.reduceLeDiff, Nat.reduceAdd, Nat.reduceMul, Int.reduceToNat, Int.reduceLE, Int.reduceLT, ofH_nil, ofH_cons]
          by_cases hlt : i < j
          · rw [show decide (((i : Nat) : Int) < ((j : Nat) : Int)) = true by simpa using hlt]
            obtain ⟨h, hh⟩ : ∃ h, h = (i + j) / 2 := ⟨_, rfl⟩
            have hhv := half64 (x := i) (y := j) (by omega)
            rw [← hh] at hhv
            obtain ⟨g, hg⟩ : ∃ g, g = mid + m - 1 - h := ⟨_, rfl⟩
            have hwg : IntKind.i64.wrap (((mid + m - 1 : Nat) : Int) - (h : Int)) = ((g : Nat) : Int) := by rw [wrap64 (by omega) (by omega)]; omega
            obtain ⟨x, hx⟩ : ∃ x, l[g]? = some x := ⟨_, List.getElem?_eq_getElem (by omega)⟩
            obtain ⟨y, hy⟩ : ∃ y, l[h]? = some y := ⟨_, List.getElem?_eq_getElem (by omega)⟩
            have hwh : IntKind.i64.wrap ((h : Int) + 1) = ((h + 1 : Nat) : Int) := wrap64 (by omega) (by omega)
            simp only [↓aX, evp, evq, evl, boxK, stillV, binV, AV.cells, mP, loadV, storeV, ldV, AV.stb, AV.one, IV.av1, Lb.app, Lb.fresh, reduceCtorEq, ptrL, appL, fillA, chunks, ivs, AV.iv, mkE, if_false, if_true, List.not_mem_nil, forall_eq, beq_self_eq_true, List.isEmpty_nil, Nat.reduceEqDiff, Nat.reduceLT, Nat.reduceLeDiff, Nat.reduceAdd, Nat.reduceMul, Int.reduceToNat, Int.reduceLE, Int.reduceLT]
            refine ⟨by decide +kernel, ?_⟩
            simp only [↓aX, evp, evq, evl, boxK, stillV, binV, AV.cells, mP, loadV, storeV, ldV, AV.stb, AV.one, IV.av1, Lb.app, Lb.fresh, reduceCtorEq, ptrL, appL, fillA, chunks, ivs, AV.iv, mkE, if_false, if_true, List.not_mem_nil, forall_eq, beq_self_eq_true, List.isEmpty_nil, Nat.reduceEqDiff, Nat.reduceLT, Nat.reduceLeDiff, Nat.reduceAdd, Nat.reduceMul, Int.reduceToNat, Int.reduceLE, Int.reduceLT, hhv, hwg, Int.natCast_nonneg, Int.toNat_natCast, Nat.zero_add, getA hx, getA hy, show g < l.length by omega, show h < l.length by omega, af_callv, pvK_fn]
            refine ⟨hBd, puK_in (hC' x y) ?_⟩
            simp only [↓aX, evp, evq, evl, boxK, stillV, binV, AV.cells, mP, loadV, storeV, ldV, AV.stb, AV.one, IV.av1, Lb.app, Lb.fresh, reduceCtorEq, ptrL, appL, fillA, chunks, ivs, AV.iv, mkE, if_false, if_true, List.not_mem_nil, forall_eq, beq_self_eq_true, List.isEmpty_nil, Nat.reduceEqDiff, Nat.reduceLT, Nat.reduceLeDiff, Nat.reduceAdd, Nat.reduceMul, Int.reduceToNat, Int.reduceLE, Int.reduceLT]
            cases hcmp : decide (cmpA x y < 0) with
            | true =>
              simp only [↓aX, evp, evq, evl, boxK, stillV, binV, AV.cells, mP, loadV, storeV, ldV, AV.stb, AV.one, IV.av1, Lb.app, Lb.fresh, reduceCtorEq, ptrL, appL, fillA, chunks, ivs, AV.iv, mkE, if_false, if_true, List.not_mem_nil, forall_eq, beq_self_eq_true, List.isEmpty_nil, Nat.reduceEqDiff, Nat.reduceLT, Nat.reduceLeDiff, Nat.reduceAdd, Nat.reduceMul, Int.reduceToNat, Int.reduceLE, Int.reduceLT, Bool.not_true, hhv, hwh]
              exact ⟨⟨(i, h), by simp only; omega, by simp only; omega, by simp only; omega⟩, by simp only; omega, by
                refine WS_mk ?_ (by repeat' constructor) (by repeat' constructor)
                intro z hz hu
                by_cases e : z = .par 0
                · subst e; simp
                · exfalso; apply hu; simp [upd_at, e, Hp.none]⟩
            | false =>
              simp only [↓aX, evp, evq, evl, boxK, stillV, binV, AV.cells, mP, loadV, storeV, ldV, AV.stb, AV.one, IV.av1, Lb.app, Lb.fresh, reduceCtorEq, ptrL, appL, fillA, chunks, ivs, AV.iv, mkE, if_false, if_true, List.not_mem_nil, forall_eq, beq_self_eq_true, List.isEmpty_nil, Nat.reduceEqDiff, Nat.reduceLT, Nat.reduceLeDiff, Nat.reduceAdd, Nat.reduceMul, Int.reduceToNat, Int.reduceLE, Int.reduceLT, Bool.not_false, hhv, hwh]
              exact ⟨⟨(h + 1, j), by simp only; omega, by simp only; omega, by simp only; omega⟩, by simp only; omega, by
                refine WS_mk ?_ (by repeat' constructor) (by repeat' constructor)
                intro z hz hu
                by_cases e : z = .par 0
                · subst e; simp
                · exfalso; apply hu; simp [upd_at, e, Hp.none]⟩
          · rw [show decide (((i : Nat) : Int) < ((j : Nat) : Int)) = false by simpa using hlt]
            obtain ⟨e, he⟩ : ∃ e, e = mid + m - i := ⟨_, rfl⟩
            have hwe : IntKind.i64.wrap (((mid + m : Nat) : Int) - (i : Int)) = ((e : Nat) : Int) := by rw [wrap64 (by omega) (by omega)]; omega
            simp only [↓aX, evp, evq, evl, boxK, stillV, binV, AV.cells, mP, loadV, storeV, ldV, AV.stb, AV.one, IV.av1, Lb.app, Lb.fresh, reduceCtorEq, ptrL, appL, fillA, chunks, ivs, AV.iv, mkE, if_false, if_true, List.not_mem_nil, forall_eq, beq_self_eq_true, List.isEmpty_nil, Nat.reduceEqDiff, Nat.reduceLT, Nat.reduceLeDiff, Nat.reduceAdd, Nat.reduceMul, Int.reduceToNat, Int.reduceLE, Int.reduceLT, hwe]
            by_cases q1 : i < m
            · rw [show decide (((i : Nat) : Int) < ((m : Nat) : Int)) = true by simpa using q1]
              simp only [↓aX, evp, evq, evl, boxK, stillV, binV, AV.cells, mP, loadV, storeV, ldV, AV.stb, AV.one, IV.av1, Lb.app, Lb.fresh, reduceCtorEq, ptrL, appL, fillA, chunks, ivs, AV.iv, mkE, if_false, if_true, List.not_mem_nil, forall_eq, beq_self_eq_true, List.isEmpty_nil, Nat.reduceEqDiff, Nat.reduceLT, Nat.reduceLeDiff, Nat.reduceAdd, Nat.reduceMul, Int.reduceToNat, Int.reduceLE, Int.reduceLT]
              by_cases q2 : m < e
              · rw [show decide (((m : Nat) : Int) < ((e : Nat) : Int)) = true by simpa using q2]
                simp only [↓aX, evp, evq, evl, boxK, stillV, binV, AV.cells, mP, loadV, storeV, ldV, AV.stb, AV.one, IV.av1, Lb.app, Lb.fresh, reduceCtorEq, ptrL, appL, fillA, chunks, ivs, AV.iv, mkE, if_false, if_true, List.not_mem_nil, forall_eq, beq_self_eq_true, List.isEmpty_nil, Nat.reduceEqDiff, Nat.reduceLT, Nat.reduceLeDiff, Nat.reduceAdd, Nat.reduceMul, Int.reduceToNat, Int.reduceLE, Int.reduceLT]
                refine callT_row (l := .par 0) (hR l hl i m e q1 q2 (by omega)) (by simp [rens, ren, atL]) (by simp [upd_at]) ?_
                rintro x1 ys ⟨z1, rfl, hz1⟩ _ _
                simp only [↓aX, evp, evq, evl, boxK, stillV, binV, AV.cells, mP, loadV, storeV, ldV, AV.stb, AV.one, IV.av1, Lb.app, Lb.fresh, reduceCtorEq, ptrL, appL, fillA, chunks, ivs, AV.iv, mkE, if_false, if_true, List.not_mem_nil, forall_eq, beq_self_eq_true, List.isEmpty_nil, Nat.reduceEqDiff, Nat.reduceLT, Nat.reduceLeDiff, Nat.reduceAdd, Nat.reduceMul, Int.reduceToNat, Int.reduceLE, Int.reduceLT]
                by_cases q3 : a < i
                · rw [show decide (((a : Nat) : Int) < ((i : Nat) : Int)) = true by simpa using q3]
                  simp only [↓aX, evp, evq, evl, boxK, stillV, binV, AV.cells, mP, loadV, storeV, ldV, AV.stb, AV.one, IV.av1, Lb.app, Lb.fresh, reduceCtorEq, ptrL, appL, fillA, chunks, ivs, AV.iv, mkE, if_false, if_true, List.not_mem_nil, forall_eq, beq_self_eq_true, List.isEmpty_nil, Nat.reduceEqDiff, Nat.reduceLT, Nat.reduceLeDiff, Nat.reduceAdd, Nat.reduceMul, Int.reduceToNat, Int.reduceLE, Int.reduceLT]
                  by_cases q4 : i < mid
                  · rw [show decide (((i : Nat) : Int) < ((mid : Nat) : Int)) = true by simpa using q4]
                    simp only [↓aX, evp, evq, evl, boxK, stillV, binV, AV.cells, mP, loadV, storeV, ldV, AV.stb, AV.one, IV.av1, Lb.app, Lb.fresh, reduceCtorEq, ptrL, appL, fillA, chunks, ivs, AV.iv, mkE, if_false, if_true, List.not_mem_nil, forall_eq, beq_self_eq_true, List.isEmpty_nil, Nat.reduceEqDiff, Nat.reduceLT, Nat.reduceLeDiff, Nat.reduceAdd, Nat.reduceMul, Int.reduceToNat, Int.reduceLE, Int.reduceLT]
                    have hlz : (z1).length = l.length := (hz1).length_eq
                    have hc := ih (z1) (by omega) a i mid q3 q4 (by omega) (by omega)
                    rw [hlz] at hc
                    refine callT_row (l := .par 0) hc (by simp [rens, ren, atL]) (by simp [upd_at]) ?_
                    rintro x1 ys ⟨z2, rfl, hz2⟩ _ _
                    simp only [↓aX, evp, evq, evl, boxK, stillV, binV, AV.cells, mP, loadV, storeV, ldV, AV.stb, AV.one, IV.av1, Lb.app, Lb.fresh, reduceCtorEq, ptrL, appL, fillA, chunks, ivs, AV.iv, mkE, if_false, if_true, List.not_mem_nil, forall_eq, beq_self_eq_true, List.isEmpty_nil, Nat.reduceEqDiff, Nat.reduceLT, Nat.reduceLeDiff, Nat.reduceAdd, Nat.reduceMul, Int.reduceToNat, Int.reduceLE, Int.reduceLT]
                    by_cases q5 : mid < e
                    · rw [show decide (((mid : Nat) : Int) < ((e : Nat) : Int)) = true by simpa using q5]
                      simp only [↓aX, evp, evq, evl, boxK, stillV, binV, AV.cells, mP, loadV, storeV, ldV, AV.stb, AV.one, IV.av1, Lb.app, Lb.fresh, reduceCtorEq, ptrL, appL, fillA, chunks, ivs, AV.iv, mkE, if_false, if_true, List.not_mem_nil, forall_eq, beq_self_eq_true, List.isEmpty_nil, Nat.reduceEqDiff, Nat.reduceLT, Nat.reduceLeDiff, Nat.reduceAdd, Nat.reduceMul, Int.reduceToNat, Int.reduceLE, Int.reduceLT]
                      by_cases q6 : e < b
                      · rw [show decide (((e : Nat) : Int) < ((b : Nat) : Int)) = true by simpa using q6]
                        simp only [↓aX, evp, evq, evl, boxK, stillV, binV, AV.cells, mP, loadV, storeV, ldV, AV.stb, AV.one, IV.av1, Lb.app, Lb.fresh, reduceCtorEq, ptrL, appL, fillA, chunks, ivs, AV.iv, mkE, if_false, if_true, List.not_mem_nil, forall_eq, beq_self_eq_true, List.isEmpty_nil, Nat.reduceEqDiff, Nat.reduceLT, Nat.reduceLeDiff, Nat.reduceAdd, Nat.reduceMul, Int.reduceToNat, Int.reduceLE, Int.reduceLT]
                        have hlz : (z2).length = l.length := (hz2.trans (hz1)).length_eq
                        have hc := ih (z2) (by omega) mid e b q5 q6 (by omega) (by omega)
                        rw [hlz] at hc
                        refine callT_row (l := .par 0) hc (by simp [rens, ren, atL]) (by simp [upd_at]) ?_
                        rintro x1 ys ⟨z3, rfl, hz3⟩ _ _
                        simp only [↓aX, evp, evq, evl, boxK, stillV, binV, AV.cells, mP, loadV, storeV, ldV, AV.stb, AV.one, IV.av1, Lb.app, Lb.fresh, reduceCtorEq, ptrL, appL, fillA, chunks, ivs, AV.iv, mkE, if_false, if_true, List.not_mem_nil, forall_eq, beq_self_eq_true, List.isEmpty_nil, Nat.reduceEqDiff, Nat.reduceLT, Nat.reduceLeDiff, Nat.reduceAdd, Nat.reduceMul, Int.reduceToNat, Int.reduceLE, Int.reduceLT, ret_n, resVs, oneV]
                        exact ⟨_, rfl, ivA z3, ⟨z3, rfl, hz3.trans (hz2.trans (hz1))⟩, by simp [AV.lbs, lbss], ((ivA_len _).trans (hz3.trans (hz2.trans (hz1))).length_eq).trans (ivA_len l).symm, by simp [upd_at]⟩
                      · rw [show decide (((e : Nat) : Int) < ((b : Nat) : Int)) = false by simpa using q6]
                        simp only [↓aX, evp, evq, evl, boxK, stillV, binV, AV.cells, mP, loadV, storeV, ldV, AV.stb, AV.one, IV.av1, Lb.app, Lb.fresh, reduceCtorEq, ptrL, appL, fillA, chunks, ivs, AV.iv, mkE, if_false, if_true, List.not_mem_nil, forall_eq, beq_self_eq_true, List.isEmpty_nil, Nat.reduceEqDiff, Nat.reduceLT, Nat.reduceLeDiff, Nat.reduceAdd, Nat.reduceMul, Int.reduceToNat, Int.reduceLE, Int.reduceLT, ret_n, resVs, oneV]
                        exact ⟨_, rfl, ivA z2, ⟨z2, rfl, hz2.trans (hz1)⟩, by simp [AV.lbs, lbss], ((ivA_len _).trans (hz2.trans (hz1)).length_eq).trans (ivA_len l).symm, by simp [upd_at]⟩
                    · rw [show decide (((mid : Nat) : Int) < ((e : Nat) : Int)) = false by simpa using q5]
                      simp only [↓aX, evp, evq, evl, boxK, stillV, binV, AV.cells, mP, loadV, storeV, ldV, AV.stb, AV.one, IV.av1, Lb.app, Lb.fresh, reduceCtorEq, ptrL, appL, fillA, chunks, ivs, AV.iv, mkE, if_false, if_true, List.not_mem_nil, forall_eq, beq_self_eq_true, List.isEmpty_nil, Nat.reduceEqDiff, Nat.reduceLT, Nat.reduceLeDiff, Nat.reduceAdd, Nat.reduceMul, Int.reduceToNat, Int.reduceLE, Int.reduceLT, ret_n, resVs, oneV]
                      exact ⟨_, rfl, ivA z2, ⟨z2, rfl, hz2.trans (hz1)⟩, by simp [AV.lbs, lbss], ((ivA_len _).trans (hz2.trans (hz1)).length_eq).trans (ivA_len l).symm, by simp [upd_at]⟩
                  · rw [show decide (((i : Nat) : Int) < ((mid : Nat) : Int)) = false by simpa using q4]
                    simp only [↓aX, evp, evq, evl, boxK, stillV, binV, AV.cells, mP, loadV, storeV, ldV, AV.stb, AV.one, IV.av1, Lb.app, Lb.fresh, reduceCtorEq, ptrL, appL, fillA, chunks, ivs, AV.iv, mkE, if_false, if_true, List.not_mem_nil, forall_eq, beq_self_eq_true, List.isEmpty_nil, Nat.reduceEqDiff, Nat.reduceLT, Nat.reduceLeDiff, Nat.reduceAdd, Nat.reduceMul, Int.reduceToNat, Int.reduceLE, Int.reduceLT]
                    by_cases q5 : mid < e
                    · rw [show decide (((mid : Nat) : Int) < ((e : Nat) : Int)) = true by simpa using q5]
                      simp only [↓aX, evp, evq, evl, boxK, stillV, binV, AV.cells, mP, loadV, storeV, ldV, AV.stb, AV.one, IV.av1, Lb.app, Lb.fresh, reduceCtorEq, ptrL, appL, fillA, chunks, ivs, AV.iv, mkE, if_false, if_true, List.not_mem_nil, forall_eq, beq_self_eq_true, List.isEmpty_nil, Nat.reduceEqDiff, Nat.reduceLT, Nat.reduceLeDiff, Nat.reduceAdd, Nat.reduceMul, Int.reduceToNat, Int.reduceLE, Int.reduceLT]
                      by_cases q6 : e < b
                      · rw [show decide (((e : Nat) : Int) < ((b : Nat) : Int)) = true by simpa using q6]
                        simp only [↓aX, evp, evq, evl, boxK, stillV, binV, AV.cells, mP, loadV, storeV, ldV, AV.stb, AV.one, IV.av1, Lb.app, Lb.fresh, reduceCtorEq, ptrL, appL, fillA, chunks, ivs, AV.iv, mkE, if_false, if_true, List.not_mem_nil, forall_eq, beq_self_eq_true, List.isEmpty_nil, Nat.reduceEqDiff, Nat.reduceLT, Nat.reduceLeDiff, Nat.reduceAdd, Nat.reduceMul, Int.reduceToNat, Int.reduceLE, Int.reduceLT]
                        have hlz : (z1).length = l.length := (hz1).length_eq
                        have hc := ih (z1) (by omega) mid e b q5 q6 (by omega) (by omega)
                        rw [hlz] at hc
                        refine callT_row (l := .par 0) hc (by simp [rens, ren, atL]) (by simp [upd_at]) ?_
                        rintro x1 ys ⟨z3, rfl, hz3⟩ _ _
                        simp only [↓aX, evp, evq, evl, boxK, stillV, binV, AV.cells, mP, loadV, storeV, ldV, AV.stb, AV.one, IV.av1, Lb.app, Lb.fresh, reduceCtorEq, ptrL, appL, fillA, chunks, ivs, AV.iv, mkE, if_false, if_true, List.not_mem_nil, forall_eq, beq_self_eq_true, List.isEmpty_nil, Nat.reduceEqDiff, Nat.reduceLT, Nat.reduceLeDiff, Nat.reduceAdd, Nat.reduceMul, Int.reduceToNat, Int.reduceLE, Int.reduceLT, ret_n, resVs, oneV]
                        exact ⟨_, rfl, ivA z3, ⟨z3, rfl, hz3.trans (hz1)⟩, by simp [AV.lbs, lbss], ((ivA_len _).trans (hz3.trans (hz1)).length_eq).trans (ivA_len l).symm, by simp [upd_at]⟩
                      · rw [show decide (((e : Nat) : Int) < ((b : Nat) : Int)) = false by simpa using q6]
                        simp only [↓aX, evp, evq, evl, boxK, stillV, binV, AV.cells, mP, loadV, storeV, ldV, AV.stb, AV.one, IV.av1, Lb.app, Lb.fresh, reduceCtorEq, ptrL, appL, fillA, chunks, ivs, AV.iv, mkE, if_false, if_true, List.not_mem_nil, forall_eq, beq_self_eq_true, List.isEmpty_nil, Nat.reduceEqDiff, Nat.reduceLT, Nat.reduceLeDiff, Nat.reduceAdd, Nat.reduceMul, Int.reduceToNat, Int.reduceLE, Int.reduceLT, ret_n, resVs, oneV]
                        exact ⟨_, rfl, ivA z1, ⟨z1, rfl, hz1⟩, by simp [AV.lbs, lbss], ((ivA_len _).trans (hz1).length_eq).trans (ivA_len l).symm, by simp [upd_at]⟩
                    · rw [show decide (((mid : Nat) : Int) < ((e : Nat) : Int)) = false by simpa using q5]
                      simp only [↓aX, evp, evq, evl, boxK, stillV, binV, AV.cells, mP, loadV, storeV, ldV, AV.stb, AV.one, IV.av1, Lb.app, Lb.fresh, reduceCtorEq, ptrL, appL, fillA, chunks, ivs, AV.iv, mkE, if_false, if_true, List.not_mem_nil, forall_eq, beq_self_eq_true, List.isEmpty_nil, Nat.reduceEqDiff, Nat.reduceLT, Nat.reduceLeDiff, Nat.reduceAdd, Nat.reduceMul, Int.reduceToNat, Int.reduceLE, Int.reduceLT, ret_n, resVs, oneV]
                      exact ⟨_, rfl, ivA z1, ⟨z1, rfl, hz1⟩, by simp [AV.lbs, lbss], ((ivA_len _).trans (hz1).length_eq).trans (ivA_len l).symm, by simp [upd_at]⟩
                · rw [show decide (((a : Nat) : Int) < ((i : Nat) : Int)) = false by simpa using q3]
                  simp only [↓aX, evp, evq, evl, boxK, stillV, binV, AV.cells, mP, loadV, storeV, ldV, AV.stb, AV.one, IV.av1, Lb.app, Lb.fresh, reduceCtorEq, ptrL, appL, fillA, chunks, ivs, AV.iv, mkE, if_false, if_true, List.not_mem_nil, forall_eq, beq_self_eq_true, List.isEmpty_nil, Nat.reduceEqDiff, Nat.reduceLT, Nat.reduceLeDiff, Nat.reduceAdd, Nat.reduceMul, Int.reduceToNat, Int.reduceLE, Int.reduceLT]
                  by_cases q5 : mid < e
                  · rw [show decide (((mid : Nat) : Int) < ((e : Nat) : Int)) = true by simpa using q5]
                    simp only [↓aX, evp, evq, evl, boxK, stillV, binV, AV.cells, mP, loadV, storeV, ldV, AV.stb, AV.one, IV.av1, Lb.app, Lb.fresh, reduceCtorEq, ptrL, appL, fillA, chunks, ivs, AV.iv, mkE, if_false, if_true, List.not_mem_nil, forall_eq, beq_self_eq_true, List.isEmpty_nil, Nat.reduceEqDiff, Nat.reduceLT, Nat.reduceLeDiff, Nat.reduceAdd, Nat.reduceMul, Int.reduceToNat, Int.reduceLE, Int.reduceLT]
                    by_cases q6 : e < b
                    · rw [show decide (((e : Nat) : Int) < ((b : Nat) : Int)) = true by simpa using q6]
                      simp only [↓aX, evp, evq, evl, boxK, stillV, binV, AV.cells, mP, loadV, storeV, ldV, AV.stb, AV.one, IV.av1, Lb.app, Lb.fresh, reduceCtorEq, ptrL, appL, fillA, chunks, ivs, AV.iv, mkE, if_false, if_true, List.not_mem_nil, forall_eq, beq_self_eq_true, List.isEmpty_nil, Nat.reduceEqDiff, Nat.reduceLT, Nat.reduceLeDiff, Nat.reduceAdd, Nat.reduceMul, Int.reduceToNat, Int.reduceLE, Int.reduceLT]
                      have hlz : (z1).length = l.length := (hz1).length_eq
                      have hc := ih (z1) (by omega) mid e b q5 q6 (by omega) (by omega)
                      rw [hlz] at hc
                      refine callT_row (l := .par 0) hc (by simp [rens, ren, atL]) (by simp [upd_at]) ?_
                      rintro x1 ys ⟨z3, rfl, hz3⟩ _ _
                      simp only [↓aX, evp, evq, evl, boxK, stillV, binV, AV.cells, mP, loadV, storeV, ldV, AV.stb, AV.one, IV.av1, Lb.app, Lb.fresh, reduceCtorEq, ptrL, appL, fillA, chunks, ivs, AV.iv, mkE, if_false, if_true, List.not_mem_nil, forall_eq, beq_self_eq_true, List.isEmpty_nil, Nat.reduceEqDiff, Nat.reduceLT, Nat.reduceLeDiff, Nat.reduceAdd, Nat.reduceMul, Int.reduceToNat, Int.reduceLE, Int.reduceLT, ret_n, resVs, oneV]
                      exact ⟨_, rfl, ivA z3, ⟨z3, rfl, hz3.trans (hz1)⟩, by simp [AV.lbs, lbss], ((ivA_len _).trans (hz3.trans (hz1)).length_eq).trans (ivA_len l).symm, by simp [upd_at]⟩
                    · rw [show decide (((e : Nat) : Int) < ((b : Nat) : Int)) = false by simpa using q6]
                      simp only [↓aX, evp, evq, evl, boxK, stillV, binV, AV.cells, mP, loadV, storeV, ldV, AV.stb, AV.one, IV.av1, Lb.app, Lb.fresh, reduceCtorEq, ptrL, appL, fillA, chunks, ivs, AV.iv, mkE, if_false, if_true, List.not_mem_nil, forall_eq, beq_self_eq_true, List.isEmpty_nil, Nat.reduceEqDiff, Nat.reduceLT, Nat.reduceLeDiff, Nat.reduceAdd, Nat.reduceMul, Int.reduceToNat, Int.reduceLE, Int.reduceLT, ret_n, resVs, oneV]
                      exact ⟨_, rfl, ivA z1, ⟨z1, rfl, hz1⟩, by simp [AV.lbs, lbss], ((ivA_len _).trans (hz1).length_eq).trans (ivA_len l).symm, by simp [upd_at]⟩
                  · rw [show decide (((mid : Nat) : Int) < ((e : Nat) : Int)) = false by simpa using q5]
                    simp only [↓aX, evp, evq, evl, boxK, stillV, binV, AV.cells, mP, loadV, storeV, ldV, AV.stb, AV.one, IV.av1, Lb.app, Lb.fresh, reduceCtorEq, ptrL, appL, fillA, chunks, ivs, AV.iv, mkE, if_false, if_true, List.not_mem_nil, forall_eq, beq_self_eq_true, List.isEmpty_nil, Nat.reduceEqDiff, Nat.reduceLT, Nat.reduceLeDiff, Nat.reduceAdd, Nat.reduceMul, Int.reduceToNat, Int.reduceLE, Int.reduceLT, ret_n, resVs, oneV]
                    exact ⟨_, rfl, ivA z1, ⟨z1, rfl, hz1⟩, by simp [AV.lbs, lbss], ((ivA_len _).trans (hz1).length_eq).trans (ivA_len l).symm, by simp [upd_at]⟩
              · rw [show decide (((m : Nat) : Int) < ((e : Nat) : Int)) = false by simpa using q2]
                simp only [↓aX, evp, evq, evl, boxK, stillV, binV, AV.cells, mP, loadV, storeV, ldV, AV.stb, AV.one, IV.av1, Lb.app, Lb.fresh, reduceCtorEq, ptrL, appL, fillA, chunks, ivs, AV.iv, mkE, if_false, if_true, List.not_mem_nil, forall_eq, beq_self_eq_true, List.isEmpty_nil, Nat.reduceEqDiff, Nat.reduceLT, Nat.reduceLeDiff, Nat.reduceAdd, Nat.reduceMul, Int.reduceToNat, Int.reduceLE, Int.reduceLT]
                by_cases q3 : a < i
                · rw [show decide (((a : Nat) : Int) < ((i : Nat) : Int)) = true by simpa using q3]
                  simp only [↓aX, evp, evq, evl, boxK, stillV, binV, AV.cells, mP, loadV, storeV, ldV, AV.stb, AV.one, IV.av1, Lb.app, Lb.fresh, reduceCtorEq, ptrL, appL, fillA, chunks, ivs, AV.iv, mkE, if_false, if_true, List.not_mem_nil, forall_eq, beq_self_eq_true, List.isEmpty_nil, Nat.reduceEqDiff, Nat.reduceLT, Nat.reduceLeDiff, Nat.reduceAdd, Nat.reduceMul, Int.reduceToNat, Int.reduceLE, Int.reduceLT]
                  by_cases q4 : i < mid
                  · rw [show decide (((i : Nat) : Int) < ((mid : Nat) : Int)) = true by simpa using q4]
                    simp only [↓aX, evp, evq, evl, boxK, stillV, binV, AV.cells, mP, loadV, storeV, ldV, AV.stb, AV.one, IV.av1, Lb.app, Lb.fresh, reduceCtorEq, ptrL, appL, fillA, chunks, ivs, AV.iv, mkE, if_false, if_true, List.not_mem_nil, forall_eq, beq_self_eq_true, List.isEmpty_nil, Nat.reduceEqDiff, Nat.reduceLT, Nat.reduceLeDiff, Nat.reduceAdd, Nat.reduceMul, Int.reduceToNat, Int.reduceLE, Int.reduceLT]
                    have hlz : (l).length = l.length := (List.Perm.refl l).length_eq
                    have hc := ih (l) (by omega) a i mid q3 q4 (by omega) (by omega)
                    rw [hlz] at hc
                    refine callT_row (l := .par 0) hc (by simp [rens, ren, atL]) (by simp [upd_at]) ?_
                    rintro x1 ys ⟨z2, rfl, hz2⟩ _ _
                    simp only [↓aX, evp, evq, evl, boxK, stillV, binV, AV.cells, mP, loadV, storeV, ldV, AV.stb, AV.one, IV.av1, Lb.app, Lb.fresh, reduceCtorEq, ptrL, appL, fillA, chunks, ivs, AV.iv, mkE, if_false, if_true, List.not_mem_nil, forall_eq, beq_self_eq_true, List.isEmpty_nil, Nat.reduceEqDiff, Nat.reduceLT, Nat.reduceLeDiff, Nat.reduceAdd, Nat.reduceMul, Int.reduceToNat, Int.reduceLE, Int.reduceLT]
                    by_cases q5 : mid < e
                    · rw [show decide (((mid : Nat) : Int) < ((e : Nat) : Int)) = true by simpa using q5]
                      simp only [↓aX, evp, evq, evl, boxK, stillV, binV, AV.cells, mP, loadV, storeV, ldV, AV.stb, AV.one, IV.av1, Lb.app, Lb.fresh, reduceCtorEq, ptrL, appL, fillA, chunks, ivs, AV.iv, mkE, if_false, if_true, List.not_mem_nil, forall_eq, beq_self_eq_true, List.isEmpty_nil, Nat.reduceEqDiff, Nat.reduceLT, Nat.reduceLeDiff, Nat.reduceAdd, Nat.reduceMul, Int.reduceToNat, Int.reduceLE, Int.reduceLT]
                      by_cases q6 : e < b
                      · rw [show decide (((e : Nat) : Int) < ((b : Nat) : Int)) = true by simpa using q6]
                        simp only [↓aX, evp, evq, evl, boxK, stillV, binV, AV.cells, mP, loadV, storeV, ldV, AV.stb, AV.one, IV.av1, Lb.app, Lb.fresh, reduceCtorEq, ptrL, appL, fillA, chunks, ivs, AV.iv, mkE, if_false, if_true, List.not_mem_nil, forall_eq, beq_self_eq_true, List.isEmpty_nil, Nat.reduceEqDiff, Nat.reduceLT, Nat.reduceLeDiff, Nat.reduceAdd, Nat.reduceMul, Int.reduceToNat, Int.reduceLE, Int.reduceLT]
                        have hlz : (z2).length = l.length := (hz2.trans (List.Perm.refl l)).length_eq
                        have hc := ih (z2) (by omega) mid e b q5 q6 (by omega) (by omega)
                        rw [hlz] at hc
                        refine callT_row (l := .par 0) hc (by simp [rens, ren, atL]) (by simp [upd_at]) ?_
                        rintro x1 ys ⟨z3, rfl, hz3⟩ _ _
                        simp only [↓aX, evp, evq, evl, boxK, stillV, binV, AV.cells, mP, loadV, storeV, ldV, AV.stb, AV.one, IV.av1, Lb.app, Lb.fresh, reduceCtorEq, ptrL, appL, fillA, chunks, ivs, AV.iv, mkE, if_false, if_true, List.not_mem_nil, forall_eq, beq_self_eq_true, List.isEmpty_nil, Nat.reduceEqDiff, Nat.reduceLT, Nat.reduceLeDiff, Nat.reduceAdd, Nat.reduceMul, Int.reduceToNat, Int.reduceLE, Int.reduceLT, ret_n, resVs, oneV]
                        exact ⟨_, rfl, ivA z3, ⟨z3, rfl, hz3.trans (hz2.trans (List.Perm.refl l))⟩, by simp [AV.lbs, lbss], ((ivA_len _).trans (hz3.trans (hz2.trans (List.Perm.refl l))).length_eq).trans (ivA_len l).symm, by simp [upd_at]⟩
                      · rw [show decide (((e : Nat) : Int) < ((b : Nat) : Int)) = false by simpa using q6]
                        simp only [↓aX, evp, evq, evl, boxK, stillV, binV, AV.cells, mP, loadV, storeV, ldV, AV.stb, AV.one, IV.av1, Lb.app, Lb.fresh, reduceCtorEq, ptrL, appL, fillA, chunks, ivs, AV.iv, mkE, if_false, if_true, List.not_mem_nil, forall_eq, beq_self_eq_true, List.isEmpty_nil, Nat.reduceEqDiff, Nat.reduceLT, Nat.reduceLeDiff, Nat.reduceAdd, Nat.reduceMul, Int.reduceToNat, Int.reduceLE, Int.reduceLT, ret_n, resVs, oneV]
                        exact ⟨_, rfl, ivA z2, ⟨z2, rfl, hz2.trans (List.Perm.refl l)⟩, by simp [AV.lbs, lbss], ((ivA_len _).trans (hz2.trans (List.Perm.refl l)).length_eq).trans (ivA_len l).symm, by simp [upd_at]⟩
                    · rw [show decide (((mid : Nat) : Int) < ((e : Nat) : Int)) = false by simpa using q5]
                      simp only [↓aX, evp, evq, evl, boxK, stillV, binV, AV.cells, mP, loadV, storeV, ldV, AV.stb, AV.one, IV.av1, Lb.app, Lb.fresh, reduceCtorEq, ptrL, appL, fillA, chunks, ivs, AV.iv, mkE, if_false, if_true, List.not_mem_nil, forall_eq, beq_self_eq_true, List.isEmpty_nil, Nat.reduceEqDiff, Nat.reduceLT, Nat.reduceLeDiff, Nat.reduceAdd, Nat.reduceMul, Int.reduceToNat, Int.reduceLE, Int.reduceLT, ret_n, resVs, oneV]
                      exact ⟨_, rfl, ivA z2, ⟨z2, rfl, hz2.trans (List.Perm.refl l)⟩, by simp [AV.lbs, lbss], ((ivA_len _).trans (hz2.trans (List.Perm.refl l)).length_eq).trans (ivA_len l).symm, by simp [upd_at]⟩
                  · rw [show decide (((i : Nat) : Int) < ((mid : Nat) : Int)) = false by simpa using q4]
                    simp only [↓aX, evp, evq, evl, boxK, stillV, binV, AV.cells, mP, loadV, storeV, ldV, AV.stb, AV.one, IV.av1, Lb.app, Lb.fresh, reduceCtorEq, ptrL, appL, fillA, chunks, ivs, AV.iv, mkE, if_false, if_true, List.not_mem_nil, forall_eq, beq_self_eq_true, List.isEmpty_nil, Nat.reduceEqDiff, Nat.reduceLT, Nat.reduceLeDiff, Nat.reduceAdd, Nat.reduceMul, Int.reduceToNat, Int.reduceLE, Int.reduceLT]
                    by_cases q5 : mid < e
                    · rw [show decide (((mid : Nat) : Int) < ((e : Nat) : Int)) = true by simpa using q5]
                      simp only [↓aX, evp, evq, evl, boxK, stillV, binV, AV.cells, mP, loadV, storeV, ldV, AV.stb, AV.one, IV.av1, Lb.app, Lb.fresh, reduceCtorEq, ptrL, appL, fillA, chunks, ivs, AV.iv, mkE, if_false, if_true, List.not_mem_nil, forall_eq, beq_self_eq_true, List.isEmpty_nil, Nat.reduceEqDiff, Nat.reduceLT, Nat.reduceLeDiff, Nat.reduceAdd, Nat.reduceMul, Int.reduceToNat, Int.reduceLE, Int.reduceLT]
                      by_cases q6 : e < b
                      · rw [show decide (((e : Nat) : Int) < ((b : Nat) : Int)) = true by simpa using q6]
                        simp only [↓aX, evp, evq, evl, boxK, stillV, binV, AV.cells, mP, loadV, storeV, ldV, AV.stb, AV.one, IV.av1, Lb.app, Lb.fresh, reduceCtorEq, ptrL, appL, fillA, chunks, ivs, AV.iv, mkE, if_false, if_true, List.not_mem_nil, forall_eq, beq_self_eq_true, List.isEmpty_nil, Nat.reduceEqDiff, Nat.reduceLT, Nat.reduceLeDiff, Nat.reduceAdd, Nat.reduceMul, Int.reduceToNat, Int.reduceLE, Int.reduceLT]
                        have hlz : (l).length = l.length := (List.Perm.refl l).length_eq
                        have hc := ih (l) (by omega) mid e b q5 q6 (by omega) (by omega)
                        rw [hlz] at hc
                        refine callT_row (l := .par 0) hc (by simp [rens, ren, atL]) (by simp [upd_at]) ?_
                        rintro x1 ys ⟨z3, rfl, hz3⟩ _ _
                        simp only [↓aX, evp, evq, evl, boxK, stillV, binV, AV.cells, mP, loadV, storeV, ldV, AV.stb, AV.one, IV.av1, Lb.app, Lb.fresh, reduceCtorEq, ptrL, appL, fillA, chunks, ivs, AV.iv, mkE, if_false, if_true, List.not_mem_nil, forall_eq, beq_self_eq_true, List.isEmpty_nil, Nat.reduceEqDiff, Nat.reduceLT, Nat.reduceLeDiff, Nat.reduceAdd, Nat.reduceMul, Int.reduceToNat, Int.reduceLE, Int.reduceLT, ret_n, resVs, oneV]
                        exact ⟨_, rfl, ivA z3, ⟨z3, rfl, hz3.trans (List.Perm.refl l)⟩, by simp [AV.lbs, lbss], ((ivA_len _).trans (hz3.trans (List.Perm.refl l)).length_eq).trans (ivA_len l).symm, by simp [upd_at]⟩
                      · rw [show decide (((e : Nat) : Int) < ((b : Nat) : Int)) = false by simpa using q6]
                        simp only [↓aX, evp, evq, evl, boxK, stillV, binV, AV.cells, mP, loadV, storeV, ldV, AV.stb, AV.one, IV.av1, Lb.app, Lb.fresh, reduceCtorEq, ptrL, appL, fillA, chunks, ivs, AV.iv, mkE, if_false, if_true, List.not_mem_nil, forall_eq, beq_self_eq_true, List.isEmpty_nil, Nat.reduceEqDiff, Nat.reduceLT, Nat.reduceLeDiff, Nat.reduceAdd, Nat.reduceMul, Int.reduceToNat, Int.reduceLE, Int.reduceLT, ret_n, resVs, oneV]
                        exact ⟨_, rfl, ivA l, ⟨l, rfl, List.Perm.refl l⟩, by simp [AV.lbs, lbss], ((ivA_len _).trans (List.Perm.refl l).length_eq).trans (ivA_len l).symm, by simp [upd_at]⟩
                    · rw [show decide (((mid : Nat) : Int) < ((e : Nat) : Int)) = false by simpa using q5]
                      simp only [↓aX, evp, evq, evl, boxK, stillV, binV, AV.cells, mP, loadV, storeV, ldV, AV.stb, AV.one, IV.av1, Lb.app, Lb.fresh, reduceCtorEq, ptrL, appL, fillA, chunks, ivs, AV.iv, mkE, if_false, if_true, List.not_mem_nil, forall_eq, beq_self_eq_true, List.isEmpty_nil, Nat.reduceEqDiff, Nat.reduceLT, Nat.reduceLeDiff, Nat.reduceAdd, Nat.reduceMul, Int.reduceToNat, Int.reduceLE, Int.reduceLT, ret_n, resVs, oneV]
                      exact ⟨_, rfl, ivA l, ⟨l, rfl, List.Perm.refl l⟩, by simp [AV.lbs, lbss], ((ivA_len _).trans (List.Perm.refl l).length_eq).trans (ivA_len l).symm, by simp [upd_at]⟩
                · rw [show decide (((a : Nat) : Int) < ((i : Nat) : Int)) = false by simpa using q3]
                  simp only [↓aX, evp, evq, evl, boxK, stillV, binV, AV.cells, mP, loadV, storeV, ldV, AV.stb, AV.one, IV.av1, Lb.app, Lb.fresh, reduceCtorEq, ptrL, appL, fillA, chunks, ivs, AV.iv, mkE, if_false, if_true, List.not_mem_nil, forall_eq, beq_self_eq_true, List.isEmpty_nil, Nat.reduceEqDiff, Nat.reduceLT, Nat.reduceLeDiff, Nat.reduceAdd, Nat.reduceMul, Int.reduceToNat, Int.reduceLE, Int.reduceLT]
                  by_cases q5 : mid < e
                  · rw [show decide (((mid : Nat) : Int) < ((e : Nat) : Int)) = true by simpa using q5]
                    simp only [↓aX, evp, evq, evl, boxK, stillV, binV, AV.cells, mP, loadV, storeV, ldV, AV.stb, AV.one, IV.av1, Lb.app, Lb.fresh, reduceCtorEq, ptrL, appL, fillA, chunks, ivs, AV.iv, mkE, if_false, if_true, List.not_mem_nil, forall_eq, beq_self_eq_true, List.isEmpty_nil, Nat.reduceEqDiff, Nat.reduceLT, Nat.reduceLeDiff, Nat.reduceAdd, Nat.reduceMul, Int.reduceToNat, Int.reduceLE, Int.reduceLT]
                    by_cases q6 : e < b
                    · rw [show decide (((e : Nat) : Int) < ((b : Nat) : Int)) = true by simpa using q6]
                      simp only [↓aX, evp, evq, evl, boxK, stillV, binV, AV.cells, mP, loadV, storeV, ldV, AV.stb, AV.one, IV.av1, Lb.app, Lb.fresh, reduceCtorEq, ptrL, appL, fillA, chunks, ivs, AV.iv, mkE, if_false, if_true, List.not_mem_nil, forall_eq, beq_self_eq_true, List.isEmpty_nil, Nat.reduceEqDiff, Nat.reduceLT, Nat.reduceLeDiff, Nat.reduceAdd, Nat.reduceMul, Int.reduceToNat, Int.reduceLE, Int.reduceLT]
                      have hlz : (l).length = l.length := (List.Perm.refl l).length_eq
                      have hc := ih (l) (by omega) mid e b q5 q6 (by omega) (by omega)
                      rw [hlz] at hc
                      refine callT_row (l := .par 0) hc (by simp [rens, ren, atL]) (by simp [upd_at]) ?_
                      rintro x1 ys ⟨z3, rfl, hz3⟩ _ _
                      simp only [↓aX, evp, evq, evl, boxK, stillV, binV, AV.cells, mP, loadV, storeV, ldV, AV.stb, AV.one, IV.av1, Lb.app, Lb.fresh, reduceCtorEq, ptrL, appL, fillA, chunks, ivs, AV.iv, mkE, if_false, if_true, List.not_mem_nil, forall_eq, beq_self_eq_true, List.isEmpty_nil, Nat.reduceEqDiff, Nat.reduceLT, Nat.reduceLeDiff, Nat.reduceAdd, Nat.reduceMul, Int.reduceToNat, Int.reduceLE, Int.reduceLT, ret_n, resVs, oneV]
                      exact ⟨_, rfl, ivA z3, ⟨z3, rfl, hz3.trans (List.Perm.refl l)⟩, by simp [AV.lbs, lbss], ((ivA_len _).trans (hz3.trans (List.Perm.refl l)).length_eq).trans (ivA_len l).symm, by simp [upd_at]⟩
                    · rw [show decide (((e : Nat) : Int) < ((b : Nat) : Int)) = false by simpa using q6]
                      simp only [↓aX, evp, evq, evl, boxK, stillV, binV, AV.cells, mP, loadV, storeV, ldV, AV.stb, AV.one, IV.av1, Lb.app, Lb.fresh, reduceCtorEq, ptrL, appL, fillA, chunks, ivs, AV.iv, mkE, if_false, if_true, List.not_mem_nil, forall_eq, beq_self_eq_true, List.isEmpty_nil, Nat.reduceEqDiff, Nat.reduceLT, Nat.reduceLeDiff, Nat.reduceAdd, Nat.reduceMul, Int.reduceToNat, Int.reduceLE, Int.reduceLT, ret_n, resVs, oneV]
                      exact ⟨_, rfl, ivA l, ⟨l, rfl, List.Perm.refl l⟩, by simp [AV.lbs, lbss], ((ivA_len _).trans (List.Perm.refl l).length_eq).trans (ivA_len l).symm, by simp [upd_at]⟩
                  · rw [show decide (((mid : Nat) : Int) < ((e : Nat) : Int)) = false by simpa using q5]
                    simp only [↓aX, evp, evq, evl, boxK, stillV, binV, AV.cells, mP, loadV, storeV, ldV, AV.stb, AV.one, IV.av1, Lb.app, Lb.fresh, reduceCtorEq, ptrL, appL, fillA, chunks, ivs, AV.iv, mkE, if_false, if_true, List.not_mem_nil, forall_eq, beq_self_eq_true, List.isEmpty_nil, Nat.reduceEqDiff, Nat.reduceLT, Nat.reduceLeDiff, Nat.reduceAdd, Nat.reduceMul, Int.reduceToNat, Int.reduceLE, Int.reduceLT, ret_n, resVs, oneV]
                    exact ⟨_, rfl, ivA l, ⟨l, rfl, List.Perm.refl l⟩, by simp [AV.lbs, lbss], ((ivA_len _).trans (List.Perm.refl l).length_eq).trans (ivA_len l).symm, by simp [upd_at]⟩
            · rw [show decide (((i : Nat) : Int) < ((m : Nat) : Int)) = false by simpa using q1]
              simp only [↓aX, evp, evq, evl, boxK, stillV, binV, AV.cells, mP, loadV, storeV, ldV, AV.stb, AV.one, IV.av1, Lb.app, Lb.fresh, reduceCtorEq, ptrL, appL, fillA, chunks, ivs, AV.iv, mkE, if_false, if_true, List.not_mem_nil, forall_eq, beq_self_eq_true, List.isEmpty_nil, Nat.reduceEqDiff, Nat.reduceLT, Nat.reduceLeDiff, Nat.reduceAdd, Nat.reduceMul, Int.reduceToNat, Int.reduceLE, Int.reduceLT]
              by_cases q3 : a < i
              · rw [show decide (((a : Nat) : Int) < ((i : Nat) : Int)) = true by simpa using q3]
                simp only [↓aX, evp, evq, evl, boxK, stillV, binV, AV.cells, mP, loadV, storeV, ldV, AV.stb, AV.one, IV.av1, Lb.app, Lb.fresh, reduceCtorEq, ptrL, appL, fillA, chunks, ivs, AV.iv, mkE, if_false, if_true, List.not_mem_nil, forall_eq, beq_self_eq_true, List.isEmpty_nil, Nat.reduceEqDiff, Nat.reduceLT, Nat.reduceLeDiff, Nat.reduceAdd, Nat.reduceMul, Int.reduceToNat, Int.reduceLE, Int.reduceLT]
                by_cases q4 : i < mid
                · rw [show decide (((i : Nat) : Int) < ((mid : Nat) : Int)) = true by simpa using q4]
                  simp only [↓aX, evp, evq, evl, boxK, stillV, binV, AV.cells, mP, loadV, storeV, ldV, AV.stb, AV.one, IV.av1, Lb.app, Lb.fresh, reduceCtorEq, ptrL, appL, fillA, chunks, ivs, AV.iv, mkE, if_false, if_true, List.not_mem_nil, forall_eq, beq_self_eq_true, List.isEmpty_nil, Nat.reduceEqDiff, Nat.reduceLT, Nat.reduceLeDiff, Nat.reduceAdd, Nat.reduceMul, Int.reduceToNat, Int.reduceLE, Int.reduceLT]
                  have hlz : (l).length = l.length := (List.Perm.refl l).length_eq
                  have hc := ih (l) (by omega) a i mid q3 q4 (by omega) (by omega)
                  rw [hlz] at hc
                  refine callT_row (l := .par 0) hc (by simp [rens, ren, atL]) (by simp [upd_at]) ?_
                  rintro x1 ys ⟨z2, rfl, hz2⟩ _ _
                  simp only [↓aX, evp, evq, evl, boxK, stillV, binV, AV.cells, mP, loadV, storeV, ldV, AV.stb, AV.one, IV.av1, Lb.app, Lb.fresh, reduceCtorEq, ptrL, appL, fillA, chunks, ivs, AV.iv, mkE, if_false, if_true, List.not_mem_nil, forall_eq, beq_self_eq_true, List.isEmpty_nil, Nat.reduceEqDiff, Nat.reduceLT, Nat.reduceLeDiff, Nat.reduceAdd, Nat.reduceMul, Int.reduceToNat, Int.reduceLE, Int.reduceLT]
                  by_cases q5 : mid < e
                  · rw [show decide (((mid : Nat) : Int) < ((e : Nat) : Int)) = true by simpa using q5]
                    simp only [↓aX, evp, evq, evl, boxK, stillV, binV, AV.cells, mP, loadV, storeV, ldV, AV.stb, AV.one, IV.av1, Lb.app, Lb.fresh, reduceCtorEq, ptrL, appL, fillA, chunks, ivs, AV.iv, mkE, if_false, if_true, List.not_mem_nil, forall_eq, beq_self_eq_true, List.isEmpty_nil, Nat.reduceEqDiff, Nat.reduceLT, Nat.reduceLeDiff, Nat.reduceAdd, Nat.reduceMul, Int.reduceToNat, Int.reduceLE, Int.reduceLT]
                    by_cases q6 : e < b
                    · rw [show decide (((e : Nat) : Int) < ((b : Nat) : Int)) = true by simpa using q6]
                      simp only [↓aX, evp, evq, evl, boxK, stillV, binV, AV.cells, mP, loadV, storeV, ldV, AV.stb, AV.one, IV.av1, Lb.app, Lb.fresh, reduceCtorEq, ptrL, appL, fillA, chunks, ivs, AV.iv, mkE, if_false, if_true, List.not_mem_nil, forall_eq, beq_self_eq_true, List.isEmpty_nil, Nat.reduceEqDiff, Nat.reduceLT, Nat.reduceLeDiff, Nat.reduceAdd, Nat.reduceMul, Int.reduceToNat, Int.reduceLE, Int.reduceLT]
                      have hlz : (z2).length = l.length := (hz2.trans (List.Perm.refl l)).length_eq
                      have hc := ih (z2) (by omega) mid e b q5 q6 (by omega) (by omega)
                      rw [hlz] at hc
                      refine callT_row (l := .par 0) hc (by simp [rens, ren, atL]) (by simp [upd_at]) ?_
                      rintro x1 ys ⟨z3, rfl, hz3⟩ _ _
                      simp only [↓aX, evp, evq, evl, boxK, stillV, binV, AV.cells, mP, loadV, storeV, ldV, AV.stb, AV.one, IV.av1, Lb.app, Lb.fresh, reduceCtorEq, ptrL, appL, fillA, chunks, ivs, AV.iv, mkE, if_false, if_true, List.not_mem_nil, forall_eq, beq_self_eq_true, List.isEmpty_nil, Nat.reduceEqDiff, Nat.reduceLT, Nat.reduceLeDiff, Nat.reduceAdd, Nat.reduceMul, Int.reduceToNat, Int.reduceLE, Int.reduceLT, ret_n, resVs, oneV]
                      exact ⟨_, rfl, ivA z3, ⟨z3, rfl, hz3.trans (hz2.trans (List.Perm.refl l))⟩, by simp [AV.lbs, lbss], ((ivA_len _).trans (hz3.trans (hz2.trans (List.Perm.refl l))).length_eq).trans (ivA_len l).symm, by simp [upd_at]⟩
                    · rw [show decide (((e : Nat) : Int) < ((b : Nat) : Int)) = false by simpa using q6]
                      simp only [↓aX, evp, evq, evl, boxK, stillV, binV, AV.cells, mP, loadV, storeV, ldV, AV.stb, AV.one, IV.av1, Lb.app, Lb.fresh, reduceCtorEq, ptrL, appL, fillA, chunks, ivs, AV.iv, mkE, if_false, if_true, List.not_mem_nil, forall_eq, beq_self_eq_true, List.isEmpty_nil, Nat.reduceEqDiff, Nat.reduceLT, Nat.reduceLeDiff, Nat.reduceAdd, Nat.reduceMul, Int.reduceToNat, Int.reduceLE, Int.reduceLT, ret_n, resVs, oneV]
                      exact ⟨_, rfl, ivA z2, ⟨z2, rfl, hz2.trans (List.Perm.refl l)⟩, by simp [AV.lbs, lbss], ((ivA_len _).trans (hz2.trans (List.Perm.refl l)).length_eq).trans (ivA_len l).symm, by simp [upd_at]⟩
                  · rw [show decide (((mid : Nat) : Int) < ((e : Nat) : Int)) = false by simpa using q5]
                    simp only [↓aX, evp, evq, evl, boxK, stillV, binV, AV.cells, mP, loadV, storeV, ldV, AV.stb, AV.one, IV.av1, Lb.app, Lb.fresh, reduceCtorEq, ptrL, appL, fillA, chunks, ivs, AV.iv, mkE, if_false, if_true, List.not_mem_nil, forall_eq, beq_self_eq_true, List.isEmpty_nil, Nat.reduceEqDiff, Nat.reduceLT, Nat.reduceLeDiff, Nat.reduceAdd, Nat.reduceMul, Int.reduceToNat, Int.reduceLE, Int.reduceLT, ret_n, resVs, oneV]
                    exact ⟨_, rfl, ivA z2, ⟨z2, rfl, hz2.trans (List.Perm.refl l)⟩, by simp [AV.lbs, lbss], ((ivA_len _).trans (hz2.trans (List.Perm.refl l)).length_eq).trans (ivA_len l).symm, by simp [upd_at]⟩
                · rw [show decide (((i : Nat) : Int) < ((mid : Nat) : Int)) = false by simpa using q4]
                  simp only [↓aX, evp, evq, evl, boxK, stillV, binV, AV.cells, mP, loadV, storeV, ldV, AV.stb, AV.one, IV.av1, Lb.app, Lb.fresh, reduceCtorEq, ptrL, appL, fillA, chunks, ivs, AV.iv, mkE, if_false, if_true, List.not_mem_nil, forall_eq, beq_self_eq_true, List.isEmpty_nil, Nat.reduceEqDiff, Nat.reduceLT, Nat.reduceLeDiff, Nat.reduceAdd, Nat.reduceMul, Int.reduceToNat, Int.reduceLE, Int.reduceLT]
                  by_cases q5 : mid < e
                  · rw [show decide (((mid : Nat) : Int) < ((e : Nat) : Int)) = true by simpa using q5]
                    simp only [↓aX, evp, evq, evl, boxK, stillV, binV, AV.cells, mP, loadV, storeV, ldV, AV.stb, AV.one, IV.av1, Lb.app, Lb.fresh, reduceCtorEq, ptrL, appL, fillA, chunks, ivs, AV.iv, mkE, if_false, if_true, List.not_mem_nil, forall_eq, beq_self_eq_true, List.isEmpty_nil, Nat.reduceEqDiff, Nat.reduceLT, Nat.reduceLeDiff, Nat.reduceAdd, Nat.reduceMul, Int.reduceToNat, Int.reduceLE, Int.reduceLT]
                    by_cases q6 : e < b
                    · rw [show decide (((e : Nat) : Int) < ((b : Nat) : Int)) = true by simpa using q6]
                      simp only [↓aX, evp, evq, evl, boxK, stillV, binV, AV.cells, mP, loadV, storeV, ldV, AV.stb, AV.one, IV.av1, Lb.app, Lb.fresh, reduceCtorEq, ptrL, appL, fillA, chunks, ivs, AV.iv, mkE, if_false, if_true, List.not_mem_nil, forall_eq, beq_self_eq_true, List.isEmpty_nil, Nat.reduceEqDiff, Nat.reduceLT, Nat.reduceLeDiff, Nat.reduceAdd, Nat.reduceMul, Int.reduceToNat, Int.reduceLE, Int.reduceLT]
                      have hlz : (l).length = l.length := (List.Perm.refl l).length_eq
                      have hc := ih (l) (by omega) mid e b q5 q6 (by omega) (by omega)
                      rw [hlz] at hc
                      refine callT_row (l := .par 0) hc (by simp [rens, ren, atL]) (by simp [upd_at]) ?_
                      rintro x1 ys ⟨z3, rfl, hz3⟩ _ _
                      simp only [↓aX, evp, evq, evl, boxK, stillV, binV, AV.cells, mP, loadV, storeV, ldV, AV.stb, AV.one, IV.av1, Lb.app, Lb.fresh, reduceCtorEq, ptrL, appL, fillA, chunks, ivs, AV.iv, mkE, if_false, if_true, List.not_mem_nil, forall_eq, beq_self_eq_true, List.isEmpty_nil, Nat.reduceEqDiff, Nat.reduceLT, Nat.reduceLeDiff, Nat.reduceAdd, Nat.reduceMul, Int.reduceToNat, Int.reduceLE, Int.reduceLT, ret_n, resVs, oneV]
                      exact ⟨_, rfl, ivA z3, ⟨z3, rfl, hz3.trans (List.Perm.refl l)⟩, by simp [AV.lbs, lbss], ((ivA_len _).trans (hz3.trans (List.Perm.refl l)).length_eq).trans (ivA_len l).symm, by simp [upd_at]⟩
                    · rw [show decide (((e : Nat) : Int) < ((b : Nat) : Int)) = false by simpa using q6]
                      simp only [↓aX, evp, evq, evl, boxK, stillV, binV, AV.cells, mP, loadV, storeV, ldV, AV.stb, AV.one, IV.av1, Lb.app, Lb.fresh, reduceCtorEq, ptrL, appL, fillA, chunks, ivs, AV.iv, mkE, if_false, if_true, List.not_mem_nil, forall_eq, beq_self_eq_true, List.isEmpty_nil, Nat.reduceEqDiff, Nat.reduceLT, Nat.reduceLeDiff, Nat.reduceAdd, Nat.reduceMul, Int.reduceToNat, Int.reduceLE, Int.reduceLT, ret_n, resVs, oneV]
                      exact ⟨_, rfl, ivA l, ⟨l, rfl, List.Perm.refl l⟩, by simp [AV.lbs, lbss], ((ivA_len _).trans (List.Perm.refl l).length_eq).trans (ivA_len l).symm, by simp [upd_at]⟩
                  · rw [show decide (((mid : Nat) : Int) < ((e : Nat) : Int)) = false by simpa using q5]
                    simp only [↓aX, evp, evq, evl, boxK, stillV, binV, AV.cells, mP, loadV, storeV, ldV, AV.stb, AV.one, IV.av1, Lb.app, Lb.fresh, reduceCtorEq, ptrL, appL, fillA, chunks, ivs, AV.iv, mkE, if_false, if_true, List.not_mem_nil, forall_eq, beq_self_eq_true, List.isEmpty_nil, Nat.reduceEqDiff, Nat.reduceLT, Nat.reduceLeDiff, Nat.reduceAdd, Nat.reduceMul, Int.reduceToNat, Int.reduceLE, Int.reduceLT, ret_n, resVs, oneV]
                    exact ⟨_, rfl, ivA l, ⟨l, rfl, List.Perm.refl l⟩, by simp [AV.lbs, lbss], ((ivA_len _).trans (List.Perm.refl l).length_eq).trans (ivA_len l).symm, by simp [upd_at]⟩
              · rw [show decide (((a : Nat) : Int) < ((i : Nat) : Int)) = false by simpa using q3]
                simp only [↓aX, evp, evq, evl, boxK, stillV, binV, AV.cells, mP, loadV, storeV, ldV, AV.stb, AV.one, IV.av1, Lb.app, Lb.fresh, reduceCtorEq, ptrL, appL, fillA, chunks, ivs, AV.iv, mkE, if_false, if_true, List.not_mem_nil, forall_eq, beq_self_eq_true, List.isEmpty_nil, Nat.reduceEqDiff, Nat.reduceLT, Nat.reduceLeDiff, Nat.reduceAdd, Nat.reduceMul, Int.reduceToNat, Int.reduceLE, Int.reduceLT]
                by_cases q5 : mid < e
                · rw [show decide (((mid : Nat) : Int) < ((e : Nat) : Int)) = true by simpa using q5]
                  simp only [↓aX, evp, evq, evl, boxK, stillV, binV, AV.cells, mP, loadV, storeV, ldV, AV.stb, AV.one, IV.av1, Lb.app, Lb.fresh, reduceCtorEq, ptrL, appL, fillA, chunks, ivs, AV.iv, mkE, if_false, if_true, List.not_mem_nil, forall_eq, beq_self_eq_true, List.isEmpty_nil, Nat.reduceEqDiff, Nat.reduceLT, Nat.reduceLeDiff, Nat.reduceAdd, Nat.reduceMul, Int.reduceToNat, Int.reduceLE, Int.reduceLT]
                  by_cases q6 : e < b
                  · rw [show decide (((e : Nat) : Int) < ((b : Nat) : Int)) = true by simpa using q6]
                    simp only [↓aX, evp, evq, evl, boxK, stillV, binV, AV.cells, mP, loadV, storeV, ldV, AV.stb, AV.one, IV.av1, Lb.app, Lb.fresh, reduceCtorEq, ptrL, appL, fillA, chunks, ivs, AV.iv, mkE, if_false, if_true, List.not_mem_nil, forall_eq, beq_self_eq_true, List.isEmpty_nil, Nat.reduceEqDiff, Nat.reduceLT, Nat.reduceLeDiff, Nat.reduceAdd, Nat.reduceMul, Int.reduceToNat, Int.reduceLE, Int.reduceLT]
                    have hlz : (l).length = l.length := (List.Perm.refl l).length_eq
                    have hc := ih (l) (by omega) mid e b q5 q6 (by omega) (by omega)
                    rw [hlz] at hc
                    refine callT_row (l := .par 0) hc (by simp [rens, ren, atL]) (by simp [upd_at]) ?_
                    rintro x1 ys ⟨z3, rfl, hz3⟩ _ _
                    simp only [↓aX, evp, evq, evl, boxK, stillV, binV, AV.cells, mP, loadV, storeV, ldV, AV.stb, AV.one, IV.av1, Lb.app, Lb.fresh, reduceCtorEq, ptrL, appL, fillA, chunks, ivs, AV.iv, mkE, if_false, if_true, List.not_mem_nil, forall_eq, beq_self_eq_true, List.isEmpty_nil, Nat.reduceEqDiff, Nat.reduceLT, Nat.reduceLeDiff, Nat.reduceAdd, Nat.reduceMul, Int.reduceToNat, Int.reduceLE, Int.reduceLT, ret_n, resVs, oneV]
                    exact ⟨_, rfl, ivA z3, ⟨z3, rfl, hz3.trans (List.Perm.refl l)⟩, by simp [AV.lbs, lbss], ((ivA_len _).trans (hz3.trans (List.Perm.refl l)).length_eq).trans (ivA_len l).symm, by simp [upd_at]⟩
                  · rw [show decide (((e : Nat) : Int) < ((b : Nat) : Int)) = false by simpa using q6]
                    simp only [↓aX, evp, evq, evl, boxK, stillV, binV, AV.cells, mP, loadV, storeV, ldV, AV.stb, AV.one, IV.av1, Lb.app, Lb.fresh, reduceCtorEq, ptrL, appL, fillA, chunks, ivs, AV.iv, mkE, if_false, if_true, List.not_mem_nil, forall_eq, beq_self_eq_true, List.isEmpty_nil, Nat.reduceEqDiff, Nat.reduceLT, Nat.reduceLeDiff, Nat.reduceAdd, Nat.reduceMul, Int.reduceToNat, Int.reduceLE, Int.reduceLT, ret_n, resVs, oneV]
                    exact ⟨_, rfl, ivA l, ⟨l, rfl, List.Perm.refl l⟩, by simp [AV.lbs, lbss], ((ivA_len _).trans (List.Perm.refl l).length_eq).trans (ivA_len l).symm, by simp [upd_at]⟩
                · rw [show decide (((mid : Nat) : Int) < ((e : Nat) : Int)) = false by simpa using q5]
                  simp only [↓aX, evp, evq, evl, boxK, stillV, binV, AV.cells, mP, loadV, storeV, ldV, AV.stb, AV.one, IV.av1, Lb.app, Lb.fresh, reduceCtorEq, ptrL, appL, fillA, chunks, ivs, AV.iv, mkE, if_false, if_true, List.not_mem_nil, forall_eq, beq_self_eq_true, List.isEmpty_nil, Nat.reduceEqDiff, Nat.reduceLT, Nat.reduceLeDiff, Nat.reduceAdd, Nat.reduceMul, Int.reduceToNat, Int.reduceLE, Int.reduceLT, ret_n, resVs, oneV]
                  exact ⟨_, rfl, ivA l, ⟨l, rfl, List.Perm.refl l⟩, by simp [AV.lbs, lbss], ((ivA_len _).trans (List.Perm.refl l).length_eq).trans (ivA_len l).symm, by simp [upd_at]⟩
end
end Go.Am
