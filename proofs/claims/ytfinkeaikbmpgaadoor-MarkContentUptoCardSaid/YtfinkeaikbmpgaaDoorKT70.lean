import Derived.Test.YtfinkeaikbmpgaaDoorKT68
import Derived.Test.YtfinkeaikbmpgaaDoorKAm34
set_option linter.unusedSimpArgs false
set_option linter.unusedVariables false
set_option linter.unnecessarySimpa false
set_option linter.defProp false
/- What the laws of mark ask: MarkBack, MarkOnce, MarkContent. -/
set_option pp.deepTerms false
set_option pp.deepTerms.threshold 5
namespace Go.Am
open Go Go.RowKit
def mk0 : Tree := .mk false [97] [⟨[98], [60]⟩] [.mk true [120] [] [], .mk false [99] [] []]
theorem mk0_sh : mk0.sh = [60, 97, 32, 98, 61, 34, 38, 108, 116, 59, 34, 62, 120, 60, 99, 47, 62, 60, 47, 97, 62] := by decide +kernel
theorem mk0_good : mk0.good = true := by decide +kernel
theorem Tree.good_of {x : Tree} (h : x.good = true) : x.text = false ∧ x.dep ≤ 8 ∧ x.fine = true ∧ x.cnt ≤ 80 := by
  unfold Tree.good at h
  simp only [Bool.and_eq_true, Bool.not_eq_true', decide_eq_true_eq] at h
  exact ⟨h.1, by omega, h.2.2.2, by omega⟩
theorem parse_sh {x : Tree} (h : x.good = true) (hl : x.sh.length ≤ 2500) : parseF x.sh = (x, 0) := by
  obtain ⟨h1, h2, h3, _⟩ := Tree.good_of h
  have := elementF_sh x 8 [] h3 h1 h2
  rw [List.append_nil] at this
  unfold parseF parseK
  rw [if_neg (by omega), this]
  simp only [h, if_true]
theorem print_good {x : Tree} (h : x.good = true) (hl : x.sh.length ≤ 2500) : printF x = (x.sh, 0) := by
  unfold printF; rw [if_pos h, if_neg (by omega)]
theorem print_long {x : Tree} (h : x.good = true) (hl : 2500 < x.sh.length) : printF x = ([], 2) := by
  unfold printF; rw [if_pos h, if_pos hl]
theorem print_bad {x : Tree} (h : x.good = false) : printF x = ([], 1) := by
  unfold printF; rw [if_neg (by rw [h]; decide)]
theorem parse_cases (s : Bs) : (∃ t, parseF s = (t, 0) ∧ t.good = true ∧ t.wt ≤ 3 * s.length) ∨ ∃ e, e ≠ 0 ∧ parseF s = (noT, e) := by
  unfold parseF
  split
  · exact .inr ⟨2, by decide, rfl⟩
  · unfold parseK
    split
    · rename_i t he
      have := elementF_len 8 s t [] he
      by_cases hg : t.good = true
      · rw [if_pos hg]; exact .inl ⟨t, rfl, hg, by omega⟩
      · rw [if_neg hg]; exact .inr ⟨1, by decide, rfl⟩
    · exact .inr ⟨1, by decide, rfl⟩
theorem e20 : ((2 : Int) != 0) = true := rfl
theorem e10 : ((1 : Int) != 0) = true := rfl
theorem e00 : ((0 : Int) != 0) = false := rfl
theorem q22 : ((2 : Int) == 2) = true := rfl
theorem q12 : ((1 : Int) == 2) = false := rfl
theorem q00 : ((0 : Int) == 0) = true := rfl
section
variable {P : Program} {G : Nat → Option (List IV)}
def c_topiarykeep_marks (f_mark_Parse f_mark_Print : Nat) : AC :=
(.seq (.reg [⟨(some 0), none, (.mov (.c (.bool false)))⟩]) (.seq (.reg [⟨(some 6), none, (.call f_mark_Parse [(.c (.str [60, 97, 32, 98, 61, 34, 38, 108, 116, 59, 34, 62, 120, 60, 99, 47, 62, 60, 47, 97, 62]))])⟩, ⟨(some 5), none, (.mov (.t 6))⟩, ⟨(some 7), none, (.ext (.t 5) 0)⟩, ⟨(some 8), none, (.ext (.t 5) 1)⟩, ⟨(some 1), none, (.new [(.bool false), (.str []), .nil0, .nil0])⟩, ⟨none, none, (.store 4 (.t 1) (.t 7))⟩, ⟨(some 2), none, (.mov (.t 8))⟩]) (.seq (.reg [⟨(some 10), none, (.load (some 4) (.t 1))⟩, ⟨(some 11), none, (.call f_mark_Print [(.t 10)])⟩, ⟨(some 9), none, (.mov (.t 11))⟩, ⟨(some 12), none, (.ext (.t 9) 0)⟩, ⟨(some 13), none, (.ext (.t 9) 1)⟩, ⟨(some 3), none, (.mov (.t 12))⟩, ⟨(some 4), none, (.mov (.t 13))⟩]) (.seq (.reg [⟨(some 14), none, (.mov (.t 2))⟩, ⟨(some 15), none, (.bin .eql (.t 14) (.c (.int .i64 0)))⟩, ⟨(some 16), none, (.mov (.t 15))⟩, ⟨(some 17), (some (16, true)), (.mov (.t 4))⟩, ⟨(some 18), (some (16, true)), (.bin .eql (.t 17) (.c (.int .i64 0)))⟩, ⟨(some 19), none, (.pick (.t 16) (.t 18) (.c (.bool false)))⟩, ⟨(some 20), none, (.mov (.t 19))⟩, ⟨(some 21), (some (20, true)), (.mov (.t 3))⟩, ⟨(some 22), (some (20, true)), (.bin .eql (.t 21) (.c (.str [60, 97, 32, 98, 61, 34, 38, 108, 116, 59, 34, 62, 120, 60, 99, 47, 62, 60, 47, 97, 62])))⟩, ⟨(some 23), none, (.pick (.t 20) (.t 22) (.c (.bool false)))⟩, ⟨(some 0), none, (.mov (.t 23))⟩]) .ret))))
theorem pMarks {f_topiarykeep_marks f_mark_Parse f_mark_Print : Nat} (hF : compF P G f_topiarykeep_marks = some (24, [(none, 0)], (c_topiarykeep_marks f_mark_Parse f_mark_Print).bare))
    (hP : PureC P G f_mark_Parse [.str mk0.sh] (.tup [(parseF mk0.sh).1.av, .int .i64 (parseF mk0.sh).2])) (hQ : PureC P G f_mark_Print [mk0.av] (.tup [.str (printF mk0).1, .int .i64 (printF mk0).2])) :
    PureC P G f_topiarykeep_marks [] (.bool true) := by
  refine pure_of_go hF (by simp) (by simp [lbss, AV.lbs]) (by simp [AV.lbs]) ?_
  have hl : mk0.sh.length ≤ 2500 := by rw [mk0_sh]; decide
  rw [parse_sh mk0_good hl] at hP
  rw [print_good mk0_good hl] at hQ
  rw [mk0_sh] at hP hQ
  simp only [Tree.av] at hP hQ
  unfold c_topiarykeep_marks
  simp only [↓aX, evp, evq, evl, boxK, stillV, binV, AV.cells, mP, loadV, storeV, ldV, AV.stb, AV.one, IV.av1, Lb.app, Lb.fresh, reduceCtorEq, ptrL, appL, fillA, chunks, ivs, AV.iv, mkE, if_false, if_true, List.not_mem_nil, forall_eq, beq_self_eq_true, List.isEmpty_nil, Nat.reduceEqDiff, Nat.reduceLT, Nat.reduceLeDiff, Nat.reduceAdd, Nat.reduceMul, Int.reduceToNat, Int.reduceLE, Int.reduceLT, e20, e10, e00, q22, q12, q00, Bool.not_true, Bool.not_false]
  refine callT_pure hP ?_
  simp only [↓aX, evp, evq, evl, boxK, stillV, binV, AV.cells, mP, loadV, storeV, ldV, AV.stb, AV.one, IV.av1, Lb.app, Lb.fresh, reduceCtorEq, ptrL, appL, fillA, chunks, ivs, AV.iv, mkE, if_false, if_true, List.not_mem_nil, forall_eq, beq_self_eq_true, List.isEmpty_nil, Nat.reduceEqDiff, Nat.reduceLT, Nat.reduceLeDiff, Nat.reduceAdd, Nat.reduceMul, Int.reduceToNat, Int.reduceLE, Int.reduceLT, e20, e10, e00, q22, q12, q00, Bool.not_true, Bool.not_false]
  refine callT_pure hQ ?_
  simp only [↓aX, evp, evq, evl, boxK, stillV, binV, AV.cells, mP, loadV, storeV, ldV, AV.stb, AV.one, IV.av1, Lb.app, Lb.fresh, reduceCtorEq, ptrL, appL, fillA, chunks, ivs, AV.iv, mkE, if_false, if_true, List.not_mem_nil, forall_eq, beq_self_eq_true, List.isEmpty_nil, Nat.reduceEqDiff, Nat.reduceLT, Nat.reduceLeDiff, Nat.reduceAdd, Nat.reduceMul, Int.reduceToNat, Int.reduceLE, Int.reduceLT, e20, e10, e00, q22, q12, q00, Bool.not_true, Bool.not_false, ↓ret1_r]
def c_topiarykeep_MarkBack (f_mark_Print f_topiarykeep_marks f_tree_Good f_mark_Parse f_topiarykeep_same : Nat) : AC :=
(.seq (.reg [⟨(some 1), none, (.box (.t 0))⟩, ⟨(some 2), none, (.mov (.c (.bool false)))⟩]) (.seq (.reg [⟨(some 8), none, (.load (some 4) (.t 1))⟩, ⟨(some 9), none, (.call f_mark_Print [(.t 8)])⟩, ⟨(some 7), none, (.mov (.t 9))⟩, ⟨(some 10), none, (.ext (.t 7) 0)⟩, ⟨(some 11), none, (.ext (.t 7) 1)⟩, ⟨(some 3), none, (.mov (.t 10))⟩, ⟨(some 4), none, (.mov (.t 11))⟩]) (.seq (.seq (.reg [⟨(some 12), none, (.mov (.t 4))⟩, ⟨(some 13), none, (.bin .neq (.t 12) (.c (.int .i64 0)))⟩, ⟨(some 14), none, (.mov (.t 13))⟩, ⟨(some 15), (some (14, false)), (.call f_topiarykeep_marks [])⟩, ⟨(some 16), (some (14, false)), (.not (.t 15))⟩, ⟨(some 17), none, (.pick (.t 14) (.c (.bool true)) (.t 16))⟩]) (.cond (.t 17) (.seq (.reg [⟨(some 18), none, (.mov (.t 3))⟩, ⟨(some 19), none, (.bin .eql (.t 18) (.c (.str [])))⟩, ⟨(some 20), none, (.mov (.t 19))⟩, ⟨(some 21), (some (20, true)), (.mov (.t 4))⟩, ⟨(some 22), (some (20, true)), (.bin .eql (.t 21) (.c (.int .i64 2)))⟩, ⟨(some 23), (some (20, true)), (.load (some 4) (.t 1))⟩, ⟨(some 24), (some (20, true)), (.call f_tree_Good [(.t 23)])⟩, ⟨(some 25), (some (20, true)), (.eqb false (.t 22) (.t 24))⟩, ⟨(some 26), none, (.pick (.t 20) (.t 25) (.c (.bool false)))⟩, ⟨(some 27), none, (.mov (.t 26))⟩, ⟨(some 28), (some (27, true)), (.call f_topiarykeep_marks [])⟩, ⟨(some 29), none, (.pick (.t 27) (.t 28) (.c (.bool false)))⟩, ⟨(some 2), none, (.mov (.t 29))⟩]) .ret) .skip)) (.seq (.reg [⟨(some 31), none, (.mov (.t 3))⟩, ⟨(some 32), none, (.call f_mark_Parse [(.t 31)])⟩, ⟨(some 30), none, (.mov (.t 32))⟩, ⟨(some 33), none, (.ext (.t 30) 0)⟩, ⟨(some 34), none, (.ext (.t 30) 1)⟩, ⟨(some 5), none, (.new [(.bool false), (.str []), .nil0, .nil0])⟩, ⟨none, none, (.store 4 (.t 5) (.t 33))⟩, ⟨(some 6), none, (.mov (.t 34))⟩]) (.seq (.reg [⟨(some 35), none, (.mov (.t 6))⟩, ⟨(some 36), none, (.bin .eql (.t 35) (.c (.int .i64 0)))⟩, ⟨(some 37), none, (.mov (.t 36))⟩, ⟨(some 38), (some (37, true)), (.load (some 4) (.t 1))⟩, ⟨(some 39), (some (37, true)), (.load (some 4) (.t 5))⟩, ⟨(some 40), (some (37, true)), (.call f_topiarykeep_same [(.t 38), (.t 39)])⟩, ⟨(some 41), none, (.pick (.t 37) (.t 40) (.c (.bool false)))⟩, ⟨(some 2), none, (.mov (.t 41))⟩]) .ret)))))
theorem pMarkBack {f_topiarykeep_MarkBack f_mark_Print f_topiarykeep_marks f_tree_Good f_mark_Parse f_topiarykeep_same : Nat} (hF : compF P G f_topiarykeep_MarkBack = some (42, [(none, 2)], (c_topiarykeep_MarkBack f_mark_Print f_topiarykeep_marks f_tree_Good f_mark_Parse f_topiarykeep_same).bare)) (x : Tree)
    (hP : ∀ s : Bs, s.length ≤ 2500 → PureC P G f_mark_Parse [.str s] (.tup [(parseF s).1.av, .int .i64 (parseF s).2])) (hQ : PureC P G f_mark_Print [x.av] (.tup [.str (printF x).1, .int .i64 (printF x).2]))
    (hM : PureC P G f_topiarykeep_marks [] (.bool true)) (hG : PureC P G f_tree_Good [x.av] (.bool x.good)) (hS : PureC P G f_topiarykeep_same [x.av, x.av] (.bool (eqB x x))) :
    PureC P G f_topiarykeep_MarkBack [x.av] (.bool true) := by
  refine pure_of_go hF (by simp) (by simp [lbss, AV.lbs, Tree.av]) (by simp [AV.lbs]) ?_
  unfold c_topiarykeep_MarkBack
  by_cases hg : x.good = true
  · by_cases hl : 2500 < x.sh.length
    · rw [print_long hg hl] at hQ
      rw [hg] at hG
      simp only [Tree.av] at hQ hG
      simp only [↓aX, evp, evq, evl, boxK, stillV, binV, AV.cells, mP, loadV, storeV, ldV, AV.stb, AV.one, IV.av1, Lb.app, Lb.fresh, reduceCtorEq, ptrL, appL, fillA, chunks, ivs, AV.iv, mkE, if_false, if_true, List.not_mem_nil, forall_eq, beq_self_eq_true, List.isEmpty_nil, Nat.reduceEqDiff, Nat.reduceLT, Nat.reduceLeDiff, Nat.reduceAdd, Nat.reduceMul, Int.reduceToNat, Int.reduceLE, Int.reduceLT, e20, e10, e00, q22, q12, q00, Bool.not_true, Bool.not_false, Tree.av]
      refine callT_pure hQ ?_
      simp only [↓aX, evp, evq, evl, boxK, stillV, binV, AV.cells, mP, loadV, storeV, ldV, AV.stb, AV.one, IV.av1, Lb.app, Lb.fresh, reduceCtorEq, ptrL, appL, fillA, chunks, ivs, AV.iv, mkE, if_false, if_true, List.not_mem_nil, forall_eq, beq_self_eq_true, List.isEmpty_nil, Nat.reduceEqDiff, Nat.reduceLT, Nat.reduceLeDiff, Nat.reduceAdd, Nat.reduceMul, Int.reduceToNat, Int.reduceLE, Int.reduceLT, e20, e10, e00, q22, q12, q00, Bool.not_true, Bool.not_false]
      refine callT_pure hG ?_
      simp only [↓aX, evp, evq, evl, boxK, stillV, binV, AV.cells, mP, loadV, storeV, ldV, AV.stb, AV.one, IV.av1, Lb.app, Lb.fresh, reduceCtorEq, ptrL, appL, fillA, chunks, ivs, AV.iv, mkE, if_false, if_true, List.not_mem_nil, forall_eq, beq_self_eq_true, List.isEmpty_nil, Nat.reduceEqDiff, Nat.reduceLT, Nat.reduceLeDiff, Nat.reduceAdd, Nat.reduceMul, Int.reduceToNat, Int.reduceLE, Int.reduceLT, e20, e10, e00, q22, q12, q00, Bool.not_true, Bool.not_false]
      refine callT_pure hM ?_
      simp only [↓aX, evp, evq, evl, boxK, stillV, binV, AV.cells, mP, loadV, storeV, ldV, AV.stb, AV.one, IV.av1, Lb.app, Lb.fresh, reduceCtorEq, ptrL, appL, fillA, chunks, ivs, AV.iv, mkE, if_false, if_true, List.not_mem_nil, forall_eq, beq_self_eq_true, List.isEmpty_nil, Nat.reduceEqDiff, Nat.reduceLT, Nat.reduceLeDiff, Nat.reduceAdd, Nat.reduceMul, Int.reduceToNat, Int.reduceLE, Int.reduceLT, e20, e10, e00, q22, q12, q00, Bool.not_true, Bool.not_false, ↓ret1_r]
    · have hl' : x.sh.length ≤ 2500 := by omega
      have hP := hP _ hl'
      rw [print_good hg hl'] at hQ
      rw [parse_sh hg hl'] at hP
      rw [eqB_self] at hS
      simp only [Tree.av] at hQ hP hS
      simp only [↓aX, evp, evq, evl, boxK, stillV, binV, AV.cells, mP, loadV, storeV, ldV, AV.stb, AV.one, IV.av1, Lb.app, Lb.fresh, reduceCtorEq, ptrL, appL, fillA, chunks, ivs, AV.iv, mkE, if_false, if_true, List.not_mem_nil, forall_eq, beq_self_eq_true, List.isEmpty_nil, Nat.reduceEqDiff, Nat.reduceLT, Nat.reduceLeDiff, Nat.reduceAdd, Nat.reduceMul, Int.reduceToNat, Int.reduceLE, Int.reduceLT, e20, e10, e00, q22, q12, q00, Bool.not_true, Bool.not_false, Tree.av]
      refine callT_pure hQ ?_
      simp only [↓aX, evp, evq, evl, boxK, stillV, binV, AV.cells, mP, loadV, storeV, ldV, AV.stb, AV.one, IV.av1, Lb.app, Lb.fresh, reduceCtorEq, ptrL, appL, fillA, chunks, ivs, AV.iv, mkE, if_false, if_true, List.not_mem_nil, forall_eq, beq_self_eq_true, List.isEmpty_nil, Nat.reduceEqDiff, Nat.reduceLT, Nat.reduceLeDiff, Nat.reduceAdd, Nat.reduceMul, Int.reduceToNat, Int.reduceLE, Int.reduceLT, e20, e10, e00, q22, q12, q00, Bool.not_true, Bool.not_false]
      refine callT_pure hM ?_
      simp only [↓aX, evp, evq, evl, boxK, stillV, binV, AV.cells, mP, loadV, storeV, ldV, AV.stb, AV.one, IV.av1, Lb.app, Lb.fresh, reduceCtorEq, ptrL, appL, fillA, chunks, ivs, AV.iv, mkE, if_false, if_true, List.not_mem_nil, forall_eq, beq_self_eq_true, List.isEmpty_nil, Nat.reduceEqDiff, Nat.reduceLT, Nat.reduceLeDiff, Nat.reduceAdd, Nat.reduceMul, Int.reduceToNat, Int.reduceLE, Int.reduceLT, e20, e10, e00, q22, q12, q00, Bool.not_true, Bool.not_false]
      refine callT_pure hP ?_
      simp only [↓aX, evp, evq, evl, boxK, stillV, binV, AV.cells, mP, loadV, storeV, ldV, AV.stb, AV.one, IV.av1, Lb.app, Lb.fresh, reduceCtorEq, ptrL, appL, fillA, chunks, ivs, AV.iv, mkE, if_false, if_true, List.not_mem_nil, forall_eq, beq_self_eq_true, List.isEmpty_nil, Nat.reduceEqDiff, Nat.reduceLT, Nat.reduceLeDiff, Nat.reduceAdd, Nat.reduceMul, Int.reduceToNat, Int.reduceLE, Int.reduceLT, e20, e10, e00, q22, q12, q00, Bool.not_true, Bool.not_false]
      refine callT_pure hS ?_
      simp only [↓aX, evp, evq, evl, boxK, stillV, binV, AV.cells, mP, loadV, storeV, ldV, AV.stb, AV.one, IV.av1, Lb.app, Lb.fresh, reduceCtorEq, ptrL, appL, fillA, chunks, ivs, AV.iv, mkE, if_false, if_true, List.not_mem_nil, forall_eq, beq_self_eq_true, List.isEmpty_nil, Nat.reduceEqDiff, Nat.reduceLT, Nat.reduceLeDiff, Nat.reduceAdd, Nat.reduceMul, Int.reduceToNat, Int.reduceLE, Int.reduceLT, e20, e10, e00, q22, q12, q00, Bool.not_true, Bool.not_false, ↓ret1_r]
  · have hg : x.good = false := by simpa using hg
    rw [print_bad hg] at hQ
    rw [hg] at hG
    simp only [Tree.av] at hQ hG
    simp only [↓aX, evp, evq, evl, boxK, stillV, binV, AV.cells, mP, loadV, storeV, ldV, AV.stb, AV.one, IV.av1, Lb.app, Lb.fresh, reduceCtorEq, ptrL, appL, fillA, chunks, ivs, AV.iv, mkE, if_false, if_true, List.not_mem_nil, forall_eq, beq_self_eq_true, List.isEmpty_nil, Nat.reduceEqDiff, Nat.reduceLT, Nat.reduceLeDiff, Nat.reduceAdd, Nat.reduceMul, Int.reduceToNat, Int.reduceLE, Int.reduceLT, e20, e10, e00, q22, q12, q00, Bool.not_true, Bool.not_false, Tree.av]
    refine callT_pure hQ ?_
    simp only [↓aX, evp, evq, evl, boxK, stillV, binV, AV.cells, mP, loadV, storeV, ldV, AV.stb, AV.one, IV.av1, Lb.app, Lb.fresh, reduceCtorEq, ptrL, appL, fillA, chunks, ivs, AV.iv, mkE, if_false, if_true, List.not_mem_nil, forall_eq, beq_self_eq_true, List.isEmpty_nil, Nat.reduceEqDiff, Nat.reduceLT, Nat.reduceLeDiff, Nat.reduceAdd, Nat.reduceMul, Int.reduceToNat, Int.reduceLE, Int.reduceLT, e20, e10, e00, q22, q12, q00, Bool.not_true, Bool.not_false]
    refine callT_pure hG ?_
    simp only [↓aX, evp, evq, evl, boxK, stillV, binV, AV.cells, mP, loadV, storeV, ldV, AV.stb, AV.one, IV.av1, Lb.app, Lb.fresh, reduceCtorEq, ptrL, appL, fillA, chunks, ivs, AV.iv, mkE, if_false, if_true, List.not_mem_nil, forall_eq, beq_self_eq_true, List.isEmpty_nil, Nat.reduceEqDiff, Nat.reduceLT, Nat.reduceLeDiff, Nat.reduceAdd, Nat.reduceMul, Int.reduceToNat, Int.reduceLE, Int.reduceLT, e20, e10, e00, q22, q12, q00, Bool.not_true, Bool.not_false]
    refine callT_pure hM ?_
    simp only [↓aX, evp, evq, evl, boxK, stillV, binV, AV.cells, mP, loadV, storeV, ldV, AV.stb, AV.one, IV.av1, Lb.app, Lb.fresh, reduceCtorEq, ptrL, appL, fillA, chunks, ivs, AV.iv, mkE, if_false, if_true, List.not_mem_nil, forall_eq, beq_self_eq_true, List.isEmpty_nil, Nat.reduceEqDiff, Nat.reduceLT, Nat.reduceLeDiff, Nat.reduceAdd, Nat.reduceMul, Int.reduceToNat, Int.reduceLE, Int.reduceLT, e20, e10, e00, q22, q12, q00, Bool.not_true, Bool.not_false, ↓ret1_r]
def c_topiarykeep_MarkOnce (f_mark_Parse f_topiarykeep_marks f_topiarykeep_same f_mark_Print f_tree_Good : Nat) : AC :=
(.seq (.reg [⟨(some 2), none, (.mov (.c (.bool false)))⟩]) (.seq (.reg [⟨(some 10), none, (.mov (.t 0))⟩, ⟨(some 11), none, (.call f_mark_Parse [(.t 10)])⟩, ⟨(some 9), none, (.mov (.t 11))⟩, ⟨(some 12), none, (.ext (.t 9) 0)⟩, ⟨(some 13), none, (.ext (.t 9) 1)⟩, ⟨(some 3), none, (.new [(.bool false), (.str []), .nil0, .nil0])⟩, ⟨none, none, (.store 4 (.t 3) (.t 12))⟩, ⟨(some 4), none, (.mov (.t 13))⟩]) (.seq (.seq (.reg [⟨(some 14), none, (.mov (.t 4))⟩, ⟨(some 15), none, (.bin .neq (.t 14) (.c (.int .i64 0)))⟩, ⟨(some 16), none, (.mov (.t 15))⟩, ⟨(some 17), (some (16, false)), (.call f_topiarykeep_marks [])⟩, ⟨(some 18), (some (16, false)), (.not (.t 17))⟩, ⟨(some 19), none, (.pick (.t 16) (.c (.bool true)) (.t 18))⟩]) (.cond (.t 19) (.seq (.reg [⟨(some 20), none, (.load (some 4) (.t 3))⟩, ⟨(some 21), none, (.bld [(.bool false), (.str []), .nil0, .nil0] [])⟩, ⟨(some 22), none, (.call f_topiarykeep_same [(.t 20), (.t 21)])⟩, ⟨(some 23), none, (.mov (.t 22))⟩, ⟨(some 24), (some (23, true)), (.call f_topiarykeep_marks [])⟩, ⟨(some 25), none, (.pick (.t 23) (.t 24) (.c (.bool false)))⟩, ⟨(some 2), none, (.mov (.t 25))⟩]) .ret) .skip)) (.seq (.reg [⟨(some 27), none, (.load (some 4) (.t 3))⟩, ⟨(some 28), none, (.call f_mark_Print [(.t 27)])⟩, ⟨(some 26), none, (.mov (.t 28))⟩, ⟨(some 29), none, (.ext (.t 26) 0)⟩, ⟨(some 30), none, (.ext (.t 26) 1)⟩, ⟨(some 5), none, (.mov (.t 29))⟩, ⟨(some 6), none, (.mov (.t 30))⟩]) (.seq (.seq (.reg [⟨(some 31), none, (.mov (.t 6))⟩, ⟨(some 32), none, (.bin .neq (.t 31) (.c (.int .i64 0)))⟩]) (.cond (.t 32) (.seq (.reg [⟨(some 33), none, (.mov (.t 6))⟩, ⟨(some 34), none, (.bin .eql (.t 33) (.c (.int .i64 2)))⟩, ⟨(some 35), none, (.mov (.t 34))⟩, ⟨(some 36), (some (35, true)), (.load (some 4) (.t 3))⟩, ⟨(some 37), (some (35, true)), (.call f_tree_Good [(.t 36)])⟩, ⟨(some 38), none, (.pick (.t 35) (.t 37) (.c (.bool false)))⟩, ⟨(some 2), none, (.mov (.t 38))⟩]) .ret) .skip)) (.seq (.reg [⟨(some 40), none, (.mov (.t 5))⟩, ⟨(some 41), none, (.call f_mark_Parse [(.t 40)])⟩, ⟨(some 39), none, (.mov (.t 41))⟩, ⟨(some 42), none, (.ext (.t 39) 0)⟩, ⟨(some 43), none, (.ext (.t 39) 1)⟩, ⟨(some 7), none, (.new [(.bool false), (.str []), .nil0, .nil0])⟩, ⟨none, none, (.store 4 (.t 7) (.t 42))⟩, ⟨(some 8), none, (.mov (.t 43))⟩]) (.seq (.reg [⟨(some 44), none, (.mov (.t 8))⟩, ⟨(some 45), none, (.bin .eql (.t 44) (.c (.int .i64 0)))⟩, ⟨(some 46), none, (.mov (.t 45))⟩, ⟨(some 47), (some (46, true)), (.load (some 4) (.t 3))⟩, ⟨(some 48), (some (46, true)), (.load (some 4) (.t 7))⟩, ⟨(some 49), (some (46, true)), (.call f_topiarykeep_same [(.t 47), (.t 48)])⟩, ⟨(some 50), none, (.pick (.t 46) (.t 49) (.c (.bool false)))⟩, ⟨(some 2), none, (.mov (.t 50))⟩]) .ret)))))))
theorem pMarkOnce {f_topiarykeep_MarkOnce f_mark_Print f_topiarykeep_marks f_tree_Good f_mark_Parse f_topiarykeep_same : Nat} (hF : compF P G f_topiarykeep_MarkOnce = some (51, [(none, 2)], (c_topiarykeep_MarkOnce f_mark_Parse f_topiarykeep_marks f_topiarykeep_same f_mark_Print f_tree_Good).bare)) (s : Bs) (hs : s.length ≤ B)
    (hP : ∀ s : Bs, s.length ≤ B → PureC P G f_mark_Parse [.str s] (.tup [(parseF s).1.av, .int .i64 (parseF s).2])) (hQ : ∀ x : Tree, x.wt ≤ 3 * s.length → PureC P G f_mark_Print [x.av] (.tup [.str (printF x).1, .int .i64 (printF x).2]))
    (hM : PureC P G f_topiarykeep_marks [] (.bool true)) (hG : ∀ x : Tree, x.wt ≤ 3 * s.length → PureC P G f_tree_Good [x.av] (.bool x.good)) (hS : ∀ x : Tree, x.wt ≤ 3 * s.length + 1 → PureC P G f_topiarykeep_same [x.av, x.av] (.bool (eqB x x))) :
    PureC P G f_topiarykeep_MarkOnce [.str s] (.bool true) := by
  refine pure_of_go hF (by simp) (by simp [lbss, AV.lbs]) (by simp [AV.lbs]) ?_
  unfold c_topiarykeep_MarkOnce
  have hP0 := hP s hs
  rcases parse_cases s with ⟨t, he, hg, hw⟩ | ⟨e, hne, he⟩
  · rw [he] at hP0
    have hQ := hQ t hw
    have hG := hG t hw
    have hS := hS t (by omega)
    rw [hg] at hG
    rw [eqB_self] at hS
    simp only [Tree.av] at hP0 hG hS
    simp only [↓aX, evp, evq, evl, boxK, stillV, binV, AV.cells, mP, loadV, storeV, ldV, AV.stb, AV.one, IV.av1, Lb.app, Lb.fresh, reduceCtorEq, ptrL, appL, fillA, chunks, ivs, AV.iv, mkE, if_false, if_true, List.not_mem_nil, forall_eq, beq_self_eq_true, List.isEmpty_nil, Nat.reduceEqDiff, Nat.reduceLT, Nat.reduceLeDiff, Nat.reduceAdd, Nat.reduceMul, Int.reduceToNat, Int.reduceLE, Int.reduceLT, e20, e10, e00, q22, q12, q00, Bool.not_true, Bool.not_false, Tree.av]
    refine callT_pure hP0 ?_
    simp only [↓aX, evp, evq, evl, boxK, stillV, binV, AV.cells, mP, loadV, storeV, ldV, AV.stb, AV.one, IV.av1, Lb.app, Lb.fresh, reduceCtorEq, ptrL, appL, fillA, chunks, ivs, AV.iv, mkE, if_false, if_true, List.not_mem_nil, forall_eq, beq_self_eq_true, List.isEmpty_nil, Nat.reduceEqDiff, Nat.reduceLT, Nat.reduceLeDiff, Nat.reduceAdd, Nat.reduceMul, Int.reduceToNat, Int.reduceLE, Int.reduceLT, e20, e10, e00, q22, q12, q00, Bool.not_true, Bool.not_false]
    refine callT_pure hM ?_
    simp only [↓aX, evp, evq, evl, boxK, stillV, binV, AV.cells, mP, loadV, storeV, ldV, AV.stb, AV.one, IV.av1, Lb.app, Lb.fresh, reduceCtorEq, ptrL, appL, fillA, chunks, ivs, AV.iv, mkE, if_false, if_true, List.not_mem_nil, forall_eq, beq_self_eq_true, List.isEmpty_nil, Nat.reduceEqDiff, Nat.reduceLT, Nat.reduceLeDiff, Nat.reduceAdd, Nat.reduceMul, Int.reduceToNat, Int.reduceLE, Int.reduceLT, e20, e10, e00, q22, q12, q00, Bool.not_true, Bool.not_false]
    by_cases hl : 2500 < t.sh.length
    · rw [print_long hg hl] at hQ
      simp only [Tree.av] at hQ
      refine callT_pure hQ ?_
      simp only [↓aX, evp, evq, evl, boxK, stillV, binV, AV.cells, mP, loadV, storeV, ldV, AV.stb, AV.one, IV.av1, Lb.app, Lb.fresh, reduceCtorEq, ptrL, appL, fillA, chunks, ivs, AV.iv, mkE, if_false, if_true, List.not_mem_nil, forall_eq, beq_self_eq_true, List.isEmpty_nil, Nat.reduceEqDiff, Nat.reduceLT, Nat.reduceLeDiff, Nat.reduceAdd, Nat.reduceMul, Int.reduceToNat, Int.reduceLE, Int.reduceLT, e20, e10, e00, q22, q12, q00, Bool.not_true, Bool.not_false]
      refine callT_pure hG ?_
      simp only [↓aX, evp, evq, evl, boxK, stillV, binV, AV.cells, mP, loadV, storeV, ldV, AV.stb, AV.one, IV.av1, Lb.app, Lb.fresh, reduceCtorEq, ptrL, appL, fillA, chunks, ivs, AV.iv, mkE, if_false, if_true, List.not_mem_nil, forall_eq, beq_self_eq_true, List.isEmpty_nil, Nat.reduceEqDiff, Nat.reduceLT, Nat.reduceLeDiff, Nat.reduceAdd, Nat.reduceMul, Int.reduceToNat, Int.reduceLE, Int.reduceLT, e20, e10, e00, q22, q12, q00, Bool.not_true, Bool.not_false, ↓ret1_r]
    · have hl' : t.sh.length ≤ 2500 := by omega
      have hP1 := hP t.sh (by unfold B; omega)
      rw [print_good hg hl'] at hQ
      rw [parse_sh hg hl'] at hP1
      simp only [Tree.av] at hQ hP1
      refine callT_pure hQ ?_
      simp only [↓aX, evp, evq, evl, boxK, stillV, binV, AV.cells, mP, loadV, storeV, ldV, AV.stb, AV.one, IV.av1, Lb.app, Lb.fresh, reduceCtorEq, ptrL, appL, fillA, chunks, ivs, AV.iv, mkE, if_false, if_true, List.not_mem_nil, forall_eq, beq_self_eq_true, List.isEmpty_nil, Nat.reduceEqDiff, Nat.reduceLT, Nat.reduceLeDiff, Nat.reduceAdd, Nat.reduceMul, Int.reduceToNat, Int.reduceLE, Int.reduceLT, e20, e10, e00, q22, q12, q00, Bool.not_true, Bool.not_false]
      refine callT_pure hP1 ?_
      simp only [↓aX, evp, evq, evl, boxK, stillV, binV, AV.cells, mP, loadV, storeV, ldV, AV.stb, AV.one, IV.av1, Lb.app, Lb.fresh, reduceCtorEq, ptrL, appL, fillA, chunks, ivs, AV.iv, mkE, if_false, if_true, List.not_mem_nil, forall_eq, beq_self_eq_true, List.isEmpty_nil, Nat.reduceEqDiff, Nat.reduceLT, Nat.reduceLeDiff, Nat.reduceAdd, Nat.reduceMul, Int.reduceToNat, Int.reduceLE, Int.reduceLT, e20, e10, e00, q22, q12, q00, Bool.not_true, Bool.not_false]
      refine callT_pure hS ?_
      simp only [↓aX, evp, evq, evl, boxK, stillV, binV, AV.cells, mP, loadV, storeV, ldV, AV.stb, AV.one, IV.av1, Lb.app, Lb.fresh, reduceCtorEq, ptrL, appL, fillA, chunks, ivs, AV.iv, mkE, if_false, if_true, List.not_mem_nil, forall_eq, beq_self_eq_true, List.isEmpty_nil, Nat.reduceEqDiff, Nat.reduceLT, Nat.reduceLeDiff, Nat.reduceAdd, Nat.reduceMul, Int.reduceToNat, Int.reduceLE, Int.reduceLT, e20, e10, e00, q22, q12, q00, Bool.not_true, Bool.not_false, ↓ret1_r]
  · rw [he] at hP0
    have hS0 := hS noT (by simp [noT, Tree.wt, wtT, wtA])
    rw [eqB_self] at hS0
    simp only [Tree.av, noT, Tree.text, Tree.s, Tree.attrs, Tree.kids, ivA, ivT, List.map_nil] at hP0 hS0
    have hS1 : PureC P G f_topiarykeep_same [.agg [.bool false, .str [], .list [], .list []], .agg [.bool false, .str [], .nil0, .nil0]] (.bool true) := by
      refine pure_args hS0 (by simp [lbss, AV.lbs]) ?_
      intro w β H I vs h
      simp only [RVs, RV] at h ⊢
      obtain ⟨v1, us, rfl, h1, v2, us2, rfl, ⟨ws, rfl, x1, y1, rfl, k1, x2, y2, rfl, k2, x3, y3, rfl, k3, x4, y4, rfl, k4, k5⟩, h3⟩ := h
      exact ⟨v1, _, rfl, h1, _, _, rfl, ⟨_, rfl, x1, _, rfl, k1, x2, _, rfl, k2, x3, _, rfl, by simpa only [RV] using nil_list (w := w) (β := β) (H := H) (I := I) (by simpa only [RV] using k3), x4, _, rfl, by simpa only [RV] using nil_list (w := w) (β := β) (H := H) (I := I) (by simpa only [RV] using k4), k5⟩, h3⟩
    simp only [↓aX, evp, evq, evl, boxK, stillV, binV, AV.cells, mP, loadV, storeV, ldV, AV.stb, AV.one, IV.av1, Lb.app, Lb.fresh, reduceCtorEq, ptrL, appL, fillA, chunks, ivs, AV.iv, mkE, if_false, if_true, List.not_mem_nil, forall_eq, beq_self_eq_true, List.isEmpty_nil, Nat.reduceEqDiff, Nat.reduceLT, Nat.reduceLeDiff, Nat.reduceAdd, Nat.reduceMul, Int.reduceToNat, Int.reduceLE, Int.reduceLT, e20, e10, e00, q22, q12, q00, Bool.not_true, Bool.not_false]
    refine callT_pure hP0 ?_
    simp only [↓aX, evp, evq, evl, boxK, stillV, binV, AV.cells, mP, loadV, storeV, ldV, AV.stb, AV.one, IV.av1, Lb.app, Lb.fresh, reduceCtorEq, ptrL, appL, fillA, chunks, ivs, AV.iv, mkE, if_false, if_true, List.not_mem_nil, forall_eq, beq_self_eq_true, List.isEmpty_nil, Nat.reduceEqDiff, Nat.reduceLT, Nat.reduceLeDiff, Nat.reduceAdd, Nat.reduceMul, Int.reduceToNat, Int.reduceLE, Int.reduceLT, e20, e10, e00, q22, q12, q00, Bool.not_true, Bool.not_false, show (e != 0) = true by simpa using hne]
    refine callT_pure hS1 ?_
    simp only [↓aX, evp, evq, evl, boxK, stillV, binV, AV.cells, mP, loadV, storeV, ldV, AV.stb, AV.one, IV.av1, Lb.app, Lb.fresh, reduceCtorEq, ptrL, appL, fillA, chunks, ivs, AV.iv, mkE, if_false, if_true, List.not_mem_nil, forall_eq, beq_self_eq_true, List.isEmpty_nil, Nat.reduceEqDiff, Nat.reduceLT, Nat.reduceLeDiff, Nat.reduceAdd, Nat.reduceMul, Int.reduceToNat, Int.reduceLE, Int.reduceLT, e20, e10, e00, q22, q12, q00, Bool.not_true, Bool.not_false]
    refine callT_pure hM ?_
    simp only [↓aX, evp, evq, evl, boxK, stillV, binV, AV.cells, mP, loadV, storeV, ldV, AV.stb, AV.one, IV.av1, Lb.app, Lb.fresh, reduceCtorEq, ptrL, appL, fillA, chunks, ivs, AV.iv, mkE, if_false, if_true, List.not_mem_nil, forall_eq, beq_self_eq_true, List.isEmpty_nil, Nat.reduceEqDiff, Nat.reduceLT, Nat.reduceLeDiff, Nat.reduceAdd, Nat.reduceMul, Int.reduceToNat, Int.reduceLE, Int.reduceLT, e20, e10, e00, q22, q12, q00, Bool.not_true, Bool.not_false, ↓ret1_r]
end
end Go.Am

/- MarkContent; strings.HasPrefix. -/
set_option pp.deepTerms false
set_option pp.deepTerms.threshold 5
namespace Go.Am
open Go Go.RowKit
theorem cont_shs {l : List Tree} (h : fines none l = true) (hd : ∀ x ∈ l, x.dep ≤ 8) (hc : cntT l ≤ 80) (hD : depT l ≤ 8) (hl : (shs l).length ≤ 2500) : contF (shs l) = (l, 0) := by
  have := kidsF_sh l none 8 [] h hD (by simp) (.inl rfl)
  rw [List.append_nil] at this
  have hg : content l = true := by
    unfold content
    simp only [Bool.and_eq_true, List.all_eq_true, decide_eq_true_eq]
    exact ⟨hd, hc, h⟩
  unfold contF contK
  rw [if_neg (by omega), this]
  simp only [hg, if_true]
theorem depT_mem {l : List Tree} {x : Tree} (h : x ∈ l) : x.dep ≤ depT l := by
  induction l with
  | nil => cases h
  | cons y r ih =>
    simp only [depT]
    rcases List.mem_cons.1 h with rfl | h
    · omega
    · have := ih h; omega
theorem q0n : (((0 : Nat) : Int) == 0) = true := rfl
def elA (l : List Tree) : Tree := .mk false [97] [] l
theorem elA_sh {l : List Tree} (h : l ≠ []) : (elA l).sh = [60, 97, 62] ++ (shs l ++ [60, 47, 97, 62]) := by
  rw [Tree.sh_e _ rfl]
  simp only [elA, Tree.s, Tree.attrs, Tree.kids, endS_ne _ h]
  simp [shAttrs]
theorem elA_good {l : List Tree} (h : (elA l).good = true) : fines none l = true ∧ depT l ≤ 8 ∧ cntT l ≤ 80 := by
  obtain ⟨_, h2, h3, h4⟩ := Tree.good_of h
  rw [Tree.dep_eq] at h2
  rw [Tree.cnt_eq] at h4
  rw [Tree.fine_e _ rfl] at h3
  simp only [elA, Tree.kids, Bool.and_eq_true] at h2 h3 h4
  exact ⟨h3.2.2, by omega, by omega⟩
section
variable {P : Program} {G : Nat → Option (List IV)}
def c_strings_HasPrefix (f_internal_stringslite_HasPrefix : Nat) : AC :=
(.seq (.reg [⟨(some 4), none, (.mov (.c (.bool false)))⟩]) (.seq (.reg [⟨(some 5), none, (.mov (.t 0))⟩, ⟨(some 6), none, (.mov (.t 1))⟩, ⟨(some 7), none, (.call f_internal_stringslite_HasPrefix [(.t 5), (.t 6)])⟩, ⟨(some 4), none, (.mov (.t 7))⟩]) .ret))
theorem pHasPrefixS {f_strings_HasPrefix f_internal_stringslite_HasPrefix : Nat} (hF : compF P G f_strings_HasPrefix = some (8, [(none, 4)], (c_strings_HasPrefix f_internal_stringslite_HasPrefix).bare)) (s t : Bs) (hC : PureC P G f_internal_stringslite_HasPrefix [.str s, .str t] (.bool (t.isPrefixOf s))) :
    PureC P G f_strings_HasPrefix [.str s, .str t] (.bool (t.isPrefixOf s)) := by
  refine pure_of_go hF (by simp) (by simp [lbss, AV.lbs]) (by simp [AV.lbs]) ?_
  unfold c_strings_HasPrefix
  simp only [↓aX, evp, evq, evl, boxK, stillV, binV, AV.cells, mP, loadV, storeV, ldV, AV.stb, AV.one, IV.av1, Lb.app, Lb.fresh, reduceCtorEq, ptrL, appL, fillA, chunks, ivs, AV.iv, mkE, if_false, if_true, List.not_mem_nil, forall_eq, beq_self_eq_true, List.isEmpty_nil, Nat.reduceEqDiff, Nat.reduceLT, Nat.reduceLeDiff, Nat.reduceAdd, Nat.reduceMul, Int.reduceToNat, Int.reduceLE, Int.reduceLT]
  refine callT_pure hC ?_
  simp only [↓aX, evp, evq, evl, boxK, stillV, binV, AV.cells, mP, loadV, storeV, ldV, AV.stb, AV.one, IV.av1, Lb.app, Lb.fresh, reduceCtorEq, ptrL, appL, fillA, chunks, ivs, AV.iv, mkE, if_false, if_true, List.not_mem_nil, forall_eq, beq_self_eq_true, List.isEmpty_nil, Nat.reduceEqDiff, Nat.reduceLT, Nat.reduceLeDiff, Nat.reduceAdd, Nat.reduceMul, Int.reduceToNat, Int.reduceLE, Int.reduceLT]
def c_topiarykeep_MarkContent (f_mark_Print f_topiarykeep_marks f_mark_Content f_topiarykeep_sames : Nat) : AC :=
(.seq (.reg [⟨(some 2), none, (.mov (.c (.bool false)))⟩]) (.seq (.reg [⟨(some 8), none, (.mov (.t 0))⟩, ⟨(some 9), none, (.bld [(.bool false), (.str []), .nil0, .nil0] [(1, (1, (.c (.str [97])))), (3, (1, (.t 8)))])⟩, ⟨(some 3), none, (.new [(.bool false), (.str []), .nil0, .nil0])⟩, ⟨none, none, (.store 4 (.t 3) (.t 9))⟩]) (.seq (.reg [⟨(some 11), none, (.load (some 4) (.t 3))⟩, ⟨(some 12), none, (.call f_mark_Print [(.t 11)])⟩, ⟨(some 10), none, (.mov (.t 12))⟩, ⟨(some 13), none, (.ext (.t 10) 0)⟩, ⟨(some 14), none, (.ext (.t 10) 1)⟩, ⟨(some 4), none, (.mov (.t 13))⟩, ⟨(some 5), none, (.mov (.t 14))⟩]) (.seq (.seq (.reg [⟨(some 15), none, (.mov (.t 5))⟩, ⟨(some 16), none, (.bin .neq (.t 15) (.c (.int .i64 0)))⟩, ⟨(some 17), none, (.mov (.t 16))⟩, ⟨(some 18), (some (17, false)), (.mov (.t 0))⟩, ⟨(some 19), (some (17, false)), (.len (.t 18))⟩, ⟨(some 20), (some (17, false)), (.bin .eql (.t 19) (.c (.int .i64 0)))⟩, ⟨(some 21), none, (.pick (.t 17) (.c (.bool true)) (.t 20))⟩, ⟨(some 22), none, (.mov (.t 21))⟩, ⟨(some 23), (some (22, false)), (.call f_topiarykeep_marks [])⟩, ⟨(some 24), (some (22, false)), (.not (.t 23))⟩, ⟨(some 25), none, (.pick (.t 22) (.c (.bool true)) (.t 24))⟩]) (.cond (.t 25) (.seq (.reg [⟨(some 26), none, (.call f_topiarykeep_marks [])⟩, ⟨(some 2), none, (.mov (.t 26))⟩]) .ret) .skip)) (.seq (.seq (.reg [⟨(some 27), none, (.mov (.t 4))⟩, ⟨(some 28), none, (.lens (.t 27))⟩, ⟨(some 29), none, (.bin .lss (.t 28) (.c (.int .i64 7)))⟩, ⟨(some 30), none, (.mov (.t 29))⟩, ⟨(some 31), (some (30, false)), (.mov (.t 4))⟩, ⟨(some 32), (some (30, false)), (.slcs (.t 31) none (some (.c (.int .i64 3))))⟩, ⟨(some 33), (some (30, false)), (.bin .neq (.t 32) (.c (.str [60, 97, 62])))⟩, ⟨(some 34), none, (.pick (.t 30) (.c (.bool true)) (.t 33))⟩, ⟨(some 35), none, (.mov (.t 34))⟩, ⟨(some 36), (some (35, false)), (.mov (.t 4))⟩, ⟨(some 37), (some (35, false)), (.mov (.t 4))⟩, ⟨(some 38), (some (35, false)), (.lens (.t 37))⟩, ⟨(some 39), (some (35, false)), (.bin .sub (.t 38) (.c (.int .i64 4)))⟩, ⟨(some 40), (some (35, false)), (.slcs (.t 36) (some (.t 39)) none)⟩, ⟨(some 41), (some (35, false)), (.bin .neq (.t 40) (.c (.str [60, 47, 97, 62])))⟩, ⟨(some 42), none, (.pick (.t 35) (.c (.bool true)) (.t 41))⟩]) (.cond (.t 42) (.seq (.reg [⟨(some 2), none, (.mov (.c (.bool false)))⟩]) .ret) .skip)) (.seq (.reg [⟨(some 44), none, (.mov (.t 4))⟩, ⟨(some 45), none, (.mov (.t 4))⟩, ⟨(some 46), none, (.lens (.t 45))⟩, ⟨(some 47), none, (.bin .sub (.t 46) (.c (.int .i64 4)))⟩, ⟨(some 48), none, (.slcs (.t 44) (some (.c (.int .i64 3))) (some (.t 47)))⟩, ⟨(some 49), none, (.call f_mark_Content [(.t 48)])⟩, ⟨(some 43), none, (.mov (.t 49))⟩, ⟨(some 50), none, (.ext (.t 43) 0)⟩, ⟨(some 51), none, (.ext (.t 43) 1)⟩, ⟨(some 6), none, (.mov (.t 50))⟩, ⟨(some 7), none, (.mov (.t 51))⟩]) (.seq (.reg [⟨(some 52), none, (.mov (.t 7))⟩, ⟨(some 53), none, (.bin .eql (.t 52) (.c (.int .i64 0)))⟩, ⟨(some 54), none, (.mov (.t 53))⟩, ⟨(some 55), (some (54, true)), (.mov (.t 0))⟩, ⟨(some 56), (some (54, true)), (.mov (.t 6))⟩, ⟨(some 57), (some (54, true)), (.call f_topiarykeep_sames [(.t 55), (.t 56)])⟩, ⟨(some 58), none, (.pick (.t 54) (.t 57) (.c (.bool false)))⟩, ⟨(some 2), none, (.mov (.t 58))⟩]) .ret)))))))
theorem pMarkContent {f_topiarykeep_MarkContent f_mark_Print f_topiarykeep_marks f_mark_Content f_topiarykeep_sames : Nat} (hF : compF P G f_topiarykeep_MarkContent = some (59, [(none, 2)], (c_topiarykeep_MarkContent f_mark_Print f_topiarykeep_marks f_mark_Content f_topiarykeep_sames).bare)) (l : List Tree)
    (hQ : PureC P G f_mark_Print [(elA l).av] (.tup [.str (printF (elA l)).1, .int .i64 (printF (elA l)).2])) (hM : PureC P G f_topiarykeep_marks [] (.bool true))
    (hC : ∀ s : Bs, s.length ≤ 2500 → PureC P G f_mark_Content [.str s] (.tup [.list (ivT (contF s).1), .int .i64 (contF s).2]))
    (hS : PureC P G f_topiarykeep_sames [.list (ivT l), .list (ivT l)] (.bool (eqB l l))) :
    PureC P G f_topiarykeep_MarkContent [.list (ivT l)] (.bool true) := by
  refine pure_of_go hF (by simp) (by simp [lbss, AV.lbs]) (by simp [AV.lbs]) ?_
  unfold c_topiarykeep_MarkContent
  rw [eqB_self] at hS
  have conv : ∀ r, PureC P G f_mark_Print [(elA l).av] r → PureC P G f_mark_Print [.agg [.bool false, .str [97], .nil0, .list (ivT l)]] r := by
    intro r h
    refine pure_args h (by simp [lbss, AV.lbs]) ?_
    intro w β H I vs h
    simp only [Tree.av, elA, Tree.text, Tree.s, Tree.attrs, Tree.kids, ivA, List.map_nil, RVs, RV] at h ⊢
    obtain ⟨v2, us2, rfl, ⟨ws, rfl, x1, y1, rfl, k1, x2, y2, rfl, k2, x3, y3, rfl, k3, k4⟩, h3⟩ := h
    exact ⟨_, _, rfl, ⟨_, rfl, x1, _, rfl, k1, x2, _, rfl, k2, x3, _, rfl, by simpa only [RV] using nil_list (w := w) (β := β) (H := H) (I := I) (by simpa only [RV] using k3), k4⟩, h3⟩
  by_cases hg : (elA l).good = true
  · by_cases hl : 2500 < (elA l).sh.length
    · have hQ := conv _ hQ
      rw [print_long hg hl] at hQ
      simp only [↓aX, evp, evq, evl, boxK, stillV, binV, AV.cells, mP, loadV, storeV, ldV, AV.stb, AV.one, IV.av1, Lb.app, Lb.fresh, reduceCtorEq, ptrL, appL, fillA, chunks, ivs, AV.iv, mkE, if_false, if_true, List.not_mem_nil, forall_eq, beq_self_eq_true, List.isEmpty_nil, Nat.reduceEqDiff, Nat.reduceLT, Nat.reduceLeDiff, Nat.reduceAdd, Nat.reduceMul, Int.reduceToNat, Int.reduceLE, Int.reduceLT, e20, Bool.not_true, Bool.not_false]
      refine callT_pure hQ ?_
      simp only [↓aX, evp, evq, evl, boxK, stillV, binV, AV.cells, mP, loadV, storeV, ldV, AV.stb, AV.one, IV.av1, Lb.app, Lb.fresh, reduceCtorEq, ptrL, appL, fillA, chunks, ivs, AV.iv, mkE, if_false, if_true, List.not_mem_nil, forall_eq, beq_self_eq_true, List.isEmpty_nil, Nat.reduceEqDiff, Nat.reduceLT, Nat.reduceLeDiff, Nat.reduceAdd, Nat.reduceMul, Int.reduceToNat, Int.reduceLE, Int.reduceLT, e20, Bool.not_true, Bool.not_false]
      refine callT_pure hM ?_
      simp only [↓aX, evp, evq, evl, boxK, stillV, binV, AV.cells, mP, loadV, storeV, ldV, AV.stb, AV.one, IV.av1, Lb.app, Lb.fresh, reduceCtorEq, ptrL, appL, fillA, chunks, ivs, AV.iv, mkE, if_false, if_true, List.not_mem_nil, forall_eq, beq_self_eq_true, List.isEmpty_nil, Nat.reduceEqDiff, Nat.reduceLT, Nat.reduceLeDiff, Nat.reduceAdd, Nat.reduceMul, Int.reduceToNat, Int.reduceLE, Int.reduceLT, ↓ret1_r]
    · have hl' : (elA l).sh.length ≤ 2500 := by omega
      have hQ := conv _ hQ
      rw [print_good hg hl'] at hQ
      simp only [↓aX, evp, evq, evl, boxK, stillV, binV, AV.cells, mP, loadV, storeV, ldV, AV.stb, AV.one, IV.av1, Lb.app, Lb.fresh, reduceCtorEq, ptrL, appL, fillA, chunks, ivs, AV.iv, mkE, if_false, if_true, List.not_mem_nil, forall_eq, beq_self_eq_true, List.isEmpty_nil, Nat.reduceEqDiff, Nat.reduceLT, Nat.reduceLeDiff, Nat.reduceAdd, Nat.reduceMul, Int.reduceToNat, Int.reduceLE, Int.reduceLT, e00, Bool.not_true, Bool.not_false]
      refine callT_pure hQ ?_
      by_cases hn : l = []
      · subst hn
        simp only [↓aX, evp, evq, evl, boxK, stillV, binV, AV.cells, mP, loadV, storeV, ldV, AV.stb, AV.one, IV.av1, Lb.app, Lb.fresh, reduceCtorEq, ptrL, appL, fillA, chunks, ivs, AV.iv, mkE, if_false, if_true, List.not_mem_nil, forall_eq, beq_self_eq_true, List.isEmpty_nil, Nat.reduceEqDiff, Nat.reduceLT, Nat.reduceLeDiff, Nat.reduceAdd, Nat.reduceMul, Int.reduceToNat, Int.reduceLE, Int.reduceLT, e00, Bool.not_true, Bool.not_false, ivT, List.map_nil, List.length_nil, q0n]
        refine callT_pure hM ?_
        simp only [↓aX, evp, evq, evl, boxK, stillV, binV, AV.cells, mP, loadV, storeV, ldV, AV.stb, AV.one, IV.av1, Lb.app, Lb.fresh, reduceCtorEq, ptrL, appL, fillA, chunks, ivs, AV.iv, mkE, if_false, if_true, List.not_mem_nil, forall_eq, beq_self_eq_true, List.isEmpty_nil, Nat.reduceEqDiff, Nat.reduceLT, Nat.reduceLeDiff, Nat.reduceAdd, Nat.reduceMul, Int.reduceToNat, Int.reduceLE, Int.reduceLT, ↓ret1_r]
      · have hne : (((ivT l).length : Int) == 0) = false := by
          rw [ivT_len, beq_eq_false_iff_ne]
          have : l.length ≠ 0 := fun h => hn (List.length_eq_zero_iff.1 h)
          omega
        obtain ⟨g1, g2, g3⟩ := elA_good hg
        have hsh := elA_sh hn
        have hlen : (elA l).sh.length = 7 + (shs l).length := by rw [hsh]; simp; omega
        have hC := hC (shs l) (by omega)
        rw [cont_shs g1 (fun x hx => Nat.le_trans (depT_mem hx) g2) g3 g2 (by omega)] at hC
        have y7 : decide (((elA l).sh.length : Int) < 7) = false := by rw [hlen]; exact decide_eq_false (by omega)
        generalize (elA l).sh = y at hsh hlen y7 hl'
        have hw : IntKind.i64.wrap ((y.length : Int) - 4) = ((y.length - 4 : Nat) : Int) := by rw [wrap64 (by omega) (by omega)]; omega
        have f1 : (y.take 3 == [60, 97, 62]) = true := by rw [hsh]; rfl
        have k4 : y.length - 4 = 3 + (shs l).length := by omega
        have f2 : y.drop (y.length - 4) = [60, 47, 97, 62] := by rw [k4, hsh, ← List.drop_drop]; simp
        have f4 : (y.drop (y.length - 4) == [60, 47, 97, 62]) = true := by rw [f2]; rfl
        have f3 : (y.take (y.length - 4)).drop 3 = shs l := by
          rw [k4, hsh, List.drop_take, Nat.add_sub_cancel_left]
          exact List.take_left' rfl
        have l3 : 3 ≤ y.length := by omega
        have l4 : y.length - 4 ≤ y.length := by omega
        have l5 : 3 ≤ y.length - 4 := by omega
        simp only [↓aX, evp, evq, evl, boxK, stillV, binV, AV.cells, mP, loadV, storeV, ldV, AV.stb, AV.one, IV.av1, Lb.app, Lb.fresh, reduceCtorEq, ptrL, appL, fillA, chunks, ivs, AV.iv, mkE, if_false, if_true, List.not_mem_nil, forall_eq, beq_self_eq_true, List.isEmpty_nil, Nat.reduceEqDiff, Nat.reduceLT, Nat.reduceLeDiff, Nat.reduceAdd, Nat.reduceMul, Int.reduceToNat, Int.reduceLE, Int.reduceLT, e00, Bool.not_true, Bool.not_false, hne]
        refine callT_pure hM ?_
        simp only [↓aX, evp, evq, evl, boxK, stillV, binV, AV.cells, mP, loadV, storeV, ldV, AV.stb, AV.one, IV.av1, Lb.app, Lb.fresh, reduceCtorEq, ptrL, appL, fillA, chunks, ivs, AV.iv, mkE, if_false, if_true, List.not_mem_nil, forall_eq, beq_self_eq_true, List.isEmpty_nil, Nat.reduceEqDiff, Nat.reduceLT, Nat.reduceLeDiff, Nat.reduceAdd, Nat.reduceMul, Int.reduceToNat, Int.reduceLE, Int.reduceLT, e00, Bool.not_true, Bool.not_false, y7, hw, bnd, evq, show (0 : Int) ≤ 3 by decide, show (3 : Int).toNat = 3 from rfl, Int.natCast_nonneg, Int.toNat_natCast, true_and, l3, l4, l5, if_true, Option.bind_some, Option.map_some, List.take_length, List.drop_zero, f1, f4, f3, bne, bne_self_eq_false]
        refine callT_pure hC ?_
        simp only [↓aX, evp, evq, evl, boxK, stillV, binV, AV.cells, mP, loadV, storeV, ldV, AV.stb, AV.one, IV.av1, Lb.app, Lb.fresh, reduceCtorEq, ptrL, appL, fillA, chunks, ivs, AV.iv, mkE, if_false, if_true, List.not_mem_nil, forall_eq, beq_self_eq_true, List.isEmpty_nil, Nat.reduceEqDiff, Nat.reduceLT, Nat.reduceLeDiff, Nat.reduceAdd, Nat.reduceMul, Int.reduceToNat, Int.reduceLE, Int.reduceLT, q00]
        refine callT_pure hS ?_
        simp only [↓aX, evp, evq, evl, boxK, stillV, binV, AV.cells, mP, loadV, storeV, ldV, AV.stb, AV.one, IV.av1, Lb.app, Lb.fresh, reduceCtorEq, ptrL, appL, fillA, chunks, ivs, AV.iv, mkE, if_false, if_true, List.not_mem_nil, forall_eq, beq_self_eq_true, List.isEmpty_nil, Nat.reduceEqDiff, Nat.reduceLT, Nat.reduceLeDiff, Nat.reduceAdd, Nat.reduceMul, Int.reduceToNat, Int.reduceLE, Int.reduceLT, ↓ret1_r]
  · have hg : (elA l).good = false := by simpa using hg
    have hQ := conv _ hQ
    rw [print_bad hg] at hQ
    simp only [↓aX, evp, evq, evl, boxK, stillV, binV, AV.cells, mP, loadV, storeV, ldV, AV.stb, AV.one, IV.av1, Lb.app, Lb.fresh, reduceCtorEq, ptrL, appL, fillA, chunks, ivs, AV.iv, mkE, if_false, if_true, List.not_mem_nil, forall_eq, beq_self_eq_true, List.isEmpty_nil, Nat.reduceEqDiff, Nat.reduceLT, Nat.reduceLeDiff, Nat.reduceAdd, Nat.reduceMul, Int.reduceToNat, Int.reduceLE, Int.reduceLT, e10, Bool.not_true, Bool.not_false]
    refine callT_pure hQ ?_
    simp only [↓aX, evp, evq, evl, boxK, stillV, binV, AV.cells, mP, loadV, storeV, ldV, AV.stb, AV.one, IV.av1, Lb.app, Lb.fresh, reduceCtorEq, ptrL, appL, fillA, chunks, ivs, AV.iv, mkE, if_false, if_true, List.not_mem_nil, forall_eq, beq_self_eq_true, List.isEmpty_nil, Nat.reduceEqDiff, Nat.reduceLT, Nat.reduceLeDiff, Nat.reduceAdd, Nat.reduceMul, Int.reduceToNat, Int.reduceLE, Int.reduceLT, e10, Bool.not_true, Bool.not_false]
    refine callT_pure hM ?_
    simp only [↓aX, evp, evq, evl, boxK, stillV, binV, AV.cells, mP, loadV, storeV, ldV, AV.stb, AV.one, IV.av1, Lb.app, Lb.fresh, reduceCtorEq, ptrL, appL, fillA, chunks, ivs, AV.iv, mkE, if_false, if_true, List.not_mem_nil, forall_eq, beq_self_eq_true, List.isEmpty_nil, Nat.reduceEqDiff, Nat.reduceLT, Nat.reduceLeDiff, Nat.reduceAdd, Nat.reduceMul, Int.reduceToNat, Int.reduceLE, Int.reduceLT, ↓ret1_r]
end
end Go.Am
