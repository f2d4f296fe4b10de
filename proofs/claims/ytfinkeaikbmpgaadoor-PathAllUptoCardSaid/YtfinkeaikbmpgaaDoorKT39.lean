import Derived.Test.YtfinkeaikbmpgaaDoorKT35
import Derived.Test.YtfinkeaikbmpgaaDoorKT16
import Derived.Test.YtfinkeaikbmpgaaDoorKP1
set_option linter.unusedSimpArgs false
set_option linter.unusedVariables false
set_option linter.unnecessarySimpa false
set_option linter.defProp false
/- Paths: does path answer at all? -/
namespace Go.Am
open Go Go.RowKit
def txtK : Bs := [47, 97, 47, 42, 91, 50, 93, 47, 35]
def restK : Bs := [97, 47, 42, 91, 50, 93, 47, 35]
def stepsK : List Step := [⟨[97], 0⟩, ⟨[42], 2⟩, ⟨[], 0⟩]
section
variable {P : Program} {G : Nat → Option (List IV)}
def c_path_Parse (f_strings_CutPrefix f_strings_Split f_strings_Cut f_strings_CutSuffix f_strconv_Atoi f_strconv_Itoa f_path_Good : Nat) : AC :=
(.seq (.reg [⟨(some 2), none, (.mov (.c .nil0))⟩, ⟨(some 3), none, (.mov (.c (.int .i64 0)))⟩]) (.seq (.reg [⟨(some 18), none, (.mov (.t 0))⟩, ⟨(some 19), none, (.call f_strings_CutPrefix [(.t 18), (.c (.str [47]))])⟩, ⟨(some 17), none, (.mov (.t 19))⟩, ⟨(some 20), none, (.ext (.t 17) 0)⟩, ⟨(some 21), none, (.ext (.t 17) 1)⟩, ⟨(some 4), none, (.mov (.t 20))⟩, ⟨(some 5), none, (.mov (.t 21))⟩]) (.seq (.seq (.reg [⟨(some 22), none, (.mov (.t 5))⟩, ⟨(some 23), none, (.not (.t 22))⟩, ⟨(some 24), none, (.mov (.t 23))⟩, ⟨(some 25), (some (24, false)), (.mov (.t 0))⟩, ⟨(some 26), (some (24, false)), (.lens (.t 25))⟩, ⟨(some 27), (some (24, false)), (.bin .gtr (.t 26) (.c (.int .i64 2500)))⟩, ⟨(some 28), none, (.pick (.t 24) (.c (.bool true)) (.t 27))⟩]) (.cond (.t 28) (.seq (.reg [⟨(some 2), none, (.mov (.c .nil0))⟩, ⟨(some 3), none, (.mov (.c (.int .i64 1)))⟩]) .ret) .skip)) (.seq (.reg [⟨(some 6), none, (.mov (.c .nil0))⟩]) (.gh (.own 6 2) (.seq (.seq (.reg [⟨(some 29), none, (.mov (.t 4))⟩, ⟨(some 30), none, (.call f_strings_Split [(.t 29), (.c (.str [47]))])⟩, ⟨(some 31), none, (.len (.t 30))⟩, ⟨(some 32), none, (.mov (.c (.int .i64 0)))⟩]) (.block 0 (.loop (.seq (.reg [⟨(some 33), none, (.bin .lss (.t 32) (.t 31))⟩]) (.seq (.cond (.t 33) .skip (.exit 0)) (.seq (.block 1 (.seq (.reg [⟨(some 34), none, (.ixa (.t 30) (.t 32) 1)⟩, ⟨(some 35), none, (.load none (.t 34))⟩, ⟨(some 8), none, (.mov (.t 35))⟩]) (.seq (.reg [⟨(some 9), none, (.new [(.str []), (.int .i64 0)])⟩]) (.seq (.reg [⟨(some 37), none, (.mov (.t 8))⟩, ⟨(some 38), none, (.call f_strings_Cut [(.t 37), (.c (.str [91]))])⟩, ⟨(some 36), none, (.mov (.t 38))⟩, ⟨(some 39), none, (.ext (.t 36) 0)⟩, ⟨(some 40), none, (.ext (.t 36) 1)⟩, ⟨(some 41), none, (.ext (.t 36) 2)⟩, ⟨(some 10), none, (.mov (.t 39))⟩, ⟨(some 11), none, (.mov (.t 40))⟩, ⟨(some 12), none, (.mov (.t 41))⟩]) (.seq (.seq (.reg [⟨(some 42), none, (.mov (.t 12))⟩]) (.cond (.t 42) (.seq (.reg [⟨(some 44), none, (.mov (.t 11))⟩, ⟨(some 45), none, (.call f_strings_CutSuffix [(.t 44), (.c (.str [93]))])⟩, ⟨(some 43), none, (.mov (.t 45))⟩, ⟨(some 46), none, (.ext (.t 43) 0)⟩, ⟨(some 47), none, (.ext (.t 43) 1)⟩, ⟨(some 13), none, (.mov (.t 46))⟩, ⟨(some 14), none, (.mov (.t 47))⟩]) (.seq (.reg [⟨(some 49), none, (.mov (.t 13))⟩, ⟨(some 50), none, (.call f_strconv_Atoi [(.t 49)])⟩, ⟨(some 48), none, (.mov (.t 50))⟩, ⟨(some 51), none, (.ext (.t 48) 0)⟩, ⟨(some 52), none, (.ext (.t 48) 1)⟩, ⟨(some 15), none, (.mov (.t 51))⟩, ⟨(some 16), none, (.mov (.t 52))⟩]) (.seq (.seq (.reg [⟨(some 53), none, (.mov (.t 14))⟩, ⟨(some 54), none, (.not (.t 53))⟩, ⟨(some 55), none, (.mov (.t 54))⟩, ⟨(some 56), (some (55, false)), (.mov (.t 16))⟩, ⟨(some 57), (some (55, false)), (.eqi true (.t 56) (.c .nilif))⟩, ⟨(some 58), none, (.pick (.t 55) (.c (.bool true)) (.t 57))⟩, ⟨(some 59), none, (.mov (.t 58))⟩, ⟨(some 60), (some (59, false)), (.mov (.t 15))⟩, ⟨(some 61), (some (59, false)), (.call f_strconv_Itoa [(.t 60)])⟩, ⟨(some 62), (some (59, false)), (.mov (.t 13))⟩, ⟨(some 63), (some (59, false)), (.bin .neq (.t 61) (.t 62))⟩, ⟨(some 64), none, (.pick (.t 59) (.c (.bool true)) (.t 63))⟩, ⟨(some 65), none, (.mov (.t 64))⟩, ⟨(some 66), (some (65, false)), (.mov (.t 15))⟩, ⟨(some 67), (some (65, false)), (.bin .lss (.t 66) (.c (.int .i64 1)))⟩, ⟨(some 68), none, (.pick (.t 65) (.c (.bool true)) (.t 67))⟩]) (.cond (.t 68) (.seq (.reg [⟨(some 2), none, (.mov (.c .nil0))⟩, ⟨(some 3), none, (.mov (.c (.int .i64 1)))⟩]) .ret) .skip)) (.reg [⟨(some 69), none, (.mov (.t 15))⟩, ⟨(some 70), none, (.fld (.t 9) 1)⟩, ⟨none, none, (.store 1 (.t 70) (.t 69))⟩])))) .skip)) (.seq (.reg [⟨(some 71), none, (.mov (.t 10))⟩, ⟨(some 72), none, (.fld (.t 9) 0)⟩, ⟨none, none, (.store 1 (.t 72) (.t 71))⟩]) (.seq (.seq (.reg [⟨(some 73), none, (.mov (.t 10))⟩]) (.block 2 (.seq (.reg [⟨(some 75), none, (.bin .eql (.t 73) (.c (.str [])))⟩, ⟨(some 74), none, (.mov (.t 75))⟩]) (.cond (.t 74) (.seq (.reg [⟨(some 2), none, (.mov (.c .nil0))⟩, ⟨(some 3), none, (.mov (.c (.int .i64 1)))⟩]) .ret) (.seq (.reg [⟨(some 77), none, (.bin .eql (.t 73) (.c (.str [35])))⟩, ⟨(some 76), none, (.mov (.t 77))⟩]) (.cond (.t 76) (.reg [⟨(some 78), none, (.fld (.t 9) 0)⟩, ⟨none, none, (.store 1 (.t 78) (.c (.str [])))⟩]) .skip)))))) (.reg [⟨(some 79), none, (.mov (.t 6))⟩, ⟨(some 80), none, (.load (some 2) (.t 9))⟩, ⟨(some 81), none, (.lits 1 2 [(.str []), (.int .i64 0)] [(0, (.t 80))])⟩, ⟨(some 82), none, (.app (.t 79) (.t 81) 2 24)⟩, ⟨(some 6), none, (.mov (.t 82))⟩])))))))) (.reg [⟨(some 83), none, (.bin .add (.t 32) (.c (.int .i64 1)))⟩, ⟨(some 32), none, (.mov (.t 83))⟩]))))))) (.seq (.gh (.frz (.loc 6) 6) (.seq (.reg [⟨(some 84), none, (.mov (.t 6))⟩, ⟨(some 85), none, (.call f_path_Good [(.t 84)])⟩, ⟨(some 86), none, (.not (.t 85))⟩]) (.cond (.t 86) (.seq (.reg [⟨(some 2), none, (.mov (.c .nil0))⟩, ⟨(some 3), none, (.mov (.c (.int .i64 1)))⟩]) .ret) .skip))) (.seq (.reg [⟨(some 87), none, (.mov (.t 6))⟩, ⟨(some 2), none, (.mov (.t 87))⟩, ⟨(some 3), none, (.mov (.c (.int .i64 0)))⟩]) .ret))))))))
theorem pParseK {f_path_Parse f_strings_CutPrefix f_strings_Split f_strings_Cut f_strings_CutSuffix f_strconv_Atoi f_strconv_Itoa f_path_Good : Nat} (hF : compF P G f_path_Parse = some (88, [(none, 2), (none, 3)], (c_path_Parse f_strings_CutPrefix f_strings_Split f_strings_Cut f_strings_CutSuffix f_strconv_Atoi f_strconv_Itoa f_path_Good).bare))
    (hCP : PureC P G f_strings_CutPrefix [.str txtK, .str [47]] (.tup [.str restK, .bool true]))
    (hSp : PureC P G f_strings_Split [.str restK, .str [47]] (.list [.str [97], .str [42, 91, 50, 93], .str [35]]))
    (hC1 : PureC P G f_strings_Cut [.str [97], .str [91]] (.tup [.str [97], .str [], .bool false]))
    (hC2 : PureC P G f_strings_Cut [.str [42, 91, 50, 93], .str [91]] (.tup [.str [42], .str [50, 93], .bool true]))
    (hC3 : PureC P G f_strings_Cut [.str [35], .str [91]] (.tup [.str [35], .str [], .bool false]))
    (hCS : PureC P G f_strings_CutSuffix [.str [50, 93], .str [93]] (.tup [.str [50], .bool true]))
    (hA : PureC P G f_strconv_Atoi [.str [50]] (.tup [.int .i64 2, .nilif])) (hI : PureC P G f_strconv_Itoa [.int .i64 2] (.str [50]))
    (hG : PureC P G f_path_Good [.list (stepsK.map Step.iv)] (.bool true)) :
    PureC P G f_path_Parse [.str txtK] (.tup [.list (stepsK.map Step.iv), .int .i64 0]) := by
  refine pure_of_go hF (by simp) (by simp [lbss, AV.lbs]) (by simp [AV.lbs, lbss]) ?_
  unfold c_path_Parse
  simp only [↓aX, evp, evq, evl, boxK, stillV, binV, AV.cells, mP, loadV, storeV, ldV, AV.stb, AV.one, IV.av1, Lb.app, Lb.fresh, reduceCtorEq, ptrL, appL, fillA, chunks, ivs, AV.iv, mkE, if_false, if_true, List.not_mem_nil, forall_eq, beq_self_eq_true, List.isEmpty_nil, Nat.reduceEqDiff, Nat.reduceLT, Nat.reduceLeDiff, Nat.reduceAdd, Nat.reduceMul, Int.reduceToNat, Int.reduceLE, Int.reduceLT]
  refine callT_pure hCP ?_
  simp only [↓aX, evp, evq, evl, boxK, stillV, binV, AV.cells, mP, loadV, storeV, ldV, AV.stb, AV.one, IV.av1, Lb.app, Lb.fresh, reduceCtorEq, ptrL, appL, fillA, chunks, ivs, AV.iv, mkE, if_false, if_true, List.not_mem_nil, forall_eq, beq_self_eq_true, List.isEmpty_nil, Nat.reduceEqDiff, Nat.reduceLT, Nat.reduceLeDiff, Nat.reduceAdd, Nat.reduceMul, Int.reduceToNat, Int.reduceLE, Int.reduceLT, Bool.not_true, show decide (((txtK.length : Nat) : Int) > 2500) = false from rfl]
  refine callT_pure hSp ?_
  simp only [↓aX, evp, evq, evl, boxK, stillV, binV, AV.cells, mP, loadV, storeV, ldV, AV.stb, AV.one, IV.av1, Lb.app, Lb.fresh, reduceCtorEq, ptrL, appL, fillA, chunks, ivs, AV.iv, mkE, if_false, if_true, List.not_mem_nil, forall_eq, beq_self_eq_true, List.isEmpty_nil, Nat.reduceEqDiff, Nat.reduceLT, Nat.reduceLeDiff, Nat.reduceAdd, Nat.reduceMul, Int.reduceToNat, Int.reduceLE, Int.reduceLT, List.length_cons, List.length_nil]
  refine loop_used (σ := { i : Nat // i ≤ 3 }) (fun _ => [.loc 6]) (fun _ _ => false)
    (fun q => [(6, .sl (.loc 6) 2 0 q.1), (30, .list [.str [97], .str [42, 91, 50, 93], .str [35]]), (31, .int .i64 3), (32, .int .i64 q.1)])
    (fun q => [(.loc 6, ⟨2, immE ((stepsK.take q.1).map Step.iv)⟩)]) (fun q => 3 - q.1) ⟨0, by omega⟩ (fun _ => rfl) (fun q => by simp [lbss, AV.lbs]) ?_ ⟨[], ?_⟩ ?_
  · intro q w hw cs hcs z hz
    simp only [List.mem_singleton] at hw; subst hw
    rw [lbss_immE hcs] at hz; simp at hz
  · refine ⟨?_, ?_, ?_, by simp [rnF], fun l _ => ⟨id, fun _ => rfl⟩⟩
    · intro l hf hu
      exfalso; apply hu
      cases l <;> simp_all [Lb.fresh, upd_at, Hp.none]
    · simp [EqL, rnF, ren, put]
    · simp [RwL, rnF, upd_at, renR, rens, ren, immE]
  · rintro ⟨i, hi⟩
    rw [ofU_f]
    have hr : ∀ (ρ : Lb → Lb) (xs : List IV), renR ρ ⟨2, immE xs⟩ = ⟨2, immE xs⟩ := fun ρ xs => renR_immE _ _ _
    have hel : Elsz 1 [IV.str [97], .str [42, 91, 50, 93], .str [35]] := by
      intro y hy
      simp only [List.mem_cons, List.not_mem_nil, or_false] at hy
      rcases hy with rfl | rfl | rfl <;> rfl
    have hc : i = 0 ∨ i = 1 ∨ i = 2 ∨ i = 3 := by omega
    rcases hc with rfl | rfl | rfl | rfl
    · have hw0 : IntKind.i64.wrap ((0 : Nat) + 1) = ((1 : Nat) : Int) := by decide
      simp only [↓aX, evp, evq, evl, boxK, stillV, binV, AV.cells, mP, loadV, storeV, ldV, AV.stb, AV.one, IV.av1, Lb.app, Lb.fresh, reduceCtorEq, ptrL, appL, fillA, chunks, ivs, AV.iv, mkE, if_false, if_true, List.not_mem_nil, forall_eq, beq_self_eq_true, List.isEmpty_nil, Nat.reduceEqDiff, Nat.reduceLT, Nat.reduceLeDiff, Nat.reduceAdd, Nat.reduceMul, Int.reduceToNat, Int.reduceLE, Int.reduceLT, ofH_nil, ofH_cons, show decide (((0 : Nat) : Int) < 3) = true from rfl, show (0 : Int) ≤ ((0 : Nat) : Int) by decide, show ((0 : Nat) : Int).toNat = 0 from rfl, List.getElem?_cons_zero, hel, IV.cells]
      refine callT_pure hC1 ?_
      simp only [↓aX, evp, evq, evl, boxK, stillV, binV, AV.cells, mP, loadV, storeV, ldV, AV.stb, AV.one, IV.av1, Lb.app, Lb.fresh, reduceCtorEq, ptrL, appL, fillA, chunks, ivs, AV.iv, mkE, if_false, if_true, List.not_mem_nil, forall_eq, beq_self_eq_true, List.isEmpty_nil, Nat.reduceEqDiff, Nat.reduceLT, Nat.reduceLeDiff, Nat.reduceAdd, Nat.reduceMul, Int.reduceToNat, Int.reduceLE, Int.reduceLT, show (([97] : Bs) == []) = false from rfl, show (([97] : Bs) == [35]) = false from rfl]
      rw [app_loc 2 24 82 6 ((stepsK.take 0).map Step.iv) (.agg [.str [97], .int .i64 0]) (by simp [upd_at, stepsK]) (by simp [stepsK]) rfl (by simp [IV.cells]) (by decide) (by decide) (by decide) (by simp [upd_at, Hp.none])]
      simp only [↓aX, evp, evq, evl, boxK, stillV, binV, AV.cells, mP, loadV, storeV, ldV, AV.stb, AV.one, IV.av1, Lb.app, Lb.fresh, reduceCtorEq, ptrL, appL, fillA, chunks, ivs, AV.iv, mkE, if_false, if_true, List.not_mem_nil, forall_eq, beq_self_eq_true, List.isEmpty_nil, Nat.reduceEqDiff, Nat.reduceLT, Nat.reduceLeDiff, Nat.reduceAdd, Nat.reduceMul, Int.reduceToNat, Int.reduceLE, Int.reduceLT, hw0]
      refine ⟨⟨1, by omega⟩, by simp only; omega, [(.loc 6, .loc 82)], ?_⟩
      refine ⟨?_, ?_, ?_, by simp [rnF], ?_⟩
      · intro l hf hu
        exfalso; apply hu
        cases l <;> simp_all [Lb.fresh, upd_at, Hp.none]
      · simp [EqL, rnF, ren, put]
      · simp only [RwL, hr]
        simp [rnF, upd_at, renR, rens, ren, stepsK, Step.iv, Step.cs]
      · intro l hl
        simp only [List.mem_singleton] at hl
        subst hl
        exact ⟨fun _ => rfl, fun h => by simp [Lb.fresh] at h⟩
    · have hw1 : IntKind.i64.wrap ((1 : Nat) + 1) = ((2 : Nat) : Int) := by decide
      simp only [↓aX, evp, evq, evl, boxK, stillV, binV, AV.cells, mP, loadV, storeV, ldV, AV.stb, AV.one, IV.av1, Lb.app, Lb.fresh, reduceCtorEq, ptrL, appL, fillA, chunks, ivs, AV.iv, mkE, if_false, if_true, List.not_mem_nil, forall_eq, beq_self_eq_true, List.isEmpty_nil, Nat.reduceEqDiff, Nat.reduceLT, Nat.reduceLeDiff, Nat.reduceAdd, Nat.reduceMul, Int.reduceToNat, Int.reduceLE, Int.reduceLT, ofH_nil, ofH_cons, show decide (((1 : Nat) : Int) < 3) = true from rfl, show (0 : Int) ≤ ((1 : Nat) : Int) by decide, show ((1 : Nat) : Int).toNat = 1 from rfl, List.getElem?_cons_succ, List.getElem?_cons_zero, hel, IV.cells]
      refine callT_pure hC2 ?_
      simp only [↓aX, evp, evq, evl, boxK, stillV, binV, AV.cells, mP, loadV, storeV, ldV, AV.stb, AV.one, IV.av1, Lb.app, Lb.fresh, reduceCtorEq, ptrL, appL, fillA, chunks, ivs, AV.iv, mkE, if_false, if_true, List.not_mem_nil, forall_eq, beq_self_eq_true, List.isEmpty_nil, Nat.reduceEqDiff, Nat.reduceLT, Nat.reduceLeDiff, Nat.reduceAdd, Nat.reduceMul, Int.reduceToNat, Int.reduceLE, Int.reduceLT]
      refine callT_pure hCS ?_
      simp only [↓aX, evp, evq, evl, boxK, stillV, binV, AV.cells, mP, loadV, storeV, ldV, AV.stb, AV.one, IV.av1, Lb.app, Lb.fresh, reduceCtorEq, ptrL, appL, fillA, chunks, ivs, AV.iv, mkE, if_false, if_true, List.not_mem_nil, forall_eq, beq_self_eq_true, List.isEmpty_nil, Nat.reduceEqDiff, Nat.reduceLT, Nat.reduceLeDiff, Nat.reduceAdd, Nat.reduceMul, Int.reduceToNat, Int.reduceLE, Int.reduceLT]
      refine callT_pure hA ?_
      simp only [↓aX, evp, evq, evl, boxK, stillV, binV, AV.cells, mP, loadV, storeV, ldV, AV.stb, AV.one, IV.av1, Lb.app, Lb.fresh, reduceCtorEq, ptrL, appL, fillA, chunks, ivs, AV.iv, mkE, if_false, if_true, List.not_mem_nil, forall_eq, beq_self_eq_true, List.isEmpty_nil, Nat.reduceEqDiff, Nat.reduceLT, Nat.reduceLeDiff, Nat.reduceAdd, Nat.reduceMul, Int.reduceToNat, Int.reduceLE, Int.reduceLT, Bool.not_true]
      refine callT_pure hI ?_
      simp only [↓aX, evp, evq, evl, boxK, stillV, binV, AV.cells, mP, loadV, storeV, ldV, AV.stb, AV.one, IV.av1, Lb.app, Lb.fresh, reduceCtorEq, ptrL, appL, fillA, chunks, ivs, AV.iv, mkE, if_false, if_true, List.not_mem_nil, forall_eq, beq_self_eq_true, List.isEmpty_nil, Nat.reduceEqDiff, Nat.reduceLT, Nat.reduceLeDiff, Nat.reduceAdd, Nat.reduceMul, Int.reduceToNat, Int.reduceLE, Int.reduceLT, Bool.not_true, decide_false, show (([42] : Bs) == []) = false from rfl, show (([42] : Bs) == [35]) = false from rfl]
      rw [app_loc 2 24 82 6 ((stepsK.take 1).map Step.iv) (.agg [.str [42], .int .i64 2]) (by simp [upd_at, stepsK]) (by simp [stepsK]) rfl (by simp [IV.cells]) (by decide) (by decide) (by decide) (by simp [upd_at, Hp.none])]
      simp only [↓aX, evp, evq, evl, boxK, stillV, binV, AV.cells, mP, loadV, storeV, ldV, AV.stb, AV.one, IV.av1, Lb.app, Lb.fresh, reduceCtorEq, ptrL, appL, fillA, chunks, ivs, AV.iv, mkE, if_false, if_true, List.not_mem_nil, forall_eq, beq_self_eq_true, List.isEmpty_nil, Nat.reduceEqDiff, Nat.reduceLT, Nat.reduceLeDiff, Nat.reduceAdd, Nat.reduceMul, Int.reduceToNat, Int.reduceLE, Int.reduceLT, hw1]
      refine ⟨⟨2, by omega⟩, by simp only; omega, [(.loc 6, .loc 82)], ?_⟩
      refine ⟨?_, ?_, ?_, by simp [rnF], ?_⟩
      · intro l hf hu
        exfalso; apply hu
        cases l <;> simp_all [Lb.fresh, upd_at, Hp.none]
      · simp [EqL, rnF, ren, put]
      · simp only [RwL, hr]
        simp [rnF, upd_at, renR, rens, ren, stepsK, Step.iv, Step.cs]
      · intro l hl
        simp only [List.mem_singleton] at hl
        subst hl
        exact ⟨fun _ => rfl, fun h => by simp [Lb.fresh] at h⟩
    · have hw2 : IntKind.i64.wrap ((2 : Nat) + 1) = ((3 : Nat) : Int) := by decide
      simp only [↓aX, evp, evq, evl, boxK, stillV, binV, AV.cells, mP, loadV, storeV, ldV, AV.stb, AV.one, IV.av1, Lb.app, Lb.fresh, reduceCtorEq, ptrL, appL, fillA, chunks, ivs, AV.iv, mkE, if_false, if_true, List.not_mem_nil, forall_eq, beq_self_eq_true, List.isEmpty_nil, Nat.reduceEqDiff, Nat.reduceLT, Nat.reduceLeDiff, Nat.reduceAdd, Nat.reduceMul, Int.reduceToNat, Int.reduceLE, Int.reduceLT, ofH_nil, ofH_cons, show decide (((2 : Nat) : Int) < 3) = true from rfl, show (0 : Int) ≤ ((2 : Nat) : Int) by decide, show ((2 : Nat) : Int).toNat = 2 from rfl, List.getElem?_cons_succ, List.getElem?_cons_zero, hel, IV.cells]
      refine callT_pure hC3 ?_
      simp only [↓aX, evp, evq, evl, boxK, stillV, binV, AV.cells, mP, loadV, storeV, ldV, AV.stb, AV.one, IV.av1, Lb.app, Lb.fresh, reduceCtorEq, ptrL, appL, fillA, chunks, ivs, AV.iv, mkE, if_false, if_true, List.not_mem_nil, forall_eq, beq_self_eq_true, List.isEmpty_nil, Nat.reduceEqDiff, Nat.reduceLT, Nat.reduceLeDiff, Nat.reduceAdd, Nat.reduceMul, Int.reduceToNat, Int.reduceLE, Int.reduceLT, show (([35] : Bs) == []) = false from rfl, show (([35] : Bs) == [35]) = true from rfl]
      rw [app_loc 2 24 82 6 ((stepsK.take 2).map Step.iv) (.agg [.str [], .int .i64 0]) (by simp [upd_at, stepsK]) (by simp [stepsK]) rfl (by simp [IV.cells]) (by decide) (by decide) (by decide) (by simp [upd_at, Hp.none])]
      simp only [↓aX, evp, evq, evl, boxK, stillV, binV, AV.cells, mP, loadV, storeV, ldV, AV.stb, AV.one, IV.av1, Lb.app, Lb.fresh, reduceCtorEq, ptrL, appL, fillA, chunks, ivs, AV.iv, mkE, if_false, if_true, List.not_mem_nil, forall_eq, beq_self_eq_true, List.isEmpty_nil, Nat.reduceEqDiff, Nat.reduceLT, Nat.reduceLeDiff, Nat.reduceAdd, Nat.reduceMul, Int.reduceToNat, Int.reduceLE, Int.reduceLT, hw2]
      refine ⟨⟨3, by omega⟩, by simp only; omega, [(.loc 6, .loc 82)], ?_⟩
      refine ⟨?_, ?_, ?_, by simp [rnF], ?_⟩
      · intro l hf hu
        exfalso; apply hu
        cases l <;> simp_all [Lb.fresh, upd_at, Hp.none]
      · simp [EqL, rnF, ren, put]
      · simp only [RwL, hr]
        simp [rnF, upd_at, renR, rens, ren, stepsK, Step.iv, Step.cs]
      · intro l hl
        simp only [List.mem_singleton] at hl
        subst hl
        exact ⟨fun _ => rfl, fun h => by simp [Lb.fresh] at h⟩
    · simp only [↓aX, evp, evq, evl, boxK, stillV, binV, AV.cells, mP, loadV, storeV, ldV, AV.stb, AV.one, IV.av1, Lb.app, Lb.fresh, reduceCtorEq, ptrL, appL, fillA, chunks, ivs, AV.iv, mkE, if_false, if_true, List.not_mem_nil, forall_eq, beq_self_eq_true, List.isEmpty_nil, Nat.reduceEqDiff, Nat.reduceLT, Nat.reduceLeDiff, Nat.reduceAdd, Nat.reduceMul, Int.reduceToNat, Int.reduceLE, Int.reduceLT, ofH_nil, ofH_cons, show decide (((3 : Nat) : Int) < 3) = false from rfl]
      refine ⟨2, stepsK.map Step.iv, 0, 3, rfl, rfl, by simp [stepsK], flatSt _, ?_⟩
      simp only [↓aX, evp, evq, evl, boxK, stillV, binV, AV.cells, mP, loadV, storeV, ldV, AV.stb, AV.one, IV.av1, Lb.app, Lb.fresh, reduceCtorEq, ptrL, appL, fillA, chunks, ivs, AV.iv, mkE, if_false, if_true, List.not_mem_nil, forall_eq, beq_self_eq_true, List.isEmpty_nil, Nat.reduceEqDiff, Nat.reduceLT, Nat.reduceLeDiff, Nat.reduceAdd, Nat.reduceMul, Int.reduceToNat, Int.reduceLE, Int.reduceLT, List.drop_zero, List.take_of_length_le (show (stepsK.map Step.iv).length ≤ 3 by simp [stepsK])]
      refine callT_pure hG ?_
      simp only [↓aX, evp, evq, evl, boxK, stillV, binV, AV.cells, mP, loadV, storeV, ldV, AV.stb, AV.one, IV.av1, Lb.app, Lb.fresh, reduceCtorEq, ptrL, appL, fillA, chunks, ivs, AV.iv, mkE, if_false, if_true, List.not_mem_nil, forall_eq, beq_self_eq_true, List.isEmpty_nil, Nat.reduceEqDiff, Nat.reduceLT, Nat.reduceLeDiff, Nat.reduceAdd, Nat.reduceMul, Int.reduceToNat, Int.reduceLE, Int.reduceLT, Bool.not_true, ↓ret2_r]
      rfl
def c_topiarykeep_paths (f_path_Parse : Nat) : AC :=
(.seq (.reg [⟨(some 0), none, (.mov (.c (.bool false)))⟩]) (.seq (.reg [⟨(some 4), none, (.call f_path_Parse [(.c (.str [47, 97, 47, 42, 91, 50, 93, 47, 35]))])⟩, ⟨(some 3), none, (.mov (.t 4))⟩, ⟨(some 5), none, (.ext (.t 3) 0)⟩, ⟨(some 6), none, (.ext (.t 3) 1)⟩, ⟨(some 1), none, (.mov (.t 5))⟩, ⟨(some 2), none, (.mov (.t 6))⟩]) (.seq (.reg [⟨(some 7), none, (.mov (.t 2))⟩, ⟨(some 8), none, (.bin .eql (.t 7) (.c (.int .i64 0)))⟩, ⟨(some 9), none, (.mov (.t 8))⟩, ⟨(some 10), (some (9, true)), (.mov (.t 1))⟩, ⟨(some 11), (some (9, true)), (.len (.t 10))⟩, ⟨(some 12), (some (9, true)), (.bin .eql (.t 11) (.c (.int .i64 3)))⟩, ⟨(some 13), none, (.pick (.t 9) (.t 12) (.c (.bool false)))⟩, ⟨(some 14), none, (.mov (.t 13))⟩, ⟨(some 15), (some (14, true)), (.mov (.t 1))⟩, ⟨(some 16), (some (14, true)), (.ixa (.t 15) (.c (.int .i64 1)) 2)⟩, ⟨(some 17), (some (14, true)), (.load (some 2) (.t 16))⟩, ⟨(some 18), (some (14, true)), (.bld [(.str []), (.int .i64 0)] [(0, (1, (.c (.str [42])))), (1, (1, (.c (.int .i64 2))))])⟩, ⟨(some 19), (some (14, true)), (.eqst false [.s, .i] (.t 17) (.t 18))⟩, ⟨(some 20), none, (.pick (.t 14) (.t 19) (.c (.bool false)))⟩, ⟨(some 21), none, (.mov (.t 20))⟩, ⟨(some 22), (some (21, true)), (.mov (.t 1))⟩, ⟨(some 23), (some (21, true)), (.ixa (.t 22) (.c (.int .i64 2)) 2)⟩, ⟨(some 24), (some (21, true)), (.load (some 2) (.t 23))⟩, ⟨(some 25), (some (21, true)), (.bld [(.str []), (.int .i64 0)] [])⟩, ⟨(some 26), (some (21, true)), (.eqst false [.s, .i] (.t 24) (.t 25))⟩, ⟨(some 27), none, (.pick (.t 21) (.t 26) (.c (.bool false)))⟩, ⟨(some 0), none, (.mov (.t 27))⟩]) .ret)))
theorem pPaths {f_topiarykeep_paths f_path_Parse : Nat} (hF : compF P G f_topiarykeep_paths = some (28, [(none, 0)], (c_topiarykeep_paths f_path_Parse).bare)) (hX : PureC P G f_path_Parse [.str txtK] (.tup [.list (stepsK.map Step.iv), .int .i64 0])) :
    PureC P G f_topiarykeep_paths [] (.bool true) := by
  refine pure_of_go hF (by simp) (by simp [lbss]) (by simp [AV.lbs]) ?_
  unfold c_topiarykeep_paths
  have hel : Elsz 2 (stepsK.map Step.iv) := elszS _
  simp only [↓aX, evp, evq, evl, boxK, stillV, binV, AV.cells, mP, loadV, storeV, ldV, AV.stb, AV.one, IV.av1, Lb.app, Lb.fresh, reduceCtorEq, ptrL, appL, fillA, chunks, ivs, AV.iv, mkE, if_false, if_true, List.not_mem_nil, forall_eq, beq_self_eq_true, List.isEmpty_nil, Nat.reduceEqDiff, Nat.reduceLT, Nat.reduceLeDiff, Nat.reduceAdd, Nat.reduceMul, Int.reduceToNat, Int.reduceLE, Int.reduceLT]
  refine callT_pure hX ?_
  simp only [↓aX, evp, evq, evl, boxK, stillV, binV, AV.cells, mP, loadV, storeV, ldV, AV.stb, AV.one, IV.av1, Lb.app, Lb.fresh, reduceCtorEq, ptrL, appL, fillA, chunks, ivs, AV.iv, mkE, if_false, if_true, List.not_mem_nil, forall_eq, beq_self_eq_true, List.isEmpty_nil, Nat.reduceEqDiff, Nat.reduceLT, Nat.reduceLeDiff, Nat.reduceAdd, Nat.reduceMul, Int.reduceToNat, Int.reduceLE, Int.reduceLT, show (stepsK.map Step.iv).length = 3 from rfl, show (((3 : Nat) : Int) == 3) = true from rfl, hel, show (0 : Int) ≤ 1 by decide, show (0 : Int) ≤ 2 by decide, show (1 : Int).toNat = 1 from rfl, show (2 : Int).toNat = 2 from rfl,
    show (stepsK.map Step.iv)[1]? = some (.agg [.str [42], .int .i64 2]) from rfl, show (stepsK.map Step.iv)[2]? = some (.agg [.str [], .int .i64 0]) from rfl, IV.cells, eqs, eq1]
end
end Go.Am

/- The law PathPicks. -/
namespace Go.Am
open Go Go.RowKit
theorem immE_get' (xs : List IV) (i : Nat) : (immE xs)[i]? = xs[i]?.map fun y => y.cells.map IV.av1 := by simp [immE]
theorem immE_setS (l : List Step) (k : Nat) (s : Step) : (immE (l.map Step.iv)).set k [.str s.name, .int .i64 s.n] = immE ((l.set k s).map Step.iv) := by
  simp [immE, List.map_set, Step.iv, Step.cs, IV.cells, IV.av1]
section
variable {P : Program} {G : Nat → Option (List IV)}
end
end Go.Am

/- Paths: out of readings. -/
namespace Go.Am
open Go Go.RowKit
section
variable {P : Program}
/-- The types of paths. -/
structure TyP (P : Program) (T : TyT P) where
  tI : TypeId
  tP : TypeId
  tPs : TypeId
  fP : Array Field
  uI : P.underlying tI = some (.int .i64)
  uP : P.underlying tP = some (.struct fP)
  uPs : P.underlying tPs = some (.slice tP)
  sP : fP.toList.map (·.type) = [T.tS, tI]
theorem Sh.step {T : TyT P} (D : TyP P T) {y : IV} (h : Sh P D.tP y) : ∃ x : Step, y = x.iv ∧ 1 + x.name.length ≤ y.wt := by
  obtain ⟨ys, rfl, hl, hys⟩ := h.inv_g D.uP
  have hs : D.fP.size = 2 := by have := congrArg List.length D.sP; simpa using this
  match ys, hl.trans hs, hys with
  | [y0, y1], _, hys =>
    obtain ⟨f0, e0, t0⟩ := field_of D.sP 0 T.tS rfl
    obtain ⟨f1, e1, t1⟩ := field_of D.sP 1 D.tI rfl
    have h0 := hys 0 f0 y0 e0 rfl
    have h1 := hys 1 f1 y1 e1 rfl
    rw [t0] at h0; rw [t1] at h1
    obtain ⟨s, rfl⟩ := h0.inv_s T.uS
    obtain ⟨p, rfl, _⟩ := h1.inv_i D.uI
    exact ⟨⟨s, p⟩, rfl, by simp only [IV.wt, wtI]; omega⟩
end
end Go.Am
