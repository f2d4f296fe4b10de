import Derived.Test.YtfinkeaikbmpgaaDoorKP1
import Derived.Test.YtfinkeaikbmpgaaDoorKT16
set_option linter.unusedSimpArgs false
set_option linter.unusedVariables false
set_option linter.unnecessarySimpa false
set_option linter.defProp false
/- Paths: what is a path; Select. -/
namespace Go.Am
open Go Go.RowKit
section
variable {P : Program} {G : Nat → Option (List IV)}
def c_path_Good (f_tree_Named : Nat) : AC :=
(.seq (.reg [⟨(some 2), none, (.mov (.c (.bool false)))⟩]) (.seq (.seq (.reg [⟨(some 5), none, (.mov (.t 0))⟩, ⟨(some 6), none, (.len (.t 5))⟩, ⟨(some 7), none, (.mov (.c (.int .i64 0)))⟩]) (.block 0 (.loop (.seq (.reg [⟨(some 8), none, (.bin .lss (.t 7) (.t 6))⟩]) (.seq (.cond (.t 8) .skip (.exit 0)) (.seq (.block 1 (.seq (.reg [⟨(some 9), none, (.ixa (.t 5) (.t 7) 2)⟩, ⟨(some 10), none, (.load (some 2) (.t 9))⟩, ⟨(some 4), none, (.new [(.str []), (.int .i64 0)])⟩, ⟨none, none, (.store 2 (.t 4) (.t 10))⟩]) (.seq (.reg [⟨(some 11), none, (.fld (.t 4) 0)⟩, ⟨(some 12), none, (.load none (.t 11))⟩, ⟨(some 13), none, (.bin .neq (.t 12) (.c (.str [])))⟩, ⟨(some 14), none, (.mov (.t 13))⟩, ⟨(some 15), (some (14, true)), (.fld (.t 4) 0)⟩, ⟨(some 16), (some (14, true)), (.load none (.t 15))⟩, ⟨(some 17), (some (14, true)), (.bin .neq (.t 16) (.c (.str [42])))⟩, ⟨(some 18), none, (.pick (.t 14) (.t 17) (.c (.bool false)))⟩, ⟨(some 19), none, (.mov (.t 18))⟩, ⟨(some 20), (some (19, true)), (.fld (.t 4) 0)⟩, ⟨(some 21), (some (19, true)), (.load none (.t 20))⟩, ⟨(some 22), (some (19, true)), (.call f_tree_Named [(.t 21)])⟩, ⟨(some 23), (some (19, true)), (.not (.t 22))⟩, ⟨(some 24), none, (.pick (.t 19) (.t 23) (.c (.bool false)))⟩, ⟨(some 25), none, (.mov (.t 24))⟩, ⟨(some 26), (some (25, false)), (.fld (.t 4) 1)⟩, ⟨(some 27), (some (25, false)), (.load none (.t 26))⟩, ⟨(some 28), (some (25, false)), (.bin .lss (.t 27) (.c (.int .i64 0)))⟩, ⟨(some 29), none, (.pick (.t 25) (.c (.bool true)) (.t 28))⟩, ⟨(some 30), none, (.mov (.t 29))⟩, ⟨(some 31), (some (30, false)), (.fld (.t 4) 1)⟩, ⟨(some 32), (some (30, false)), (.load none (.t 31))⟩, ⟨(some 33), (some (30, false)), (.bin .gtr (.t 32) (.c (.int .i64 99)))⟩, ⟨(some 34), none, (.pick (.t 30) (.c (.bool true)) (.t 33))⟩]) (.cond (.t 34) (.seq (.reg [⟨(some 2), none, (.mov (.c (.bool false)))⟩]) .ret) .skip)))) (.reg [⟨(some 35), none, (.bin .add (.t 7) (.c (.int .i64 1)))⟩, ⟨(some 7), none, (.mov (.t 35))⟩]))))))) (.seq (.reg [⟨(some 36), none, (.mov (.t 0))⟩, ⟨(some 37), none, (.len (.t 36))⟩, ⟨(some 38), none, (.bin .geq (.t 37) (.c (.int .i64 1)))⟩, ⟨(some 39), none, (.mov (.t 38))⟩, ⟨(some 40), (some (39, true)), (.mov (.t 0))⟩, ⟨(some 41), (some (39, true)), (.len (.t 40))⟩, ⟨(some 42), (some (39, true)), (.bin .leq (.t 41) (.c (.int .i64 5)))⟩, ⟨(some 43), none, (.pick (.t 39) (.t 42) (.c (.bool false)))⟩, ⟨(some 2), none, (.mov (.t 43))⟩]) .ret)))
theorem pPathGood {f_path_Good f_tree_Named : Nat} (hF : compF P G f_path_Good = some (44, [(none, 2)], (c_path_Good f_tree_Named).bare)) (l : List Step) (hl : l.length ≤ B) (hN : ∀ x ∈ l, PureC P G f_tree_Named [.str x.name] (.bool (named x.name))) :
    PureC P G f_path_Good [.list (l.map Step.iv)] (.bool (goodPath l)) := by
  refine pure_of_go hF (by simp) (by simp [lbss, AV.lbs]) (by simp [AV.lbs]) ?_
  have hBv : B = 1073741824 := rfl
  unfold c_path_Good
  simp only [↓aX, evp, evq, evl, boxK, stillV, binV, AV.cells, mP, loadV, storeV, ldV, AV.stb, AV.one, IV.av1, Lb.app, Lb.fresh, reduceCtorEq, ptrL, appL, fillA, chunks, ivs, AV.iv, mkE, if_false, if_true, List.not_mem_nil, forall_eq, beq_self_eq_true, List.isEmpty_nil, Nat.reduceEqDiff, Nat.reduceLT, Nat.reduceLeDiff, Nat.reduceAdd, Nat.reduceMul, Int.reduceToNat, Int.reduceLE, Int.reduceLT, List.length_map]
  refine loop_data (σ := { i : Nat // i ≤ l.length ∧ ∀ x ∈ l.take i, okStep x = true }) (fun q => [(0, .list (l.map Step.iv)), (5, .list (l.map Step.iv)), (6, .int .i64 l.length), (7, .int .i64 q.1)]) (fun q => l.length - q.1) ⟨0, by simp⟩ (fun _ => rfl) ?_ ?_
  · exact ⟨by simp only [↓aX, evp, evq, evl, boxK, stillV, binV, AV.cells, mP, loadV, storeV, ldV, AV.stb, AV.one, IV.av1, Lb.app, Lb.fresh, reduceCtorEq, ptrL, appL, fillA, chunks, ivs, AV.iv, mkE, if_false, if_true, List.not_mem_nil, forall_eq, beq_self_eq_true, List.isEmpty_nil, Nat.reduceEqDiff, Nat.reduceLT, Nat.reduceLeDiff, Nat.reduceAdd, Nat.reduceMul, Int.reduceToNat, Int.reduceLE, Int.reduceLT], by repeat' constructor⟩
  · rintro ⟨i, hi, hs⟩
    simp only [↓aX, evp, evq, evl, boxK, stillV, binV, AV.cells, mP, loadV, storeV, ldV, AV.stb, AV.one, IV.av1, Lb.app, Lb.fresh, reduceCtorEq, ptrL, appL, fillA, chunks, ivs, AV.iv, mkE, if_false, if_true, List.not_mem_nil, forall_eq, beq_self_eq_true, List.isEmpty_nil, Nat.reduceEqDiff, Nat.reduceLT, Nat.reduceLeDiff, Nat.reduceAdd, Nat.reduceMul, Int.reduceToNat, Int.reduceLE, Int.reduceLT, List.length_map]
    by_cases hlt : i < l.length
    · rw [show decide ((i : Int) < (l.length : Int)) = true by simpa using hlt]
      obtain ⟨x, hx⟩ : ∃ x, l[i]? = some x := ⟨_, List.getElem?_eq_getElem hlt⟩
      have hxm := List.mem_of_getElem? hx
      have hw : IntKind.i64.wrap ((i : Int) + 1) = ((i + 1 : Nat) : Int) := wrap64 (by omega) (by omega)
      have stop : okStep x = false → goodPath l = false := fun h => by
        unfold goodPath
        rw [show l.all okStep = false from List.all_eq_false.2 ⟨x, hxm, by simp [h]⟩]; rfl
      have next : okStep x = true → ∀ y ∈ l.take (i + 1), okStep y = true := fun h y hy => by
        rw [List.take_add_one, hx] at hy
        simp only [Option.toList_some, List.mem_append, List.mem_singleton] at hy
        rcases hy with hy | rfl
        · exact hs y hy
        · exact h
      simp only [↓aX, evp, evq, evl, boxK, stillV, binV, AV.cells, mP, loadV, storeV, ldV, AV.stb, AV.one, IV.av1, Lb.app, Lb.fresh, reduceCtorEq, ptrL, appL, fillA, chunks, ivs, AV.iv, mkE, if_false, if_true, List.not_mem_nil, forall_eq, beq_self_eq_true, List.isEmpty_nil, Nat.reduceEqDiff, Nat.reduceLT, Nat.reduceLeDiff, Nat.reduceAdd, Nat.reduceMul, Int.reduceToNat, Int.reduceLE, Int.reduceLT, stGet, hx, elszS, Option.map_some, Step.cells_eq, Step.cs]
      have tail : ∀ b : Bool, (x.name == [] || (x.name == [42] || named x.name)) = b → okStep x = (b && (decide (0 ≤ x.n) && decide (x.n ≤ 99))) := fun b h => by unfold okStep; rw [h]
      cases h1 : (x.name == []) with
      | true =>
        have ht := tail true (by rw [h1]; rfl)
        simp only [↓aX, evp, evq, evl, boxK, stillV, binV, AV.cells, mP, loadV, storeV, ldV, AV.stb, AV.one, IV.av1, Lb.app, Lb.fresh, reduceCtorEq, ptrL, appL, fillA, chunks, ivs, AV.iv, mkE, if_false, if_true, List.not_mem_nil, forall_eq, beq_self_eq_true, List.isEmpty_nil, Nat.reduceEqDiff, Nat.reduceLT, Nat.reduceLeDiff, Nat.reduceAdd, Nat.reduceMul, Int.reduceToNat, Int.reduceLE, Int.reduceLT, Bool.not_true]
        by_cases h4 : x.n < 0
        · simp only [↓aX, evp, evq, evl, boxK, stillV, binV, AV.cells, mP, loadV, storeV, ldV, AV.stb, AV.one, IV.av1, Lb.app, Lb.fresh, reduceCtorEq, ptrL, appL, fillA, chunks, ivs, AV.iv, mkE, if_false, if_true, List.not_mem_nil, forall_eq, beq_self_eq_true, List.isEmpty_nil, Nat.reduceEqDiff, Nat.reduceLT, Nat.reduceLeDiff, Nat.reduceAdd, Nat.reduceMul, Int.reduceToNat, Int.reduceLE, Int.reduceLT, h4, decide_true, stop (by rw [ht, decide_eq_false (by omega)]; rfl)]
        · by_cases h5 : 99 < x.n
          · simp only [↓aX, evp, evq, evl, boxK, stillV, binV, AV.cells, mP, loadV, storeV, ldV, AV.stb, AV.one, IV.av1, Lb.app, Lb.fresh, reduceCtorEq, ptrL, appL, fillA, chunks, ivs, AV.iv, mkE, if_false, if_true, List.not_mem_nil, forall_eq, beq_self_eq_true, List.isEmpty_nil, Nat.reduceEqDiff, Nat.reduceLT, Nat.reduceLeDiff, Nat.reduceAdd, Nat.reduceMul, Int.reduceToNat, Int.reduceLE, Int.reduceLT, h4, decide_false, gt_iff_lt, h5, decide_true, stop (by rw [ht, decide_eq_false (show ¬ x.n ≤ 99 by omega), Bool.and_false]; rfl)]
          · simp only [↓aX, evp, evq, evl, boxK, stillV, binV, AV.cells, mP, loadV, storeV, ldV, AV.stb, AV.one, IV.av1, Lb.app, Lb.fresh, reduceCtorEq, ptrL, appL, fillA, chunks, ivs, AV.iv, mkE, if_false, if_true, List.not_mem_nil, forall_eq, beq_self_eq_true, List.isEmpty_nil, Nat.reduceEqDiff, Nat.reduceLT, Nat.reduceLeDiff, Nat.reduceAdd, Nat.reduceMul, Int.reduceToNat, Int.reduceLE, Int.reduceLT, h4, decide_false, gt_iff_lt, h5, hw]
            exact ⟨⟨i + 1, hlt, next (by rw [ht, decide_eq_true (show 0 ≤ x.n by omega), decide_eq_true (show x.n ≤ 99 by omega)]; rfl)⟩, by simp only; omega, rfl⟩
      | false =>
        simp only [↓aX, evp, evq, evl, boxK, stillV, binV, AV.cells, mP, loadV, storeV, ldV, AV.stb, AV.one, IV.av1, Lb.app, Lb.fresh, reduceCtorEq, ptrL, appL, fillA, chunks, ivs, AV.iv, mkE, if_false, if_true, List.not_mem_nil, forall_eq, beq_self_eq_true, List.isEmpty_nil, Nat.reduceEqDiff, Nat.reduceLT, Nat.reduceLeDiff, Nat.reduceAdd, Nat.reduceMul, Int.reduceToNat, Int.reduceLE, Int.reduceLT, Bool.not_false]
        cases h2 : (x.name == [42]) with
        | true =>
          have ht := tail true (by rw [h1, h2]; rfl)
          simp only [↓aX, evp, evq, evl, boxK, stillV, binV, AV.cells, mP, loadV, storeV, ldV, AV.stb, AV.one, IV.av1, Lb.app, Lb.fresh, reduceCtorEq, ptrL, appL, fillA, chunks, ivs, AV.iv, mkE, if_false, if_true, List.not_mem_nil, forall_eq, beq_self_eq_true, List.isEmpty_nil, Nat.reduceEqDiff, Nat.reduceLT, Nat.reduceLeDiff, Nat.reduceAdd, Nat.reduceMul, Int.reduceToNat, Int.reduceLE, Int.reduceLT, Bool.not_true]
          by_cases h4 : x.n < 0
          · simp only [↓aX, evp, evq, evl, boxK, stillV, binV, AV.cells, mP, loadV, storeV, ldV, AV.stb, AV.one, IV.av1, Lb.app, Lb.fresh, reduceCtorEq, ptrL, appL, fillA, chunks, ivs, AV.iv, mkE, if_false, if_true, List.not_mem_nil, forall_eq, beq_self_eq_true, List.isEmpty_nil, Nat.reduceEqDiff, Nat.reduceLT, Nat.reduceLeDiff, Nat.reduceAdd, Nat.reduceMul, Int.reduceToNat, Int.reduceLE, Int.reduceLT, h4, decide_true, stop (by rw [ht, decide_eq_false (by omega)]; rfl)]
          · by_cases h5 : 99 < x.n
            · simp only [↓aX, evp, evq, evl, boxK, stillV, binV, AV.cells, mP, loadV, storeV, ldV, AV.stb, AV.one, IV.av1, Lb.app, Lb.fresh, reduceCtorEq, ptrL, appL, fillA, chunks, ivs, AV.iv, mkE, if_false, if_true, List.not_mem_nil, forall_eq, beq_self_eq_true, List.isEmpty_nil, Nat.reduceEqDiff, Nat.reduceLT, Nat.reduceLeDiff, Nat.reduceAdd, Nat.reduceMul, Int.reduceToNat, Int.reduceLE, Int.reduceLT, h4, decide_false, gt_iff_lt, h5, decide_true, stop (by rw [ht, decide_eq_false (show ¬ x.n ≤ 99 by omega), Bool.and_false]; rfl)]
            · simp only [↓aX, evp, evq, evl, boxK, stillV, binV, AV.cells, mP, loadV, storeV, ldV, AV.stb, AV.one, IV.av1, Lb.app, Lb.fresh, reduceCtorEq, ptrL, appL, fillA, chunks, ivs, AV.iv, mkE, if_false, if_true, List.not_mem_nil, forall_eq, beq_self_eq_true, List.isEmpty_nil, Nat.reduceEqDiff, Nat.reduceLT, Nat.reduceLeDiff, Nat.reduceAdd, Nat.reduceMul, Int.reduceToNat, Int.reduceLE, Int.reduceLT, h4, decide_false, gt_iff_lt, h5, hw]
              exact ⟨⟨i + 1, hlt, next (by rw [ht, decide_eq_true (show 0 ≤ x.n by omega), decide_eq_true (show x.n ≤ 99 by omega)]; rfl)⟩, by simp only; omega, rfl⟩
        | false =>
          simp only [↓aX, evp, evq, evl, boxK, stillV, binV, AV.cells, mP, loadV, storeV, ldV, AV.stb, AV.one, IV.av1, Lb.app, Lb.fresh, reduceCtorEq, ptrL, appL, fillA, chunks, ivs, AV.iv, mkE, if_false, if_true, List.not_mem_nil, forall_eq, beq_self_eq_true, List.isEmpty_nil, Nat.reduceEqDiff, Nat.reduceLT, Nat.reduceLeDiff, Nat.reduceAdd, Nat.reduceMul, Int.reduceToNat, Int.reduceLE, Int.reduceLT, Bool.not_false]
          refine callT_pure (hN x hxm) ?_
          cases h3 : named x.name with
          | true =>
            have ht := tail true (by rw [h1, h2, h3]; rfl)
            simp only [↓aX, evp, evq, evl, boxK, stillV, binV, AV.cells, mP, loadV, storeV, ldV, AV.stb, AV.one, IV.av1, Lb.app, Lb.fresh, reduceCtorEq, ptrL, appL, fillA, chunks, ivs, AV.iv, mkE, if_false, if_true, List.not_mem_nil, forall_eq, beq_self_eq_true, List.isEmpty_nil, Nat.reduceEqDiff, Nat.reduceLT, Nat.reduceLeDiff, Nat.reduceAdd, Nat.reduceMul, Int.reduceToNat, Int.reduceLE, Int.reduceLT, Bool.not_true]
            by_cases h4 : x.n < 0
            · simp only [↓aX, evp, evq, evl, boxK, stillV, binV, AV.cells, mP, loadV, storeV, ldV, AV.stb, AV.one, IV.av1, Lb.app, Lb.fresh, reduceCtorEq, ptrL, appL, fillA, chunks, ivs, AV.iv, mkE, if_false, if_true, List.not_mem_nil, forall_eq, beq_self_eq_true, List.isEmpty_nil, Nat.reduceEqDiff, Nat.reduceLT, Nat.reduceLeDiff, Nat.reduceAdd, Nat.reduceMul, Int.reduceToNat, Int.reduceLE, Int.reduceLT, h4, decide_true, stop (by rw [ht, decide_eq_false (by omega)]; rfl)]
            · by_cases h5 : 99 < x.n
              · simp only [↓aX, evp, evq, evl, boxK, stillV, binV, AV.cells, mP, loadV, storeV, ldV, AV.stb, AV.one, IV.av1, Lb.app, Lb.fresh, reduceCtorEq, ptrL, appL, fillA, chunks, ivs, AV.iv, mkE, if_false, if_true, List.not_mem_nil, forall_eq, beq_self_eq_true, List.isEmpty_nil, Nat.reduceEqDiff, Nat.reduceLT, Nat.reduceLeDiff, Nat.reduceAdd, Nat.reduceMul, Int.reduceToNat, Int.reduceLE, Int.reduceLT, h4, decide_false, gt_iff_lt, h5, decide_true, stop (by rw [ht, decide_eq_false (show ¬ x.n ≤ 99 by omega), Bool.and_false]; rfl)]
              · simp only [↓aX, evp, evq, evl, boxK, stillV, binV, AV.cells, mP, loadV, storeV, ldV, AV.stb, AV.one, IV.av1, Lb.app, Lb.fresh, reduceCtorEq, ptrL, appL, fillA, chunks, ivs, AV.iv, mkE, if_false, if_true, List.not_mem_nil, forall_eq, beq_self_eq_true, List.isEmpty_nil, Nat.reduceEqDiff, Nat.reduceLT, Nat.reduceLeDiff, Nat.reduceAdd, Nat.reduceMul, Int.reduceToNat, Int.reduceLE, Int.reduceLT, h4, decide_false, gt_iff_lt, h5, hw]
                exact ⟨⟨i + 1, hlt, next (by rw [ht, decide_eq_true (show 0 ≤ x.n by omega), decide_eq_true (show x.n ≤ 99 by omega)]; rfl)⟩, by simp only; omega, rfl⟩
          | false =>
            have ht := tail false (by rw [h1, h2, h3]; rfl)
            simp only [↓aX, evp, evq, evl, boxK, stillV, binV, AV.cells, mP, loadV, storeV, ldV, AV.stb, AV.one, IV.av1, Lb.app, Lb.fresh, reduceCtorEq, ptrL, appL, fillA, chunks, ivs, AV.iv, mkE, if_false, if_true, List.not_mem_nil, forall_eq, beq_self_eq_true, List.isEmpty_nil, Nat.reduceEqDiff, Nat.reduceLT, Nat.reduceLeDiff, Nat.reduceAdd, Nat.reduceMul, Int.reduceToNat, Int.reduceLE, Int.reduceLT, Bool.not_false, stop ht]
    · have hil : l.take i = l := List.take_of_length_le (by omega)
      have hall : l.all okStep = true := List.all_eq_true.2 fun x hx => hs x (by rw [hil]; exact hx)
      rw [show decide ((i : Int) < (l.length : Int)) = false by simpa using hlt]
      simp only [↓aX, evp, evq, evl, boxK, stillV, binV, AV.cells, mP, loadV, storeV, ldV, AV.stb, AV.one, IV.av1, Lb.app, Lb.fresh, reduceCtorEq, ptrL, appL, fillA, chunks, ivs, AV.iv, mkE, if_false, if_true, List.not_mem_nil, forall_eq, beq_self_eq_true, List.isEmpty_nil, Nat.reduceEqDiff, Nat.reduceLT, Nat.reduceLeDiff, Nat.reduceAdd, Nat.reduceMul, Int.reduceToNat, Int.reduceLE, Int.reduceLT, List.length_map]
      by_cases h1 : 1 ≤ l.length
      · by_cases h2 : l.length ≤ 5
        · simp only [↓aX, evp, evq, evl, boxK, stillV, binV, AV.cells, mP, loadV, storeV, ldV, AV.stb, AV.one, IV.av1, Lb.app, Lb.fresh, reduceCtorEq, ptrL, appL, fillA, chunks, ivs, AV.iv, mkE, if_false, if_true, List.not_mem_nil, forall_eq, beq_self_eq_true, List.isEmpty_nil, Nat.reduceEqDiff, Nat.reduceLT, Nat.reduceLeDiff, Nat.reduceAdd, Nat.reduceMul, Int.reduceToNat, Int.reduceLE, Int.reduceLT, show ((l.length : Int) ≥ 1) by omega, decide_true, List.length_map, show ((l.length : Int) ≤ 5) by omega, goodPath, hall, h1, h2, Bool.and_true]
        · simp only [↓aX, evp, evq, evl, boxK, stillV, binV, AV.cells, mP, loadV, storeV, ldV, AV.stb, AV.one, IV.av1, Lb.app, Lb.fresh, reduceCtorEq, ptrL, appL, fillA, chunks, ivs, AV.iv, mkE, if_false, if_true, List.not_mem_nil, forall_eq, beq_self_eq_true, List.isEmpty_nil, Nat.reduceEqDiff, Nat.reduceLT, Nat.reduceLeDiff, Nat.reduceAdd, Nat.reduceMul, Int.reduceToNat, Int.reduceLE, Int.reduceLT, show ((l.length : Int) ≥ 1) by omega, decide_true, List.length_map, show ¬ ((l.length : Int) ≤ 5) by omega, goodPath, hall, h1, h2, decide_false, Bool.and_false]
      · simp only [↓aX, evp, evq, evl, boxK, stillV, binV, AV.cells, mP, loadV, storeV, ldV, AV.stb, AV.one, IV.av1, Lb.app, Lb.fresh, reduceCtorEq, ptrL, appL, fillA, chunks, ivs, AV.iv, mkE, if_false, if_true, List.not_mem_nil, forall_eq, beq_self_eq_true, List.isEmpty_nil, Nat.reduceEqDiff, Nat.reduceLT, Nat.reduceLeDiff, Nat.reduceAdd, Nat.reduceMul, Int.reduceToNat, Int.reduceLE, Int.reduceLT, show ¬ ((l.length : Int) ≥ 1) by omega, decide_false, goodPath, hall, h1, Bool.and_false, Bool.false_and]
theorem sel_snoc (d : Doc) (l : List Step) (s : Step) (hl : l ≠ []) : selectF d (l ++ [s]) = (selectF d l).flatMap fun n => chosenF d s 0 (kidsD d n) := by
  match l, hl with
  | t :: r, _ => simp only [List.cons_append, selectF, selF_snoc]
theorem sel_mem {d : Doc} (hi : isDoc d = true) {l : List Step} (hl : l ≠ []) : (selectF d l).length ≤ d.length ∧ ∀ n ∈ selectF d l, 0 ≤ n ∧ n < (d.length : Int) := by
  obtain ⟨t, ht, rfl⟩ := isDoc_iff.1 hi
  rw [selectF_meant l hl]
  constructor
  · rw [List.length_map]
    refine Nat.le_trans (List.length_filter_le _ _) ?_
    simp
  · intro n hn
    obtain ⟨k, hk, rfl⟩ := List.mem_map.1 hn
    have := List.mem_range.1 (List.mem_filter.1 hk).1
    omega
theorem kids_mem {d : Doc} (hi : isDoc d = true) {n : Nat} {x : Node} (h : d[n]? = some x) : ∀ k ∈ x.kids, 0 ≤ k ∧ k < (d.length : Int) := by
  obtain ⟨t, ht, rfl⟩ := isDoc_iff.1 hi
  have hlt := (List.getElem?_eq_some_iff.1 h).1
  obtain ⟨q, y, l, s⟩ := lies_doc hlt
  have hn := l.node
  rw [h] at hn
  have hk : x.kids = kidsAt (n + 1) y.kids := by simp only [Option.some.injEq] at hn; rw [hn]; rfl
  intro k hk2
  rw [hk, ← kidsN_int] at hk2
  obtain ⟨m, hm, rfl⟩ := List.mem_map.1 hk2
  have h1 := kidsN_lt _ _ m hm
  have h2 := l.len
  have h3 := y.cnt_eq
  omega
theorem flat_take {α : Type} (f : Int → List α) (l : List Int) (i : Nat) : ((l.take i).flatMap f).length ≤ (l.flatMap f).length := by
  conv => rhs; rw [← List.take_append_drop i l, List.flatMap_append, List.length_append]
  omega
theorem flat_step {α : Type} (f : Int → List α) {l : List Int} {i : Nat} {n : Int} (h : l[i]? = some n) : (l.take (i + 1)).flatMap f = (l.take i).flatMap f ++ f n := by
  rw [List.take_add_one, h, List.flatMap_append]; simp
noncomputable def selectD (d : Doc) (l : List Step) : List Int × Int := if isDoc d = true ∧ goodPath l = true then (selectF d l, 0) else ([], 1)
def c_path_Select (f_doc_Good f_path_Good f_path_chosen : Nat) : AC :=
(.seq (.reg [⟨(some 2), none, (.box (.t 0))⟩, ⟨(some 4), none, (.mov (.c .nil0))⟩, ⟨(some 5), none, (.mov (.c (.int .i64 0)))⟩]) (.seq (.seq (.reg [⟨(some 12), none, (.load (some 1) (.t 2))⟩, ⟨(some 13), none, (.call f_doc_Good [(.t 12)])⟩, ⟨(some 14), none, (.not (.t 13))⟩, ⟨(some 15), none, (.mov (.t 14))⟩, ⟨(some 16), (some (15, false)), (.mov (.t 1))⟩, ⟨(some 17), (some (15, false)), (.call f_path_Good [(.t 16)])⟩, ⟨(some 18), (some (15, false)), (.not (.t 17))⟩, ⟨(some 19), none, (.pick (.t 15) (.c (.bool true)) (.t 18))⟩]) (.cond (.t 19) (.seq (.reg [⟨(some 4), none, (.mov (.c .nil0))⟩, ⟨(some 5), none, (.mov (.c (.int .i64 1)))⟩]) .ret) .skip)) (.seq (.dreg [⟨(some 20), none, (.load (some 1) (.t 2))⟩, ⟨(some 21), none, (.lits 1 1 [(.int .i64 0)] [(0, (.c (.int .i64 0)))])⟩, ⟨(some 22), none, (.mov (.t 1))⟩, ⟨(some 23), none, (.ixa (.t 22) (.c (.int .i64 0)) 2)⟩, ⟨(some 24), none, (.load (some 2) (.t 23))⟩, ⟨(some 25), none, (.call f_path_chosen [(.t 20), (.t 21), (.t 24)])⟩, ⟨(some 6), none, (.mov (.t 25))⟩] [[], [], [], [2], [3], [0, 1, 4], [5, 5, 0, 1, 2, 3, 4, 5]] [.rw [.loc 2] [], .no, .no, .no, .no, .no, .no]) (.seq (.seq (.reg [⟨(some 26), none, (.mov (.t 1))⟩, ⟨(some 27), none, (.slc (.t 26) (some (.c (.int .i64 1))) none none 2)⟩, ⟨(some 28), none, (.len (.t 27))⟩, ⟨(some 29), none, (.mov (.c (.int .i64 0)))⟩]) (.block 0 (.loop (.seq (.reg [⟨(some 30), none, (.bin .lss (.t 29) (.t 28))⟩]) (.seq (.cond (.t 30) .skip (.exit 0)) (.seq (.block 1 (.seq (.reg [⟨(some 31), none, (.ixa (.t 27) (.t 29) 2)⟩, ⟨(some 32), none, (.load (some 2) (.t 31))⟩, ⟨(some 8), none, (.new [(.str []), (.int .i64 0)])⟩, ⟨none, none, (.store 2 (.t 8) (.t 32))⟩]) (.seq (.reg [⟨(some 9), none, (.mov (.c .nil0))⟩]) (.gh (.own 9 1) (.seq (.seq (.reg [⟨(some 33), none, (.mov (.t 6))⟩, ⟨(some 34), none, (.len (.t 33))⟩, ⟨(some 35), none, (.mov (.c (.int .i64 0)))⟩]) (.block 2 (.loop (.seq (.reg [⟨(some 36), none, (.bin .lss (.t 35) (.t 34))⟩]) (.seq (.cond (.t 36) .skip (.exit 2)) (.seq (.block 3 (.seq (.reg [⟨(some 37), none, (.ixa (.t 33) (.t 35) 1)⟩, ⟨(some 38), none, (.load none (.t 37))⟩, ⟨(some 11), none, (.mov (.t 38))⟩]) (.dreg [⟨(some 39), none, (.mov (.t 9))⟩, ⟨(some 40), none, (.load (some 1) (.t 2))⟩, ⟨(some 41), none, (.fld (.t 2) 0)⟩, ⟨(some 42), none, (.load none (.t 41))⟩, ⟨(some 43), none, (.mov (.t 11))⟩, ⟨(some 44), none, (.ixa (.t 42) (.t 43) 5)⟩, ⟨(some 45), none, (.fld (.t 44) 4)⟩, ⟨(some 46), none, (.load none (.t 45))⟩, ⟨(some 47), none, (.load (some 2) (.t 8))⟩, ⟨(some 48), none, (.call f_path_chosen [(.t 40), (.t 46), (.t 47)])⟩, ⟨(some 49), none, (.app (.t 39) (.t 48) 1 8)⟩, ⟨(some 9), none, (.mov (.t 49))⟩] [[], [], [], [2], [], [3, 4], [5], [6], [], [1, 7, 8], [0, 9, 9], [10, 10, 0, 1, 2, 3, 4, 5, 6, 7, 8, 9, 10]] [.no, .rw [.loc 2] [], .no, .rw [.loc 2] [], .no, .no, .no, .no, .rw [.loc 8] [], .no, (.rw [] [.loc 9, .loc 49]), .no]))) (.reg [⟨(some 50), none, (.bin .add (.t 35) (.c (.int .i64 1)))⟩, ⟨(some 35), none, (.mov (.t 50))⟩]))))))) (.gh (.frz (.loc 9) 9) (.reg [⟨(some 51), none, (.mov (.t 9))⟩, ⟨(some 6), none, (.mov (.t 51))⟩]))))))) (.reg [⟨(some 52), none, (.bin .add (.t 29) (.c (.int .i64 1)))⟩, ⟨(some 29), none, (.mov (.t 52))⟩]))))))) (.seq (.reg [⟨(some 53), none, (.mov (.t 6))⟩, ⟨(some 4), none, (.mov (.t 53))⟩, ⟨(some 5), none, (.mov (.c (.int .i64 0)))⟩]) .ret)))))
end
end Go.Am
