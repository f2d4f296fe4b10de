import Derived.Test.YtfinkeaikbmpgaaDoorKP1
import Derived.Test.YtfinkeaikbmpgaaDoorKT16
set_option linter.unusedSimpArgs false
set_option linter.unusedVariables false
set_option linter.unnecessarySimpa false
set_option linter.defProp false
/- Paths: what is a path; Select. -/
namespace Go.Am
open Go Go.RowKit
section
variable {P : Program} {G : Nat → Option (List IV)}
def c_path_Good (f_tree_Named : Nat) : AC :=
(.seq (.reg [⟨(some 2), none, (.mov (.c (.bool false)))⟩]) (.seq (.seq (.reg [⟨(some 5), none, (.mov (.t 0))⟩, ⟨(some 6), none, (.len (.t 5))⟩, ⟨(some 7), none, (.mov (.c (.int .i64 0)))⟩]) (.block 0 (.loop (.seq (.reg [⟨(some 8), none, (.bin .lss (.t 7) (.t 6))⟩]) (.seq (.cond (.t 8) .skip (.exit 0)) (.seq (.block 1 (.seq (.reg [⟨(some 9), none, (.ixa (.t 5) (.t 7) 2)⟩, ⟨(some 10), none, (.load (some 2) (.t 9))⟩, ⟨(some 4), none, (.new [(.str []), (.int .i64 0)])⟩, ⟨none, none, (.store 2 (.t 4) (.t 10))⟩]) (.seq (.reg [⟨(some 11), none, (.fld (.t 4) 0)⟩, ⟨(some 12), none, (.load none (.t 11))⟩, ⟨(some 13), none, (.bin .neq (.t 12) (.c (.str [])))⟩, ⟨(some 14), none, (.mov (.t 13))⟩, ⟨(some 15), (some (14, true)), (.fld (.t 4) 0)⟩, ⟨(some 16), (some (14, true)), (.load none (.t 15))⟩, ⟨(some 17), (some (14, true)), (.bin .neq (.t 16) (.c (.str [42])))⟩, ⟨(some 18), none, (.pick (.t 14) (.t 17) (.c (.bool false)))⟩, ⟨(some 19), none, (.mov (.t 18))⟩, ⟨(some 20), (some (19, true)), (.fld (.t 4) 0)⟩, ⟨(some 21), (some (19, true)), (.load none (.t 20))⟩, ⟨(some 22), (some (19, true)), (.call f_tree_Named [(.t 21)])⟩, ⟨(some 23), (some (19, true)), (.not (.t 22))⟩, ⟨(some 24), none, (.pick (.t 19) (.t 23) (.c (.bool false)))⟩, ⟨(some 25), none, (.mov (.t 24))⟩, ⟨(some 26), (some (25, false)), (.fld (.t 4) 1)⟩, ⟨(some 27), (some (25, false)), (.load none (.t 26))⟩, ⟨(some 28), (some (25, false)), (.bin .lss (.t 27) (.c (.int .i64 0)))⟩, ⟨(some 29), none, (.pick (.t 25) (.c (.bool true)) (.t 28))⟩, ⟨(some 30), none, (.mov (.t 29))⟩, ⟨(some 31), (some (30, false)), (.fld (.t 4) 1)⟩, ⟨(some 32), (some (30, false)), (.load none (.t 31))⟩, ⟨(some 33), (some (30, false)), (.bin .gtr (.t 32) (.c (.int .i64 99)))⟩, ⟨(some 34), none, (.pick (.t 30) (.c (.bool true)) (.t 33))⟩]) (.cond (.t 34) (.seq (.reg [⟨(some 2), none, (.mov (.c (.bool false)))⟩]) .ret) .skip)))) (.reg [⟨(some 35), none, (.bin .add (.t 7) (.c (.int .i64 1)))⟩, ⟨(some 7), none, (.mov (.t 35))⟩]))))))) (.seq (.reg [⟨(some 36), none, (.mov (.t 0))⟩, ⟨(some 37), none, (.len (.t 36))⟩, ⟨(some 38), none, (.bin .geq (.t 37) (.c (.int .i64 1)))⟩, ⟨(some 39), none, (.mov (.t 38))⟩, ⟨(some 40), (some (39, true)), (.mov (.t 0))⟩, ⟨(some 41), (some (39, true)), (.len (.t 40))⟩, ⟨(some 42), (some (39, true)), (.bin .leq (.t 41) (.c (.int .i64 5)))⟩, ⟨(some 43), none, (.pick (.t 39) (.t 42) (.c (.bool false)))⟩, ⟨(some 2), none, (.mov (.t 43))⟩]) .ret)))
theorem pPathGood {f_path_Good f_tree_Named : Nat} (hF : compF P G f_path_Good = some (44, [(none, 2)], (c_path_Good f_tree_Named).bare)) (l : List Step) (hl : l.length ≤ B) (hN : ∀ x ∈ l, PureC P G f_tree_Named [.str x.name] (.bool (named x.name))) :
    PureC P G f_path_Good [.list (l.map Step.iv)] (.bool (goodPath l)) := by
  refine pure_of_go hF (by simp) (by simp [lbss, AV.lbs]) (by simp [AV.lbs]) ?_
  have hBv : B = 1073741824 := rfl
  unfold c_path_Good
  simp only [↓aX, evp, evq, evl, boxK, stillV, binV, AV.cells, mP, loadV, storeV, ldV, AV.stb, AV.one, IV.av1, Lb.app, Lb.fresh, reduceCtorEq, ptrL, appL, fillA, chunks, ivs, AV.iv, mkE, if_false, if_true, List.not_mem_nil, forall_eq, beq_self_eq_true, List.isEmpty_nil, Nat.reduceEqDiff, Nat.reduceLT, Nat.reduceLeDiff, Nat.reduceAdd, Nat.reduceMul, Int.reduceToNat, Int.reduceLE, Int.reduceLT, List.length_map]
  refine loop_data (σ := { i : Nat // i ≤ l.length ∧ ∀ x ∈ l.take i, okStep x = true }) (fun q => [(0, .list (l.map Step.iv)), (5, .list (l.map Step.iv)), (6, .int .i64 l.length), (7, .int .i64 q.1)]) (fun q => l.length - q.1) ⟨0, by simp⟩ (fun _ => rfl) ?_ ?_
  · exact ⟨by simp only [↓aX, evp, evq, evl, boxK, stillV, binV, AV.cells, mP, loadV, storeV, ldV, AV.stb, AV.one, IV.av1, Lb.app, Lb.fresh, reduceCtorEq, ptrL, appL, fillA, chunks, ivs, AV.iv, mkE, if_false, if_true, List.not_mem_nil, forall_eq, beq_self_eq_true, List.isEmpty_nil, Nat.reduceEqDiff, Nat.reduceLT, Nat.reduceLeDiff, Nat.reduceAdd, Nat.reduceMul, Int.reduceToNat, Int.reduceLE, Int.reduceLT], by repeat' constructor⟩
  · rintro ⟨i, hi, hs⟩
    simp only [↓aX, evp, evq, evl, boxK, stillV, binV, AV.cells, mP, loadV, storeV, ldV, AV.stb, AV.one, IV.av1, Lb.app, Lb.fresh, reduceCtorEq, ptrL, appL, fillA, chunks, ivs, AV.iv, mkE, if_false, if_true, List.not_mem_nil, forall_eq, beq_self_eq_true, List.isEmpty_nil, Nat.reduceEqDiff, Nat.reduceLT, Nat.reduceLeDiff, Nat.reduceAdd, Nat.reduceMul, Int.reduceToNat, Int.reduceLE, Int.reduceLT, List.length_map]
    by_cases hlt : i < l.length
    · rw [show decide ((i : Int) < (l.length : Int)) = true by simpa using hlt]
      obtain ⟨x, hx⟩ : ∃ x, l[i]? = some x := ⟨_, List.getElem?_eq_getElem hlt⟩
      have hxm := List.mem_of_getElem? hx
      have hw : IntKind.i64.wrap ((i : Int) + 1) = ((i + 1 : Nat) : Int) := wrap64 (by omega) (by omega)
      have stop : okStep x = false → goodPath l = false := fun h => by
        unfold goodPath
        rw [show l.all okStep = false from List.all_eq_false.2 ⟨x, hxm, by simp [h]⟩]; rfl
      have next : okStep x = true → ∀ y ∈ l.take (i + 1), okStep y = true := fun h y hy => by
        rw [List.take_add_one, hx] at hy
        simp only [Option.toList_some, List.mem_append, List.mem_singleton] at hy
        rcases hy with hy | rfl
        · exact hs y hy
        · exact h
      simp only [↓aX, evp, evq, evl, boxK, stillV, binV, AV.cells, mP, loadV, storeV, ldV, AV.stb, AV.one, IV.av1, Lb.app, Lb.fresh, reduceCtorEq, ptrL, appL, fillA, chunks, ivs, AV.iv, mkE, if_false, if_true, List.not_mem_nil, forall_eq, beq_self_eq_true, List.isEmpty_nil, Nat.reduceEqDiff, Nat.reduceLT, Nat.reduceLeDiff, Nat.reduceAdd, Nat.reduceMul, Int.reduceToNat, Int.reduceLE, Int.reduceLT, stGet, hx, elszS, Option.map_some, Step.cells_eq, Step.cs]
      have tail : ∀ b : Bool, (x.name == [] || (x.name == [42] || named x.name)) = b → okStep x = (b && (decide (0 ≤ x.n) && decide (x.n ≤ 99))) := fun b h => by unfold okStep; rw [h]
      cases h1 : (x.name == []) with
      | true =>
        have ht := tail true (by rw [h1]; rfl)
        simp only [↓aX, evp, evq, evl, boxK, stillV, binV, AV.cells, mP, loadV, storeV, ldV, AV.stb, AV.one, IV.av1, Lb.app, Lb.fresh, reduceCtorEq, ptrL, appL, fillA, chunks, ivs, AV.iv, mkE, if_false, if_true, List.not_mem_nil, forall_eq, beq_self_eq_true, List.isEmpty_nil, Nat.reduceEqDiff, Nat.reduceLT, Nat.reduceLeDiff, Nat.reduceAdd, Nat.reduceMul, Int.reduceToNat, Int.reduceLE, Int.reduceLT, Bool.not_true]
        by_cases h4 : x.n < 0
        · simp only [↓aX, evp, evq, evl, boxK, stillV, binV, AV.cells, mP, loadV, storeV, ldV, AV.stb, AV.one, IV.av1, Lb.app, Lb.fresh, reduceCtorEq, ptrL, appL, fillA, chunks, ivs, AV.iv, mkE, if_false, if_true, List.not_mem_nil, forall_eq, beq_self_eq_true, List.isEmpty_nil, Nat.reduceEqDiff, Nat.reduceLT, Nat.reduceLeDiff, Nat.reduceAdd, Nat.reduceMul, Int.reduceToNat, Int.reduceLE, Int.reduceLT, h4, decide_true, stop (by rw [ht, decide_eq_false (by omega)]; rfl)]
        · by_cases h5 : 99 < x.n
          · simp only [↓aX, evp, evq, evl, boxK, stillV, binV, AV.cells, mP, loadV, storeV, ldV, AV.stb, AV.one, IV.av1, Lb.app, Lb.fresh, reduceCtorEq, ptrL, appL, fillA, chunks, ivs, AV.iv, mkE, if_false, if_true, List.not_mem_nil, forall_eq, beq_self_eq_true, List.isEmpty_nil, Nat.reduceEqDiff, Nat.reduceLT, Nat.reduceLeDiff, Nat.reduceAdd, Nat.reduceMul, Int.reduceToNat, Int.reduceLE, Int.reduceLT, h4, decide_false, gt_iff_lt, h5, decide_true, stop (by rw [ht, decide_eq_false (show ¬ x.n ≤ 99 by omega), Bool.and_false]; rfl)]
          · simp only [↓aX, evp, evq, evl, boxK, stillV, binV, AV.cells, mP, loadV, storeV, ldV, AV.stb, AV.one, IV.av1, Lb.app, Lb.fresh, reduceCtorEq, ptrL, appL, fillA, chunks, ivs, AV.iv, mkE, if_false, if_true, List.not_mem_nil, forall_eq, beq_self_eq_true, List.isEmpty_nil, Nat.reduceEqDiff, Nat.reduceLT, Nat.reduceLeDiff, Nat.reduceAdd, Nat.reduceMul, Int.reduceToNat, Int.reduceLE, Int.reduceLT, h4, decide_false, gt_iff_lt, h5, hw]
            exact ⟨⟨i + 1, hlt, next (by rw [ht, decide_eq_true (show 0 ≤ x.n by omega), decide_eq_true (show x.n ≤ 99 by omega)]; rfl)⟩, by simp only; omega, rfl⟩
      | false =>
        simp only [↓aX, evp, evq, evl, boxK, stillV, binV, AV.cells, mP, loadV, storeV, ldV, AV.stb, AV.one, IV.av1, Lb.app, Lb.fresh, reduceCtorEq, ptrL, appL, fillA, chunks, ivs, AV.iv, mkE, if_false, if_true, List.not_mem_nil, forall_eq, beq_self_eq_true, List.isEmpty_nil, Nat.reduceEqDiff, Nat.reduceLT, Nat.reduceLeDiff, Nat.reduceAdd, Nat.reduceMul, Int.reduceToNat, Int.reduceLE, Int.reduceLT, Bool.not_false]
        cases h2 : (x.name == [42]) with
        | true =>
          have ht := tail true (by rw [h1, h2]; rfl)
          simp only [↓aX, evp, evq, evl, boxK, stillV, binV, AV.cells, mP, loadV, storeV, ldV, AV.stb, AV.one, IV.av1, Lb.app, Lb.fresh, reduceCtorEq, ptrL, appL, fillA, chunks, ivs, AV.iv, mkE, if_false, if_true, List.not_mem_nil, forall_eq, beq_self_eq_true, List.isEmpty_nil, Nat.reduceEqDiff, Nat.reduceLT, Nat.reduceLeDiff, Nat.reduceAdd, Nat.reduceMul, Int.reduceToNat, Int.reduceLE, Int.reduceLT, Bool.not_true]
          by_cases h4 : x.n < 0
          · simp only [↓aX, evp, evq, evl, boxK, stillV, binV, AV.cells, mP, loadV, storeV, ldV, AV.stb, AV.one, IV.av1, Lb.app, Lb.fresh, reduceCtorEq, ptrL, appL, fillA, chunks, ivs, AV.iv, mkE, if_false, if_true, List.not_mem_nil, forall_eq, beq_self_eq_true, List.isEmpty_nil, Nat.reduceEqDiff, Nat.reduceLT, Nat.reduceLeDiff, Nat.reduceAdd, Nat.reduceMul, Int.reduceToNat, Int.reduceLE, Int.reduceLT, h4, decide_true, stop (by rw [ht, decide_eq_false (by omega)]; rfl)]
          · by_cases h5 : 99 < x.n
            · simp only [↓aX, evp, evq, evl, boxK, stillV, binV, AV.cells, mP, loadV, storeV, ldV, AV.stb, AV.one, IV.av1, Lb.app, Lb.fresh, reduceCtorEq, ptrL, appL, fillA, chunks, ivs, AV.iv, mkE, if_false, if_true, List.not_mem_nil, forall_eq, beq_self_eq_true, List.isEmpty_nil, Nat.reduceEqDiff, Nat.reduceLT, Nat.reduceLeDiff, Nat.reduceAdd, Nat.reduceMul, Int.reduceToNat, Int.reduceLE, Int.reduceLT, h4, decide_false, gt_iff_lt, h5, decide_true, stop (by rw [ht, decide_eq_false (show ¬ x.n ≤ 99 by omega), Bool.and_false]; rfl)]
            · simp only [↓aX, evp, evq, evl, boxK, stillV, binV, AV.cells, mP, loadV, storeV, ldV, AV.stb, AV.one, IV.av1, Lb.app, Lb.fresh, reduceCtorEq, ptrL, appL, fillA, chunks, ivs, AV.iv, mkE, if_false, if_true, List.not_mem_nil, forall_eq, beq_self_eq_true, List.isEmpty_nil, Nat.reduceEqDiff, Nat.reduceLT, Nat.reduceLeDiff, Nat.reduceAdd, Nat.reduceMul, Int.reduceToNat, Int.reduceLE, Int.reduceLT, h4, decide_false, gt_iff_lt, h5, hw]
              exact ⟨⟨i + 1, hlt, next (by rw [ht, decide_eq_true (show 0 ≤ x.n by omega), decide_eq_true (show x.n ≤ 99 by omega)]; rfl)⟩, by simp only; omega, rfl⟩
        | false =>
          simp only [↓aX, evp, evq, evl, boxK, stillV, binV, AV.cells, mP, loadV, storeV, ldV, AV.stb, AV.one, IV.av1, Lb.app, Lb.fresh, reduceCtorEq, ptrL, appL, fillA, chunks, ivs, AV.iv, mkE, if_false, if_true, List.not_mem_nil, forall_eq, beq_self_eq_true, List.isEmpty_nil, Nat.reduceEqDiff, Nat.reduceLT, Nat.reduceLeDiff, Nat.reduceAdd, Nat.reduceMul, Int.reduceToNat, Int.reduceLE, Int.reduceLT, Bool.not_false]
          refine callT_pure (hN x hxm) ?_
          cases h3 : named x.name with
          | true =>
            have ht := tail true (by rw [h1, h2, h3]; rfl)
            simp only [↓aX, evp, evq, evl, boxK, stillV, binV, AV.cells, mP, loadV, storeV, ldV, AV.stb, AV.one, IV.av1, Lb.app, Lb.fresh, reduceCtorEq, ptrL, appL, fillA, chunks, ivs, AV.iv, mkE, if_false, if_true, List.not_mem_nil, forall_eq, beq_self_eq_true, List.isEmpty_nil, Nat.reduceEqDiff, Nat.reduceLT, Nat.reduceLeDiff, Nat.reduceAdd, Nat.reduceMul, Int.reduceToNat, Int.reduceLE, Int.reduceLT, Bool.not_true]
            by_cases h4 : x.n < 0
            · simp only [↓aX, evp, evq, evl, boxK, stillV, binV, AV.cells, mP, loadV, storeV, ldV, AV.stb, AV.one, IV.av1, Lb.app, Lb.fresh, reduceCtorEq, ptrL, appL, fillA, chunks, ivs, AV.iv, mkE, if_false, if_true, List.not_mem_nil, forall_eq, beq_self_eq_true, List.isEmpty_nil, Nat.reduceEqDiff, Nat.reduceLT, Nat.reduceLeDiff, Nat.reduceAdd, Nat.reduceMul, Int.reduceToNat, Int.reduceLE, Int.reduceLT, h4, decide_true, stop (by rw [ht, decide_eq_false (by omega)]; rfl)]
            · by_cases h5 : 99 < x.n
              · simp only [↓aX, evp, evq, evl, boxK, stillV, binV, AV.cells, mP, loadV, storeV, ldV, AV.stb, AV.one, IV.av1, Lb.app, Lb.fresh, reduceCtorEq, ptrL, appL, fillA, chunks, ivs, AV.iv, mkE, if_false, if_true, List.not_mem_nil, forall_eq, beq_self_eq_true, List.isEmpty_nil, Nat.reduceEqDiff, Nat.reduceLT, Nat.reduceLeDiff, Nat.reduceAdd, Nat.reduceMul, Int.reduceToNat, Int.reduceLE, Int.reduceLT, h4, decide_false, gt_iff_lt, h5, decide_true, stop (by rw [ht, decide_eq_false (show ¬ x.n ≤ 99 by omega), Bool.and_false]; rfl)]
              · simp only [↓aX, evp, evq, evl, boxK, stillV, binV, AV.cells, mP, loadV, storeV, ldV, AV.stb, AV.one, IV.av1, Lb.app, Lb.fresh, reduceCtorEq, ptrL, appL, fillA, chunks, ivs, AV.iv, mkE, if_false, if_true, List.not_mem_nil, forall_eq, beq_self_eq_true, List.isEmpty_nil, Nat.reduceEqDiff, Nat.reduceLT, Nat.reduceLeDiff, Nat.reduceAdd, Nat.reduceMul, Int.reduceToNat, Int.reduceLE, Int.reduceLT, h4, decide_false, gt_iff_lt, h5, hw]
                exact ⟨⟨i + 1, hlt, next (by rw [ht, decide_eq_true (show 0 ≤ x.n by omega), decide_eq_true (show x.n ≤ 99 by omega)]; rfl)⟩, by simp only; omega, rfl⟩
          | false =>
            have ht := tail false (by rw [h1, h2, h3]; rfl)
            simp only [↓aX, evp, evq, evl, boxK, stillV, binV, AV.cells, mP, loadV, storeV, ldV, AV.stb, AV.one, IV.av1, Lb.app, Lb.fresh, reduceCtorEq, ptrL, appL, fillA, chunks, ivs, AV.iv, mkE, if_false, if_true, List.not_mem_nil, forall_eq, beq_self_eq_true, List.isEmpty_nil, Nat.reduceEqDiff, Nat.reduceLT, Nat.reduceLeDiff, Nat.reduceAdd, Nat.reduceMul, Int.reduceToNat, Int.reduceLE, Int.reduceLT, Bool.not_false, stop ht]
    · have hil : l.take i = l := List.take_of_length_le (by omega)
      have hall : l.all okStep = true := List.all_eq_true.2 fun x hx => hs x (by rw [hil]; exact hx)
      rw [show decide ((i : Int) < (l.length : Int)) = false by simpa using hlt]
      simp only [↓aX, evp, evq, evl, boxK, stillV, binV, AV.cells, mP, loadV, storeV, ldV, AV.stb, AV.one, IV.av1, Lb.app, Lb.fresh, reduceCtorEq, ptrL, appL, fillA, chunks, ivs, AV.iv, mkE, if_false, if_true, List.not_mem_nil, forall_eq, beq_self_eq_true, List.isEmpty_nil, Nat.reduceEqDiff, Nat.reduceLT, Nat.reduceLeDiff, Nat.reduceAdd, Nat.reduceMul, Int.reduceToNat, Int.reduceLE, Int.reduceLT, List.length_map]
      by_cases h1 : 1 ≤ l.length
      · by_cases h2 : l.length ≤ 5
        · simp only [↓aX, evp, evq, evl, boxK, stillV, binV, AV.cells, mP, loadV, storeV, ldV, AV.stb, AV.one, IV.av1, Lb.app, Lb.fresh, reduceCtorEq, ptrL, appL, fillA, chunks, ivs, AV.iv, mkE, if_false, if_true, List.not_mem_nil, forall_eq, beq_self_eq_true, List.isEmpty_nil, Nat.reduceEqDiff, Nat.reduceLT, Nat.reduceLeDiff, Nat.reduceAdd, Nat.reduceMul, Int.reduceToNat, Int.reduceLE, Int.reduceLT, show ((l.length : Int) ≥ 1) by omega, decide_true, List.length_map, show ((l.length : Int) ≤ 5) by omega, goodPath, hall, h1, h2, Bool.and_true]
        · simp only [↓aX, evp, evq, evl, boxK, stillV, binV, AV.cells, mP, loadV, storeV, ldV, AV.stb, AV.one, IV.av1, Lb.app, Lb.fresh, reduceCtorEq, ptrL, appL, fillA, chunks, ivs, AV.iv, mkE, if_false, if_true, List.not_mem_nil, forall_eq, beq_self_eq_true, List.isEmpty_nil, Nat.reduceEqDiff, Nat.reduceLT, Nat.reduceLeDiff, Nat.reduceAdd, Nat.reduceMul, Int.reduceToNat, Int.reduceLE, Int.reduceLT, show ((l.length : Int) ≥ 1) by omega, decide_true, List.length_map, show ¬ ((l.length : Int) ≤ 5) by omega, goodPath, hall, h1, h2, decide_false, Bool.and_false]
      · simp only [↓aX, evp, evq, evl, boxK, stillV, binV, AV.cells, mP, loadV, storeV, ldV, AV.stb, AV.one, IV.av1, Lb.app, Lb.fresh, reduceCtorEq, ptrL, appL, fillA, chunks, ivs, AV.iv, mkE, if_false, if_true, List.not_mem_nil, forall_eq, beq_self_eq_true, List.isEmpty_nil, Nat.reduceEqDiff, Nat.reduceLT, Nat.reduceLeDiff, Nat.reduceAdd, Nat.reduceMul, Int.reduceToNat, Int.reduceLE, Int.reduceLT, show ¬ ((l.length : Int) ≥ 1) by omega, decide_false, goodPath, hall, h1, Bool.and_false, Bool.false_and]
theorem sel_snoc (d : Doc) (l : List Step) (s : Step) (hl : l ≠ []) : selectF d (l ++ [s]) = (selectF d l).flatMap fun n => chosenF d s 0 (kidsD d n) := by
  match l, hl with
  | t :: r, _ => simp only [List.cons_append, selectF, selF_snoc]
theorem sel_mem {d : Doc} (hi : isDoc d = true) {l : List Step} (hl : l ≠ []) : (selectF d l).length ≤ d.length ∧ ∀ n ∈ selectF d l, 0 ≤ n ∧ n < (d.length : Int) := by
  obtain ⟨t, ht, rfl⟩ := isDoc_iff.1 hi
  rw [selectF_meant l hl]
  constructor
  · rw [List.length_map]
    refine Nat.le_trans (List.length_filter_le _ _) ?_
    simp
  · intro n hn
    obtain ⟨k, hk, rfl⟩ := List.mem_map.1 hn
    have := List.mem_range.1 (List.mem_filter.1 hk).1
    omega
theorem kids_mem {d : Doc} (hi : isDoc d = true) {n : Nat} {x : Node} (h : d[n]? = some x) : ∀ k ∈ x.kids, 0 ≤ k ∧ k < (d.length : Int) := by
  obtain ⟨t, ht, rfl⟩ := isDoc_iff.1 hi
  have hlt := (List.getElem?_eq_some_iff.1 h).1
  obtain ⟨q, y, l, s⟩ := lies_doc hlt
  have hn := l.node
  rw [h] at hn
  have hk : x.kids = kidsAt (n + 1) y.kids := by simp only [Option.some.injEq] at hn; rw [hn]; rfl
  intro k hk2
  rw [hk, ← kidsN_int] at hk2
  obtain ⟨m, hm, rfl⟩ := List.mem_map.1 hk2
  have h1 := kidsN_lt _ _ m hm
  have h2 := l.len
  have h3 := y.cnt_eq
  omega
theorem flat_take {α : Type} (f : Int → List α) (l : List Int) (i : Nat) : ((l.take i).flatMap f).length ≤ (l.flatMap f).length := by
  conv => rhs; rw [← List.take_append_drop i l, List.flatMap_append, List.length_append]
  omega
theorem flat_step {α : Type} (f : Int → List α) {l : List Int} {i : Nat} {n : Int} (h : l[i]? = some n) : (l.take (i + 1)).flatMap f = (l.take i).flatMap f ++ f n := by
  rw [List.take_add_one, h, List.flatMap_append]; simp
noncomputable def selectD (d : Doc) (l : List Step) : List Int × Int := if isDoc d = true ∧ goodPath l = true then (selectF d l, 0) else ([], 1)
def c_path_Select (f_doc_Good f_path_Good f_path_chosen : Nat) : AC :=
(.seq (.reg [⟨(some 2), none, (.box (.t 0))⟩, ⟨(some 4), none, (.mov (.c .nil0))⟩, ⟨(some 5), none, (.mov (.c (.int .i64 0)))⟩]) (.seq (.seq (.reg [⟨(some 12), none, (.load (some 1) (.t 2))⟩, ⟨(some 13), none, (.call f_doc_Good [(.t 12)])⟩, ⟨(some 14), none, (.not (.t 13))⟩, ⟨(some 15), none, (.mov (.t 14))⟩, ⟨(some 16), (some (15, false)), (.mov (.t 1))⟩, ⟨(some 17), (some (15, false)), (.call f_path_Good [(.t 16)])⟩, ⟨(some 18), (some (15, false)), (.not (.t 17))⟩, ⟨(some 19), none, (.pick (.t 15) (.c (.bool true)) (.t 18))⟩]) (.cond (.t 19) (.seq (.reg [⟨(some 4), none, (.mov (.c .nil0))⟩, ⟨(some 5), none, (.mov (.c (.int .i64 1)))⟩]) .ret) .skip)) (.seq (.dreg [⟨(some 20), none, (.load (some 1) (.t 2))⟩, ⟨(some 21), none, (.lits 1 1 [(.int .i64 0)] [(0, (.c (.int .i64 0)))])⟩, ⟨(some 22), none, (.mov (.t 1))⟩, ⟨(some 23), none, (.ixa (.t 22) (.c (.int .i64 0)) 2)⟩, ⟨(some 24), none, (.load (some 2) (.t 23))⟩, ⟨(some 25), none, (.call f_path_chosen [(.t 20), (.t 21), (.t 24)])⟩, ⟨(some 6), none, (.mov (.t 25))⟩] [[], [], [], [2], [3], [0, 1, 4], [5, 5, 0, 1, 2, 3, 4, 5]] [.rw [.loc 2] [], .no, .no, .no, .no, .no, .no]) (.seq (.seq (.reg [⟨(some 26), none, (.mov (.t 1))⟩, ⟨(some 27), none, (.slc (.t 26) (some (.c (.int .i64 1))) none none 2)⟩, ⟨(some 28), none, (.len (.t 27))⟩, ⟨(some 29), none, (.mov (.c (.int .i64 0)))⟩]) (.block 0 (.loop (.seq (.reg [⟨(some 30), none, (.bin .lss (.t 29) (.t 28))⟩]) (.seq (.cond (.t 30) .skip (.exit 0)) (.seq (.block 1 (.seq (.reg [⟨(some 31), none, (.ixa (.t 27) (.t 29) 2)⟩, ⟨(some 32), none, (.load (some 2) (.t 31))⟩, ⟨(some 8), none, (.new [(.str []), (.int .i64 0)])⟩, ⟨none, none, (.store 2 (.t 8) (.t 32))⟩]) (.seq (.reg [⟨(some 9), none, (.mov (.c .nil0))⟩]) (.gh (.own 9 1) (.seq (.seq (.reg [⟨(some 33), none, (.mov (.t 6))⟩, ⟨(some 34), none, (.len (.t 33))⟩, ⟨(some 35), none, (.mov (.c (.int .i64 0)))⟩]) (.block 2 (.loop (.seq (.reg [⟨(some 36), none, (.bin .lss (.t 35) (.t 34))⟩]) (.seq (.cond (.t 36) .skip (.exit 2)) (.seq (.block 3 (.seq (.reg [⟨(some 37), none, (.ixa (.t 33) (.t 35) 1)⟩, ⟨(some 38), none, (.load none (.t 37))⟩, ⟨(some 11), none, (.mov (.t 38))⟩]) (.dreg [⟨(some 39), none, (.mov (.t 9))⟩, ⟨(some 40), none, (.load (some 1) (.t 2))⟩, ⟨(some 41), none, (.fld (.t 2) 0)⟩, ⟨(some 42), none, (.load none (.t 41))⟩, ⟨(some 43), none, (.mov (.t 11))⟩, ⟨(some 44), none, (.ixa (.t 42) (.t 43) 5)⟩, ⟨(some 45), none, (.fld (.t 44) 4)⟩, ⟨(some 46), none, (.load none (.t 45))⟩, ⟨(some 47), none, (.load (some 2) (.t 8))⟩, ⟨(some 48), none, (.call f_path_chosen [(.t 40), (.t 46), (.t 47)])⟩, ⟨(some 49), none, (.app (.t 39) (.t 48) 1 8)⟩, ⟨(some 9), none, (.mov (.t 49))⟩] [[], [], [], [2], [], [3, 4], [5], [6], [], [1, 7, 8], [0, 9, 9], [10, 10, 0, 1, 2, 3, 4, 5, 6, 7, 8, 9, 10]] [.no, .rw [.loc 2] [], .no, .rw [.loc 2] [], .no, .no, .no, .no, .rw [.loc 8] [], .no, (.rw [] [.loc 9, .loc 49]), .no]))) (.reg [⟨(some 50), none, (.bin .add (.t 35) (.c (.int .i64 1)))⟩, ⟨(some 35), none, (.mov (.t 50))⟩]))))))) (.gh (.frz (.loc 9) 9) (.reg [⟨(some 51), none, (.mov (.t 9))⟩, ⟨(some 6), none, (.mov (.t 51))⟩]))))))) (.reg [⟨(some 52), none, (.bin .add (.t 29) (.c (.int .i64 1)))⟩, ⟨(some 29), none, (.mov (.t 52))⟩]))))))) (.seq (.reg [⟨(some 53), none, (.mov (.t 6))⟩, ⟨(some 4), none, (.mov (.t 53))⟩, ⟨(some 5), none, (.mov (.c (.int .i64 0)))⟩]) .ret)))))
theorem pSelect {f_path_Select f_doc_Good f_path_Good f_path_chosen : Nat} (hF : compF P G f_path_Select = some (54, [(none, 4), (none, 5)], (c_path_Select f_doc_Good f_path_Good f_path_chosen).bare)) (d : Doc) (hd : wtN d ≤ B) (l : List Step) (hl : l.length ≤ B)
    (hG : PureC P G f_doc_Good [Doc.av d] (.bool (isDoc d))) (hP : PureC P G f_path_Good [.list (l.map Step.iv)] (.bool (goodPath l)))
    (hC : ∀ s ∈ l, ∀ ks : List Int, ks.length ≤ B → (∀ n ∈ ks, 0 ≤ n ∧ n < (d.length : Int)) → PureC P G f_path_chosen [Doc.av d, .list (ks.map intIV), s.av] (.list ((chosenF d s 0 ks).map intIV))) :
    PureC P G f_path_Select [Doc.av d, .list (l.map Step.iv)] (.tup [.list ((selectD d l).1.map intIV), .int .i64 (selectD d l).2]) := by
  refine pure_of_goN hF (by simp) (by simp [lbss, AV.lbs, Doc.av]) (by simp [AV.lbs, lbss]) ?_
  have hBv : B = 1073741824 := rfl
  have hdl := wtN_len d
  unfold c_path_Select
  simp only [Doc.av] at hG hC
  simp only [↓aX, evp, evq, evl, boxK, stillV, binV, AV.cells, mP, loadV, storeV, ldV, AV.stb, AV.one, IV.av1, Lb.app, Lb.fresh, reduceCtorEq, ptrL, appL, fillA, chunks, ivs, AV.iv, mkE, if_false, if_true, List.not_mem_nil, forall_eq, beq_self_eq_true, List.isEmpty_nil, Nat.reduceEqDiff, Nat.reduceLT, Nat.reduceLeDiff, Nat.reduceAdd, Nat.reduceMul, Int.reduceToNat, Int.reduceLE, Int.reduceLT, Doc.av]
  refine callT_pure hG ?_
  cases hi : isDoc d with
  | false =>
    have e : selectD d l = ([], 1) := by unfold selectD; rw [if_neg (by simp [hi])]
    simp only [↓aX, evp, evq, evl, boxK, stillV, binV, AV.cells, mP, loadV, storeV, ldV, AV.stb, AV.one, IV.av1, Lb.app, Lb.fresh, reduceCtorEq, ptrL, appL, fillA, chunks, ivs, AV.iv, mkE, if_false, if_true, List.not_mem_nil, forall_eq, beq_self_eq_true, List.isEmpty_nil, Nat.reduceEqDiff, Nat.reduceLT, Nat.reduceLeDiff, Nat.reduceAdd, Nat.reduceMul, Int.reduceToNat, Int.reduceLE, Int.reduceLT, Bool.not_false, ↓ret2_r, e]
    rfl
  | true =>
  simp only [↓aX, evp, evq, evl, boxK, stillV, binV, AV.cells, mP, loadV, storeV, ldV, AV.stb, AV.one, IV.av1, Lb.app, Lb.fresh, reduceCtorEq, ptrL, appL, fillA, chunks, ivs, AV.iv, mkE, if_false, if_true, List.not_mem_nil, forall_eq, beq_self_eq_true, List.isEmpty_nil, Nat.reduceEqDiff, Nat.reduceLT, Nat.reduceLeDiff, Nat.reduceAdd, Nat.reduceMul, Int.reduceToNat, Int.reduceLE, Int.reduceLT, Bool.not_true]
  refine callT_pure hP ?_
  cases hg : goodPath l with
  | false =>
    have e : selectD d l = ([], 1) := by unfold selectD; rw [if_neg (by simp [hg])]
    simp only [↓aX, evp, evq, evl, boxK, stillV, binV, AV.cells, mP, loadV, storeV, ldV, AV.stb, AV.one, IV.av1, Lb.app, Lb.fresh, reduceCtorEq, ptrL, appL, fillA, chunks, ivs, AV.iv, mkE, if_false, if_true, List.not_mem_nil, forall_eq, beq_self_eq_true, List.isEmpty_nil, Nat.reduceEqDiff, Nat.reduceLT, Nat.reduceLeDiff, Nat.reduceAdd, Nat.reduceMul, Int.reduceToNat, Int.reduceLE, Int.reduceLT, Bool.not_false, ↓ret2_r, e]
    rfl
  | true =>
  have e : selectD d l = (selectF d l, 0) := by unfold selectD; rw [if_pos ⟨hi, hg⟩]
  have hlen : 1 ≤ l.length := by unfold goodPath at hg; simp only [Bool.and_eq_true, decide_eq_true_eq] at hg; exact hg.2.1
  obtain ⟨t, ht, hdt⟩ := isDoc_iff.1 hi
  have hd1 : 1 ≤ d.length := by rw [hdt]; exact doc_head
  obtain ⟨s0, r, rfl⟩ : ∃ s0 r, l = s0 :: r := by cases l with | nil => simp at hlen | cons a r => exact ⟨a, r, rfl⟩
  have hc0 := hC s0 (by simp) [0] (by simp [hBv]) (by intro n hn; simp only [List.mem_singleton] at hn; subst hn; omega)
  simp only [List.map_cons, List.map_nil, intIV, Step.av] at hc0
  have hel := elszS (s0 :: r)
  simp only [List.map_cons] at hel
  simp only [↓aX, evp, evq, evl, boxK, stillV, binV, AV.cells, mP, loadV, storeV, ldV, AV.stb, AV.one, IV.av1, Lb.app, Lb.fresh, reduceCtorEq, ptrL, appL, fillA, chunks, ivs, AV.iv, mkE, if_false, if_true, List.not_mem_nil, forall_eq, beq_self_eq_true, List.isEmpty_nil, Nat.reduceEqDiff, Nat.reduceLT, Nat.reduceLeDiff, Nat.reduceAdd, Nat.reduceMul, Int.reduceToNat, Int.reduceLE, Int.reduceLT, Bool.not_true, List.map_cons, List.getElem?_cons_zero, hel, Step.cells_eq, Step.cs]
  refine ⟨rfl, puK_in hc0 ?_⟩
  have hslc : ((s0.iv :: r.map Step.iv).take (s0.iv :: r.map Step.iv).length).drop 1 = r.map Step.iv := by rw [List.take_length]; rfl
  simp only [↓aX, evp, evq, evl, boxK, stillV, binV, AV.cells, mP, loadV, storeV, ldV, AV.stb, AV.one, IV.av1, Lb.app, Lb.fresh, reduceCtorEq, ptrL, appL, fillA, chunks, ivs, AV.iv, mkE, if_false, if_true, List.not_mem_nil, forall_eq, beq_self_eq_true, List.isEmpty_nil, Nat.reduceEqDiff, Nat.reduceLT, Nat.reduceLeDiff, Nat.reduceAdd, Nat.reduceMul, Int.reduceToNat, Int.reduceLE, Int.reduceLT, slcV, cutB, bnd, evq, show (1 : Int).toNat = 1 from rfl, show (0 : Int) ≤ 1 by decide, true_and, List.length_cons, List.length_map, show 1 ≤ r.length + 1 by omega, Option.bind_some, Option.map_some, hel, reduceCtorEq, hslc]
  have hne : ∀ j, s0 :: r.take j ≠ [] := fun j => by simp
  refine loop_used (σ := { j : Nat // j ≤ r.length }) (fun _ => [.loc 2]) (fun _ _ => false)
    (fun q => [(2, .ptr (.loc 2) 1 0 0), (6, .list ((selectF d (s0 :: r.take q.1)).map intIV)), (27, .list (r.map Step.iv)), (28, .int .i64 r.length), (29, .int .i64 q.1)])
    (fun q => [(.loc 2, ⟨1, [[.list (d.map Node.iv)]]⟩)]) (fun q => r.length - q.1) ⟨0, Nat.zero_le _⟩ (fun _ => rfl) (fun q => by simp [lbss, AV.lbs]) ?_ ⟨[], ?_⟩ ?_
  · intro q w hw cs hcs z hz
    simp only [List.mem_singleton] at hw; subst hw
    simp only [List.mem_singleton] at hcs; subst hcs; simp [lbss, AV.lbs] at hz
  · refine ⟨?_, ?_, ?_, by simp [rnF], fun l _ => ⟨id, fun _ => rfl⟩⟩
    · intro l hf hu
      exfalso; apply hu
      cases l <;> simp_all [Lb.fresh, upd_at, Hp.none]
    · simp [EqL, rnF, ren, put, selectF, selF]
      exact List.take_of_length_le (by simp)
    · simp [RwL, rnF, upd_at, renR, rens, ren]
  · rintro ⟨j, hj⟩
    rw [ofU_f]
    obtain ⟨hsl, hsm⟩ := sel_mem hi (hne j)
    simp only [↓aX, evp, evq, evl, boxK, stillV, binV, AV.cells, mP, loadV, storeV, ldV, AV.stb, AV.one, IV.av1, Lb.app, Lb.fresh, reduceCtorEq, ptrL, appL, fillA, chunks, ivs, AV.iv, mkE, if_false, if_true, List.not_mem_nil, forall_eq, beq_self_eq_true, List.isEmpty_nil, Nat.reduceEqDiff, Nat.reduceLT, Nat.reduceLeDiff, Nat.reduceAdd, Nat.reduceMul, Int.reduceToNat, Int.reduceLE, Int.reduceLT, ofH_nil, ofH_cons, List.length_map]
    by_cases hlt : j < r.length
    · rw [show decide (((j : Nat) : Int) < ((r.length : Nat) : Int)) = true by simpa using hlt]
      obtain ⟨s, hs⟩ : ∃ s, r[j]? = some s := ⟨_, List.getElem?_eq_getElem hlt⟩
      have hsmem : s ∈ s0 :: r := List.mem_cons_of_mem _ (List.mem_of_getElem? hs)
      have hw : IntKind.i64.wrap ((j : Int) + 1) = ((j + 1 : Nat) : Int) := wrap64 (by omega) (by simp only [List.length_cons] at hl; omega)
      have hnext : selectF d (s0 :: r.take (j + 1)) = (selectF d (s0 :: r.take j)).flatMap fun n => chosenF d s 0 (kidsD d n) := by
        rw [List.take_add_one, hs, ← sel_snoc d _ s (hne j)]; rfl
      have hnl := (sel_mem hi (hne (j + 1))).1
      rw [hnext] at hnl
      simp only [↓aX, evp, evq, evl, boxK, stillV, binV, AV.cells, mP, loadV, storeV, ldV, AV.stb, AV.one, IV.av1, Lb.app, Lb.fresh, reduceCtorEq, ptrL, appL, fillA, chunks, ivs, AV.iv, mkE, if_false, if_true, List.not_mem_nil, forall_eq, beq_self_eq_true, List.isEmpty_nil, Nat.reduceEqDiff, Nat.reduceLT, Nat.reduceLeDiff, Nat.reduceAdd, Nat.reduceMul, Int.reduceToNat, Int.reduceLE, Int.reduceLT, stGet, hs, elszS, Option.map_some, Step.cells_eq, Step.cs, List.length_map]
      refine loop_used (σ := { i : Nat // i ≤ (selectF d (s0 :: r.take j)).length }) (fun _ => [.loc 2, .loc 8, .loc 9]) (fun _ _ => false)
        (fun q => [(2, .ptr (.loc 2) 1 0 0), (27, .list (r.map Step.iv)), (28, .int .i64 r.length), (29, .int .i64 j), (8, .ptr (.loc 8) 2 0 0),
          (9, .sl (.loc 9) 1 0 (((selectF d (s0 :: r.take j)).take q.1).flatMap fun n => chosenF d s 0 (kidsD d n)).length), (33, .list ((selectF d (s0 :: r.take j)).map intIV)), (34, .int .i64 (selectF d (s0 :: r.take j)).length), (35, .int .i64 q.1)])
        (fun q => [(.loc 2, ⟨1, [[.list (d.map Node.iv)]]⟩), (.loc 8, ⟨2, [[.str s.name, .int .i64 s.n]]⟩), (.loc 9, ⟨1, immE ((((selectF d (s0 :: r.take j)).take q.1).flatMap fun n => chosenF d s 0 (kidsD d n)).map intIV)⟩)])
        (fun q => (selectF d (s0 :: r.take j)).length - q.1) ⟨0, Nat.zero_le _⟩ (fun _ => rfl) (fun q => by simp [lbss, AV.lbs]) ?_ ⟨[], ?_⟩ ?_
      · intro q w hw cs hcs z hz
        simp only [List.mem_cons, List.not_mem_nil, or_false] at hw
        rcases hw with rfl | rfl | rfl
        · simp only [List.mem_singleton] at hcs; subst hcs; simp [lbss, AV.lbs] at hz
        · simp only [List.mem_singleton] at hcs; subst hcs; simp [lbss, AV.lbs] at hz
        · rw [lbss_immE hcs] at hz; simp at hz
      · refine ⟨?_, ?_, ?_, by simp [rnF], fun l _ => ⟨id, fun _ => rfl⟩⟩
        · intro l hf hu
          exfalso; apply hu
          cases l <;> simp_all [Lb.fresh, upd_at, Hp.none]
        · simp [EqL, rnF, ren, put]
        · simp [RwL, rnF, upd_at, renR, rens, ren, immE]
      · rintro ⟨i, hi2⟩
        rw [ofU_f]
        have htk := flat_take (fun n => chosenF d s 0 (kidsD d n)) (selectF d (s0 :: r.take j)) i
        simp only [↓aX, evp, evq, evl, boxK, stillV, binV, AV.cells, mP, loadV, storeV, ldV, AV.stb, AV.one, IV.av1, Lb.app, Lb.fresh, reduceCtorEq, ptrL, appL, fillA, chunks, ivs, AV.iv, mkE, if_false, if_true, List.not_mem_nil, forall_eq, beq_self_eq_true, List.isEmpty_nil, Nat.reduceEqDiff, Nat.reduceLT, Nat.reduceLeDiff, Nat.reduceAdd, Nat.reduceMul, Int.reduceToNat, Int.reduceLE, Int.reduceLT, ofH_nil, ofH_cons, List.length_map]
        by_cases hlt2 : i < (selectF d (s0 :: r.take j)).length
        · rw [show decide (((i : Nat) : Int) < (((selectF d (s0 :: r.take j)).length : Nat) : Int)) = true by simpa using hlt2]
          obtain ⟨n0, hn0⟩ : ∃ n, (selectF d (s0 :: r.take j))[i]? = some n := ⟨_, List.getElem?_eq_getElem hlt2⟩
          obtain ⟨h0, h1⟩ := hsm n0 (List.mem_of_getElem? hn0)
          obtain ⟨n, rfl⟩ := Int.eq_ofNat_of_zero_le h0
          obtain ⟨x, hx⟩ : ∃ x, d[n]? = some x := ⟨_, List.getElem?_eq_getElem (by omega)⟩
          have hxw := wtN_mem (List.mem_of_getElem? hx)
          simp only [Node.wt] at hxw
          have hcx := hC s hsmem x.kids (by omega) (kids_mem hi hx)
          simp only [Step.av] at hcx
          have hkd : kidsD d (n : Int) = x.kids := by simp only [kidsD, Int.toNat_natCast, hx]
          have hcl := chosen_len d s x.kids 0
          have hstep := flat_step (fun n => chosenF d s 0 (kidsD d n)) hn0
          simp only [hkd] at hstep
          have hwi : IntKind.i64.wrap ((i : Int) + 1) = ((i + 1 : Nat) : Int) := wrap64 (by omega) (by omega)
          have hr : ∀ (ρ : Lb → Lb) (xs : List IV), renR ρ ⟨1, immE xs⟩ = ⟨1, immE xs⟩ := fun ρ xs => renR_immE _ _ _
          simp only [↓aX, evp, evq, evl, boxK, stillV, binV, AV.cells, mP, loadV, storeV, ldV, AV.stb, AV.one, IV.av1, Lb.app, Lb.fresh, reduceCtorEq, ptrL, appL, fillA, chunks, ivs, AV.iv, mkE, if_false, if_true, List.not_mem_nil, forall_eq, beq_self_eq_true, List.isEmpty_nil, Nat.reduceEqDiff, Nat.reduceLT, Nat.reduceLeDiff, Nat.reduceAdd, Nat.reduceMul, Int.reduceToNat, Int.reduceLE, Int.reduceLT, intGet, hn0, elszI, Option.map_some, intIV_cs, Int.toNat_natCast, Doc.get_iv hx, elszN, Node.cells_eq, Node.cs, Int.natCast_nonneg, List.length_map]
          refine ⟨rfl, puK_in hcx ?_⟩
          simp only [↓aX, evp, evq, evl, boxK, stillV, binV, AV.cells, mP, loadV, storeV, ldV, AV.stb, AV.one, IV.av1, Lb.app, Lb.fresh, reduceCtorEq, ptrL, appL, fillA, chunks, ivs, AV.iv, mkE, if_false, if_true, List.not_mem_nil, forall_eq, beq_self_eq_true, List.isEmpty_nil, Nat.reduceEqDiff, Nat.reduceLT, Nat.reduceLeDiff, Nat.reduceAdd, Nat.reduceMul, Int.reduceToNat, Int.reduceLE, Int.reduceLT]
          rw [app_locs 1 8 49 9 ((((selectF d (s0 :: r.take j)).take i).flatMap fun n => chosenF d s 0 (kidsD d n)).map intIV) ((chosenF d s 0 x.kids).map intIV) (by simp [upd_at]) (by simp) (elszI _) (flatI _)
            (by rw [List.length_map]; omega) (by decide) (by decide) (by simp [upd_at, Hp.none])]
          simp only [↓aX, evp, evq, evl, boxK, stillV, binV, AV.cells, mP, loadV, storeV, ldV, AV.stb, AV.one, IV.av1, Lb.app, Lb.fresh, reduceCtorEq, ptrL, appL, fillA, chunks, ivs, AV.iv, mkE, if_false, if_true, List.not_mem_nil, forall_eq, beq_self_eq_true, List.isEmpty_nil, Nat.reduceEqDiff, Nat.reduceLT, Nat.reduceLeDiff, Nat.reduceAdd, Nat.reduceMul, Int.reduceToNat, Int.reduceLE, Int.reduceLT, hwi]
          refine ⟨by rintro l (rfl | rfl) <;> simp [Lb.fam], ⟨i + 1, by omega⟩, by simp only; omega, [(.loc 9, .loc 49)], ?_⟩
          refine ⟨?_, ?_, ?_, by simp [rnF], ?_⟩
          · intro l hf hu
            exfalso; apply hu
            cases l <;> simp_all [Lb.fresh, upd_at, Hp.none]
          · simp only [hstep]
            simp [EqL, rnF, ren, put]
          · simp only [RwL, hr, hstep, List.map_append]
            simp [rnF, upd_at, renR, rens, ren]
          · intro l hl
            simp only [List.mem_cons, List.not_mem_nil, or_false] at hl
            rcases hl with rfl | rfl | rfl
            · exact ⟨fun _ => rfl, fun _ => rfl⟩
            · exact ⟨fun _ => rfl, fun _ => rfl⟩
            · exact ⟨fun _ => rfl, fun h => by simp [Lb.fresh] at h⟩
        · have hil : (selectF d (s0 :: r.take j)).take i = selectF d (s0 :: r.take j) := List.take_of_length_le (by omega)
          rw [show decide (((i : Nat) : Int) < (((selectF d (s0 :: r.take j)).length : Nat) : Int)) = false by simpa using hlt2]
          rw [hil, ← hnext]
          simp only [↓aX, evp, evq, evl, boxK, stillV, binV, AV.cells, mP, loadV, storeV, ldV, AV.stb, AV.one, IV.av1, Lb.app, Lb.fresh, reduceCtorEq, ptrL, appL, fillA, chunks, ivs, AV.iv, mkE, if_false, if_true, List.not_mem_nil, forall_eq, beq_self_eq_true, List.isEmpty_nil, Nat.reduceEqDiff, Nat.reduceLT, Nat.reduceLeDiff, Nat.reduceAdd, Nat.reduceMul, Int.reduceToNat, Int.reduceLE, Int.reduceLT]
          refine ⟨1, (selectF d (s0 :: r.take (j + 1))).map intIV, 0, (selectF d (s0 :: r.take (j + 1))).length, rfl, rfl, by simp, flatI _, ?_⟩
          simp only [↓aX, evp, evq, evl, boxK, stillV, binV, AV.cells, mP, loadV, storeV, ldV, AV.stb, AV.one, IV.av1, Lb.app, Lb.fresh, reduceCtorEq, ptrL, appL, fillA, chunks, ivs, AV.iv, mkE, if_false, if_true, List.not_mem_nil, forall_eq, beq_self_eq_true, List.isEmpty_nil, Nat.reduceEqDiff, Nat.reduceLT, Nat.reduceLeDiff, Nat.reduceAdd, Nat.reduceMul, Int.reduceToNat, Int.reduceLE, Int.reduceLT, List.drop_zero, List.take_of_length_le (show ((selectF d (s0 :: r.take (j + 1))).map intIV).length ≤ (selectF d (s0 :: r.take (j + 1))).length by simp), hw]
          refine ⟨⟨j + 1, by omega⟩, by simp only; omega, [], ?_⟩
          refine ⟨?_, ?_, ?_, by simp [rnF], fun l _ => ⟨id, fun _ => rfl⟩⟩
          · intro l hf hu
            exfalso; apply hu
            cases l <;> simp_all [Lb.fresh, upd_at, Hp.none]
          · simp [EqL, rnF, ren, put]
          · simp [RwL, rnF, upd_at, renR, rens, ren]
    · have hjl : r.take j = r := List.take_of_length_le (by omega)
      rw [show decide (((j : Nat) : Int) < ((r.length : Nat) : Int)) = false by simpa using hlt, hjl]
      simp only [↓aX, evp, evq, evl, boxK, stillV, binV, AV.cells, mP, loadV, storeV, ldV, AV.stb, AV.one, IV.av1, Lb.app, Lb.fresh, reduceCtorEq, ptrL, appL, fillA, chunks, ivs, AV.iv, mkE, if_false, if_true, List.not_mem_nil, forall_eq, beq_self_eq_true, List.isEmpty_nil, Nat.reduceEqDiff, Nat.reduceLT, Nat.reduceLeDiff, Nat.reduceAdd, Nat.reduceMul, Int.reduceToNat, Int.reduceLE, Int.reduceLT, ↓ret2_r, e]
      simp [norm, norms]
end
end Go.Am
