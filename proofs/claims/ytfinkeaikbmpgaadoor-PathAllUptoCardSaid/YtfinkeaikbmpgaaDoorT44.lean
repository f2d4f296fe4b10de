import Derived.Test.YtfinkeaikbmpgaaDoorKAm40
set_option linter.unusedSimpArgs false
set_option linter.unusedVariables false
set_option linter.unnecessarySimpa false
set_option linter.defProp false
/- The law PathAll. -/
namespace Go.Am
open Go Go.RowKit
section
variable {P : Program} {G : Nat → Option (List IV)}
def c_topiarykeep_PathAll (f_doc_Good f_topiarykeep_paths f_topiarykeep_pick f_path_Select : Nat) : AC :=
(.seq (.reg [⟨(some 2), none, (.box (.t 0))⟩, ⟨(some 4), none, (.mov (.c (.bool false)))⟩]) (.seq (.seq (.reg [⟨(some 15), none, (.load (some 1) (.t 2))⟩, ⟨(some 16), none, (.call f_doc_Good [(.t 15)])⟩, ⟨(some 17), none, (.not (.t 16))⟩]) (.cond (.t 17) (.seq (.reg [⟨(some 18), none, (.call f_topiarykeep_paths [])⟩, ⟨(some 4), none, (.mov (.t 18))⟩]) .ret) .skip)) (.seq (.reg [⟨(some 19), none, (.mov (.t 1))⟩, ⟨(some 20), none, (.call f_topiarykeep_pick [(.t 19), (.c (.int .i64 5))])⟩, ⟨(some 21), none, (.bin .add (.t 20) (.c (.int .i64 1)))⟩, ⟨(some 1), none, (.mov (.t 21))⟩]) (.seq (.reg [⟨(some 5), none, (.mov (.c .nil0))⟩]) (.gh (.own 5 2) (.seq (.seq (.reg [⟨(some 22), none, (.mov (.t 1))⟩, ⟨(some 23), none, (.mov (.c (.int .i64 0)))⟩]) (.block 0 (.loop (.seq (.reg [⟨(some 24), none, (.bin .lss (.t 23) (.t 22))⟩]) (.seq (.cond (.t 24) .skip (.exit 0)) (.seq (.block 1 (.reg [⟨(some 25), none, (.mov (.t 5))⟩, ⟨(some 26), none, (.bld [(.str []), (.int .i64 0)] [(0, (1, (.c (.str [42]))))])⟩, ⟨(some 27), none, (.lits 1 2 [(.str []), (.int .i64 0)] [(0, (.t 26))])⟩, ⟨(some 28), none, (.app (.t 25) (.t 27) 2 24)⟩, ⟨(some 5), none, (.mov (.t 28))⟩])) (.reg [⟨(some 29), none, (.bin .add (.t 23) (.c (.int .i64 1)))⟩, ⟨(some 23), none, (.mov (.t 29))⟩]))))))) (.seq (.reg [⟨(some 31), none, (.load (some 1) (.t 2))⟩, ⟨(some 32), none, (.mov (.t 5))⟩, ⟨(some 33), none, (.call f_path_Select [(.t 31), (.t 32)])⟩, ⟨(some 30), none, (.mov (.t 33))⟩, ⟨(some 34), none, (.ext (.t 30) 0)⟩, ⟨(some 35), none, (.ext (.t 30) 1)⟩, ⟨(some 6), none, (.mov (.t 34))⟩, ⟨(some 7), none, (.mov (.t 35))⟩]) (.seq (.reg [⟨(some 36), none, (.mov (.t 5))⟩, ⟨(some 37), none, (.mov (.t 1))⟩, ⟨(some 38), none, (.bin .sub (.t 37) (.c (.int .i64 1)))⟩, ⟨(some 39), none, (.bld [(.str []), (.int .i64 0)] [])⟩, ⟨(some 40), none, (.ixa (.t 36) (.t 38) 2)⟩, ⟨none, none, (.store 2 (.t 40) (.t 39))⟩]) (.seq (.reg [⟨(some 42), none, (.load (some 1) (.t 2))⟩, ⟨(some 43), none, (.mov (.t 5))⟩, ⟨(some 44), none, (.call f_path_Select [(.t 42), (.t 43)])⟩, ⟨(some 41), none, (.mov (.t 44))⟩, ⟨(some 45), none, (.ext (.t 41) 0)⟩, ⟨(some 46), none, (.ext (.t 41) 1)⟩, ⟨(some 8), none, (.mov (.t 45))⟩, ⟨(some 9), none, (.mov (.t 46))⟩]) (.seq (.reg [⟨(some 10), none, (.mov (.c (.int .i64 0)))⟩, ⟨(some 11), none, (.mov (.c (.int .i64 0)))⟩]) (.seq (.seq (.reg [⟨(some 47), none, (.fld (.t 2) 0)⟩, ⟨(some 48), none, (.load none (.t 47))⟩, ⟨(some 49), none, (.len (.t 48))⟩, ⟨(some 50), none, (.mov (.c (.int .i64 0)))⟩]) (.block 2 (.loop (.seq (.reg [⟨(some 51), none, (.bin .lss (.t 50) (.t 49))⟩]) (.seq (.cond (.t 51) .skip (.exit 2)) (.seq (.block 3 (.seq (.reg [⟨(some 52), none, (.mov (.t 50))⟩, ⟨(some 12), none, (.mov (.t 52))⟩]) (.seq (.reg [⟨(some 13), none, (.mov (.c (.int .i64 0)))⟩]) (.seq (.seq (.reg [⟨(some 53), none, (.mov (.t 12))⟩, ⟨(some 14), none, (.mov (.t 53))⟩]) (.block 4 (.loop (.seq (.seq (.reg [⟨(some 54), none, (.mov (.t 14))⟩, ⟨(some 55), none, (.bin .geq (.t 54) (.c (.int .i64 0)))⟩]) (.cond (.t 55) .skip (.exit 4))) (.seq (.block 5 (.reg [⟨(some 62), none, (.mov (.t 13))⟩, ⟨(some 63), none, (.bin .add (.t 62) (.c (.int .i64 1)))⟩, ⟨(some 13), none, (.mov (.t 63))⟩])) (.reg [⟨(some 56), none, (.fld (.t 2) 0)⟩, ⟨(some 57), none, (.load none (.t 56))⟩, ⟨(some 58), none, (.mov (.t 14))⟩, ⟨(some 59), none, (.ixa (.t 57) (.t 58) 5)⟩, ⟨(some 60), none, (.fld (.t 59) 3)⟩, ⟨(some 61), none, (.load none (.t 60))⟩, ⟨(some 14), none, (.mov (.t 61))⟩])))))) (.seq (.reg [⟨(some 64), none, (.mov (.t 13))⟩, ⟨(some 65), none, (.mov (.t 1))⟩, ⟨(some 66), none, (.bin .eql (.t 64) (.t 65))⟩, ⟨(some 67), none, (.mov (.t 66))⟩, ⟨(some 68), (some (67, true)), (.fld (.t 2) 0)⟩, ⟨(some 69), (some (67, true)), (.load none (.t 68))⟩, ⟨(some 70), (some (67, true)), (.mov (.t 12))⟩, ⟨(some 71), (some (67, true)), (.ixa (.t 69) (.t 70) 5)⟩, ⟨(some 72), (some (67, true)), (.fld (.t 71) 0)⟩, ⟨(some 73), (some (67, true)), (.load none (.t 72))⟩, ⟨(some 74), none, (.pick (.t 67) (.t 73) (.c (.bool false)))⟩]) (.cond (.t 74) (.reg [⟨(some 75), none, (.mov (.t 11))⟩, ⟨(some 76), none, (.bin .add (.t 75) (.c (.int .i64 1)))⟩, ⟨(some 11), none, (.mov (.t 76))⟩]) (.seq (.reg [⟨(some 77), none, (.mov (.t 13))⟩, ⟨(some 78), none, (.mov (.t 1))⟩, ⟨(some 79), none, (.bin .eql (.t 77) (.t 78))⟩]) (.cond (.t 79) (.reg [⟨(some 80), none, (.mov (.t 10))⟩, ⟨(some 81), none, (.bin .add (.t 80) (.c (.int .i64 1)))⟩, ⟨(some 10), none, (.mov (.t 81))⟩]) .skip)))))))) (.reg [⟨(some 82), none, (.bin .add (.t 50) (.c (.int .i64 1)))⟩, ⟨(some 50), none, (.mov (.t 82))⟩]))))))) (.seq (.reg [⟨(some 83), none, (.mov (.t 7))⟩, ⟨(some 84), none, (.bin .eql (.t 83) (.c (.int .i64 0)))⟩, ⟨(some 85), none, (.mov (.t 84))⟩, ⟨(some 86), (some (85, true)), (.mov (.t 9))⟩, ⟨(some 87), (some (85, true)), (.bin .eql (.t 86) (.c (.int .i64 0)))⟩, ⟨(some 88), none, (.pick (.t 85) (.t 87) (.c (.bool false)))⟩, ⟨(some 89), none, (.mov (.t 88))⟩, ⟨(some 90), (some (89, true)), (.mov (.t 6))⟩, ⟨(some 91), (some (89, true)), (.len (.t 90))⟩, ⟨(some 92), (some (89, true)), (.mov (.t 10))⟩, ⟨(some 93), (some (89, true)), (.bin .eql (.t 91) (.t 92))⟩, ⟨(some 94), none, (.pick (.t 89) (.t 93) (.c (.bool false)))⟩, ⟨(some 95), none, (.mov (.t 94))⟩, ⟨(some 96), (some (95, true)), (.mov (.t 8))⟩, ⟨(some 97), (some (95, true)), (.len (.t 96))⟩, ⟨(some 98), (some (95, true)), (.mov (.t 11))⟩, ⟨(some 99), (some (95, true)), (.bin .eql (.t 97) (.t 98))⟩, ⟨(some 100), none, (.pick (.t 95) (.t 99) (.c (.bool false)))⟩, ⟨(some 101), none, (.mov (.t 100))⟩, ⟨(some 102), (some (101, true)), (.call f_topiarykeep_paths [])⟩, ⟨(some 103), none, (.pick (.t 101) (.t 102) (.c (.bool false)))⟩, ⟨(some 4), none, (.mov (.t 103))⟩]) .ret))))))))))))
theorem pPathAll {f_topiarykeep_PathAll f_doc_Good f_topiarykeep_paths f_topiarykeep_pick f_path_Select : Nat} (hF : compF P G f_topiarykeep_PathAll = some (104, [(none, 4)], (c_topiarykeep_PathAll f_doc_Good f_topiarykeep_paths f_topiarykeep_pick f_path_Select).bare)) (d : Doc) (hd : wtN d ≤ B) (k : Int)
    (hG : PureC P G f_doc_Good [Doc.av d] (.bool (isDoc d))) (hP : PureC P G f_topiarykeep_paths [] (.bool true)) (hK : PureC P G f_topiarykeep_pick [.int .i64 k, .int .i64 5] (.int .i64 (pickF k 5)))
    (hS : ∀ l : List Step, isDoc d = true → goodPath l = true → (∀ x ∈ l, x.name.length ≤ 1) → l.length ≤ 5 → RowC P G f_path_Select [Doc.av d, .sl (.par 0) 2 0 l.length] 2 (l.map Step.iv) (fun x ys => x = .tup [.list ((selectF d l).map intIV), .int .i64 0] ∧ ys = l.map Step.iv)) :
    PureC P G f_topiarykeep_PathAll [Doc.av d, .int .i64 k] (.bool true) := by
  refine pure_of_go hF (by simp) (by simp [lbss, AV.lbs, Doc.av]) (by simp [AV.lbs]) ?_
  have hBv : B = 1073741824 := rfl
  have hdl := wtN_len d
  unfold c_topiarykeep_PathAll
  simp only [Doc.av] at hG hS
  simp only [↓aX, evp, evq, evl, boxK, stillV, binV, AV.cells, mP, loadV, storeV, ldV, AV.stb, AV.one, IV.av1, Lb.app, Lb.fresh, reduceCtorEq, ptrL, appL, fillA, chunks, ivs, AV.iv, mkE, if_false, if_true, List.not_mem_nil, forall_eq, beq_self_eq_true, List.isEmpty_nil, Nat.reduceEqDiff, Nat.reduceLT, Nat.reduceLeDiff, Nat.reduceAdd, Nat.reduceMul, Int.reduceToNat, Int.reduceLE, Int.reduceLT, Doc.av]
  refine callT_pure hG ?_
  cases hi : isDoc d with
  | false =>
    simp only [↓aX, evp, evq, evl, boxK, stillV, binV, AV.cells, mP, loadV, storeV, ldV, AV.stb, AV.one, IV.av1, Lb.app, Lb.fresh, reduceCtorEq, ptrL, appL, fillA, chunks, ivs, AV.iv, mkE, if_false, if_true, List.not_mem_nil, forall_eq, beq_self_eq_true, List.isEmpty_nil, Nat.reduceEqDiff, Nat.reduceLT, Nat.reduceLeDiff, Nat.reduceAdd, Nat.reduceMul, Int.reduceToNat, Int.reduceLE, Int.reduceLT, Bool.not_false]
    refine callT_pure hP ?_
    simp only [↓aX, evp, evq, evl, boxK, stillV, binV, AV.cells, mP, loadV, storeV, ldV, AV.stb, AV.one, IV.av1, Lb.app, Lb.fresh, reduceCtorEq, ptrL, appL, fillA, chunks, ivs, AV.iv, mkE, if_false, if_true, List.not_mem_nil, forall_eq, beq_self_eq_true, List.isEmpty_nil, Nat.reduceEqDiff, Nat.reduceLT, Nat.reduceLeDiff, Nat.reduceAdd, Nat.reduceMul, Int.reduceToNat, Int.reduceLE, Int.reduceLT]
  | true =>
  have hk := pickF_rng (k := k) (n := 5) (by decide)
  obtain ⟨D, hD⟩ := Int.eq_ofNat_of_zero_le hk.1
  rw [hD] at hK
  have hD5 : D < 5 := by omega
  have hw0 : IntKind.i64.wrap (((D : Nat) : Int) + 1) = ((D + 1 : Nat) : Int) := wrap64 (by omega) (by omega)
  simp only [↓aX, evp, evq, evl, boxK, stillV, binV, AV.cells, mP, loadV, storeV, ldV, AV.stb, AV.one, IV.av1, Lb.app, Lb.fresh, reduceCtorEq, ptrL, appL, fillA, chunks, ivs, AV.iv, mkE, if_false, if_true, List.not_mem_nil, forall_eq, beq_self_eq_true, List.isEmpty_nil, Nat.reduceEqDiff, Nat.reduceLT, Nat.reduceLeDiff, Nat.reduceAdd, Nat.reduceMul, Int.reduceToNat, Int.reduceLE, Int.reduceLT, Bool.not_true]
  refine callT_pure hK ?_
  simp only [↓aX, evp, evq, evl, boxK, stillV, binV, AV.cells, mP, loadV, storeV, ldV, AV.stb, AV.one, IV.av1, Lb.app, Lb.fresh, reduceCtorEq, ptrL, appL, fillA, chunks, ivs, AV.iv, mkE, if_false, if_true, List.not_mem_nil, forall_eq, beq_self_eq_true, List.isEmpty_nil, Nat.reduceEqDiff, Nat.reduceLT, Nat.reduceLeDiff, Nat.reduceAdd, Nat.reduceMul, Int.reduceToNat, Int.reduceLE, Int.reduceLT, hw0]
  refine loop_used (σ := { i : Nat // i ≤ D + 1 }) (fun _ => [.loc 2, .loc 5]) (fun _ _ => false)
    (fun q => [(1, .int .i64 ((D + 1 : Nat) : Int)), (2, .ptr (.loc 2) 1 0 0), (5, .sl (.loc 5) 2 0 q.1), (22, .int .i64 ((D + 1 : Nat) : Int)), (23, .int .i64 q.1)])
    (fun q => [(.loc 2, ⟨1, [[.list (d.map Node.iv)]]⟩), (.loc 5, ⟨2, immE ((List.replicate q.1 starS).map Step.iv)⟩)]) (fun q => D + 1 - q.1) ⟨0, by omega⟩ (fun _ => rfl) (fun q => by simp [lbss, AV.lbs]) ?_ ⟨[], ?_⟩ ?_
  · intro q w hw cs hcs z hz
    simp only [List.mem_cons, List.not_mem_nil, or_false] at hw
    rcases hw with rfl | rfl
    · simp only [List.mem_singleton] at hcs; subst hcs; simp [lbss, AV.lbs] at hz
    · rw [lbss_immE hcs] at hz; simp at hz
  · refine ⟨?_, ?_, ?_, by simp [rnF], fun l _ => ⟨id, fun _ => rfl⟩⟩
    · intro l hf hu
      exfalso; apply hu
      cases l <;> simp_all [Lb.fresh, upd_at, Hp.none]
    · simp [EqL, rnF, ren, put]
    · simp [RwL, rnF, upd_at, renR, rens, ren, immE]
  · rintro ⟨i, hi2⟩
    rw [ofU_f]
    have hr2 : ∀ (ρ : Lb → Lb) (xs : List IV), renR ρ ⟨2, immE xs⟩ = ⟨2, immE xs⟩ := fun ρ xs => renR_immE _ _ _
    simp only [↓aX, evp, evq, evl, boxK, stillV, binV, AV.cells, mP, loadV, storeV, ldV, AV.stb, AV.one, IV.av1, Lb.app, Lb.fresh, reduceCtorEq, ptrL, appL, fillA, chunks, ivs, AV.iv, mkE, if_false, if_true, List.not_mem_nil, forall_eq, beq_self_eq_true, List.isEmpty_nil, Nat.reduceEqDiff, Nat.reduceLT, Nat.reduceLeDiff, Nat.reduceAdd, Nat.reduceMul, Int.reduceToNat, Int.reduceLE, Int.reduceLT, ofH_nil, ofH_cons]
    by_cases hlt : i < D + 1
    · rw [show decide (((i : Nat) : Int) < ((D + 1 : Nat) : Int)) = true by rw [decide_eq_true_eq]; omega]
      have hw : IntKind.i64.wrap ((i : Int) + 1) = ((i + 1 : Nat) : Int) := wrap64 (by omega) (by omega)
      simp only [↓aX, evp, evq, evl, boxK, stillV, binV, AV.cells, mP, loadV, storeV, ldV, AV.stb, AV.one, IV.av1, Lb.app, Lb.fresh, reduceCtorEq, ptrL, appL, fillA, chunks, ivs, AV.iv, mkE, if_false, if_true, List.not_mem_nil, forall_eq, beq_self_eq_true, List.isEmpty_nil, Nat.reduceEqDiff, Nat.reduceLT, Nat.reduceLeDiff, Nat.reduceAdd, Nat.reduceMul, Int.reduceToNat, Int.reduceLE, Int.reduceLT]
      rw [app_loc 2 24 28 5 ((List.replicate i starS).map Step.iv) (.agg [.str [42], .int .i64 0]) (by simp [upd_at]) (by simp) rfl (by simp [IV.cells]) (by omega) (by decide) (by decide) (by simp [upd_at, Hp.none])]
      simp only [↓aX, evp, evq, evl, boxK, stillV, binV, AV.cells, mP, loadV, storeV, ldV, AV.stb, AV.one, IV.av1, Lb.app, Lb.fresh, reduceCtorEq, ptrL, appL, fillA, chunks, ivs, AV.iv, mkE, if_false, if_true, List.not_mem_nil, forall_eq, beq_self_eq_true, List.isEmpty_nil, Nat.reduceEqDiff, Nat.reduceLT, Nat.reduceLeDiff, Nat.reduceAdd, Nat.reduceMul, Int.reduceToNat, Int.reduceLE, Int.reduceLT, hw]
      refine ⟨⟨i + 1, by omega⟩, by simp only; omega, [(.loc 5, .loc 28)], ?_⟩
      refine ⟨?_, ?_, ?_, by simp [rnF], ?_⟩
      · intro l hf hu
        exfalso; apply hu
        cases l <;> simp_all [Lb.fresh, upd_at, Hp.none]
      · simp [EqL, rnF, ren, put]
      · simp only [RwL, hr2, List.replicate_succ']
        simp [rnF, upd_at, renR, rens, ren, starS, Step.iv, Step.cs]
      · intro l hl
        simp only [List.mem_cons, List.not_mem_nil, or_false] at hl
        rcases hl with rfl | rfl
        · exact ⟨fun _ => rfl, fun _ => rfl⟩
        · exact ⟨fun _ => rfl, fun h => by simp [Lb.fresh] at h⟩
    · have hiD : i = D + 1 := by omega
      subst hiD
      rw [show decide (((D + 1 : Nat) : Int) < ((D + 1 : Nat) : Int)) = false by simp]
      have hs1 := hS (List.replicate (D + 1) starS) hi (good_star D hD5) (fun x hx => by rw [(List.mem_replicate.1 hx).2]; decide) (by simp; omega)
      rw [List.length_replicate] at hs1
      have hl1 := (sel_mem hi (l := List.replicate (D + 1) starS) (by simp [List.replicate_succ])).1
      have hl2 := (sel_mem hi (l := List.replicate D starS ++ [hashS]) (by simp)).1
      have hset : (immE ((List.replicate (D + 1) starS).map Step.iv)).set D [.str [], .int .i64 0] = immE ((List.replicate D starS ++ [hashS]).map Step.iv) := by
        refine (immE_setS (List.replicate (D + 1) starS) D hashS).trans ?_
        congr 2
        rw [List.replicate_succ', List.set_append_right _ _ (by simp), List.length_replicate, Nat.sub_self]; rfl
      have hs2 := hS (List.replicate D starS ++ [hashS]) hi (good_hash D hD5) (fun x hx => by
        rcases List.mem_append.1 hx with hx | hx
        · rw [(List.mem_replicate.1 hx).2]; decide
        · rw [List.mem_singleton.1 hx]; decide) (by simp; omega)
      rw [show (List.replicate D starS ++ [hashS]).length = D + 1 by simp] at hs2
      have hwm : IntKind.i64.wrap (((D + 1 : Nat) : Int) - 1) = ((D : Nat) : Int) := by rw [wrap64 (by omega) (by omega)]; omega
      simp only [↓aX, evp, evq, evl, boxK, stillV, binV, AV.cells, mP, loadV, storeV, ldV, AV.stb, AV.one, IV.av1, Lb.app, Lb.fresh, reduceCtorEq, ptrL, appL, fillA, chunks, ivs, AV.iv, mkE, if_false, if_true, List.not_mem_nil, forall_eq, beq_self_eq_true, List.isEmpty_nil, Nat.reduceEqDiff, Nat.reduceLT, Nat.reduceLeDiff, Nat.reduceAdd, Nat.reduceMul, Int.reduceToNat, Int.reduceLE, Int.reduceLT]
      refine callT_row (l := .loc 5) hs1 (by simp [rens, ren, atL]) (by simp [upd_at]) ?_
      rintro x ys ⟨rfl, rfl⟩ _ _
      simp only [↓aX, evp, evq, evl, boxK, stillV, binV, AV.cells, mP, loadV, storeV, ldV, AV.stb, AV.one, IV.av1, Lb.app, Lb.fresh, reduceCtorEq, ptrL, appL, fillA, chunks, ivs, AV.iv, mkE, if_false, if_true, List.not_mem_nil, forall_eq, beq_self_eq_true, List.isEmpty_nil, Nat.reduceEqDiff, Nat.reduceLT, Nat.reduceLeDiff, Nat.reduceAdd, Nat.reduceMul, Int.reduceToNat, Int.reduceLE, Int.reduceLT, hwm, Int.natCast_nonneg, Int.toNat_natCast, true_and, show D < D + 1 by omega, immE_get', stGet, List.getElem?_replicate, Option.map_some, Option.bind_some, Step.cells_eq, Step.cs, List.map_cons, List.map_nil, List.length_cons, List.length_nil, Nat.zero_add,
        List.drop_succ_cons, List.drop_zero, List.drop_nil, List.take_zero, List.nil_append, List.append_nil, List.cons_append]
      refine callT_row (l := .loc 5) hs2 (by simp [rens, ren, atL]) (by rw [← hset]; simp only [upd_at, if_true, Lb.loc.injEq, Nat.reduceEqDiff, if_false]) ?_
      rintro x ys ⟨rfl, rfl⟩ _ _
      have hca := sel_star hi D
      have hcb := sel_hash hi D
      obtain ⟨a, ha⟩ : ∃ a, a = selectF d (List.replicate (D + 1) starS) := ⟨_, rfl⟩
      obtain ⟨b, hb⟩ : ∃ b, b = selectF d (List.replicate D starS ++ [hashS]) := ⟨_, rfl⟩
      rw [← ha] at hca
      rw [← hb] at hcb
      rw [← ha, ← hb]
      simp only [↓aX, evp, evq, evl, boxK, stillV, binV, AV.cells, mP, loadV, storeV, ldV, AV.stb, AV.one, IV.av1, Lb.app, Lb.fresh, reduceCtorEq, ptrL, appL, fillA, chunks, ivs, AV.iv, mkE, if_false, if_true, List.not_mem_nil, forall_eq, beq_self_eq_true, List.isEmpty_nil, Nat.reduceEqDiff, Nat.reduceLT, Nat.reduceLeDiff, Nat.reduceAdd, Nat.reduceMul, Int.reduceToNat, Int.reduceLE, Int.reduceLT, List.length_map]
      refine loop_same (σ := { i : Nat // i ≤ d.length }) [.loc 2] (fun q => [(1, .int .i64 ((D + 1 : Nat) : Int)), (2, .ptr (.loc 2) 1 0 0), (6, .list (a.map intIV)), (7, .int .i64 0), (8, .list (b.map intIV)), (9, .int .i64 0), (10, .int .i64 (cntE d (D + 1) q.1 : Nat)), (11, .int .i64 (cntX d (D + 1) q.1 : Nat)), (49, .int .i64 d.length), (50, .int .i64 (q.1 : Nat))])
        (fun _ => [(.loc 2, ⟨1, [[.list (d.map Node.iv)]]⟩)]) (fun q => d.length - q.1) ⟨0, Nat.zero_le _⟩ (fun _ => rfl) (by decide) (by simp [lbss, AV.lbs]) (by simp [lbss, AV.lbs]) ?_ ?_
      · exact WS_mk (by simp only [NFx_loc, NFx_none]) (by simp only [show cntE d (D + 1) 0 = 0 from rfl, show cntX d (D + 1) 0 = 0 from rfl]; repeat' constructor) (by repeat' constructor)
      · rintro ⟨i, hi3⟩
        simp only [↓aX, evp, evq, evl, boxK, stillV, binV, AV.cells, mP, loadV, storeV, ldV, AV.stb, AV.one, IV.av1, Lb.app, Lb.fresh, reduceCtorEq, ptrL, appL, fillA, chunks, ivs, AV.iv, mkE, if_false, if_true, List.not_mem_nil, forall_eq, beq_self_eq_true, List.isEmpty_nil, Nat.reduceEqDiff, Nat.reduceLT, Nat.reduceLeDiff, Nat.reduceAdd, Nat.reduceMul, Int.reduceToNat, Int.reduceLE, Int.reduceLT, ofH_nil, ofH_cons]
        by_cases hlt2 : i < d.length
        · rw [show decide (((i : Nat) : Int) < ((d.length : Nat) : Int)) = true by simpa using hlt2]
          obtain ⟨x, hx⟩ : ∃ x, d[i]? = some x := ⟨_, List.getElem?_eq_getElem hlt2⟩
          have hw : IntKind.i64.wrap ((i : Int) + 1) = ((i + 1 : Nat) : Int) := wrap64 (by omega) (by omega)
          have hE := cntE_step (D := D + 1) hx
          have hX := cntX_step (D := D + 1) hx
          have hEl := cntE_le d (D + 1) i
          have hXl := cntX_le d (D + 1) i
          have hwE : IntKind.i64.wrap (((cntE d (D + 1) i : Nat) : Int) + 1) = ((cntE d (D + 1) i + 1 : Nat) : Int) := wrap64 (by omega) (by omega)
          have hwX : IntKind.i64.wrap (((cntX d (D + 1) i : Nat) : Int) + 1) = ((cntX d (D + 1) i + 1 : Nat) : Int) := wrap64 (by omega) (by omega)
          have hdep : depD d i ≤ d.length := by
            have key : ∀ m : Nat, ∀ k, k ≤ m → k < d.length → depD d k ≤ k + 1 := by
              intro m
              induction m with
              | zero =>
                intro k h1 h2
                obtain ⟨y, hy⟩ : ∃ y, d[k]? = some y := ⟨_, List.getElem?_eq_getElem h2⟩
                rw [dep_step' hi hy]
                split
                · rename_i hp
                  obtain ⟨_, _, _, h4⟩ := par_elem hi hy hp
                  omega
                · omega
              | succ m ih =>
                intro k h1 h2
                obtain ⟨y, hy⟩ : ∃ y, d[k]? = some y := ⟨_, List.getElem?_eq_getElem h2⟩
                rw [dep_step' hi hy]
                split
                · rename_i hp
                  obtain ⟨_, _, _, h4⟩ := par_elem hi hy hp
                  have := ih y.parent.toNat (by omega) (by omega)
                  omega
                · omega
            have := key i i (Nat.le_refl _) hlt2
            omega
          simp only [↓aX, evp, evq, evl, boxK, stillV, binV, AV.cells, mP, loadV, storeV, ldV, AV.stb, AV.one, IV.av1, Lb.app, Lb.fresh, reduceCtorEq, ptrL, appL, fillA, chunks, ivs, AV.iv, mkE, if_false, if_true, List.not_mem_nil, forall_eq, beq_self_eq_true, List.isEmpty_nil, Nat.reduceEqDiff, Nat.reduceLT, Nat.reduceLeDiff, Nat.reduceAdd, Nat.reduceMul, Int.reduceToNat, Int.reduceLE, Int.reduceLT]
          refine loop_same (σ := { q : Int × Nat // (0 ≤ q.1 ∧ q.1 < d.length ∧ q.2 + depD d q.1.toNat = depD d i) ∨ (q.1 < 0 ∧ q.2 = depD d i) }) [.loc 2] (fun q => [(1, .int .i64 ((D + 1 : Nat) : Int)), (2, .ptr (.loc 2) 1 0 0), (6, .list (a.map intIV)), (7, .int .i64 0), (8, .list (b.map intIV)), (9, .int .i64 0), (10, .int .i64 (cntE d (D + 1) i : Nat)), (11, .int .i64 (cntX d (D + 1) i : Nat)), (49, .int .i64 d.length), (50, .int .i64 (i : Nat)),
              (12, .int .i64 (i : Nat)), (13, .int .i64 q.1.2), (14, .int .i64 q.1.1)])
            (fun _ => [(.loc 2, ⟨1, [[.list (d.map Node.iv)]]⟩)]) (fun q => (q.1.1 + 1).toNat) ⟨((i : Int), 0), .inl ⟨by omega, by simp only; omega, by simp⟩⟩ (fun _ => rfl) (by decide) (by simp [lbss, AV.lbs]) (by simp [lbss, AV.lbs]) ?_ ?_
          · exact WS_mk (by simp only [NFx_loc, NFx_none]) (by repeat' constructor) (by repeat' constructor)
          · rintro ⟨⟨m, n⟩, hk2⟩
            simp only at hk2
            simp only [↓aX, evp, evq, evl, boxK, stillV, binV, AV.cells, mP, loadV, storeV, ldV, AV.stb, AV.one, IV.av1, Lb.app, Lb.fresh, reduceCtorEq, ptrL, appL, fillA, chunks, ivs, AV.iv, mkE, if_false, if_true, List.not_mem_nil, forall_eq, beq_self_eq_true, List.isEmpty_nil, Nat.reduceEqDiff, Nat.reduceLT, Nat.reduceLeDiff, Nat.reduceAdd, Nat.reduceMul, Int.reduceToNat, Int.reduceLE, Int.reduceLT, ofH_nil, ofH_cons]
            rcases hk2 with ⟨h0, h1, h2⟩ | ⟨h0, h2⟩
            · obtain ⟨p, rfl⟩ := Int.eq_ofNat_of_zero_le h0
              rw [Int.toNat_natCast] at h2
              obtain ⟨y, hy⟩ : ∃ y, d[p]? = some y := ⟨_, List.getElem?_eq_getElem (by omega)⟩
              have hds := dep_step' hi hy
              have hwn : IntKind.i64.wrap ((n : Int) + 1) = ((n + 1 : Nat) : Int) := wrap64 (by omega) (by omega)
              simp only [↓aX, evp, evq, evl, boxK, stillV, binV, AV.cells, mP, loadV, storeV, ldV, AV.stb, AV.one, IV.av1, Lb.app, Lb.fresh, reduceCtorEq, ptrL, appL, fillA, chunks, ivs, AV.iv, mkE, if_false, if_true, List.not_mem_nil, forall_eq, beq_self_eq_true, List.isEmpty_nil, Nat.reduceEqDiff, Nat.reduceLT, Nat.reduceLeDiff, Nat.reduceAdd, Nat.reduceMul, Int.reduceToNat, Int.reduceLE, Int.reduceLT, ge_iff_le, Int.natCast_nonneg, decide_true, List.length_map, Doc.get_iv hy, Int.toNat_natCast, elszN, Node.cells_eq, Node.cs, hwn]
              refine ⟨⟨(y.parent, n + 1), ?_⟩, ?_, WS_mk (by simp only [NFx_loc, NFx_none]) (by repeat' constructor) (by repeat' constructor)⟩
              · by_cases h3 : 0 ≤ y.parent
                · left
                  rw [if_pos h3] at hds
                  obtain ⟨_, _, _, h4⟩ := par_elem hi hy h3
                  exact ⟨h3, by simp only; omega, by simp only; omega⟩
                · right
                  rw [if_neg h3] at hds
                  exact ⟨by simp only; omega, by simp only; omega⟩
              · simp only
                by_cases h3 : 0 ≤ y.parent
                · obtain ⟨_, _, _, h4⟩ := par_elem hi hy h3
                  omega
                · omega
            · subst h2
              simp only [↓aX, evp, evq, evl, boxK, stillV, binV, AV.cells, mP, loadV, storeV, ldV, AV.stb, AV.one, IV.av1, Lb.app, Lb.fresh, reduceCtorEq, ptrL, appL, fillA, chunks, ivs, AV.iv, mkE, if_false, if_true, List.not_mem_nil, forall_eq, beq_self_eq_true, List.isEmpty_nil, Nat.reduceEqDiff, Nat.reduceLT, Nat.reduceLeDiff, Nat.reduceAdd, Nat.reduceMul, Int.reduceToNat, Int.reduceLE, Int.reduceLT, show ¬ (m ≥ 0) by omega, decide_false]
              by_cases he : depD d i = D + 1
              · have hq : (((depD d i : Nat) : Int) == ((D + 1 : Nat) : Int)) = true := by rw [he]; simp
                simp only [↓aX, evp, evq, evl, boxK, stillV, binV, AV.cells, mP, loadV, storeV, ldV, AV.stb, AV.one, IV.av1, Lb.app, Lb.fresh, reduceCtorEq, ptrL, appL, fillA, chunks, ivs, AV.iv, mkE, if_false, if_true, List.not_mem_nil, forall_eq, beq_self_eq_true, List.isEmpty_nil, Nat.reduceEqDiff, Nat.reduceLT, Nat.reduceLeDiff, Nat.reduceAdd, Nat.reduceMul, Int.reduceToNat, Int.reduceLE, Int.reduceLT, hq, List.length_map, Doc.get_iv hx, Int.natCast_nonneg, Int.toNat_natCast, elszN, Node.cells_eq, Node.cs]
                cases hxt : x.text with
                | true =>
                  rw [if_neg (by simp [hxt])] at hE
                  rw [if_pos ⟨he, hxt⟩] at hX
                  simp only [↓aX, evp, evq, evl, boxK, stillV, binV, AV.cells, mP, loadV, storeV, ldV, AV.stb, AV.one, IV.av1, Lb.app, Lb.fresh, reduceCtorEq, ptrL, appL, fillA, chunks, ivs, AV.iv, mkE, if_false, if_true, List.not_mem_nil, forall_eq, beq_self_eq_true, List.isEmpty_nil, Nat.reduceEqDiff, Nat.reduceLT, Nat.reduceLeDiff, Nat.reduceAdd, Nat.reduceMul, Int.reduceToNat, Int.reduceLE, Int.reduceLT, hwX, hw]
                  exact ⟨⟨i + 1, hlt2⟩, by simp only; omega, WS_mk (by simp only [NFx_loc, NFx_none]) (by simp only [hE, hX]; repeat' constructor) (by repeat' constructor)⟩
                | false =>
                  rw [if_pos ⟨he, hxt⟩] at hE
                  rw [if_neg (by simp [hxt])] at hX
                  simp only [↓aX, evp, evq, evl, boxK, stillV, binV, AV.cells, mP, loadV, storeV, ldV, AV.stb, AV.one, IV.av1, Lb.app, Lb.fresh, reduceCtorEq, ptrL, appL, fillA, chunks, ivs, AV.iv, mkE, if_false, if_true, List.not_mem_nil, forall_eq, beq_self_eq_true, List.isEmpty_nil, Nat.reduceEqDiff, Nat.reduceLT, Nat.reduceLeDiff, Nat.reduceAdd, Nat.reduceMul, Int.reduceToNat, Int.reduceLE, Int.reduceLT, hq, hwE, hw]
                  exact ⟨⟨i + 1, hlt2⟩, by simp only; omega, WS_mk (by simp only [NFx_loc, NFx_none]) (by simp only [hE, hX]; repeat' constructor) (by repeat' constructor)⟩
              · have hq : (((depD d i : Nat) : Int) == ((D + 1 : Nat) : Int)) = false := by rw [beq_eq_false_iff_ne]; omega
                rw [if_neg (by simp [he])] at hE hX
                simp only [↓aX, evp, evq, evl, boxK, stillV, binV, AV.cells, mP, loadV, storeV, ldV, AV.stb, AV.one, IV.av1, Lb.app, Lb.fresh, reduceCtorEq, ptrL, appL, fillA, chunks, ivs, AV.iv, mkE, if_false, if_true, List.not_mem_nil, forall_eq, beq_self_eq_true, List.isEmpty_nil, Nat.reduceEqDiff, Nat.reduceLT, Nat.reduceLeDiff, Nat.reduceAdd, Nat.reduceMul, Int.reduceToNat, Int.reduceLE, Int.reduceLT, hq, hw]
                exact ⟨⟨i + 1, hlt2⟩, by simp only; omega, WS_mk (by simp only [NFx_loc, NFx_none]) (by simp only [hE, hX]; repeat' constructor) (by repeat' constructor)⟩
        · have hid : i = d.length := by omega
          subst hid
          rw [show decide (((d.length : Nat) : Int) < ((d.length : Nat) : Int)) = false by simp]
          simp only [↓aX, evp, evq, evl, boxK, stillV, binV, AV.cells, mP, loadV, storeV, ldV, AV.stb, AV.one, IV.av1, Lb.app, Lb.fresh, reduceCtorEq, ptrL, appL, fillA, chunks, ivs, AV.iv, mkE, if_false, if_true, List.not_mem_nil, forall_eq, beq_self_eq_true, List.isEmpty_nil, Nat.reduceEqDiff, Nat.reduceLT, Nat.reduceLeDiff, Nat.reduceAdd, Nat.reduceMul, Int.reduceToNat, Int.reduceLE, Int.reduceLT, List.length_map, hca, hcb, show ((0 : Int) == 0) = true from rfl, beq_self_eq_true]
          refine callT_pure hP ?_
          simp only [↓aX, evp, evq, evl, boxK, stillV, binV, AV.cells, mP, loadV, storeV, ldV, AV.stb, AV.one, IV.av1, Lb.app, Lb.fresh, reduceCtorEq, ptrL, appL, fillA, chunks, ivs, AV.iv, mkE, if_false, if_true, List.not_mem_nil, forall_eq, beq_self_eq_true, List.isEmpty_nil, Nat.reduceEqDiff, Nat.reduceLT, Nat.reduceLeDiff, Nat.reduceAdd, Nat.reduceMul, Int.reduceToNat, Int.reduceLE, Int.reduceLT, beq_self_eq_true]
end
end Go.Am
