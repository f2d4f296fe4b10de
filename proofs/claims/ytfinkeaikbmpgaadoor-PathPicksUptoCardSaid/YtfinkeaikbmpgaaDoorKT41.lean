import Derived.Test.YtfinkeaikbmpgaaDoorKT39
import Derived.Test.YtfinkeaikbmpgaaDoorKT16
import Derived.Test.YtfinkeaikbmpgaaDoorKP1
set_option linter.unusedSimpArgs false
set_option linter.unusedVariables false
set_option linter.unnecessarySimpa false
set_option linter.defProp false
/- The law PathPicks. -/
namespace Go.Am
open Go Go.RowKit
theorem selF_mono (d : Doc) : ∀ (l : List Step) (a b : List Int), (∀ x ∈ a, x ∈ b) → ∀ x ∈ selF d a l, x ∈ selF d b l
  | [], a, b, h => h
  | s :: l, a, b, h => fun x hx => by
    simp only [selF] at hx ⊢
    refine selF_mono d l _ _ (fun y hy => ?_) x hx
    obtain ⟨z, hz, h2⟩ := List.mem_flatMap.1 hy
    exact List.mem_flatMap.2 ⟨z, h z hz, h2⟩
theorem chosen_sub (d : Doc) (nm : Bs) (n : Int) : ∀ (l : List Int) (k k' : Nat), ∀ x ∈ chosenF d ⟨nm, n⟩ k l, x ∈ chosenF d ⟨nm, 0⟩ k' l
  | [], _, _ => by simp [chosenF]
  | m :: r, k, k' => fun x hx => by
    simp only [chosenF] at hx ⊢
    split at hx
    · rename_i y hy
      split at hx
      · rename_i hf
        rw [if_pos hf, if_pos (.inl (by trivial))]
        split at hx
        · rcases List.mem_cons.1 hx with rfl | hx
          · simp
          · exact List.mem_cons_of_mem _ (chosen_sub d nm n r _ _ x hx)
        · exact List.mem_cons_of_mem _ (chosen_sub d nm n r _ _ x hx)
      · rename_i hf
        rw [if_neg hf]
        exact chosen_sub d nm n r _ _ x hx
    · exact chosen_sub d nm n r _ _ x hx
theorem selF_set (d : Doc) (nm : Bs) (n : Int) : ∀ (l : List Step) (k : Nat) (a b : List Int), (∀ x ∈ a, x ∈ b) → ∀ x ∈ selF d a (l.set k ⟨nm, n⟩), x ∈ selF d b (l.set k ⟨nm, 0⟩)
  | [], _, a, b, h => by simpa [selF] using h
  | s :: r, 0, a, b, h => fun x hx => by
    simp only [List.set_cons_zero, selF] at hx ⊢
    refine selF_mono d r _ _ (fun y hy => ?_) x hx
    obtain ⟨z, hz, h2⟩ := List.mem_flatMap.1 hy
    exact List.mem_flatMap.2 ⟨z, h z hz, chosen_sub d nm n _ _ _ y h2⟩
  | s :: r, k + 1, a, b, h => fun x hx => by
    simp only [List.set_cons_succ, selF] at hx ⊢
    refine selF_set d nm n r k _ _ (fun y hy => ?_) x hx
    obtain ⟨z, hz, h2⟩ := List.mem_flatMap.1 hy
    exact List.mem_flatMap.2 ⟨z, h z hz, h2⟩
theorem select_set (d : Doc) (nm : Bs) (n : Int) (l : List Step) (k : Nat) : ∀ x ∈ selectF d (l.set k ⟨nm, n⟩), x ∈ selectF d (l.set k ⟨nm, 0⟩) := by
  intro x hx
  match l, k with
  | [], _ => simpa [selectF] using hx
  | s :: r, 0 =>
    simp only [List.set_cons_zero, selectF] at hx ⊢
    exact selF_mono d r _ _ (chosen_sub d nm n _ _ _) x hx
  | s :: r, k + 1 =>
    simp only [List.set_cons_succ, selectF] at hx ⊢
    exact selF_set d nm n r k _ _ (fun y hy => hy) x hx
theorem all_set (s s' : Step) (h : okStep s = okStep s') : ∀ (l : List Step) (k : Nat), (l.set k s).all okStep = (l.set k s').all okStep
  | [], _ => rfl
  | x :: r, 0 => by simp [h]
  | x :: r, k + 1 => by simp [all_set s s' h r k]
theorem good_set {nm : Bs} {n : Int} (h0 : 0 ≤ n) (h1 : n ≤ 99) (l : List Step) (k : Nat) : goodPath (l.set k ⟨nm, n⟩) = goodPath (l.set k ⟨nm, 0⟩) := by
  unfold goodPath
  rw [all_set ⟨nm, n⟩ ⟨nm, 0⟩ (by simp [okStep, h0, h1]) l k, List.length_set, List.length_set]
theorem immE_get' (xs : List IV) (i : Nat) : (immE xs)[i]? = xs[i]?.map fun y => y.cells.map IV.av1 := by simp [immE]
theorem immE_setS (l : List Step) (k : Nat) (s : Step) : (immE (l.map Step.iv)).set k [.str s.name, .int .i64 s.n] = immE ((l.set k s).map Step.iv) := by
  simp [immE, List.map_set, Step.iv, Step.cs, IV.cells, IV.av1]
section
variable {P : Program} {G : Nat → Option (List IV)}
def c_topiarykeep_PathPicks (f_topiarykeep_paths f_topiarykeep_pick f_path_Select : Nat) : AC :=
(.seq (.reg [⟨(some 4), none, (.box (.t 0))⟩, ⟨(some 8), none, (.mov (.c (.bool false)))⟩]) (.seq (.seq (.reg [⟨(some 20), none, (.mov (.t 1))⟩, ⟨(some 21), none, (.len (.t 20))⟩, ⟨(some 22), none, (.bin .eql (.t 21) (.c (.int .i64 0)))⟩]) (.cond (.t 22) (.seq (.reg [⟨(some 23), none, (.call f_topiarykeep_paths [])⟩, ⟨(some 8), none, (.mov (.t 23))⟩]) .ret) .skip)) (.seq (.reg [⟨(some 24), none, (.mov (.t 2))⟩, ⟨(some 25), none, (.mov (.t 1))⟩, ⟨(some 26), none, (.len (.t 25))⟩, ⟨(some 27), none, (.call f_topiarykeep_pick [(.t 24), (.t 26)])⟩, ⟨(some 2), none, (.mov (.t 27))⟩]) (.seq (.reg [⟨(some 28), none, (.mov (.t 1))⟩, ⟨(some 29), none, (.app (.c .nil0) (.t 28) 2 24)⟩, ⟨(some 9), none, (.mov (.t 29))⟩]) (.seq (.reg [⟨(some 30), none, (.mov (.t 9))⟩, ⟨(some 31), none, (.mov (.t 2))⟩, ⟨(some 32), none, (.mov (.t 3))⟩, ⟨(some 33), none, (.call f_topiarykeep_pick [(.t 32), (.c (.int .i64 100))])⟩, ⟨(some 34), none, (.ixa (.t 30) (.t 31) 2)⟩, ⟨(some 35), none, (.fld (.t 34) 1)⟩, ⟨none, none, (.store 1 (.t 35) (.t 33))⟩]) (.seq (.reg [⟨(some 36), none, (.mov (.t 1))⟩, ⟨(some 37), none, (.app (.c .nil0) (.t 36) 2 24)⟩, ⟨(some 10), none, (.mov (.t 37))⟩]) (.seq (.reg [⟨(some 38), none, (.mov (.t 10))⟩, ⟨(some 39), none, (.mov (.t 2))⟩, ⟨(some 40), none, (.ixa (.t 38) (.t 39) 2)⟩, ⟨(some 41), none, (.fld (.t 40) 1)⟩, ⟨none, none, (.store 1 (.t 41) (.c (.int .i64 0)))⟩]) (.gh (.frz (.loc 29) 9) (.seq (.reg [⟨(some 43), none, (.load (some 1) (.t 4))⟩, ⟨(some 44), none, (.mov (.t 9))⟩, ⟨(some 45), none, (.call f_path_Select [(.t 43), (.t 44)])⟩, ⟨(some 42), none, (.mov (.t 45))⟩, ⟨(some 46), none, (.ext (.t 42) 0)⟩, ⟨(some 47), none, (.ext (.t 42) 1)⟩, ⟨(some 11), none, (.mov (.t 46))⟩, ⟨(some 12), none, (.mov (.t 47))⟩]) (.gh (.frz (.loc 37) 10) (.seq (.reg [⟨(some 49), none, (.load (some 1) (.t 4))⟩, ⟨(some 50), none, (.mov (.t 10))⟩, ⟨(some 51), none, (.call f_path_Select [(.t 49), (.t 50)])⟩, ⟨(some 48), none, (.mov (.t 51))⟩, ⟨(some 52), none, (.ext (.t 48) 0)⟩, ⟨(some 53), none, (.ext (.t 48) 1)⟩, ⟨(some 13), none, (.mov (.t 52))⟩, ⟨(some 14), none, (.mov (.t 53))⟩]) (.seq (.seq (.reg [⟨(some 54), none, (.mov (.t 12))⟩, ⟨(some 55), none, (.mov (.t 14))⟩, ⟨(some 56), none, (.bin .neq (.t 54) (.t 55))⟩, ⟨(some 57), none, (.mov (.t 56))⟩, ⟨(some 58), (some (57, false)), (.call f_topiarykeep_paths [])⟩, ⟨(some 59), (some (57, false)), (.not (.t 58))⟩, ⟨(some 60), none, (.pick (.t 57) (.c (.bool true)) (.t 59))⟩]) (.cond (.t 60) (.seq (.reg [⟨(some 8), none, (.mov (.c (.bool false)))⟩]) .ret) .skip)) (.seq (.seq (.reg [⟨(some 61), none, (.mov (.t 11))⟩, ⟨(some 62), none, (.len (.t 61))⟩, ⟨(some 63), none, (.mov (.c (.int .i64 0)))⟩]) (.block 0 (.loop (.seq (.reg [⟨(some 64), none, (.bin .lss (.t 63) (.t 62))⟩]) (.seq (.cond (.t 64) .skip (.exit 0)) (.seq (.block 1 (.seq (.reg [⟨(some 65), none, (.ixa (.t 61) (.t 63) 1)⟩, ⟨(some 66), none, (.load none (.t 65))⟩, ⟨(some 16), none, (.mov (.t 66))⟩]) (.seq (.reg [⟨(some 17), none, (.mov (.c (.bool false)))⟩]) (.seq (.seq (.reg [⟨(some 67), none, (.mov (.t 13))⟩, ⟨(some 68), none, (.len (.t 67))⟩, ⟨(some 69), none, (.mov (.c (.int .i64 0)))⟩]) (.block 2 (.loop (.seq (.reg [⟨(some 70), none, (.bin .lss (.t 69) (.t 68))⟩]) (.seq (.cond (.t 70) .skip (.exit 2)) (.seq (.block 3 (.seq (.reg [⟨(some 71), none, (.ixa (.t 67) (.t 69) 1)⟩, ⟨(some 72), none, (.load none (.t 71))⟩, ⟨(some 19), none, (.mov (.t 72))⟩]) (.reg [⟨(some 73), none, (.mov (.t 17))⟩, ⟨(some 74), none, (.mov (.t 73))⟩, ⟨(some 75), (some (74, false)), (.mov (.t 16))⟩, ⟨(some 76), (some (74, false)), (.mov (.t 19))⟩, ⟨(some 77), (some (74, false)), (.bin .eql (.t 75) (.t 76))⟩, ⟨(some 78), none, (.pick (.t 74) (.c (.bool true)) (.t 77))⟩, ⟨(some 17), none, (.mov (.t 78))⟩]))) (.reg [⟨(some 79), none, (.bin .add (.t 69) (.c (.int .i64 1)))⟩, ⟨(some 69), none, (.mov (.t 79))⟩]))))))) (.seq (.reg [⟨(some 80), none, (.mov (.t 17))⟩, ⟨(some 81), none, (.not (.t 80))⟩]) (.cond (.t 81) (.seq (.reg [⟨(some 8), none, (.mov (.c (.bool false)))⟩]) .ret) .skip)))))) (.reg [⟨(some 82), none, (.bin .add (.t 63) (.c (.int .i64 1)))⟩, ⟨(some 63), none, (.mov (.t 82))⟩]))))))) (.seq (.reg [⟨(some 8), none, (.mov (.c (.bool true)))⟩]) .ret))))))))))))))
theorem pPathPicks {f_topiarykeep_PathPicks f_topiarykeep_paths f_topiarykeep_pick f_path_Select : Nat} (hF : compF P G f_topiarykeep_PathPicks = some (83, [(none, 8)], (c_topiarykeep_PathPicks f_topiarykeep_paths f_topiarykeep_pick f_path_Select).bare)) (d : Doc) (hd : wtN d ≤ B) (l : List Step) (hl : l.length ≤ B) (k n : Int)
    (hP : PureC P G f_topiarykeep_paths [] (.bool true)) (hK : ∀ k n : Int, 0 < n → n ≤ B → PureC P G f_topiarykeep_pick [.int .i64 k, .int .i64 n] (.int .i64 (pickF k n)))
    (hS : ∀ (q : Nat) (s : Step) (n : Int), l[q]? = some s → PureC P G f_path_Select [Doc.av d, .list ((l.set q ⟨s.name, n⟩).map Step.iv)] (.tup [.list ((selectD d (l.set q ⟨s.name, n⟩)).1.map intIV), .int .i64 (selectD d (l.set q ⟨s.name, n⟩)).2])) :
    PureC P G f_topiarykeep_PathPicks [Doc.av d, .list (l.map Step.iv), .int .i64 k, .int .i64 n] (.bool true) := by
  refine pure_of_go hF (by simp) (by simp [lbss, AV.lbs, Doc.av]) (by simp [AV.lbs]) ?_
  have hBv : B = 1073741824 := rfl
  have hdl := wtN_len d
  unfold c_topiarykeep_PathPicks
  simp only [Doc.av] at hS
  simp only [↓aX, evp, evq, evl, boxK, stillV, binV, AV.cells, mP, loadV, storeV, ldV, AV.stb, AV.one, IV.av1, Lb.app, Lb.fresh, reduceCtorEq, ptrL, appL, fillA, chunks, ivs, AV.iv, mkE, if_false, if_true, List.not_mem_nil, forall_eq, beq_self_eq_true, List.isEmpty_nil, Nat.reduceEqDiff, Nat.reduceLT, Nat.reduceLeDiff, Nat.reduceAdd, Nat.reduceMul, Int.reduceToNat, Int.reduceLE, Int.reduceLT, Doc.av, List.length_map]
  by_cases h0 : l.length = 0
  · rw [show (((l.length : Nat) : Int) == 0) = true by simp [h0]]
    simp only [↓aX, evp, evq, evl, boxK, stillV, binV, AV.cells, mP, loadV, storeV, ldV, AV.stb, AV.one, IV.av1, Lb.app, Lb.fresh, reduceCtorEq, ptrL, appL, fillA, chunks, ivs, AV.iv, mkE, if_false, if_true, List.not_mem_nil, forall_eq, beq_self_eq_true, List.isEmpty_nil, Nat.reduceEqDiff, Nat.reduceLT, Nat.reduceLeDiff, Nat.reduceAdd, Nat.reduceMul, Int.reduceToNat, Int.reduceLE, Int.reduceLT]
    refine callT_pure hP ?_
    simp only [↓aX, evp, evq, evl, boxK, stillV, binV, AV.cells, mP, loadV, storeV, ldV, AV.stb, AV.one, IV.av1, Lb.app, Lb.fresh, reduceCtorEq, ptrL, appL, fillA, chunks, ivs, AV.iv, mkE, if_false, if_true, List.not_mem_nil, forall_eq, beq_self_eq_true, List.isEmpty_nil, Nat.reduceEqDiff, Nat.reduceLT, Nat.reduceLeDiff, Nat.reduceAdd, Nat.reduceMul, Int.reduceToNat, Int.reduceLE, Int.reduceLT]
  rw [show (((l.length : Nat) : Int) == 0) = false by simp; exact fun e => h0 (by rw [e]; rfl)]
  have hk := pickF_rng (k := k) (n := (l.length : Int)) (by omega)
  have hn := pickF_rng (k := n) (n := 100) (by decide)
  obtain ⟨q, hq⟩ := Int.eq_ofNat_of_zero_le hk.1
  obtain ⟨s, hs⟩ : ∃ s, l[q]? = some s := ⟨_, List.getElem?_eq_getElem (by omega)⟩
  have hkk := hK k l.length (by omega) (by omega)
  rw [hq] at hkk
  simp only [↓aX, evp, evq, evl, boxK, stillV, binV, AV.cells, mP, loadV, storeV, ldV, AV.stb, AV.one, IV.av1, Lb.app, Lb.fresh, reduceCtorEq, ptrL, appL, fillA, chunks, ivs, AV.iv, mkE, if_false, if_true, List.not_mem_nil, forall_eq, beq_self_eq_true, List.isEmpty_nil, Nat.reduceEqDiff, Nat.reduceLT, Nat.reduceLeDiff, Nat.reduceAdd, Nat.reduceMul, Int.reduceToNat, Int.reduceLE, Int.reduceLT, List.length_map]
  refine callT_pure hkk ?_
  simp only [↓aX, evp, evq, evl, boxK, stillV, binV, AV.cells, mP, loadV, storeV, ldV, AV.stb, AV.one, IV.av1, Lb.app, Lb.fresh, reduceCtorEq, ptrL, appL, fillA, chunks, ivs, AV.iv, mkE, if_false, if_true, List.not_mem_nil, forall_eq, beq_self_eq_true, List.isEmpty_nil, Nat.reduceEqDiff, Nat.reduceLT, Nat.reduceLeDiff, Nat.reduceAdd, Nat.reduceMul, Int.reduceToNat, Int.reduceLE, Int.reduceLT]
  rw [app_nil' 2 24 29 (l.map Step.iv) (elszS _) (flatSt _) (by rw [List.length_map]; omega) (by decide) (by simp [upd_at, Hp.none])]
  simp only [↓aX, evp, evq, evl, boxK, stillV, binV, AV.cells, mP, loadV, storeV, ldV, AV.stb, AV.one, IV.av1, Lb.app, Lb.fresh, reduceCtorEq, ptrL, appL, fillA, chunks, ivs, AV.iv, mkE, if_false, if_true, List.not_mem_nil, forall_eq, beq_self_eq_true, List.isEmpty_nil, Nat.reduceEqDiff, Nat.reduceLT, Nat.reduceLeDiff, Nat.reduceAdd, Nat.reduceMul, Int.reduceToNat, Int.reduceLE, Int.reduceLT]
  refine callT_pure (hK n 100 (by decide) (by decide)) ?_
  have hql : q < l.length := (List.getElem?_eq_some_iff.1 hs).1
  simp only [↓aX, evp, evq, evl, boxK, stillV, binV, AV.cells, mP, loadV, storeV, ldV, AV.stb, AV.one, IV.av1, Lb.app, Lb.fresh, reduceCtorEq, ptrL, appL, fillA, chunks, ivs, AV.iv, mkE, if_false, if_true, List.not_mem_nil, forall_eq, beq_self_eq_true, List.isEmpty_nil, Nat.reduceEqDiff, Nat.reduceLT, Nat.reduceLeDiff, Nat.reduceAdd, Nat.reduceMul, Int.reduceToNat, Int.reduceLE, Int.reduceLT, Int.natCast_nonneg, Int.toNat_natCast, List.length_map, true_and, show q < l.length by omega, immE_get', stGet, hs, Option.map_some, Option.bind_some, Step.cells_eq, Step.cs, List.length_cons, List.length_nil, List.map_cons, List.map_nil, Nat.zero_add]
  have h1 : (immE (l.map Step.iv)).set q [.str s.name, .int .i64 (pickF n 100)] = immE ((l.set q ⟨s.name, pickF n 100⟩).map Step.iv) := immE_setS l q ⟨s.name, pickF n 100⟩
  have h2 : (immE (l.map Step.iv)).set q [.str s.name, .int .i64 0] = immE ((l.set q ⟨s.name, 0⟩).map Step.iv) := immE_setS l q ⟨s.name, 0⟩
  have hb : ∀ x, x ∈ selectF d (l.set q ⟨s.name, pickF n 100⟩) → x ∈ selectF d (l.set q ⟨s.name, 0⟩) := select_set d s.name _ l q
  have hg := good_set (nm := s.name) hn.1 (show pickF n 100 ≤ 99 by omega) l q
  obtain ⟨S1, hS1⟩ : ∃ S1, S1 = l.set q ⟨s.name, pickF n 100⟩ := ⟨_, rfl⟩
  obtain ⟨S0, hS0⟩ : ∃ S0, S0 = l.set q ⟨s.name, 0⟩ := ⟨_, rfl⟩
  have hl1 : S1.length = l.length := by rw [hS1, List.length_set]
  have hl0 : S0.length = l.length := by rw [hS0, List.length_set]
  have hSa : PureC P G f_path_Select [.agg [.list (d.map Node.iv)], .list (S1.map Step.iv)] (.tup [.list ((selectD d S1).1.map intIV), .int .i64 (selectD d S1).2]) := by rw [hS1]; exact hS q s _ hs
  have hSb : PureC P G f_path_Select [.agg [.list (d.map Node.iv)], .list (S0.map Step.iv)] (.tup [.list ((selectD d S0).1.map intIV), .int .i64 (selectD d S0).2]) := by rw [hS0]; exact hS q s _ hs
  rw [h1, app_nil' 2 24 37 (l.map Step.iv) (elszS _) (flatSt _) (by rw [List.length_map]; omega) (by decide) (by simp [upd_at, Hp.none])]
  rw [← hS1, ← hS0] at hb hg
  rw [← hS1]
  rw [← hS0] at h2
  simp only [↓aX, evp, evq, evl, boxK, stillV, binV, AV.cells, mP, loadV, storeV, ldV, AV.stb, AV.one, IV.av1, Lb.app, Lb.fresh, reduceCtorEq, ptrL, appL, fillA, chunks, ivs, AV.iv, mkE, if_false, if_true, List.not_mem_nil, forall_eq, beq_self_eq_true, List.isEmpty_nil, Nat.reduceEqDiff, Nat.reduceLT, Nat.reduceLeDiff, Nat.reduceAdd, Nat.reduceMul, Int.reduceToNat, Int.reduceLE, Int.reduceLT, Int.natCast_nonneg, Int.toNat_natCast, List.length_map, true_and, show q < l.length by omega, immE_get', stGet, hs, Option.map_some, Option.bind_some, Step.cells_eq, Step.cs, List.length_cons, List.length_nil, List.map_cons, List.map_nil, Nat.zero_add,
    List.set_cons_zero, List.set_cons_succ, List.take_succ_cons, List.take_zero, List.drop_succ_cons, List.drop_zero, List.drop_nil, List.cons_append, List.nil_append, List.append_nil, h2]
  refine ⟨2, S1.map Step.iv, 0, l.length, rfl, rfl, by simp [hl1], flatSt _, ?_⟩
  simp only [↓aX, evp, evq, evl, boxK, stillV, binV, AV.cells, mP, loadV, storeV, ldV, AV.stb, AV.one, IV.av1, Lb.app, Lb.fresh, reduceCtorEq, ptrL, appL, fillA, chunks, ivs, AV.iv, mkE, if_false, if_true, List.not_mem_nil, forall_eq, beq_self_eq_true, List.isEmpty_nil, Nat.reduceEqDiff, Nat.reduceLT, Nat.reduceLeDiff, Nat.reduceAdd, Nat.reduceMul, Int.reduceToNat, Int.reduceLE, Int.reduceLT, List.drop_zero, List.take_of_length_le (show (S1.map Step.iv).length ≤ l.length by simp [hl1])]
  refine callT_pure hSa ?_
  simp only [↓aX, evp, evq, evl, boxK, stillV, binV, AV.cells, mP, loadV, storeV, ldV, AV.stb, AV.one, IV.av1, Lb.app, Lb.fresh, reduceCtorEq, ptrL, appL, fillA, chunks, ivs, AV.iv, mkE, if_false, if_true, List.not_mem_nil, forall_eq, beq_self_eq_true, List.isEmpty_nil, Nat.reduceEqDiff, Nat.reduceLT, Nat.reduceLeDiff, Nat.reduceAdd, Nat.reduceMul, Int.reduceToNat, Int.reduceLE, Int.reduceLT]
  refine ⟨2, S0.map Step.iv, 0, l.length, rfl, rfl, by simp [hl0], flatSt _, ?_⟩
  simp only [↓aX, evp, evq, evl, boxK, stillV, binV, AV.cells, mP, loadV, storeV, ldV, AV.stb, AV.one, IV.av1, Lb.app, Lb.fresh, reduceCtorEq, ptrL, appL, fillA, chunks, ivs, AV.iv, mkE, if_false, if_true, List.not_mem_nil, forall_eq, beq_self_eq_true, List.isEmpty_nil, Nat.reduceEqDiff, Nat.reduceLT, Nat.reduceLeDiff, Nat.reduceAdd, Nat.reduceMul, Int.reduceToNat, Int.reduceLE, Int.reduceLT, List.drop_zero, List.take_of_length_le (show (S0.map Step.iv).length ≤ l.length by simp [hl0])]
  refine callT_pure hSb ?_
  simp only [↓aX, evp, evq, evl, boxK, stillV, binV, AV.cells, mP, loadV, storeV, ldV, AV.stb, AV.one, IV.av1, Lb.app, Lb.fresh, reduceCtorEq, ptrL, appL, fillA, chunks, ivs, AV.iv, mkE, if_false, if_true, List.not_mem_nil, forall_eq, beq_self_eq_true, List.isEmpty_nil, Nat.reduceEqDiff, Nat.reduceLT, Nat.reduceLeDiff, Nat.reduceAdd, Nat.reduceMul, Int.reduceToNat, Int.reduceLE, Int.reduceLT]
  have he : (selectD d S1).2 = (selectD d S0).2 ∧ (∀ x ∈ (selectD d S1).1, x ∈ (selectD d S0).1) ∧ (selectD d S1).1.length ≤ d.length ∧ (selectD d S0).1.length ≤ d.length := by
    unfold selectD
    rw [hg]
    by_cases h : isDoc d = true ∧ goodPath S0 = true
    · rw [if_pos h, if_pos h]
      refine ⟨rfl, hb, (sel_mem h.1 ?_).1, (sel_mem h.1 ?_).1⟩
      · rintro rfl; simp at hl1; omega
      · rintro rfl; simp at hl0; omega
    · rw [if_neg h, if_neg h]
      simp
  obtain ⟨he, hin, hla, hlb⟩ := he
  obtain ⟨a, ha⟩ : ∃ a, a = (selectD d S1).1 := ⟨_, rfl⟩
  obtain ⟨b, hb'⟩ : ∃ b, b = (selectD d S0).1 := ⟨_, rfl⟩
  rw [← ha, ← hb'] at hin
  rw [← ha] at hla
  rw [← hb'] at hlb
  rw [← ha, ← hb', he, show ((selectD d S0).2 != (selectD d S0).2) = false by simp]
  simp only [↓aX, evp, evq, evl, boxK, stillV, binV, AV.cells, mP, loadV, storeV, ldV, AV.stb, AV.one, IV.av1, Lb.app, Lb.fresh, reduceCtorEq, ptrL, appL, fillA, chunks, ivs, AV.iv, mkE, if_false, if_true, List.not_mem_nil, forall_eq, beq_self_eq_true, List.isEmpty_nil, Nat.reduceEqDiff, Nat.reduceLT, Nat.reduceLeDiff, Nat.reduceAdd, Nat.reduceMul, Int.reduceToNat, Int.reduceLE, Int.reduceLT]
  refine callT_pure hP ?_
  simp only [↓aX, evp, evq, evl, boxK, stillV, binV, AV.cells, mP, loadV, storeV, ldV, AV.stb, AV.one, IV.av1, Lb.app, Lb.fresh, reduceCtorEq, ptrL, appL, fillA, chunks, ivs, AV.iv, mkE, if_false, if_true, List.not_mem_nil, forall_eq, beq_self_eq_true, List.isEmpty_nil, Nat.reduceEqDiff, Nat.reduceLT, Nat.reduceLeDiff, Nat.reduceAdd, Nat.reduceMul, Int.reduceToNat, Int.reduceLE, Int.reduceLT, Bool.not_true, List.length_map]
  refine loop_data (σ := { i : Nat // i ≤ a.length }) (fun x => [(13, .list (b.map intIV)), (61, .list (a.map intIV)), (62, .int .i64 a.length), (63, .int .i64 x.1)]) (fun x => a.length - x.1) ⟨0, Nat.zero_le _⟩ (fun _ => rfl) ?_ ?_
  · exact ⟨by simp only [↓aX, evp, evq, evl, boxK, stillV, binV, AV.cells, mP, loadV, storeV, ldV, AV.stb, AV.one, IV.av1, Lb.app, Lb.fresh, reduceCtorEq, ptrL, appL, fillA, chunks, ivs, AV.iv, mkE, if_false, if_true, List.not_mem_nil, forall_eq, beq_self_eq_true, List.isEmpty_nil, Nat.reduceEqDiff, Nat.reduceLT, Nat.reduceLeDiff, Nat.reduceAdd, Nat.reduceMul, Int.reduceToNat, Int.reduceLE, Int.reduceLT], by repeat' constructor⟩
  · rintro ⟨i, hi⟩
    simp only [↓aX, evp, evq, evl, boxK, stillV, binV, AV.cells, mP, loadV, storeV, ldV, AV.stb, AV.one, IV.av1, Lb.app, Lb.fresh, reduceCtorEq, ptrL, appL, fillA, chunks, ivs, AV.iv, mkE, if_false, if_true, List.not_mem_nil, forall_eq, beq_self_eq_true, List.isEmpty_nil, Nat.reduceEqDiff, Nat.reduceLT, Nat.reduceLeDiff, Nat.reduceAdd, Nat.reduceMul, Int.reduceToNat, Int.reduceLE, Int.reduceLT, List.length_map]
    by_cases hlt : i < a.length
    · rw [show decide (((i : Nat) : Int) < ((a.length : Nat) : Int)) = true by simpa using hlt]
      obtain ⟨y, hy⟩ : ∃ y, a[i]? = some y := ⟨_, List.getElem?_eq_getElem hlt⟩
      have hyb := hin y (List.mem_of_getElem? hy)
      have hw : IntKind.i64.wrap ((i : Int) + 1) = ((i + 1 : Nat) : Int) := wrap64 (by omega) (by omega)
      simp only [↓aX, evp, evq, evl, boxK, stillV, binV, AV.cells, mP, loadV, storeV, ldV, AV.stb, AV.one, IV.av1, Lb.app, Lb.fresh, reduceCtorEq, ptrL, appL, fillA, chunks, ivs, AV.iv, mkE, if_false, if_true, List.not_mem_nil, forall_eq, beq_self_eq_true, List.isEmpty_nil, Nat.reduceEqDiff, Nat.reduceLT, Nat.reduceLeDiff, Nat.reduceAdd, Nat.reduceMul, Int.reduceToNat, Int.reduceLE, Int.reduceLT, intGet, hy, elszI, Option.map_some, intIV_cs, Int.natCast_nonneg, Int.toNat_natCast, List.length_map]
      refine loop_data (σ := { j : Nat // j ≤ b.length }) (fun x => [(13, .list (b.map intIV)), (61, .list (a.map intIV)), (62, .int .i64 a.length), (63, .int .i64 i), (16, .int .i64 y), (17, .bool (decide (y ∈ b.take x.1))), (67, .list (b.map intIV)), (68, .int .i64 b.length), (69, .int .i64 x.1)])
        (fun x => b.length - x.1) ⟨0, Nat.zero_le _⟩ (fun _ => rfl) ?_ ?_
      · exact ⟨by simp only [↓aX, evp, evq, evl, boxK, stillV, binV, AV.cells, mP, loadV, storeV, ldV, AV.stb, AV.one, IV.av1, Lb.app, Lb.fresh, reduceCtorEq, ptrL, appL, fillA, chunks, ivs, AV.iv, mkE, if_false, if_true, List.not_mem_nil, forall_eq, beq_self_eq_true, List.isEmpty_nil, Nat.reduceEqDiff, Nat.reduceLT, Nat.reduceLeDiff, Nat.reduceAdd, Nat.reduceMul, Int.reduceToNat, Int.reduceLE, Int.reduceLT], by simp only [List.take_zero, List.not_mem_nil, decide_false]; repeat' constructor⟩
      · rintro ⟨j, hj⟩
        simp only [↓aX, evp, evq, evl, boxK, stillV, binV, AV.cells, mP, loadV, storeV, ldV, AV.stb, AV.one, IV.av1, Lb.app, Lb.fresh, reduceCtorEq, ptrL, appL, fillA, chunks, ivs, AV.iv, mkE, if_false, if_true, List.not_mem_nil, forall_eq, beq_self_eq_true, List.isEmpty_nil, Nat.reduceEqDiff, Nat.reduceLT, Nat.reduceLeDiff, Nat.reduceAdd, Nat.reduceMul, Int.reduceToNat, Int.reduceLE, Int.reduceLT, List.length_map]
        by_cases hlt2 : j < b.length
        · rw [show decide (((j : Nat) : Int) < ((b.length : Nat) : Int)) = true by simpa using hlt2]
          obtain ⟨z, hz⟩ : ∃ z, b[j]? = some z := ⟨_, List.getElem?_eq_getElem hlt2⟩
          have hwj : IntKind.i64.wrap ((j : Int) + 1) = ((j + 1 : Nat) : Int) := wrap64 (by omega) (by omega)
          have hnx : b.take (j + 1) = b.take j ++ [z] := by rw [List.take_add_one, hz]; rfl
          simp only [↓aX, evp, evq, evl, boxK, stillV, binV, AV.cells, mP, loadV, storeV, ldV, AV.stb, AV.one, IV.av1, Lb.app, Lb.fresh, reduceCtorEq, ptrL, appL, fillA, chunks, ivs, AV.iv, mkE, if_false, if_true, List.not_mem_nil, forall_eq, beq_self_eq_true, List.isEmpty_nil, Nat.reduceEqDiff, Nat.reduceLT, Nat.reduceLeDiff, Nat.reduceAdd, Nat.reduceMul, Int.reduceToNat, Int.reduceLE, Int.reduceLT, intGet, hz, elszI, Option.map_some, intIV_cs, Int.natCast_nonneg, Int.toNat_natCast, List.length_map]
          by_cases hin2 : y ∈ b.take j
          · rw [decide_eq_true hin2]
            simp only [↓aX, evp, evq, evl, boxK, stillV, binV, AV.cells, mP, loadV, storeV, ldV, AV.stb, AV.one, IV.av1, Lb.app, Lb.fresh, reduceCtorEq, ptrL, appL, fillA, chunks, ivs, AV.iv, mkE, if_false, if_true, List.not_mem_nil, forall_eq, beq_self_eq_true, List.isEmpty_nil, Nat.reduceEqDiff, Nat.reduceLT, Nat.reduceLeDiff, Nat.reduceAdd, Nat.reduceMul, Int.reduceToNat, Int.reduceLE, Int.reduceLT, hwj]
            refine ⟨⟨j + 1, hlt2⟩, by simp only; omega, ?_⟩
            have : decide (y ∈ b.take (j + 1)) = true := decide_eq_true (by rw [hnx]; exact List.mem_append_left _ hin2)
            simp only [this]
            repeat' constructor
          · rw [decide_eq_false hin2]
            simp only [↓aX, evp, evq, evl, boxK, stillV, binV, AV.cells, mP, loadV, storeV, ldV, AV.stb, AV.one, IV.av1, Lb.app, Lb.fresh, reduceCtorEq, ptrL, appL, fillA, chunks, ivs, AV.iv, mkE, if_false, if_true, List.not_mem_nil, forall_eq, beq_self_eq_true, List.isEmpty_nil, Nat.reduceEqDiff, Nat.reduceLT, Nat.reduceLeDiff, Nat.reduceAdd, Nat.reduceMul, Int.reduceToNat, Int.reduceLE, Int.reduceLT, hwj]
            refine ⟨⟨j + 1, hlt2⟩, by simp only; omega, ?_⟩
            have : decide (y ∈ b.take (j + 1)) = (y == z) := by
              rw [hnx, Bool.eq_iff_iff, decide_eq_true_eq, List.mem_append, List.mem_singleton, beq_iff_eq]
              exact ⟨fun h => h.resolve_left hin2, .inr⟩
            simp only [this]
            repeat' constructor
        · rw [show decide (((j : Nat) : Int) < ((b.length : Nat) : Int)) = false by simpa using hlt2, List.take_of_length_le (by omega), decide_eq_true hyb]
          simp only [↓aX, evp, evq, evl, boxK, stillV, binV, AV.cells, mP, loadV, storeV, ldV, AV.stb, AV.one, IV.av1, Lb.app, Lb.fresh, reduceCtorEq, ptrL, appL, fillA, chunks, ivs, AV.iv, mkE, if_false, if_true, List.not_mem_nil, forall_eq, beq_self_eq_true, List.isEmpty_nil, Nat.reduceEqDiff, Nat.reduceLT, Nat.reduceLeDiff, Nat.reduceAdd, Nat.reduceMul, Int.reduceToNat, Int.reduceLE, Int.reduceLT, Bool.not_true, hw]
          exact ⟨⟨i + 1, hlt⟩, by simp only; omega, by repeat' constructor⟩
    · rw [show decide (((i : Nat) : Int) < ((a.length : Nat) : Int)) = false by simpa using hlt]
      simp only [↓aX, evp, evq, evl, boxK, stillV, binV, AV.cells, mP, loadV, storeV, ldV, AV.stb, AV.one, IV.av1, Lb.app, Lb.fresh, reduceCtorEq, ptrL, appL, fillA, chunks, ivs, AV.iv, mkE, if_false, if_true, List.not_mem_nil, forall_eq, beq_self_eq_true, List.isEmpty_nil, Nat.reduceEqDiff, Nat.reduceLT, Nat.reduceLeDiff, Nat.reduceAdd, Nat.reduceMul, Int.reduceToNat, Int.reduceLE, Int.reduceLT]
end
end Go.Am

/- Paths: out of readings. -/
namespace Go.Am
open Go Go.RowKit
section
variable {P : Program}
/-- The types of paths. -/
structure TyP (P : Program) (T : TyT P) where
  tI : TypeId
  tP : TypeId
  tPs : TypeId
  fP : Array Field
  uI : P.underlying tI = some (.int .i64)
  uP : P.underlying tP = some (.struct fP)
  uPs : P.underlying tPs = some (.slice tP)
  sP : fP.toList.map (·.type) = [T.tS, tI]
theorem Sh.step {T : TyT P} (D : TyP P T) {y : IV} (h : Sh P D.tP y) : ∃ x : Step, y = x.iv ∧ 1 + x.name.length ≤ y.wt := by
  obtain ⟨ys, rfl, hl, hys⟩ := h.inv_g D.uP
  have hs : D.fP.size = 2 := by have := congrArg List.length D.sP; simpa using this
  match ys, hl.trans hs, hys with
  | [y0, y1], _, hys =>
    obtain ⟨f0, e0, t0⟩ := field_of D.sP 0 T.tS rfl
    obtain ⟨f1, e1, t1⟩ := field_of D.sP 1 D.tI rfl
    have h0 := hys 0 f0 y0 e0 rfl
    have h1 := hys 1 f1 y1 e1 rfl
    rw [t0] at h0; rw [t1] at h1
    obtain ⟨s, rfl⟩ := h0.inv_s T.uS
    obtain ⟨p, rfl, _⟩ := h1.inv_i D.uI
    exact ⟨⟨s, p⟩, rfl, by simp only [IV.wt, wtI]; omega⟩
theorem Sh.stepL {T : TyT P} (D : TyP P T) : ∀ (ys : List IV), (∀ y ∈ ys, Sh P D.tP y) → ∃ d : List Step, ys = d.map Step.iv ∧ d.length ≤ wtI ys ∧ ∀ x ∈ d, x.name.length ≤ wtI ys
  | [], _ => ⟨[], rfl, by simp [wtI], by simp⟩
  | y :: r, h => by
    obtain ⟨x, rfl, h1⟩ := (h y (by simp)).step D
    obtain ⟨d, rfl, h2, h3⟩ := Sh.stepL D r (fun z hz => h z (by simp [hz]))
    refine ⟨x :: d, rfl, by simp only [List.length_cons, wtI]; omega, ?_⟩
    intro z hz
    simp only [wtI]
    rcases List.mem_cons.1 hz with rfl | hz
    · omega
    · have := h3 z hz; omega
theorem Sh.steps {T : TyT P} (D : TyP P T) {y : IV} (h : Sh P D.tPs y) : ∃ l : List Step, y = .list (l.map Step.iv) ∧ l.length ≤ y.wt ∧ ∀ x ∈ l, x.name.length ≤ y.wt := by
  obtain ⟨z, rfl, g⟩ := h.inv_l D.uPs
  obtain ⟨d, rfl, w, w2⟩ := Sh.stepL D z g
  exact ⟨d, rfl, by simp only [IV.wt]; omega, fun x hx => by have := w2 x hx; simp only [IV.wt]; omega⟩
end
end Go.Am
