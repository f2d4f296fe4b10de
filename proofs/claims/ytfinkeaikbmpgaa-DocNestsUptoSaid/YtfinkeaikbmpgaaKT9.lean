import Derived.Test.YtfinkeaikbmpgaaKJ1
import Derived.Test.YtfinkeaikbmpgaaKAm27
set_option linter.unusedSimpArgs false
set_option linter.unusedVariables false
set_option linter.unnecessarySimpa false
set_option linter.defProp false
/- JoinedOf. -/
namespace Go.Am
open Go Go.RowKit

def c_topiaryref_JoinedOf (f_topiaryref_JoinedOf : Nat) : AC :=
(.seq (.reg [⟨(some 2), none, (.mov (.c .nil0))⟩]) (.seq (.reg [⟨(some 3), none, (.mov (.c .nil0))⟩]) (.gh (.own 3 4) (.seq (.seq (.reg [⟨(some 4), none, (.mov (.c (.int .i64 0)))⟩]) (.block 0 (.loop (.seq (.seq (.reg [⟨(some 9), none, (.mov (.t 4))⟩, ⟨(some 10), none, (.mov (.t 0))⟩, ⟨(some 11), none, (.len (.t 10))⟩, ⟨(some 12), none, (.bin .lss (.t 9) (.t 11))⟩]) (.cond (.t 12) .skip (.exit 0))) (.seq (.block 1 (.seq (.seq (.reg [⟨(some 15), none, (.mov (.t 0))⟩, ⟨(some 16), none, (.mov (.t 4))⟩, ⟨(some 17), none, (.ixa (.t 15) (.t 16) 4)⟩, ⟨(some 18), none, (.fld (.t 17) 0)⟩, ⟨(some 19), none, (.load none (.t 18))⟩, ⟨(some 20), none, (.not (.t 19))⟩]) (.cond (.t 20) (.seq (.reg [⟨(some 21), none, (.mov (.t 0))⟩, ⟨(some 22), none, (.mov (.t 4))⟩, ⟨(some 23), none, (.ixa (.t 21) (.t 22) 4)⟩, ⟨(some 24), none, (.load (some 4) (.t 23))⟩, ⟨(some 5), none, (.new [(.bool false), (.str []), .nil0, .nil0])⟩, ⟨none, none, (.store 4 (.t 5) (.t 24))⟩]) (.seq (.reg [⟨(some 25), none, (.fld (.t 5) 3)⟩, ⟨(some 26), none, (.load none (.t 25))⟩, ⟨(some 27), none, (.call f_topiaryref_JoinedOf [(.t 26)])⟩, ⟨(some 28), none, (.fld (.t 5) 3)⟩, ⟨none, none, (.store 1 (.t 28) (.t 27))⟩]) (.seq (.reg [⟨(some 29), none, (.mov (.t 3))⟩, ⟨(some 30), none, (.load (some 4) (.t 5))⟩, ⟨(some 31), none, (.lits 1 4 [(.bool false), (.str []), .nil0, .nil0] [(0, (.t 30))])⟩, ⟨(some 32), none, (.app (.t 29) (.t 31) 4 72)⟩, ⟨(some 3), none, (.mov (.t 32))⟩]) (.exit 1)))) .skip)) (.seq (.reg [⟨(some 6), none, (.mov (.c .nilp))⟩]) (.seq (.reg [⟨(some 7), none, (.mov (.c (.str [])))⟩]) (.seq (.block 2 (.loop (.seq (.seq (.reg [⟨(some 33), none, (.mov (.t 4))⟩, ⟨(some 34), none, (.mov (.t 0))⟩, ⟨(some 35), none, (.len (.t 34))⟩, ⟨(some 36), none, (.bin .lss (.t 33) (.t 35))⟩, ⟨(some 37), none, (.mov (.t 36))⟩, ⟨(some 38), (some (37, true)), (.mov (.t 0))⟩, ⟨(some 39), (some (37, true)), (.mov (.t 4))⟩, ⟨(some 40), (some (37, true)), (.ixa (.t 38) (.t 39) 4)⟩, ⟨(some 41), (some (37, true)), (.fld (.t 40) 0)⟩, ⟨(some 42), (some (37, true)), (.load none (.t 41))⟩, ⟨(some 43), none, (.pick (.t 37) (.t 42) (.c (.bool false)))⟩]) (.cond (.t 43) .skip (.exit 2))) (.seq (.block 3 (.seq (.reg [⟨(some 46), none, (.mov (.t 7))⟩, ⟨(some 47), none, (.mov (.t 0))⟩, ⟨(some 48), none, (.mov (.t 4))⟩, ⟨(some 49), none, (.ixa (.t 47) (.t 48) 4)⟩, ⟨(some 50), none, (.fld (.t 49) 1)⟩, ⟨(some 51), none, (.load none (.t 50))⟩, ⟨(some 52), none, (.bin .add (.t 46) (.t 51))⟩, ⟨(some 7), none, (.mov (.t 52))⟩]) (.seq (.reg [⟨(some 53), none, (.mov (.t 6))⟩, ⟨(some 54), none, (.eqp false (.t 53) (.c .nilp))⟩, ⟨(some 55), none, (.mov (.t 54))⟩, ⟨(some 56), (some (55, true)), (.mov (.t 0))⟩, ⟨(some 57), (some (55, true)), (.mov (.t 4))⟩, ⟨(some 58), (some (55, true)), (.ixa (.t 56) (.t 57) 4)⟩, ⟨(some 59), (some (55, true)), (.fld (.t 58) 1)⟩, ⟨(some 60), (some (55, true)), (.load none (.t 59))⟩, ⟨(some 61), (some (55, true)), (.bin .neq (.t 60) (.c (.str [])))⟩, ⟨(some 62), none, (.pick (.t 55) (.t 61) (.c (.bool false)))⟩]) (.cond (.t 62) (.reg [⟨(some 63), none, (.mov (.t 0))⟩, ⟨(some 64), none, (.mov (.t 4))⟩, ⟨(some 65), none, (.ixa (.t 63) (.t 64) 4)⟩, ⟨(some 6), none, (.mov (.t 65))⟩]) .skip)))) (.reg [⟨(some 44), none, (.mov (.t 4))⟩, ⟨(some 45), none, (.bin .add (.t 44) (.c (.int .i64 1)))⟩, ⟨(some 4), none, (.mov (.t 45))⟩]))))) (.seq (.reg [⟨(some 66), none, (.mov (.t 4))⟩, ⟨(some 67), none, (.bin .sub (.t 66) (.c (.int .i64 1)))⟩, ⟨(some 4), none, (.mov (.t 67))⟩]) (.seq (.reg [⟨(some 68), none, (.mov (.t 6))⟩, ⟨(some 69), none, (.eqp true (.t 68) (.c .nilp))⟩]) (.cond (.t 69) (.seq (.reg [⟨(some 70), none, (.mov (.t 6))⟩, ⟨(some 71), none, (.nchk (.t 70))⟩, ⟨(some 72), none, (.load (some 4) (.t 71))⟩, ⟨(some 8), none, (.new [(.bool false), (.str []), .nil0, .nil0])⟩, ⟨none, none, (.store 4 (.t 8) (.t 72))⟩]) (.seq (.reg [⟨(some 73), none, (.mov (.t 7))⟩, ⟨(some 74), none, (.mov (.t 6))⟩, ⟨(some 75), none, (.nchk (.t 74))⟩, ⟨(some 76), none, (.fld (.t 75) 3)⟩, ⟨(some 77), none, (.load none (.t 76))⟩, ⟨(some 78), none, (.call f_topiaryref_JoinedOf [(.t 77)])⟩, ⟨(some 79), none, (.fld (.t 8) 1)⟩, ⟨none, none, (.store 1 (.t 79) (.t 73))⟩, ⟨(some 80), none, (.fld (.t 8) 3)⟩, ⟨none, none, (.store 1 (.t 80) (.t 78))⟩]) (.reg [⟨(some 81), none, (.mov (.t 3))⟩, ⟨(some 82), none, (.load (some 4) (.t 8))⟩, ⟨(some 83), none, (.lits 1 4 [(.bool false), (.str []), .nil0, .nil0] [(0, (.t 82))])⟩, ⟨(some 84), none, (.app (.t 81) (.t 83) 4 72)⟩, ⟨(some 3), none, (.mov (.t 84))⟩]))) .skip)))))))) (.reg [⟨(some 13), none, (.mov (.t 4))⟩, ⟨(some 14), none, (.bin .add (.t 13) (.c (.int .i64 1)))⟩, ⟨(some 4), none, (.mov (.t 14))⟩])))))) (.seq (.reg [⟨(some 85), none, (.mov (.t 3))⟩, ⟨(some 2), none, (.mov (.t 85))⟩]) (.gh (.frz (.loc 3) 2) .ret))))))

def firstA : Option Tree → AV
  | none => .nilp
  | some f => .lptr f.cs
theorem firstA_lbs (o : Option Tree) : (firstA o).lbs = [] := by cases o <;> rfl

theorem take_snoc' {α : Type} {l : List α} {i : Nat} {x : α} (h : l[i]? = some x) : l.take (i + 1) = l.take i ++ [x] := by rw [List.take_add_one, h]; rfl
theorem drop_take_snoc {α : Type} {l : List α} {i j : Nat} {x : α} (hij : i ≤ j) (h : l[j]? = some x) : (l.drop i).take (j + 1 - i) = (l.drop i).take (j - i) ++ [x] := by
  rw [show j + 1 - i = (j - i) + 1 by omega]
  exact take_snoc' (by rw [List.getElem?_drop, show i + (j - i) = j by omega]; exact h)
theorem wtS_cat : ∀ xs : List Tree, (catS xs).length ≤ wtT xs
  | [] => by simp [catS, wtT]
  | x :: r => by have := wtS_cat r; have := x.wt_eq; simp only [catS, List.flatMap_cons, List.length_append, wtT] at *; omega
theorem wtT_drop (xs : List Tree) (i : Nat) : wtT (xs.drop i) ≤ wtT xs := by
  have := wtT_app (xs.take i) (xs.drop i)
  rw [List.take_append_drop] at this; omega

theorem pJoinedOf {P : Program} {G : Nat → Option (List IV)} {f_topiaryref_JoinedOf : Nat} (hF : compF P G f_topiaryref_JoinedOf = some (86, [(none, 2)], (c_topiaryref_JoinedOf f_topiaryref_JoinedOf).bare)) (l : List Tree) (hx : wtT l ≤ B)
    (hJ : ∀ x ∈ l, PureC P G f_topiaryref_JoinedOf [.list (ivT x.kids)] (.list (ivT (joined x.kids)))) : PureC P G f_topiaryref_JoinedOf [.list (ivT l)] (.list (ivT (joined l))) := by
  refine pure_of_go hF (by simp) (by simp [lbss, AV.lbs]) (by simp [AV.lbs]) ?_
  have hl := wtT_len l
  unfold c_topiaryref_JoinedOf
  simp only [↓evs, evp, evq, evl, boxK, ↓a1_still, stillV, ↓af_still, ↓af_load, ↓af_store, ↓af_app, ↓af_new, ↓af_box, binV, AV.cells, Lb.loc.injEq, loadV, storeV, ldV, AV.stb, AV.one, IV.av1, Lb.app, Lb.fresh, reduceCtorEq, Bool.false_eq_true, ptrL, appL, fillA, chunks, ivs, AV.iv, mkE, if_false, if_true, List.not_mem_nil, forall_eq, Nat.reduceEqDiff, Nat.reduceLT, Nat.reduceLeDiff, Nat.reduceAdd, Nat.reduceMul, Int.reduceToNat, Int.reduceLE, Int.reduceLT, Int.le_refl, Int.toNat_zero, beq_self_eq_true, ivT_len]
  refine loop_row (σ := { i : Nat // i ≤ l.length ∧ (lastT false (joinA [] (l.take i)) = false ∨ ∀ x, l[i]? = some x → x.text = false) }) 3 4 (fun q => [(0, .list (ivT l)), (4, .int .i64 q.1)]) (fun q => ivT (joinA [] (l.take q.1))) (fun q => l.length - q.1) ⟨0, by simp [lastT, joinA]⟩ (fun _ => rfl) ?_ ?_
  · exact WR_mk 3 (by simp only [↓evs, evp, evq, evl, boxK, ↓a1_still, stillV, ↓af_still, ↓af_load, ↓af_store, ↓af_app, ↓af_new, ↓af_box, binV, AV.cells, Lb.loc.injEq, loadV, storeV, ldV, AV.stb, AV.one, IV.av1, Lb.app, Lb.fresh, reduceCtorEq, Bool.false_eq_true, ptrL, appL, fillA, chunks, ivs, AV.iv, mkE, if_false, if_true, List.not_mem_nil, forall_eq, Nat.reduceEqDiff, Nat.reduceLT, Nat.reduceLeDiff, Nat.reduceAdd, Nat.reduceMul, Int.reduceToNat, Int.reduceLE, Int.reduceLT, Int.le_refl, Int.toNat_zero, beq_self_eq_true]) (by repeat' constructor) rfl rfl
  · rintro ⟨i, hi, hst⟩
    have hw0 := wtT_joinA [] (l.take i)
    have hw1 := wtT_take l i
    have hw2 := wtT_len (joinA [] (l.take i))
    simp only [wtT] at hw0
    simp only [↓evs, evp, evq, evl, boxK, ↓a1_still, stillV, ↓af_still, ↓af_load, ↓af_store, ↓af_app, ↓af_new, ↓af_box, binV, AV.cells, Lb.loc.injEq, loadV, storeV, ldV, AV.stb, AV.one, IV.av1, Lb.app, Lb.fresh, reduceCtorEq, Bool.false_eq_true, ptrL, appL, fillA, chunks, ivs, AV.iv, mkE, if_false, if_true, List.not_mem_nil, forall_eq, Nat.reduceEqDiff, Nat.reduceLT, Nat.reduceLeDiff, Nat.reduceAdd, Nat.reduceMul, Int.reduceToNat, Int.reduceLE, Int.reduceLT, Int.le_refl, Int.toNat_zero, beq_self_eq_true, ivT_len]
    refine cK_b (fun h => ?_) (fun h => ?_)
    · have hlt : i < l.length := by simpa using h
      obtain ⟨x, hxi⟩ : ∃ x, l[i]? = some x := ⟨_, List.getElem?_eq_getElem hlt⟩
      have hw : IntKind.i64.wrap ((i : Int) + 1) = ((i + 1 : Nat) : Int) := wrap64 (by omega) (by unfold B at hx; omega)
      simp only [↓evs, evp, evq, evl, boxK, ↓a1_still, stillV, ↓af_still, ↓af_load, ↓af_store, ↓af_app, ↓af_new, ↓af_box, binV, AV.cells, Lb.loc.injEq, loadV, storeV, ldV, AV.stb, AV.one, IV.av1, Lb.app, Lb.fresh, reduceCtorEq, Bool.false_eq_true, ptrL, appL, fillA, chunks, ivs, AV.iv, mkE, if_false, if_true, List.not_mem_nil, forall_eq, Nat.reduceEqDiff, Nat.reduceLT, Nat.reduceLeDiff, Nat.reduceAdd, Nat.reduceMul, Int.reduceToNat, Int.reduceLE, Int.reduceLT, Int.le_refl, Int.toNat_zero, beq_self_eq_true, h, ivT_get, hxi, elszT, Tree.cells_eq, Tree.cs]
      generalize hout : joinA [] (l.take i) = out at *
      have hlen : (ivT out).length = out.length := ivT_len _
      cases ht : x.text with
      | false =>
        have hnext : joinA [] (l.take (i + 1)) = out ++ [x.jn] := by rw [take_snoc' hxi, joinA_app, hout, joinA_elem _ _ ht]
        have hivj : ivT (out ++ [x.jn]) = ivT out ++ [.agg [.bool false, .str x.s, .list (ivA x.attrs), .list (ivT (joined x.kids))]] := by
          rw [ivT_app]; simp [ivT, Tree.iv_eq, Tree.cs, x.jn_text, x.jn_s, x.jn_attrs, x.jn_kids, ht]
        simp only [↓evs, evp, evq, evl, boxK, ↓a1_still, stillV, ↓af_still, ↓af_load, ↓af_store, ↓af_app, ↓af_new, ↓af_box, binV, AV.cells, Lb.loc.injEq, loadV, storeV, ldV, AV.stb, AV.one, IV.av1, Lb.app, Lb.fresh, reduceCtorEq, Bool.false_eq_true, ptrL, appL, fillA, chunks, ivs, AV.iv, mkE, if_false, if_true, List.not_mem_nil, forall_eq, Nat.reduceEqDiff, Nat.reduceLT, Nat.reduceLeDiff, Nat.reduceAdd, Nat.reduceMul, Int.reduceToNat, Int.reduceLE, Int.reduceLT, Int.le_refl, Int.toNat_zero, beq_self_eq_true, h, ivT_get, hxi, elszT, Tree.cells_eq, Tree.cs, ht]
        refine callT_pure (hJ x (List.mem_of_getElem? hxi)) ?_
        simp only [↓evs, evp, evq, evl, boxK, ↓a1_still, stillV, ↓af_still, ↓af_load, ↓af_store, ↓af_app, ↓af_new, ↓af_box, binV, AV.cells, Lb.loc.injEq, loadV, storeV, ldV, AV.stb, AV.one, IV.av1, Lb.app, Lb.fresh, reduceCtorEq, Bool.false_eq_true, ptrL, appL, fillA, chunks, ivs, AV.iv, mkE, if_false, if_true, List.not_mem_nil, forall_eq, Nat.reduceEqDiff, Nat.reduceLT, Nat.reduceLeDiff, Nat.reduceAdd, Nat.reduceMul, Int.reduceToNat, Int.reduceLE, Int.reduceLT, Int.le_refl, Int.toNat_zero, beq_self_eq_true, ivT_len]
        rw [app_loc 4 72 32 3 (ivT out) (.agg [.bool false, .str x.s, .list (ivA x.attrs), .list (ivT (joined x.kids))]) (by simp [upd_at]) hlen rfl (by simp [IV.cells]) (by unfold B at hx; omega) (by decide) (by decide) (by simp [upd_at, Hp.none])]
        simp only [↓evs, evp, evq, evl, boxK, ↓a1_still, stillV, ↓af_still, ↓af_load, ↓af_store, ↓af_app, ↓af_new, ↓af_box, binV, AV.cells, Lb.loc.injEq, loadV, storeV, ldV, AV.stb, AV.one, IV.av1, Lb.app, Lb.fresh, reduceCtorEq, Bool.false_eq_true, ptrL, appL, fillA, chunks, ivs, AV.iv, mkE, if_false, if_true, List.not_mem_nil, forall_eq, Nat.reduceEqDiff, Nat.reduceLT, Nat.reduceLeDiff, Nat.reduceAdd, Nat.reduceMul, Int.reduceToNat, Int.reduceLE, Int.reduceLT, Int.le_refl, Int.toNat_zero, beq_self_eq_true, hw]
        refine ⟨⟨i + 1, hlt, .inl (by rw [hnext, lastT_snoc, x.jn_text, ht])⟩, by simp only; omega, ?_⟩
        refine WR_mk 32 (by simp only [↓evs, evp, evq, evl, boxK, ↓a1_still, stillV, ↓af_still, ↓af_load, ↓af_store, ↓af_app, ↓af_new, ↓af_box, binV, AV.cells, Lb.loc.injEq, loadV, storeV, ldV, AV.stb, AV.one, IV.av1, Lb.app, Lb.fresh, reduceCtorEq, Bool.false_eq_true, ptrL, appL, fillA, chunks, ivs, AV.iv, mkE, if_false, if_true, List.not_mem_nil, forall_eq, Nat.reduceEqDiff, Nat.reduceLT, Nat.reduceLeDiff, Nat.reduceAdd, Nat.reduceMul, Int.reduceToNat, Int.reduceLE, Int.reduceLT, Int.le_refl, Int.toNat_zero, beq_self_eq_true]) (by repeat' constructor) ?_ ?_
        · simp only [↓evs, evp, evq, evl, boxK, ↓a1_still, stillV, ↓af_still, ↓af_load, ↓af_store, ↓af_app, ↓af_new, ↓af_box, binV, AV.cells, Lb.loc.injEq, loadV, storeV, ldV, AV.stb, AV.one, IV.av1, Lb.app, Lb.fresh, reduceCtorEq, Bool.false_eq_true, ptrL, appL, fillA, chunks, ivs, AV.iv, mkE, if_false, if_true, List.not_mem_nil, forall_eq, Nat.reduceEqDiff, Nat.reduceLT, Nat.reduceLeDiff, Nat.reduceAdd, Nat.reduceMul, Int.reduceToNat, Int.reduceLE, Int.reduceLT, Int.le_refl, Int.toNat_zero, beq_self_eq_true, hnext, ivT_len]; simp
        · simp only [↓evs, evp, evq, evl, boxK, ↓a1_still, stillV, ↓af_still, ↓af_load, ↓af_store, ↓af_app, ↓af_new, ↓af_box, binV, AV.cells, Lb.loc.injEq, loadV, storeV, ldV, AV.stb, AV.one, IV.av1, Lb.app, Lb.fresh, reduceCtorEq, Bool.false_eq_true, ptrL, appL, fillA, chunks, ivs, AV.iv, mkE, if_false, if_true, List.not_mem_nil, forall_eq, Nat.reduceEqDiff, Nat.reduceLT, Nat.reduceLeDiff, Nat.reduceAdd, Nat.reduceMul, Int.reduceToNat, Int.reduceLE, Int.reduceLT, Int.le_refl, Int.toNat_zero, beq_self_eq_true, hnext, hivj]
      | true =>
        simp only [↓evs, evp, evq, evl, boxK, ↓a1_still, stillV, ↓af_still, ↓af_load, ↓af_store, ↓af_app, ↓af_new, ↓af_box, binV, AV.cells, Lb.loc.injEq, loadV, storeV, ldV, AV.stb, AV.one, IV.av1, Lb.app, Lb.fresh, reduceCtorEq, Bool.false_eq_true, ptrL, appL, fillA, chunks, ivs, AV.iv, mkE, if_false, if_true, List.not_mem_nil, forall_eq, Nat.reduceEqDiff, Nat.reduceLT, Nat.reduceLeDiff, Nat.reduceAdd, Nat.reduceMul, Int.reduceToNat, Int.reduceLE, Int.reduceLT, Int.le_refl, Int.toNat_zero, beq_self_eq_true]
        have hlast : lastT false out = false := by
          rcases hst with hst | hst
          · exact hst
          · have := hst x hxi; rw [ht] at this; cases this
        refine loop_row (σ := { j : Nat // i ≤ j ∧ j ≤ l.length ∧ ∀ y ∈ (l.drop i).take (j - i), y.text = true }) 3 4 (fun q => [(0, .list (ivT l)), (4, .int .i64 q.1), (6, firstA (firstS ((l.drop i).take (q.1 - i)))), (7, .str (catS ((l.drop i).take (q.1 - i))))]) (fun _ => ivT out) (fun q => l.length - q.1) ⟨i, by simp [hi]⟩ (fun q => by simp [lbss, AV.lbs, firstA_lbs]) ?_ ?_
        · refine WR_mk 3 (by simp only [↓evs, evp, evq, evl, boxK, ↓a1_still, stillV, ↓af_still, ↓af_load, ↓af_store, ↓af_app, ↓af_new, ↓af_box, binV, AV.cells, Lb.loc.injEq, loadV, storeV, ldV, AV.stb, AV.one, IV.av1, Lb.app, Lb.fresh, reduceCtorEq, Bool.false_eq_true, ptrL, appL, fillA, chunks, ivs, AV.iv, mkE, if_false, if_true, List.not_mem_nil, forall_eq, Nat.reduceEqDiff, Nat.reduceLT, Nat.reduceLeDiff, Nat.reduceAdd, Nat.reduceMul, Int.reduceToNat, Int.reduceLE, Int.reduceLT, Int.le_refl, Int.toNat_zero, beq_self_eq_true]) ?_ rfl rfl
          simp only [Nat.sub_self, List.take_zero]
          repeat' constructor
        · rintro ⟨j, hij, hj, hall⟩
          simp only [↓evs, evp, evq, evl, boxK, ↓a1_still, stillV, ↓af_still, ↓af_load, ↓af_store, ↓af_app, ↓af_new, ↓af_box, binV, AV.cells, Lb.loc.injEq, loadV, storeV, ldV, AV.stb, AV.one, IV.av1, Lb.app, Lb.fresh, reduceCtorEq, Bool.false_eq_true, ptrL, appL, fillA, chunks, ivs, AV.iv, mkE, if_false, if_true, List.not_mem_nil, forall_eq, Nat.reduceEqDiff, Nat.reduceLT, Nat.reduceLeDiff, Nat.reduceAdd, Nat.reduceMul, Int.reduceToNat, Int.reduceLE, Int.reduceLT, Int.le_refl, Int.toNat_zero, beq_self_eq_true, ivT_len]
          by_cases hgo : ∃ y, l[j]? = some y ∧ y.text = true
          · obtain ⟨y, hyj, hyt⟩ := hgo
            have hjl : j < l.length := (List.getElem?_eq_some_iff.1 hyj).1
            have hwj : IntKind.i64.wrap ((j : Int) + 1) = ((j + 1 : Nat) : Int) := wrap64 (by omega) (by unfold B at hx; omega)
            rw [show decide ((j : Int) < (l.length : Int)) = true by simpa using hjl]
            have hadd : (catS ((l.drop i).take (j - i))).length + y.s.length ≤ 9223372036854775807 := by
              have h1 := wtS_cat ((l.drop i).take (j - i))
              have h2 := wtT_take (l.drop i) (j - i)
              have h3 := wtT_drop l i
              have h4 := wtT_get _ _ _ hyj
              have h5 := y.wt_eq
              unfold B at hx; omega
            have hcat : catS ((l.drop i).take (j + 1 - i)) = catS ((l.drop i).take (j - i)) ++ y.s := by rw [drop_take_snoc hij hyj, catS_snoc]
            have hfst := firstS_snoc ((l.drop i).take (j - i)) y
            rw [← drop_take_snoc hij hyj] at hfst
            have hall' : ∀ z ∈ (l.drop i).take (j + 1 - i), z.text = true := by
              intro z hz
              rw [drop_take_snoc hij hyj] at hz
              simp only [List.mem_append, List.mem_singleton] at hz
              rcases hz with hz | rfl
              · exact hall z hz
              · exact hyt
            simp only [↓evs, evp, evq, evl, boxK, ↓a1_still, stillV, ↓af_still, ↓af_load, ↓af_store, ↓af_app, ↓af_new, ↓af_box, binV, AV.cells, Lb.loc.injEq, loadV, storeV, ldV, AV.stb, AV.one, IV.av1, Lb.app, Lb.fresh, reduceCtorEq, Bool.false_eq_true, ptrL, appL, fillA, chunks, ivs, AV.iv, mkE, if_false, if_true, List.not_mem_nil, forall_eq, Nat.reduceEqDiff, Nat.reduceLT, Nat.reduceLeDiff, Nat.reduceAdd, Nat.reduceMul, Int.reduceToNat, Int.reduceLE, Int.reduceLT, Int.le_refl, Int.toNat_zero, beq_self_eq_true, ivT_get, hyj, elszT, Tree.cells_eq, Tree.cs, hyt, hadd, hwj]
            cases hf : firstS ((l.drop i).take (j - i)) with
            | some f =>
              simp only [↓evs, evp, evq, evl, boxK, ↓a1_still, stillV, ↓af_still, ↓af_load, ↓af_store, ↓af_app, ↓af_new, ↓af_box, binV, AV.cells, Lb.loc.injEq, loadV, storeV, ldV, AV.stb, AV.one, IV.av1, Lb.app, Lb.fresh, reduceCtorEq, Bool.false_eq_true, ptrL, appL, fillA, chunks, ivs, AV.iv, mkE, if_false, if_true, List.not_mem_nil, forall_eq, Nat.reduceEqDiff, Nat.reduceLT, Nat.reduceLeDiff, Nat.reduceAdd, Nat.reduceMul, Int.reduceToNat, Int.reduceLE, Int.reduceLT, Int.le_refl, Int.toNat_zero, beq_self_eq_true, firstA, eqP, ivT_get, hyj, elszT, Tree.cells_eq, Tree.cs, hyt, hadd, hwj]
              refine ⟨⟨j + 1, by omega, hjl, hall'⟩, by simp only; omega, WR_mk 3 (by simp only [↓evs, evp, evq, evl, boxK, ↓a1_still, stillV, ↓af_still, ↓af_load, ↓af_store, ↓af_app, ↓af_new, ↓af_box, binV, AV.cells, Lb.loc.injEq, loadV, storeV, ldV, AV.stb, AV.one, IV.av1, Lb.app, Lb.fresh, reduceCtorEq, Bool.false_eq_true, ptrL, appL, fillA, chunks, ivs, AV.iv, mkE, if_false, if_true, List.not_mem_nil, forall_eq, Nat.reduceEqDiff, Nat.reduceLT, Nat.reduceLeDiff, Nat.reduceAdd, Nat.reduceMul, Int.reduceToNat, Int.reduceLE, Int.reduceLT, Int.le_refl, Int.toNat_zero, beq_self_eq_true]) ?_ rfl rfl⟩
              simp only [hcat, hfst, hf, Option.some_or]
              repeat' constructor
            | none =>
              simp only [↓evs, evp, evq, evl, boxK, ↓a1_still, stillV, ↓af_still, ↓af_load, ↓af_store, ↓af_app, ↓af_new, ↓af_box, binV, AV.cells, Lb.loc.injEq, loadV, storeV, ldV, AV.stb, AV.one, IV.av1, Lb.app, Lb.fresh, reduceCtorEq, Bool.false_eq_true, ptrL, appL, fillA, chunks, ivs, AV.iv, mkE, if_false, if_true, List.not_mem_nil, forall_eq, Nat.reduceEqDiff, Nat.reduceLT, Nat.reduceLeDiff, Nat.reduceAdd, Nat.reduceMul, Int.reduceToNat, Int.reduceLE, Int.reduceLT, Int.le_refl, Int.toNat_zero, beq_self_eq_true, firstA, eqP, ivT_get, hyj, elszT, Tree.cells_eq, Tree.cs, hyt, hadd, hwj]
              cases hs : (y.s == []) with
              | true =>
                simp only [↓evs, evp, evq, evl, boxK, ↓a1_still, stillV, ↓af_still, ↓af_load, ↓af_store, ↓af_app, ↓af_new, ↓af_box, binV, AV.cells, Lb.loc.injEq, loadV, storeV, ldV, AV.stb, AV.one, IV.av1, Lb.app, Lb.fresh, reduceCtorEq, Bool.false_eq_true, ptrL, appL, fillA, chunks, ivs, AV.iv, mkE, if_false, if_true, List.not_mem_nil, forall_eq, Nat.reduceEqDiff, Nat.reduceLT, Nat.reduceLeDiff, Nat.reduceAdd, Nat.reduceMul, Int.reduceToNat, Int.reduceLE, Int.reduceLT, Int.le_refl, Int.toNat_zero, beq_self_eq_true, firstA, eqP, ivT_get, hyj, elszT, Tree.cells_eq, Tree.cs, hyt, hadd, hwj]
                refine ⟨⟨j + 1, by omega, hjl, hall'⟩, by simp only; omega, WR_mk 3 (by simp only [↓evs, evp, evq, evl, boxK, ↓a1_still, stillV, ↓af_still, ↓af_load, ↓af_store, ↓af_app, ↓af_new, ↓af_box, binV, AV.cells, Lb.loc.injEq, loadV, storeV, ldV, AV.stb, AV.one, IV.av1, Lb.app, Lb.fresh, reduceCtorEq, Bool.false_eq_true, ptrL, appL, fillA, chunks, ivs, AV.iv, mkE, if_false, if_true, List.not_mem_nil, forall_eq, Nat.reduceEqDiff, Nat.reduceLT, Nat.reduceLeDiff, Nat.reduceAdd, Nat.reduceMul, Int.reduceToNat, Int.reduceLE, Int.reduceLT, Int.le_refl, Int.toNat_zero, beq_self_eq_true]) ?_ rfl rfl⟩
                simp only [hcat, hfst, hf, hs, Option.none_or, if_true, firstA]
                repeat' constructor
              | false =>
                simp only [↓evs, evp, evq, evl, boxK, ↓a1_still, stillV, ↓af_still, ↓af_load, ↓af_store, ↓af_app, ↓af_new, ↓af_box, binV, AV.cells, Lb.loc.injEq, loadV, storeV, ldV, AV.stb, AV.one, IV.av1, Lb.app, Lb.fresh, reduceCtorEq, Bool.false_eq_true, ptrL, appL, fillA, chunks, ivs, AV.iv, mkE, if_false, if_true, List.not_mem_nil, forall_eq, Nat.reduceEqDiff, Nat.reduceLT, Nat.reduceLeDiff, Nat.reduceAdd, Nat.reduceMul, Int.reduceToNat, Int.reduceLE, Int.reduceLT, Int.le_refl, Int.toNat_zero, beq_self_eq_true, firstA, eqP, ivT_get, hyj, elszT, Tree.cells_eq, Tree.cs, hyt, hadd, hwj]
                refine ⟨⟨j + 1, by omega, hjl, hall'⟩, by simp only; omega, WR_mk 3 (by simp only [↓evs, evp, evq, evl, boxK, ↓a1_still, stillV, ↓af_still, ↓af_load, ↓af_store, ↓af_app, ↓af_new, ↓af_box, binV, AV.cells, Lb.loc.injEq, loadV, storeV, ldV, AV.stb, AV.one, IV.av1, Lb.app, Lb.fresh, reduceCtorEq, Bool.false_eq_true, ptrL, appL, fillA, chunks, ivs, AV.iv, mkE, if_false, if_true, List.not_mem_nil, forall_eq, Nat.reduceEqDiff, Nat.reduceLT, Nat.reduceLeDiff, Nat.reduceAdd, Nat.reduceMul, Int.reduceToNat, Int.reduceLE, Int.reduceLT, Int.le_refl, Int.toNat_zero, beq_self_eq_true]) ?_ rfl rfl⟩
                simp only [hcat, hfst, hf, hs, Option.none_or, Bool.false_eq_true, if_false, firstA]
                refine ⟨rfl, rfl, ?_, rfl, trivial⟩
                rw [← hyt]; rfl
          · have hstop : ∀ y, l[j]? = some y → y.text = false := fun y hy => by
              cases hyt : y.text with
              | false => rfl
              | true => exact absurd ⟨y, hy, hyt⟩ hgo
            have hne : i ≠ j := by rintro rfl; have := hstop x hxi; rw [ht] at this; cases this
            have hw1 : IntKind.i64.wrap ((j : Int) - 1) = (j : Int) - 1 := wrap64 (by omega) (by unfold B at hx; omega)
            have hw2 : IntKind.i64.wrap ((j : Int) - 1 + 1) = (j : Int) := by rw [wrap64 (by omega) (by unfold B at hx; omega)]; omega
            have htk : l.take j = l.take i ++ (l.drop i).take (j - i) := by
              conv => lhs; rw [show j = i + (j - i) by omega, List.take_add]
            have hrun := joinA_run ((l.drop i).take (j - i)) out hall hlast
            have hjn : joinA [] (l.take j) = joinA out ((l.drop i).take (j - i)) := by rw [htk, joinA_app, hout]
            rw [hrun] at hjn
            have hwj := wtT_joinA [] (l.take j)
            have hwj1 := wtT_take l j
            have hwj2 := wtT_len (joinA [] (l.take j))
            simp only [wtT] at hwj
            by_cases hjl : j < l.length
            · obtain ⟨y, hyj⟩ : ∃ y, l[j]? = some y := ⟨_, List.getElem?_eq_getElem hjl⟩
              rw [show decide ((j : Int) < (l.length : Int)) = true by simpa using hjl]
              have hyt := hstop y hyj
              simp only [↓evs, evp, evq, evl, boxK, ↓a1_still, stillV, ↓af_still, ↓af_load, ↓af_store, ↓af_app, ↓af_new, ↓af_box, binV, AV.cells, Lb.loc.injEq, loadV, storeV, ldV, AV.stb, AV.one, IV.av1, Lb.app, Lb.fresh, reduceCtorEq, Bool.false_eq_true, ptrL, appL, fillA, chunks, ivs, AV.iv, mkE, if_false, if_true, List.not_mem_nil, forall_eq, Nat.reduceEqDiff, Nat.reduceLT, Nat.reduceLeDiff, Nat.reduceAdd, Nat.reduceMul, Int.reduceToNat, Int.reduceLE, Int.reduceLT, Int.le_refl, Int.toNat_zero, beq_self_eq_true, ivT_get, hyj, elszT, Tree.cells_eq, Tree.cs, hyt, hw1, hw2]
              cases hf : firstS ((l.drop i).take (j - i)) with
              | none =>
                simp only [↓evs, evp, evq, evl, boxK, ↓a1_still, stillV, ↓af_still, ↓af_load, ↓af_store, ↓af_app, ↓af_new, ↓af_box, binV, AV.cells, Lb.loc.injEq, loadV, storeV, ldV, AV.stb, AV.one, IV.av1, Lb.app, Lb.fresh, reduceCtorEq, Bool.false_eq_true, ptrL, appL, fillA, chunks, ivs, AV.iv, mkE, if_false, if_true, List.not_mem_nil, forall_eq, Nat.reduceEqDiff, Nat.reduceLT, Nat.reduceLeDiff, Nat.reduceAdd, Nat.reduceMul, Int.reduceToNat, Int.reduceLE, Int.reduceLT, Int.le_refl, Int.toNat_zero, beq_self_eq_true, firstA, eqP, hw1, hw2]
                rw [hf] at hjn
                refine ⟨⟨j, hj, .inr hstop⟩, by simp only; omega, WR_mk 3 (by simp only [↓evs, evp, evq, evl, boxK, ↓a1_still, stillV, ↓af_still, ↓af_load, ↓af_store, ↓af_app, ↓af_new, ↓af_box, binV, AV.cells, Lb.loc.injEq, loadV, storeV, ldV, AV.stb, AV.one, IV.av1, Lb.app, Lb.fresh, reduceCtorEq, Bool.false_eq_true, ptrL, appL, fillA, chunks, ivs, AV.iv, mkE, if_false, if_true, List.not_mem_nil, forall_eq, Nat.reduceEqDiff, Nat.reduceLT, Nat.reduceLeDiff, Nat.reduceAdd, Nat.reduceMul, Int.reduceToNat, Int.reduceLE, Int.reduceLT, Int.le_refl, Int.toNat_zero, beq_self_eq_true]) (by repeat' constructor) ?_ ?_⟩
                · simp only [↓evs, evp, evq, evl, boxK, ↓a1_still, stillV, ↓af_still, ↓af_load, ↓af_store, ↓af_app, ↓af_new, ↓af_box, binV, AV.cells, Lb.loc.injEq, loadV, storeV, ldV, AV.stb, AV.one, IV.av1, Lb.app, Lb.fresh, reduceCtorEq, Bool.false_eq_true, ptrL, appL, fillA, chunks, ivs, AV.iv, mkE, if_false, if_true, List.not_mem_nil, forall_eq, Nat.reduceEqDiff, Nat.reduceLT, Nat.reduceLeDiff, Nat.reduceAdd, Nat.reduceMul, Int.reduceToNat, Int.reduceLE, Int.reduceLT, Int.le_refl, Int.toNat_zero, beq_self_eq_true, hjn, ivT_len]
                · simp only [↓evs, evp, evq, evl, boxK, ↓a1_still, stillV, ↓af_still, ↓af_load, ↓af_store, ↓af_app, ↓af_new, ↓af_box, binV, AV.cells, Lb.loc.injEq, loadV, storeV, ldV, AV.stb, AV.one, IV.av1, Lb.app, Lb.fresh, reduceCtorEq, Bool.false_eq_true, ptrL, appL, fillA, chunks, ivs, AV.iv, mkE, if_false, if_true, List.not_mem_nil, forall_eq, Nat.reduceEqDiff, Nat.reduceLT, Nat.reduceLeDiff, Nat.reduceAdd, Nat.reduceMul, Int.reduceToNat, Int.reduceLE, Int.reduceLT, Int.le_refl, Int.toNat_zero, beq_self_eq_true, hjn]
              | some f =>
                rw [hf] at hjn
                simp only at hjn
                have hmem : f ∈ (l.drop i).take (j - i) := List.mem_of_find?_eq_some hf
                have hft := hall f hmem
                have hfl : f ∈ l := List.mem_of_mem_drop (List.mem_of_mem_take hmem)
                rw [hjn] at hwj2
                simp only [List.length_append, List.length_cons, List.length_nil] at hwj2
                rw [hjn] at hwj
                have hivj : ivT (out ++ [f.jn.withS (catS ((l.drop i).take (j - i)))]) = ivT out ++ [.agg [.bool true, .str (catS ((l.drop i).take (j - i))), .list (ivA f.attrs), .list (ivT (joined f.kids))]] := by
                  rw [ivT_app]; simp only [ivT, Tree.iv_eq, Tree.cs, withS_s, withS_text, f.jn_text, hft]; rw [← f.jn_attrs, ← f.jn_kids]; rfl
                simp only [↓evs, evp, evq, evl, boxK, ↓a1_still, stillV, ↓af_still, ↓af_load, ↓af_store, ↓af_app, ↓af_new, ↓af_box, binV, AV.cells, Lb.loc.injEq, loadV, storeV, ldV, AV.stb, AV.one, IV.av1, Lb.app, Lb.fresh, reduceCtorEq, Bool.false_eq_true, ptrL, appL, fillA, chunks, ivs, AV.iv, mkE, if_false, if_true, List.not_mem_nil, forall_eq, Nat.reduceEqDiff, Nat.reduceLT, Nat.reduceLeDiff, Nat.reduceAdd, Nat.reduceMul, Int.reduceToNat, Int.reduceLE, Int.reduceLT, Int.le_refl, Int.toNat_zero, beq_self_eq_true, firstA, eqP, hw1, hw2, Tree.cs, hft]
                refine callT_pure (hJ f hfl) ?_
                simp only [↓evs, evp, evq, evl, boxK, ↓a1_still, stillV, ↓af_still, ↓af_load, ↓af_store, ↓af_app, ↓af_new, ↓af_box, binV, AV.cells, Lb.loc.injEq, loadV, storeV, ldV, AV.stb, AV.one, IV.av1, Lb.app, Lb.fresh, reduceCtorEq, Bool.false_eq_true, ptrL, appL, fillA, chunks, ivs, AV.iv, mkE, if_false, if_true, List.not_mem_nil, forall_eq, Nat.reduceEqDiff, Nat.reduceLT, Nat.reduceLeDiff, Nat.reduceAdd, Nat.reduceMul, Int.reduceToNat, Int.reduceLE, Int.reduceLT, Int.le_refl, Int.toNat_zero, beq_self_eq_true, hw1, hw2, ivT_len]
                rw [app_loc 4 72 84 3 (ivT out) (.agg [.bool true, .str (catS ((l.drop i).take (j - i))), .list (ivA f.attrs), .list (ivT (joined f.kids))]) (by simp [upd_at]) hlen rfl (by simp [IV.cells]) (by unfold B at hx; omega) (by decide) (by decide) (by simp [upd_at, Hp.none])]
                simp only [↓evs, evp, evq, evl, boxK, ↓a1_still, stillV, ↓af_still, ↓af_load, ↓af_store, ↓af_app, ↓af_new, ↓af_box, binV, AV.cells, Lb.loc.injEq, loadV, storeV, ldV, AV.stb, AV.one, IV.av1, Lb.app, Lb.fresh, reduceCtorEq, Bool.false_eq_true, ptrL, appL, fillA, chunks, ivs, AV.iv, mkE, if_false, if_true, List.not_mem_nil, forall_eq, Nat.reduceEqDiff, Nat.reduceLT, Nat.reduceLeDiff, Nat.reduceAdd, Nat.reduceMul, Int.reduceToNat, Int.reduceLE, Int.reduceLT, Int.le_refl, Int.toNat_zero, beq_self_eq_true, hw1, hw2]
                refine ⟨⟨j, hj, .inr hstop⟩, by simp only; omega, WR_mk 84 (by simp only [↓evs, evp, evq, evl, boxK, ↓a1_still, stillV, ↓af_still, ↓af_load, ↓af_store, ↓af_app, ↓af_new, ↓af_box, binV, AV.cells, Lb.loc.injEq, loadV, storeV, ldV, AV.stb, AV.one, IV.av1, Lb.app, Lb.fresh, reduceCtorEq, Bool.false_eq_true, ptrL, appL, fillA, chunks, ivs, AV.iv, mkE, if_false, if_true, List.not_mem_nil, forall_eq, Nat.reduceEqDiff, Nat.reduceLT, Nat.reduceLeDiff, Nat.reduceAdd, Nat.reduceMul, Int.reduceToNat, Int.reduceLE, Int.reduceLT, Int.le_refl, Int.toNat_zero, beq_self_eq_true]) (by repeat' constructor) ?_ ?_⟩
                · simp only [↓evs, evp, evq, evl, boxK, ↓a1_still, stillV, ↓af_still, ↓af_load, ↓af_store, ↓af_app, ↓af_new, ↓af_box, binV, AV.cells, Lb.loc.injEq, loadV, storeV, ldV, AV.stb, AV.one, IV.av1, Lb.app, Lb.fresh, reduceCtorEq, Bool.false_eq_true, ptrL, appL, fillA, chunks, ivs, AV.iv, mkE, if_false, if_true, List.not_mem_nil, forall_eq, Nat.reduceEqDiff, Nat.reduceLT, Nat.reduceLeDiff, Nat.reduceAdd, Nat.reduceMul, Int.reduceToNat, Int.reduceLE, Int.reduceLT, Int.le_refl, Int.toNat_zero, beq_self_eq_true, hjn, ivT_len]; simp
                · simp only [↓evs, evp, evq, evl, boxK, ↓a1_still, stillV, ↓af_still, ↓af_load, ↓af_store, ↓af_app, ↓af_new, ↓af_box, binV, AV.cells, Lb.loc.injEq, loadV, storeV, ldV, AV.stb, AV.one, IV.av1, Lb.app, Lb.fresh, reduceCtorEq, Bool.false_eq_true, ptrL, appL, fillA, chunks, ivs, AV.iv, mkE, if_false, if_true, List.not_mem_nil, forall_eq, Nat.reduceEqDiff, Nat.reduceLT, Nat.reduceLeDiff, Nat.reduceAdd, Nat.reduceMul, Int.reduceToNat, Int.reduceLE, Int.reduceLT, Int.le_refl, Int.toNat_zero, beq_self_eq_true, hjn, hivj]
            · rw [show decide ((j : Int) < (l.length : Int)) = false by simpa using hjl]
              simp only [↓evs, evp, evq, evl, boxK, ↓a1_still, stillV, ↓af_still, ↓af_load, ↓af_store, ↓af_app, ↓af_new, ↓af_box, binV, AV.cells, Lb.loc.injEq, loadV, storeV, ldV, AV.stb, AV.one, IV.av1, Lb.app, Lb.fresh, reduceCtorEq, Bool.false_eq_true, ptrL, appL, fillA, chunks, ivs, AV.iv, mkE, if_false, if_true, List.not_mem_nil, forall_eq, Nat.reduceEqDiff, Nat.reduceLT, Nat.reduceLeDiff, Nat.reduceAdd, Nat.reduceMul, Int.reduceToNat, Int.reduceLE, Int.reduceLT, Int.le_refl, Int.toNat_zero, beq_self_eq_true, hw1, hw2]
              cases hf : firstS ((l.drop i).take (j - i)) with
              | none =>
                simp only [↓evs, evp, evq, evl, boxK, ↓a1_still, stillV, ↓af_still, ↓af_load, ↓af_store, ↓af_app, ↓af_new, ↓af_box, binV, AV.cells, Lb.loc.injEq, loadV, storeV, ldV, AV.stb, AV.one, IV.av1, Lb.app, Lb.fresh, reduceCtorEq, Bool.false_eq_true, ptrL, appL, fillA, chunks, ivs, AV.iv, mkE, if_false, if_true, List.not_mem_nil, forall_eq, Nat.reduceEqDiff, Nat.reduceLT, Nat.reduceLeDiff, Nat.reduceAdd, Nat.reduceMul, Int.reduceToNat, Int.reduceLE, Int.reduceLT, Int.le_refl, Int.toNat_zero, beq_self_eq_true, firstA, eqP, hw1, hw2]
                rw [hf] at hjn
                refine ⟨⟨j, hj, .inr hstop⟩, by simp only; omega, WR_mk 3 (by simp only [↓evs, evp, evq, evl, boxK, ↓a1_still, stillV, ↓af_still, ↓af_load, ↓af_store, ↓af_app, ↓af_new, ↓af_box, binV, AV.cells, Lb.loc.injEq, loadV, storeV, ldV, AV.stb, AV.one, IV.av1, Lb.app, Lb.fresh, reduceCtorEq, Bool.false_eq_true, ptrL, appL, fillA, chunks, ivs, AV.iv, mkE, if_false, if_true, List.not_mem_nil, forall_eq, Nat.reduceEqDiff, Nat.reduceLT, Nat.reduceLeDiff, Nat.reduceAdd, Nat.reduceMul, Int.reduceToNat, Int.reduceLE, Int.reduceLT, Int.le_refl, Int.toNat_zero, beq_self_eq_true]) (by repeat' constructor) ?_ ?_⟩
                · simp only [↓evs, evp, evq, evl, boxK, ↓a1_still, stillV, ↓af_still, ↓af_load, ↓af_store, ↓af_app, ↓af_new, ↓af_box, binV, AV.cells, Lb.loc.injEq, loadV, storeV, ldV, AV.stb, AV.one, IV.av1, Lb.app, Lb.fresh, reduceCtorEq, Bool.false_eq_true, ptrL, appL, fillA, chunks, ivs, AV.iv, mkE, if_false, if_true, List.not_mem_nil, forall_eq, Nat.reduceEqDiff, Nat.reduceLT, Nat.reduceLeDiff, Nat.reduceAdd, Nat.reduceMul, Int.reduceToNat, Int.reduceLE, Int.reduceLT, Int.le_refl, Int.toNat_zero, beq_self_eq_true, hjn, ivT_len]
                · simp only [↓evs, evp, evq, evl, boxK, ↓a1_still, stillV, ↓af_still, ↓af_load, ↓af_store, ↓af_app, ↓af_new, ↓af_box, binV, AV.cells, Lb.loc.injEq, loadV, storeV, ldV, AV.stb, AV.one, IV.av1, Lb.app, Lb.fresh, reduceCtorEq, Bool.false_eq_true, ptrL, appL, fillA, chunks, ivs, AV.iv, mkE, if_false, if_true, List.not_mem_nil, forall_eq, Nat.reduceEqDiff, Nat.reduceLT, Nat.reduceLeDiff, Nat.reduceAdd, Nat.reduceMul, Int.reduceToNat, Int.reduceLE, Int.reduceLT, Int.le_refl, Int.toNat_zero, beq_self_eq_true, hjn]
              | some f =>
                rw [hf] at hjn
                simp only at hjn
                have hmem : f ∈ (l.drop i).take (j - i) := List.mem_of_find?_eq_some hf
                have hft := hall f hmem
                have hfl : f ∈ l := List.mem_of_mem_drop (List.mem_of_mem_take hmem)
                rw [hjn] at hwj2
                simp only [List.length_append, List.length_cons, List.length_nil] at hwj2
                rw [hjn] at hwj
                have hivj : ivT (out ++ [f.jn.withS (catS ((l.drop i).take (j - i)))]) = ivT out ++ [.agg [.bool true, .str (catS ((l.drop i).take (j - i))), .list (ivA f.attrs), .list (ivT (joined f.kids))]] := by
                  rw [ivT_app]; simp only [ivT, Tree.iv_eq, Tree.cs, withS_s, withS_text, f.jn_text, hft]; rw [← f.jn_attrs, ← f.jn_kids]; rfl
                simp only [↓evs, evp, evq, evl, boxK, ↓a1_still, stillV, ↓af_still, ↓af_load, ↓af_store, ↓af_app, ↓af_new, ↓af_box, binV, AV.cells, Lb.loc.injEq, loadV, storeV, ldV, AV.stb, AV.one, IV.av1, Lb.app, Lb.fresh, reduceCtorEq, Bool.false_eq_true, ptrL, appL, fillA, chunks, ivs, AV.iv, mkE, if_false, if_true, List.not_mem_nil, forall_eq, Nat.reduceEqDiff, Nat.reduceLT, Nat.reduceLeDiff, Nat.reduceAdd, Nat.reduceMul, Int.reduceToNat, Int.reduceLE, Int.reduceLT, Int.le_refl, Int.toNat_zero, beq_self_eq_true, firstA, eqP, hw1, hw2, Tree.cs, hft]
                refine callT_pure (hJ f hfl) ?_
                simp only [↓evs, evp, evq, evl, boxK, ↓a1_still, stillV, ↓af_still, ↓af_load, ↓af_store, ↓af_app, ↓af_new, ↓af_box, binV, AV.cells, Lb.loc.injEq, loadV, storeV, ldV, AV.stb, AV.one, IV.av1, Lb.app, Lb.fresh, reduceCtorEq, Bool.false_eq_true, ptrL, appL, fillA, chunks, ivs, AV.iv, mkE, if_false, if_true, List.not_mem_nil, forall_eq, Nat.reduceEqDiff, Nat.reduceLT, Nat.reduceLeDiff, Nat.reduceAdd, Nat.reduceMul, Int.reduceToNat, Int.reduceLE, Int.reduceLT, Int.le_refl, Int.toNat_zero, beq_self_eq_true, hw1, hw2, ivT_len]
                rw [app_loc 4 72 84 3 (ivT out) (.agg [.bool true, .str (catS ((l.drop i).take (j - i))), .list (ivA f.attrs), .list (ivT (joined f.kids))]) (by simp [upd_at]) hlen rfl (by simp [IV.cells]) (by unfold B at hx; omega) (by decide) (by decide) (by simp [upd_at, Hp.none])]
                simp only [↓evs, evp, evq, evl, boxK, ↓a1_still, stillV, ↓af_still, ↓af_load, ↓af_store, ↓af_app, ↓af_new, ↓af_box, binV, AV.cells, Lb.loc.injEq, loadV, storeV, ldV, AV.stb, AV.one, IV.av1, Lb.app, Lb.fresh, reduceCtorEq, Bool.false_eq_true, ptrL, appL, fillA, chunks, ivs, AV.iv, mkE, if_false, if_true, List.not_mem_nil, forall_eq, Nat.reduceEqDiff, Nat.reduceLT, Nat.reduceLeDiff, Nat.reduceAdd, Nat.reduceMul, Int.reduceToNat, Int.reduceLE, Int.reduceLT, Int.le_refl, Int.toNat_zero, beq_self_eq_true, hw1, hw2]
                refine ⟨⟨j, hj, .inr hstop⟩, by simp only; omega, WR_mk 84 (by simp only [↓evs, evp, evq, evl, boxK, ↓a1_still, stillV, ↓af_still, ↓af_load, ↓af_store, ↓af_app, ↓af_new, ↓af_box, binV, AV.cells, Lb.loc.injEq, loadV, storeV, ldV, AV.stb, AV.one, IV.av1, Lb.app, Lb.fresh, reduceCtorEq, Bool.false_eq_true, ptrL, appL, fillA, chunks, ivs, AV.iv, mkE, if_false, if_true, List.not_mem_nil, forall_eq, Nat.reduceEqDiff, Nat.reduceLT, Nat.reduceLeDiff, Nat.reduceAdd, Nat.reduceMul, Int.reduceToNat, Int.reduceLE, Int.reduceLT, Int.le_refl, Int.toNat_zero, beq_self_eq_true]) (by repeat' constructor) ?_ ?_⟩
                · simp only [↓evs, evp, evq, evl, boxK, ↓a1_still, stillV, ↓af_still, ↓af_load, ↓af_store, ↓af_app, ↓af_new, ↓af_box, binV, AV.cells, Lb.loc.injEq, loadV, storeV, ldV, AV.stb, AV.one, IV.av1, Lb.app, Lb.fresh, reduceCtorEq, Bool.false_eq_true, ptrL, appL, fillA, chunks, ivs, AV.iv, mkE, if_false, if_true, List.not_mem_nil, forall_eq, Nat.reduceEqDiff, Nat.reduceLT, Nat.reduceLeDiff, Nat.reduceAdd, Nat.reduceMul, Int.reduceToNat, Int.reduceLE, Int.reduceLT, Int.le_refl, Int.toNat_zero, beq_self_eq_true, hjn, ivT_len]; simp
                · simp only [↓evs, evp, evq, evl, boxK, ↓a1_still, stillV, ↓af_still, ↓af_load, ↓af_store, ↓af_app, ↓af_new, ↓af_box, binV, AV.cells, Lb.loc.injEq, loadV, storeV, ldV, AV.stb, AV.one, IV.av1, Lb.app, Lb.fresh, reduceCtorEq, Bool.false_eq_true, ptrL, appL, fillA, chunks, ivs, AV.iv, mkE, if_false, if_true, List.not_mem_nil, forall_eq, Nat.reduceEqDiff, Nat.reduceLT, Nat.reduceLeDiff, Nat.reduceAdd, Nat.reduceMul, Int.reduceToNat, Int.reduceLE, Int.reduceLT, Int.le_refl, Int.toNat_zero, beq_self_eq_true, hjn, hivj]
    · have hil : i = l.length := by simp at h; omega
      subst hil
      simp only [↓evs, evp, evq, evl, boxK, ↓a1_still, stillV, ↓af_still, ↓af_load, ↓af_store, ↓af_app, ↓af_new, ↓af_box, binV, AV.cells, Lb.loc.injEq, loadV, storeV, ldV, AV.stb, AV.one, IV.av1, Lb.app, Lb.fresh, reduceCtorEq, Bool.false_eq_true, ptrL, appL, fillA, chunks, ivs, AV.iv, mkE, if_false, if_true, List.not_mem_nil, forall_eq, Nat.reduceEqDiff, Nat.reduceLT, Nat.reduceLeDiff, Nat.reduceAdd, Nat.reduceMul, Int.reduceToNat, Int.reduceLE, Int.reduceLT, Int.le_refl, Int.toNat_zero, beq_self_eq_true, h]
      rw [List.take_length]
      refine ⟨4, ivT (joinA [] l), 0, _, rfl, rfl, by rw [ivT_len]; omega, flatT _, ?_⟩
      simp only [joined, List.take_length, List.drop_zero, ivT_len]
      congr 1
      exact List.take_of_length_le (by rw [ivT_len]; exact Nat.le_refl _)

end Go.Am

/- Trees: the contracts, for all trees. -/
namespace Go.Am
open Go Go.RowKit

theorem byWt {M : List Tree → Prop} (step : ∀ l, (∀ x ∈ l, M x.kids) → M l) : ∀ l, M l := by
  have key : ∀ (n : Nat) (l : List Tree), wtT l ≤ n → M l := by
    intro n
    induction n with
    | zero =>
      intro l hn
      refine step l fun x hx => ?_
      obtain ⟨i, hi⟩ := List.getElem?_of_mem hx
      have := wtT_get l i x hi
      have := x.wt_eq
      omega
    | succ n ih =>
      intro l hn
      refine step l fun x hx => ih _ ?_
      obtain ⟨i, hi⟩ := List.getElem?_of_mem hx
      have := wtT_get l i x hi
      have := x.wt_eq
      omega
  exact fun l => key _ l (Nat.le_refl _)

theorem wt_mem {l : List Tree} {x : Tree} (h : x ∈ l) : x.wt ≤ wtT l := by
  obtain ⟨i, hi⟩ := List.getElem?_of_mem h
  exact wtT_get l i x hi
theorem wt_kids (x : Tree) : wtT x.kids ≤ x.wt := by have := x.wt_eq; omega
theorem wt_s (x : Tree) : x.s.length ≤ x.wt := by have := x.wt_eq; omega
theorem wt_attrs (x : Tree) : wtA x.attrs ≤ x.wt := by have := x.wt_eq; omega
theorem wtA_mem : ∀ {l : List Attr} {a : Attr}, a ∈ l → a.wt ≤ wtA l
  | [], a, h => by simp at h
  | b :: r, a, h => by
    simp only [List.mem_cons] at h
    rcases h with rfl | h
    · simp [wtA]
    · have := wtA_mem h; simp only [wtA]; omega

section
variable {P : Program} {G : Nat → Option (List IV)}

theorem wJoined {f_tree_Joined : Nat} (hF : compF P G f_tree_Joined = some (59, [(none, 2)], (c_tree_Joined f_tree_Joined).bare)) (l : List Tree) : wtT l ≤ B → PureC P G f_tree_Joined [.list (ivT l)] (.list (ivT (joined l))) :=
  byWt (M := fun l => wtT l ≤ B → PureC P G f_tree_Joined [.list (ivT l)] (.list (ivT (joined l)))) (fun l h hB => pJoined hF l hB fun x hx => h x hx (by have := wt_mem hx; have := wt_kids x; omega)) l

theorem wJoinedOf {f_topiaryref_JoinedOf : Nat} (hF : compF P G f_topiaryref_JoinedOf = some (86, [(none, 2)], (c_topiaryref_JoinedOf f_topiaryref_JoinedOf).bare)) (l : List Tree) : wtT l ≤ B → PureC P G f_topiaryref_JoinedOf [.list (ivT l)] (.list (ivT (joined l))) :=
  byWt (M := fun l => wtT l ≤ B → PureC P G f_topiaryref_JoinedOf [.list (ivT l)] (.list (ivT (joined l)))) (fun l h hB => pJoinedOf hF l hB fun x hx => h x hx (by have := wt_mem hx; have := wt_kids x; omega)) l

theorem wSize {g : Nat} (hF : compF P G g = some (32, [(none, 2), (none, 3)], (cSize g).bare)) : ∀ x : Tree, x.wt ≤ B → PureC P G g [x.av] (.tup [.int .i64 x.dep, .int .i64 x.cnt]) := by
  have key := byWt (M := fun l => ∀ x ∈ l, x.wt ≤ B → PureC P G g [x.av] (.tup [.int .i64 x.dep, .int .i64 x.cnt])) (fun l h x hx hB => pSize hF x hB fun k hk => h x hx k hk (by have := wt_mem hk; have := wt_kids x; omega))
  exact fun x => key [x] x (by simp)

theorem wFines {fP fN fGA fF fFs : Nat} (hP : compF P G fP = some (29, [(none, 2)], cPlain.bare)) (hN : compF P G fN = some (28, [(none, 2)], cNamed.bare)) (hA : compF P G fGA = some (41, [(none, 2)], (cGoodAttrs fN fP).bare))
    (hF : compF P G fF = some (38, [(none, 2)], (cFine fP fN fGA fFs).bare)) (hFs : compF P G fFs = some (32, [(none, 2)], (cFines fF).bare)) (l : List Tree) : wtT l ≤ B → PureC P G fFs [.list (ivT l)] (.bool (fines none l)) := by
  refine byWt (M := fun l => wtT l ≤ B → PureC P G fFs [.list (ivT l)] (.bool (fines none l))) (fun l h hB => pFines hFs l (by have := wtT_len l; omega) fun x hx => ?_) l
  have h1 := wt_mem hx
  have h2 := wt_kids x
  have h3 := wt_s x
  have h4 := wt_attrs x
  have h5 := wtA_len x.attrs
  refine pFine hF x (pPlain hP _ (by omega)) (pNamed hN _ (by omega)) (pGoodAttrs hA _ (by omega) (fun a ha => pNamed hN _ ?_) (fun a ha => pPlain hP _ ?_)) (h x hx (by omega))
  · have := wtA_mem ha; unfold Attr.wt at this; omega
  · have := wtA_mem ha; unfold Attr.wt at this; omega

theorem wFine {fP fN fGA fF fFs : Nat} (hP : compF P G fP = some (29, [(none, 2)], cPlain.bare)) (hN : compF P G fN = some (28, [(none, 2)], cNamed.bare)) (hA : compF P G fGA = some (41, [(none, 2)], (cGoodAttrs fN fP).bare))
    (hF : compF P G fF = some (38, [(none, 2)], (cFine fP fN fGA fFs).bare)) (hFs : compF P G fFs = some (32, [(none, 2)], (cFines fF).bare)) (x : Tree) (hB : x.wt ≤ B) : PureC P G fF [x.av] (.bool x.fine) := by
  have h2 := wt_kids x
  have h3 := wt_s x
  have h4 := wt_attrs x
  have h5 := wtA_len x.attrs
  refine pFine hF x (pPlain hP _ (by omega)) (pNamed hN _ (by omega)) (pGoodAttrs hA _ (by omega) (fun a ha => pNamed hN _ ?_) (fun a ha => pPlain hP _ ?_)) (wFines hP hN hA hF hFs _ (by omega))
  · have := wtA_mem ha; unfold Attr.wt at this; omega
  · have := wtA_mem ha; unfold Attr.wt at this; omega
end

def c_topiarylaw_trees (f_tree_Joined f_tree_Good : Nat) : AC :=
(.seq (.reg [⟨(some 0), none, (.mov (.c (.bool false)))⟩]) (.seq (.reg [⟨(some 2), none, (.bld [(.bool false), (.str []), .nil0, .nil0] [(0, (1, (.c (.bool true)))), (1, (1, (.c (.str [97]))))])⟩, ⟨(some 3), none, (.bld [(.bool false), (.str []), .nil0, .nil0] [(0, (1, (.c (.bool true))))])⟩, ⟨(some 4), none, (.bld [(.bool false), (.str []), .nil0, .nil0] [(0, (1, (.c (.bool true)))), (1, (1, (.c (.str [98]))))])⟩, ⟨(some 5), none, (.bld [(.bool false), (.str []), .nil0, .nil0] [(1, (1, (.c (.str [99]))))])⟩, ⟨(some 6), none, (.lits 4 4 [(.bool false), (.str []), .nil0, .nil0] [(0, (.t 2)), (1, (.t 3)), (2, (.t 4)), (3, (.t 5))])⟩, ⟨(some 7), none, (.call f_tree_Joined [(.t 6)])⟩, ⟨(some 1), none, (.mov (.t 7))⟩]) (.seq (.reg [⟨(some 8), none, (.bld [(.bool false), (.str []), .nil0, .nil0] [(1, (1, (.c (.str [97]))))])⟩, ⟨(some 9), none, (.call f_tree_Good [(.t 8)])⟩, ⟨(some 10), none, (.mov (.t 9))⟩, ⟨(some 11), (some (10, true)), (.bld [(.bool false), (.str []), .nil0, .nil0] [])⟩, ⟨(some 12), (some (10, true)), (.call f_tree_Good [(.t 11)])⟩, ⟨(some 13), (some (10, true)), (.not (.t 12))⟩, ⟨(some 14), none, (.pick (.t 10) (.t 13) (.c (.bool false)))⟩, ⟨(some 15), none, (.mov (.t 14))⟩, ⟨(some 16), (some (15, true)), (.mov (.t 1))⟩, ⟨(some 17), (some (15, true)), (.len (.t 16))⟩, ⟨(some 18), (some (15, true)), (.bin .eql (.t 17) (.c (.int .i64 2)))⟩, ⟨(some 19), none, (.pick (.t 15) (.t 18) (.c (.bool false)))⟩, ⟨(some 20), none, (.mov (.t 19))⟩, ⟨(some 21), (some (20, true)), (.mov (.t 1))⟩, ⟨(some 22), (some (20, true)), (.ixa (.t 21) (.c (.int .i64 0)) 4)⟩, ⟨(some 23), (some (20, true)), (.fld (.t 22) 1)⟩, ⟨(some 24), (some (20, true)), (.load none (.t 23))⟩, ⟨(some 25), (some (20, true)), (.bin .eql (.t 24) (.c (.str [97, 98])))⟩, ⟨(some 26), none, (.pick (.t 20) (.t 25) (.c (.bool false)))⟩, ⟨(some 0), none, (.mov (.t 26))⟩]) .ret)))

theorem pTrees {P : Program} {G : Nat → Option (List IV)} {f_topiarylaw_trees f_tree_Joined f_tree_Good : Nat} (hF : compF P G f_topiarylaw_trees = some (27, [(none, 0)], (c_topiarylaw_trees f_tree_Joined f_tree_Good).bare))
    (hJ : ∀ l : List Tree, wtT l ≤ B → PureC P G f_tree_Joined [.list (ivT l)] (.list (ivT (joined l)))) (hG : ∀ x : Tree, x.wt ≤ B → PureC P G f_tree_Good [x.av] (.bool x.good)) : PureC P G f_topiarylaw_trees [] (.bool true) := by
  refine pure_of_go hF (by simp) (by simp [lbss]) (by simp [AV.lbs]) ?_
  unfold c_topiarylaw_trees
  simp only [↓evs, evp, evq, evl, boxK, ↓a1_still, stillV, ↓af_still, ↓af_load, ↓af_store, ↓af_app, ↓af_new, ↓af_box, binV, AV.cells, Lb.loc.injEq, loadV, storeV, ldV, AV.stb, AV.one, IV.av1, Lb.app, Lb.fresh, reduceCtorEq, Bool.false_eq_true, ptrL, appL, fillA, chunks, ivs, AV.iv, mkE, if_false, if_true, List.not_mem_nil, forall_eq, Nat.reduceEqDiff, Nat.reduceLT, Nat.reduceLeDiff, Nat.reduceAdd, Nat.reduceMul, Int.reduceToNat, Int.reduceLE, Int.reduceLT, Int.le_refl, Int.toNat_zero, beq_self_eq_true, List.replicate_succ, List.replicate_zero]
  refine callT_pure (hJ [.mk true [97] [] [], .mk true [] [] [], .mk true [98] [] [], .mk false [99] [] []] (by decide)) ?_
  simp only [↓evs, evp, evq, evl, boxK, ↓a1_still, stillV, ↓af_still, ↓af_load, ↓af_store, ↓af_app, ↓af_new, ↓af_box, binV, AV.cells, Lb.loc.injEq, loadV, storeV, ldV, AV.stb, AV.one, IV.av1, Lb.app, Lb.fresh, reduceCtorEq, Bool.false_eq_true, ptrL, appL, fillA, chunks, ivs, AV.iv, mkE, if_false, if_true, List.not_mem_nil, forall_eq, Nat.reduceEqDiff, Nat.reduceLT, Nat.reduceLeDiff, Nat.reduceAdd, Nat.reduceMul, Int.reduceToNat, Int.reduceLE, Int.reduceLT, Int.le_refl, Int.toNat_zero, beq_self_eq_true]
  refine callT_pure ((hG (.mk false [97] [] []) (by decide)).of rfl) ?_
  rw [show (Tree.mk false [97] [] []).good = true from rfl]
  simp only [↓evs, evp, evq, evl, boxK, ↓a1_still, stillV, ↓af_still, ↓af_load, ↓af_store, ↓af_app, ↓af_new, ↓af_box, binV, AV.cells, Lb.loc.injEq, loadV, storeV, ldV, AV.stb, AV.one, IV.av1, Lb.app, Lb.fresh, reduceCtorEq, Bool.false_eq_true, ptrL, appL, fillA, chunks, ivs, AV.iv, mkE, if_false, if_true, List.not_mem_nil, forall_eq, Nat.reduceEqDiff, Nat.reduceLT, Nat.reduceLeDiff, Nat.reduceAdd, Nat.reduceMul, Int.reduceToNat, Int.reduceLE, Int.reduceLT, Int.le_refl, Int.toNat_zero, beq_self_eq_true]
  refine callT_pure ((hG (.mk false [] [] []) (by decide)).of rfl) ?_
  rw [show (Tree.mk false [] [] []).good = false from rfl]
  have e : ivT (joined [.mk true [97] [] [], .mk true [] [] [], .mk true [98] [] [], .mk false [99] [] []]) = [.agg [.bool true, .str [97, 98], .list [], .list []], .agg [.bool false, .str [99], .list [], .list []]] := rfl
  have he : Elsz 4 [IV.agg [.bool true, .str [97, 98], .list [], .list []], .agg [.bool false, .str [99], .list [], .list []]] := by simp [Elsz, IV.cells]
  rw [e]
  simp only [↓evs, evp, evq, evl, boxK, ↓a1_still, stillV, ↓af_still, ↓af_load, ↓af_store, ↓af_app, ↓af_new, ↓af_box, binV, AV.cells, Lb.loc.injEq, loadV, storeV, ldV, AV.stb, AV.one, IV.av1, Lb.app, Lb.fresh, reduceCtorEq, Bool.false_eq_true, ptrL, appL, fillA, chunks, ivs, AV.iv, mkE, if_false, if_true, List.not_mem_nil, forall_eq, Nat.reduceEqDiff, Nat.reduceLT, Nat.reduceLeDiff, Nat.reduceAdd, Nat.reduceMul, Int.reduceToNat, Int.reduceLE, Int.reduceLT, Int.le_refl, Int.toNat_zero, beq_self_eq_true, he]
  rw [show (((2 : Nat) : Int) == 2) = true from rfl]
  simp only [↓evs, evp, evq, evl, boxK, ↓a1_still, stillV, ↓af_still, ↓af_load, ↓af_store, ↓af_app, ↓af_new, ↓af_box, binV, AV.cells, Lb.loc.injEq, loadV, storeV, ldV, AV.stb, AV.one, IV.av1, Lb.app, Lb.fresh, reduceCtorEq, Bool.false_eq_true, ptrL, appL, fillA, chunks, ivs, AV.iv, mkE, if_false, if_true, List.not_mem_nil, forall_eq, Nat.reduceEqDiff, Nat.reduceLT, Nat.reduceLeDiff, Nat.reduceAdd, Nat.reduceMul, Int.reduceToNat, Int.reduceLE, Int.reduceLT, Int.le_refl, Int.toNat_zero, beq_self_eq_true, he]

def c_topiarylaw_TreeJoins (f_topiaryref_CopyTrees f_tree_Joined f_topiaryref_JoinedOf f_topiaryref_SameTrees f_topiarylaw_trees : Nat) : AC :=
(.seq (.reg [⟨(some 2), none, (.mov (.c (.bool false)))⟩]) (.seq (.reg [⟨(some 4), none, (.mov (.t 0))⟩, ⟨(some 5), none, (.call f_topiaryref_CopyTrees [(.t 4)])⟩, ⟨(some 3), none, (.mov (.t 5))⟩]) (.seq (.reg [⟨(some 6), none, (.mov (.t 3))⟩, ⟨(some 7), none, (.call f_tree_Joined [(.t 6)])⟩, ⟨(some 8), none, (.mov (.t 0))⟩, ⟨(some 9), none, (.call f_topiaryref_JoinedOf [(.t 8)])⟩, ⟨(some 10), none, (.call f_topiaryref_SameTrees [(.t 7), (.t 9)])⟩, ⟨(some 11), none, (.mov (.t 10))⟩, ⟨(some 12), (some (11, true)), (.mov (.t 3))⟩, ⟨(some 13), (some (11, true)), (.mov (.t 0))⟩, ⟨(some 14), (some (11, true)), (.call f_topiaryref_SameTrees [(.t 12), (.t 13)])⟩, ⟨(some 15), none, (.pick (.t 11) (.t 14) (.c (.bool false)))⟩, ⟨(some 16), none, (.mov (.t 15))⟩, ⟨(some 17), (some (16, true)), (.call f_topiarylaw_trees [])⟩, ⟨(some 18), none, (.pick (.t 16) (.t 17) (.c (.bool false)))⟩, ⟨(some 2), none, (.mov (.t 18))⟩]) .ret)))

theorem pTreeJoins {P : Program} {G : Nat → Option (List IV)} {f_topiarylaw_TreeJoins f_topiaryref_CopyTrees f_tree_Joined f_topiaryref_JoinedOf f_topiaryref_SameTrees f_topiarylaw_trees : Nat} (hF : compF P G f_topiarylaw_TreeJoins = some (19, [(none, 2)], (c_topiarylaw_TreeJoins f_topiaryref_CopyTrees f_tree_Joined f_topiaryref_JoinedOf f_topiaryref_SameTrees f_topiarylaw_trees).bare)) (l : List Tree) (hl : wtT l ≤ B)
    (hC : ∀ l : List Tree, wtT l ≤ B → PureC P G f_topiaryref_CopyTrees [.list (ivT l)] (.list (ivT l)))
    (hJ : ∀ l : List Tree, wtT l ≤ B → PureC P G f_tree_Joined [.list (ivT l)] (.list (ivT (joined l))))
    (hO : ∀ l : List Tree, wtT l ≤ B → PureC P G f_topiaryref_JoinedOf [.list (ivT l)] (.list (ivT (joined l))))
    (hS : ∀ xs ys : List Tree, wtT xs ≤ B → PureC P G f_topiaryref_SameTrees [.list (ivT xs), .list (ivT ys)] (.bool (eqB xs ys)))
    (hT : PureC P G f_topiarylaw_trees [] (.bool true)) : PureC P G f_topiarylaw_TreeJoins [.list (ivT l)] (.bool true) := by
  refine pure_of_go hF (by simp) (by simp [lbss, AV.lbs]) (by simp [AV.lbs]) ?_
  have hj := wtT_joined l
  unfold c_topiarylaw_TreeJoins
  simp only [↓evs, evp, evq, evl, boxK, ↓a1_still, stillV, ↓af_still, ↓af_load, ↓af_store, ↓af_app, ↓af_new, ↓af_box, binV, AV.cells, Lb.loc.injEq, loadV, storeV, ldV, AV.stb, AV.one, IV.av1, Lb.app, Lb.fresh, reduceCtorEq, Bool.false_eq_true, ptrL, appL, fillA, chunks, ivs, AV.iv, mkE, if_false, if_true, List.not_mem_nil, forall_eq, Nat.reduceEqDiff, Nat.reduceLT, Nat.reduceLeDiff, Nat.reduceAdd, Nat.reduceMul, Int.reduceToNat, Int.reduceLE, Int.reduceLT, Int.le_refl, Int.toNat_zero, beq_self_eq_true]
  refine callT_pure (hC l hl) ?_
  simp only [↓evs, evp, evq, evl, boxK, ↓a1_still, stillV, ↓af_still, ↓af_load, ↓af_store, ↓af_app, ↓af_new, ↓af_box, binV, AV.cells, Lb.loc.injEq, loadV, storeV, ldV, AV.stb, AV.one, IV.av1, Lb.app, Lb.fresh, reduceCtorEq, Bool.false_eq_true, ptrL, appL, fillA, chunks, ivs, AV.iv, mkE, if_false, if_true, List.not_mem_nil, forall_eq, Nat.reduceEqDiff, Nat.reduceLT, Nat.reduceLeDiff, Nat.reduceAdd, Nat.reduceMul, Int.reduceToNat, Int.reduceLE, Int.reduceLT, Int.le_refl, Int.toNat_zero, beq_self_eq_true]
  refine callT_pure (hJ l hl) ?_
  simp only [↓evs, evp, evq, evl, boxK, ↓a1_still, stillV, ↓af_still, ↓af_load, ↓af_store, ↓af_app, ↓af_new, ↓af_box, binV, AV.cells, Lb.loc.injEq, loadV, storeV, ldV, AV.stb, AV.one, IV.av1, Lb.app, Lb.fresh, reduceCtorEq, Bool.false_eq_true, ptrL, appL, fillA, chunks, ivs, AV.iv, mkE, if_false, if_true, List.not_mem_nil, forall_eq, Nat.reduceEqDiff, Nat.reduceLT, Nat.reduceLeDiff, Nat.reduceAdd, Nat.reduceMul, Int.reduceToNat, Int.reduceLE, Int.reduceLT, Int.le_refl, Int.toNat_zero, beq_self_eq_true]
  refine callT_pure (hO l hl) ?_
  simp only [↓evs, evp, evq, evl, boxK, ↓a1_still, stillV, ↓af_still, ↓af_load, ↓af_store, ↓af_app, ↓af_new, ↓af_box, binV, AV.cells, Lb.loc.injEq, loadV, storeV, ldV, AV.stb, AV.one, IV.av1, Lb.app, Lb.fresh, reduceCtorEq, Bool.false_eq_true, ptrL, appL, fillA, chunks, ivs, AV.iv, mkE, if_false, if_true, List.not_mem_nil, forall_eq, Nat.reduceEqDiff, Nat.reduceLT, Nat.reduceLeDiff, Nat.reduceAdd, Nat.reduceMul, Int.reduceToNat, Int.reduceLE, Int.reduceLT, Int.le_refl, Int.toNat_zero, beq_self_eq_true]
  refine callT_pure (hS _ _ (by omega)) ?_
  simp only [↓evs, evp, evq, evl, boxK, ↓a1_still, stillV, ↓af_still, ↓af_load, ↓af_store, ↓af_app, ↓af_new, ↓af_box, binV, AV.cells, Lb.loc.injEq, loadV, storeV, ldV, AV.stb, AV.one, IV.av1, Lb.app, Lb.fresh, reduceCtorEq, Bool.false_eq_true, ptrL, appL, fillA, chunks, ivs, AV.iv, mkE, if_false, if_true, List.not_mem_nil, forall_eq, Nat.reduceEqDiff, Nat.reduceLT, Nat.reduceLeDiff, Nat.reduceAdd, Nat.reduceMul, Int.reduceToNat, Int.reduceLE, Int.reduceLT, Int.le_refl, Int.toNat_zero, beq_self_eq_true, eqB_self]
  refine callT_pure (hS _ _ hl) ?_
  simp only [↓evs, evp, evq, evl, boxK, ↓a1_still, stillV, ↓af_still, ↓af_load, ↓af_store, ↓af_app, ↓af_new, ↓af_box, binV, AV.cells, Lb.loc.injEq, loadV, storeV, ldV, AV.stb, AV.one, IV.av1, Lb.app, Lb.fresh, reduceCtorEq, Bool.false_eq_true, ptrL, appL, fillA, chunks, ivs, AV.iv, mkE, if_false, if_true, List.not_mem_nil, forall_eq, Nat.reduceEqDiff, Nat.reduceLT, Nat.reduceLeDiff, Nat.reduceAdd, Nat.reduceMul, Int.reduceToNat, Int.reduceLE, Int.reduceLT, Int.le_refl, Int.toNat_zero, beq_self_eq_true, eqB_self]
  refine callT_pure hT ?_
  simp only [↓evs, evp, evq, evl, boxK, ↓a1_still, stillV, ↓af_still, ↓af_load, ↓af_store, ↓af_app, ↓af_new, ↓af_box, binV, AV.cells, Lb.loc.injEq, loadV, storeV, ldV, AV.stb, AV.one, IV.av1, Lb.app, Lb.fresh, reduceCtorEq, Bool.false_eq_true, ptrL, appL, fillA, chunks, ivs, AV.iv, mkE, if_false, if_true, List.not_mem_nil, forall_eq, Nat.reduceEqDiff, Nat.reduceLT, Nat.reduceLeDiff, Nat.reduceAdd, Nat.reduceMul, Int.reduceToNat, Int.reduceLE, Int.reduceLT, Int.le_refl, Int.toNat_zero, beq_self_eq_true]

end Go.Am

/- THE ABSTRACT MACHINE, part 32: loops whose rows stay where they are. -/
namespace Go.Am
open Go Go.RowKit

def RwI (H : Hp) : List (Lb × Row) → Prop
  | [] => True
  | (l, r) :: t => H l = .live r ∧ RwI H t

theorem RwI.rw {H : Hp} : ∀ {rs : List (Lb × Row)}, RwI H rs → RwL (rnF []) H rs
  | [], _ => trivial
  | (l, r) :: t, h => ⟨by show H l = .live (renR id r); rw [renR_id]; exact h.1, RwI.rw h.2⟩

/-- The rows 'rs' are there, by their names; what else there is was made here. -/
def WS {σ : Type} (ls : List Lb) (ps : σ → List (Nat × AV)) (rs : σ → List (Lb × Row)) (env : Env) (H : Hp) (s : σ) : Prop := NFx H ls ∧ EqI env (ps s) ∧ RwI H (rs s)

theorem loop_same {σ : Type} {S : St} {Q : Post} {c : AC} {k : List It} {env : Env} {H : Hp} (ls : List Lb) (ps : σ → List (Nat × AV)) (rs : σ → List (Lb × Row)) (μ : σ → Nat) (s0 : σ)
    (hls : ∀ s, (rs s).map Prod.fst = ls) (hnd : ls.Nodup) (hp : ∀ s, ∀ l ∈ lbss ((ps s).map Prod.snd), l ∈ ls) (hr : ∀ s, ∀ q ∈ rs s, ∀ cs ∈ q.2.els, ∀ l ∈ lbss cs, l ∈ ls) (h0 : WS ls ps rs env H s0)
    (round : ∀ s, go S (LoopX S Q k (WS ls ps rs) μ (μ s)) [.code c] (ofL (ps s)) (ofH (rs s))) : LoopG S Q c k env H := by
  refine loop_gen (fun s => ofL (ps s)) (fun s => ofH (rs s)) (WS ls ps rs) ?_ μ s0 h0 round
  rintro env H s ⟨h1, h2, h3⟩
  refine ⟨rnF [], WRs.wk (m := []) ⟨h1, h2.eql, RwI.rw h3, ?_, fun l _ => ⟨id, fun _ => rfl⟩⟩ (hls s) (hp s) (hr s)⟩
  have : rnF [] = id := rfl
  rw [this, List.map_id]; exact hnd

theorem WS_mk {σ : Type} {ls : List Lb} {ps : σ → List (Nat × AV)} {rs : σ → List (Lb × Row)} {env : Env} {H : Hp} {s : σ} (h1 : NFx H ls) (h2 : EqI env (ps s)) (h3 : RwI H (rs s)) : WS ls ps rs env H s := ⟨h1, h2, h3⟩
theorem ofH_nil : ofH [] = Hp.none := rfl
theorem ofH_cons (l : Lb) (r : Row) (t : List (Lb × Row)) : ofH ((l, r) :: t) = upd (ofH t) l (.live r) := rfl
theorem RwI_nil (H : Hp) : RwI H [] = True := rfl
theorem RwI_cons (H : Hp) (l : Lb) (r : Row) (t : List (Lb × Row)) : RwI H ((l, r) :: t) = (H l = .live r ∧ RwI H t) := rfl

end Go.Am
