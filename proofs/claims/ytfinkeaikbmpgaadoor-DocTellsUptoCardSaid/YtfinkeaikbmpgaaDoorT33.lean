import Derived.Test.YtfinkeaikbmpgaaDoorKT31
import Derived.Test.YtfinkeaikbmpgaaDoorS4
set_option linter.unusedSimpArgs false
set_option linter.unusedVariables false
set_option linter.unnecessarySimpa false
set_option linter.defProp false
/- IsDoc; what is in what; the law DocTells. -/
namespace Go.Am
open Go Go.RowKit
theorem treeN_doc {t : Tree} (ht : t.good = true) : treeN (docOf t) 0 = t := by
  have := treeD_of ht (Sub.self 0 (-1) t)
  unfold treeD at this
  have hl := doc_head (t := t)
  rw [if_pos (isDoc_of ht), if_pos ⟨by simp, by omega⟩] at this
  exact (Prod.mk.inj this).1
theorem isDoc_tree (d : Doc) : isDoc d = ((treeN d 0).good && eqB (docOf (treeN d 0)) d) := by
  rw [Bool.eq_iff_iff, Bool.and_eq_true, isDoc_iff, eqB_iff]
  constructor
  · rintro ⟨t, ht, rfl⟩
    rw [treeN_doc ht]
    exact ⟨ht, rfl⟩
  · rintro ⟨h1, h2⟩
    exact ⟨_, h1, h2.symm⟩
theorem wTreeOf {P : Program} {G : Nat → Option (List IV)} {f_topiaryref_treeOf : Nat} (hF : compF P G f_topiaryref_treeOf = some (47, [((some (some 4)), 4)], (c_topiaryref_treeOf f_topiaryref_treeOf).bare)) (d : Doc) (hd : wtN d ≤ B) : ∀ (k n : Nat), d.length - n ≤ k → n < d.length →
    PureC P G f_topiaryref_treeOf [Doc.av d, .int .i64 (n : Int)] (treeN d n).av := by
  intro k
  induction k with
  | zero => intro n h1 h2; omega
  | succ k ih => exact fun n h1 h2 => pTreeOf hF d hd n h2 fun m hm hm2 => ih m (by omega) hm2
def c_topiaryref_IsDoc (f_topiaryref_treeOf f_topiaryref_MakeDoc f_topiaryref_SameDoc : Nat) : AC :=
(.seq (.reg [⟨(some 1), none, (.box (.t 0))⟩, ⟨(some 2), none, (.mov (.c (.bool false)))⟩]) (.seq (.seq (.reg [⟨(some 7), none, (.fld (.t 1) 0)⟩, ⟨(some 8), none, (.load none (.t 7))⟩, ⟨(some 9), none, (.len (.t 8))⟩, ⟨(some 10), none, (.bin .eql (.t 9) (.c (.int .i64 0)))⟩, ⟨(some 11), none, (.mov (.t 10))⟩, ⟨(some 12), (some (11, false)), (.fld (.t 1) 0)⟩, ⟨(some 13), (some (11, false)), (.load none (.t 12))⟩, ⟨(some 14), (some (11, false)), (.len (.t 13))⟩, ⟨(some 15), (some (11, false)), (.bin .gtr (.t 14) (.c (.int .i64 80)))⟩, ⟨(some 16), none, (.pick (.t 11) (.c (.bool true)) (.t 15))⟩, ⟨(some 17), none, (.mov (.t 16))⟩, ⟨(some 18), (some (17, false)), (.fld (.t 1) 0)⟩, ⟨(some 19), (some (17, false)), (.load none (.t 18))⟩, ⟨(some 20), (some (17, false)), (.ixa (.t 19) (.c (.int .i64 0)) 5)⟩, ⟨(some 21), (some (17, false)), (.fld (.t 20) 3)⟩, ⟨(some 22), (some (17, false)), (.load none (.t 21))⟩, ⟨(some 23), (some (17, false)), (.bin .neq (.t 22) (.c (.int .i64 (-1))))⟩, ⟨(some 24), none, (.pick (.t 17) (.c (.bool true)) (.t 23))⟩]) (.cond (.t 24) (.seq (.reg [⟨(some 2), none, (.mov (.c (.bool false)))⟩]) .ret) .skip)) (.seq (.seq (.reg [⟨(some 25), none, (.fld (.t 1) 0)⟩, ⟨(some 26), none, (.load none (.t 25))⟩, ⟨(some 27), none, (.len (.t 26))⟩, ⟨(some 28), none, (.mov (.c (.int .i64 0)))⟩]) (.block 0 (.loop (.seq (.reg [⟨(some 29), none, (.bin .lss (.t 28) (.t 27))⟩]) (.seq (.cond (.t 29) .skip (.exit 0)) (.seq (.block 1 (.seq (.reg [⟨(some 30), none, (.mov (.t 28))⟩, ⟨(some 31), none, (.ixa (.t 26) (.t 28) 5)⟩, ⟨(some 32), none, (.load (some 5) (.t 31))⟩, ⟨(some 4), none, (.new [(.bool false), (.str []), .nil0, (.int .i64 0), .nil0])⟩, ⟨(some 3), none, (.mov (.t 30))⟩, ⟨none, none, (.store 5 (.t 4) (.t 32))⟩]) (.seq (.reg [⟨(some 33), none, (.mov (.t 3))⟩, ⟨(some 34), none, (.bin .gtr (.t 33) (.c (.int .i64 0)))⟩, ⟨(some 35), none, (.mov (.t 34))⟩, ⟨(some 36), (some (35, true)), (.fld (.t 4) 3)⟩, ⟨(some 37), (some (35, true)), (.load none (.t 36))⟩, ⟨(some 38), (some (35, true)), (.bin .lss (.t 37) (.c (.int .i64 0)))⟩, ⟨(some 39), (some (35, true)), (.mov (.t 38))⟩, ⟨(some 40), (some (39, false)), (.fld (.t 4) 3)⟩, ⟨(some 41), (some (39, false)), (.load none (.t 40))⟩, ⟨(some 42), (some (39, false)), (.mov (.t 3))⟩, ⟨(some 43), (some (39, false)), (.bin .geq (.t 41) (.t 42))⟩, ⟨(some 44), (some (35, true)), (.pick (.t 39) (.c (.bool true)) (.t 43))⟩, ⟨(some 45), none, (.pick (.t 35) (.t 44) (.c (.bool false)))⟩]) (.cond (.t 45) (.seq (.reg [⟨(some 2), none, (.mov (.c (.bool false)))⟩]) .ret) .skip)))) (.reg [⟨(some 46), none, (.bin .add (.t 28) (.c (.int .i64 1)))⟩, ⟨(some 28), none, (.mov (.t 46))⟩]))))))) (.seq (.reg [⟨(some 48), none, (.load (some 1) (.t 1))⟩, ⟨(some 49), none, (.call f_topiaryref_treeOf [(.t 48), (.c (.int .i64 0))])⟩, ⟨(some 50), none, (.call f_topiaryref_MakeDoc [(.t 49)])⟩, ⟨(some 47), none, (.mov (.t 50))⟩, ⟨(some 51), none, (.ext (.t 47) 0)⟩, ⟨(some 52), none, (.ext (.t 47) 1)⟩, ⟨(some 5), none, (.new [.nil0])⟩, ⟨none, none, (.store 1 (.t 5) (.t 51))⟩, ⟨(some 6), none, (.mov (.t 52))⟩]) (.seq (.reg [⟨(some 53), none, (.mov (.t 6))⟩, ⟨(some 54), none, (.bin .eql (.t 53) (.c (.int .i64 0)))⟩, ⟨(some 55), none, (.mov (.t 54))⟩, ⟨(some 56), (some (55, true)), (.load (some 1) (.t 5))⟩, ⟨(some 57), (some (55, true)), (.load (some 1) (.t 1))⟩, ⟨(some 58), (some (55, true)), (.call f_topiaryref_SameDoc [(.t 56), (.t 57)])⟩, ⟨(some 59), none, (.pick (.t 55) (.t 58) (.c (.bool false)))⟩, ⟨(some 2), none, (.mov (.t 59))⟩]) .ret)))))
theorem pIsDoc {P : Program} {G : Nat → Option (List IV)} {f_topiaryref_IsDoc f_topiaryref_treeOf f_topiaryref_MakeDoc f_topiaryref_SameDoc : Nat} (hF : compF P G f_topiaryref_IsDoc = some (60, [(none, 2)], (c_topiaryref_IsDoc f_topiaryref_treeOf f_topiaryref_MakeDoc f_topiaryref_SameDoc).bare)) (d : Doc) (hd : 2 * wtN d ≤ B)
    (hT : 0 < d.length → PureC P G f_topiaryref_treeOf [Doc.av d, .int .i64 (0 : Int)] (treeN d 0).av)
    (hM : ∀ x : Tree, x.wt ≤ B → PureC P G f_topiaryref_MakeDoc [x.av] (.tup [Doc.av (makeD x).1, .int .i64 (makeD x).2]))
    (hS : ∀ e : Doc, wtN e ≤ B → PureC P G f_topiaryref_SameDoc [Doc.av e, Doc.av d] (.bool (eqB e d))) :
    PureC P G f_topiaryref_IsDoc [Doc.av d] (.bool (isDoc d)) := by
  refine pure_of_go hF (by simp) (by simp [lbss, AV.lbs, Doc.av]) (by simp [AV.lbs]) ?_
  have hdl := wtN_len d
  have key : isDoc d = true → 1 ≤ d.length ∧ d.length ≤ 80 ∧ ∀ (i : Nat) (x : Node), d[i]? = some x → (i = 0 ∧ x.parent = -1) ∨ (0 < i ∧ 0 ≤ x.parent ∧ x.parent < (i : Int)) := fun h => by
    obtain ⟨t, ht, rfl⟩ := isDoc_iff.1 h
    have := (good_iff t).1 ht
    exact ⟨doc_head, by rw [docOf_len]; omega, fun i x hx => doc_parent hx⟩
  have no : (isDoc d = true → False) → isDoc d = false := fun h => by
    cases e : isDoc d with
    | false => rfl
    | true => exact (h e).elim
  unfold c_topiaryref_IsDoc
  simp only [↓aX, evp, evq, evl, boxK, stillV, binV, AV.cells, mP, loadV, storeV, ldV, AV.stb, AV.one, IV.av1, Lb.app, Lb.fresh, reduceCtorEq, ptrL, appL, fillA, chunks, ivs, AV.iv, mkE, if_false, if_true, List.not_mem_nil, forall_eq, beq_self_eq_true, List.isEmpty_nil, Nat.reduceEqDiff, Nat.reduceLT, Nat.reduceLeDiff, Nat.reduceAdd, Nat.reduceMul, Int.reduceToNat, Int.reduceLE, Int.reduceLT, Doc.av, List.length_map]
  by_cases h0 : d.length = 0
  · rw [show (((d.length : Nat) : Int) == 0) = true by simp [h0]]
    have hno : isDoc d = false := no fun h => by have := key h; omega
    simp only [↓aX, evp, evq, evl, boxK, stillV, binV, AV.cells, mP, loadV, storeV, ldV, AV.stb, AV.one, IV.av1, Lb.app, Lb.fresh, reduceCtorEq, ptrL, appL, fillA, chunks, ivs, AV.iv, mkE, if_false, if_true, List.not_mem_nil, forall_eq, beq_self_eq_true, List.isEmpty_nil, Nat.reduceEqDiff, Nat.reduceLT, Nat.reduceLeDiff, Nat.reduceAdd, Nat.reduceMul, Int.reduceToNat, Int.reduceLE, Int.reduceLT, hno]
  rw [show (((d.length : Nat) : Int) == 0) = false by simp; exact fun e => h0 (by rw [e]; rfl)]
  simp only [↓aX, evp, evq, evl, boxK, stillV, binV, AV.cells, mP, loadV, storeV, ldV, AV.stb, AV.one, IV.av1, Lb.app, Lb.fresh, reduceCtorEq, ptrL, appL, fillA, chunks, ivs, AV.iv, mkE, if_false, if_true, List.not_mem_nil, forall_eq, beq_self_eq_true, List.isEmpty_nil, Nat.reduceEqDiff, Nat.reduceLT, Nat.reduceLeDiff, Nat.reduceAdd, Nat.reduceMul, Int.reduceToNat, Int.reduceLE, Int.reduceLT, List.length_map]
  by_cases h80 : 80 < d.length
  · rw [show decide (((d.length : Nat) : Int) > 80) = true by simp; omega]
    have hno : isDoc d = false := no fun h => by have := key h; omega
    simp only [↓aX, evp, evq, evl, boxK, stillV, binV, AV.cells, mP, loadV, storeV, ldV, AV.stb, AV.one, IV.av1, Lb.app, Lb.fresh, reduceCtorEq, ptrL, appL, fillA, chunks, ivs, AV.iv, mkE, if_false, if_true, List.not_mem_nil, forall_eq, beq_self_eq_true, List.isEmpty_nil, Nat.reduceEqDiff, Nat.reduceLT, Nat.reduceLeDiff, Nat.reduceAdd, Nat.reduceMul, Int.reduceToNat, Int.reduceLE, Int.reduceLT, hno]
  rw [show decide (((d.length : Nat) : Int) > 80) = false by simp; omega]
  obtain ⟨x0, hx0⟩ : ∃ x, d[0]? = some x := ⟨_, List.getElem?_eq_getElem (by omega)⟩
  simp only [↓aX, evp, evq, evl, boxK, stillV, binV, AV.cells, mP, loadV, storeV, ldV, AV.stb, AV.one, IV.av1, Lb.app, Lb.fresh, reduceCtorEq, ptrL, appL, fillA, chunks, ivs, AV.iv, mkE, if_false, if_true, List.not_mem_nil, forall_eq, beq_self_eq_true, List.isEmpty_nil, Nat.reduceEqDiff, Nat.reduceLT, Nat.reduceLeDiff, Nat.reduceAdd, Nat.reduceMul, Int.reduceToNat, Int.reduceLE, Int.reduceLT, Doc.get_iv hx0, List.length_map, elszN, Node.cells_eq, Node.cs]
  cases hp : (x0.parent != -1) with
  | true =>
    have hp' : x0.parent ≠ -1 := by simpa using hp
    have hno : isDoc d = false := no fun h => by have := (key h).2.2 0 x0 hx0; omega
    simp only [↓aX, evp, evq, evl, boxK, stillV, binV, AV.cells, mP, loadV, storeV, ldV, AV.stb, AV.one, IV.av1, Lb.app, Lb.fresh, reduceCtorEq, ptrL, appL, fillA, chunks, ivs, AV.iv, mkE, if_false, if_true, List.not_mem_nil, forall_eq, beq_self_eq_true, List.isEmpty_nil, Nat.reduceEqDiff, Nat.reduceLT, Nat.reduceLeDiff, Nat.reduceAdd, Nat.reduceMul, Int.reduceToNat, Int.reduceLE, Int.reduceLT, hno]
  | false =>
  have hp' : x0.parent = -1 := by simpa using hp
  simp only [↓aX, evp, evq, evl, boxK, stillV, binV, AV.cells, mP, loadV, storeV, ldV, AV.stb, AV.one, IV.av1, Lb.app, Lb.fresh, reduceCtorEq, ptrL, appL, fillA, chunks, ivs, AV.iv, mkE, if_false, if_true, List.not_mem_nil, forall_eq, beq_self_eq_true, List.isEmpty_nil, Nat.reduceEqDiff, Nat.reduceLT, Nat.reduceLeDiff, Nat.reduceAdd, Nat.reduceMul, Int.reduceToNat, Int.reduceLE, Int.reduceLT, List.length_map]
  refine loop_same (σ := { i : Nat // i ≤ d.length ∧ ∀ j x, j < i → d[j]? = some x → x.parent < (j : Int) }) [.loc 1] (fun q => [(1, .ptr (.loc 1) 1 0 0), (26, .list (d.map Node.iv)), (27, .int .i64 d.length), (28, .int .i64 q.1)])
    (fun _ => [(.loc 1, ⟨1, [[.list (d.map Node.iv)]]⟩)]) (fun q => d.length - q.1) ⟨0, by simp⟩ (fun _ => rfl) (by decide) (by simp [lbss, AV.lbs]) (by simp [lbss, AV.lbs]) ?_ ?_
  · exact WS_mk (by simp only [NFx_loc, NFx_none]) (by repeat' constructor) (by repeat' constructor)
  · rintro ⟨i, hi, hs⟩
    simp only [↓aX, evp, evq, evl, boxK, stillV, binV, AV.cells, mP, loadV, storeV, ldV, AV.stb, AV.one, IV.av1, Lb.app, Lb.fresh, reduceCtorEq, ptrL, appL, fillA, chunks, ivs, AV.iv, mkE, if_false, if_true, List.not_mem_nil, forall_eq, beq_self_eq_true, List.isEmpty_nil, Nat.reduceEqDiff, Nat.reduceLT, Nat.reduceLeDiff, Nat.reduceAdd, Nat.reduceMul, Int.reduceToNat, Int.reduceLE, Int.reduceLT, ofH_nil, ofH_cons, List.length_map]
    by_cases hlt : i < d.length
    · rw [show decide ((i : Int) < (d.length : Int)) = true by simpa using hlt]
      obtain ⟨x, hx⟩ : ∃ x, d[i]? = some x := ⟨_, List.getElem?_eq_getElem hlt⟩
      have hw : IntKind.i64.wrap ((i : Int) + 1) = ((i + 1 : Nat) : Int) := wrap64 (by omega) (by unfold B at hd; omega)
      simp only [↓aX, evp, evq, evl, boxK, stillV, binV, AV.cells, mP, loadV, storeV, ldV, AV.stb, AV.one, IV.av1, Lb.app, Lb.fresh, reduceCtorEq, ptrL, appL, fillA, chunks, ivs, AV.iv, mkE, if_false, if_true, List.not_mem_nil, forall_eq, beq_self_eq_true, List.isEmpty_nil, Nat.reduceEqDiff, Nat.reduceLT, Nat.reduceLeDiff, Nat.reduceAdd, Nat.reduceMul, Int.reduceToNat, Int.reduceLE, Int.reduceLT, Doc.get_iv hx, elszN, Node.cells_eq, Node.cs]
      have step : x.parent < (i : Int) → ∀ j y, j < i + 1 → d[j]? = some y → y.parent < (j : Int) := fun h j y hj hy => by
        by_cases e : j = i
        · subst e; rw [hx] at hy; cases hy; exact h
        · exact hs j y (by omega) hy
      have fin : ∀ l : Lb, l ≠ .loc 1 → True := fun _ _ => trivial
      by_cases hi0 : i = 0
      · subst hi0
        rw [hx0] at hx; cases hx
        rw [show decide (((0 : Nat) : Int) > 0) = false from rfl]
        simp only [↓aX, evp, evq, evl, boxK, stillV, binV, AV.cells, mP, loadV, storeV, ldV, AV.stb, AV.one, IV.av1, Lb.app, Lb.fresh, reduceCtorEq, ptrL, appL, fillA, chunks, ivs, AV.iv, mkE, if_false, if_true, List.not_mem_nil, forall_eq, beq_self_eq_true, List.isEmpty_nil, Nat.reduceEqDiff, Nat.reduceLT, Nat.reduceLeDiff, Nat.reduceAdd, Nat.reduceMul, Int.reduceToNat, Int.reduceLE, Int.reduceLT, hw]
        refine ⟨⟨1, by omega, step (by rw [hp']; decide)⟩, by simp only; omega, WS_mk ?_ ⟨rfl, rfl, rfl, rfl, trivial⟩ ⟨rfl, trivial⟩⟩
        intro l hl2 hu
        by_cases e0 : l = .loc 1
        · subst e0; simp
        · exfalso; apply hu; cases l <;> simp_all [Lb.fresh, upd_at, Hp.none]
      · rw [show decide ((i : Int) > 0) = true by simp; omega]
        simp only [↓aX, evp, evq, evl, boxK, stillV, binV, AV.cells, mP, loadV, storeV, ldV, AV.stb, AV.one, IV.av1, Lb.app, Lb.fresh, reduceCtorEq, ptrL, appL, fillA, chunks, ivs, AV.iv, mkE, if_false, if_true, List.not_mem_nil, forall_eq, beq_self_eq_true, List.isEmpty_nil, Nat.reduceEqDiff, Nat.reduceLT, Nat.reduceLeDiff, Nat.reduceAdd, Nat.reduceMul, Int.reduceToNat, Int.reduceLE, Int.reduceLT]
        by_cases hneg : x.parent < 0
        · rw [show decide (x.parent < 0) = true by simpa using hneg]
          have hno : isDoc d = false := no fun h => by have := (key h).2.2 i x hx; omega
          simp only [↓aX, evp, evq, evl, boxK, stillV, binV, AV.cells, mP, loadV, storeV, ldV, AV.stb, AV.one, IV.av1, Lb.app, Lb.fresh, reduceCtorEq, ptrL, appL, fillA, chunks, ivs, AV.iv, mkE, if_false, if_true, List.not_mem_nil, forall_eq, beq_self_eq_true, List.isEmpty_nil, Nat.reduceEqDiff, Nat.reduceLT, Nat.reduceLeDiff, Nat.reduceAdd, Nat.reduceMul, Int.reduceToNat, Int.reduceLE, Int.reduceLT, hno]
        · rw [show decide (x.parent < 0) = false by simpa using hneg]
          simp only [↓aX, evp, evq, evl, boxK, stillV, binV, AV.cells, mP, loadV, storeV, ldV, AV.stb, AV.one, IV.av1, Lb.app, Lb.fresh, reduceCtorEq, ptrL, appL, fillA, chunks, ivs, AV.iv, mkE, if_false, if_true, List.not_mem_nil, forall_eq, beq_self_eq_true, List.isEmpty_nil, Nat.reduceEqDiff, Nat.reduceLT, Nat.reduceLeDiff, Nat.reduceAdd, Nat.reduceMul, Int.reduceToNat, Int.reduceLE, Int.reduceLT]
          by_cases hge : (i : Int) ≤ x.parent
          · rw [show decide (x.parent ≥ (i : Int)) = true by simpa using hge]
            have hno : isDoc d = false := no fun h => by have := (key h).2.2 i x hx; omega
            simp only [↓aX, evp, evq, evl, boxK, stillV, binV, AV.cells, mP, loadV, storeV, ldV, AV.stb, AV.one, IV.av1, Lb.app, Lb.fresh, reduceCtorEq, ptrL, appL, fillA, chunks, ivs, AV.iv, mkE, if_false, if_true, List.not_mem_nil, forall_eq, beq_self_eq_true, List.isEmpty_nil, Nat.reduceEqDiff, Nat.reduceLT, Nat.reduceLeDiff, Nat.reduceAdd, Nat.reduceMul, Int.reduceToNat, Int.reduceLE, Int.reduceLT, hno]
          · rw [show decide (x.parent ≥ (i : Int)) = false by simpa using hge]
            simp only [↓aX, evp, evq, evl, boxK, stillV, binV, AV.cells, mP, loadV, storeV, ldV, AV.stb, AV.one, IV.av1, Lb.app, Lb.fresh, reduceCtorEq, ptrL, appL, fillA, chunks, ivs, AV.iv, mkE, if_false, if_true, List.not_mem_nil, forall_eq, beq_self_eq_true, List.isEmpty_nil, Nat.reduceEqDiff, Nat.reduceLT, Nat.reduceLeDiff, Nat.reduceAdd, Nat.reduceMul, Int.reduceToNat, Int.reduceLE, Int.reduceLT, hw]
            refine ⟨⟨i + 1, by omega, step (by omega)⟩, by simp only; omega, WS_mk ?_ ⟨rfl, rfl, rfl, rfl, trivial⟩ ⟨rfl, trivial⟩⟩
            intro l hl2 hu
            by_cases e0 : l = .loc 1
            · subst e0; simp
            · exfalso; apply hu; cases l <;> simp_all [Lb.fresh, upd_at, Hp.none]
    · have hil : i = d.length := by omega
      subst hil
      rw [show decide ((d.length : Int) < (d.length : Int)) = false by simp]
      have hall : ∀ (k : Nat) (x : Node), d[k]? = some x → x.parent < (k : Int) := fun k x hk => hs k x (List.getElem?_eq_some_iff.1 hk).1 hk
      have hwt := treeN_wt hall (by omega)
      have hT' := hT (by omega)
      simp only [Doc.av] at hT'
      have hM' := hM (treeN d 0) (by omega)
      simp only [Doc.av] at hM' hS
      simp only [↓aX, evp, evq, evl, boxK, stillV, binV, AV.cells, mP, loadV, storeV, ldV, AV.stb, AV.one, IV.av1, Lb.app, Lb.fresh, reduceCtorEq, ptrL, appL, fillA, chunks, ivs, AV.iv, mkE, if_false, if_true, List.not_mem_nil, forall_eq, beq_self_eq_true, List.isEmpty_nil, Nat.reduceEqDiff, Nat.reduceLT, Nat.reduceLeDiff, Nat.reduceAdd, Nat.reduceMul, Int.reduceToNat, Int.reduceLE, Int.reduceLT]
      refine callT_pure hT' ?_
      simp only [↓aX, evp, evq, evl, boxK, stillV, binV, AV.cells, mP, loadV, storeV, ldV, AV.stb, AV.one, IV.av1, Lb.app, Lb.fresh, reduceCtorEq, ptrL, appL, fillA, chunks, ivs, AV.iv, mkE, if_false, if_true, List.not_mem_nil, forall_eq, beq_self_eq_true, List.isEmpty_nil, Nat.reduceEqDiff, Nat.reduceLT, Nat.reduceLeDiff, Nat.reduceAdd, Nat.reduceMul, Int.reduceToNat, Int.reduceLE, Int.reduceLT]
      refine callT_pure hM' ?_
      simp only [↓aX, evp, evq, evl, boxK, stillV, binV, AV.cells, mP, loadV, storeV, ldV, AV.stb, AV.one, IV.av1, Lb.app, Lb.fresh, reduceCtorEq, ptrL, appL, fillA, chunks, ivs, AV.iv, mkE, if_false, if_true, List.not_mem_nil, forall_eq, beq_self_eq_true, List.isEmpty_nil, Nat.reduceEqDiff, Nat.reduceLT, Nat.reduceLeDiff, Nat.reduceAdd, Nat.reduceMul, Int.reduceToNat, Int.reduceLE, Int.reduceLT]
      cases hg : (treeN d 0).good with
      | false =>
        have hi : isDoc d = false := by rw [isDoc_tree, hg]; rfl
        simp only [makeD, hg, ↓aX, evp, evq, evl, boxK, stillV, binV, AV.cells, mP, loadV, storeV, ldV, AV.stb, AV.one, IV.av1, Lb.app, Lb.fresh, reduceCtorEq, ptrL, appL, fillA, chunks, ivs, AV.iv, mkE, if_false, if_true, List.not_mem_nil, forall_eq, beq_self_eq_true, List.isEmpty_nil, Nat.reduceEqDiff, Nat.reduceLT, Nat.reduceLeDiff, Nat.reduceAdd, Nat.reduceMul, Int.reduceToNat, Int.reduceLE, Int.reduceLT, show ((1 : Int) == 0) = false from rfl, hi]
      | true =>
        have hi : isDoc d = eqB (docOf (treeN d 0)) d := by rw [isDoc_tree, hg]; rfl
        have hmk : makeD (treeN d 0) = (docOf (treeN d 0), 0) := by unfold makeD; rw [if_pos hg]
        simp only [hmk, ↓aX, evp, evq, evl, boxK, stillV, binV, AV.cells, mP, loadV, storeV, ldV, AV.stb, AV.one, IV.av1, Lb.app, Lb.fresh, reduceCtorEq, ptrL, appL, fillA, chunks, ivs, AV.iv, mkE, if_false, if_true, List.not_mem_nil, forall_eq, beq_self_eq_true, List.isEmpty_nil, Nat.reduceEqDiff, Nat.reduceLT, Nat.reduceLeDiff, Nat.reduceAdd, Nat.reduceMul, Int.reduceToNat, Int.reduceLE, Int.reduceLT]
        refine callT_pure (hS _ (by have := wt_docOf (treeN d 0); omega)) ?_
        simp only [↓aX, evp, evq, evl, boxK, stillV, binV, AV.cells, mP, loadV, storeV, ldV, AV.stb, AV.one, IV.av1, Lb.app, Lb.fresh, reduceCtorEq, ptrL, appL, fillA, chunks, ivs, AV.iv, mkE, if_false, if_true, List.not_mem_nil, forall_eq, beq_self_eq_true, List.isEmpty_nil, Nat.reduceEqDiff, Nat.reduceLT, Nat.reduceLeDiff, Nat.reduceAdd, Nat.reduceMul, Int.reduceToNat, Int.reduceLE, Int.reduceLT, hi, hmk]
def c_topiaryref_TreeAt (f_topiaryref_IsDoc f_topiaryref_treeOf : Nat) : AC :=
(.seq (.reg [⟨(some 2), none, (.box (.t 0))⟩, ⟨(some 4), none, (.new [(.bool false), (.str []), .nil0, .nil0])⟩, ⟨(some 5), none, (.mov (.c (.int .i64 0)))⟩]) (.seq (.seq (.reg [⟨(some 6), none, (.load (some 1) (.t 2))⟩, ⟨(some 7), none, (.call f_topiaryref_IsDoc [(.t 6)])⟩, ⟨(some 8), none, (.not (.t 7))⟩]) (.cond (.t 8) (.seq (.reg [⟨(some 9), none, (.bld [(.bool false), (.str []), .nil0, .nil0] [])⟩, ⟨none, none, (.store 4 (.t 4) (.t 9))⟩, ⟨(some 5), none, (.mov (.c (.int .i64 1)))⟩]) .ret) .skip)) (.seq (.seq (.reg [⟨(some 10), none, (.mov (.t 1))⟩, ⟨(some 11), none, (.bin .lss (.t 10) (.c (.int .i64 0)))⟩, ⟨(some 12), none, (.mov (.t 11))⟩, ⟨(some 13), (some (12, false)), (.mov (.t 1))⟩, ⟨(some 14), (some (12, false)), (.fld (.t 2) 0)⟩, ⟨(some 15), (some (12, false)), (.load none (.t 14))⟩, ⟨(some 16), (some (12, false)), (.len (.t 15))⟩, ⟨(some 17), (some (12, false)), (.bin .geq (.t 13) (.t 16))⟩, ⟨(some 18), none, (.pick (.t 12) (.c (.bool true)) (.t 17))⟩]) (.cond (.t 18) (.seq (.reg [⟨(some 19), none, (.bld [(.bool false), (.str []), .nil0, .nil0] [])⟩, ⟨none, none, (.store 4 (.t 4) (.t 19))⟩, ⟨(some 5), none, (.mov (.c (.int .i64 3)))⟩]) .ret) .skip)) (.seq (.reg [⟨(some 20), none, (.load (some 1) (.t 2))⟩, ⟨(some 21), none, (.mov (.t 1))⟩, ⟨(some 22), none, (.call f_topiaryref_treeOf [(.t 20), (.t 21)])⟩, ⟨none, none, (.store 4 (.t 4) (.t 22))⟩, ⟨(some 5), none, (.mov (.c (.int .i64 0)))⟩]) .ret))))
theorem pTreeAt {P : Program} {G : Nat → Option (List IV)} {f_topiaryref_TreeAt f_topiaryref_IsDoc f_topiaryref_treeOf : Nat} (hF : compF P G f_topiaryref_TreeAt = some (23, [((some (some 4)), 4), (none, 5)], (c_topiaryref_TreeAt f_topiaryref_IsDoc f_topiaryref_treeOf).bare)) (d : Doc) (n : Int)
    (hI : PureC P G f_topiaryref_IsDoc [Doc.av d] (.bool (isDoc d)))
    (hT : ∀ k : Nat, k < d.length → PureC P G f_topiaryref_treeOf [Doc.av d, .int .i64 (k : Int)] (treeN d k).av) :
    PureC P G f_topiaryref_TreeAt [Doc.av d, .int .i64 n] (.tup [(treeD d n).1.av, .int .i64 (treeD d n).2]) := by
  refine pure_of_goN hF (by simp) (by simp [lbss, AV.lbs, Doc.av]) (by simp [AV.lbs, lbss, Tree.av]) ?_
  unfold c_topiaryref_TreeAt
  simp only [Doc.av] at hI hT
  simp only [↓aX, evp, evq, evl, boxK, stillV, binV, AV.cells, mP, loadV, storeV, ldV, AV.stb, AV.one, IV.av1, Lb.app, Lb.fresh, reduceCtorEq, ptrL, appL, fillA, chunks, ivs, AV.iv, mkE, if_false, if_true, List.not_mem_nil, forall_eq, beq_self_eq_true, List.isEmpty_nil, Nat.reduceEqDiff, Nat.reduceLT, Nat.reduceLeDiff, Nat.reduceAdd, Nat.reduceMul, Int.reduceToNat, Int.reduceLE, Int.reduceLT, Doc.av]
  refine callT_pure hI ?_
  cases hi : isDoc d with
  | false =>
    simp only [↓aX, evp, evq, evl, boxK, stillV, binV, AV.cells, mP, loadV, storeV, ldV, AV.stb, AV.one, IV.av1, Lb.app, Lb.fresh, reduceCtorEq, ptrL, appL, fillA, chunks, ivs, AV.iv, mkE, if_false, if_true, List.not_mem_nil, forall_eq, beq_self_eq_true, List.isEmpty_nil, Nat.reduceEqDiff, Nat.reduceLT, Nat.reduceLeDiff, Nat.reduceAdd, Nat.reduceMul, Int.reduceToNat, Int.reduceLE, Int.reduceLT, Bool.not_false, retm2_r]
    simp [norm, norms, treeD, hi, Tree.av, Tree.text, Tree.s, Tree.attrs, Tree.kids]
    exact ⟨rfl, rfl⟩
  | true =>
    simp only [↓aX, evp, evq, evl, boxK, stillV, binV, AV.cells, mP, loadV, storeV, ldV, AV.stb, AV.one, IV.av1, Lb.app, Lb.fresh, reduceCtorEq, ptrL, appL, fillA, chunks, ivs, AV.iv, mkE, if_false, if_true, List.not_mem_nil, forall_eq, beq_self_eq_true, List.isEmpty_nil, Nat.reduceEqDiff, Nat.reduceLT, Nat.reduceLeDiff, Nat.reduceAdd, Nat.reduceMul, Int.reduceToNat, Int.reduceLE, Int.reduceLT, Bool.not_true, List.length_map]
    by_cases h0 : n < 0
    · rw [show decide (n < 0) = true by simpa using h0]
      have : treeD d n = (.mk false [] [] [], 3) := by unfold treeD; rw [if_pos hi, if_neg (by omega)]
      simp only [↓aX, evp, evq, evl, boxK, stillV, binV, AV.cells, mP, loadV, storeV, ldV, AV.stb, AV.one, IV.av1, Lb.app, Lb.fresh, reduceCtorEq, ptrL, appL, fillA, chunks, ivs, AV.iv, mkE, if_false, if_true, List.not_mem_nil, forall_eq, beq_self_eq_true, List.isEmpty_nil, Nat.reduceEqDiff, Nat.reduceLT, Nat.reduceLeDiff, Nat.reduceAdd, Nat.reduceMul, Int.reduceToNat, Int.reduceLE, Int.reduceLT, retm2_r]
      rw [this]
      rfl
    · rw [show decide (n < 0) = false by simpa using h0]
      simp only [↓aX, evp, evq, evl, boxK, stillV, binV, AV.cells, mP, loadV, storeV, ldV, AV.stb, AV.one, IV.av1, Lb.app, Lb.fresh, reduceCtorEq, ptrL, appL, fillA, chunks, ivs, AV.iv, mkE, if_false, if_true, List.not_mem_nil, forall_eq, beq_self_eq_true, List.isEmpty_nil, Nat.reduceEqDiff, Nat.reduceLT, Nat.reduceLeDiff, Nat.reduceAdd, Nat.reduceMul, Int.reduceToNat, Int.reduceLE, Int.reduceLT, List.length_map]
      by_cases h1 : (d.length : Int) ≤ n
      · rw [show decide (n ≥ (d.length : Int)) = true by simpa using h1]
        have : treeD d n = (.mk false [] [] [], 3) := by unfold treeD; rw [if_pos hi, if_neg (by omega)]
        simp only [↓aX, evp, evq, evl, boxK, stillV, binV, AV.cells, mP, loadV, storeV, ldV, AV.stb, AV.one, IV.av1, Lb.app, Lb.fresh, reduceCtorEq, ptrL, appL, fillA, chunks, ivs, AV.iv, mkE, if_false, if_true, List.not_mem_nil, forall_eq, beq_self_eq_true, List.isEmpty_nil, Nat.reduceEqDiff, Nat.reduceLT, Nat.reduceLeDiff, Nat.reduceAdd, Nat.reduceMul, Int.reduceToNat, Int.reduceLE, Int.reduceLT, retm2_r]
        rw [this]
        rfl
      · rw [show decide (n ≥ (d.length : Int)) = false by simpa using h1]
        obtain ⟨k, rfl⟩ := Int.eq_ofNat_of_zero_le (show 0 ≤ n by omega)
        have hk := hT k (by omega)
        have : treeD d (k : Int) = (treeN d k, 0) := by unfold treeD treeN; rw [if_pos hi, if_pos (by omega), Int.toNat_natCast]
        simp only [↓aX, evp, evq, evl, boxK, stillV, binV, AV.cells, mP, loadV, storeV, ldV, AV.stb, AV.one, IV.av1, Lb.app, Lb.fresh, reduceCtorEq, ptrL, appL, fillA, chunks, ivs, AV.iv, mkE, if_false, if_true, List.not_mem_nil, forall_eq, beq_self_eq_true, List.isEmpty_nil, Nat.reduceEqDiff, Nat.reduceLT, Nat.reduceLeDiff, Nat.reduceAdd, Nat.reduceMul, Int.reduceToNat, Int.reduceLE, Int.reduceLT]
        refine callT_pure hk ?_
        simp only [↓aX, evp, evq, evl, boxK, stillV, binV, AV.cells, mP, loadV, storeV, ldV, AV.stb, AV.one, IV.av1, Lb.app, Lb.fresh, reduceCtorEq, ptrL, appL, fillA, chunks, ivs, AV.iv, mkE, if_false, if_true, List.not_mem_nil, forall_eq, beq_self_eq_true, List.isEmpty_nil, Nat.reduceEqDiff, Nat.reduceLT, Nat.reduceLeDiff, Nat.reduceAdd, Nat.reduceMul, Int.reduceToNat, Int.reduceLE, Int.reduceLT, retm2_r, Tree.av]
        rw [this]
        rfl
def c_topiaryref_within : AC :=
(.seq (.reg [⟨(some 3), none, (.box (.t 0))⟩, ⟨(some 6), none, (.mov (.c (.bool false)))⟩]) (.seq (.block 0 (.loop (.seq (.seq (.reg [⟨(some 7), none, (.mov (.t 1))⟩, ⟨(some 8), none, (.bin .geq (.t 7) (.c (.int .i64 0)))⟩]) (.cond (.t 8) .skip (.exit 0))) (.block 1 (.seq (.seq (.reg [⟨(some 9), none, (.mov (.t 1))⟩, ⟨(some 10), none, (.mov (.t 2))⟩, ⟨(some 11), none, (.bin .eql (.t 9) (.t 10))⟩]) (.cond (.t 11) (.seq (.reg [⟨(some 6), none, (.mov (.c (.bool true)))⟩]) .ret) .skip)) (.reg [⟨(some 12), none, (.fld (.t 3) 0)⟩, ⟨(some 13), none, (.load none (.t 12))⟩, ⟨(some 14), none, (.mov (.t 1))⟩, ⟨(some 15), none, (.ixa (.t 13) (.t 14) 5)⟩, ⟨(some 16), none, (.fld (.t 15) 3)⟩, ⟨(some 17), none, (.load none (.t 16))⟩, ⟨(some 1), none, (.mov (.t 17))⟩])))))) (.seq (.reg [⟨(some 6), none, (.mov (.c (.bool false)))⟩]) .ret)))
theorem pWithin {P : Program} {G : Nat → Option (List IV)} {f_topiaryref_within : Nat} (hF : compF P G f_topiaryref_within = some (18, [(none, 6)], c_topiaryref_within.bare)) (d : Doc) (hi : isDoc d = true) (n : Nat) (hn : n < d.length) (m : Int) (hm : 0 ≤ m) :
    PureC P G f_topiaryref_within [Doc.av d, .int .i64 n, .int .i64 m] (.bool (inD d n m)) := by
  refine pure_of_go hF (by simp) (by simp [lbss, AV.lbs, Doc.av]) (by simp [AV.lbs]) ?_
  unfold c_topiaryref_within
  simp only [↓aX, evp, evq, evl, boxK, stillV, binV, AV.cells, mP, loadV, storeV, ldV, AV.stb, AV.one, IV.av1, Lb.app, Lb.fresh, reduceCtorEq, ptrL, appL, fillA, chunks, ivs, AV.iv, mkE, if_false, if_true, List.not_mem_nil, forall_eq, beq_self_eq_true, List.isEmpty_nil, Nat.reduceEqDiff, Nat.reduceLT, Nat.reduceLeDiff, Nat.reduceAdd, Nat.reduceMul, Int.reduceToNat, Int.reduceLE, Int.reduceLT, Doc.av]
  refine loop_same (σ := { i : Int // (0 ≤ i ∧ i < d.length ∧ inD d i m = inD d n m) ∨ (i < 0 ∧ inD d n m = false) }) [.loc 3] (fun q => [(1, .int .i64 q.1), (2, .int .i64 m), (3, .ptr (.loc 3) 1 0 0)])
    (fun _ => [(.loc 3, ⟨1, [[.list (d.map Node.iv)]]⟩)]) (fun q => (q.1 + 1).toNat) ⟨n, .inl ⟨by omega, by omega, rfl⟩⟩ (fun _ => rfl) (by decide) (by simp [lbss, AV.lbs]) (by simp [lbss, AV.lbs]) ?_ ?_
  · exact WS_mk (by simp only [NFx_loc, NFx_none]) (by repeat' constructor) (by repeat' constructor)
  · rintro ⟨i, hs⟩
    simp only [↓aX, evp, evq, evl, boxK, stillV, binV, AV.cells, mP, loadV, storeV, ldV, AV.stb, AV.one, IV.av1, Lb.app, Lb.fresh, reduceCtorEq, ptrL, appL, fillA, chunks, ivs, AV.iv, mkE, if_false, if_true, List.not_mem_nil, forall_eq, beq_self_eq_true, List.isEmpty_nil, Nat.reduceEqDiff, Nat.reduceLT, Nat.reduceLeDiff, Nat.reduceAdd, Nat.reduceMul, Int.reduceToNat, Int.reduceLE, Int.reduceLT, ofH_nil, ofH_cons]
    rcases hs with ⟨h0, h1, h2⟩ | ⟨h0, h2⟩
    · rw [show decide (i ≥ 0) = true by simpa using h0]
      obtain ⟨k, rfl⟩ := Int.eq_ofNat_of_zero_le h0
      have hk : k < d.length := by omega
      obtain ⟨x, hx⟩ : ∃ x, d[k]? = some x := ⟨_, List.getElem?_eq_getElem hk⟩
      simp only [↓aX, evp, evq, evl, boxK, stillV, binV, AV.cells, mP, loadV, storeV, ldV, AV.stb, AV.one, IV.av1, Lb.app, Lb.fresh, reduceCtorEq, ptrL, appL, fillA, chunks, ivs, AV.iv, mkE, if_false, if_true, List.not_mem_nil, forall_eq, beq_self_eq_true, List.isEmpty_nil, Nat.reduceEqDiff, Nat.reduceLT, Nat.reduceLeDiff, Nat.reduceAdd, Nat.reduceMul, Int.reduceToNat, Int.reduceLE, Int.reduceLT]
      by_cases he : (k : Int) = m
      · subst he
        rw [inD_self hi hk] at h2
        rw [show (((k : Nat) : Int) == ((k : Nat) : Int)) = true by simp]
        simp only [↓aX, evp, evq, evl, boxK, stillV, binV, AV.cells, mP, loadV, storeV, ldV, AV.stb, AV.one, IV.av1, Lb.app, Lb.fresh, reduceCtorEq, ptrL, appL, fillA, chunks, ivs, AV.iv, mkE, if_false, if_true, List.not_mem_nil, forall_eq, beq_self_eq_true, List.isEmpty_nil, Nat.reduceEqDiff, Nat.reduceLT, Nat.reduceLeDiff, Nat.reduceAdd, Nat.reduceMul, Int.reduceToNat, Int.reduceLE, Int.reduceLT, ← h2]
      · rw [show (((k : Nat) : Int) == m) = false by simpa using he]
        simp only [↓aX, evp, evq, evl, boxK, stillV, binV, AV.cells, mP, loadV, storeV, ldV, AV.stb, AV.one, IV.av1, Lb.app, Lb.fresh, reduceCtorEq, ptrL, appL, fillA, chunks, ivs, AV.iv, mkE, if_false, if_true, List.not_mem_nil, forall_eq, beq_self_eq_true, List.isEmpty_nil, Nat.reduceEqDiff, Nat.reduceLT, Nat.reduceLeDiff, Nat.reduceAdd, Nat.reduceMul, Int.reduceToNat, Int.reduceLE, Int.reduceLT, List.length_map, Doc.get_iv hx, elszN, Node.cells_eq, Node.cs]
        have hup := inD_up hi hx hm he
        obtain ⟨t, ht, e⟩ := isDoc_iff.1 hi
        have hpar := doc_parent (t := t) (n := k) (x := x) (by rw [← e]; exact hx)
        refine ⟨⟨x.parent, ?_⟩, by simp only; omega, WS_mk (by simp only [NFx_loc, NFx_none]) (by repeat' constructor) (by repeat' constructor)⟩
        by_cases h3 : 0 ≤ x.parent
        · left
          rw [if_pos h3] at hup
          exact ⟨h3, by omega, by rw [← hup, h2]⟩
        · right
          rw [if_neg h3] at hup
          exact ⟨by omega, by rw [← h2, hup]⟩
    · rw [show decide (i ≥ 0) = false by simpa using h0]
      simp only [↓aX, evp, evq, evl, boxK, stillV, binV, AV.cells, mP, loadV, storeV, ldV, AV.stb, AV.one, IV.av1, Lb.app, Lb.fresh, reduceCtorEq, ptrL, appL, fillA, chunks, ivs, AV.iv, mkE, if_false, if_true, List.not_mem_nil, forall_eq, beq_self_eq_true, List.isEmpty_nil, Nat.reduceEqDiff, Nat.reduceLT, Nat.reduceLeDiff, Nat.reduceAdd, Nat.reduceMul, Int.reduceToNat, Int.reduceLE, Int.reduceLT, h2]
def c_topiaryref_IsIn (f_topiaryref_IsDoc f_topiaryref_within : Nat) : AC :=
(.seq (.reg [⟨(some 3), none, (.box (.t 0))⟩, ⟨(some 6), none, (.mov (.c (.bool false)))⟩]) (.seq (.reg [⟨(some 7), none, (.load (some 1) (.t 3))⟩, ⟨(some 8), none, (.call f_topiaryref_IsDoc [(.t 7)])⟩, ⟨(some 9), none, (.mov (.t 8))⟩, ⟨(some 10), (some (9, true)), (.mov (.t 1))⟩, ⟨(some 11), (some (9, true)), (.bin .geq (.t 10) (.c (.int .i64 0)))⟩, ⟨(some 12), none, (.pick (.t 9) (.t 11) (.c (.bool false)))⟩, ⟨(some 13), none, (.mov (.t 12))⟩, ⟨(some 14), (some (13, true)), (.mov (.t 1))⟩, ⟨(some 15), (some (13, true)), (.fld (.t 3) 0)⟩, ⟨(some 16), (some (13, true)), (.load none (.t 15))⟩, ⟨(some 17), (some (13, true)), (.len (.t 16))⟩, ⟨(some 18), (some (13, true)), (.bin .lss (.t 14) (.t 17))⟩, ⟨(some 19), none, (.pick (.t 13) (.t 18) (.c (.bool false)))⟩, ⟨(some 20), none, (.mov (.t 19))⟩, ⟨(some 21), (some (20, true)), (.mov (.t 2))⟩, ⟨(some 22), (some (20, true)), (.bin .geq (.t 21) (.c (.int .i64 0)))⟩, ⟨(some 23), none, (.pick (.t 20) (.t 22) (.c (.bool false)))⟩, ⟨(some 24), none, (.mov (.t 23))⟩, ⟨(some 25), (some (24, true)), (.load (some 1) (.t 3))⟩, ⟨(some 26), (some (24, true)), (.mov (.t 1))⟩, ⟨(some 27), (some (24, true)), (.mov (.t 2))⟩, ⟨(some 28), (some (24, true)), (.call f_topiaryref_within [(.t 25), (.t 26), (.t 27)])⟩, ⟨(some 29), none, (.pick (.t 24) (.t 28) (.c (.bool false)))⟩, ⟨(some 6), none, (.mov (.t 29))⟩]) .ret))
theorem pIsIn {P : Program} {G : Nat → Option (List IV)} {f_topiaryref_IsIn f_topiaryref_IsDoc f_topiaryref_within : Nat} (hF : compF P G f_topiaryref_IsIn = some (30, [(none, 6)], (c_topiaryref_IsIn f_topiaryref_IsDoc f_topiaryref_within).bare)) (d : Doc) (n m : Int)
    (hI : PureC P G f_topiaryref_IsDoc [Doc.av d] (.bool (isDoc d)))
    (hW : isDoc d = true → 0 ≤ n → n < d.length → 0 ≤ m → PureC P G f_topiaryref_within [Doc.av d, .int .i64 n, .int .i64 m] (.bool (inD d n m))) :
    PureC P G f_topiaryref_IsIn [Doc.av d, .int .i64 n, .int .i64 m] (.bool (inD d n m)) := by
  refine pure_of_go hF (by simp) (by simp [lbss, AV.lbs, Doc.av]) (by simp [AV.lbs]) ?_
  unfold c_topiaryref_IsIn
  have hall := inD_all d n m
  simp only [Doc.av] at hI hW
  simp only [↓aX, evp, evq, evl, boxK, stillV, binV, AV.cells, mP, loadV, storeV, ldV, AV.stb, AV.one, IV.av1, Lb.app, Lb.fresh, reduceCtorEq, ptrL, appL, fillA, chunks, ivs, AV.iv, mkE, if_false, if_true, List.not_mem_nil, forall_eq, beq_self_eq_true, List.isEmpty_nil, Nat.reduceEqDiff, Nat.reduceLT, Nat.reduceLeDiff, Nat.reduceAdd, Nat.reduceMul, Int.reduceToNat, Int.reduceLE, Int.reduceLT, Doc.av]
  refine callT_pure hI ?_
  cases hi : isDoc d with
  | false =>
    rw [hi, Bool.false_and] at hall
    simp only [↓aX, evp, evq, evl, boxK, stillV, binV, AV.cells, mP, loadV, storeV, ldV, AV.stb, AV.one, IV.av1, Lb.app, Lb.fresh, reduceCtorEq, ptrL, appL, fillA, chunks, ivs, AV.iv, mkE, if_false, if_true, List.not_mem_nil, forall_eq, beq_self_eq_true, List.isEmpty_nil, Nat.reduceEqDiff, Nat.reduceLT, Nat.reduceLeDiff, Nat.reduceAdd, Nat.reduceMul, Int.reduceToNat, Int.reduceLE, Int.reduceLT, hall]
  | true =>
    by_cases h0 : 0 ≤ n
    case neg =>
      rw [decide_eq_false h0, Bool.false_and, Bool.and_false] at hall
      simp only [↓aX, evp, evq, evl, boxK, stillV, binV, AV.cells, mP, loadV, storeV, ldV, AV.stb, AV.one, IV.av1, Lb.app, Lb.fresh, reduceCtorEq, ptrL, appL, fillA, chunks, ivs, AV.iv, mkE, if_false, if_true, List.not_mem_nil, forall_eq, beq_self_eq_true, List.isEmpty_nil, Nat.reduceEqDiff, Nat.reduceLT, Nat.reduceLeDiff, Nat.reduceAdd, Nat.reduceMul, Int.reduceToNat, Int.reduceLE, Int.reduceLT, show decide (n ≥ 0) = false by simpa using h0, hall]
    simp only [↓aX, evp, evq, evl, boxK, stillV, binV, AV.cells, mP, loadV, storeV, ldV, AV.stb, AV.one, IV.av1, Lb.app, Lb.fresh, reduceCtorEq, ptrL, appL, fillA, chunks, ivs, AV.iv, mkE, if_false, if_true, List.not_mem_nil, forall_eq, beq_self_eq_true, List.isEmpty_nil, Nat.reduceEqDiff, Nat.reduceLT, Nat.reduceLeDiff, Nat.reduceAdd, Nat.reduceMul, Int.reduceToNat, Int.reduceLE, Int.reduceLT, show decide (n ≥ 0) = true by simpa using h0, List.length_map]
    by_cases h1 : n < (d.length : Int)
    case neg =>
      rw [decide_eq_false h1, Bool.false_and, Bool.and_false, Bool.and_false] at hall
      simp only [↓aX, evp, evq, evl, boxK, stillV, binV, AV.cells, mP, loadV, storeV, ldV, AV.stb, AV.one, IV.av1, Lb.app, Lb.fresh, reduceCtorEq, ptrL, appL, fillA, chunks, ivs, AV.iv, mkE, if_false, if_true, List.not_mem_nil, forall_eq, beq_self_eq_true, List.isEmpty_nil, Nat.reduceEqDiff, Nat.reduceLT, Nat.reduceLeDiff, Nat.reduceAdd, Nat.reduceMul, Int.reduceToNat, Int.reduceLE, Int.reduceLT, show decide (n < (d.length : Int)) = false by simpa using h1, hall]
    simp only [↓aX, evp, evq, evl, boxK, stillV, binV, AV.cells, mP, loadV, storeV, ldV, AV.stb, AV.one, IV.av1, Lb.app, Lb.fresh, reduceCtorEq, ptrL, appL, fillA, chunks, ivs, AV.iv, mkE, if_false, if_true, List.not_mem_nil, forall_eq, beq_self_eq_true, List.isEmpty_nil, Nat.reduceEqDiff, Nat.reduceLT, Nat.reduceLeDiff, Nat.reduceAdd, Nat.reduceMul, Int.reduceToNat, Int.reduceLE, Int.reduceLT, show decide (n < (d.length : Int)) = true by simpa using h1]
    by_cases h2 : 0 ≤ m
    case neg =>
      rw [decide_eq_false h2, Bool.false_and, Bool.and_false, Bool.and_false, Bool.and_false] at hall
      simp only [↓aX, evp, evq, evl, boxK, stillV, binV, AV.cells, mP, loadV, storeV, ldV, AV.stb, AV.one, IV.av1, Lb.app, Lb.fresh, reduceCtorEq, ptrL, appL, fillA, chunks, ivs, AV.iv, mkE, if_false, if_true, List.not_mem_nil, forall_eq, beq_self_eq_true, List.isEmpty_nil, Nat.reduceEqDiff, Nat.reduceLT, Nat.reduceLeDiff, Nat.reduceAdd, Nat.reduceMul, Int.reduceToNat, Int.reduceLE, Int.reduceLT, show decide (m ≥ 0) = false by simpa using h2, hall]
    simp only [↓aX, evp, evq, evl, boxK, stillV, binV, AV.cells, mP, loadV, storeV, ldV, AV.stb, AV.one, IV.av1, Lb.app, Lb.fresh, reduceCtorEq, ptrL, appL, fillA, chunks, ivs, AV.iv, mkE, if_false, if_true, List.not_mem_nil, forall_eq, beq_self_eq_true, List.isEmpty_nil, Nat.reduceEqDiff, Nat.reduceLT, Nat.reduceLeDiff, Nat.reduceAdd, Nat.reduceMul, Int.reduceToNat, Int.reduceLE, Int.reduceLT, show decide (m ≥ 0) = true by simpa using h2]
    refine callT_pure (hW hi h0 h1 h2) ?_
    simp only [↓aX, evp, evq, evl, boxK, stillV, binV, AV.cells, mP, loadV, storeV, ldV, AV.stb, AV.one, IV.av1, Lb.app, Lb.fresh, reduceCtorEq, ptrL, appL, fillA, chunks, ivs, AV.iv, mkE, if_false, if_true, List.not_mem_nil, forall_eq, beq_self_eq_true, List.isEmpty_nil, Nat.reduceEqDiff, Nat.reduceLT, Nat.reduceLeDiff, Nat.reduceAdd, Nat.reduceMul, Int.reduceToNat, Int.reduceLE, Int.reduceLT, show decide (m ≥ 0) = true by simpa using h2]
def c_topiaryref_EndOf (f_topiaryref_IsIn : Nat) : AC :=
(.seq (.reg [⟨(some 2), none, (.box (.t 0))⟩, ⟨(some 4), none, (.mov (.c (.int .i64 0)))⟩]) (.seq (.reg [⟨(some 5), none, (.mov (.c (.int .i64 0)))⟩]) (.seq (.seq (.reg [⟨(some 7), none, (.fld (.t 2) 0)⟩, ⟨(some 8), none, (.load none (.t 7))⟩, ⟨(some 9), none, (.len (.t 8))⟩, ⟨(some 10), none, (.mov (.c (.int .i64 0)))⟩]) (.block 0 (.loop (.seq (.reg [⟨(some 11), none, (.bin .lss (.t 10) (.t 9))⟩]) (.seq (.cond (.t 11) .skip (.exit 0)) (.seq (.block 1 (.seq (.reg [⟨(some 12), none, (.mov (.t 10))⟩, ⟨(some 6), none, (.mov (.t 12))⟩]) (.seq (.reg [⟨(some 13), none, (.load (some 1) (.t 2))⟩, ⟨(some 14), none, (.mov (.t 6))⟩, ⟨(some 15), none, (.mov (.t 1))⟩, ⟨(some 16), none, (.call f_topiaryref_IsIn [(.t 13), (.t 14), (.t 15)])⟩]) (.cond (.t 16) (.reg [⟨(some 17), none, (.mov (.t 6))⟩, ⟨(some 18), none, (.bin .add (.t 17) (.c (.int .i64 1)))⟩, ⟨(some 5), none, (.mov (.t 18))⟩]) .skip)))) (.reg [⟨(some 19), none, (.bin .add (.t 10) (.c (.int .i64 1)))⟩, ⟨(some 10), none, (.mov (.t 19))⟩]))))))) (.seq (.reg [⟨(some 20), none, (.mov (.t 5))⟩, ⟨(some 4), none, (.mov (.t 20))⟩]) .ret))))
theorem pEndOf {P : Program} {G : Nat → Option (List IV)} {f_topiaryref_EndOf f_topiaryref_IsIn : Nat} (hF : compF P G f_topiaryref_EndOf = some (21, [(none, 4)], (c_topiaryref_EndOf f_topiaryref_IsIn).bare)) (d : Doc) (hd : wtN d ≤ B) (m : Int)
    (hI : ∀ n : Int, PureC P G f_topiaryref_IsIn [Doc.av d, .int .i64 n, .int .i64 m] (.bool (inD d n m))) :
    PureC P G f_topiaryref_EndOf [Doc.av d, .int .i64 m] (.int .i64 (endD d m)) := by
  refine pure_of_go hF (by simp) (by simp [lbss, AV.lbs, Doc.av]) (by simp [AV.lbs]) ?_
  unfold c_topiaryref_EndOf
  have hdl := wtN_len d
  simp only [Doc.av] at hI
  simp only [↓aX, evp, evq, evl, boxK, stillV, binV, AV.cells, mP, loadV, storeV, ldV, AV.stb, AV.one, IV.av1, Lb.app, Lb.fresh, reduceCtorEq, ptrL, appL, fillA, chunks, ivs, AV.iv, mkE, if_false, if_true, List.not_mem_nil, forall_eq, beq_self_eq_true, List.isEmpty_nil, Nat.reduceEqDiff, Nat.reduceLT, Nat.reduceLeDiff, Nat.reduceAdd, Nat.reduceMul, Int.reduceToNat, Int.reduceLE, Int.reduceLT, Doc.av, List.length_map]
  refine loop_same (σ := { i : Nat // i ≤ d.length }) [.loc 2] (fun q => [(1, .int .i64 m), (2, .ptr (.loc 2) 1 0 0), (5, .int .i64 (endTo d m q.1)), (9, .int .i64 d.length), (10, .int .i64 q.1)])
    (fun _ => [(.loc 2, ⟨1, [[.list (d.map Node.iv)]]⟩)]) (fun q => d.length - q.1) ⟨0, by simp⟩ (fun _ => rfl) (by decide) (by simp [lbss, AV.lbs]) (by simp [lbss, AV.lbs]) ?_ ?_
  · exact WS_mk (by simp only [NFx_loc, NFx_none]) (by rw [endTo_zero]; repeat' constructor) (by repeat' constructor)
  · rintro ⟨i, hi⟩
    simp only [↓aX, evp, evq, evl, boxK, stillV, binV, AV.cells, mP, loadV, storeV, ldV, AV.stb, AV.one, IV.av1, Lb.app, Lb.fresh, reduceCtorEq, ptrL, appL, fillA, chunks, ivs, AV.iv, mkE, if_false, if_true, List.not_mem_nil, forall_eq, beq_self_eq_true, List.isEmpty_nil, Nat.reduceEqDiff, Nat.reduceLT, Nat.reduceLeDiff, Nat.reduceAdd, Nat.reduceMul, Int.reduceToNat, Int.reduceLE, Int.reduceLT, ofH_nil, ofH_cons]
    by_cases hlt : i < d.length
    · rw [show decide ((i : Int) < (d.length : Int)) = true by simpa using hlt]
      have hw : IntKind.i64.wrap ((i : Int) + 1) = ((i + 1 : Nat) : Int) := wrap64 (by omega) (by unfold B at hd; omega)
      have hst := endTo_step d m i
      simp only [↓aX, evp, evq, evl, boxK, stillV, binV, AV.cells, mP, loadV, storeV, ldV, AV.stb, AV.one, IV.av1, Lb.app, Lb.fresh, reduceCtorEq, ptrL, appL, fillA, chunks, ivs, AV.iv, mkE, if_false, if_true, List.not_mem_nil, forall_eq, beq_self_eq_true, List.isEmpty_nil, Nat.reduceEqDiff, Nat.reduceLT, Nat.reduceLeDiff, Nat.reduceAdd, Nat.reduceMul, Int.reduceToNat, Int.reduceLE, Int.reduceLT]
      refine callT_pure (hI i) ?_
      cases h : inD d i m with
      | true =>
        rw [h, if_pos rfl] at hst
        simp only [↓aX, evp, evq, evl, boxK, stillV, binV, AV.cells, mP, loadV, storeV, ldV, AV.stb, AV.one, IV.av1, Lb.app, Lb.fresh, reduceCtorEq, ptrL, appL, fillA, chunks, ivs, AV.iv, mkE, if_false, if_true, List.not_mem_nil, forall_eq, beq_self_eq_true, List.isEmpty_nil, Nat.reduceEqDiff, Nat.reduceLT, Nat.reduceLeDiff, Nat.reduceAdd, Nat.reduceMul, Int.reduceToNat, Int.reduceLE, Int.reduceLT, hw]
        refine ⟨⟨i + 1, by omega⟩, by simp only; omega, WS_mk (by simp only [NFx_loc, NFx_none]) (by simp only [hst]; repeat' constructor) (by repeat' constructor)⟩
      | false =>
        rw [h, if_neg (by decide)] at hst
        simp only [↓aX, evp, evq, evl, boxK, stillV, binV, AV.cells, mP, loadV, storeV, ldV, AV.stb, AV.one, IV.av1, Lb.app, Lb.fresh, reduceCtorEq, ptrL, appL, fillA, chunks, ivs, AV.iv, mkE, if_false, if_true, List.not_mem_nil, forall_eq, beq_self_eq_true, List.isEmpty_nil, Nat.reduceEqDiff, Nat.reduceLT, Nat.reduceLeDiff, Nat.reduceAdd, Nat.reduceMul, Int.reduceToNat, Int.reduceLE, Int.reduceLT, hw]
        refine ⟨⟨i + 1, by omega⟩, by simp only; omega, WS_mk (by simp only [NFx_loc, NFx_none]) (by simp only [hst]; repeat' constructor) (by repeat' constructor)⟩
    · have hil : i = d.length := by omega
      subst hil
      rw [show decide ((d.length : Int) < (d.length : Int)) = false by simp]
      simp only [↓aX, evp, evq, evl, boxK, stillV, binV, AV.cells, mP, loadV, storeV, ldV, AV.stb, AV.one, IV.av1, Lb.app, Lb.fresh, reduceCtorEq, ptrL, appL, fillA, chunks, ivs, AV.iv, mkE, if_false, if_true, List.not_mem_nil, forall_eq, beq_self_eq_true, List.isEmpty_nil, Nat.reduceEqDiff, Nat.reduceLT, Nat.reduceLeDiff, Nat.reduceAdd, Nat.reduceMul, Int.reduceToNat, Int.reduceLE, Int.reduceLT, endTo_all]
def c_topiaryref_StringOf (f_topiaryref_IsIn : Nat) : AC :=
(.seq (.reg [⟨(some 2), none, (.box (.t 0))⟩, ⟨(some 4), none, (.mov (.c (.str [])))⟩]) (.seq (.reg [⟨(some 5), none, (.mov (.c (.str [])))⟩]) (.seq (.seq (.reg [⟨(some 8), none, (.fld (.t 2) 0)⟩, ⟨(some 9), none, (.load none (.t 8))⟩, ⟨(some 10), none, (.len (.t 9))⟩, ⟨(some 11), none, (.mov (.c (.int .i64 0)))⟩]) (.block 0 (.loop (.seq (.reg [⟨(some 12), none, (.bin .lss (.t 11) (.t 10))⟩]) (.seq (.cond (.t 12) .skip (.exit 0)) (.seq (.block 1 (.seq (.reg [⟨(some 13), none, (.mov (.t 11))⟩, ⟨(some 14), none, (.ixa (.t 9) (.t 11) 5)⟩, ⟨(some 15), none, (.load (some 5) (.t 14))⟩, ⟨(some 7), none, (.new [(.bool false), (.str []), .nil0, (.int .i64 0), .nil0])⟩, ⟨(some 6), none, (.mov (.t 13))⟩, ⟨none, none, (.store 5 (.t 7) (.t 15))⟩]) (.seq (.reg [⟨(some 16), none, (.fld (.t 7) 0)⟩, ⟨(some 17), none, (.load none (.t 16))⟩, ⟨(some 18), none, (.mov (.t 17))⟩, ⟨(some 19), (some (18, true)), (.load (some 1) (.t 2))⟩, ⟨(some 20), (some (18, true)), (.mov (.t 6))⟩, ⟨(some 21), (some (18, true)), (.mov (.t 1))⟩, ⟨(some 22), (some (18, true)), (.call f_topiaryref_IsIn [(.t 19), (.t 20), (.t 21)])⟩, ⟨(some 23), none, (.pick (.t 18) (.t 22) (.c (.bool false)))⟩]) (.cond (.t 23) (.reg [⟨(some 24), none, (.mov (.t 5))⟩, ⟨(some 25), none, (.fld (.t 7) 1)⟩, ⟨(some 26), none, (.load none (.t 25))⟩, ⟨(some 27), none, (.bin .add (.t 24) (.t 26))⟩, ⟨(some 5), none, (.mov (.t 27))⟩]) .skip)))) (.reg [⟨(some 28), none, (.bin .add (.t 11) (.c (.int .i64 1)))⟩, ⟨(some 11), none, (.mov (.t 28))⟩]))))))) (.seq (.reg [⟨(some 29), none, (.mov (.t 5))⟩, ⟨(some 4), none, (.mov (.t 29))⟩]) .ret))))
theorem pStringOf {P : Program} {G : Nat → Option (List IV)} {f_topiaryref_StringOf f_topiaryref_IsIn : Nat} (hF : compF P G f_topiaryref_StringOf = some (30, [(none, 4)], (c_topiaryref_StringOf f_topiaryref_IsIn).bare)) (d : Doc) (hd : wtN d ≤ B) (m : Int)
    (hI : ∀ n : Int, PureC P G f_topiaryref_IsIn [Doc.av d, .int .i64 n, .int .i64 m] (.bool (inD d n m))) :
    PureC P G f_topiaryref_StringOf [Doc.av d, .int .i64 m] (.str (strD d m)) := by
  refine pure_of_go hF (by simp) (by simp [lbss, AV.lbs, Doc.av]) (by simp [AV.lbs]) ?_
  unfold c_topiaryref_StringOf
  have hdl := wtN_len d
  simp only [Doc.av] at hI
  simp only [↓aX, evp, evq, evl, boxK, stillV, binV, AV.cells, mP, loadV, storeV, ldV, AV.stb, AV.one, IV.av1, Lb.app, Lb.fresh, reduceCtorEq, ptrL, appL, fillA, chunks, ivs, AV.iv, mkE, if_false, if_true, List.not_mem_nil, forall_eq, beq_self_eq_true, List.isEmpty_nil, Nat.reduceEqDiff, Nat.reduceLT, Nat.reduceLeDiff, Nat.reduceAdd, Nat.reduceMul, Int.reduceToNat, Int.reduceLE, Int.reduceLT, Doc.av, List.length_map]
  refine loop_same (σ := { i : Nat // i ≤ d.length }) [.loc 2] (fun q => [(1, .int .i64 m), (2, .ptr (.loc 2) 1 0 0), (5, .str (strTo d m q.1)), (9, .list (d.map Node.iv)), (10, .int .i64 d.length), (11, .int .i64 q.1)])
    (fun _ => [(.loc 2, ⟨1, [[.list (d.map Node.iv)]]⟩)]) (fun q => d.length - q.1) ⟨0, by simp⟩ (fun _ => rfl) (by decide) (by simp [lbss, AV.lbs]) (by simp [lbss, AV.lbs]) ?_ ?_
  · exact WS_mk (by simp only [NFx_loc, NFx_none]) (by rw [strTo_zero]; repeat' constructor) (by repeat' constructor)
  · rintro ⟨i, hi⟩
    simp only [↓aX, evp, evq, evl, boxK, stillV, binV, AV.cells, mP, loadV, storeV, ldV, AV.stb, AV.one, IV.av1, Lb.app, Lb.fresh, reduceCtorEq, ptrL, appL, fillA, chunks, ivs, AV.iv, mkE, if_false, if_true, List.not_mem_nil, forall_eq, beq_self_eq_true, List.isEmpty_nil, Nat.reduceEqDiff, Nat.reduceLT, Nat.reduceLeDiff, Nat.reduceAdd, Nat.reduceMul, Int.reduceToNat, Int.reduceLE, Int.reduceLT, ofH_nil, ofH_cons, List.length_map]
    by_cases hlt : i < d.length
    · rw [show decide ((i : Int) < (d.length : Int)) = true by simpa using hlt]
      obtain ⟨x, hx⟩ : ∃ x, d[i]? = some x := ⟨_, List.getElem?_eq_getElem hlt⟩
      have hw : IntKind.i64.wrap ((i : Int) + 1) = ((i + 1 : Nat) : Int) := wrap64 (by omega) (by unfold B at hd; omega)
      have hst := strTo_step (m := m) hx
      have hb : (strTo d m i).length + x.s.length ≤ 9223372036854775807 := by
        have h2 := told_wt ((d.drop m.toNat).take (min i (endD d m).toNat - m.toNat))
        have h3 := wtN_sub d m.toNat (min i (endD d m).toNat - m.toNat)
        have h4 := wtN_mem (List.mem_of_getElem? hx)
        simp only [Node.wt] at h4
        unfold strTo
        unfold B at hd; omega
      have nf : ∀ l : Lb, l.fresh = true → l ≠ .loc 2 → True := fun _ _ _ => trivial
      simp only [↓aX, evp, evq, evl, boxK, stillV, binV, AV.cells, mP, loadV, storeV, ldV, AV.stb, AV.one, IV.av1, Lb.app, Lb.fresh, reduceCtorEq, ptrL, appL, fillA, chunks, ivs, AV.iv, mkE, if_false, if_true, List.not_mem_nil, forall_eq, beq_self_eq_true, List.isEmpty_nil, Nat.reduceEqDiff, Nat.reduceLT, Nat.reduceLeDiff, Nat.reduceAdd, Nat.reduceMul, Int.reduceToNat, Int.reduceLE, Int.reduceLT, Doc.get_iv hx, elszN, Node.cells_eq, Node.cs]
      cases ht : x.text with
      | false =>
        rw [if_neg (by simp [ht]), List.append_nil] at hst
        simp only [↓aX, evp, evq, evl, boxK, stillV, binV, AV.cells, mP, loadV, storeV, ldV, AV.stb, AV.one, IV.av1, Lb.app, Lb.fresh, reduceCtorEq, ptrL, appL, fillA, chunks, ivs, AV.iv, mkE, if_false, if_true, List.not_mem_nil, forall_eq, beq_self_eq_true, List.isEmpty_nil, Nat.reduceEqDiff, Nat.reduceLT, Nat.reduceLeDiff, Nat.reduceAdd, Nat.reduceMul, Int.reduceToNat, Int.reduceLE, Int.reduceLT, hw]
        refine ⟨⟨i + 1, by omega⟩, by simp only; omega, WS_mk ?_ (by simp only [hst]; repeat' constructor) ⟨rfl, trivial⟩⟩
        intro l hl2 hu
        by_cases e0 : l = .loc 2
        · subst e0; simp
        · exfalso; apply hu; cases l <;> simp_all [Lb.fresh, upd_at, Hp.none]
      | true =>
        simp only [↓aX, evp, evq, evl, boxK, stillV, binV, AV.cells, mP, loadV, storeV, ldV, AV.stb, AV.one, IV.av1, Lb.app, Lb.fresh, reduceCtorEq, ptrL, appL, fillA, chunks, ivs, AV.iv, mkE, if_false, if_true, List.not_mem_nil, forall_eq, beq_self_eq_true, List.isEmpty_nil, Nat.reduceEqDiff, Nat.reduceLT, Nat.reduceLeDiff, Nat.reduceAdd, Nat.reduceMul, Int.reduceToNat, Int.reduceLE, Int.reduceLT]
        refine callT_pure (hI i) ?_
        cases h : inD d i m with
        | true =>
          rw [if_pos ⟨ht, h⟩] at hst
          simp only [↓aX, evp, evq, evl, boxK, stillV, binV, AV.cells, mP, loadV, storeV, ldV, AV.stb, AV.one, IV.av1, Lb.app, Lb.fresh, reduceCtorEq, ptrL, appL, fillA, chunks, ivs, AV.iv, mkE, if_false, if_true, List.not_mem_nil, forall_eq, beq_self_eq_true, List.isEmpty_nil, Nat.reduceEqDiff, Nat.reduceLT, Nat.reduceLeDiff, Nat.reduceAdd, Nat.reduceMul, Int.reduceToNat, Int.reduceLE, Int.reduceLT, hw, hb]
          refine ⟨⟨i + 1, by omega⟩, by simp only; omega, WS_mk ?_ (by simp only [hst]; repeat' constructor) ⟨rfl, trivial⟩⟩
          intro l hl2 hu
          by_cases e0 : l = .loc 2
          · subst e0; simp
          · exfalso; apply hu; cases l <;> simp_all [Lb.fresh, upd_at, Hp.none]
        | false =>
          rw [if_neg (by simp [h]), List.append_nil] at hst
          simp only [↓aX, evp, evq, evl, boxK, stillV, binV, AV.cells, mP, loadV, storeV, ldV, AV.stb, AV.one, IV.av1, Lb.app, Lb.fresh, reduceCtorEq, ptrL, appL, fillA, chunks, ivs, AV.iv, mkE, if_false, if_true, List.not_mem_nil, forall_eq, beq_self_eq_true, List.isEmpty_nil, Nat.reduceEqDiff, Nat.reduceLT, Nat.reduceLeDiff, Nat.reduceAdd, Nat.reduceMul, Int.reduceToNat, Int.reduceLE, Int.reduceLT, hw]
          refine ⟨⟨i + 1, by omega⟩, by simp only; omega, WS_mk ?_ (by simp only [hst]; repeat' constructor) ⟨rfl, trivial⟩⟩
          intro l hl2 hu
          by_cases e0 : l = .loc 2
          · subst e0; simp
          · exfalso; apply hu; cases l <;> simp_all [Lb.fresh, upd_at, Hp.none]
    · have hil : i = d.length := by omega
      subst hil
      rw [show decide ((d.length : Int) < (d.length : Int)) = false by simp]
      simp only [↓aX, evp, evq, evl, boxK, stillV, binV, AV.cells, mP, loadV, storeV, ldV, AV.stb, AV.one, IV.av1, Lb.app, Lb.fresh, reduceCtorEq, ptrL, appL, fillA, chunks, ivs, AV.iv, mkE, if_false, if_true, List.not_mem_nil, forall_eq, beq_self_eq_true, List.isEmpty_nil, Nat.reduceEqDiff, Nat.reduceLT, Nat.reduceLeDiff, Nat.reduceAdd, Nat.reduceMul, Int.reduceToNat, Int.reduceLE, Int.reduceLT, strTo_all]
def c_topiarylaw_DocTells (f_topiaryref_CopyDoc f_doc_Tree f_topiaryref_TreeAt f_topiaryref_SameTree f_doc_Good f_topiaryref_IsDoc f_doc_End f_topiaryref_EndOf f_doc_In f_topiaryref_IsIn f_doc_String f_topiaryref_StringOf f_topiaryref_SameDoc f_topiarylaw_docs : Nat) : AC :=
(.seq (.reg [⟨(some 3), none, (.box (.t 0))⟩, ⟨(some 6), none, (.mov (.c (.bool false)))⟩]) (.seq (.reg [⟨(some 12), none, (.load (some 1) (.t 3))⟩, ⟨(some 13), none, (.call f_topiaryref_CopyDoc [(.t 12)])⟩, ⟨(some 7), none, (.new [.nil0])⟩, ⟨none, none, (.store 1 (.t 7) (.t 13))⟩]) (.seq (.reg [⟨(some 15), none, (.load (some 1) (.t 7))⟩, ⟨(some 16), none, (.mov (.t 1))⟩, ⟨(some 17), none, (.call f_doc_Tree [(.t 15), (.t 16)])⟩, ⟨(some 14), none, (.mov (.t 17))⟩, ⟨(some 18), none, (.ext (.t 14) 0)⟩, ⟨(some 19), none, (.ext (.t 14) 1)⟩, ⟨(some 8), none, (.new [(.bool false), (.str []), .nil0, .nil0])⟩, ⟨none, none, (.store 4 (.t 8) (.t 18))⟩, ⟨(some 9), none, (.mov (.t 19))⟩]) (.seq (.reg [⟨(some 21), none, (.load (some 1) (.t 3))⟩, ⟨(some 22), none, (.mov (.t 1))⟩, ⟨(some 23), none, (.call f_topiaryref_TreeAt [(.t 21), (.t 22)])⟩, ⟨(some 20), none, (.mov (.t 23))⟩, ⟨(some 24), none, (.ext (.t 20) 0)⟩, ⟨(some 25), none, (.ext (.t 20) 1)⟩, ⟨(some 10), none, (.new [(.bool false), (.str []), .nil0, .nil0])⟩, ⟨none, none, (.store 4 (.t 10) (.t 24))⟩, ⟨(some 11), none, (.mov (.t 25))⟩]) (.seq (.dreg [⟨(some 26), none, (.load (some 4) (.t 8))⟩, ⟨(some 27), none, (.load (some 4) (.t 10))⟩, ⟨(some 28), none, (.call f_topiaryref_SameTree [(.t 26), (.t 27)])⟩, ⟨(some 29), none, (.mov (.t 28))⟩, ⟨(some 30), (some (29, true)), (.mov (.t 9))⟩, ⟨(some 31), (some (29, true)), (.mov (.t 11))⟩, ⟨(some 32), (some (29, true)), (.bin .eql (.t 30) (.t 31))⟩, ⟨(some 33), none, (.pick (.t 29) (.t 32) (.c (.bool false)))⟩, ⟨(some 34), none, (.mov (.t 33))⟩, ⟨(some 35), (some (34, true)), (.load (some 1) (.t 7))⟩, ⟨(some 36), (some (34, true)), (.call f_doc_Good [(.t 35)])⟩, ⟨(some 37), (some (34, true)), (.load (some 1) (.t 3))⟩, ⟨(some 38), (some (34, true)), (.call f_topiaryref_IsDoc [(.t 37)])⟩, ⟨(some 39), (some (34, true)), (.eqb false (.t 36) (.t 38))⟩, ⟨(some 40), none, (.pick (.t 34) (.t 39) (.c (.bool false)))⟩, ⟨(some 41), none, (.mov (.t 40))⟩, ⟨(some 42), (some (41, true)), (.load (some 1) (.t 7))⟩, ⟨(some 43), (some (41, true)), (.mov (.t 1))⟩, ⟨(some 44), (some (41, true)), (.call f_doc_End [(.t 42), (.t 43)])⟩, ⟨(some 45), (some (41, true)), (.load (some 1) (.t 3))⟩, ⟨(some 46), (some (41, true)), (.mov (.t 1))⟩, ⟨(some 47), (some (41, true)), (.call f_topiaryref_EndOf [(.t 45), (.t 46)])⟩, ⟨(some 48), (some (41, true)), (.bin .eql (.t 44) (.t 47))⟩, ⟨(some 49), none, (.pick (.t 41) (.t 48) (.c (.bool false)))⟩, ⟨(some 50), none, (.mov (.t 49))⟩, ⟨(some 51), (some (50, true)), (.load (some 1) (.t 7))⟩, ⟨(some 52), (some (50, true)), (.mov (.t 1))⟩, ⟨(some 53), (some (50, true)), (.mov (.t 2))⟩, ⟨(some 54), (some (50, true)), (.call f_doc_In [(.t 51), (.t 52), (.t 53)])⟩, ⟨(some 55), (some (50, true)), (.load (some 1) (.t 3))⟩, ⟨(some 56), (some (50, true)), (.mov (.t 1))⟩, ⟨(some 57), (some (50, true)), (.mov (.t 2))⟩, ⟨(some 58), (some (50, true)), (.call f_topiaryref_IsIn [(.t 55), (.t 56), (.t 57)])⟩, ⟨(some 59), (some (50, true)), (.eqb false (.t 54) (.t 58))⟩, ⟨(some 60), none, (.pick (.t 50) (.t 59) (.c (.bool false)))⟩, ⟨(some 61), none, (.mov (.t 60))⟩, ⟨(some 62), (some (61, true)), (.load (some 1) (.t 7))⟩, ⟨(some 63), (some (61, true)), (.mov (.t 1))⟩, ⟨(some 64), (some (61, true)), (.call f_doc_String [(.t 62), (.t 63)])⟩, ⟨(some 65), (some (61, true)), (.load (some 1) (.t 3))⟩, ⟨(some 66), (some (61, true)), (.mov (.t 1))⟩, ⟨(some 67), (some (61, true)), (.call f_topiaryref_StringOf [(.t 65), (.t 66)])⟩, ⟨(some 68), (some (61, true)), (.bin .eql (.t 64) (.t 67))⟩, ⟨(some 69), none, (.pick (.t 61) (.t 68) (.c (.bool false)))⟩, ⟨(some 70), none, (.mov (.t 69))⟩, ⟨(some 71), (some (70, true)), (.load (some 1) (.t 7))⟩, ⟨(some 72), (some (70, true)), (.load (some 1) (.t 3))⟩, ⟨(some 73), (some (70, true)), (.call f_topiaryref_SameDoc [(.t 71), (.t 72)])⟩, ⟨(some 74), none, (.pick (.t 70) (.t 73) (.c (.bool false)))⟩, ⟨(some 75), none, (.mov (.t 74))⟩, ⟨(some 76), (some (75, true)), (.call f_topiarylaw_docs [])⟩, ⟨(some 77), none, (.pick (.t 75) (.t 76) (.c (.bool false)))⟩, ⟨(some 6), none, (.mov (.t 77))⟩] [[], [], [0, 1], [2, 2], [3], [3], [4, 5, 3], [3, 6], [7, 3], [8], [9, 8, 8], [8], [11, 10, 8], [10, 12, 8], [8, 13], [14, 12], [15], [15], [16, 17, 15, 15], [15], [15], [19, 20, 18, 15], [18, 21, 15], [15, 22], [23, 21], [24], [24], [24], [25, 26, 27, 24, 24], [24], [24], [24], [29, 30, 31, 28, 24], [28, 32, 24], [24, 33], [34, 32], [35], [35], [36, 37, 35, 35], [35], [35], [39, 40, 38, 35], [38, 41, 35], [35, 42], [43, 41], [44], [44], [45, 46, 44, 44], [44, 47], [48, 47], [49, 49], [49, 50], [51, 50, 0, 1, 2, 3, 4, 5, 6, 7, 8, 9, 10, 11, 12, 13, 14, 15, 16, 17, 18, 19, 20, 21, 22, 23, 24, 25, 26, 27, 28, 29, 30, 31, 32, 33, 34, 35, 36, 37, 38, 39, 40, 41, 42, 43, 44, 45, 46, 47, 48, 49, 50, 51]] [.rw [.loc 8] [], .rw [.loc 10] [], .no, .no, .no, .no, .no, .no, .no, .rw [.loc 7] [], .no, .rw [.loc 3] [], .no, .no, .no, .no, .rw [.loc 7] [], .no, .no, .rw [.loc 3] [], .no, .no, .no, .no, .no, .rw [.loc 7] [], .no, .no, .no, .rw [.loc 3] [], .no, .no, .no, .no, .no, .no, .rw [.loc 7] [], .no, .no, .rw [.loc 3] [], .no, .no, .no, .no, .no, .rw [.loc 7] [], .rw [.loc 3] [], .no, .no, .no, .no, .no, .no]) .ret)))))
theorem treeD_wt {d : Doc} (n : Int) : (treeD d n).1.wt ≤ wtN d + 1 := by
  by_cases h : isDoc d = true ∧ 0 ≤ n ∧ n < d.length
  · obtain ⟨h1, h2, h3⟩ := h
    obtain ⟨t, ht, rfl⟩ := isDoc_iff.1 h1
    obtain ⟨k, rfl⟩ := Int.eq_ofNat_of_zero_le h2
    obtain ⟨q, y, l, s⟩ := lies_doc (t := t) (n := k) (by omega)
    rw [treeD_of ht s]
    have := l.wt
    simp only; omega
  · have : (treeD d n).1 = .mk false [] [] [] := by
      unfold treeD
      split
      · rw [if_neg (by intro h2; exact h ⟨by assumption, h2⟩)]
      · rfl
    rw [this]
    simp [Tree.wt, wtA, wtT]
theorem pDocTells {P : Program} {G : Nat → Option (List IV)} {f_topiarylaw_DocTells f_topiaryref_CopyDoc f_doc_Tree f_topiaryref_TreeAt f_topiaryref_SameTree f_doc_Good f_topiaryref_IsDoc f_doc_End f_topiaryref_EndOf f_doc_In f_topiaryref_IsIn f_doc_String f_topiaryref_StringOf f_topiaryref_SameDoc f_topiarylaw_docs : Nat} (hF : compF P G f_topiarylaw_DocTells = some (78, [(none, 6)], (c_topiarylaw_DocTells f_topiaryref_CopyDoc f_doc_Tree f_topiaryref_TreeAt f_topiaryref_SameTree f_doc_Good f_topiaryref_IsDoc f_doc_End f_topiaryref_EndOf f_doc_In f_topiaryref_IsIn f_doc_String f_topiaryref_StringOf f_topiaryref_SameDoc f_topiarylaw_docs).bare)) (d : Doc) (n m : Int)
    (h1 : PureC P G f_topiaryref_CopyDoc [Doc.av d] (Doc.av d))
    (h2 : PureC P G f_doc_Tree [Doc.av d, .int .i64 n] (.tup [(treeD d n).1.av, .int .i64 (treeD d n).2])) (h3 : PureC P G f_topiaryref_TreeAt [Doc.av d, .int .i64 n] (.tup [(treeD d n).1.av, .int .i64 (treeD d n).2]))
    (h4 : PureC P G f_topiaryref_SameTree [(treeD d n).1.av, (treeD d n).1.av] (.bool (eqB (treeD d n).1 (treeD d n).1)))
    (h5 : PureC P G f_doc_Good [Doc.av d] (.bool (isDoc d))) (h6 : PureC P G f_topiaryref_IsDoc [Doc.av d] (.bool (isDoc d)))
    (h7 : PureC P G f_doc_End [Doc.av d, .int .i64 n] (.int .i64 (endD d n))) (h8 : PureC P G f_topiaryref_EndOf [Doc.av d, .int .i64 n] (.int .i64 (endD d n)))
    (h9 : PureC P G f_doc_In [Doc.av d, .int .i64 n, .int .i64 m] (.bool (inD d n m))) (h10 : PureC P G f_topiaryref_IsIn [Doc.av d, .int .i64 n, .int .i64 m] (.bool (inD d n m)))
    (h11 : PureC P G f_doc_String [Doc.av d, .int .i64 n] (.str (strD d n))) (h12 : PureC P G f_topiaryref_StringOf [Doc.av d, .int .i64 n] (.str (strD d n)))
    (h13 : PureC P G f_topiaryref_SameDoc [Doc.av d, Doc.av d] (.bool (eqB d d))) (h14 : PureC P G f_topiarylaw_docs [] (.bool true)) :
    PureC P G f_topiarylaw_DocTells [Doc.av d, .int .i64 n, .int .i64 m] (.bool true) := by
  refine pure_of_go hF (by simp) (by simp [lbss, AV.lbs, Doc.av]) (by simp [AV.lbs]) ?_
  unfold c_topiarylaw_DocTells
  rw [eqB_self] at h4 h13
  simp only [Tree.av, Doc.av] at h1 h2 h3 h4 h5 h6 h7 h8 h9 h10 h11 h12 h13
  simp only [↓aX, evp, evq, evl, boxK, stillV, binV, AV.cells, mP, loadV, storeV, ldV, AV.stb, AV.one, IV.av1, Lb.app, Lb.fresh, reduceCtorEq, ptrL, appL, fillA, chunks, ivs, AV.iv, mkE, if_false, if_true, List.not_mem_nil, forall_eq, beq_self_eq_true, List.isEmpty_nil, Nat.reduceEqDiff, Nat.reduceLT, Nat.reduceLeDiff, Nat.reduceAdd, Nat.reduceMul, Int.reduceToNat, Int.reduceLE, Int.reduceLT, Doc.av]
  refine callT_pure h1 ?_
  simp only [↓aX, evp, evq, evl, boxK, stillV, binV, AV.cells, mP, loadV, storeV, ldV, AV.stb, AV.one, IV.av1, Lb.app, Lb.fresh, reduceCtorEq, ptrL, appL, fillA, chunks, ivs, AV.iv, mkE, if_false, if_true, List.not_mem_nil, forall_eq, beq_self_eq_true, List.isEmpty_nil, Nat.reduceEqDiff, Nat.reduceLT, Nat.reduceLeDiff, Nat.reduceAdd, Nat.reduceMul, Int.reduceToNat, Int.reduceLE, Int.reduceLT]
  refine callT_pure h2 ?_
  simp only [↓aX, evp, evq, evl, boxK, stillV, binV, AV.cells, mP, loadV, storeV, ldV, AV.stb, AV.one, IV.av1, Lb.app, Lb.fresh, reduceCtorEq, ptrL, appL, fillA, chunks, ivs, AV.iv, mkE, if_false, if_true, List.not_mem_nil, forall_eq, beq_self_eq_true, List.isEmpty_nil, Nat.reduceEqDiff, Nat.reduceLT, Nat.reduceLeDiff, Nat.reduceAdd, Nat.reduceMul, Int.reduceToNat, Int.reduceLE, Int.reduceLT]
  refine callT_pure h3 ?_
  simp only [↓aX, evp, evq, evl, boxK, stillV, binV, AV.cells, mP, loadV, storeV, ldV, AV.stb, AV.one, IV.av1, Lb.app, Lb.fresh, reduceCtorEq, ptrL, appL, fillA, chunks, ivs, AV.iv, mkE, if_false, if_true, List.not_mem_nil, forall_eq, beq_self_eq_true, List.isEmpty_nil, Nat.reduceEqDiff, Nat.reduceLT, Nat.reduceLeDiff, Nat.reduceAdd, Nat.reduceMul, Int.reduceToNat, Int.reduceLE, Int.reduceLT]
  refine ⟨rfl, puK_in h4 ?_⟩
  simp only [↓aX, evp, evq, evl, boxK, stillV, binV, AV.cells, mP, loadV, storeV, ldV, AV.stb, AV.one, IV.av1, Lb.app, Lb.fresh, reduceCtorEq, ptrL, appL, fillA, chunks, ivs, AV.iv, mkE, if_false, if_true, List.not_mem_nil, forall_eq, beq_self_eq_true, List.isEmpty_nil, Nat.reduceEqDiff, Nat.reduceLT, Nat.reduceLeDiff, Nat.reduceAdd, Nat.reduceMul, Int.reduceToNat, Int.reduceLE, Int.reduceLT, Bool.false_xor]
  refine puK_in h5 ?_
  simp only [↓aX, evp, evq, evl, boxK, stillV, binV, AV.cells, mP, loadV, storeV, ldV, AV.stb, AV.one, IV.av1, Lb.app, Lb.fresh, reduceCtorEq, ptrL, appL, fillA, chunks, ivs, AV.iv, mkE, if_false, if_true, List.not_mem_nil, forall_eq, beq_self_eq_true, List.isEmpty_nil, Nat.reduceEqDiff, Nat.reduceLT, Nat.reduceLeDiff, Nat.reduceAdd, Nat.reduceMul, Int.reduceToNat, Int.reduceLE, Int.reduceLT]
  refine puK_in h6 ?_
  simp only [↓aX, evp, evq, evl, boxK, stillV, binV, AV.cells, mP, loadV, storeV, ldV, AV.stb, AV.one, IV.av1, Lb.app, Lb.fresh, reduceCtorEq, ptrL, appL, fillA, chunks, ivs, AV.iv, mkE, if_false, if_true, List.not_mem_nil, forall_eq, beq_self_eq_true, List.isEmpty_nil, Nat.reduceEqDiff, Nat.reduceLT, Nat.reduceLeDiff, Nat.reduceAdd, Nat.reduceMul, Int.reduceToNat, Int.reduceLE, Int.reduceLT, Bool.false_xor]
  refine puK_in h7 ?_
  simp only [↓aX, evp, evq, evl, boxK, stillV, binV, AV.cells, mP, loadV, storeV, ldV, AV.stb, AV.one, IV.av1, Lb.app, Lb.fresh, reduceCtorEq, ptrL, appL, fillA, chunks, ivs, AV.iv, mkE, if_false, if_true, List.not_mem_nil, forall_eq, beq_self_eq_true, List.isEmpty_nil, Nat.reduceEqDiff, Nat.reduceLT, Nat.reduceLeDiff, Nat.reduceAdd, Nat.reduceMul, Int.reduceToNat, Int.reduceLE, Int.reduceLT]
  refine puK_in h8 ?_
  simp only [↓aX, evp, evq, evl, boxK, stillV, binV, AV.cells, mP, loadV, storeV, ldV, AV.stb, AV.one, IV.av1, Lb.app, Lb.fresh, reduceCtorEq, ptrL, appL, fillA, chunks, ivs, AV.iv, mkE, if_false, if_true, List.not_mem_nil, forall_eq, beq_self_eq_true, List.isEmpty_nil, Nat.reduceEqDiff, Nat.reduceLT, Nat.reduceLeDiff, Nat.reduceAdd, Nat.reduceMul, Int.reduceToNat, Int.reduceLE, Int.reduceLT]
  refine puK_in h9 ?_
  simp only [↓aX, evp, evq, evl, boxK, stillV, binV, AV.cells, mP, loadV, storeV, ldV, AV.stb, AV.one, IV.av1, Lb.app, Lb.fresh, reduceCtorEq, ptrL, appL, fillA, chunks, ivs, AV.iv, mkE, if_false, if_true, List.not_mem_nil, forall_eq, beq_self_eq_true, List.isEmpty_nil, Nat.reduceEqDiff, Nat.reduceLT, Nat.reduceLeDiff, Nat.reduceAdd, Nat.reduceMul, Int.reduceToNat, Int.reduceLE, Int.reduceLT]
  refine puK_in h10 ?_
  simp only [↓aX, evp, evq, evl, boxK, stillV, binV, AV.cells, mP, loadV, storeV, ldV, AV.stb, AV.one, IV.av1, Lb.app, Lb.fresh, reduceCtorEq, ptrL, appL, fillA, chunks, ivs, AV.iv, mkE, if_false, if_true, List.not_mem_nil, forall_eq, beq_self_eq_true, List.isEmpty_nil, Nat.reduceEqDiff, Nat.reduceLT, Nat.reduceLeDiff, Nat.reduceAdd, Nat.reduceMul, Int.reduceToNat, Int.reduceLE, Int.reduceLT, Bool.false_xor]
  refine puK_in h11 ?_
  simp only [↓aX, evp, evq, evl, boxK, stillV, binV, AV.cells, mP, loadV, storeV, ldV, AV.stb, AV.one, IV.av1, Lb.app, Lb.fresh, reduceCtorEq, ptrL, appL, fillA, chunks, ivs, AV.iv, mkE, if_false, if_true, List.not_mem_nil, forall_eq, beq_self_eq_true, List.isEmpty_nil, Nat.reduceEqDiff, Nat.reduceLT, Nat.reduceLeDiff, Nat.reduceAdd, Nat.reduceMul, Int.reduceToNat, Int.reduceLE, Int.reduceLT]
  refine puK_in h12 ?_
  simp only [↓aX, evp, evq, evl, boxK, stillV, binV, AV.cells, mP, loadV, storeV, ldV, AV.stb, AV.one, IV.av1, Lb.app, Lb.fresh, reduceCtorEq, ptrL, appL, fillA, chunks, ivs, AV.iv, mkE, if_false, if_true, List.not_mem_nil, forall_eq, beq_self_eq_true, List.isEmpty_nil, Nat.reduceEqDiff, Nat.reduceLT, Nat.reduceLeDiff, Nat.reduceAdd, Nat.reduceMul, Int.reduceToNat, Int.reduceLE, Int.reduceLT]
  refine puK_in h13 ?_
  simp only [↓aX, evp, evq, evl, boxK, stillV, binV, AV.cells, mP, loadV, storeV, ldV, AV.stb, AV.one, IV.av1, Lb.app, Lb.fresh, reduceCtorEq, ptrL, appL, fillA, chunks, ivs, AV.iv, mkE, if_false, if_true, List.not_mem_nil, forall_eq, beq_self_eq_true, List.isEmpty_nil, Nat.reduceEqDiff, Nat.reduceLT, Nat.reduceLeDiff, Nat.reduceAdd, Nat.reduceMul, Int.reduceToNat, Int.reduceLE, Int.reduceLT]
  refine puK_in h14 ?_
  simp only [↓aX, evp, evq, evl, boxK, stillV, binV, AV.cells, mP, loadV, storeV, ldV, AV.stb, AV.one, IV.av1, Lb.app, Lb.fresh, reduceCtorEq, ptrL, appL, fillA, chunks, ivs, AV.iv, mkE, if_false, if_true, List.not_mem_nil, forall_eq, beq_self_eq_true, List.isEmpty_nil, Nat.reduceEqDiff, Nat.reduceLT, Nat.reduceLeDiff, Nat.reduceAdd, Nat.reduceMul, Int.reduceToNat, Int.reduceLE, Int.reduceLT]
end Go.Am
