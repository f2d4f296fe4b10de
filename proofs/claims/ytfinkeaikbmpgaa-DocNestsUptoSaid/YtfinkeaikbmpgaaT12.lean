import Derived.Test.YtfinkeaikbmpgaaKD1
set_option linter.unusedSimpArgs false
set_option linter.unusedVariables false
set_option linter.unnecessarySimpa false
set_option linter.defProp false
/- Are two trees alike? TreeOnce. -/
namespace Go.Am
open Go Go.RowKit

def c_topiarykeep_same (f_topiarykeep_sames : Nat) : AC :=
(.seq (.reg [⟨(some 2), none, (.box (.t 0))⟩, ⟨(some 3), none, (.box (.t 1))⟩, ⟨(some 4), none, (.mov (.c (.bool false)))⟩]) (.seq (.seq (.reg [⟨(some 6), none, (.fld (.t 2) 0)⟩, ⟨(some 7), none, (.load none (.t 6))⟩, ⟨(some 8), none, (.fld (.t 3) 0)⟩, ⟨(some 9), none, (.load none (.t 8))⟩, ⟨(some 10), none, (.eqb true (.t 7) (.t 9))⟩, ⟨(some 11), none, (.mov (.t 10))⟩, ⟨(some 12), (some (11, false)), (.fld (.t 2) 1)⟩, ⟨(some 13), (some (11, false)), (.load none (.t 12))⟩, ⟨(some 14), (some (11, false)), (.fld (.t 3) 1)⟩, ⟨(some 15), (some (11, false)), (.load none (.t 14))⟩, ⟨(some 16), (some (11, false)), (.bin .neq (.t 13) (.t 15))⟩, ⟨(some 17), none, (.pick (.t 11) (.c (.bool true)) (.t 16))⟩, ⟨(some 18), none, (.mov (.t 17))⟩, ⟨(some 19), (some (18, false)), (.fld (.t 2) 2)⟩, ⟨(some 20), (some (18, false)), (.load none (.t 19))⟩, ⟨(some 21), (some (18, false)), (.len (.t 20))⟩, ⟨(some 22), (some (18, false)), (.fld (.t 3) 2)⟩, ⟨(some 23), (some (18, false)), (.load none (.t 22))⟩, ⟨(some 24), (some (18, false)), (.len (.t 23))⟩, ⟨(some 25), (some (18, false)), (.bin .neq (.t 21) (.t 24))⟩, ⟨(some 26), none, (.pick (.t 18) (.c (.bool true)) (.t 25))⟩]) (.cond (.t 26) (.seq (.reg [⟨(some 4), none, (.mov (.c (.bool false)))⟩]) .ret) .skip)) (.seq (.seq (.reg [⟨(some 27), none, (.fld (.t 2) 2)⟩, ⟨(some 28), none, (.load none (.t 27))⟩, ⟨(some 29), none, (.len (.t 28))⟩, ⟨(some 30), none, (.mov (.c (.int .i64 0)))⟩]) (.block 0 (.loop (.seq (.reg [⟨(some 31), none, (.bin .lss (.t 30) (.t 29))⟩]) (.seq (.cond (.t 31) .skip (.exit 0)) (.seq (.block 1 (.seq (.reg [⟨(some 32), none, (.mov (.t 30))⟩, ⟨(some 5), none, (.mov (.t 32))⟩]) (.seq (.dreg [⟨(some 33), none, (.fld (.t 2) 2)⟩, ⟨(some 34), none, (.load none (.t 33))⟩, ⟨(some 35), none, (.mov (.t 5))⟩, ⟨(some 36), none, (.ixa (.t 34) (.t 35) 2)⟩, ⟨(some 37), none, (.load (some 2) (.t 36))⟩, ⟨(some 38), none, (.fld (.t 3) 2)⟩, ⟨(some 39), none, (.load none (.t 38))⟩, ⟨(some 40), none, (.mov (.t 5))⟩, ⟨(some 41), none, (.ixa (.t 39) (.t 40) 2)⟩, ⟨(some 42), none, (.load (some 2) (.t 41))⟩, ⟨(some 43), none, (.eqst true [.s, .s] (.t 37) (.t 42))⟩] [[], [0], [], [1, 2], [3], [], [5], [], [6, 7], [8], [4, 9]] [.no, .rw [.loc 2] [], .no, .no, .no, .no, (.rw [.loc 3] []), .no, .no, .no, .no]) (.cond (.t 43) (.seq (.reg [⟨(some 4), none, (.mov (.c (.bool false)))⟩]) .ret) .skip)))) (.reg [⟨(some 44), none, (.bin .add (.t 30) (.c (.int .i64 1)))⟩, ⟨(some 30), none, (.mov (.t 44))⟩]))))))) (.seq (.reg [⟨(some 45), none, (.fld (.t 2) 3)⟩, ⟨(some 46), none, (.load none (.t 45))⟩, ⟨(some 47), none, (.fld (.t 3) 3)⟩, ⟨(some 48), none, (.load none (.t 47))⟩, ⟨(some 49), none, (.call f_topiarykeep_sames [(.t 46), (.t 48)])⟩, ⟨(some 4), none, (.mov (.t 49))⟩]) .ret))))

theorem pKeepSame {P : Program} {G : Nat → Option (List IV)} {f_topiarykeep_same f_topiarykeep_sames : Nat} (hF : compF P G f_topiarykeep_same = some (50, [(none, 4)], (c_topiarykeep_same f_topiarykeep_sames).bare)) (x y : Tree) (hx : x.attrs.length ≤ B)
    (hS : PureC P G f_topiarykeep_sames [.list (ivT x.kids), .list (ivT y.kids)] (.bool (eqB x.kids y.kids))) : PureC P G f_topiarykeep_same [x.av, y.av] (.bool (eqB x y)) := by
  refine pure_of_go hF (by simp) (by simp [lbss, AV.lbs, Tree.av]) (by simp [AV.lbs]) ?_
  unfold c_topiarykeep_same
  simp only [↓evs, evp, evq, evl, boxK, ↓a1_still, stillV, ↓af_still, ↓af_load, ↓af_store, ↓af_app, ↓af_new, ↓af_box, binV, AV.cells, Lb.loc.injEq, loadV, storeV, ldV, AV.stb, AV.one, IV.av1, Lb.app, Lb.fresh, reduceCtorEq, Bool.false_eq_true, ptrL, appL, fillA, chunks, ivs, AV.iv, mkE, if_false, if_true, List.not_mem_nil, forall_eq, Nat.reduceEqDiff, Nat.reduceLT, Nat.reduceLeDiff, Nat.reduceAdd, Nat.reduceMul, Int.reduceToNat, Int.reduceLE, Int.reduceLT, Int.le_refl, Int.toNat_zero, beq_self_eq_true, Tree.av]
  by_cases h1 : x.text = y.text
  · have e1 : (x.text == y.text) = true := by rw [h1]; simp
    simp only [e1, ↓evs, evp, evq, evl, boxK, ↓a1_still, stillV, ↓af_still, ↓af_load, ↓af_store, ↓af_app, ↓af_new, ↓af_box, binV, AV.cells, Lb.loc.injEq, loadV, storeV, ldV, AV.stb, AV.one, IV.av1, Lb.app, Lb.fresh, reduceCtorEq, Bool.false_eq_true, ptrL, appL, fillA, chunks, ivs, AV.iv, mkE, if_false, if_true, List.not_mem_nil, forall_eq, Nat.reduceEqDiff, Nat.reduceLT, Nat.reduceLeDiff, Nat.reduceAdd, Nat.reduceMul, Int.reduceToNat, Int.reduceLE, Int.reduceLT, Int.le_refl, Int.toNat_zero, beq_self_eq_true]
    by_cases h2 : x.s = y.s
    · have e2 : (x.s == y.s) = true := by rw [h2]; simp
      simp only [e2, ↓evs, evp, evq, evl, boxK, ↓a1_still, stillV, ↓af_still, ↓af_load, ↓af_store, ↓af_app, ↓af_new, ↓af_box, binV, AV.cells, Lb.loc.injEq, loadV, storeV, ldV, AV.stb, AV.one, IV.av1, Lb.app, Lb.fresh, reduceCtorEq, Bool.false_eq_true, ptrL, appL, fillA, chunks, ivs, AV.iv, mkE, if_false, if_true, List.not_mem_nil, forall_eq, Nat.reduceEqDiff, Nat.reduceLT, Nat.reduceLeDiff, Nat.reduceAdd, Nat.reduceMul, Int.reduceToNat, Int.reduceLE, Int.reduceLT, Int.le_refl, Int.toNat_zero, beq_self_eq_true, ivA_len]
      by_cases h3 : x.attrs.length = y.attrs.length
      · rw [show ((x.attrs.length : Int) != (y.attrs.length : Int)) = false by simp [h3]]
        simp only [↓evs, evp, evq, evl, boxK, ↓a1_still, stillV, ↓af_still, ↓af_load, ↓af_store, ↓af_app, ↓af_new, ↓af_box, binV, AV.cells, Lb.loc.injEq, loadV, storeV, ldV, AV.stb, AV.one, IV.av1, Lb.app, Lb.fresh, reduceCtorEq, Bool.false_eq_true, ptrL, appL, fillA, chunks, ivs, AV.iv, mkE, if_false, if_true, List.not_mem_nil, forall_eq, Nat.reduceEqDiff, Nat.reduceLT, Nat.reduceLeDiff, Nat.reduceAdd, Nat.reduceMul, Int.reduceToNat, Int.reduceLE, Int.reduceLT, Int.le_refl, Int.toNat_zero, beq_self_eq_true, ivA_len]
        refine loop_same (σ := { i : Nat // i ≤ x.attrs.length ∧ ∀ j, j < i → x.attrs[j]? = y.attrs[j]? }) [.loc 3, .loc 2] (fun q => [(2, .ptr (.loc 2) 4 0 0), (3, .ptr (.loc 3) 4 0 0), (29, .int .i64 x.attrs.length), (30, .int .i64 q.1)])
          (fun _ => [(.loc 3, ⟨4, [[.bool y.text, .str y.s, .list (ivA y.attrs), .list (ivT y.kids)]]⟩), (.loc 2, ⟨4, [[.bool x.text, .str x.s, .list (ivA x.attrs), .list (ivT x.kids)]]⟩)]) (fun q => x.attrs.length - q.1) ⟨0, by simp⟩
          (fun _ => rfl) (by decide) (by simp [lbss, AV.lbs]) (by simp [lbss, AV.lbs]) ?_ ?_
        · exact WS_mk (by simp only [NFx_loc, NFx_none]) (by repeat' constructor) (by repeat' constructor)
        · rintro ⟨i, hi, hs⟩
          simp only [↓evs, evp, evq, evl, boxK, ↓a1_still, stillV, ↓af_still, ↓af_load, ↓af_store, ↓af_app, ↓af_new, ↓af_box, binV, AV.cells, Lb.loc.injEq, loadV, storeV, ldV, AV.stb, AV.one, IV.av1, Lb.app, Lb.fresh, reduceCtorEq, Bool.false_eq_true, ptrL, appL, fillA, chunks, ivs, AV.iv, mkE, if_false, if_true, List.not_mem_nil, forall_eq, Nat.reduceEqDiff, Nat.reduceLT, Nat.reduceLeDiff, Nat.reduceAdd, Nat.reduceMul, Int.reduceToNat, Int.reduceLE, Int.reduceLT, Int.le_refl, Int.toNat_zero, beq_self_eq_true, ofH_nil, ofH_cons]
          by_cases hlt : i < x.attrs.length
          · rw [show decide ((i : Int) < (x.attrs.length : Int)) = true by simpa using hlt]
            obtain ⟨a, ha⟩ : ∃ a, x.attrs[i]? = some a := ⟨_, List.getElem?_eq_getElem hlt⟩
            obtain ⟨b, hb⟩ : ∃ b, y.attrs[i]? = some b := ⟨_, List.getElem?_eq_getElem (h3 ▸ hlt)⟩
            have hw : IntKind.i64.wrap ((i : Int) + 1) = ((i + 1 : Nat) : Int) := wrap64 (by omega) (by unfold B at hx; omega)
            simp only [↓evs, evp, evq, evl, boxK, ↓a1_still, stillV, ↓af_still, ↓af_load, ↓af_store, ↓af_app, ↓af_new, ↓af_box, binV, AV.cells, Lb.loc.injEq, loadV, storeV, ldV, AV.stb, AV.one, IV.av1, Lb.app, Lb.fresh, reduceCtorEq, Bool.false_eq_true, ptrL, appL, fillA, chunks, ivs, AV.iv, mkE, if_false, if_true, List.not_mem_nil, forall_eq, Nat.reduceEqDiff, Nat.reduceLT, Nat.reduceLeDiff, Nat.reduceAdd, Nat.reduceMul, Int.reduceToNat, Int.reduceLE, Int.reduceLT, Int.le_refl, Int.toNat_zero, beq_self_eq_true, ivA_get, ha, hb, elszA, Attr.cells_eq, Attr.cs, eqs, eq1]
            refine ⟨rfl, ?_⟩
            by_cases hab : a = b
            · subst hab
              rw [show (a.name == a.name && a.val == a.val) = true by simp]
              simp only [↓evs, evp, evq, evl, boxK, ↓a1_still, stillV, ↓af_still, ↓af_load, ↓af_store, ↓af_app, ↓af_new, ↓af_box, binV, AV.cells, Lb.loc.injEq, loadV, storeV, ldV, AV.stb, AV.one, IV.av1, Lb.app, Lb.fresh, reduceCtorEq, Bool.false_eq_true, ptrL, appL, fillA, chunks, ivs, AV.iv, mkE, if_false, if_true, List.not_mem_nil, forall_eq, Nat.reduceEqDiff, Nat.reduceLT, Nat.reduceLeDiff, Nat.reduceAdd, Nat.reduceMul, Int.reduceToNat, Int.reduceLE, Int.reduceLT, Int.le_refl, Int.toNat_zero, beq_self_eq_true, hw]
              exact ⟨⟨i + 1, hlt, fun j hj => by
                by_cases e : j = i
                · rw [e, ha, hb]
                · exact hs j (by omega)⟩, by simp only; omega, WS_mk (by simp only [NFx_loc, NFx_none]) (by repeat' constructor) (by repeat' constructor)⟩
            · have hne : x ≠ y := fun e => hab (by rw [e, hb] at ha; cases ha; rfl)
              have hne2 : (a.name == b.name && a.val == b.val) = false := by
                simp only [Bool.and_eq_false_iff, beq_eq_false_iff_ne]
                by_cases e1 : a.name = b.name
                · exact .inr fun e2 => hab (Attr.ext e1 e2)
                · exact .inl e1
              rw [hne2]
              simp only [↓evs, evp, evq, evl, boxK, ↓a1_still, stillV, ↓af_still, ↓af_load, ↓af_store, ↓af_app, ↓af_new, ↓af_box, binV, AV.cells, Lb.loc.injEq, loadV, storeV, ldV, AV.stb, AV.one, IV.av1, Lb.app, Lb.fresh, reduceCtorEq, Bool.false_eq_true, ptrL, appL, fillA, chunks, ivs, AV.iv, mkE, if_false, if_true, List.not_mem_nil, forall_eq, Nat.reduceEqDiff, Nat.reduceLT, Nat.reduceLeDiff, Nat.reduceAdd, Nat.reduceMul, Int.reduceToNat, Int.reduceLE, Int.reduceLT, Int.le_refl, Int.toNat_zero, beq_self_eq_true, eqB_ne hne]
          · rw [show decide ((i : Int) < (x.attrs.length : Int)) = false by simpa using hlt]
            have ha : x.attrs = y.attrs := List.ext_getElem? fun j => by
              by_cases hj : j < i
              · exact hs j hj
              · rw [List.getElem?_eq_none (by omega), List.getElem?_eq_none (by omega)]
            simp only [↓evs, evp, evq, evl, boxK, ↓a1_still, stillV, ↓af_still, ↓af_load, ↓af_store, ↓af_app, ↓af_new, ↓af_box, binV, AV.cells, Lb.loc.injEq, loadV, storeV, ldV, AV.stb, AV.one, IV.av1, Lb.app, Lb.fresh, reduceCtorEq, Bool.false_eq_true, ptrL, appL, fillA, chunks, ivs, AV.iv, mkE, if_false, if_true, List.not_mem_nil, forall_eq, Nat.reduceEqDiff, Nat.reduceLT, Nat.reduceLeDiff, Nat.reduceAdd, Nat.reduceMul, Int.reduceToNat, Int.reduceLE, Int.reduceLT, Int.le_refl, Int.toNat_zero, beq_self_eq_true]
            refine callT_pure hS ?_
            by_cases h4 : x.kids = y.kids
            · have : x = y := Tree.ext h1 h2 ha h4
              subst this
              simp only [↓evs, evp, evq, evl, boxK, ↓a1_still, stillV, ↓af_still, ↓af_load, ↓af_store, ↓af_app, ↓af_new, ↓af_box, binV, AV.cells, Lb.loc.injEq, loadV, storeV, ldV, AV.stb, AV.one, IV.av1, Lb.app, Lb.fresh, reduceCtorEq, Bool.false_eq_true, ptrL, appL, fillA, chunks, ivs, AV.iv, mkE, if_false, if_true, List.not_mem_nil, forall_eq, Nat.reduceEqDiff, Nat.reduceLT, Nat.reduceLeDiff, Nat.reduceAdd, Nat.reduceMul, Int.reduceToNat, Int.reduceLE, Int.reduceLT, Int.le_refl, Int.toNat_zero, beq_self_eq_true, eqB_self]
            · have : x ≠ y := fun e => h4 (by rw [e])
              simp only [↓evs, evp, evq, evl, boxK, ↓a1_still, stillV, ↓af_still, ↓af_load, ↓af_store, ↓af_app, ↓af_new, ↓af_box, binV, AV.cells, Lb.loc.injEq, loadV, storeV, ldV, AV.stb, AV.one, IV.av1, Lb.app, Lb.fresh, reduceCtorEq, Bool.false_eq_true, ptrL, appL, fillA, chunks, ivs, AV.iv, mkE, if_false, if_true, List.not_mem_nil, forall_eq, Nat.reduceEqDiff, Nat.reduceLT, Nat.reduceLeDiff, Nat.reduceAdd, Nat.reduceMul, Int.reduceToNat, Int.reduceLE, Int.reduceLT, Int.le_refl, Int.toNat_zero, beq_self_eq_true, eqB_ne h4, eqB_ne this]
      · rw [show ((x.attrs.length : Int) != (y.attrs.length : Int)) = true by simp; omega]
        have : x ≠ y := fun e => h3 (by rw [e])
        simp only [↓evs, evp, evq, evl, boxK, ↓a1_still, stillV, ↓af_still, ↓af_load, ↓af_store, ↓af_app, ↓af_new, ↓af_box, binV, AV.cells, Lb.loc.injEq, loadV, storeV, ldV, AV.stb, AV.one, IV.av1, Lb.app, Lb.fresh, reduceCtorEq, Bool.false_eq_true, ptrL, appL, fillA, chunks, ivs, AV.iv, mkE, if_false, if_true, List.not_mem_nil, forall_eq, Nat.reduceEqDiff, Nat.reduceLT, Nat.reduceLeDiff, Nat.reduceAdd, Nat.reduceMul, Int.reduceToNat, Int.reduceLE, Int.reduceLT, Int.le_refl, Int.toNat_zero, beq_self_eq_true, eqB_ne this]
    · have e2 : (x.s == y.s) = false := by simpa using h2
      have : x ≠ y := fun e => h2 (by rw [e])
      simp only [e2, ↓evs, evp, evq, evl, boxK, ↓a1_still, stillV, ↓af_still, ↓af_load, ↓af_store, ↓af_app, ↓af_new, ↓af_box, binV, AV.cells, Lb.loc.injEq, loadV, storeV, ldV, AV.stb, AV.one, IV.av1, Lb.app, Lb.fresh, reduceCtorEq, Bool.false_eq_true, ptrL, appL, fillA, chunks, ivs, AV.iv, mkE, if_false, if_true, List.not_mem_nil, forall_eq, Nat.reduceEqDiff, Nat.reduceLT, Nat.reduceLeDiff, Nat.reduceAdd, Nat.reduceMul, Int.reduceToNat, Int.reduceLE, Int.reduceLT, Int.le_refl, Int.toNat_zero, beq_self_eq_true, eqB_ne this]
  · have e1 : (x.text == y.text) = false := by simpa using h1
    have : x ≠ y := fun e => h1 (by rw [e])
    simp only [e1, ↓evs, evp, evq, evl, boxK, ↓a1_still, stillV, ↓af_still, ↓af_load, ↓af_store, ↓af_app, ↓af_new, ↓af_box, binV, AV.cells, Lb.loc.injEq, loadV, storeV, ldV, AV.stb, AV.one, IV.av1, Lb.app, Lb.fresh, reduceCtorEq, Bool.false_eq_true, ptrL, appL, fillA, chunks, ivs, AV.iv, mkE, if_false, if_true, List.not_mem_nil, forall_eq, Nat.reduceEqDiff, Nat.reduceLT, Nat.reduceLeDiff, Nat.reduceAdd, Nat.reduceMul, Int.reduceToNat, Int.reduceLE, Int.reduceLT, Int.le_refl, Int.toNat_zero, beq_self_eq_true, eqB_ne this]

theorem wKeepSames {P : Program} {G : Nat → Option (List IV)} {f_topiarykeep_same f_topiarykeep_sames : Nat} (hF : compF P G f_topiarykeep_same = some (50, [(none, 4)], (c_topiarykeep_same f_topiarykeep_sames).bare)) (hS : compF P G f_topiarykeep_sames = some (27, [(none, 4)], (cSameTrees f_topiarykeep_same).bare)) (xs : List Tree) :
    ∀ ys, wtT xs ≤ B → PureC P G f_topiarykeep_sames [.list (ivT xs), .list (ivT ys)] (.bool (eqB xs ys)) :=
  byWt (M := fun xs => ∀ ys, wtT xs ≤ B → PureC P G f_topiarykeep_sames [.list (ivT xs), .list (ivT ys)] (.bool (eqB xs ys))) (fun xs h ys hB => pSameTrees hS xs ys (by have := wtT_len xs; omega) fun x hx y _ =>
    have h1 := wt_mem hx
    have h2 := wt_kids x
    have h3 := wt_attrs x
    have h4 := wtA_len x.attrs
    pKeepSame hF x y (by omega) (h x hx _ (by omega))) xs

def c_topiarykeep_TreeOnce (f_tree_Joined f_topiarykeep_sames f_tree_Content f_topiarykeep_told f_topiarykeep_trees : Nat) : AC :=
(.seq (.reg [⟨(some 2), none, (.mov (.c (.bool false)))⟩]) (.seq (.reg [⟨(some 6), none, (.mov (.t 0))⟩, ⟨(some 7), none, (.call f_tree_Joined [(.t 6)])⟩, ⟨(some 3), none, (.mov (.t 7))⟩]) (.seq (.seq (.reg [⟨(some 8), none, (.mov (.t 3))⟩, ⟨(some 9), none, (.len (.t 8))⟩, ⟨(some 10), none, (.mov (.c (.int .i64 0)))⟩]) (.block 0 (.loop (.seq (.reg [⟨(some 11), none, (.bin .lss (.t 10) (.t 9))⟩]) (.seq (.cond (.t 11) .skip (.exit 0)) (.seq (.block 1 (.seq (.reg [⟨(some 12), none, (.mov (.t 10))⟩, ⟨(some 13), none, (.ixa (.t 8) (.t 10) 4)⟩, ⟨(some 14), none, (.load (some 4) (.t 13))⟩, ⟨(some 5), none, (.new [(.bool false), (.str []), .nil0, .nil0])⟩, ⟨(some 4), none, (.mov (.t 12))⟩, ⟨none, none, (.store 4 (.t 5) (.t 14))⟩]) (.seq (.reg [⟨(some 15), none, (.fld (.t 5) 0)⟩, ⟨(some 16), none, (.load none (.t 15))⟩, ⟨(some 17), none, (.mov (.t 16))⟩, ⟨(some 18), (some (17, true)), (.fld (.t 5) 1)⟩, ⟨(some 19), (some (17, true)), (.load none (.t 18))⟩, ⟨(some 20), (some (17, true)), (.bin .eql (.t 19) (.c (.str [])))⟩, ⟨(some 21), (some (17, true)), (.mov (.t 20))⟩, ⟨(some 22), (some (21, false)), (.mov (.t 4))⟩, ⟨(some 23), (some (21, false)), (.bin .gtr (.t 22) (.c (.int .i64 0)))⟩, ⟨(some 24), (some (21, false)), (.mov (.t 23))⟩, ⟨(some 25), (some (24, true)), (.mov (.t 3))⟩, ⟨(some 26), (some (24, true)), (.mov (.t 4))⟩, ⟨(some 27), (some (24, true)), (.bin .sub (.t 26) (.c (.int .i64 1)))⟩, ⟨(some 28), (some (24, true)), (.ixa (.t 25) (.t 27) 4)⟩, ⟨(some 29), (some (24, true)), (.fld (.t 28) 0)⟩, ⟨(some 30), (some (24, true)), (.load none (.t 29))⟩, ⟨(some 31), (some (21, false)), (.pick (.t 24) (.t 30) (.c (.bool false)))⟩, ⟨(some 32), (some (17, true)), (.pick (.t 21) (.c (.bool true)) (.t 31))⟩, ⟨(some 33), none, (.pick (.t 17) (.t 32) (.c (.bool false)))⟩]) (.cond (.t 33) (.seq (.reg [⟨(some 2), none, (.mov (.c (.bool false)))⟩]) .ret) .skip)))) (.reg [⟨(some 34), none, (.bin .add (.t 10) (.c (.int .i64 1)))⟩, ⟨(some 10), none, (.mov (.t 34))⟩]))))))) (.seq (.reg [⟨(some 35), none, (.mov (.t 3))⟩, ⟨(some 36), none, (.mov (.t 3))⟩, ⟨(some 37), none, (.call f_tree_Joined [(.t 36)])⟩, ⟨(some 38), none, (.call f_topiarykeep_sames [(.t 35), (.t 37)])⟩, ⟨(some 39), none, (.mov (.t 38))⟩, ⟨(some 40), (some (39, true)), (.mov (.t 0))⟩, ⟨(some 41), (some (39, true)), (.call f_tree_Content [(.t 40)])⟩, ⟨(some 42), (some (39, true)), (.not (.t 41))⟩, ⟨(some 43), (some (39, true)), (.mov (.t 42))⟩, ⟨(some 44), (some (43, false)), (.mov (.t 3))⟩, ⟨(some 45), (some (43, false)), (.mov (.t 0))⟩, ⟨(some 46), (some (43, false)), (.call f_topiarykeep_sames [(.t 44), (.t 45)])⟩, ⟨(some 47), (some (43, false)), (.mov (.t 46))⟩, ⟨(some 48), (some (47, true)), (.mov (.t 3))⟩, ⟨(some 49), (some (47, true)), (.call f_topiarykeep_told [(.t 48)])⟩, ⟨(some 50), (some (47, true)), (.mov (.t 0))⟩, ⟨(some 51), (some (47, true)), (.call f_topiarykeep_told [(.t 50)])⟩, ⟨(some 52), (some (47, true)), (.bin .eql (.t 49) (.t 51))⟩, ⟨(some 53), (some (43, false)), (.pick (.t 47) (.t 52) (.c (.bool false)))⟩, ⟨(some 54), (some (39, true)), (.pick (.t 43) (.c (.bool true)) (.t 53))⟩, ⟨(some 55), none, (.pick (.t 39) (.t 54) (.c (.bool false)))⟩, ⟨(some 56), none, (.mov (.t 55))⟩, ⟨(some 57), (some (56, true)), (.call f_topiarykeep_trees [])⟩, ⟨(some 58), none, (.pick (.t 56) (.t 57) (.c (.bool false)))⟩, ⟨(some 2), none, (.mov (.t 58))⟩]) .ret))))

theorem jds_get : ∀ (p : Bool) (l : List Tree), jds p l = true → ∀ (i : Nat) (x : Tree), l[i]? = some x → x.text = true → x.s ≠ [] ∧ (0 < i → ∀ y, l[i - 1]? = some y → y.text = false) ∧ (i = 0 → p = false)
  | p, [], _, i, x, h, _ => by simp at h
  | p, z :: r, h, i, x, hx, ht => by
    simp only [jds, Bool.and_eq_true, Bool.not_eq_true'] at h
    obtain ⟨h1, h2, h3⟩ := h
    cases i with
    | zero =>
      simp at hx; subst hx
      rw [ht] at h1
      simp only [Bool.true_and, Bool.or_eq_false_iff, beq_eq_false_iff_ne] at h1
      exact ⟨h1.2, by omega, fun _ => h1.1⟩
    | succ i =>
      have := jds_get _ r h3 i x (by simpa using hx) ht
      refine ⟨this.1, fun _ y hy => ?_, by omega⟩
      cases i with
      | zero => simp at hy; subst hy; exact this.2.2 rfl
      | succ i => exact this.2.1 (by omega) y (by simpa using hy)

theorem content_jds {l : List Tree} (h : content l = true) : jds false l = true := by
  simp only [content, Bool.and_eq_true] at h
  exact fines_jds none l h.2.2

theorem pTreeOnce {P : Program} {G : Nat → Option (List IV)} {f_topiarykeep_TreeOnce f_tree_Joined f_topiarykeep_sames f_tree_Content f_topiarykeep_told f_topiarykeep_trees : Nat} (hF : compF P G f_topiarykeep_TreeOnce = some (59, [(none, 2)], (c_topiarykeep_TreeOnce f_tree_Joined f_topiarykeep_sames f_tree_Content f_topiarykeep_told f_topiarykeep_trees).bare)) (l : List Tree) (hl : wtT l ≤ B)
    (hJ : ∀ l : List Tree, wtT l ≤ B → PureC P G f_tree_Joined [.list (ivT l)] (.list (ivT (joined l))))
    (hS : ∀ xs ys : List Tree, wtT xs ≤ B → PureC P G f_topiarykeep_sames [.list (ivT xs), .list (ivT ys)] (.bool (eqB xs ys)))
    (hC : PureC P G f_tree_Content [.list (ivT l)] (.bool (content l)))
    (hT : ∀ l : List Tree, wtT l ≤ B → PureC P G f_topiarykeep_told [.list (ivT l)] (.str (toldT l)))
    (hTr : PureC P G f_topiarykeep_trees [] (.bool true)) : PureC P G f_topiarykeep_TreeOnce [.list (ivT l)] (.bool true) := by
  refine pure_of_go hF (by simp) (by simp [lbss, AV.lbs]) (by simp [AV.lbs]) ?_
  have hwj := wtT_joined l
  unfold c_topiarykeep_TreeOnce
  simp only [↓evs, evp, evq, evl, boxK, ↓a1_still, stillV, ↓af_still, ↓af_load, ↓af_store, ↓af_app, ↓af_new, ↓af_box, binV, AV.cells, Lb.loc.injEq, loadV, storeV, ldV, AV.stb, AV.one, IV.av1, Lb.app, Lb.fresh, reduceCtorEq, Bool.false_eq_true, ptrL, appL, fillA, chunks, ivs, AV.iv, mkE, if_false, if_true, List.not_mem_nil, forall_eq, Nat.reduceEqDiff, Nat.reduceLT, Nat.reduceLeDiff, Nat.reduceAdd, Nat.reduceMul, Int.reduceToNat, Int.reduceLE, Int.reduceLT, Int.le_refl, Int.toNat_zero, beq_self_eq_true]
  refine callT_pure (hJ l hl) ?_
  have hjd := jds_joined l
  have hid := joined_idem l
  have hcon : content l = true → joined l = l := fun h => joined_id (content_jds h)
  generalize hj : joined l = js at *
  have hlj := wtT_len js
  simp only [↓evs, evp, evq, evl, boxK, ↓a1_still, stillV, ↓af_still, ↓af_load, ↓af_store, ↓af_app, ↓af_new, ↓af_box, binV, AV.cells, Lb.loc.injEq, loadV, storeV, ldV, AV.stb, AV.one, IV.av1, Lb.app, Lb.fresh, reduceCtorEq, Bool.false_eq_true, ptrL, appL, fillA, chunks, ivs, AV.iv, mkE, if_false, if_true, List.not_mem_nil, forall_eq, Nat.reduceEqDiff, Nat.reduceLT, Nat.reduceLeDiff, Nat.reduceAdd, Nat.reduceMul, Int.reduceToNat, Int.reduceLE, Int.reduceLT, Int.le_refl, Int.toNat_zero, beq_self_eq_true, ivT_len]
  refine loop_data (σ := { i : Nat // i ≤ js.length }) (fun q => [(0, .list (ivT l)), (3, .list (ivT js)), (8, .list (ivT js)), (9, .int .i64 js.length), (10, .int .i64 q.1)]) (fun q => js.length - q.1) ⟨0, by simp⟩ (fun _ => rfl) ?_ ?_
  · exact ⟨by simp only [↓evs, evp, evq, evl, boxK, ↓a1_still, stillV, ↓af_still, ↓af_load, ↓af_store, ↓af_app, ↓af_new, ↓af_box, binV, AV.cells, Lb.loc.injEq, loadV, storeV, ldV, AV.stb, AV.one, IV.av1, Lb.app, Lb.fresh, reduceCtorEq, Bool.false_eq_true, ptrL, appL, fillA, chunks, ivs, AV.iv, mkE, if_false, if_true, List.not_mem_nil, forall_eq, Nat.reduceEqDiff, Nat.reduceLT, Nat.reduceLeDiff, Nat.reduceAdd, Nat.reduceMul, Int.reduceToNat, Int.reduceLE, Int.reduceLT, Int.le_refl, Int.toNat_zero, beq_self_eq_true], by repeat' constructor⟩
  · rintro ⟨i, hi⟩
    simp only [↓evs, evp, evq, evl, boxK, ↓a1_still, stillV, ↓af_still, ↓af_load, ↓af_store, ↓af_app, ↓af_new, ↓af_box, binV, AV.cells, Lb.loc.injEq, loadV, storeV, ldV, AV.stb, AV.one, IV.av1, Lb.app, Lb.fresh, reduceCtorEq, Bool.false_eq_true, ptrL, appL, fillA, chunks, ivs, AV.iv, mkE, if_false, if_true, List.not_mem_nil, forall_eq, Nat.reduceEqDiff, Nat.reduceLT, Nat.reduceLeDiff, Nat.reduceAdd, Nat.reduceMul, Int.reduceToNat, Int.reduceLE, Int.reduceLT, Int.le_refl, Int.toNat_zero, beq_self_eq_true, ivT_len]
    refine cK_b (fun h => ?_) (fun h => ?_)
    · have hlt : i < js.length := by simpa using h
      obtain ⟨x, hxi⟩ : ∃ x, js[i]? = some x := ⟨_, List.getElem?_eq_getElem hlt⟩
      have hw : IntKind.i64.wrap ((i : Int) + 1) = ((i + 1 : Nat) : Int) := wrap64 (by omega) (by unfold B at hl; omega)
      have hg := jds_get false js hjd i x hxi
      simp only [↓evs, evp, evq, evl, boxK, ↓a1_still, stillV, ↓af_still, ↓af_load, ↓af_store, ↓af_app, ↓af_new, ↓af_box, binV, AV.cells, Lb.loc.injEq, loadV, storeV, ldV, AV.stb, AV.one, IV.av1, Lb.app, Lb.fresh, reduceCtorEq, Bool.false_eq_true, ptrL, appL, fillA, chunks, ivs, AV.iv, mkE, if_false, if_true, List.not_mem_nil, forall_eq, Nat.reduceEqDiff, Nat.reduceLT, Nat.reduceLeDiff, Nat.reduceAdd, Nat.reduceMul, Int.reduceToNat, Int.reduceLE, Int.reduceLT, Int.le_refl, Int.toNat_zero, beq_self_eq_true, ivT_get, hxi, elszT, Tree.cells_eq, Tree.cs]
      cases ht : x.text with
      | false =>
        simp only [↓evs, evp, evq, evl, boxK, ↓a1_still, stillV, ↓af_still, ↓af_load, ↓af_store, ↓af_app, ↓af_new, ↓af_box, binV, AV.cells, Lb.loc.injEq, loadV, storeV, ldV, AV.stb, AV.one, IV.av1, Lb.app, Lb.fresh, reduceCtorEq, Bool.false_eq_true, ptrL, appL, fillA, chunks, ivs, AV.iv, mkE, if_false, if_true, List.not_mem_nil, forall_eq, Nat.reduceEqDiff, Nat.reduceLT, Nat.reduceLeDiff, Nat.reduceAdd, Nat.reduceMul, Int.reduceToNat, Int.reduceLE, Int.reduceLT, Int.le_refl, Int.toNat_zero, beq_self_eq_true, hw]
        exact ⟨⟨i + 1, hlt⟩, by simp only; omega, by repeat' constructor⟩
      | true =>
        obtain ⟨g1, g2, _⟩ := hg ht
        have hs : (x.s == []) = false := by simpa using g1
        simp only [↓evs, evp, evq, evl, boxK, ↓a1_still, stillV, ↓af_still, ↓af_load, ↓af_store, ↓af_app, ↓af_new, ↓af_box, binV, AV.cells, Lb.loc.injEq, loadV, storeV, ldV, AV.stb, AV.one, IV.av1, Lb.app, Lb.fresh, reduceCtorEq, Bool.false_eq_true, ptrL, appL, fillA, chunks, ivs, AV.iv, mkE, if_false, if_true, List.not_mem_nil, forall_eq, Nat.reduceEqDiff, Nat.reduceLT, Nat.reduceLeDiff, Nat.reduceAdd, Nat.reduceMul, Int.reduceToNat, Int.reduceLE, Int.reduceLT, Int.le_refl, Int.toNat_zero, beq_self_eq_true, hs]
        by_cases h0 : i = 0
        · subst h0
          rw [show decide (((0 : Nat) : Int) > 0) = false by simp]
          simp only [↓evs, evp, evq, evl, boxK, ↓a1_still, stillV, ↓af_still, ↓af_load, ↓af_store, ↓af_app, ↓af_new, ↓af_box, binV, AV.cells, Lb.loc.injEq, loadV, storeV, ldV, AV.stb, AV.one, IV.av1, Lb.app, Lb.fresh, reduceCtorEq, Bool.false_eq_true, ptrL, appL, fillA, chunks, ivs, AV.iv, mkE, if_false, if_true, List.not_mem_nil, forall_eq, Nat.reduceEqDiff, Nat.reduceLT, Nat.reduceLeDiff, Nat.reduceAdd, Nat.reduceMul, Int.reduceToNat, Int.reduceLE, Int.reduceLT, Int.le_refl, Int.toNat_zero, beq_self_eq_true, hw]
          exact ⟨⟨0 + 1, hlt⟩, by simp only; omega, by repeat' constructor⟩
        · rw [show decide ((i : Int) > 0) = true by simp; omega]
          obtain ⟨p, hp⟩ : ∃ p, js[i - 1]? = some p := ⟨_, List.getElem?_eq_getElem (by omega)⟩
          have hw1 : IntKind.i64.wrap ((i : Int) - 1) = ((i - 1 : Nat) : Int) := by rw [wrap64 (by omega) (by unfold B at hl; omega)]; omega
          have hpt := g2 (by omega) p hp
          simp only [↓evs, evp, evq, evl, boxK, ↓a1_still, stillV, ↓af_still, ↓af_load, ↓af_store, ↓af_app, ↓af_new, ↓af_box, binV, AV.cells, Lb.loc.injEq, loadV, storeV, ldV, AV.stb, AV.one, IV.av1, Lb.app, Lb.fresh, reduceCtorEq, Bool.false_eq_true, ptrL, appL, fillA, chunks, ivs, AV.iv, mkE, if_false, if_true, List.not_mem_nil, forall_eq, Nat.reduceEqDiff, Nat.reduceLT, Nat.reduceLeDiff, Nat.reduceAdd, Nat.reduceMul, Int.reduceToNat, Int.reduceLE, Int.reduceLT, Int.le_refl, Int.toNat_zero, beq_self_eq_true, hw1, ivT_get, hp, elszT, Tree.cells_eq, Tree.cs, hpt, hw]
          exact ⟨⟨i + 1, hlt⟩, by simp only; omega, by repeat' constructor⟩
    · simp only [↓evs, evp, evq, evl, boxK, ↓a1_still, stillV, ↓af_still, ↓af_load, ↓af_store, ↓af_app, ↓af_new, ↓af_box, binV, AV.cells, Lb.loc.injEq, loadV, storeV, ldV, AV.stb, AV.one, IV.av1, Lb.app, Lb.fresh, reduceCtorEq, Bool.false_eq_true, ptrL, appL, fillA, chunks, ivs, AV.iv, mkE, if_false, if_true, List.not_mem_nil, forall_eq, Nat.reduceEqDiff, Nat.reduceLT, Nat.reduceLeDiff, Nat.reduceAdd, Nat.reduceMul, Int.reduceToNat, Int.reduceLE, Int.reduceLT, Int.le_refl, Int.toNat_zero, beq_self_eq_true]
      refine callT_pure (hJ js (by omega)) ?_
      simp only [↓evs, evp, evq, evl, boxK, ↓a1_still, stillV, ↓af_still, ↓af_load, ↓af_store, ↓af_app, ↓af_new, ↓af_box, binV, AV.cells, Lb.loc.injEq, loadV, storeV, ldV, AV.stb, AV.one, IV.av1, Lb.app, Lb.fresh, reduceCtorEq, Bool.false_eq_true, ptrL, appL, fillA, chunks, ivs, AV.iv, mkE, if_false, if_true, List.not_mem_nil, forall_eq, Nat.reduceEqDiff, Nat.reduceLT, Nat.reduceLeDiff, Nat.reduceAdd, Nat.reduceMul, Int.reduceToNat, Int.reduceLE, Int.reduceLT, Int.le_refl, Int.toNat_zero, beq_self_eq_true, hid]
      refine callT_pure (hS _ _ (by omega)) ?_
      simp only [↓evs, evp, evq, evl, boxK, ↓a1_still, stillV, ↓af_still, ↓af_load, ↓af_store, ↓af_app, ↓af_new, ↓af_box, binV, AV.cells, Lb.loc.injEq, loadV, storeV, ldV, AV.stb, AV.one, IV.av1, Lb.app, Lb.fresh, reduceCtorEq, Bool.false_eq_true, ptrL, appL, fillA, chunks, ivs, AV.iv, mkE, if_false, if_true, List.not_mem_nil, forall_eq, Nat.reduceEqDiff, Nat.reduceLT, Nat.reduceLeDiff, Nat.reduceAdd, Nat.reduceMul, Int.reduceToNat, Int.reduceLE, Int.reduceLT, Int.le_refl, Int.toNat_zero, beq_self_eq_true, eqB_self]
      refine callT_pure hC ?_
      cases hc : content l with
      | false =>
        simp only [↓evs, evp, evq, evl, boxK, ↓a1_still, stillV, ↓af_still, ↓af_load, ↓af_store, ↓af_app, ↓af_new, ↓af_box, binV, AV.cells, Lb.loc.injEq, loadV, storeV, ldV, AV.stb, AV.one, IV.av1, Lb.app, Lb.fresh, reduceCtorEq, Bool.false_eq_true, ptrL, appL, fillA, chunks, ivs, AV.iv, mkE, if_false, if_true, List.not_mem_nil, forall_eq, Nat.reduceEqDiff, Nat.reduceLT, Nat.reduceLeDiff, Nat.reduceAdd, Nat.reduceMul, Int.reduceToNat, Int.reduceLE, Int.reduceLT, Int.le_refl, Int.toNat_zero, beq_self_eq_true]
        refine callT_pure hTr ?_
        simp only [↓evs, evp, evq, evl, boxK, ↓a1_still, stillV, ↓af_still, ↓af_load, ↓af_store, ↓af_app, ↓af_new, ↓af_box, binV, AV.cells, Lb.loc.injEq, loadV, storeV, ldV, AV.stb, AV.one, IV.av1, Lb.app, Lb.fresh, reduceCtorEq, Bool.false_eq_true, ptrL, appL, fillA, chunks, ivs, AV.iv, mkE, if_false, if_true, List.not_mem_nil, forall_eq, Nat.reduceEqDiff, Nat.reduceLT, Nat.reduceLeDiff, Nat.reduceAdd, Nat.reduceMul, Int.reduceToNat, Int.reduceLE, Int.reduceLT, Int.le_refl, Int.toNat_zero, beq_self_eq_true]
      | true =>
        have := hcon hc
        simp only [↓evs, evp, evq, evl, boxK, ↓a1_still, stillV, ↓af_still, ↓af_load, ↓af_store, ↓af_app, ↓af_new, ↓af_box, binV, AV.cells, Lb.loc.injEq, loadV, storeV, ldV, AV.stb, AV.one, IV.av1, Lb.app, Lb.fresh, reduceCtorEq, Bool.false_eq_true, ptrL, appL, fillA, chunks, ivs, AV.iv, mkE, if_false, if_true, List.not_mem_nil, forall_eq, Nat.reduceEqDiff, Nat.reduceLT, Nat.reduceLeDiff, Nat.reduceAdd, Nat.reduceMul, Int.reduceToNat, Int.reduceLE, Int.reduceLT, Int.le_refl, Int.toNat_zero, beq_self_eq_true]
        refine callT_pure (hS _ _ (by omega)) ?_
        simp only [↓evs, evp, evq, evl, boxK, ↓a1_still, stillV, ↓af_still, ↓af_load, ↓af_store, ↓af_app, ↓af_new, ↓af_box, binV, AV.cells, Lb.loc.injEq, loadV, storeV, ldV, AV.stb, AV.one, IV.av1, Lb.app, Lb.fresh, reduceCtorEq, Bool.false_eq_true, ptrL, appL, fillA, chunks, ivs, AV.iv, mkE, if_false, if_true, List.not_mem_nil, forall_eq, Nat.reduceEqDiff, Nat.reduceLT, Nat.reduceLeDiff, Nat.reduceAdd, Nat.reduceMul, Int.reduceToNat, Int.reduceLE, Int.reduceLT, Int.le_refl, Int.toNat_zero, beq_self_eq_true, this, eqB_self]
        refine callT_pure (hT _ hl) ?_
        simp only [↓evs, evp, evq, evl, boxK, ↓a1_still, stillV, ↓af_still, ↓af_load, ↓af_store, ↓af_app, ↓af_new, ↓af_box, binV, AV.cells, Lb.loc.injEq, loadV, storeV, ldV, AV.stb, AV.one, IV.av1, Lb.app, Lb.fresh, reduceCtorEq, Bool.false_eq_true, ptrL, appL, fillA, chunks, ivs, AV.iv, mkE, if_false, if_true, List.not_mem_nil, forall_eq, Nat.reduceEqDiff, Nat.reduceLT, Nat.reduceLeDiff, Nat.reduceAdd, Nat.reduceMul, Int.reduceToNat, Int.reduceLE, Int.reduceLT, Int.le_refl, Int.toNat_zero, beq_self_eq_true]
        refine callT_pure (hT _ hl) ?_
        simp only [↓evs, evp, evq, evl, boxK, ↓a1_still, stillV, ↓af_still, ↓af_load, ↓af_store, ↓af_app, ↓af_new, ↓af_box, binV, AV.cells, Lb.loc.injEq, loadV, storeV, ldV, AV.stb, AV.one, IV.av1, Lb.app, Lb.fresh, reduceCtorEq, Bool.false_eq_true, ptrL, appL, fillA, chunks, ivs, AV.iv, mkE, if_false, if_true, List.not_mem_nil, forall_eq, Nat.reduceEqDiff, Nat.reduceLT, Nat.reduceLeDiff, Nat.reduceAdd, Nat.reduceMul, Int.reduceToNat, Int.reduceLE, Int.reduceLT, Int.le_refl, Int.toNat_zero, beq_self_eq_true]
        refine callT_pure hTr ?_
        simp only [↓evs, evp, evq, evl, boxK, ↓a1_still, stillV, ↓af_still, ↓af_load, ↓af_store, ↓af_app, ↓af_new, ↓af_box, binV, AV.cells, Lb.loc.injEq, loadV, storeV, ldV, AV.stb, AV.one, IV.av1, Lb.app, Lb.fresh, reduceCtorEq, Bool.false_eq_true, ptrL, appL, fillA, chunks, ivs, AV.iv, mkE, if_false, if_true, List.not_mem_nil, forall_eq, Nat.reduceEqDiff, Nat.reduceLT, Nat.reduceLeDiff, Nat.reduceAdd, Nat.reduceMul, Int.reduceToNat, Int.reduceLE, Int.reduceLT, Int.le_refl, Int.toNat_zero, beq_self_eq_true]

end Go.Am
