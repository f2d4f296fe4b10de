/- Trees: the contracts, for all trees. -/
import Derived.Test.YtfinkeaikbmpgaaT9
set_option linter.defProp false
set_option linter.unnecessarySimpa false
set_option linter.unusedVariables false
set_option linter.unusedSimpArgs false
namespace Go.Am
open Go Go.RowKit

theorem byWt {M : List Tree → Prop} (step : ∀ l, (∀ x ∈ l, M x.kids) → M l) : ∀ l, M l := by
  have key : ∀ (n : Nat) (l : List Tree), wtT l ≤ n → M l := by
    intro n
    induction n with
    | zero =>
      intro l hn
      refine step l fun x hx => ?_
      obtain ⟨i, hi⟩ := List.getElem?_of_mem hx
      have := wtT_get l i x hi
      have := x.wt_eq
      omega
    | succ n ih =>
      intro l hn
      refine step l fun x hx => ih _ ?_
      obtain ⟨i, hi⟩ := List.getElem?_of_mem hx
      have := wtT_get l i x hi
      have := x.wt_eq
      omega
  exact fun l => key _ l (Nat.le_refl _)

theorem wt_mem {l : List Tree} {x : Tree} (h : x ∈ l) : x.wt ≤ wtT l := by
  obtain ⟨i, hi⟩ := List.getElem?_of_mem h
  exact wtT_get l i x hi
theorem wt_kids (x : Tree) : wtT x.kids ≤ x.wt := by have := x.wt_eq; omega
theorem wt_s (x : Tree) : x.s.length ≤ x.wt := by have := x.wt_eq; omega
theorem wt_attrs (x : Tree) : wtA x.attrs ≤ x.wt := by have := x.wt_eq; omega
theorem wtA_mem : ∀ {l : List Attr} {a : Attr}, a ∈ l → a.wt ≤ wtA l
  | [], a, h => by simp at h
  | b :: r, a, h => by
    simp only [List.mem_cons] at h
    rcases h with rfl | h
    · simp [wtA]
    · have := wtA_mem h; simp only [wtA]; omega

section
variable {P : Program} {G : Nat → Option (List IV)}

theorem wJoined {f_tree_Joined : Nat} (hF : compF P G f_tree_Joined = some (59, [(none, 2)], (c_tree_Joined f_tree_Joined).bare)) (l : List Tree) : wtT l ≤ B → PureC P G f_tree_Joined [.list (ivT l)] (.list (ivT (joined l))) :=
  byWt (M := fun l => wtT l ≤ B → PureC P G f_tree_Joined [.list (ivT l)] (.list (ivT (joined l)))) (fun l h hB => pJoined hF l hB fun x hx => h x hx (by have := wt_mem hx; have := wt_kids x; omega)) l

theorem wJoinedOf {f_topiaryref_JoinedOf : Nat} (hF : compF P G f_topiaryref_JoinedOf = some (86, [(none, 2)], (c_topiaryref_JoinedOf f_topiaryref_JoinedOf).bare)) (l : List Tree) : wtT l ≤ B → PureC P G f_topiaryref_JoinedOf [.list (ivT l)] (.list (ivT (joined l))) :=
  byWt (M := fun l => wtT l ≤ B → PureC P G f_topiaryref_JoinedOf [.list (ivT l)] (.list (ivT (joined l)))) (fun l h hB => pJoinedOf hF l hB fun x hx => h x hx (by have := wt_mem hx; have := wt_kids x; omega)) l

theorem wSize {g : Nat} (hF : compF P G g = some (32, [(none, 2), (none, 3)], (cSize g).bare)) : ∀ x : Tree, x.wt ≤ B → PureC P G g [x.av] (.tup [.int .i64 x.dep, .int .i64 x.cnt]) := by
  have key := byWt (M := fun l => ∀ x ∈ l, x.wt ≤ B → PureC P G g [x.av] (.tup [.int .i64 x.dep, .int .i64 x.cnt])) (fun l h x hx hB => pSize hF x hB fun k hk => h x hx k hk (by have := wt_mem hk; have := wt_kids x; omega))
  exact fun x => key [x] x (by simp)

theorem wFines {fP fN fGA fF fFs : Nat} (hP : compF P G fP = some (29, [(none, 2)], cPlain.bare)) (hN : compF P G fN = some (28, [(none, 2)], cNamed.bare)) (hA : compF P G fGA = some (41, [(none, 2)], (cGoodAttrs fN fP).bare))
    (hF : compF P G fF = some (38, [(none, 2)], (cFine fP fN fGA fFs).bare)) (hFs : compF P G fFs = some (32, [(none, 2)], (cFines fF).bare)) (l : List Tree) : wtT l ≤ B → PureC P G fFs [.list (ivT l)] (.bool (fines none l)) := by
  refine byWt (M := fun l => wtT l ≤ B → PureC P G fFs [.list (ivT l)] (.bool (fines none l))) (fun l h hB => pFines hFs l (by have := wtT_len l; omega) fun x hx => ?_) l
  have h1 := wt_mem hx
  have h2 := wt_kids x
  have h3 := wt_s x
  have h4 := wt_attrs x
  have h5 := wtA_len x.attrs
  refine pFine hF x (pPlain hP _ (by omega)) (pNamed hN _ (by omega)) (pGoodAttrs hA _ (by omega) (fun a ha => pNamed hN _ ?_) (fun a ha => pPlain hP _ ?_)) (h x hx (by omega))
  · have := wtA_mem ha; unfold Attr.wt at this; omega
  · have := wtA_mem ha; unfold Attr.wt at this; omega

theorem wFine {fP fN fGA fF fFs : Nat} (hP : compF P G fP = some (29, [(none, 2)], cPlain.bare)) (hN : compF P G fN = some (28, [(none, 2)], cNamed.bare)) (hA : compF P G fGA = some (41, [(none, 2)], (cGoodAttrs fN fP).bare))
    (hF : compF P G fF = some (38, [(none, 2)], (cFine fP fN fGA fFs).bare)) (hFs : compF P G fFs = some (32, [(none, 2)], (cFines fF).bare)) (x : Tree) (hB : x.wt ≤ B) : PureC P G fF [x.av] (.bool x.fine) := by
  have h2 := wt_kids x
  have h3 := wt_s x
  have h4 := wt_attrs x
  have h5 := wtA_len x.attrs
  refine pFine hF x (pPlain hP _ (by omega)) (pNamed hN _ (by omega)) (pGoodAttrs hA _ (by omega) (fun a ha => pNamed hN _ ?_) (fun a ha => pPlain hP _ ?_)) (wFines hP hN hA hF hFs _ (by omega))
  · have := wtA_mem ha; unfold Attr.wt at this; omega
  · have := wtA_mem ha; unfold Attr.wt at this; omega
end

def c_topiarylaw_trees (f_tree_Joined f_tree_Good : Nat) : AC :=
(.seq (.reg [⟨(some 0), none, (.mov (.c (.bool false)))⟩]) (.seq (.reg [⟨(some 2), none, (.bld [(.bool false), (.str []), .nil0, .nil0] [(0, (1, (.c (.bool true)))), (1, (1, (.c (.str [97]))))])⟩, ⟨(some 3), none, (.bld [(.bool false), (.str []), .nil0, .nil0] [(0, (1, (.c (.bool true))))])⟩, ⟨(some 4), none, (.bld [(.bool false), (.str []), .nil0, .nil0] [(0, (1, (.c (.bool true)))), (1, (1, (.c (.str [98]))))])⟩, ⟨(some 5), none, (.bld [(.bool false), (.str []), .nil0, .nil0] [(1, (1, (.c (.str [99]))))])⟩, ⟨(some 6), none, (.lits 4 4 [(.bool false), (.str []), .nil0, .nil0] [(0, (.t 2)), (1, (.t 3)), (2, (.t 4)), (3, (.t 5))])⟩, ⟨(some 7), none, (.call f_tree_Joined [(.t 6)])⟩, ⟨(some 1), none, (.mov (.t 7))⟩]) (.seq (.reg [⟨(some 8), none, (.bld [(.bool false), (.str []), .nil0, .nil0] [(1, (1, (.c (.str [97]))))])⟩, ⟨(some 9), none, (.call f_tree_Good [(.t 8)])⟩, ⟨(some 10), none, (.mov (.t 9))⟩, ⟨(some 11), (some (10, true)), (.bld [(.bool false), (.str []), .nil0, .nil0] [])⟩, ⟨(some 12), (some (10, true)), (.call f_tree_Good [(.t 11)])⟩, ⟨(some 13), (some (10, true)), (.not (.t 12))⟩, ⟨(some 14), none, (.pick (.t 10) (.t 13) (.c (.bool false)))⟩, ⟨(some 15), none, (.mov (.t 14))⟩, ⟨(some 16), (some (15, true)), (.mov (.t 1))⟩, ⟨(some 17), (some (15, true)), (.len (.t 16))⟩, ⟨(some 18), (some (15, true)), (.bin .eql (.t 17) (.c (.int .i64 2)))⟩, ⟨(some 19), none, (.pick (.t 15) (.t 18) (.c (.bool false)))⟩, ⟨(some 20), none, (.mov (.t 19))⟩, ⟨(some 21), (some (20, true)), (.mov (.t 1))⟩, ⟨(some 22), (some (20, true)), (.ixa (.t 21) (.c (.int .i64 0)) 4)⟩, ⟨(some 23), (some (20, true)), (.fld (.t 22) 1)⟩, ⟨(some 24), (some (20, true)), (.load none (.t 23))⟩, ⟨(some 25), (some (20, true)), (.bin .eql (.t 24) (.c (.str [97, 98])))⟩, ⟨(some 26), none, (.pick (.t 20) (.t 25) (.c (.bool false)))⟩, ⟨(some 0), none, (.mov (.t 26))⟩]) .ret)))

theorem pTrees {P : Program} {G : Nat → Option (List IV)} {f_topiarylaw_trees f_tree_Joined f_tree_Good : Nat} (hF : compF P G f_topiarylaw_trees = some (27, [(none, 0)], (c_topiarylaw_trees f_tree_Joined f_tree_Good).bare))
    (hJ : ∀ l : List Tree, wtT l ≤ B → PureC P G f_tree_Joined [.list (ivT l)] (.list (ivT (joined l)))) (hG : ∀ x : Tree, x.wt ≤ B → PureC P G f_tree_Good [x.av] (.bool x.good)) : PureC P G f_topiarylaw_trees [] (.bool true) := by
  refine pure_of_go hF (by simp) (by simp [lbss]) (by simp [AV.lbs]) ?_
  unfold c_topiarylaw_trees
  simp only [↓evs, evp, evq, evl, boxK, ↓a1_still, stillV, ↓af_still, ↓af_load, ↓af_store, ↓af_app, ↓af_new, ↓af_box, binV, AV.cells, Lb.loc.injEq, loadV, storeV, ldV, AV.stb, AV.one, IV.av1, Lb.app, Lb.fresh, reduceCtorEq, Bool.false_eq_true, ptrL, appL, fillA, chunks, ivs, AV.iv, mkE, if_false, if_true, List.not_mem_nil, forall_eq, Nat.reduceEqDiff, Nat.reduceLT, Nat.reduceLeDiff, Nat.reduceAdd, Nat.reduceMul, Int.reduceToNat, Int.reduceLE, Int.reduceLT, Int.le_refl, Int.toNat_zero, beq_self_eq_true, List.replicate_succ, List.replicate_zero]
  refine callT_pure (hJ [.mk true [97] [] [], .mk true [] [] [], .mk true [98] [] [], .mk false [99] [] []] (by decide)) ?_
  simp only [↓evs, evp, evq, evl, boxK, ↓a1_still, stillV, ↓af_still, ↓af_load, ↓af_store, ↓af_app, ↓af_new, ↓af_box, binV, AV.cells, Lb.loc.injEq, loadV, storeV, ldV, AV.stb, AV.one, IV.av1, Lb.app, Lb.fresh, reduceCtorEq, Bool.false_eq_true, ptrL, appL, fillA, chunks, ivs, AV.iv, mkE, if_false, if_true, List.not_mem_nil, forall_eq, Nat.reduceEqDiff, Nat.reduceLT, Nat.reduceLeDiff, Nat.reduceAdd, Nat.reduceMul, Int.reduceToNat, Int.reduceLE, Int.reduceLT, Int.le_refl, Int.toNat_zero, beq_self_eq_true]
  refine callT_pure ((hG (.mk false [97] [] []) (by decide)).of rfl) ?_
  rw [show (Tree.mk false [97] [] []).good = true from rfl]
  simp only [↓evs, evp, evq, evl, boxK, ↓a1_still, stillV, ↓af_still, ↓af_load, ↓af_store, ↓af_app, ↓af_new, ↓af_box, binV, AV.cells, Lb.loc.injEq, loadV, storeV, ldV, AV.stb, AV.one, IV.av1, Lb.app, Lb.fresh, reduceCtorEq, Bool.false_eq_true, ptrL, appL, fillA, chunks, ivs, AV.iv, mkE, if_false, if_true, List.not_mem_nil, forall_eq, Nat.reduceEqDiff, Nat.reduceLT, Nat.reduceLeDiff, Nat.reduceAdd, Nat.reduceMul, Int.reduceToNat, Int.reduceLE, Int.reduceLT, Int.le_refl, Int.toNat_zero, beq_self_eq_true]
  refine callT_pure ((hG (.mk false [] [] []) (by decide)).of rfl) ?_
  rw [show (Tree.mk false [] [] []).good = false from rfl]
  have e : ivT (joined [.mk true [97] [] [], .mk true [] [] [], .mk true [98] [] [], .mk false [99] [] []]) = [.agg [.bool true, .str [97, 98], .list [], .list []], .agg [.bool false, .str [99], .list [], .list []]] := rfl
  have he : Elsz 4 [IV.agg [.bool true, .str [97, 98], .list [], .list []], .agg [.bool false, .str [99], .list [], .list []]] := by simp [Elsz, IV.cells]
  rw [e]
  simp only [↓evs, evp, evq, evl, boxK, ↓a1_still, stillV, ↓af_still, ↓af_load, ↓af_store, ↓af_app, ↓af_new, ↓af_box, binV, AV.cells, Lb.loc.injEq, loadV, storeV, ldV, AV.stb, AV.one, IV.av1, Lb.app, Lb.fresh, reduceCtorEq, Bool.false_eq_true, ptrL, appL, fillA, chunks, ivs, AV.iv, mkE, if_false, if_true, List.not_mem_nil, forall_eq, Nat.reduceEqDiff, Nat.reduceLT, Nat.reduceLeDiff, Nat.reduceAdd, Nat.reduceMul, Int.reduceToNat, Int.reduceLE, Int.reduceLT, Int.le_refl, Int.toNat_zero, beq_self_eq_true, he]
  rw [show (((2 : Nat) : Int) == 2) = true from rfl]
  simp only [↓evs, evp, evq, evl, boxK, ↓a1_still, stillV, ↓af_still, ↓af_load, ↓af_store, ↓af_app, ↓af_new, ↓af_box, binV, AV.cells, Lb.loc.injEq, loadV, storeV, ldV, AV.stb, AV.one, IV.av1, Lb.app, Lb.fresh, reduceCtorEq, Bool.false_eq_true, ptrL, appL, fillA, chunks, ivs, AV.iv, mkE, if_false, if_true, List.not_mem_nil, forall_eq, Nat.reduceEqDiff, Nat.reduceLT, Nat.reduceLeDiff, Nat.reduceAdd, Nat.reduceMul, Int.reduceToNat, Int.reduceLE, Int.reduceLT, Int.le_refl, Int.toNat_zero, beq_self_eq_true, he]

def c_topiarylaw_TreeJoins (f_topiaryref_CopyTrees f_tree_Joined f_topiaryref_JoinedOf f_topiaryref_SameTrees f_topiarylaw_trees : Nat) : AC :=
(.seq (.reg [⟨(some 2), none, (.mov (.c (.bool false)))⟩]) (.seq (.reg [⟨(some 4), none, (.mov (.t 0))⟩, ⟨(some 5), none, (.call f_topiaryref_CopyTrees [(.t 4)])⟩, ⟨(some 3), none, (.mov (.t 5))⟩]) (.seq (.reg [⟨(some 6), none, (.mov (.t 3))⟩, ⟨(some 7), none, (.call f_tree_Joined [(.t 6)])⟩, ⟨(some 8), none, (.mov (.t 0))⟩, ⟨(some 9), none, (.call f_topiaryref_JoinedOf [(.t 8)])⟩, ⟨(some 10), none, (.call f_topiaryref_SameTrees [(.t 7), (.t 9)])⟩, ⟨(some 11), none, (.mov (.t 10))⟩, ⟨(some 12), (some (11, true)), (.mov (.t 3))⟩, ⟨(some 13), (some (11, true)), (.mov (.t 0))⟩, ⟨(some 14), (some (11, true)), (.call f_topiaryref_SameTrees [(.t 12), (.t 13)])⟩, ⟨(some 15), none, (.pick (.t 11) (.t 14) (.c (.bool false)))⟩, ⟨(some 16), none, (.mov (.t 15))⟩, ⟨(some 17), (some (16, true)), (.call f_topiarylaw_trees [])⟩, ⟨(some 18), none, (.pick (.t 16) (.t 17) (.c (.bool false)))⟩, ⟨(some 2), none, (.mov (.t 18))⟩]) .ret)))

theorem pTreeJoins {P : Program} {G : Nat → Option (List IV)} {f_topiarylaw_TreeJoins f_topiaryref_CopyTrees f_tree_Joined f_topiaryref_JoinedOf f_topiaryref_SameTrees f_topiarylaw_trees : Nat} (hF : compF P G f_topiarylaw_TreeJoins = some (19, [(none, 2)], (c_topiarylaw_TreeJoins f_topiaryref_CopyTrees f_tree_Joined f_topiaryref_JoinedOf f_topiaryref_SameTrees f_topiarylaw_trees).bare)) (l : List Tree) (hl : wtT l ≤ B)
    (hC : ∀ l : List Tree, wtT l ≤ B → PureC P G f_topiaryref_CopyTrees [.list (ivT l)] (.list (ivT l)))
    (hJ : ∀ l : List Tree, wtT l ≤ B → PureC P G f_tree_Joined [.list (ivT l)] (.list (ivT (joined l))))
    (hO : ∀ l : List Tree, wtT l ≤ B → PureC P G f_topiaryref_JoinedOf [.list (ivT l)] (.list (ivT (joined l))))
    (hS : ∀ xs ys : List Tree, wtT xs ≤ B → PureC P G f_topiaryref_SameTrees [.list (ivT xs), .list (ivT ys)] (.bool (eqB xs ys)))
    (hT : PureC P G f_topiarylaw_trees [] (.bool true)) : PureC P G f_topiarylaw_TreeJoins [.list (ivT l)] (.bool true) := by
  refine pure_of_go hF (by simp) (by simp [lbss, AV.lbs]) (by simp [AV.lbs]) ?_
  have hj := wtT_joined l
  unfold c_topiarylaw_TreeJoins
  simp only [↓evs, evp, evq, evl, boxK, ↓a1_still, stillV, ↓af_still, ↓af_load, ↓af_store, ↓af_app, ↓af_new, ↓af_box, binV, AV.cells, Lb.loc.injEq, loadV, storeV, ldV, AV.stb, AV.one, IV.av1, Lb.app, Lb.fresh, reduceCtorEq, Bool.false_eq_true, ptrL, appL, fillA, chunks, ivs, AV.iv, mkE, if_false, if_true, List.not_mem_nil, forall_eq, Nat.reduceEqDiff, Nat.reduceLT, Nat.reduceLeDiff, Nat.reduceAdd, Nat.reduceMul, Int.reduceToNat, Int.reduceLE, Int.reduceLT, Int.le_refl, Int.toNat_zero, beq_self_eq_true]
  refine callT_pure (hC l hl) ?_
  simp only [↓evs, evp, evq, evl, boxK, ↓a1_still, stillV, ↓af_still, ↓af_load, ↓af_store, ↓af_app, ↓af_new, ↓af_box, binV, AV.cells, Lb.loc.injEq, loadV, storeV, ldV, AV.stb, AV.one, IV.av1, Lb.app, Lb.fresh, reduceCtorEq, Bool.false_eq_true, ptrL, appL, fillA, chunks, ivs, AV.iv, mkE, if_false, if_true, List.not_mem_nil, forall_eq, Nat.reduceEqDiff, Nat.reduceLT, Nat.reduceLeDiff, Nat.reduceAdd, Nat.reduceMul, Int.reduceToNat, Int.reduceLE, Int.reduceLT, Int.le_refl, Int.toNat_zero, beq_self_eq_true]
  refine callT_pure (hJ l hl) ?_
  simp only [↓evs, evp, evq, evl, boxK, ↓a1_still, stillV, ↓af_still, ↓af_load, ↓af_store, ↓af_app, ↓af_new, ↓af_box, binV, AV.cells, Lb.loc.injEq, loadV, storeV, ldV, AV.stb, AV.one, IV.av1, Lb.app, Lb.fresh, reduceCtorEq, Bool.false_eq_true, ptrL, appL, fillA, chunks, ivs, AV.iv, mkE, if_false, if_true, List.not_mem_nil, forall_eq, Nat.reduceEqDiff, Nat.reduceLT, Nat.reduceLeDiff, Nat.reduceAdd, Nat.reduceMul, Int.reduceToNat, Int.reduceLE, Int.reduceLT, Int.le_refl, Int.toNat_zero, beq_self_eq_true]
  refine callT_pure (hO l hl) ?_
  simp only [↓evs, evp, evq, evl, boxK, ↓a1_still, stillV, ↓af_still, ↓af_load, ↓af_store, ↓af_app, ↓af_new, ↓af_box, binV, AV.cells, Lb.loc.injEq, loadV, storeV, ldV, AV.stb, AV.one, IV.av1, Lb.app, Lb.fresh, reduceCtorEq, Bool.false_eq_true, ptrL, appL, fillA, chunks, ivs, AV.iv, mkE, if_false, if_true, List.not_mem_nil, forall_eq, Nat.reduceEqDiff, Nat.reduceLT, Nat.reduceLeDiff, Nat.reduceAdd, Nat.reduceMul, Int.reduceToNat, Int.reduceLE, Int.reduceLT, Int.le_refl, Int.toNat_zero, beq_self_eq_true]
  refine callT_pure (hS _ _ (by omega)) ?_
  simp only [↓evs, evp, evq, evl, boxK, ↓a1_still, stillV, ↓af_still, ↓af_load, ↓af_store, ↓af_app, ↓af_new, ↓af_box, binV, AV.cells, Lb.loc.injEq, loadV, storeV, ldV, AV.stb, AV.one, IV.av1, Lb.app, Lb.fresh, reduceCtorEq, Bool.false_eq_true, ptrL, appL, fillA, chunks, ivs, AV.iv, mkE, if_false, if_true, List.not_mem_nil, forall_eq, Nat.reduceEqDiff, Nat.reduceLT, Nat.reduceLeDiff, Nat.reduceAdd, Nat.reduceMul, Int.reduceToNat, Int.reduceLE, Int.reduceLT, Int.le_refl, Int.toNat_zero, beq_self_eq_true, eqB_self]
  refine callT_pure (hS _ _ hl) ?_
  simp only [↓evs, evp, evq, evl, boxK, ↓a1_still, stillV, ↓af_still, ↓af_load, ↓af_store, ↓af_app, ↓af_new, ↓af_box, binV, AV.cells, Lb.loc.injEq, loadV, storeV, ldV, AV.stb, AV.one, IV.av1, Lb.app, Lb.fresh, reduceCtorEq, Bool.false_eq_true, ptrL, appL, fillA, chunks, ivs, AV.iv, mkE, if_false, if_true, List.not_mem_nil, forall_eq, Nat.reduceEqDiff, Nat.reduceLT, Nat.reduceLeDiff, Nat.reduceAdd, Nat.reduceMul, Int.reduceToNat, Int.reduceLE, Int.reduceLT, Int.le_refl, Int.toNat_zero, beq_self_eq_true, eqB_self]
  refine callT_pure hT ?_
  simp only [↓evs, evp, evq, evl, boxK, ↓a1_still, stillV, ↓af_still, ↓af_load, ↓af_store, ↓af_app, ↓af_new, ↓af_box, binV, AV.cells, Lb.loc.injEq, loadV, storeV, ldV, AV.stb, AV.one, IV.av1, Lb.app, Lb.fresh, reduceCtorEq, Bool.false_eq_true, ptrL, appL, fillA, chunks, ivs, AV.iv, mkE, if_false, if_true, List.not_mem_nil, forall_eq, Nat.reduceEqDiff, Nat.reduceLT, Nat.reduceLeDiff, Nat.reduceAdd, Nat.reduceMul, Int.reduceToNat, Int.reduceLE, Int.reduceLT, Int.le_refl, Int.toNat_zero, beq_self_eq_true]

end Go.Am
