import Derived.Test.YtfinkeaikbmpgaaR0
import Derived.Test.YtfinkeaikbmpgaaT12
set_option linter.unusedSimpArgs false
set_option linter.unusedVariables false
set_option linter.unnecessarySimpa false
set_option linter.defProp false
/- Functions of this seat, read: trees. -/
namespace Go.Proofs.Ytfinkeaikbmpgaa
open Go Go.Am Go.ChangeShapes

theorem hCopyTrees : compF Try.prog noG 13 = some (19, [(none, 2)], (cCopyTrees 37).bare) := by kernel_rfl
theorem hCopyTree : compF Try.prog noG 37 = some (12, [((some (some 4)), 2)], (cCopyTree 13).bare) := by kernel_rfl
theorem hSameAttrs : compF Try.prog noG 54 = some (26, [(none, 4)], cSameAttrs.bare) := by kernel_rfl
theorem hSameTree : compF Try.prog noG 38 = some (31, [(none, 4)], (cSameTree 54 14).bare) := by kernel_rfl
theorem hSameTrees : compF Try.prog noG 14 = some (27, [(none, 4)], (cSameTrees 38).bare) := by kernel_rfl
theorem hPlain : compF Try.prog noG 55 = some (29, [(none, 2)], cPlain.bare) := by kernel_rfl
theorem hNamed : compF Try.prog noG 56 = some (28, [(none, 2)], cNamed.bare) := by kernel_rfl
theorem hGoodAttrs : compF Try.prog noG 57 = some (41, [(none, 2)], (cGoodAttrs 56 55).bare) := by kernel_rfl
theorem hSize : compF Try.prog noG 26 = some (32, [(none, 2), (none, 3)], (cSize 26).bare) := by kernel_rfl
theorem hFine : compF Try.prog noG 41 = some (38, [(none, 2)], (cFine 55 56 57 39).bare) := by kernel_rfl
theorem hFines : compF Try.prog noG 39 = some (32, [(none, 2)], (cFines 41).bare) := by kernel_rfl
theorem hGood : compF Try.prog noG 24 = some (25, [(none, 2)], (cGood 26 41).bare) := by kernel_rfl
theorem hJoined : compF Try.prog noG 15 = some (59, [(none, 2)], (c_tree_Joined 15).bare) := by kernel_rfl
theorem hJoinedOf : compF Try.prog noG 16 = some (86, [(none, 2)], (c_topiaryref_JoinedOf 16).bare) := by kernel_rfl
theorem hTrees : compF Try.prog noG 17 = some (27, [(none, 0)], (c_topiarylaw_trees 15 24).bare) := by kernel_rfl
theorem hTreeJoins : compF Try.prog noG 4 = some (19, [(none, 2)], (c_topiarylaw_TreeJoins 13 15 16 14 17).bare) := by kernel_rfl

theorem dGood (x : Tree) (h : x.wt ≤ B) : PureC Try.prog noG 24 [x.av] (.bool x.good) :=
  pGood hGood x (wSize hSize x h) (wFine hPlain hNamed hGoodAttrs hFine hFines x h)
theorem dTrees : PureC Try.prog noG 17 [] (.bool true) := pTrees hTrees (fun l h => wJoined hJoined l h) dGood
theorem dTreeJoins (l : List Tree) (h : wtT l ≤ B) : PureC Try.prog noG 4 [.list (ivT l)] (.bool true) :=
  pTreeJoins hTreeJoins l h (fun l h => wCopy hCopyTree hCopyTrees _ l (Nat.le_refl _) h) (fun l h => wJoined hJoined l h) (fun l h => wJoinedOf hJoinedOf l h)
    (fun xs ys h => wSame hSameAttrs hSameTree hSameTrees _ xs ys (Nat.le_refl _) h) dTrees


theorem hContent : compF Try.prog noG 19 = some (31, [(none, 2)], (c_tree_Content 26 39).bare) := by kernel_rfl
theorem hTold : compF Try.prog noG 20 = some (25, [(none, 2)], (c_topiarykeep_told 20).bare) := by kernel_rfl
theorem hKeepSames : compF Try.prog noG 18 = some (27, [(none, 4)], (cSameTrees 27).bare) := by kernel_rfl
theorem hKeepSame : compF Try.prog noG 27 = some (50, [(none, 4)], (c_topiarykeep_same 18).bare) := by kernel_rfl
theorem hKeepTrees : compF Try.prog noG 21 = some (27, [(none, 0)], (c_topiarylaw_trees 15 24).bare) := by kernel_rfl
theorem hTreeOnce : compF Try.prog noG 5 = some (59, [(none, 2)], (c_topiarykeep_TreeOnce 15 18 19 20 21).bare) := by kernel_rfl

theorem dSize (x : Tree) (h : x.wt ≤ B) : PureC Try.prog noG 26 [x.av] (.tup [.int .i64 x.dep, .int .i64 x.cnt]) := wSize hSize x h
theorem dFines (l : List Tree) (h : wtT l ≤ B) : PureC Try.prog noG 39 [.list (ivT l)] (.bool (fines none l)) := wFines hPlain hNamed hGoodAttrs hFine hFines l h
theorem dContent (l : List Tree) (h : wtT l ≤ B) : PureC Try.prog noG 19 [.list (ivT l)] (.bool (content l)) :=
  pContent hContent l h (fun x hx => dSize x (by have := wt_mem hx; omega)) (dFines l h)
theorem dKeepSames (xs ys : List Tree) (h : wtT xs ≤ B) : PureC Try.prog noG 18 [.list (ivT xs), .list (ivT ys)] (.bool (eqB xs ys)) := wKeepSames hKeepSame hKeepSames xs ys h
theorem dTold (l : List Tree) (h : wtT l ≤ B) : PureC Try.prog noG 20 [.list (ivT l)] (.str (toldT l)) := wTold hTold l h
theorem dJoined (l : List Tree) (h : wtT l ≤ B) : PureC Try.prog noG 15 [.list (ivT l)] (.list (ivT (joined l))) := wJoined hJoined l h
theorem dTreeOnce (l : List Tree) (h : wtT l ≤ B) : PureC Try.prog noG 5 [.list (ivT l)] (.bool true) :=
  pTreeOnce hTreeOnce l h dJoined dKeepSames (dContent l h) dTold (pTrees hKeepTrees dJoined dGood)
end Go.Proofs.Ytfinkeaikbmpgaa
