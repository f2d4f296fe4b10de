/- The functions of this seat, read; the types of its data. -/
import Derived.Test.YtfinkeaikbmpgaaRows
import Derived.Test.YtfinkeaikbmpgaaAm29
import Derived.Test.YtfinkeaikbmpgaaT3
import Derived.Test.YtfinkeaikbmpgaaT10
import Derived.KernelRfl
set_option linter.defProp false
set_option linter.unnecessarySimpa false
set_option linter.unusedVariables false
set_option linter.unusedSimpArgs false
namespace Go.Proofs.Ytfinkeaikbmpgaa
open Go Go.Am Go.ChangeShapes

def fieldsAt (P : Program) (t : TypeId) : Array Field := match P.underlying t with
  | some (.struct fs) => fs
  | _ => #[]

noncomputable def tyT : TyT Try.prog where
  tB := 4
  tS := 9
  tA := 60
  tAs := 27
  tT := 29
  tTs := 23
  fA := fieldsAt Try.prog 60
  fT := fieldsAt Try.prog 29
  uB := by kernel_rfl
  uS := by kernel_rfl
  uAs := by kernel_rfl
  uTs := by kernel_rfl
  uA := by kernel_rfl
  uT := by kernel_rfl
  sA := by kernel_rfl
  sT := by kernel_rfl

theorem laid : laidOutB Try.prog = true := by kernel_rfl

theorem hCopyTrees : compF Try.prog noG 13 = some (19, [(none, 2)], (cCopyTrees 37).bare) := by kernel_rfl
theorem hCopyTree : compF Try.prog noG 37 = some (12, [((some (some 4)), 2)], (cCopyTree 13).bare) := by kernel_rfl
theorem hSameAttrs : compF Try.prog noG 54 = some (26, [(none, 4)], cSameAttrs.bare) := by kernel_rfl
theorem hSameTree : compF Try.prog noG 38 = some (31, [(none, 4)], (cSameTree 54 14).bare) := by kernel_rfl
theorem hSameTrees : compF Try.prog noG 14 = some (27, [(none, 4)], (cSameTrees 38).bare) := by kernel_rfl
theorem hPlain : compF Try.prog noG 55 = some (29, [(none, 2)], cPlain.bare) := by kernel_rfl
theorem hNamed : compF Try.prog noG 56 = some (28, [(none, 2)], cNamed.bare) := by kernel_rfl
theorem hGoodAttrs : compF Try.prog noG 57 = some (41, [(none, 2)], (cGoodAttrs 56 55).bare) := by kernel_rfl
theorem hSize : compF Try.prog noG 26 = some (32, [(none, 2), (none, 3)], (cSize 26).bare) := by kernel_rfl
theorem hFine : compF Try.prog noG 41 = some (38, [(none, 2)], (cFine 55 56 57 39).bare) := by kernel_rfl
theorem hFines : compF Try.prog noG 39 = some (32, [(none, 2)], (cFines 41).bare) := by kernel_rfl
theorem hGood : compF Try.prog noG 24 = some (25, [(none, 2)], (cGood 26 41).bare) := by kernel_rfl
theorem hJoined : compF Try.prog noG 15 = some (59, [(none, 2)], (c_tree_Joined 15).bare) := by kernel_rfl
theorem hJoinedOf : compF Try.prog noG 16 = some (86, [(none, 2)], (c_topiaryref_JoinedOf 16).bare) := by kernel_rfl
theorem hTrees : compF Try.prog noG 17 = some (27, [(none, 0)], (c_topiarylaw_trees 15 24).bare) := by kernel_rfl
theorem hTreeJoins : compF Try.prog noG 4 = some (19, [(none, 2)], (c_topiarylaw_TreeJoins 13 15 16 14 17).bare) := by kernel_rfl

theorem dGood (x : Tree) (h : x.wt ≤ B) : PureC Try.prog noG 24 [x.av] (.bool x.good) :=
  pGood hGood x (wSize hSize x h) (wFine hPlain hNamed hGoodAttrs hFine hFines x h)
theorem dTrees : PureC Try.prog noG 17 [] (.bool true) := pTrees hTrees (fun l h => wJoined hJoined l h) dGood
theorem dTreeJoins (l : List Tree) (h : wtT l ≤ B) : PureC Try.prog noG 4 [.list (ivT l)] (.bool true) :=
  pTreeJoins hTreeJoins l h (fun l h => wCopy hCopyTree hCopyTrees _ l (Nat.le_refl _) h) (fun l h => wJoined hJoined l h) (fun l h => wJoinedOf hJoinedOf l h)
    (fun xs ys h => wSame hSameAttrs hSameTree hSameTrees _ xs ys (Nat.le_refl _) h) dTrees

end Go.Proofs.Ytfinkeaikbmpgaa
