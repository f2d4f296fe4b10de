import Derived.Test.YtfinkeaikbmpgaaR0
import Derived.Test.YtfinkeaikbmpgaaKT8
set_option linter.unusedSimpArgs false
set_option linter.unusedVariables false
set_option linter.unnecessarySimpa false
set_option linter.defProp false
/- Functions of this seat, read: trees. -/
namespace Go.Proofs.Ytfinkeaikbmpgaa
open Go Go.Am Go.ChangeShapes
theorem hPlain : compF Try.prog noG 55 = some (29,[(none,2)],cPlain.bare) := by kernel_rfl
theorem hNamed : compF Try.prog noG 56 = some (28,[(none,2)],cNamed.bare) := by kernel_rfl
theorem hGoodAttrs : compF Try.prog noG 57 = some (41,[(none,2)],(cGoodAttrs 56 55).bare) := by kernel_rfl
theorem hSize : compF Try.prog noG 26 = some (32,[(none,2),(none,3)],(cSize 26).bare) := by kernel_rfl
theorem hFine : compF Try.prog noG 41 = some (38,[(none,2)],(cFine 55 56 57 39).bare) := by kernel_rfl
theorem hFines : compF Try.prog noG 39 = some (32,[(none,2)],(cFines 41).bare) := by kernel_rfl
theorem hGood : compF Try.prog noG 24 = some (25,[(none,2)],(cGood 26 41).bare) := by kernel_rfl
theorem hJoined : compF Try.prog noG 15 = some (59,[(none,2)],(c_tree_Joined 15).bare) := by kernel_rfl
theorem dGood (x : Tree) (h : x.wt ≤ B) : PureC Try.prog noG 24 [x.av] (.bool x.good) :=
 pGood hGood x (wSize hSize x h) (wFine hPlain hNamed hGoodAttrs hFine hFines x h)
theorem hContent : compF Try.prog noG 19 = some (31,[(none,2)],(c_tree_Content 26 39).bare) := by kernel_rfl
theorem dSize (x : Tree) (h : x.wt ≤ B) : PureC Try.prog noG 26 [x.av] (.tup [.int .i64 x.dep,.int .i64 x.cnt]) := wSize hSize x h
theorem dFines (l : List Tree) (h : wtT l ≤ B) : PureC Try.prog noG 39 [.list (ivT l)] (.bool (fines none l)) := wFines hPlain hNamed hGoodAttrs hFine hFines l h
theorem dContent (l : List Tree) (h : wtT l ≤ B) : PureC Try.prog noG 19 [.list (ivT l)] (.bool (content l)) :=
 pContent hContent l h (fun x hx => dSize x (by have := wt_mem hx; omega)) (dFines l h)
theorem dJoined (l : List Tree) (h : wtT l ≤ B) : PureC Try.prog noG 15 [.list (ivT l)] (.list (ivT (joined l))) := wJoined hJoined l h
end Go.Proofs.Ytfinkeaikbmpgaa
