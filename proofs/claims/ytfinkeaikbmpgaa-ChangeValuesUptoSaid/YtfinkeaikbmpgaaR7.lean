import Derived.Test.YtfinkeaikbmpgaaR5
import Derived.Test.YtfinkeaikbmpgaaKC11
set_option linter.unusedSimpArgs false
set_option linter.unusedVariables false
set_option linter.unnecessarySimpa false
set_option linter.defProp false
/- Functions of this seat, read: a value given to a node. -/
namespace Go.Proofs.Ytfinkeaikbmpgaa
open Go Go.Am Go.ChangeShapes
set_option maxRecDepth 100000
theorem hLChangeValues : compF Try.prog noG 12 = some (94,[(none,6)],(c_topiarykeep_ChangeValues 34 32 30 29).bare) := by kernel_rfl
theorem dChangeValues (d : Doc) (n : Int) (s : Bs) (hd : wtN d ≤ 2 ^ 22) (hs : s.length ≤ 2 ^ 22) : PureC Try.prog noG 12 [Doc.av d,.int .i64 n,.str s] (.bool true) :=
 pLawChangeValues hLChangeValues d n s hd hs dApply dChanges (fun e k h => dDocString e h k) (fun e k h => dDocEnd e h k)
end Go.Proofs.Ytfinkeaikbmpgaa
