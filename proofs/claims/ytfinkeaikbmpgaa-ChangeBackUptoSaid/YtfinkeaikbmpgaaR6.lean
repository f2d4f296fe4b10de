import Derived.Test.YtfinkeaikbmpgaaR5
import Derived.Test.YtfinkeaikbmpgaaKC11
set_option linter.unusedSimpArgs false
set_option linter.unusedVariables false
set_option linter.unnecessarySimpa false
set_option linter.defProp false
/- Functions of this seat, read: called otherwise and as it was again. -/
namespace Go.Proofs.Ytfinkeaikbmpgaa
open Go Go.Am Go.ChangeShapes
set_option maxRecDepth 100000
theorem hLChangeBack : compF Try.prog noG 10 = some (133,[(none,8)],(c_topiarykeep_ChangeBack 28 32 34 35).bare) := by kernel_rfl
theorem dChangeBack (d : Doc) (n : Int) (name s : Bs) (hd : wtN d ≤ 2 ^ 22) (hn : name.length ≤ 2 ^ 22) (hs : s.length ≤ 2 ^ 22) : PureC Try.prog noG 10 [Doc.av d,.int .i64 n,.str name,.str s] (.bool true) :=
 pLawChangeBack hLChangeBack d n name s hd hn hs dApply dChanges dKSameDoc dDocGood
end Go.Proofs.Ytfinkeaikbmpgaa
