import Derived.Test.YtfinkeaikbmpgaaR4
import Derived.Test.YtfinkeaikbmpgaaT94
set_option linter.unusedSimpArgs false
set_option linter.unusedVariables false
set_option linter.unnecessarySimpa false
set_option linter.defProp false
/- Functions of this seat, read: the laws of changes. -/
namespace Go.Proofs.Ytfinkeaikbmpgaa
open Go Go.Am Go.ChangeShapes
set_option maxRecDepth 100000
theorem hKChanges : compF Try.prog noG 32 = some (43,[(none,0)],(c_topiarykeep_changes 34).bare) := by kernel_rfl
theorem dApply : ApplyC Try.prog noG 34 := chF.cApply
theorem dChanges : PureC Try.prog noG 32 [] (.bool true) := pChanges hKChanges dApply
end Go.Proofs.Ytfinkeaikbmpgaa
