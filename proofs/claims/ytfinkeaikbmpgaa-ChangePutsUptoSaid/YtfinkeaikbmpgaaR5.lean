import Derived.Test.YtfinkeaikbmpgaaR4
import Derived.Test.YtfinkeaikbmpgaaT94
set_option linter.unusedSimpArgs false
set_option linter.unusedVariables false
set_option linter.unnecessarySimpa false
set_option linter.defProp false
/- Functions of this seat, read: the laws of changes. -/
namespace Go.Proofs.Ytfinkeaikbmpgaa
open Go Go.Am Go.ChangeShapes
set_option maxRecDepth 100000
theorem Be:aA Try.prog fV 32=some (43,[(none,0)],(fR 34).bare):=by kernel_rfl
theorem Bf:aA Try.prog fV 35=some (87,[(none,4)],(fQ 49).bare):=by kernel_rfl
theorem Gu:aA Try.prog fV 49=some (26,[(none,4)],eE.bare):=by kernel_rfl
theorem DS:vf Try.prog fV 34:=R_.Kf
theorem DT:az Try.prog fV 32 [] (.bool true):=Du Be DS
theorem Bg:Ds Try.prog fV 35:=fun d e h=>
 CP Bf d e h fun x hx y _=>uW Gu _ _ (by have:=qD hx;simp only[Am.Node.wt] at this;omega)
end Go.Proofs.Ytfinkeaikbmpgaa
