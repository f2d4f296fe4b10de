import Derived.Test.YtfinkeaikbmpgaaGreatDoorE50
import Derived.Test.YtfinkeaikbmpgaaGreatDoorKT115
set_option linter.unusedSimpArgs false
set_option linter.unusedVariables false
set_option linter.unnecessarySimpa false
set_option linter.defProp false
/- The store's contracts, once more. -/
namespace Go.Proofs.YtfinkeaikbmpgaaGreatDoor
open Go Go.Am Go.ChangeShapes
variable {t1 t2:Nat}
def aqJ:aqb Tryz.prog (gS t1 t2) 29:=fun d e hd he=>by
 have zo:B=1073741824:=rfl;have h1:=amR hd;have h2:=amR he;have h3:=aoO hd;exact apz ard d e hd he (am7 d tM 0) (am7 e tM 0) (aoW aqT _ _ tM)
end Go.Proofs.YtfinkeaikbmpgaaGreatDoor
