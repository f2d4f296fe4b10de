import Derived.Test.YtfinkeaikbmpgaaGreatDoorE50
import Derived.Test.YtfinkeaikbmpgaaGreatDoorKT115
set_option linter.unusedSimpArgs false
set_option linter.unusedVariables false
set_option linter.unnecessarySimpa false
set_option linter.defProp false
/- The store's contracts, once more. -/
namespace Go.Proofs.YtfinkeaikbmpgaaGreatDoor
open Go Go.Am Go.ChangeShapes
variable {t1 t2:Nat}
def arj:ari Tryz.prog (gS t1 t2) 22:=fun d n h=>apC d h n
def arC (a:ak7) (h:wtL a.lines≤2^20):DoC Tryz.prog (gS t1 t2) 28 a:=fun d n hd h0 h1=>apZ d hd n h0 h1 a h
def aqJ:aqb Tryz.prog (gS t1 t2) 29:=fun d e hd he=>by
 have zo:B=1073741824:=rfl;have h1:=amR hd;have h2:=amR he;have h3:=aoO hd;exact apz ard d e hd he (am7 d tM 0) (am7 e tM 0) (aoW aqT _ _ tM)
def ap1 (l:List ak7) (hl:l.length≤B) (hw:∀a∈l,wtL a.lines≤2^20):aob Tryz.prog (gS t1 t2) 19 25 l:=aqI l hl hw Pl fun i a _ _=>aqC aqF _ _ _ a _
end Go.Proofs.YtfinkeaikbmpgaaGreatDoor
