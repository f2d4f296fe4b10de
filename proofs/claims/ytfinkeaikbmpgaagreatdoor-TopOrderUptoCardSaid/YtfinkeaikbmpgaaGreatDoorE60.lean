import Derived.Test.YtfinkeaikbmpgaaGreatDoorE50
import Derived.Test.YtfinkeaikbmpgaaGreatDoorKT115
set_option linter.unusedSimpArgs false
set_option linter.unusedVariables false
set_option linter.unnecessarySimpa false
set_option linter.defProp false
/- The store's contracts, once more. -/
namespace Go.Proofs.YtfinkeaikbmpgaaGreatDoor
open Go Go.Am Go.ChangeShapes
variable {t1 t2:Nat}
def Dd:II Tryz.prog (gS t1 t2) 22:=fun d n h=>Kg d h n
def IJ (a:bK) (h:qf a.lines≤2^20):UK Tryz.prog (gS t1 t2) 28 a:=fun d n hd h0 h1=>Th d hd n h0 h1 a h
def yp:BB Tryz.prog (gS t1 t2) 29:=fun d e hd he=>by
 have nM:B=1073741824:=rfl;have h1:=wb hd;have h2:=wb he;have h3:=Kf hd;exact P8 abr d e hd he (w6 d (by omega) 0) (w6 e (by omega) 0) (CK T_ _ _ (by omega))
def xo (l:List bK) (hl:l.length≤B) (hw:∀a∈l,qf a.lines≤2^20):qa Tryz.prog (gS t1 t2) 19 25 l:=IH l hl hw (by kernel_rfl) fun i a _ _=>X0 X4 _ _ _ a _
end Go.Proofs.YtfinkeaikbmpgaaGreatDoor
