import Derived.Test.YtfinkeaikbmpgaaGreatDoorE21
import Derived.Test.YtfinkeaikbmpgaaGreatDoorKS4
set_option linter.unusedSimpArgs false
set_option linter.unusedVariables false
set_option linter.unnecessarySimpa false
set_option linter.defProp false
/- Functions of this seat, read: what documents tell. -/
namespace Go.Proofs.YtfinkeaikbmpgaaGreatDoor
open Go Go.Am Go.ChangeShapes
variable {t1 t2:Nat}
theorem BW:aB Tryz.prog (gZ t1 t2) 94=some (47,[((some (some 4)),4)],(dR 94).bare):=by kernel_rfl
theorem Ey:aB Tryz.prog (gZ t1 t2) 77=some (60,[(none,2)],(fv 94 71 34).bare):=by kernel_rfl
theorem zv:aB Tryz.prog (gZ t1 t2) 30=some (29,[((some (some 1)),2)],eP.bare):=by kernel_rfl
theorem BX (d:Doc) (h:gO d≤B) (n:Nat) (hn:n<d.length):ai Tryz.prog (gZ t1 t2) 94 [Doc.av d,.int .i64 (n:Int)] (dy d n).av:=BV BW d h d.length n (by omega) hn
theorem Ez (d:Doc) (h:2*gO d≤B):ai Tryz.prog (gZ t1 t2) 77 [Doc.av d] (.bool (cq d)):=
 Ex Ey d h (fun h0=>BX d (by omega) 0 h0) zt (fun e he=>sC e d he)
end Go.Proofs.YtfinkeaikbmpgaaGreatDoor
