import Derived.Test.YtfinkeaikbmpgaaGreatDoorE108
import Derived.Test.YtfinkeaikbmpgaaGreatDoorKS4
set_option linter.unusedSimpArgs false
set_option linter.unusedVariables false
set_option linter.unnecessarySimpa false
set_option linter.defProp false
/- Functions of this seat, read: what documents tell. -/
namespace Go.Proofs.YtfinkeaikbmpgaaGreatDoor
open Go Go.Am Go.ChangeShapes
variable {mm:Int}
def afO:aw Tryz.prog (gN mm) 94=some (47,[((some (some 4)),4)],(V6 94).bare):=by kernel_rfl
def agT:aw Tryz.prog (gN mm) 77=some (60,[(none,2)],(W0 94 71 34).bare):=by kernel_rfl
def aeD:aw Tryz.prog (gN mm) 30=some (29,[((some (some 1)),2)],Wu.bare):=by kernel_rfl
def afP (d:Doc) (h:zn d≤B) (n:Nat) (hn:n<d.length):au Tryz.prog (gN mm) 94 [Doc.av d,.int .i64 (n:Int)] (Cj d n).av:=afN afO d h d.length n (by omega) hn
def aeE (d:Doc) (h:2*zn d≤B):au Tryz.prog (gN mm) 77 [Doc.av d] (.bool (Vo d)):=
 agS agT d h (fun h0=>afP d (by omega) 0 h0) aeC (fun e he=>abr e d he)
end Go.Proofs.YtfinkeaikbmpgaaGreatDoor
