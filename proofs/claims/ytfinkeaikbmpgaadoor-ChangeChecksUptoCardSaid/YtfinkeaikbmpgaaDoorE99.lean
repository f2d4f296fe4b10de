import Derived.Test.YtfinkeaikbmpgaaDoorE98
import Derived.Test.YtfinkeaikbmpgaaDoorKS4
set_option linter.unusedSimpArgs false
set_option linter.unusedVariables false
set_option linter.unnecessarySimpa false
set_option linter.defProp false
/- Functions of this seat, read: what documents tell. -/
namespace Go.Proofs.YtfinkeaikbmpgaaDoor
open Go Go.Am Go.ChangeShapes
variable {mm:Int}
def afO:aw Tryd.prog (gL mm) 87=some (47,[((some (some 4)),4)],(V6 87).bare):=by kernel_rfl
def agT:aw Tryd.prog (gL mm) 42=some (60,[(none,2)],(W0 87 35 36).bare):=by kernel_rfl
def aeD:aw Tryd.prog (gL mm) 38=some (29,[((some (some 1)),2)],Wu.bare):=by kernel_rfl
def afP (d:Doc) (h:zn d≤B) (n:Nat) (hn:n<d.length):au Tryd.prog (gL mm) 87 [Doc.av d,.int .i64 (n:Int)] (Cj d n).av:=afN afO d h d.length n (by omega) hn
def aeE (d:Doc) (h:2*zn d≤B):au Tryd.prog (gL mm) 42 [Doc.av d] (.bool (Vo d)):=
 agS agT d h (fun h0=>afP d (by omega) 0 h0) aeC (fun e he=>abr e d he)
end Go.Proofs.YtfinkeaikbmpgaaDoor
