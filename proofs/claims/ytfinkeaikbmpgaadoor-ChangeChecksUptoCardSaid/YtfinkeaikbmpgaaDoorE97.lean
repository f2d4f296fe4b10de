import Derived.Test.YtfinkeaikbmpgaaDoorE80
import Derived.Test.YtfinkeaikbmpgaaDoorE2
set_option linter.unusedSimpArgs false
set_option linter.unusedVariables false
set_option linter.unnecessarySimpa false
set_option linter.defProp false
/- What is known of the package variables for the law ChangeChecks. -/
namespace Go.Proofs.YtfinkeaikbmpgaaDoor
open Go Go.Am Go.ChangeShapes Go.WideShapes Go.ChangeAt Go.RowKit
def gL (m:Int):Nat→Option (List IV):=fun g=>if g=1 then some [.int .i64 m] else none
def ahB {W:World} (hs:W.ShapedOpen Tryd.prog):∃m,qn Tryd.prog (gL m) W:=by
 obtain⟨m,h1⟩:=maxLen hs;refine⟨m,fun g cs hg=> ?_⟩;unfold gL at hg;split at hg
 ·rename_i e;subst e;cases hg;exact h1
 cases hg
end Go.Proofs.YtfinkeaikbmpgaaDoor
