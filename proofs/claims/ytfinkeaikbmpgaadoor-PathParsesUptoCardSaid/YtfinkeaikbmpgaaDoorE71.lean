import Derived.Test.YtfinkeaikbmpgaaDoorE70
import Derived.Test.YtfinkeaikbmpgaaDoorKT21
import Derived.Test.YtfinkeaikbmpgaaDoorKAm25
import Derived.Test.YtfinkeaikbmpgaaDoorKD1
set_option linter.unusedSimpArgs false
set_option linter.unusedVariables false
set_option linter.unnecessarySimpa false
set_option linter.defProp false
/- Functions of this seat, read: trees, documents. -/
namespace Go.Proofs.YtfinkeaikbmpgaaDoor
open Go Go.Am Go.ChangeShapes
variable {t1 t2:Nat}
def yF:aM Tryd.prog (gY t1 t2) 20=some (28,[(none,2)],om.bare):=by kernel_rfl
def AX:aM Tryd.prog (gY t1 t2) 77=some (43,[(none,4)],(eP 114 113 115 117 116 119 118).bare):=by kernel_rfl
def sO:aM Tryd.prog (gY t1 t2) 115=some (21,[((some (some 256)),2),(none,3)],cG.bare):=by kernel_rfl
def AY:aM Tryd.prog (gY t1 t2) 149=some (10,[(none,4)],bW.bare):=by kernel_rfl
def yG:aM Tryd.prog (gY t1 t2) 116=some (16,[(none,4)],(cz 149).bare):=by kernel_rfl
def yH:aM Tryd.prog (gY t1 t2) 117=some (22,[(none,4)],(cp 149).bare):=by kernel_rfl
def vI:aM Tryd.prog (gY t1 t2) 21=some (15,[(none,2)],(dj 77).bare):=by kernel_rfl
def Dv:aM Tryd.prog (gY t1 t2) 86=some (39,[((some (some 4)),4)],(sy 120 86).bare):=by kernel_rfl
section
variable {l:List Tree} {x y:Tree}
def AZ (s:Bs) (h:s.length≤B):aw Tryd.prog (gY t1 t2) 77 [.str s,.str bU] (.str (cO (dP bU) (dh (dP bU) s))):=
 AU AX s bU h (by decide) (sK sO bU (by decide) (by decide)) (ot yH _ s h (lE AY _))
  (qn yG _ _ (by have:=vG (dP bU) s;omega) (lE AY _))
def vJ (s:Bs) (h:s.length≤B):aw Tryd.prog (gY t1 t2) 21 [.str s] (.bool (named s)):=vH vI s (AZ s h)
end
end Go.Proofs.YtfinkeaikbmpgaaDoor
