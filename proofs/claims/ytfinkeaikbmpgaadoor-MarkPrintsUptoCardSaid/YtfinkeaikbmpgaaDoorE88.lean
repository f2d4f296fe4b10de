import Derived.Test.YtfinkeaikbmpgaaDoorE87
import Derived.Test.YtfinkeaikbmpgaaDoorE85
import Derived.Test.YtfinkeaikbmpgaaDoorKT140
set_option linter.unusedSimpArgs false
set_option linter.unusedVariables false
set_option linter.unnecessarySimpa false
set_option linter.defProp false
/- The law MarkPrints in this seat. -/
namespace Go.Proofs.YtfinkeaikbmpgaaDoor
open Go Go.Am Go.ChangeShapes
variable {m:Int}
def Hd:aw Tryd.prog (gM m) 140=some (14,[(none,4)],(fJ 167).bare):=by kernel_rfl
def EJ:aw Tryd.prog (gM m) 102=some (61,[(none,2)],(fe 140 102).bare):=by kernel_rfl
def tO:aw Tryd.prog (gM m) 69=some (14,[(none,2),(none,3)],(ec 27 102).bare):=by kernel_rfl
def BI:aw Tryd.prog (gM m) 56=some (24,[(none,0)],(ff 51 49).bare):=by kernel_rfl
def se:aw Tryd.prog (gM m) 12=some (29,[(none,2)],(dV 17 49 69 56).bare):=by kernel_rfl
def zf:EG Tryd.prog (gM m) 167:=zd Tryd.BG Tryd.mb (m:=m) rfl
def He (s:Bs) (hs:s.length≤2^16) (v:Bool):au Tryd.prog (gM m) 140 [.str s,.bool v] (.str (fG v s)):=EH Hd zf s hs v
def EK (x:Tree) (hx:x.wt≤2^15):au Tryd.prog (gM m) 102 [x.av] (.str x.sh):=by
 have key:=A4 (M:=fun l=>∀x∈l,x.wt≤2^15→au Tryd.prog (gM m) 102 [x.av] (.str x.sh)) (fun xs h x hx hB=>
  EI EJ He x hB fun k hk=>h x hx k hk (by have:=j_ hk;have:=jA x;omega))
 exact key [x] x (by simp) hx
def sf (x:Tree) (h:x.wt≤B):au Tryd.prog (gM m) 12 [x.av] (.bool true):=
 sd se x (vU h) (za x h) (tM tO x (Bf x h) fun hg=>EK x (by have:=ze hg;omega))
  (BH BI (EF _ (by rw[tG];decide)) (za zp (by decide)))
end Go.Proofs.YtfinkeaikbmpgaaDoor
