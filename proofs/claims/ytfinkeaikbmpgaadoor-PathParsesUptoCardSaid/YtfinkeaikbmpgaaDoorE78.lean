import Derived.Test.YtfinkeaikbmpgaaDoorE74
import Derived.Test.YtfinkeaikbmpgaaDoorE75
import Derived.Test.YtfinkeaikbmpgaaDoorKAm53
import Derived.Test.YtfinkeaikbmpgaaDoorKT134
set_option linter.unusedSimpArgs false
set_option linter.unusedVariables false
set_option linter.unnecessarySimpa false
set_option linter.defProp false
/- Functions of this seat, read: the law PathParses. -/
namespace Go.Proofs.YtfinkeaikbmpgaaDoor
open Go Go.Am Go.ChangeShapes
variable {t1 t2:Nat}
def ta:aM Tryd.prog (gY t1 t2) 112=some (44,[(none,2)],(dn 21).bare):=by kernel_rfl
def za:aM Tryd.prog (gY t1 t2) 111=some (2,[(none,0),(none,1)],cw.bare):=by kernel_rfl
def tc:aM Tryd.prog (gY t1 t2) 74=some (173,[(none,2),(none,3)],(cJ 111 112).bare):=by kernel_rfl
def nJ:aM Tryd.prog (gY t1 t2) 75=some (26,[(none,4)],cI.bare):=by kernel_rfl
def qH:aM Tryd.prog (gY t1 t2) 76=some (28,[(none,0)],(dA 73).bare):=by kernel_rfl
def nK:aM Tryd.prog (gY t1 t2) 16=some (28,[(none,2)],(cB 73 74 75 76).bare):=by kernel_rfl
def Be:wE Tryd.prog (gY t1 t2) 109:=A4 Tryd.s4 (t1:=t1) (t2:=t2) rfl rfl
def Bf:sZ Tryd.prog (gY t1 t2) 110:=A5 Tryd.s5 AS rfl
def oP (l:List Step) (hl:l.length≤B) (hn:∀x∈l,x.name.length≤B):aw Tryd.prog (gY t1 t2) 103 [.list (l.map Step.iv)] (.bool (aV l)):=qp qx l hl (fun x hx=>yX _ (hn x hx))
def kF (s:Bs) (hs:s.length≤2^24):aw Tryd.prog (gY t1 t2) 73 [.str s] (eu s):=by
 have wD:B=1073741824:=rfl;have hw:∀w∈aO 47 (s.drop 1),w.length≤2^24:=fun w h=>by
  have:=jg 47 (s.drop 1) w h;simp only[Gm] at this;omega
 exact oB yS s hs (oG s [47]) (yW (s.drop 1) 47 (by simp only[Gm];omega)) (fun w h=>CQ w 91 (by have:=hw w h;omega))
  (fun w h=>oH _ [93] (by have:=hw w h;have:=(kA 91 w).2;omega) (by simp;omega))
  (fun w h=>Be _ (by have:=hw w h;have:=(kA 91 w).2;have:=sY [93] (bn 91 w).2.1;omega)) Bf
  (fun l hl hn=>oP l hl fun x hx=>by have:=hn x hx;omega)
def qI:aw Tryd.prog (gY t1 t2) 76 [] (.bool true):=qG qH (kF _ (by decide))
def vR (l:List Step) (hl:l.length≤B) (hn:∀x∈l,x.name.length≤B):aw Tryd.prog (gY t1 t2) 112 [.list (l.map Step.iv)] (.bool (aV l)):=vN ta l hl (fun x hx=>vJ _ (hn x hx))
def nL (s:Bs) (hs:s.length≤2^24):aw Tryd.prog (gY t1 t2) 16 [.str s] (.bool true):=by
 have wD:B=1073741824:=rfl;exact nI nK s (kF s hs) (oO tc s (by omega) (by kernel_rfl) (y8 za) (fun l hl hn=>vR l (by omega) fun x hx=>by have:=hn x hx;omega))
  (fun l hl=>oN nJ l (by omega)) qI
end Go.Proofs.YtfinkeaikbmpgaaDoor
