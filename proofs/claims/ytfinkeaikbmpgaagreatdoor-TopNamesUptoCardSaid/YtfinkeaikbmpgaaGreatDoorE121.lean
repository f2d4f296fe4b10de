import Derived.Test.YtfinkeaikbmpgaaGreatDoorE60
import Derived.Test.YtfinkeaikbmpgaaGreatDoorKAm58
set_option linter.unusedSimpArgs false
set_option linter.unusedVariables false
set_option linter.unnecessarySimpa false
set_option linter.defProp false
/- TopNames in this seat. -/
namespace Go.Proofs.YtfinkeaikbmpgaaGreatDoor
open Go Go.Am Go.ChangeShapes
variable {t1 t2:Nat}
def apc:aw Tryz.prog (gS t1 t2) 15=some (112,[(none,6)],(alz 19 25 53 22 28 29).bare):=Pl
def arq (d:Doc) (n:Int) (hd:Vo d=true):ap3 Tryz.prog (gS t1 t2) 22 d n:=by
 have zo:B=1073741824:=rfl;have hw:=amR hd;exact ark arb d tM n (fun x hx=>aeA x.attrs (by have:=acV hx;have:=iz x.attrs;omega)) (fun x hx=>aoE adX x.kids (by have:=acV hx;omega))
def apd (l:List ak7) (hl:l.length≤B) (hw:∀a∈l,wtL a.lines≤2^20) (a b:Bs) (ha:a.length≤B) (hb:b.length≤B):au Tryz.prog (gS t1 t2) 15 [.list (l.map ak7.iv),.str a,.str b] (.bool true):=
 apb apc l a b (ap1 l hl hw) (fun s hs=>qk aco s (by rcases hs with rfl|rfl<;>assumption)) arq arj
  (fun h1 h2=>arC ⟨2,[ams a b]⟩ (by have:=Zp h1;have:=Zp h2;simp[wtL,ams];omega)) aqJ
end Go.Proofs.YtfinkeaikbmpgaaGreatDoor
