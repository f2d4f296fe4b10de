import Derived.Test.YtfinkeaikbmpgaaGreatDoorE60
import Derived.Test.YtfinkeaikbmpgaaGreatDoorKT170
set_option linter.unusedSimpArgs false
set_option linter.unusedVariables false
set_option linter.unnecessarySimpa false
set_option linter.defProp false
/- TopMemory in this seat. -/
namespace Go.Proofs.YtfinkeaikbmpgaaGreatDoor
open Go Go.Am Go.ChangeShapes
variable {t1 t2:Nat}
def ar8:aw Tryz.prog (gS t1 t2) 17=some (14,[(none,2)],(arF 47 54 19).bare):=Po
def ar4:aw Tryz.prog (gS t1 t2) 54=some (85,[(none,9)],(arE 28 22 29).bare):=Po
def ass:aw Tryz.prog (gS t1 t2) 22=some (35,[((some (some 1)),2)],(arK 58 59).bare):=Po
def asn (d:Doc) (n:Int) (hd:Vo d=true):DocM Tryz.prog (gS t1 t2) 22 d n:=by
 have zo:B=1073741824:=rfl;have hw:=amR hd;exact asq ass d tM n (fun x hx=>afR chF.Y5 x.attrs (by have:=acV hx;have:=iz x.attrs;omega)) (fun x hx=>afS chF.adj x.kids (by have:=acV hx;omega))
def ar9 (l:List ak7) (hl:l.length≤B) (hw:∀a∈l,wtL a.lines≤2^20):au Tryz.prog (gS t1 t2) 17 [.list (l.map ak7.iv)] (.bool true):=
 ar7 ar8 l aqa (asm arc l hl ap0 aqa (fun i _=>apC _ (anj l i).1 _) (fun i a _ ha=>by
  rw[anE ha];exact apZ _ (anj l i).1 _ (anj l i).2.1 (anj l i).2.2 a (hw a (dc ha))) Po fun i a _ ha=>
   asd ar4 _ _ _ _ _ a _ (by have:=amR (anj l (i+1)).1;unfold B;omega) (by
    rw[anE ha];exact apZ _ (anj l i).1 _ (anj l i).2.1 (anj l i).2.2 a (hw a (dc ha))) (apC _ (anj l (i+1)).1 _) (asn _ _ (anj l (i+1)).1)
    (by have h:=aqJ (t1:=t1) (t2:=t2) _ _ (anj l (i+1)).1 (anj l (i+1)).1;rw[Oh] at h;exact h))
end Go.Proofs.YtfinkeaikbmpgaaGreatDoor
