import Derived.Test.YtfinkeaikbmpgaaGreatDoorE49
import Derived.Test.YtfinkeaikbmpgaaGreatDoorE30
import Derived.Test.YtfinkeaikbmpgaaGreatDoorT114
set_option linter.unusedSimpArgs false
set_option linter.unusedVariables false
set_option linter.unnecessarySimpa false
set_option linter.defProp false
/- The store's contracts in this seat; the law of TopGood. -/
namespace Go.Proofs.YtfinkeaikbmpgaaGreatDoor
open Go Go.Am Go.ChangeShapes
variable {t1 t2:Nat}
def X5:Pp Tryz.prog (gS t1 t2) 32:=chF.XB
def Qb (d:Doc) (hd:cW d=true) (n:Int) (ls:List Bs) (h:qf ls≤2^20) :
  ez Tryz.prog (gS t1 t2) 63 [.ptr (.par 0) 2 0 0,.list (ls.map IV.str)] (dL d n) (fun x cs=>x=(adl d ls).2.av∧cs=dL (adl d ls).1 n):=by
 have nM:B=1073741824:=rfl;have hl:∀s∈ls,s.length≤2^22:=fun s hs=>by have:=zB hs;omega
 have hw:=wb hd;exact L9 Tf d hd n ls (by have:=zC ls;omega) (fun s hs=>P_ s (hl s hs)) (fun s hs=>Te s (hl s hs))
  (fun s hs=>Sk d (by omega) _ (by have:=(BA s).1;omega) (fun x hx=>by have:=(BA s).2 x hx;omega))
  (fun l hl=>X5 d l (by omega) hl)
def Th (d:Doc) (hd:cW d=true) (n:Int) (h0:0≤n) (h1:n≤100) (a:bK) (h:qf a.lines≤2^20) :
  ez Tryz.prog (gS t1 t2) 28 [.ptr (.par 0) 2 0 0,a.av] (dL d n) (fun x cs=>x=(mQ d n a).2.av∧cs=dL (mQ d n a).1.1 (mQ d n a).1.2):=by
 have nM:B=1073741824:=rfl;have hw:=wb hd;have ht:=Kf hd;exact abi sDo d n h0 h1 a (by have:=zC a.lines;omega) (fun c=>pNo ac1 c) (by kernel_rfl) (fun s hs=>P2 s (by have:=zB hs;omega))
  (fun s hs=>CM _ (by have:=Qa s;omega)) (fun n=>Qb d hd n a.lines h) (w6 d (by omega) 0) (P1 _ (by omega))
def Kg (d:Doc) (hd:cW d=true) (n:Int) :
  ez Tryz.prog (gS t1 t2) 22 [.ptr (.par 0) 2 0 0] (dL d n) (fun x cs=>x=Doc.av d∧cs=dL d n):=by
 have nM:B=1073741824:=rfl;have hw:=wb hd;exact XT ac2 d (by omega) n (fun x hx=>HA x.attrs (by have:=Jy hx;have:=oc x.attrs;omega)) (fun x hx=>RX C9 x.kids (by have:=Jy hx;omega))
def Qc:ID Tryz.prog (gS t1 t2) 47 [] 2 [.list (rG.map Node.iv),.int .i64 0]:=XU ac3 (CM yo (by have:=qy rF;unfold B;omega))
def Eg:aw Tryz.prog (gS t1 t2) 23 [] (.bool true):=
 XZ X3 Qc (Th rG Ed 0 (by decide) (by decide) ⟨2,[MB,MC]⟩ (by decide)) (Th (aK tK) UJ 1 (by decide) (by decide) ⟨3,[]⟩ (by decide)) (Kg (aK tK) UJ 2)
def IH {g:Nat} (l:List bK) (hl:l.length≤B) (hw:∀a∈l,qf a.lines≤2^20) (hB:jQ Tryz.prog g=true) (P6:UH Tryz.prog (gS t1 t2) g l):qa Tryz.prog (gS t1 t2) 19 g l:=
 abj abq l hl Eg Qc (fun i _=>Kg _ (l6 l i).1 _) (fun i a _ ha=>by
  rw[u0 ha];exact Th _ (l6 l i).1 _ (l6 l i).2.1 (l6 l i).2.2 a (hw a (adu ha))) hB P6
def Qd (l:List bK) (hl:l.length≤B) (hw:∀a∈l,qf a.lines≤2^20):aw Tryz.prog (gS t1 t2) 3 [.list (l.map bK.iv)] (.bool true):=
 P9 P' l (IH l hl hw (by kernel_rfl) fun i a _ ha=>
  Ma abu _ _ _ a _ (l6 l (i+1)).1 (Kg _ (l6 l (i+1)).1 _) (w5 _ (by have:=wb (l6 l (i+1)).1;unfold B;omega)))
end Go.Proofs.YtfinkeaikbmpgaaGreatDoor
