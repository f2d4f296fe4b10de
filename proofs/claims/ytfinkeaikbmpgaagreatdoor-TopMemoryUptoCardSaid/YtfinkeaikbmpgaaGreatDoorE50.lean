import Derived.Test.YtfinkeaikbmpgaaGreatDoorE49
import Derived.Test.YtfinkeaikbmpgaaGreatDoorE30
import Derived.Test.YtfinkeaikbmpgaaGreatDoorT114
set_option linter.unusedSimpArgs false
set_option linter.unusedVariables false
set_option linter.unnecessarySimpa false
set_option linter.defProp false
/- The store's contracts in this seat; the law of TopGood. -/
namespace Go.Proofs.YtfinkeaikbmpgaaGreatDoor
open Go Go.Am Go.ChangeShapes
variable {t1 t2:Nat}
def aqH:acD Tryz.prog (gS t1 t2) 32:=chF.ahe
def apB (d:Doc) (hd:Vo d=true) (n:Int) (ls:List Bs) (h:wtL ls≤2^20) :
  cR Tryz.prog (gS t1 t2) 63 [.ptr (.par 0) 2 0 0,.list (ls.map IV.str)] (stC d n) (fun x cs=>x=(alh d ls).2.av∧cs=stC (alh d ls).1 n):=by
 have zo:B=1073741824:=rfl;have hl:∀s∈ls,s.length≤2^22:=fun s hs=>by have:=anK hs;omega
 have hw:=amR hd;exact ao5 apX d hd n ls (by have:=anL ls;omega) (fun s hs=>aqG s (hl s hs)) (fun s hs=>apW s (hl s hs))
  (fun s hs=>apQ d tM _ (by have:=(ank s).1;omega) (fun x hx=>by have:=(ank s).2 x hx;omega))
  (fun l hl=>aqH d l tM hl)
def apZ (d:Doc) (hd:Vo d=true) (n:Int) (h0:0≤n) (h1:n≤100) (a:ak7) (h:wtL a.lines≤2^20) :
  cR Tryz.prog (gS t1 t2) 28 [.ptr (.par 0) 2 0 0,a.av] (stC d n) (fun x cs=>x=(doF d n a).2.av∧cs=stC (doF d n a).1.1 (doF d n a).1.2):=by
 have zo:B=1073741824:=rfl;have hw:=amR hd;have ht:=aoO hd;exact aq5 sDo d n h0 h1 a (by have:=anL a.lines;omega) (fun c=>pNo arA c) Po (fun s hs=>EF s (by have:=anK hs;omega))
  (fun s hs=>acU _ (by have:=apA s;omega)) (fun n=>apB d hd n a.lines h) (am7 d tM 0) (za _ tM)
def apC (d:Doc) (hd:Vo d=true) (n:Int) :
  cR Tryz.prog (gS t1 t2) 22 [.ptr (.par 0) 2 0 0] (stC d n) (fun x cs=>x=Doc.av d∧cs=stC d n):=by
 have zo:B=1073741824:=rfl;have hw:=amR hd;exact aqv arb d tM n (fun x hx=>aeA x.attrs (by have:=acV hx;have:=iz x.attrs;omega)) (fun x hx=>aoE adX x.kids (by have:=acV hx;omega))
def aqa:ao6 Tryz.prog (gS t1 t2) 47 [] 2 [.list (amp.map Node.iv),.int .i64 0]:=aqw arB (acU amQ (by have:=af6 amj;unfold B;omega))
def ap0:au Tryz.prog (gS t1 t2) 23 [] (.bool true):=
 aqB aqE aqa (apZ amp anU 0 Pr Pr ⟨2,[lnA,lnB]⟩ Pr) (apZ (lW tK) ap_ 1 Pr Pr ⟨3,[]⟩ Pr) (apC (lW tK) ap_ 2)
end Go.Proofs.YtfinkeaikbmpgaaGreatDoor
