import Derived.Test.YtfeijflhfhkbnaaGreatDoorE249S
import Derived.Test.YtfeijflhfhkbnaaGreatDoorE230S
import Derived.Test.YtfeijflhfhkbnaaGreatDoorT114S
set_option linter.all false
/- The store's contracts in this seat. -/
namespace Go.Proofs.YtfeijflhfhkbnaaGreatDoor
open Go Go.Am Go.ChangeShapes
variable {t1 t2:Nat}
def Zh:Q5 Tryz.prog (gS t1 t2) 71:=chF.Y6
def Rm (d:Doc) (hd:bQ d=true) (n:Int) (ls:List Bs) (h:FC ls<=2^20) :
  cM Tryz.prog (gS t1 t2) 33 [.ptr (.par 0) 2 0 0,.list (ls.map IV.str)] (cx d n) (λx cs=>x=(eI d ls).2.av/\cs=cx (eI d ls).1 n):=by
 have gV:B=1073741824:=rfl;have hl:∀s∈ls,s.length<=2^22:=λs hs=>by have:=yP hs;omega
 have hw:=ua hd;exact Nb d hd n ls (by have:=yQ ls;omega) (λs hs=>Zg s (hl s hs)) (λs hs=>Lc s (hl s hs))
  (λs hs=>TL d ajK _ (by have:=(ub s).1;omega) (λx hx=>by have:=(ub s).2 x hx;omega))
  (λl hl=>Zh d l ajK hl)
def ac6 (d:Doc) (hd:bQ d=true) (n:Int) (h0:0<=n) (h1:n<=100) (a:de) (h:FC a.lines<=2^20) :
  cM Tryz.prog (gS t1 t2) 13 [.ptr (.par 0) 2 0 0,a.av] (cx d n) (λx cs=>x=(v_ d n a).2.av/\cs=cx (v_ d n a).1.1 (v_ d n a).1.2):=by
 have gV:B=1073741824:=rfl;have hw:=ua hd;have ht:=Ec hd;exact ac3 d n h0 h1 a (by have:=yQ a.lines;omega) (λc=>pNo c) ajQ (λs hs=>Y' s (by have:=yP hs;omega))
  (λs hs=>Cw _ (by have:=GY s;omega)) (λn=>Rm d hd n a.lines h) (PV d ajK 0) (Y9 _ ajK)
def ac7 (d:Doc) (hd:bQ d=true) (n:Int) :
  cM Tryz.prog (gS t1 t2) 16 [.ptr (.par 0) 2 0 0] (cx d n) (λx cs=>x=Doc.av d/\cs=cx d n):=by
 have gV:B=1073741824:=rfl;have hw:=ua hd;exact Ze d ajK n (λx hx=>Iy x.attrs (by have:=yT hx;have:=fS x.attrs;omega)) (λx hx=>Tc x.kids (by have:=yT hx;omega))
end Go.Proofs.YtfeijflhfhkbnaaGreatDoor
