import Derived.Test.YtfeijflhfhkbnaaGreatDoorE244
import Derived.Test.YtfeijflhfhkbnaaGreatDoorE245
import Derived.Test.YtfeijflhfhkbnaaGreatDoorE247
import Derived.Test.YtfeijflhfhkbnaaGreatDoorE225
import Derived.Test.YtfeijflhfhkbnaaGreatDoorKAm53
set_option linter.all false
/- Functions of this seat, read: the store, play. -/
namespace Go.Proofs.YtfeijflhfhkbnaaGreatDoor
open Go Go.Am Go.ChangeShapes
variable {t1 t2:Nat}
def arz:aw Tryz.prog (gS t1 t2) 19=some (19,[(none,4)],aln.bare):=Yn
def ara:aw Tryz.prog (gS t1 t2) 6=some (101,[((some (some 5)),2),(none,3),(none,4)],(amo 18 19 20 21 22).bare):=Yn
def apX:aw Tryz.prog (gS t1 t2) 33=some (84,[((some (some 3)),4)],(alC 6 70 71).bare):=Yn
def sDo:aw Tryz.prog (gS t1 t2) 13=some (106,[((some (some 3)),4)],(alY 31 32 30 33 34 35).bare):=Yn
def arb:aw Tryz.prog (gS t1 t2) 16=some (35,[((some (some 1)),2)],(alK 45 46).bare):=Yn
def arB:aw Tryz.prog (gS t1 t2) 11=some (11,[(none,0)],(amw 30).bare):=Yn
def are:aw Tryz.prog (gS t1 t2) 21=some (31,[(none,2),(none,3)],(OP 54 55).bare):=Yn
def arf:ap8 Tryz.prog (gS t1 t2) 51:=aq1 Tryz.apu (t1:=t1) (t2:=t2) rfl rfl
def arh:apn Tryz.prog (gS t1 t2) 52:=aq2 Tryz.apv aqQ rfl
def ao9 (l:List Step) (hl:l.length<=B) (hn:∀x∈l,x.name.length<=B):au Tryz.prog (gS t1 t2) 53 [.list (l.map Step.iv)] (.bool (ak6 l)):=anx anz l hl (λx hx=>afn _ (hn x hx))
def aoz (s:Bs) (hs:s.length<=2^24):au Tryz.prog (gS t1 t2) 20 [.str s] (amr s):=by
 have zo:B=1073741824:=rfl;have hw:∀w∈Z_ 47 (s.drop 1),w.length<=2^24:=λw h=>by
  have:=amO 47 (s.drop 1) w h;simp only[BH] at this;omega
 exact aon aqo s hs (aos s [47]) (aqs (s.drop 1) 47 (by simp only[BH];omega)) (λw h=>aq0 w 91 (by have:=hw w h;omega))
  (λw h=>aot _ [93] (by have:=hw w h;have:=(alP 91 w).2;omega) aak)
  (λw h=>arf _ (by have:=hw w h;have:=(alP 91 w).2;have:=apm [93] (Bj 91 w).2.1;omega)) arh
  (λl hl hn=>ao9 l hl λx hx=>by have:=hn x hx;omega)
def apY (s:Bs) (hs:s.length<=B):au Tryz.prog (gS t1 t2) 21 [.str s] (.gf [.str (OF s).1,.int .i64 (OF s).2]):=
 SQ are s hs (λs h=>Co false s false h) (λt h=>qj acn t (by have:B=1073741824:=rfl;omega))
def aqG (s:Bs) (hs:s.length<=2^22):au Tryz.prog (gS t1 t2) 6 [.str s] (amF s):=by
 have zo:B=1073741824:=rfl;exact aq3 ara s sf (λt c h=>aq0 t c sf) (λw=>apR arz al8 M3 w) (λt h=>aoz t sf) (λt h=>apY t sf) (λt h=>S_ t sf)
end Go.Proofs.YtfeijflhfhkbnaaGreatDoor
