import Derived.Test.YtfinkeaikbmpgaaGreatDoorE44
import Derived.Test.YtfinkeaikbmpgaaGreatDoorE45
import Derived.Test.YtfinkeaikbmpgaaGreatDoorE47
import Derived.Test.YtfinkeaikbmpgaaGreatDoorE25
import Derived.Test.YtfinkeaikbmpgaaGreatDoorKAm53
import Derived.Test.YtfinkeaikbmpgaaGreatDoorKT110
set_option linter.unusedSimpArgs false
set_option linter.unusedVariables false
set_option linter.unnecessarySimpa false
set_option linter.defProp false
/- Functions of this seat, read: the store, play. -/
namespace Go.Proofs.YtfinkeaikbmpgaaGreatDoor
open Go Go.Am Go.ChangeShapes
variable {t1 t2:Nat}
def arz:aw Tryz.prog (gS t1 t2) 82=some (19,[(none,4)],aln.bare):=Po
def ara:aw Tryz.prog (gS t1 t2) 43=some (101,[((some (some 5)),2),(none,3),(none,4)],(amo 81 82 80 83 84).bare):=Po
def apX:aw Tryz.prog (gS t1 t2) 63=some (84,[((some (some 3)),4)],(alC 43 37 32).bare):=Po
def arA:aw Tryz.prog (gS t1 t2) 61=some (5,[((some (some 3)),2)],alG.bare):=Po
def sDo:aw Tryz.prog (gS t1 t2) 28=some (106,[((some (some 3)),4)],(alY 61 51 62 63 26 27).bare):=Po
def arb:aw Tryz.prog (gS t1 t2) 22=some (35,[((some (some 1)),2)],(alK 58 59).bare):=Po
def arB:aw Tryz.prog (gS t1 t2) 47=some (11,[(none,0)],(amw 62).bare):=Po
def arc:aw Tryz.prog (gS t1 t2) 19=some (43,[(none,4),(none,5)],(alT 23 47 22 28).bare):=Po
def aqE:aw Tryz.prog (gS t1 t2) 23=some (34,[(none,0)],(alL 47 28 22).bare):=Po
def ard:aw Tryz.prog (gS t1 t2) 29=some (30,[(none,4)],(alD 26 52).bare):=Po
def are:aw Tryz.prog (gS t1 t2) 83=some (31,[(none,2),(none,3)],(OP 124 125).bare):=Po
def arf:ap8 Tryz.prog (gS t1 t2) 121:=aq1 Tryz.apu (t1:=t1) (t2:=t2) rfl rfl
def arh:apn Tryz.prog (gS t1 t2) 122:=aq2 Tryz.apv aqQ rfl
def ao9 (l:List Step) (hl:l.length≤B) (hn:∀x∈l,x.name.length≤B):au Tryz.prog (gS t1 t2) 40 [.list (l.map Step.iv)] (.bool (ak6 l)):=anx anz l hl (fun x hx=>afn _ (hn x hx))
def aoz (s:Bs) (hs:s.length≤2^24):au Tryz.prog (gS t1 t2) 80 [.str s] (amr s):=by
 have zo:B=1073741824:=rfl;have hw:∀w∈Z_ 47 (s.drop 1),w.length≤2^24:=fun w h=>by
  have:=amO 47 (s.drop 1) w h;simp only[BH] at this;omega
 exact aon aqo s hs (aos s [47]) (aqs (s.drop 1) 47 (by simp only[BH];omega)) (fun w h=>aq0 w 91 (by have:=hw w h;omega))
  (fun w h=>aot _ [93] (by have:=hw w h;have:=(alP 91 w).2;omega) PJ)
  (fun w h=>arf _ (by have:=hw w h;have:=(alP 91 w).2;have:=apm [93] (Bj 91 w).2.1;omega)) arh
  (fun l hl hn=>ao9 l hl fun x hx=>by have:=hn x hx;omega)
def apY (s:Bs) (hs:s.length≤B):au Tryz.prog (gS t1 t2) 83 [.str s] (.gf [.str (OF s).1,.int .i64 (OF s).2]):=
 SQ are s hs (fun s h=>Co false s false h) (fun t h=>qj acn t (by have:B=1073741824:=rfl;omega))
def aqG (s:Bs) (hs:s.length≤2^22):au Tryz.prog (gS t1 t2) 43 [.str s] (amF s):=by
 have zo:B=1073741824:=rfl;exact aq3 ara s tM (fun t c h=>aq0 t c tM) (fun w=>apR arz al8 Pr w) (fun t h=>aoz t tM) (fun t h=>apY t tM) (fun t h=>S_ t tM)
end Go.Proofs.YtfinkeaikbmpgaaGreatDoor
