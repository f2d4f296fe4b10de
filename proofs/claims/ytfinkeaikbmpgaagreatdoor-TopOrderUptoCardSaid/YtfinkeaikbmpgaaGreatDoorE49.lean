import Derived.Test.YtfinkeaikbmpgaaGreatDoorE44
import Derived.Test.YtfinkeaikbmpgaaGreatDoorE45
import Derived.Test.YtfinkeaikbmpgaaGreatDoorE47
import Derived.Test.YtfinkeaikbmpgaaGreatDoorE25
import Derived.Test.YtfinkeaikbmpgaaGreatDoorKAm53
import Derived.Test.YtfinkeaikbmpgaaGreatDoorKT109
set_option linter.unusedSimpArgs false
set_option linter.unusedVariables false
set_option linter.unnecessarySimpa false
set_option linter.defProp false
/- Functions of this seat, read: the store, play. -/
namespace Go.Proofs.YtfinkeaikbmpgaaGreatDoor
open Go Go.Am Go.ChangeShapes
variable {t1 t2:Nat}
def ac0:an Tryz.prog (gS t1 t2) 82=some (19,[(none,4)],ie.bare):=by kernel_rfl
def abp:an Tryz.prog (gS t1 t2) 43=some (101,[((some (some 5)),2),(none,3),(none,4)],(sE 81 82 80 83 84).bare):=by kernel_rfl
def Tf:an Tryz.prog (gS t1 t2) 63=some (84,[((some (some 3)),4)],(lu 43 37 32).bare):=by kernel_rfl
def ac1:an Tryz.prog (gS t1 t2) 61=some (5,[((some (some 3)),2)],mu.bare):=by kernel_rfl
def sDo:an Tryz.prog (gS t1 t2) 28=some (106,[((some (some 3)),4)],(nV 61 51 62 63 26 27).bare):=by kernel_rfl
def ac2:an Tryz.prog (gS t1 t2) 22=some (35,[((some (some 1)),2)],(mE 58 59).bare):=by kernel_rfl
def ac3:an Tryz.prog (gS t1 t2) 47=some (11,[(none,0)],(ue 62).bare):=by kernel_rfl
def abq:an Tryz.prog (gS t1 t2) 19=some (43,[(none,4),(none,5)],(nB 23 47 22 28).bare):=by kernel_rfl
def X3:an Tryz.prog (gS t1 t2) 23=some (34,[(none,0)],(mF 47 28 22).bare):=by kernel_rfl
def X4:an Tryz.prog (gS t1 t2) 25=some (9,[(none,8)],mG.bare):=by kernel_rfl
def abr:an Tryz.prog (gS t1 t2) 29=some (30,[(none,4)],(lv 26 52).bare):=by kernel_rfl
def abt:an Tryz.prog (gS t1 t2) 83=some (31,[(none,2),(none,3)],(uc 124 125).bare):=by kernel_rfl
def abu:an Tryz.prog (gS t1 t2) 20=some (12,[(none,8)],(kn 22 21).bare):=by kernel_rfl
def P':an Tryz.prog (gS t1 t2) 3=some (11,[(none,2)],(lx 19 20).bare):=by kernel_rfl
def abv:Ug Tryz.prog (gS t1 t2) 121:=abe Tryz.P3 (t1:=t1) (t2:=t2) rfl rfl
def abw:Ou Tryz.prog (gS t1 t2) 122:=abf Tryz.P4 Z4 rfl
def Mc (l:List Step) (hl:l.length≤B) (hn:∀x∈l,x.name.length≤B):aw Tryz.prog (gS t1 t2) 40 [.list (l.map Step.iv)] (.bool (gN l)):=CO CQ l hl (fun x hx=>A5 _ (hn x hx))
def IG (s:Bs) (hs:s.length≤2^24):aw Tryz.prog (gS t1 t2) 80 [.str s] (sS s):=by
 have nM:B=1073741824:=rfl;have hw:∀w∈ej 47 (s.drop 1),w.length≤2^24:=fun w h=>by
  have:=x9 47 (s.drop 1) w h;simp only[aen] at this;omega
 exact HJ WW s hs (HP s [47]) (W0 (s.drop 1) 47 (by simp only[aen];omega)) (fun w h=>aaj w 91 (by have:=hw w h;omega))
  (fun w h=>HQ _ [93] (by have:=hw w h;have:=(nn 91 w).2;omega) (by simp;omega))
  (fun w h=>abv _ (by have:=hw w h;have:=(nn 91 w).2;have:=Ot [93] (cU 91 w).2.1;omega)) abw
  (fun l hl hn=>Mc l hl fun x hx=>by have:=hn x hx;omega)
def Tg (s:Bs) (hs:s.length≤B):aw Tryz.prog (gS t1 t2) 83 [.str s] (.dM [.str (nz s).1,.int .i64 (nz s).2]):=
 S' abt s hs (fun s h=>PX false s false h) (fun t h=>xK DK t (by have:B=1073741824:=rfl;omega))
def P_ (s:Bs) (hs:s.length≤2^22):aw Tryz.prog (gS t1 t2) 43 [.str s] (sX s):=by
 have nM:B=1073741824:=rfl;exact abg abp s (by omega) (fun t c h=>aaj t c (by omega)) (fun w=>S_ ac0 qS (by decide) w) (fun t h=>IG t (by omega)) (fun t h=>Tg t (by omega)) (fun t h=>XP t (by omega))
end Go.Proofs.YtfinkeaikbmpgaaGreatDoor
