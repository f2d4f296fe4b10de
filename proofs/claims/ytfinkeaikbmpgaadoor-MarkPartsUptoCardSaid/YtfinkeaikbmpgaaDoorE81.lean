import Derived.Test.YtfinkeaikbmpgaaDoorE80
import Derived.Test.YtfinkeaikbmpgaaDoorKT26
import Derived.Test.YtfinkeaikbmpgaaDoorKD2
set_option linter.unusedSimpArgs false
set_option linter.unusedVariables false
set_option linter.unnecessarySimpa false
set_option linter.defProp false
/- Functions of this seat, read: trees, documents. -/
namespace Go.Proofs.YtfinkeaikbmpgaaDoor
open Go Go.Am Go.ChangeShapes
variable {mm:Int}
def PD:aw Tryd.prog (gM mm) 82=some (26,[(none,4)],OA.bare):=by kernel_rfl
def P6:aw Tryd.prog (gM mm) 32=some (31,[(none,4)],(OQ 82 60).bare):=by kernel_rfl
def QT:aw Tryd.prog (gM mm) 60=some (27,[(none,4)],(N_ 32).bare):=by kernel_rfl
def GF:aw Tryd.prog (gM mm) 77=some (43,[(none,4)],(ib 114 113 115 117 116 119 118).bare):=by kernel_rfl
def yn:aw Tryd.prog (gM mm) 115=some (21,[((some (some 256)),2),(none,3)],c6.bare):=by kernel_rfl
def GG:aw Tryd.prog (gM mm) 149=some (10,[(none,4)],cr.bare):=by kernel_rfl
def D':aw Tryd.prog (gM mm) 116=some (16,[(none,4)],(cS 149).bare):=by kernel_rfl
def D_:aw Tryd.prog (gM mm) 117=some (22,[(none,4)],(dJ 149).bare):=by kernel_rfl
def Bb:aw Tryd.prog (gM mm) 21=some (15,[(none,2)],(eQ 77).bare):=by kernel_rfl
def yo:aw Tryd.prog (gM mm) 78=some (13,[(none,2)],eE.bare):=by kernel_rfl
def yp:aw Tryd.prog (gM mm) 23=some (19,[(none,2)],(NK 78).bare):=by kernel_rfl
def yq:aw Tryd.prog (gM mm) 25=some (34,[(none,2)],(eG 21 23).bare):=by kernel_rfl
def Ea:aw Tryd.prog (gM mm) 80=some (64,[(none,2)],(e7 23 21 25 80).bare):=by kernel_rfl
def Bc:aw Tryd.prog (gM mm) 19=some (35,[(none,2),(none,3)],eR.bare):=by kernel_rfl
def Bd:aw Tryd.prog (gM mm) 27=some (26,[(none,2)],(eS 19 80).bare):=by kernel_rfl
def QU:aw Tryd.prog (gM mm) 30=some (31,[(none,2)],(Nw 19 80).bare):=by kernel_rfl
def Km:aw Tryd.prog (gM mm) 86=some (39,[((some (some 4)),4)],(x7 120 86).bare):=by kernel_rfl
section
variable {l:List Tree} {x y:Tree}
def QV (a b:List Attr) (h:a.length≤B):au Tryd.prog (gM mm) 82 [.list (cD a),.list (cD b)] (.bool (P2 a b)):=Pv PD a b h
def PE (xs ys:List Tree) (h:dE xs≤B):au Tryd.prog (gM mm) 60 [.list (dq xs),.list (dq ys)] (.bool (P2 xs ys)):=TE PD P6 QT _ xs ys (Va _) h
def RA (x y:Tree) (h:x.wt≤B):au Tryd.prog (gM mm) 32 [x.av,y.av] (.bool (P2 x y)):=
 P3 P6 x y (QV _ _ (by have:=lY x;have:=iz x.attrs;omega)) (PE _ _ (by have:=jA x;omega))
def GH (s:Bs) (h:s.length≤B):au Tryd.prog (gM mm) 77 [.str s,.str cY] (.str (dB (er cY) (eM (er cY) s))):=
 GB GF s cY h (by decide) (rB yn cY (by decide) (by decide)) (tg D_ _ s h (mB GG _))
  (po D' _ _ (by have:=A6 (er cY) s;omega) (mB GG _))
def uP (s:Bs) (h:s.length≤B):au Tryd.prog (gM mm) 21 [.str s] (.bool (named s)):=A7 Bb s (GH s h)
def rI (s:Bs) (h:s.length≤B):au Tryd.prog (gM mm) 23 [.str s] (.bool (plain s)):=yg yp s h (yf yo)
def uQ {l:List Attr} {a:Attr} (h:a∈l):a.name.length≤dX l∧a.val.length≤dX l:=by
 induction l with
 |nil=>cases h
 |cons b r ih=>
 simp only[dX];rcases Vg.1 h with rfl|h
 ·simp only[Attr.wt];omega
 have:=ih h;omega
def yr (l:List Attr) (h:dX l≤B):au Tryd.prog (gM mm) 25 [.list (cD l)] (.bool (bP l)):=
 yl yq l (by have:=iz l;omega) (fun a ha=>uP _ (by have:=uQ ha;omega)) (fun a ha=>rI _ (by have:=uQ ha;omega))
def yt (x:Tree):x.s.length≤x.wt:=by have:=x.gx;omega
def Eb:∀l:List Tree,dE l≤B→au Tryd.prog (gM mm) 80 [.list (dq l)] (.bool (bQ none l)):=
 A4 (M:=fun l=>dE l≤B→au Tryd.prog (gM mm) 80 [.list (dq l)] (.bool (bQ none l))) fun l ih h=>
  D9 Ea l h (fun x hx=>rI _ (by have:=j_ hx;have:=yt x;omega)) (fun x hx=>uP _ (by have:=j_ hx;have:=yt x;omega))
   (fun x hx=>yr _ (by have:=j_ hx;have:=lY x;omega)) (fun x hx=>ih x hx (by have:=j_ hx;have:=jA x;omega))
def Be (x:Tree) (h:x.wt≤B):au Tryd.prog (gM mm) 19 [x.av] (.gf [.int .i64 x.dep,.int .i64 x.jz]):=A_ Bc x h
def Bf (x:Tree) (h:x.wt≤B):au Tryd.prog (gM mm) 27 [x.av] (.bool x.d_):=Ba Bd x (Be x h) (Eb _ (by simp only[dE];omega))
def QW (l:List Tree) (h:dE l≤B):au Tryd.prog (gM mm) 30 [.list (dq l)] (.bool (content l)):=
 QQ QU l h (fun x hx=>Be x (by have:=j_ hx;omega)) (Eb l h)
end
end Go.Proofs.YtfinkeaikbmpgaaDoor
