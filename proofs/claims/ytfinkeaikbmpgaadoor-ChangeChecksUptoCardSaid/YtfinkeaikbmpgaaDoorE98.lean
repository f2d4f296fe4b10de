import Derived.Test.YtfinkeaikbmpgaaDoorE97
import Derived.Test.YtfinkeaikbmpgaaDoorKT27
import Derived.Test.YtfinkeaikbmpgaaDoorT30
import Derived.Test.YtfinkeaikbmpgaaDoorKD3
set_option linter.unusedSimpArgs false
set_option linter.unusedVariables false
set_option linter.unnecessarySimpa false
set_option linter.defProp false
/- Functions of this seat, read: trees, documents. -/
namespace Go.Proofs.YtfinkeaikbmpgaaDoor
open Go Go.Am Go.ChangeShapes
variable {mm:Int}
def tn:aw Tryd.prog (gL mm) 29=some (19,[(none,2)],(jy 17).bare):=by kernel_rfl
def pz:aw Tryd.prog (gL mm) 17=some (12,[((some (some 4)),2)],(ko 29).bare):=by kernel_rfl
def PD:aw Tryd.prog (gL mm) 82=some (26,[(none,4)],OA.bare):=by kernel_rfl
def acn:aw Tryd.prog (gL mm) 22=some (29,[(none,2)],nZ.bare):=by kernel_rfl
def aco:aw Tryd.prog (gL mm) 20=some (28,[(none,2)],n4.bare):=by kernel_rfl
def Z5:aw Tryd.prog (gL mm) 24=some (41,[(none,2)],(hZ 20 22).bare):=by kernel_rfl
def ahG:aw Tryd.prog (gL mm) 18=some (32,[(none,2),(none,3)],(uz 18).bare):=by kernel_rfl
def agp:aw Tryd.prog (gL mm) 79=some (38,[(none,2)],(rr 22 20 24 81).bare):=by kernel_rfl
def aev:aw Tryd.prog (gL mm) 81=some (32,[(none,2)],(n_ 79).bare):=by kernel_rfl
def acT:aw Tryd.prog (gL mm) 26=some (25,[(none,2)],(xW 18 79).bare):=by kernel_rfl
def afM:aw Tryd.prog (gL mm) 83=some (59,[(none,2)],(Xi 83).bare):=by kernel_rfl
def aew:aw Tryd.prog (gL mm) 28=some (31,[(none,2)],(Ot 18 81).bare):=by kernel_rfl
def GF:aw Tryd.prog (gL mm) 77=some (43,[(none,4)],(ib 114 113 115 117 116 119 118).bare):=by kernel_rfl
def yn:aw Tryd.prog (gL mm) 115=some (21,[((some (some 256)),2),(none,3)],Wg.bare):=by kernel_rfl
def GG:aw Tryd.prog (gL mm) 149=some (10,[(none,4)],VN.bare):=by kernel_rfl
def D':aw Tryd.prog (gL mm) 116=some (16,[(none,4)],(cS 149).bare):=by kernel_rfl
def D_:aw Tryd.prog (gL mm) 117=some (22,[(none,4)],(dJ 149).bare):=by kernel_rfl
def Bb:aw Tryd.prog (gL mm) 21=some (15,[(none,2)],(eQ 77).bare):=by kernel_rfl
def yo:aw Tryd.prog (gL mm) 78=some (13,[(none,2)],eE.bare):=by kernel_rfl
def yp:aw Tryd.prog (gL mm) 23=some (19,[(none,2)],(NK 78).bare):=by kernel_rfl
def yq:aw Tryd.prog (gL mm) 25=some (34,[(none,2)],(eG 21 23).bare):=by kernel_rfl
def Ea:aw Tryd.prog (gL mm) 80=some (64,[(none,2)],(e7 23 21 25 80).bare):=by kernel_rfl
def Bc:aw Tryd.prog (gL mm) 19=some (35,[(none,2),(none,3)],eR.bare):=by kernel_rfl
def Bd:aw Tryd.prog (gL mm) 27=some (26,[(none,2)],(eS 19 80).bare):=by kernel_rfl
def QU:aw Tryd.prog (gL mm) 30=some (31,[(none,2)],(Nw 19 80).bare):=by kernel_rfl
def ahH:aw Tryd.prog (gL mm) 34=some (12,[((some (some 1)),2),(none,3)],(YV 26 84).bare):=by kernel_rfl
def ait:aw Tryd.prog (gL mm) 84=some (58,[(none,6)],(YB 120 84).bare):=by kernel_rfl
def Y5:aw Tryd.prog (gL mm) 120=some (8,[(none,2)],U8.bare):=by kernel_rfl
def aex:aw Tryd.prog (gL mm) 35=some (84,[((some (some 1)),2),(none,3)],(Wv 27).bare):=by kernel_rfl
def aey:aw Tryd.prog (gL mm) 36=some (67,[(none,4)],(Wt 82 85).bare):=by kernel_rfl
def aa3:aw Tryd.prog (gL mm) 85=some (26,[(none,4)],V4.bare):=by kernel_rfl
def ahI:aw Tryd.prog (gL mm) 88=some (64,[(none,10)],(X7 88).bare):=by kernel_rfl
def Km:aw Tryd.prog (gL mm) 86=some (39,[((some (some 4)),4)],(x7 120 86).bare):=by kernel_rfl
def aez:aw Tryd.prog (gL mm) 41=some (27,[(none,2)],(YW 88 86 26).bare):=by kernel_rfl
section
variable {l:List Tree} {x y:Tree}
def tp (h:dE l≤B):au Tryd.prog (gL mm) 29 [.list (dq l)] (.list (dq l)):=Gl pz tn _ l (bm _) h
def QV (a b:List Attr) (h:a.length≤B):au Tryd.prog (gL mm) 82 [.list (cD a),.list (cD b)] (.bool (P2 a b)):=Pv PD a b h
def agq (x:Tree) (h:x.wt≤B):au Tryd.prog (gL mm) 18 [x.av] (.gf [.int .i64 x.dep,.int .i64 x.jz]):=Gt ahG x h
def agR (l:List Tree) (h:dE l≤B):au Tryd.prog (gL mm) 81 [.list (dq l)] (.bool (bQ none l)):=xY acn aco Z5 agp aev l h
def aaH (x:Tree) (h:x.wt≤B):au Tryd.prog (gL mm) 26 [x.av] (.bool x.d_):=Gp acT x (agq x h) (Gu acn aco Z5 agp aev x h)
def Y6 (l:List Tree) (h:dE l≤B):au Tryd.prog (gL mm) 28 [.list (dq l)] (.bool (content l)):=
 R1 aew l h (fun x hx=>agq x (by have:=j_ hx;omega)) (agR l h)
def GH (s:Bs) (h:s.length≤B):au Tryd.prog (gL mm) 77 [.str s,.str cY] (.str (dB (er cY) (eM (er cY) s))):=
 GB GF s cY h (by decide) (rB yn cY (by decide) (by decide)) (tg D_ _ s h (mB GG _))
  (po D' _ _ (by have:=A6 (er cY) s;omega) (mB GG _))
def uP (s:Bs) (h:s.length≤B):au Tryd.prog (gL mm) 21 [.str s] (.bool (named s)):=A7 Bb s (GH s h)
def rI (s:Bs) (h:s.length≤B):au Tryd.prog (gL mm) 23 [.str s] (.bool (plain s)):=yg yp s h (yf yo)
def uQ {l:List Attr} {a:Attr} (h:a∈l):a.name.length≤dX l∧a.val.length≤dX l:=by
 induction l with
 |nil=>cases h
 |cons b r ih=>
 simp only[dX];rcases bb.1 h with rfl|h
 ·simp only[Attr.wt];omega
 have:=ih h;omega
def yr (l:List Attr) (h:dX l≤B):au Tryd.prog (gL mm) 25 [.list (cD l)] (.bool (bP l)):=
 yl yq l (by have:=iz l;omega) (fun a ha=>uP _ (by have:=uQ ha;omega)) (fun a ha=>rI _ (by have:=uQ ha;omega))
def yt (x:Tree):x.s.length≤x.wt:=by have:=x.gx;omega
def Eb:∀l:List Tree,dE l≤B→au Tryd.prog (gL mm) 80 [.list (dq l)] (.bool (bQ none l)):=
 A4 (M:=fun l=>dE l≤B→au Tryd.prog (gL mm) 80 [.list (dq l)] (.bool (bQ none l))) fun l ih h=>
  D9 Ea l h (fun x hx=>rI _ (by have:=j_ hx;have:=yt x;omega)) (fun x hx=>uP _ (by have:=j_ hx;have:=yt x;omega))
   (fun x hx=>yr _ (by have:=j_ hx;have:=lY x;omega)) (fun x hx=>ih x hx (by have:=j_ hx;have:=jA x;omega))
def Be (x:Tree) (h:x.wt≤B):au Tryd.prog (gL mm) 19 [x.av] (.gf [.int .i64 x.dep,.int .i64 x.jz]):=A_ Bc x h
def Bf (x:Tree) (h:x.wt≤B):au Tryd.prog (gL mm) 27 [x.av] (.bool x.d_):=Ba Bd x (Be x h) (Eb _ (by simp only[dE];omega))
def QW (l:List Tree) (h:dE l≤B):au Tryd.prog (gL mm) 30 [.list (dq l)] (.bool (content l)):=
 QQ QU l h (fun x hx=>Be x (by have:=j_ hx;omega)) (Eb l h)
end
def aeA (xs:List Attr) (h:xs.length≤B):au Tryd.prog (gL mm) 120 [.list (cD xs)] (.list (cD xs)):=acI Y5 xs h
def acU (x:Tree) (h:x.wt≤B):au Tryd.prog (gL mm) 34 [x.av] (.gf [Doc.av (Wo x).1,.int .i64 (Wo x).2]):=
 ahz ahH x h (aaH x h) (air ait aeA x [] (-1) (by simpa using h))
def dAt (d:Doc) (h:zn d≤B) (n:Nat) (q:Int) (x:Tree) (hL:oc d n q x):au Tryd.prog (gL mm) 86 [Doc.av d,.int .i64 n] x.av:=wAt Km aeA d h n q x hL
def agr {d:Doc} {x:Tree} (h:d=lW x):oc d 0 (-1) x:=by subst h;exact acf x
def aeB (d:Doc) (h:zn d≤B):au Tryd.prog (gL mm) 41 [Doc.av d] (.bool (Vo d)):=
 aef aez d h (ahA ahI d (by have:=XR d;omega) (fun x hx=>by have:=Y2 hx;simp only[Node.wt] at this;omega) 8 0 (-1) 0 (by decide) (by decide) (by decide)) (fun x hx=>dAt d h 0 (-1) x (agr hx)) (fun x hx=>aaH x (by have:=(agr hx).wt;omega))
def aeC (x:Tree) (h:x.wt≤B):au Tryd.prog (gL mm) 35 [x.av] (.gf [Doc.av (Wo x).1,.int .i64 (Wo x).2]):=aes aex x h (Bf x h)
def acV {d:List Am.Node} {x:Am.Node} (h:x∈d):dX x.attrs≤zn d∧x.kids.length≤zn d∧x.s.length≤zn d:=by
 have:=Y2 h;simp only[Am.Node.wt] at this;omega
def abr (d e:Doc) (h:zn d≤B):au Tryd.prog (gL mm) 36 [Doc.av d,Doc.av e] (.bool (P2 d e)):=
 aek aey d e h (fun x hx y _=>QV _ _ (by have:=(acV hx).1;have:=iz x.attrs;omega)) (fun x hx y _=>aaY aa3 _ _ (by have:=(acV hx).2;omega))
end Go.Proofs.YtfinkeaikbmpgaaDoor
