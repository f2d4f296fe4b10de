import Derived.Test.YtfinkeaikbmpgaaGreatDoorE107
import Derived.Test.YtfinkeaikbmpgaaGreatDoorKT27
import Derived.Test.YtfinkeaikbmpgaaGreatDoorT30
import Derived.Test.YtfinkeaikbmpgaaGreatDoorKT15
set_option linter.unusedSimpArgs false
set_option linter.unusedVariables false
set_option linter.unnecessarySimpa false
set_option linter.defProp false
/- Functions of this seat, read: trees, documents. -/
namespace Go.Proofs.YtfinkeaikbmpgaaGreatDoor
open Go Go.Am Go.ChangeShapes
variable {mm:Int}
def tn:aw Tryz.prog (gN mm) 64=some (19,[(none,2)],(jy 100).bare):=by kernel_rfl
def pz:aw Tryz.prog (gN mm) 100=some (12,[((some (some 4)),2)],(ko 64).bare):=by kernel_rfl
def PD:aw Tryz.prog (gN mm) 74=some (26,[(none,4)],OA.bare):=by kernel_rfl
def P6:aw Tryz.prog (gN mm) 114=some (31,[(none,4)],(OQ 74 75).bare):=by kernel_rfl
def QT:aw Tryz.prog (gN mm) 75=some (27,[(none,4)],(N_ 114).bare):=by kernel_rfl
def acn:aw Tryz.prog (gN mm) 125=some (29,[(none,2)],nZ.bare):=by kernel_rfl
def aco:aw Tryz.prog (gN mm) 53=some (28,[(none,2)],n4.bare):=by kernel_rfl
def Z5:aw Tryz.prog (gN mm) 141=some (41,[(none,2)],(hZ 53 125).bare):=by kernel_rfl
def ahG:aw Tryz.prog (gN mm) 96=some (32,[(none,2),(none,3)],(uz 96).bare):=by kernel_rfl
def agp:aw Tryz.prog (gN mm) 97=some (38,[(none,2)],(rr 125 53 141 142).bare):=by kernel_rfl
def aev:aw Tryz.prog (gN mm) 142=some (32,[(none,2)],(n_ 97).bare):=by kernel_rfl
def acT:aw Tryz.prog (gN mm) 56=some (25,[(none,2)],(xW 96 97).bare):=by kernel_rfl
def afM:aw Tryz.prog (gN mm) 69=some (59,[(none,2)],(Xi 69).bare):=by kernel_rfl
def aew:aw Tryz.prog (gN mm) 127=some (31,[(none,2)],(Ot 96 142).bare):=by kernel_rfl
def GF:aw Tryz.prog (gN mm) 117=some (43,[(none,4)],(ib 158 157 159 161 160 163 162).bare):=by kernel_rfl
def yn:aw Tryz.prog (gN mm) 159=some (21,[((some (some 256)),2),(none,3)],Wg.bare):=by kernel_rfl
def GG:aw Tryz.prog (gN mm) 191=some (10,[(none,4)],VN.bare):=by kernel_rfl
def D':aw Tryz.prog (gN mm) 160=some (16,[(none,4)],(cS 191).bare):=by kernel_rfl
def D_:aw Tryz.prog (gN mm) 161=some (22,[(none,4)],(dJ 191).bare):=by kernel_rfl
def Bb:aw Tryz.prog (gN mm) 79=some (15,[(none,2)],(eQ 117).bare):=by kernel_rfl
def yo:aw Tryz.prog (gN mm) 175=some (13,[(none,2)],eE.bare):=by kernel_rfl
def yp:aw Tryz.prog (gN mm) 131=some (19,[(none,2)],(NK 175).bare):=by kernel_rfl
def yq:aw Tryz.prog (gN mm) 190=some (34,[(none,2)],(eG 79 131).bare):=by kernel_rfl
def Ea:aw Tryz.prog (gN mm) 156=some (64,[(none,2)],(e7 131 79 190 156).bare):=by kernel_rfl
def Bc:aw Tryz.prog (gN mm) 155=some (35,[(none,2),(none,3)],eR.bare):=by kernel_rfl
def Bd:aw Tryz.prog (gN mm) 112=some (26,[(none,2)],(eS 155 156).bare):=by kernel_rfl
def QU:aw Tryz.prog (gN mm) 134=some (31,[(none,2)],(Nw 155 156).bare):=by kernel_rfl
def ahH:aw Tryz.prog (gN mm) 62=some (12,[((some (some 1)),2),(none,3)],(YV 56 99).bare):=by kernel_rfl
def ait:aw Tryz.prog (gN mm) 99=some (58,[(none,6)],(YB 58 99).bare):=by kernel_rfl
def Y5:aw Tryz.prog (gN mm) 58=some (8,[(none,2)],U8.bare):=by kernel_rfl
def aex:aw Tryz.prog (gN mm) 71=some (84,[((some (some 1)),2),(none,3)],(Wv 112).bare):=by kernel_rfl
def aey:aw Tryz.prog (gN mm) 34=some (67,[(none,4)],(Wt 74 39).bare):=by kernel_rfl
def aa3:aw Tryz.prog (gN mm) 39=some (26,[(none,4)],V4.bare):=by kernel_rfl
def ahI:aw Tryz.prog (gN mm) 55=some (64,[(none,10)],(X7 55).bare):=by kernel_rfl
def Km:aw Tryz.prog (gN mm) 57=some (39,[((some (some 4)),4)],(x7 58 57).bare):=by kernel_rfl
def aez:aw Tryz.prog (gN mm) 21=some (27,[(none,2)],(YW 55 57 56).bare):=by kernel_rfl
section
variable {l:List Tree} {x y:Tree}
def tp (h:dE l≤B):au Tryz.prog (gN mm) 64 [.list (dq l)] (.list (dq l)):=Gl pz tn _ l (bm _) h
def QV (a b:List Attr) (h:a.length≤B):au Tryz.prog (gN mm) 74 [.list (cD a),.list (cD b)] (.bool (P2 a b)):=Pv PD a b h
def PE (xs ys:List Tree) (h:dE xs≤B):au Tryz.prog (gN mm) 75 [.list (dq xs),.list (dq ys)] (.bool (P2 xs ys)):=TE PD P6 QT _ xs ys (bm _) h
def agq (x:Tree) (h:x.wt≤B):au Tryz.prog (gN mm) 96 [x.av] (.gf [.int .i64 x.dep,.int .i64 x.jz]):=Gt ahG x h
def agR (l:List Tree) (h:dE l≤B):au Tryz.prog (gN mm) 142 [.list (dq l)] (.bool (bQ none l)):=xY acn aco Z5 agp aev l h
def aaH (x:Tree) (h:x.wt≤B):au Tryz.prog (gN mm) 56 [x.av] (.bool x.d_):=Gp acT x (agq x h) (Gu acn aco Z5 agp aev x h)
def Y6 (l:List Tree) (h:dE l≤B):au Tryz.prog (gN mm) 127 [.list (dq l)] (.bool (content l)):=
 R1 aew l h (fun x hx=>agq x (by have:=j_ hx;omega)) (agR l h)
def GH (s:Bs) (h:s.length≤B):au Tryz.prog (gN mm) 117 [.str s,.str cY] (.str (dB (er cY) (eM (er cY) s))):=
 GB GF s cY h (by decide) (rB yn cY (by decide) (by decide)) (tg D_ _ s h (mB GG _))
  (po D' _ _ (by have:=A6 (er cY) s;omega) (mB GG _))
def ajV (s:Bs) (h:s.length≤B):au Tryz.prog (gN mm) 79 [.str s] (.bool (named s)):=A7 Bb s (GH s h)
def rI (s:Bs) (h:s.length≤B):au Tryz.prog (gN mm) 131 [.str s] (.bool (plain s)):=yg yp s h (yf yo)
def uQ {l:List Attr} {a:Attr} (h:a∈l):a.name.length≤dX l∧a.val.length≤dX l:=by
 induction l with
 |nil=>cases h
 |cons b r ih=>
 simp only[dX];rcases bb.1 h with rfl|h
 ·simp only[Attr.wt];omega
 have:=ih h;omega
def yr (l:List Attr) (h:dX l≤B):au Tryz.prog (gN mm) 190 [.list (cD l)] (.bool (bP l)):=
 yl yq l (by have:=iz l;omega) (fun a ha=>ajV _ (by have:=uQ ha;omega)) (fun a ha=>rI _ (by have:=uQ ha;omega))
def yt (x:Tree):x.s.length≤x.wt:=by have:=x.gx;omega
def Eb:∀l:List Tree,dE l≤B→au Tryz.prog (gN mm) 156 [.list (dq l)] (.bool (bQ none l)):=
 A4 (M:=fun l=>dE l≤B→au Tryz.prog (gN mm) 156 [.list (dq l)] (.bool (bQ none l))) fun l ih h=>
  D9 Ea l h (fun x hx=>rI _ (by have:=j_ hx;have:=yt x;omega)) (fun x hx=>ajV _ (by have:=j_ hx;have:=yt x;omega))
   (fun x hx=>yr _ (by have:=j_ hx;have:=lY x;omega)) (fun x hx=>ih x hx (by have:=j_ hx;have:=jA x;omega))
def Be (x:Tree) (h:x.wt≤B):au Tryz.prog (gN mm) 155 [x.av] (.gf [.int .i64 x.dep,.int .i64 x.jz]):=A_ Bc x h
def Bf (x:Tree) (h:x.wt≤B):au Tryz.prog (gN mm) 112 [x.av] (.bool x.d_):=Ba Bd x (Be x h) (Eb _ (by simp only[dE];omega))
def QW (l:List Tree) (h:dE l≤B):au Tryz.prog (gN mm) 134 [.list (dq l)] (.bool (content l)):=
 QQ QU l h (fun x hx=>Be x (by have:=j_ hx;omega)) (Eb l h)
end
def aeA (xs:List Attr) (h:xs.length≤B):au Tryz.prog (gN mm) 58 [.list (cD xs)] (.list (cD xs)):=acI Y5 xs h
def acU (x:Tree) (h:x.wt≤B):au Tryz.prog (gN mm) 62 [x.av] (.gf [Doc.av (Wo x).1,.int .i64 (Wo x).2]):=
 ahz ahH x h (aaH x h) (air ait aeA x [] (-1) (by simpa using h))
def dAt (d:Doc) (h:zn d≤B) (n:Nat) (q:Int) (x:Tree) (hL:oc d n q x):au Tryz.prog (gN mm) 57 [Doc.av d,.int .i64 n] x.av:=wAt Km aeA d h n q x hL
def agr {d:Doc} {x:Tree} (h:d=lW x):oc d 0 (-1) x:=by subst h;exact acf x
def aeB (d:Doc) (h:zn d≤B):au Tryz.prog (gN mm) 21 [Doc.av d] (.bool (Vo d)):=
 aef aez d h (ahA ahI d (by have:=XR d;omega) (fun x hx=>by have:=Y2 hx;simp only[Node.wt] at this;omega) 8 0 (-1) 0 (by decide) (by decide) (by decide)) (fun x hx=>dAt d h 0 (-1) x (agr hx)) (fun x hx=>aaH x (by have:=(agr hx).wt;omega))
def aeC (x:Tree) (h:x.wt≤B):au Tryz.prog (gN mm) 71 [x.av] (.gf [Doc.av (Wo x).1,.int .i64 (Wo x).2]):=aes aex x h (Bf x h)
def acV {d:List Am.Node} {x:Am.Node} (h:x∈d):dX x.attrs≤zn d∧x.kids.length≤zn d∧x.s.length≤zn d:=by
 have:=Y2 h;simp only[Am.Node.wt] at this;omega
def abr (d e:Doc) (h:zn d≤B):au Tryz.prog (gN mm) 34 [Doc.av d,Doc.av e] (.bool (P2 d e)):=
 aek aey d e h (fun x hx y _=>QV _ _ (by have:=(acV hx).1;have:=iz x.attrs;omega)) (fun x hx y _=>aaY aa3 _ _ (by have:=(acV hx).2;omega))
end Go.Proofs.YtfinkeaikbmpgaaGreatDoor
