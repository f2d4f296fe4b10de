import Derived.Test.YtfeijflhfhkbnaaGreatDoorE240
import Derived.Test.YtfeijflhfhkbnaaGreatDoorKT21
import Derived.Test.YtfeijflhfhkbnaaGreatDoorKAm34
set_option linter.all false
/- Functions of this seat, read: trees, documents. -/
namespace Go.Proofs.YtfeijflhfhkbnaaGreatDoor
open Go Go.Am Go.ChangeShapes
variable {t1 t2:Nat}
def PD:aw Tryz.prog (gS t1 t2) 43=some (26,[(none,4)],OA.bare):=Yn
def P6:aw Tryz.prog (gS t1 t2) 66=some (31,[(none,4)],(OQ 43 29).bare):=Yn
def QT:aw Tryz.prog (gS t1 t2) 29=some (27,[(none,4)],(N_ 66).bare):=Yn
def acn:aw Tryz.prog (gS t1 t2) 55=some (29,[(none,2)],nZ.bare):=Yn
def aco:aw Tryz.prog (gS t1 t2) 88=some (28,[(none,2)],atk.bare):=Yn
def Z5:aw Tryz.prog (gS t1 t2) 147=some (41,[(none,2)],(hZ 88 55).bare):=Yn
def ahG:aw Tryz.prog (gS t1 t2) 92=some (32,[(none,2),(none,3)],(uz 92).bare):=Yn
def agp:aw Tryz.prog (gS t1 t2) 106=some (38,[(none,2)],(rr 55 88 147 93).bare):=Yn
def aev:aw Tryz.prog (gS t1 t2) 93=some (32,[(none,2)],(n_ 106).bare):=Yn
def acT:aw Tryz.prog (gS t1 t2) 67=some (25,[(none,2)],(xW 92 106).bare):=Yn
def afM:aw Tryz.prog (gS t1 t2) 116=some (59,[(none,2)],(Xi 116).bare):=Yn
def aew:aw Tryz.prog (gS t1 t2) 57=some (31,[(none,2)],(Ot 92 93).bare):=Yn
def GF:aw Tryz.prog (gS t1 t2) 138=some (43,[(none,4)],(ib 139 174 140 141 175 142 176).bare):=Yn
def yn:aw Tryz.prog (gS t1 t2) 140=some (21,[((some (some 256)),2),(none,3)],Wg.bare):=Yn
def GG:aw Tryz.prog (gS t1 t2) 177=some (10,[(none,4)],VN.bare):=Yn
def D':aw Tryz.prog (gS t1 t2) 175=some (16,[(none,4)],(cS 177).bare):=Yn
def D_:aw Tryz.prog (gS t1 t2) 141=some (22,[(none,4)],(dJ 177).bare):=Yn
def Bb:aw Tryz.prog (gS t1 t2) 97=some (15,[(none,2)],(eQ 138).bare):=Yn
def yo:aw Tryz.prog (gS t1 t2) 98=some (13,[(none,2)],eE.bare):=Yn
def yp:aw Tryz.prog (gS t1 t2) 62=some (19,[(none,2)],(NK 98).bare):=Yn
def yq:aw Tryz.prog (gS t1 t2) 146=some (34,[(none,2)],(eG 97 62).bare):=Yn
def Ea:aw Tryz.prog (gS t1 t2) 105=some (64,[(none,2)],(as4 62 97 146 105).bare):=Yn
def Bc:aw Tryz.prog (gS t1 t2) 104=some (35,[(none,2),(none,3)],eR.bare):=Yn
def QU:aw Tryz.prog (gS t1 t2) 65=some (31,[(none,2)],(Nw 104 105).bare):=Yn
def ahH:aw Tryz.prog (gS t1 t2) 30=some (12,[((some (some 1)),2),(none,3)],(YV 67 68).bare):=Yn
def ait:aw Tryz.prog (gS t1 t2) 68=some (58,[(none,6)],(YB 45 68).bare):=Yn
def Y5:aw Tryz.prog (gS t1 t2) 45=some (8,[(none,2)],U8.bare):=Yn
def ahI:aw Tryz.prog (gS t1 t2) 117=some (64,[(none,10)],(X7 117).bare):=Yn
def Km:aw Tryz.prog (gS t1 t2) 73=some (39,[((some (some 4)),4)],(x7 45 73).bare):=Yn
def aez:aw Tryz.prog (gS t1 t2) 72=some (27,[(none,2)],(YW 117 73 67).bare):=Yn
def apg:aw Tryz.prog (gS t1 t2) 34=some (23,[((some (some 4)),4),(none,5)],(amz 72 73).bare):=Yn
section
variable {l:List Tree} {x y:Tree}
def PE (xs ys:List Tree) (h:dE xs<=B):au Tryz.prog (gS t1 t2) 29 [.list (dq xs),.list (dq ys)] (.bool (P2 xs ys)):=TE PD P6 QT _ xs ys (PW _) h
def agq (x:Tree) (h:x.wt<=B):au Tryz.prog (gS t1 t2) 92 [x.av] (.gf [.int .i64 x.dep,.int .i64 x.jz]):=Gt ahG x h
def agR (l:List Tree) (h:dE l<=B):au Tryz.prog (gS t1 t2) 93 [.list (dq l)] (.bool (bQ none l)):=xY acn aco Z5 agp aev l h
def aaH (x:Tree) (h:x.wt<=B):au Tryz.prog (gS t1 t2) 67 [x.av] (.bool x.d_):=Gp acT x (agq x h) (Gu acn aco Z5 agp aev x h)
def Y6 (l:List Tree) (h:dE l<=B):au Tryz.prog (gS t1 t2) 57 [.list (dq l)] (.bool (content l)):=
 R1 aew l h (λx hx=>agq x (by have:=j_ hx;omega)) (agR l h)
def GH (s:Bs) (h:s.length<=B):au Tryz.prog (gS t1 t2) 138 [.str s,.str cY] (.str (dB (er cY) (eM (er cY) s))):=
 GB GF s cY h M3 (rB yn cY M3 M3) (ate D_ _ s h (mB GG _))
  (po D' _ _ (by have:=A6 (er cY) s;omega) (mB GG _))
def ajV (s:Bs) (h:s.length<=B):au Tryz.prog (gS t1 t2) 97 [.str s] (.bool (named s)):=A7 Bb s (GH s h)
def rI (s:Bs) (h:s.length<=B):au Tryz.prog (gS t1 t2) 62 [.str s] (.bool (plain s)):=yg yp s h (yf yo)
def uQ {l:List Attr} {a:Attr} (h:a∈l):a.name.length<=dX l/\a.val.length<=dX l:=by
 induction l with
 |nil=>cases h
 |cons b r ih=>
 simp only[dX];rcases PY.1 h with rfl|h
 ·simp only[Attr.wt];omega
 have:=ih h;omega
def yr (l:List Attr) (h:dX l<=B):au Tryz.prog (gS t1 t2) 146 [.list (cD l)] (.bool (bP l)):=
 yl yq l (by have:=iz l;omega) (λa ha=>ajV _ (by have:=uQ ha;omega)) (λa ha=>rI _ (by have:=uQ ha;omega))
def yt (x:Tree):x.s.length<=x.wt:=by have:=x.gx;omega
def Eb:∀l:List Tree,dE l<=B->au Tryz.prog (gS t1 t2) 105 [.list (dq l)] (.bool (bQ none l)):=
 A4 (M:=λl=>dE l<=B->au Tryz.prog (gS t1 t2) 105 [.list (dq l)] (.bool (bQ none l))) λl ih h=>
  D9 Ea l h (λx hx=>rI _ (by have:=j_ hx;have:=yt x;omega)) (λx hx=>ajV _ (by have:=j_ hx;have:=yt x;omega))
   (λx hx=>yr _ (by have:=j_ hx;have:=lY x;omega)) (λx hx=>ih x hx (by have:=j_ hx;have:=jA x;omega))
def Be (x:Tree) (h:x.wt<=B):au Tryz.prog (gS t1 t2) 104 [x.av] (.gf [.int .i64 x.dep,.int .i64 x.jz]):=A_ Bc x h
def QW (l:List Tree) (h:dE l<=B):au Tryz.prog (gS t1 t2) 65 [.list (dq l)] (.bool (content l)):=
 QQ QU l h (λx hx=>Be x (by have:=j_ hx;omega)) (Eb l h)
end
def aeA (xs:List Attr) (h:xs.length<=B):au Tryz.prog (gS t1 t2) 45 [.list (cD xs)] (.list (cD xs)):=acI Y5 xs h
def acU (x:Tree) (h:x.wt<=B):au Tryz.prog (gS t1 t2) 30 [x.av] (.gf [Doc.av (Wo x).1,.int .i64 (Wo x).2]):=
 ahz ahH x h (aaH x h) (air ait aeA x [] (-1) (by simpa using h))
def dAt (d:Doc) (h:zn d<=B) (n:Nat) (q:Int) (x:Tree) (hL:oc d n q x):au Tryz.prog (gS t1 t2) 73 [Doc.av d,.int .i64 n] x.av:=wAt Km aeA d h n q x hL
def agr {d:Doc} {x:Tree} (h:d=lW x):oc d 0 (-1) x:=by subst h;exact acf x
def aeB (d:Doc) (h:zn d<=B):au Tryz.prog (gS t1 t2) 72 [Doc.av d] (.bool (Vo d)):=
 aef aez d h (ahA ahI d (by have:=XR d;omega) (λx hx=>by have:=Y2 hx;simp only[Node.wt] at this;omega) 8 0 (-1) 0 M3 M3 M3) (λx hx=>dAt d h 0 (-1) x (agr hx)) (λx hx=>aaH x (by have:=(agr hx).wt;omega))
def am7 (d:Doc) (h:zn d<=B) (n:Int):au Tryz.prog (gS t1 t2) 34 [Doc.av d,.int .i64 n] (.gf [(aec d n).1.av,.int .i64 (aec d n).2]):=ape apg d h n (aeB d h) (dAt d h)
def acV {d:List Am.Node} {x:Am.Node} (h:x∈d):dX x.attrs<=zn d/\x.kids.length<=zn d/\x.s.length<=zn d:=by
 have:=Y2 h;simp only[Am.Node.wt] at this;omega
end Go.Proofs.YtfeijflhfhkbnaaGreatDoor
