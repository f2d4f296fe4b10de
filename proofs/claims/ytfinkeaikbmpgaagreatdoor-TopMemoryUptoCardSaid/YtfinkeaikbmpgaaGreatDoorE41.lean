import Derived.Test.YtfinkeaikbmpgaaGreatDoorE40
import Derived.Test.YtfinkeaikbmpgaaGreatDoorKT21
import Derived.Test.YtfinkeaikbmpgaaGreatDoorKT16
set_option linter.unusedSimpArgs false
set_option linter.unusedVariables false
set_option linter.unnecessarySimpa false
set_option linter.defProp false
/- Functions of this seat, read: trees, documents. -/
namespace Go.Proofs.YtfinkeaikbmpgaaGreatDoor
open Go Go.Am Go.ChangeShapes
variable {t1 t2:Nat}
def acn:aw Tryz.prog (gS t1 t2) 125=some (29,[(none,2)],nZ.bare):=Po
def aco:aw Tryz.prog (gS t1 t2) 53=some (28,[(none,2)],n4.bare):=Po
def Z5:aw Tryz.prog (gS t1 t2) 141=some (41,[(none,2)],(hZ 53 125).bare):=Po
def ahG:aw Tryz.prog (gS t1 t2) 96=some (32,[(none,2),(none,3)],(uz 96).bare):=Po
def agp:aw Tryz.prog (gS t1 t2) 97=some (38,[(none,2)],(rr 125 53 141 142).bare):=Po
def aev:aw Tryz.prog (gS t1 t2) 142=some (32,[(none,2)],(n_ 97).bare):=Po
def acT:aw Tryz.prog (gS t1 t2) 56=some (25,[(none,2)],(xW 96 97).bare):=Po
def afM:aw Tryz.prog (gS t1 t2) 69=some (59,[(none,2)],(Xi 69).bare):=Po
def aew:aw Tryz.prog (gS t1 t2) 127=some (31,[(none,2)],(Ot 96 142).bare):=Po
def aqT:aw Tryz.prog (gS t1 t2) 52=some (74,[(none,4)],(amd 52).bare):=Po
def ahH:aw Tryz.prog (gS t1 t2) 62=some (12,[((some (some 1)),2),(none,3)],(YV 56 99).bare):=Po
def ait:aw Tryz.prog (gS t1 t2) 99=some (58,[(none,6)],(YB 58 99).bare):=Po
def Y5:aw Tryz.prog (gS t1 t2) 58=some (8,[(none,2)],U8.bare):=Po
def ahI:aw Tryz.prog (gS t1 t2) 55=some (64,[(none,10)],(X7 55).bare):=Po
def Km:aw Tryz.prog (gS t1 t2) 57=some (39,[((some (some 4)),4)],(x7 58 57).bare):=Po
def aez:aw Tryz.prog (gS t1 t2) 21=some (27,[(none,2)],(YW 55 57 56).bare):=Po
def apg:aw Tryz.prog (gS t1 t2) 26=some (23,[((some (some 4)),4),(none,5)],(amz 21 57).bare):=Po
section
variable {l:List Tree} {x y:Tree}
def agq (x:Tree) (h:x.wt≤B):au Tryz.prog (gS t1 t2) 96 [x.av] (.gf [.int .i64 x.dep,.int .i64 x.jz]):=Gt ahG x h
def agR (l:List Tree) (h:dE l≤B):au Tryz.prog (gS t1 t2) 142 [.list (dq l)] (.bool (bQ none l)):=xY acn aco Z5 agp aev l h
def aaH (x:Tree) (h:x.wt≤B):au Tryz.prog (gS t1 t2) 56 [x.av] (.bool x.d_):=Gp acT x (agq x h) (Gu acn aco Z5 agp aev x h)
def Y6 (l:List Tree) (h:dE l≤B):au Tryz.prog (gS t1 t2) 127 [.list (dq l)] (.bool (content l)):=
 R1 aew l h (fun x hx=>agq x (by have:=j_ hx;omega)) (agR l h)
end
def aeA (xs:List Attr) (h:xs.length≤B):au Tryz.prog (gS t1 t2) 58 [.list (cD xs)] (.list (cD xs)):=acI Y5 xs h
def acU (x:Tree) (h:x.wt≤B):au Tryz.prog (gS t1 t2) 62 [x.av] (.gf [Doc.av (Wo x).1,.int .i64 (Wo x).2]):=
 ahz ahH x h (aaH x h) (air ait aeA x [] (-1) (by simpa using h))
def dAt (d:Doc) (h:zn d≤B) (n:Nat) (q:Int) (x:Tree) (hL:oc d n q x):au Tryz.prog (gS t1 t2) 57 [Doc.av d,.int .i64 n] x.av:=wAt Km aeA d h n q x hL
def agr {d:Doc} {x:Tree} (h:d=lW x):oc d 0 (-1) x:=by subst h;exact acf x
def aeB (d:Doc) (h:zn d≤B):au Tryz.prog (gS t1 t2) 21 [Doc.av d] (.bool (Vo d)):=
 aef aez d h (ahA ahI d (by have:=XR d;omega) (fun x hx=>by have:=Y2 hx;simp only[Node.wt] at this;omega) 8 0 (-1) 0 Pr Pr Pr) (fun x hx=>dAt d h 0 (-1) x (agr hx)) (fun x hx=>aaH x (by have:=(agr hx).wt;omega))
def am7 (d:Doc) (h:zn d≤B) (n:Int):au Tryz.prog (gS t1 t2) 26 [Doc.av d,.int .i64 n] (.gf [(aec d n).1.av,.int .i64 (aec d n).2]):=ape apg d h n (aeB d h) (dAt d h)
def acV {d:List Am.Node} {x:Am.Node} (h:x∈d):dX x.attrs≤zn d∧x.kids.length≤zn d∧x.s.length≤zn d:=by
 have:=Y2 h;simp only[Am.Node.wt] at this;omega
end Go.Proofs.YtfinkeaikbmpgaaGreatDoor
