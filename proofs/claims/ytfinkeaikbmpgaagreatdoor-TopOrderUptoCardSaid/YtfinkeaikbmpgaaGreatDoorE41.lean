import Derived.Test.YtfinkeaikbmpgaaGreatDoorE40
import Derived.Test.YtfinkeaikbmpgaaGreatDoorKT21
import Derived.Test.YtfinkeaikbmpgaaGreatDoorKT15
set_option linter.unusedSimpArgs false
set_option linter.unusedVariables false
set_option linter.unnecessarySimpa false
set_option linter.defProp false
/- Functions of this seat, read: trees, documents. -/
namespace Go.Proofs.YtfinkeaikbmpgaaGreatDoor
open Go Go.Am Go.ChangeShapes
variable {t1 t2:Nat}
def DK:an Tryz.prog (gS t1 t2) 125=some (29,[(none,2)],xJ.bare):=by kernel_rfl
def DL:an Tryz.prog (gS t1 t2) 53=some (28,[(none,2)],xL.bare):=by kernel_rfl
def AT:an Tryz.prog (gS t1 t2) 141=some (41,[(none,2)],(nU 53 125).bare):=by kernel_rfl
def aaa:an Tryz.prog (gS t1 t2) 96=some (32,[(none,2),(none,3)],(E5 96).bare):=by kernel_rfl
def T':an Tryz.prog (gS t1 t2) 97=some (38,[(none,2)],(Cn 125 53 141 142).bare):=by kernel_rfl
def Od:an Tryz.prog (gS t1 t2) 142=some (32,[(none,2)],(xO 97).bare):=by kernel_rfl
def Jw:an Tryz.prog (gS t1 t2) 56=some (25,[(none,2)],(Co 96 97).bare):=by kernel_rfl
def Sa:an Tryz.prog (gS t1 t2) 69=some (59,[(none,2)],(od 69).bare):=by kernel_rfl
def Oe:an Tryz.prog (gS t1 t2) 127=some (31,[(none,2)],(ni 96 142).bare):=by kernel_rfl
def T_:an Tryz.prog (gS t1 t2) 52=some (74,[(none,4)],(qv 52).bare):=by kernel_rfl
def aab:an Tryz.prog (gS t1 t2) 62=some (12,[((some (some 1)),2),(none,3)],(vR 56 99).bare):=by kernel_rfl
def ab7:an Tryz.prog (gS t1 t2) 99=some (58,[(none,6)],(uz 58 99).bare):=by kernel_rfl
def wY:an Tryz.prog (gS t1 t2) 58=some (8,[(none,2)],eC.bare):=by kernel_rfl
def aac:an Tryz.prog (gS t1 t2) 55=some (64,[(none,10)],(rW 55).bare):=by kernel_rfl
def Jx:an Tryz.prog (gS t1 t2) 57=some (39,[((some (some 4)),4)],(wN 58 57).bare):=by kernel_rfl
def Of:an Tryz.prog (gS t1 t2) 21=some (27,[(none,2)],(vT 55 57 56).bare):=by kernel_rfl
def Og:an Tryz.prog (gS t1 t2) 26=some (23,[((some (some 4)),4),(none,5)],(vU 21 57).bare):=by kernel_rfl
section
variable {l:List Tree} {x y:Tree}
def Ua (x:Tree) (h:x.wt≤B):aw Tryz.prog (gS t1 t2) 96 [x.av] (.dM [.int .i64 x.dep,.int .i64 x.fI]):=TZ aaa x h
def WB (l:List Tree) (h:er l≤B):aw Tryz.prog (gS t1 t2) 142 [.list (eR l)] (.bool (iD none l)):=Hm DK DL AT T' Od l h
def CL (x:Tree) (h:x.wt≤B):aw Tryz.prog (gS t1 t2) 56 [x.av] (.bool x.fZ):=TW Jw x (Ua x h) (T0 DK DL AT T' Od x h)
def wZ (l:List Tree) (h:er l≤B):aw Tryz.prog (gS t1 t2) 127 [.list (eR l)] (.bool (content l)):=
 Fb Oe l h (fun x hx=>Ua x (by have:=xR hx;omega)) (WB l h)
end
def HA (xs:List Attr) (h:xs.length≤B):aw Tryz.prog (gS t1 t2) 58 [.list (dA xs)] (.list (dA xs)):=Jd wY xs h
def CM (x:Tree) (h:x.wt≤B):aw Tryz.prog (gS t1 t2) 62 [x.av] (.dM [Doc.av (jJ x).1,.int .i64 (jJ x).2]):=
 ZZ aab x h (CL x h) (ab1 ab7 HA x [] (-1) (by simpa using h))
def dAt (d:Doc) (h:rq d≤B) (n:Nat) (q:Int) (x:Tree) (hL:mf d n q x):aw Tryz.prog (gS t1 t2) 57 [Doc.av d,.int .i64 n] x.av:=wAt Jx HA d h n q x hL
def Ub {d:Doc} {x:Tree} (h:d=aK x):mf d 0 (-1) x:=by subst h;exact Hs x
def w5 (d:Doc) (h:rq d≤B):aw Tryz.prog (gS t1 t2) 21 [Doc.av d] (.bool (cW d)):=
 NY Of d h (Z0 aac d (by have:=uF d;omega) (fun x hx=>by have:=zA hx;simp only[Node.wt] at this;omega) 8 0 (-1) 0 (by decide) (by decide) (by decide)) (fun x hx=>dAt d h 0 (-1) x (Ub hx)) (fun x hx=>CL x (by have:=(Ub hx).wt;omega))
def w6 (d:Doc) (h:rq d≤B) (n:Int):aw Tryz.prog (gS t1 t2) 26 [Doc.av d,.int .i64 n] (.dM [(e_ d n).1.av,.int .i64 (e_ d n).2]):=NZ Og d h n (w5 d h) (dAt d h)
def Jy {d:List Am.Node} {x:Am.Node} (h:x∈d):j0 x.attrs≤rq d∧x.kids.length≤rq d∧x.s.length≤rq d:=by
 have:=zA h;simp only[Am.Node.wt] at this;omega
end Go.Proofs.YtfinkeaikbmpgaaGreatDoor
