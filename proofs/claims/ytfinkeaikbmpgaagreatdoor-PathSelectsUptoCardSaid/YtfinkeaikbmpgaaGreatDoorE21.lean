import Derived.Test.YtfinkeaikbmpgaaGreatDoorE20
import Derived.Test.YtfinkeaikbmpgaaGreatDoorKT26
import Derived.Test.YtfinkeaikbmpgaaGreatDoorT30
import Derived.Test.YtfinkeaikbmpgaaGreatDoorKD2
import Derived.Test.YtfinkeaikbmpgaaGreatDoorKAm25
set_option linter.unusedSimpArgs false
set_option linter.unusedVariables false
set_option linter.unnecessarySimpa false
set_option linter.defProp false
/- Functions of this seat, read: trees, documents. -/
namespace Go.Proofs.YtfinkeaikbmpgaaGreatDoor
open Go Go.Am Go.ChangeShapes
variable {t1 t2:Nat}
theorem uh:aB Tryz.prog (gZ t1 t2) 74=some (26,[(none,4)],ll.bare):=by kernel_rfl
theorem Ep:aB Tryz.prog (gZ t1 t2) 125=some (29,[(none,2)],oj.bare):=by kernel_rfl
theorem zh:aB Tryz.prog (gZ t1 t2) 53=some (28,[(none,2)],oo.bare):=by kernel_rfl
theorem ui:aB Tryz.prog (gZ t1 t2) 141=some (41,[(none,2)],(ir 53 125).bare):=by kernel_rfl
theorem GG:aB Tryz.prog (gZ t1 t2) 96=some (32,[(none,2),(none,3)],(vl 96).bare):=by kernel_rfl
theorem GH:aB Tryz.prog (gZ t1 t2) 97=some (38,[(none,2)],(rU 125 53 141 142).bare):=by kernel_rfl
theorem Er:aB Tryz.prog (gZ t1 t2) 142=some (32,[(none,2)],(ow 97).bare):=by kernel_rfl
theorem GI:aB Tryz.prog (gZ t1 t2) 56=some (25,[(none,2)],(yA 96 97).bare):=by kernel_rfl
theorem GJ:aB Tryz.prog (gZ t1 t2) 117=some (43,[(none,4)],(iw 158 157 159 161 160 163 162).bare):=by kernel_rfl
theorem zi:aB Tryz.prog (gZ t1 t2) 159=some (21,[((some (some 256)),2),(none,3)],ec.bare):=by kernel_rfl
theorem GK:aB Tryz.prog (gZ t1 t2) 191=some (10,[(none,4)],dh.bare):=by kernel_rfl
theorem Es:aB Tryz.prog (gZ t1 t2) 160=some (16,[(none,4)],(dV 191).bare):=by kernel_rfl
theorem Et:aB Tryz.prog (gZ t1 t2) 161=some (22,[(none,4)],(dJ 191).bare):=by kernel_rfl
theorem BP:aB Tryz.prog (gZ t1 t2) 79=some (15,[(none,2)],(e9 117).bare):=by kernel_rfl
theorem zj:aB Tryz.prog (gZ t1 t2) 175=some (13,[(none,2)],eL.bare):=by kernel_rfl
theorem zk:aB Tryz.prog (gZ t1 t2) 131=some (19,[(none,2)],(eM 175).bare):=by kernel_rfl
theorem zl:aB Tryz.prog (gZ t1 t2) 190=some (34,[(none,2)],(eN 79 131).bare):=by kernel_rfl
theorem Eu:aB Tryz.prog (gZ t1 t2) 156=some (64,[(none,2)],(fu 131 79 190 156).bare):=by kernel_rfl
theorem BQ:aB Tryz.prog (gZ t1 t2) 155=some (35,[(none,2),(none,3)],e_.bare):=by kernel_rfl
theorem BR:aB Tryz.prog (gZ t1 t2) 112=some (26,[(none,2)],(fa 155 156).bare):=by kernel_rfl
theorem BS:aB Tryz.prog (gZ t1 t2) 58=some (8,[(none,2)],dH.bare):=by kernel_rfl
theorem zm:aB Tryz.prog (gZ t1 t2) 71=some (84,[((some (some 1)),2),(none,3)],(eQ 112).bare):=by kernel_rfl
theorem zn:aB Tryz.prog (gZ t1 t2) 34=some (67,[(none,4)],(eO 74 39).bare):=by kernel_rfl
theorem mj:aB Tryz.prog (gZ t1 t2) 39=some (26,[(none,4)],dK.bare):=by kernel_rfl
theorem GL:aB Tryz.prog (gZ t1 t2) 55=some (64,[(none,10)],(jG 55).bare):=by kernel_rfl
theorem I0:aB Tryz.prog (gZ t1 t2) 57=some (39,[((some (some 4)),4)],(l9 58 57).bare):=by kernel_rfl
theorem zo:aB Tryz.prog (gZ t1 t2) 21=some (27,[(none,2)],(lu 55 57 56).bare):=by kernel_rfl
section
variable {l:List Tree} {x y:Tree}
theorem uj (a b:List Attr) (h:a.length≤B):ai Tryz.prog (gZ t1 t2) 74 [.list (eh a),.list (eh b)] (.bool (qC a b)):=tM uh a b h
theorem GM (x:Tree) (h:x.wt≤B):ai Tryz.prog (gZ t1 t2) 96 [x.av] (.ei [.int .i64 x.dep,.int .i64 x.dP]):=Gu GG x h
theorem GN (x:Tree) (h:x.wt≤B):ai Tryz.prog (gZ t1 t2) 56 [x.av] (.bool x.fM):=Gn GI x (GM x h) (Gv Ep zh ui GH Er x h)
theorem GO (s:Bs) (h:s.length≤B):ai Tryz.prog (gZ t1 t2) 117 [.str s,.str c_] (.str (en (fZ c_) (e7 (fZ c_) s))):=
 Gy GJ s c_ h (by decide) (yO zi c_ (by decide) (by decide)) (tY Et _ s h (pV GK _))
  (wB Es _ _ (by have:=BF (fZ c_) s;omega) (pV GK _))
theorem qO (s:Bs) (h:s.length≤B):ai Tryz.prog (gZ t1 t2) 79 [.str s] (.bool (named s)):=BG BP s (GO s h)
theorem sB (s:Bs) (h:s.length≤B):ai Tryz.prog (gZ t1 t2) 131 [.str s] (.bool (plain s)):=yT zk s h (yS zj)
theorem vD {l:List Attr} {a:Attr} (h:a∈l):a.name.length≤pI l∧a.val.length≤pI l:=by
 induction l with
 |nil=>cases h
 |cons b r ih=>
  simp only[pI];rcases List.mem_cons.1 h with rfl|h
  ·simp only[Attr.wt];omega
  ·have:=ih h;omega
theorem zp (l:List Attr) (h:pI l≤B):ai Tryz.prog (gZ t1 t2) 190 [.list (eh l)] (.bool (cN l)):=
 yW zl l (by have:=g_ l;omega) (fun a ha=>qO _ (by have:=vD ha;omega)) (fun a ha=>sB _ (by have:=vD ha;omega))
theorem zq (x:Tree):x.s.length≤x.wt:=by have:=x.jQ;omega
theorem Ev:∀l:List Tree,fL l≤B→ai Tryz.prog (gZ t1 t2) 156 [.list (eY l)] (.bool (cM none l)):=
 BD (M := fun l => fL l ≤ B → ai Tryz.prog (gZ t1 t2) 156 [.list (eY l)] (.bool (cM none l))) fun l ih h =>
   Ek Eu l h (fun x hx=>sB _ (by have:=mG hx;have:=zq x;omega)) (fun x hx=>qO _ (by have:=mG hx;have:=zq x;omega))
     (fun x hx=>zp _ (by have:=mG hx;have:=l3 x;omega)) (fun x hx=>ih x hx (by have:=mG hx;have:=nS x;omega))
theorem BT (x:Tree) (h:x.wt≤B):ai Tryz.prog (gZ t1 t2) 155 [x.av] (.ei [.int .i64 x.dep,.int .i64 x.dP]):=BJ BQ x h
theorem BU (x:Tree) (h:x.wt≤B):ai Tryz.prog (gZ t1 t2) 112 [x.av] (.bool x.fM):=BK BR x (BT x h) (Ev _ (by simp only[fL];omega))
end
theorem Ew (xs:List Attr) (h:xs.length≤B):ai Tryz.prog (gZ t1 t2) 58 [.list (eh xs)] (.list (eh xs)):=BB BS xs h
theorem Ld (d:Doc) (h:gO d≤B) (n:Nat) (q:Int) (x:Tree) (hL:jn d n q x):ai Tryz.prog (gZ t1 t2) 57 [Doc.av d,.int .i64 n] x.av:=KX I0 Ew d h n q x hL
theorem CD {d:Doc} {x:Tree} (h:d=aR x):jn d 0 (-1) x:=by subst h;exact tW x
theorem zr (d:Doc) (h:gO d≤B):ai Tryz.prog (gZ t1 t2) 21 [Doc.av d] (.bool (cq d)):=
 yI zo d h (Gw GL d (by have:=fk d;omega) (fun x hx=>by have:=kG hx;simp only[Node.wt] at this;omega) 8 0 (-1) 0 (by decide) (by decide) (by decide)) (fun x hx=>Ld d h 0 (-1) x (CD hx)) (fun x hx=>GN x (by have:=(CD hx).wt;omega))
theorem zt (x:Tree) (h:x.wt≤B):ai Tryz.prog (gZ t1 t2) 71 [x.av] (.ei [Doc.av (kk x).1,.int .i64 (kk x).2]):=ze zm x h (BU x h)
theorem vE {d:List Am.Node} {x:Am.Node} (h:x∈d):pI x.attrs≤gO d∧x.kids.length≤gO d∧x.s.length≤gO d:=by
 have:=kG h;simp only[Am.Node.wt] at this;omega
theorem sC (d e:Doc) (h:gO d≤B):ai Tryz.prog (gZ t1 t2) 34 [Doc.av d,Doc.av e] (.bool (qC d e)):=
 y7 zn d e h (fun x hx y _=>uj _ _ (by have:=(vE hx).1;have:=g_ x.attrs;omega)) (fun x hx y _=>mg mj _ _ (by have:=(vE hx).2;omega))
end Go.Proofs.YtfinkeaikbmpgaaGreatDoor
