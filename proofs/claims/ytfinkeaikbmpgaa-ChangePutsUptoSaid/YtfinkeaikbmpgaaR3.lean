import Derived.Test.YtfinkeaikbmpgaaR1
import Derived.Test.YtfinkeaikbmpgaaKT15
set_option linter.unusedSimpArgs false
set_option linter.unusedVariables false
set_option linter.unnecessarySimpa false
set_option linter.defProp false
/- Functions of this seat, read: documents. -/
namespace Go.Proofs.Ytfinkeaikbmpgaa
open Go Go.Am Go.ChangeShapes
noncomputable def P8:Md Try.prog P1 where
 tI:=3
 Nr:=47
 tN:=49
 Ns:=31
 tD:=33
 fN:=ox Try.prog 49
 fD:=ox Try.prog 33
 uI:=by kernel_rfl
 P6:=by kernel_rfl
 uN:=by kernel_rfl
 P7:=by kernel_rfl
 uD:=by kernel_rfl
 sN:=by kernel_rfl
 sD:=by kernel_rfl
theorem kR:aA Try.prog fV 44=some (8,[(none,2)],cP.bare):=by kernel_rfl
theorem AJ:aA Try.prog fV 40=some (58,[(none,6)],(m9 44 40).bare):=by kernel_rfl
theorem yd:aA Try.prog fV 22=some (12,[((some (some 1)),2),(none,3)],(nZ 24 40).bare):=by kernel_rfl
theorem ye:aA Try.prog fV 43=some (64,[(none,10)],(lL 43).bare):=by kernel_rfl
theorem CM:aA Try.prog fV 42=some (39,[((some (some 4)),4)],(oL 44 42).bare):=by kernel_rfl
theorem yf:aA Try.prog fV 28=some (27,[(none,2)],(n3 43 42 24).bare):=by kernel_rfl
theorem yg:aA Try.prog fV 25=some (23,[((some (some 4)),4),(none,5)],(n4 28 42).bare):=by kernel_rfl
theorem CN (xs:List Attr) (h:xs.length≤B):az Try.prog fV 44 [.list (dY xs)] (.list (dY xs)):=zl kR xs h
theorem zq (x:Tree) (h:x.wt≤B):az Try.prog fV 22 [x.av] (.dU [Doc.av (lx x).1,.int .i64 (lx x).2]):=
 Ma yd x h (tq x h) (OI AJ CN x [] (-1) (by simpa using h))
theorem P9 (d:Doc) (h:kY d≤B) (n:Nat) (q:Int) (x:Tree) (hL:gU d n q x):az Try.prog fV 42 [Doc.av d,.int .i64 n] x.av:=Rk CM CN d h n q x hL
theorem Hm {d:Doc} {x:Tree} (h:d=bF x):gU d 0 (-1) x:=by subst h;exact yc x
theorem wh (d:Doc) (h:kY d≤B):az Try.prog fV 28 [Doc.av d] (.bool (fX d)):=
 CK yf d h (Mb ye d (by have:=oN d;omega) (fun x hx=>by have:=qD hx;simp only[Node.wt] at this;omega) 8 0 (-1) 0 (by decide) (by decide) (by decide)) (fun x hx=>P9 d h 0 (-1) x (Hm hx)) (fun x hx=>tq x (by have:=(Hm hx).wt;omega))
theorem CO (d:Doc) (h:kY d≤B) (n:Int):az Try.prog fV 25 [Doc.av d,.int .i64 n] (.dU [(kK d n).1.av,.int .i64 (kK d n).2]):=CL yg d h n (wh d h) (P9 d h)
end Go.Proofs.Ytfinkeaikbmpgaa
