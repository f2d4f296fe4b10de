import Derived.Test.YtfinkeaikbmpgaaR0
import Derived.Test.YtfinkeaikbmpgaaKT8
set_option linter.unusedSimpArgs false
set_option linter.unusedVariables false
set_option linter.unnecessarySimpa false
set_option linter.defProp false
/- Functions of this seat, read: trees. -/
namespace Go.Proofs.Ytfinkeaikbmpgaa
open Go Go.Am Go.ChangeShapes
theorem x4:aA Try.prog fV 55=some (29,[(none,2)],rl.bare):=by kernel_rfl
theorem x5:aA Try.prog fV 56=some (28,[(none,2)],rq.bare):=by kernel_rfl
theorem rP:aA Try.prog fV 57=some (41,[(none,2)],(kc 56 55).bare):=by kernel_rfl
theorem Hb:aA Try.prog fV 26=some (32,[(none,2),(none,3)],(zg 26).bare):=by kernel_rfl
theorem Hc:aA Try.prog fV 41=some (38,[(none,2)],(vZ 55 56 57 39).bare):=by kernel_rfl
theorem CB:aA Try.prog fV 39=some (32,[(none,2)],(rA 41).bare):=by kernel_rfl
theorem zk:aA Try.prog fV 24=some (25,[(none,2)],(v5 26 41).bare):=by kernel_rfl
theorem FI:aA Try.prog fV 15=some (59,[(none,2)],(iY 15).bare):=by kernel_rfl
theorem tq (x:Tree) (h:x.wt≤B):az Try.prog fV 24 [x.av] (.bool x.iu):=
 LN zk x (G_ Hb x h) (LU x4 x5 rP Hc CB x h)
theorem CC:aA Try.prog fV 19=some (31,[(none,2)],(ke 26 39).bare):=by kernel_rfl
theorem x6:aA Try.prog fV 18=some (27,[(none,4)],(lK 27).bare):=by kernel_rfl
theorem tu:aA Try.prog fV 27=some (50,[(none,4)],(fB 18).bare):=by kernel_rfl
theorem L2 (x:Tree) (h:x.wt≤B):az Try.prog fV 26 [x.av] (.dU [.int .i64 x.dep,.int .i64 x.dg]):=G_ Hb x h
theorem Ju (l:List Tree) (h:di l≤B):az Try.prog fV 39 [.list (dc l)] (.bool (dT none l)):=Cy x4 x5 rP Hc CB l h
theorem oG (l:List Tree) (h:di l≤B):az Try.prog fV 19 [.list (dc l)] (.bool (content l)):=
 CA CC l h (fun x hx=>L2 x (by have:=pq hx;omega)) (Ju l h)
theorem x7 (xs ys:List Tree) (h:di xs≤B):az Try.prog fV 18 [.list (dc xs),.list (dc ys)] (.bool (vp xs ys)):=xZ tu x6 xs ys h
theorem qC (l:List Tree) (h:di l≤B):az Try.prog fV 15 [.list (dc l)] (.list (dc (eD l))):=FF FI l h
end Go.Proofs.Ytfinkeaikbmpgaa
