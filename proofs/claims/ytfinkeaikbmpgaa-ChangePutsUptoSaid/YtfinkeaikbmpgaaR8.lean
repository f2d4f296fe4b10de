import Derived.Test.YtfinkeaikbmpgaaR5
import Derived.Test.YtfinkeaikbmpgaaKC11
set_option linter.unusedSimpArgs false
set_option linter.unusedVariables false
set_option linter.unnecessarySimpa false
set_option linter.defProp false
/- Functions of this seat, read: elements put in and taken out again. -/
namespace Go.Proofs.Ytfinkeaikbmpgaa
open Go Go.Am Go.ChangeShapes
set_option maxRecDepth 100000
theorem vk:aA Try.prog fV 11=some (75,[(none,6)],(e7 32 34 25 27 35).bare):=by kernel_rfl
theorem Bi (x y:Am.Tree) (h:x.wt≤B):az Try.prog fV 27 [x.av,y.av] (.bool (vp x y)):=
 have h2:=m7 x;have h3:=lr x;have h4:=jM x.attrs
 tp tu x y (by omega) (x7 x.kids y.kids (by omega))
theorem xi (d:Doc) (n:Int) (l:List Am.Tree) (hd:kY d≤2^22) (hl:di l≤2^22):az Try.prog fV 11 [Doc.av d,.int .i64 n,.list (dc l)] (.bool true):=
 sw vk d n l hd hl DS DT (fun e k h=>CO e h k) Bi Bg
end Go.Proofs.Ytfinkeaikbmpgaa
