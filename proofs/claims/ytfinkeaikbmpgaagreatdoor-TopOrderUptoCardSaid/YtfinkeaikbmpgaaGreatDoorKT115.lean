import Derived.Test.YtfinkeaikbmpgaaGreatDoorT114
import Derived.Test.YtfinkeaikbmpgaaGreatDoorKC7
set_option linter.unusedSimpArgs false
set_option linter.unusedVariables false
set_option linter.unnecessarySimpa false
set_option linter.defProp false
/- What acts do, in plain words: what is refused, loaded, shown; how many. -/
namespace Go.Am
open Go Go.RowKit
def Whole (d:Doc) (a:bK) (e:Doc) (r:l9):Prop:=
 (r.code≠0∧e=d∧r.n=0∧r.text=[])∨(r.code=0∧a.kind=3∧e=d)∨(r.code=0∧a.kind=2∧r.n=0∧e=d)∨(r.code=0∧a.kind≠3∧(a.kind=2→r.n≠0)∧0<r.n∧r.text=[])
theorem uf (l:List bK):∀i:Nat,i≤l.length→i≤100→(gF l i).2=i
 |0,_,_=>rfl
 |i+1,h,h2=>by
  have ih:=uf l i (by omega) (by omega);rw[u0 (ag7 (show i<l.length by omega))];unfold mQ;rw[ag8 (by omega)];simp only;omega

section
variable {P:Program} {G:Nat→Option (List IV)}
abbrev II (P:Program) (G:Nat→Option (List IV)) (f:Nat):Prop:=∀(d:Doc) (n:Int),cW d=true→ez P G f [.ptr (.par 0) 2 0 0] (dL d n) (fun x cs=>x=Doc.av d∧cs=dL d n)
abbrev UK (P:Program) (G:Nat→Option (List IV)) (f:Nat) (a:bK):Prop:=∀(d:Doc) (n:Int),cW d=true→0≤n→n≤100→ez P G f [.ptr (.par 0) 2 0 0,a.av] (dL d n) (fun x cs=>x=(mQ d n a).2.av∧cs=dL (mQ d n a).1.1 (mQ d n a).1.2)
abbrev BB (P:Program) (G:Nat→Option (List IV)) (f:Nat):Prop:=∀d e:Doc,cW d=true→cW e=true→aw P G f [Doc.av d,Doc.av e] (.bool (GM d e))
end
end Go.Am
