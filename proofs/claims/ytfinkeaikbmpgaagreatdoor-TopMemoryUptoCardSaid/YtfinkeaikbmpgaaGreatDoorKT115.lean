import Derived.Test.YtfinkeaikbmpgaaGreatDoorT114
import Derived.Test.YtfinkeaikbmpgaaGreatDoorKC7
set_option linter.unusedSimpArgs false
set_option linter.unusedVariables false
set_option linter.unnecessarySimpa false
set_option linter.defProp false
/- What acts do, in plain words: what is refused, loaded, shown; how many. -/
namespace Go.Am
open Go Go.RowKit
def Whole (d:Doc) (a:ak7) (e:Doc) (r:Rep):Prop:=
 (r.code≠0∧e=d∧r.n=0∧r.text=[])∨(r.code=0∧a.kind=3∧e=d)∨(r.code=0∧a.kind=2∧r.n=0∧e=d)∨(r.code=0∧a.kind≠3∧(a.kind=2→r.n≠0)∧0<r.n∧r.text=[])

section
variable {P:Program} {G:Nat→Option (List IV)}
abbrev aqb (P:Program) (G:Nat→Option (List IV)) (f:Nat):Prop:=∀d e:Doc,Vo d=true→Vo e=true→au P G f [Doc.av d,Doc.av e] (.bool (P2 d e))
end
end Go.Am
