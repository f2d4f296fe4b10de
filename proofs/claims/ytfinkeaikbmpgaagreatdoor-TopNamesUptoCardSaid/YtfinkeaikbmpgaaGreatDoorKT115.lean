import Derived.Test.YtfinkeaikbmpgaaGreatDoorT114
import Derived.Test.YtfinkeaikbmpgaaGreatDoorKC7
set_option linter.unusedSimpArgs false
set_option linter.unusedVariables false
set_option linter.unnecessarySimpa false
set_option linter.defProp false
/- What acts do, in plain words: what is refused, loaded, shown; how many. -/
namespace Go.Am
open Go Go.RowKit
def Whole (d:Doc) (a:ak7) (e:Doc) (r:Rep):Prop:=
 (r.code≠0∧e=d∧r.n=0∧r.text=[])∨(r.code=0∧a.kind=3∧e=d)∨(r.code=0∧a.kind=2∧r.n=0∧e=d)∨(r.code=0∧a.kind≠3∧(a.kind=2→r.n≠0)∧0<r.n∧r.text=[])
theorem aod (l:List ak7):∀i:Nat,i≤l.length→i≤100→(aly l i).2=i
 |0,_,_=>rfl
 |i+1,h,h2=>by
  have ih:=aod l i tM tM;rw[anE (bS (show i<l.length by omega))];unfold doF;rw[cY tM];simp only;omega

section
variable {P:Program} {G:Nat→Option (List IV)}
abbrev ari (P:Program) (G:Nat→Option (List IV)) (f:Nat):Prop:=∀(d:Doc) (n:Int),Vo d=true→cR P G f [.ptr (.par 0) 2 0 0] (stC d n) (fun x cs=>x=Doc.av d∧cs=stC d n)
abbrev DoC (P:Program) (G:Nat→Option (List IV)) (f:Nat) (a:ak7):Prop:=∀(d:Doc) (n:Int),Vo d=true→0≤n→n≤100→cR P G f [.ptr (.par 0) 2 0 0,a.av] (stC d n) (fun x cs=>x=(doF d n a).2.av∧cs=stC (doF d n a).1.1 (doF d n a).1.2)
abbrev aqb (P:Program) (G:Nat→Option (List IV)) (f:Nat):Prop:=∀d e:Doc,Vo d=true→Vo e=true→au P G f [Doc.av d,Doc.av e] (.bool (P2 d e))
end
end Go.Am
