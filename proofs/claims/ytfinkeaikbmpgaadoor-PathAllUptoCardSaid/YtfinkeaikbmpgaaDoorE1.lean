import Derived.Test.YtfinkeaikbmpgaaDoorE0
import Derived.Test.YtfinkeaikbmpgaaDoorKT26
import Derived.Test.YtfinkeaikbmpgaaDoorKT16
import Derived.Test.YtfinkeaikbmpgaaDoorKT13
import Derived.Test.YtfinkeaikbmpgaaDoorKAm25
set_option linter.unusedSimpArgs false
set_option linter.unusedVariables false
set_option linter.unnecessarySimpa false
set_option linter.defProp false
/- Functions of this seat, read: trees, documents. -/
namespace Go.Proofs.YtfinkeaikbmpgaaDoor
open Go Go.Am Go.ChangeShapes
theorem hPlain : compF Tryd.prog noG 22 = some (29, [(none, 2)], cPlain.bare) := by kernel_rfl
theorem hNamed : compF Tryd.prog noG 20 = some (28, [(none, 2)], cNamed.bare) := by kernel_rfl
theorem hGoodAttrs : compF Tryd.prog noG 24 = some (41, [(none, 2)], (cGoodAttrs 20 22).bare) := by kernel_rfl
theorem hSize : compF Tryd.prog noG 18 = some (32, [(none, 2), (none, 3)], (cSize 18).bare) := by kernel_rfl
theorem hFine : compF Tryd.prog noG 79 = some (38, [(none, 2)], (cFine 22 20 24 81).bare) := by kernel_rfl
theorem hFines : compF Tryd.prog noG 81 = some (32, [(none, 2)], (cFines 79).bare) := by kernel_rfl
theorem hGood : compF Tryd.prog noG 26 = some (25, [(none, 2)], (cGood 18 79).bare) := by kernel_rfl
theorem hCloneA : compF Tryd.prog noG 120 = some (8, [(none, 2)], c_slices_Clone_Attr_Attr.bare) := by kernel_rfl
theorem hWalk : compF Tryd.prog noG 88 = some (64, [(none, 10)], (c_doc_walk 88).bare) := by kernel_rfl
theorem hAt : compF Tryd.prog noG 86 = some (39, [((some (some 4)), 4)], (c_doc_at 120 86).bare) := by kernel_rfl
theorem hDocGood : compF Tryd.prog noG 41 = some (27, [(none, 2)], (c_doc_Good 88 86 26).bare) := by kernel_rfl
section
variable {l : List Tree} {x y : Tree}
theorem dSize (x : Tree) (h : x.wt ≤ B) : PureC Tryd.prog noG 18 [x.av] (.tup [.int .i64 x.dep, .int .i64 x.cnt]) := wSize hSize x h
theorem dGood (x : Tree) (h : x.wt ≤ B) : PureC Tryd.prog noG 26 [x.av] (.bool x.good) := pGood hGood x (dSize x h) (wFine hPlain hNamed hGoodAttrs hFine hFines x h)
end
theorem dClone (xs : List Attr) (h : xs.length ≤ B) : PureC Tryd.prog noG 120 [.list (ivA xs)] (.list (ivA xs)) := pCloneA hCloneA xs h
theorem dAt (d : Doc) (h : wtN d ≤ B) (n : Nat) (q : Int) (x : Tree) (hL : Lies d n q x) : PureC Tryd.prog noG 86 [Doc.av d, .int .i64 n] x.av := wAt hAt dClone d h n q x hL
theorem lies0 {d : Doc} {x : Tree} (h : d = docOf x) : Lies d 0 (-1) x := by subst h; exact docOf_lies x
theorem dDocGood (d : Doc) (h : wtN d ≤ B) : PureC Tryd.prog noG 41 [Doc.av d] (.bool (isDoc d)) :=
  pDocGood hDocGood d h (pWalk hWalk d (by have := wtN_len d; omega) (fun x hx => by have := wtN_mem hx; simp only [Node.wt] at this; omega) 8 0 (-1) 0 (by decide) (by decide) (by decide)) (fun x hx => dAt d h 0 (-1) x (lies0 hx)) (fun x hx => dGood x (by have := (lies0 hx).wt; omega))
end Go.Proofs.YtfinkeaikbmpgaaDoor
