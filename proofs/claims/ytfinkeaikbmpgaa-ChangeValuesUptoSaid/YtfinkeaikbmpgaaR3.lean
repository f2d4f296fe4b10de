import Derived.Test.YtfinkeaikbmpgaaR1
import Derived.Test.YtfinkeaikbmpgaaKS3
set_option linter.unusedSimpArgs false
set_option linter.unusedVariables false
set_option linter.unnecessarySimpa false
set_option linter.defProp false
/- Functions of this seat, read: documents. -/
namespace Go.Proofs.Ytfinkeaikbmpgaa
open Go Go.Am Go.ChangeShapes
noncomputable def tyD : TyD Try.prog tyT where
 tI := 3
 tIs := 47
 tN := 49
 tNs := 31
 tD := 33
 fN := fieldsAt Try.prog 49
 fD := fieldsAt Try.prog 33
 uI := by kernel_rfl
 uIs := by kernel_rfl
 uN := by kernel_rfl
 uNs := by kernel_rfl
 uD := by kernel_rfl
 sN := by kernel_rfl
 sD := by kernel_rfl
theorem h_slices_Clone_Attr_Attr : compF Try.prog noG 44 = some (8,[(none,2)],c_slices_Clone_Attr_Attr.bare) := by kernel_rfl
theorem h_doc_put : compF Try.prog noG 40 = some (58,[(none,6)],(c_doc_put 44 40).bare) := by kernel_rfl
theorem h_doc_Make : compF Try.prog noG 22 = some (12,[((some (some 1)),2),(none,3)],(c_doc_Make 24 40).bare) := by kernel_rfl
theorem h_doc_walk : compF Try.prog noG 43 = some (64,[(none,10)],(c_doc_walk 43).bare) := by kernel_rfl
theorem h_doc_at : compF Try.prog noG 42 = some (39,[((some (some 4)),4)],(c_doc_at 44 42).bare) := by kernel_rfl
theorem h_doc_Good : compF Try.prog noG 28 = some (27,[(none,2)],(c_doc_Good 43 42 24).bare) := by kernel_rfl
theorem h_doc_End : compF Try.prog noG 29 = some (45,[(none,4)],(c_doc_End 28).bare) := by kernel_rfl
theorem h_doc_String : compF Try.prog noG 30 = some (31,[(none,4)],(c_doc_String 29).bare) := by kernel_rfl
theorem dClone (xs : List Attr) (h : xs.length ≤ B) : PureC Try.prog noG 44 [.list (ivA xs)] (.list (ivA xs)) := pCloneA h_slices_Clone_Attr_Attr xs h
theorem dMake (x : Tree) (h : x.wt ≤ B) : PureC Try.prog noG 22 [x.av] (.tup [Doc.av (makeD x).1,.int .i64 (makeD x).2]) :=
 pMake h_doc_Make x h (dGood x h) (wPut h_doc_put dClone x [] (-1) (by simpa using h))
theorem dAt (d : Doc) (h : wtN d ≤ B) (n : Nat) (q : Int) (x : Tree) (hL : Lies d n q x) : PureC Try.prog noG 42 [Doc.av d,.int .i64 n] x.av := wAt h_doc_at dClone d h n q x hL
theorem lies0 {d : Doc} {x : Tree} (h : d = docOf x) : Lies d 0 (-1) x := by subst h; exact docOf_lies x
theorem dDocGood (d : Doc) (h : wtN d ≤ B) : PureC Try.prog noG 28 [Doc.av d] (.bool (isDoc d)) :=
 pDocGood h_doc_Good d h (pWalk h_doc_walk d (by have := wtN_len d; omega) (fun x hx => by have := wtN_mem hx; simp only [Node.wt] at this; omega) 8 0 (-1) 0 (by decide) (by decide) (by decide)) (fun x hx => dAt d h 0 (-1) x (lies0 hx)) (fun x hx => dGood x (by have := (lies0 hx).wt; omega))
theorem dDocEnd (d : Doc) (h : wtN d ≤ B) (n : Int) : PureC Try.prog noG 29 [Doc.av d,.int .i64 n] (.int .i64 (endD d n)) := pDocEnd h_doc_End d h n (dDocGood d h)
theorem dDocString (d : Doc) (h : wtN d ≤ B) (n : Int) : PureC Try.prog noG 30 [Doc.av d,.int .i64 n] (.str (strD d n)) := pDocString h_doc_String d h n (dDocEnd d h n)
end Go.Proofs.Ytfinkeaikbmpgaa
