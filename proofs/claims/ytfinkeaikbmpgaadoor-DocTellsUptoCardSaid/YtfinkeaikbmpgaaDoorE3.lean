import Derived.Test.YtfinkeaikbmpgaaDoorE1
import Derived.Test.YtfinkeaikbmpgaaDoorT33
set_option linter.unusedSimpArgs false
set_option linter.unusedVariables false
set_option linter.unnecessarySimpa false
set_option linter.defProp false
/- Functions of this seat, read: what documents tell. -/
namespace Go.Proofs.YtfinkeaikbmpgaaDoor
open Go Go.Am Go.ChangeShapes
theorem hTreeOf : compF Tryd.prog noG 87 = some (47, [((some (some 4)), 4)], (c_topiaryref_treeOf 87).bare) := by kernel_rfl
theorem hIsDoc : compF Tryd.prog noG 42 = some (60, [(none, 2)], (c_topiaryref_IsDoc 87 35 36).bare) := by kernel_rfl
theorem hTreeAt : compF Tryd.prog noG 40 = some (23, [((some (some 4)), 4), (none, 5)], (c_topiaryref_TreeAt 42 87).bare) := by kernel_rfl
theorem hWithin : compF Tryd.prog noG 89 = some (18, [(none, 6)], c_topiaryref_within.bare) := by kernel_rfl
theorem hIsIn : compF Tryd.prog noG 46 = some (30, [(none, 6)], (c_topiaryref_IsIn 42 89).bare) := by kernel_rfl
theorem hEndOf : compF Tryd.prog noG 44 = some (21, [(none, 4)], (c_topiaryref_EndOf 46).bare) := by kernel_rfl
theorem hStringOf : compF Tryd.prog noG 48 = some (30, [(none, 4)], (c_topiaryref_StringOf 46).bare) := by kernel_rfl
theorem hCopyDoc : compF Tryd.prog noG 38 = some (29, [((some (some 1)), 2)], c_topiaryref_CopyDoc.bare) := by kernel_rfl
theorem hDocTells : compF Tryd.prog noG 5 = some (78, [(none, 6)], (c_topiarylaw_DocTells 38 39 40 32 41 42 43 44 45 46 47 48 36 37).bare) := by kernel_rfl
theorem dTreeOf (d : Doc) (h : wtN d ≤ B) (n : Nat) (hn : n < d.length) : PureC Tryd.prog noG 87 [Doc.av d, .int .i64 (n : Int)] (treeN d n).av := wTreeOf hTreeOf d h d.length n (by omega) hn
theorem dIsDoc (d : Doc) (h : 2 * wtN d ≤ B) : PureC Tryd.prog noG 42 [Doc.av d] (.bool (isDoc d)) :=
  pIsDoc hIsDoc d h (fun h0 => dTreeOf d (by omega) 0 h0) dMakeDoc (fun e he => dSameDoc e d he)
theorem dTreeAt (d : Doc) (h : 2 * wtN d ≤ B) (n : Int) : PureC Tryd.prog noG 40 [Doc.av d, .int .i64 n] (.tup [(treeD d n).1.av, .int .i64 (treeD d n).2]) :=
  pTreeAt hTreeAt d n (dIsDoc d h) (fun k hk => dTreeOf d (by omega) k hk)
theorem dIsIn (d : Doc) (h : 2 * wtN d ≤ B) (n m : Int) : PureC Tryd.prog noG 46 [Doc.av d, .int .i64 n, .int .i64 m] (.bool (inD d n m)) :=
  pIsIn hIsIn d n m (dIsDoc d h) fun hi h0 h1 h2 => by
    obtain ⟨k, rfl⟩ := Int.eq_ofNat_of_zero_le h0
    exact pWithin hWithin d hi k (by omega) m h2
theorem dEndOf (d : Doc) (h : 2 * wtN d ≤ B) (n : Int) : PureC Tryd.prog noG 44 [Doc.av d, .int .i64 n] (.int .i64 (endD d n)) := pEndOf hEndOf d (by omega) n fun k => dIsIn d h k n
theorem dStringOf (d : Doc) (h : 2 * wtN d ≤ B) (n : Int) : PureC Tryd.prog noG 48 [Doc.av d, .int .i64 n] (.str (strD d n)) := pStringOf hStringOf d (by omega) n fun k => dIsIn d h k n
theorem dDocTells (d : Doc) (h : 2 * wtN d + 2 ≤ B) (n m : Int) : PureC Tryd.prog noG 5 [Doc.av d, .int .i64 n, .int .i64 m] (.bool true) :=
  pDocTells hDocTells d n m (pCopyDoc hCopyDoc d (by omega)) (dDocTree d (by omega) n) (dTreeAt d (by omega) n) (dSameTree _ _ (by have := treeD_wt (d := d) n; omega)) (dDocGood d (by omega)) (dIsDoc d (by omega))
    (dDocEnd d (by omega) n) (dEndOf d (by omega) n) (dDocIn d (by omega) n m) (dIsIn d (by omega) n m) (dDocString d (by omega) n) (dStringOf d (by omega) n) (dSameDoc d d (by omega)) dDocs
end Go.Proofs.YtfinkeaikbmpgaaDoor
