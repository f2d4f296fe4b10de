import Derived.Test.YtfinkeaikbmpgaaDoorE0
import Derived.Test.YtfinkeaikbmpgaaDoorKT31
set_option linter.unusedSimpArgs false
set_option linter.unusedVariables false
set_option linter.unnecessarySimpa false
set_option linter.defProp false
/- Functions of this seat, read: trees, documents. -/
namespace Go.Proofs.YtfinkeaikbmpgaaDoor
open Go Go.Am Go.ChangeShapes
theorem hCopyTrees : compF Tryd.prog noG 29 = some (19, [(none, 2)], (cCopyTrees 17).bare) := by kernel_rfl
theorem hCopyTree : compF Tryd.prog noG 17 = some (12, [((some (some 4)), 2)], (cCopyTree 29).bare) := by kernel_rfl
theorem hSameAttrs : compF Tryd.prog noG 82 = some (26, [(none, 4)], cSameAttrs.bare) := by kernel_rfl
theorem hSameTree : compF Tryd.prog noG 32 = some (31, [(none, 4)], (cSameTree 82 60).bare) := by kernel_rfl
theorem hSameTrees : compF Tryd.prog noG 60 = some (27, [(none, 4)], (cSameTrees 32).bare) := by kernel_rfl
theorem hPlain : compF Tryd.prog noG 22 = some (29, [(none, 2)], cPlain.bare) := by kernel_rfl
theorem hNamed : compF Tryd.prog noG 20 = some (28, [(none, 2)], cNamed.bare) := by kernel_rfl
theorem hGoodAttrs : compF Tryd.prog noG 24 = some (41, [(none, 2)], (cGoodAttrs 20 22).bare) := by kernel_rfl
theorem hSize : compF Tryd.prog noG 18 = some (32, [(none, 2), (none, 3)], (cSize 18).bare) := by kernel_rfl
theorem hFine : compF Tryd.prog noG 79 = some (38, [(none, 2)], (cFine 22 20 24 81).bare) := by kernel_rfl
theorem hFines : compF Tryd.prog noG 81 = some (32, [(none, 2)], (cFines 79).bare) := by kernel_rfl
theorem hGood : compF Tryd.prog noG 26 = some (25, [(none, 2)], (cGood 18 79).bare) := by kernel_rfl
theorem hJoined : compF Tryd.prog noG 83 = some (59, [(none, 2)], (c_tree_Joined 83).bare) := by kernel_rfl
theorem hTrees : compF Tryd.prog noG 33 = some (27, [(none, 0)], (c_topiarylaw_trees 83 26).bare) := by kernel_rfl
theorem hContent : compF Tryd.prog noG 28 = some (31, [(none, 2)], (c_tree_Content 18 81).bare) := by kernel_rfl
theorem hTrim : compF Tryd.prog noG 77 = some (43, [(none, 4)], (c_strings_Trim 114 113 115 117 116 119 118).bare) := by kernel_rfl
theorem hMakeSet : compF Tryd.prog noG 115 = some (21, [((some (some 256)), 2), (none, 3)], c_strings_makeASCIISet.bare) := by kernel_rfl
theorem hHas : compF Tryd.prog noG 149 = some (10, [(none, 4)], c_strings_asciiSet_contains.bare) := by kernel_rfl
theorem hTrimL : compF Tryd.prog noG 116 = some (16, [(none, 4)], (c_strings_trimLeftASCII 149).bare) := by kernel_rfl
theorem hTrimR : compF Tryd.prog noG 117 = some (22, [(none, 4)], (c_strings_trimRightASCII 149).bare) := by kernel_rfl
theorem hIsName : compF Tryd.prog noG 21 = some (15, [(none, 2)], (c_topiaryref_IsName 77).bare) := by kernel_rfl
theorem hPrinted : compF Tryd.prog noG 78 = some (13, [(none, 2)], c_topiaryref_printed.bare) := by kernel_rfl
theorem hIsPlain : compF Tryd.prog noG 23 = some (19, [(none, 2)], (c_topiaryref_IsPlain 78).bare) := by kernel_rfl
theorem hIsAttrs : compF Tryd.prog noG 25 = some (34, [(none, 2)], (c_topiaryref_IsAttrs 21 23).bare) := by kernel_rfl
theorem hRight : compF Tryd.prog noG 80 = some (64, [(none, 2)], (c_topiaryref_right 23 21 25 80).bare) := by kernel_rfl
theorem hSizeOf : compF Tryd.prog noG 19 = some (35, [(none, 2), (none, 3)], c_topiaryref_SizeOf.bare) := by kernel_rfl
theorem hIsTree : compF Tryd.prog noG 27 = some (26, [(none, 2)], (c_topiaryref_IsTree 19 80).bare) := by kernel_rfl
theorem hIsContent : compF Tryd.prog noG 30 = some (31, [(none, 2)], (c_topiaryref_IsContent 19 80).bare) := by kernel_rfl
theorem hSame : compF Tryd.prog noG 31 = some (74, [(none, 4)], (c_tree_Same 31).bare) := by kernel_rfl
theorem hTreeTells : compF Tryd.prog noG 3 = some (86, [(none, 6)], (c_topiarylaw_TreeTells 17 18 19 20 21 22 23 24 25 26 27 29 28 30 31 32 33).bare) := by kernel_rfl
theorem hMake : compF Tryd.prog noG 34 = some (12, [((some (some 1)), 2), (none, 3)], (c_doc_Make 26 84).bare) := by kernel_rfl
theorem hPut : compF Tryd.prog noG 84 = some (58, [(none, 6)], (c_doc_put 120 84).bare) := by kernel_rfl
theorem hCloneA : compF Tryd.prog noG 120 = some (8, [(none, 2)], c_slices_Clone_Attr_Attr.bare) := by kernel_rfl
theorem hMakeDoc : compF Tryd.prog noG 35 = some (84, [((some (some 1)), 2), (none, 3)], (c_topiaryref_MakeDoc 27).bare) := by kernel_rfl
theorem hSameDoc : compF Tryd.prog noG 36 = some (67, [(none, 4)], (c_topiaryref_SameDoc 82 85).bare) := by kernel_rfl
theorem hSameNumbers : compF Tryd.prog noG 85 = some (26, [(none, 4)], c_topiaryref_SameNumbers.bare) := by kernel_rfl
theorem hDocMakes : compF Tryd.prog noG 4 = some (36, [(none, 2)], (c_topiarylaw_DocMakes 17 34 35 36 32 37).bare) := by kernel_rfl
theorem hDocs : compF Tryd.prog noG 37 = some (35, [(none, 0)], (c_topiarylaw_docs 34 43 47 45).bare) := by kernel_rfl
theorem hWalk : compF Tryd.prog noG 88 = some (64, [(none, 10)], (c_doc_walk 88).bare) := by kernel_rfl
theorem hAt : compF Tryd.prog noG 86 = some (39, [((some (some 4)), 4)], (c_doc_at 120 86).bare) := by kernel_rfl
theorem hDocGood : compF Tryd.prog noG 41 = some (27, [(none, 2)], (c_doc_Good 88 86 26).bare) := by kernel_rfl
theorem hDocTree : compF Tryd.prog noG 39 = some (23, [((some (some 4)), 4), (none, 5)], (c_doc_Tree 41 86).bare) := by kernel_rfl
theorem hDocEnd : compF Tryd.prog noG 43 = some (45, [(none, 4)], (c_doc_End 41).bare) := by kernel_rfl
theorem hDocIn : compF Tryd.prog noG 45 = some (21, [(none, 6)], (c_doc_In 43).bare) := by kernel_rfl
theorem hDocString : compF Tryd.prog noG 47 = some (31, [(none, 4)], (c_doc_String 43).bare) := by kernel_rfl
section
variable {l : List Tree} {x y : Tree}
theorem dCopyTrees (h : wtT l ≤ B) : PureC Tryd.prog noG 29 [.list (ivT l)] (.list (ivT l)) := wCopy hCopyTree hCopyTrees _ l (Nat.le_refl _) h
theorem dCopyTree (h : x.wt ≤ B) : PureC Tryd.prog noG 17 [x.av] x.av := pCopyTree hCopyTree x h (dCopyTrees (by have := wt_kids x; omega))
theorem dSameAttrs (a b : List Attr) (h : a.length ≤ B) : PureC Tryd.prog noG 82 [.list (ivA a), .list (ivA b)] (.bool (eqB a b)) := pSameAttrs hSameAttrs a b h
theorem dSameTrees (xs ys : List Tree) (h : wtT xs ≤ B) : PureC Tryd.prog noG 60 [.list (ivT xs), .list (ivT ys)] (.bool (eqB xs ys)) := wSame hSameAttrs hSameTree hSameTrees _ xs ys (Nat.le_refl _) h
theorem dSameTree (x y : Tree) (h : x.wt ≤ B) : PureC Tryd.prog noG 32 [x.av, y.av] (.bool (eqB x y)) :=
  pSameTree hSameTree x y (dSameAttrs _ _ (by have := wt_attrs x; have := wtA_len x.attrs; omega)) (dSameTrees _ _ (by have := wt_kids x; omega))
theorem dSize (x : Tree) (h : x.wt ≤ B) : PureC Tryd.prog noG 18 [x.av] (.tup [.int .i64 x.dep, .int .i64 x.cnt]) := wSize hSize x h
theorem dFines (l : List Tree) (h : wtT l ≤ B) : PureC Tryd.prog noG 81 [.list (ivT l)] (.bool (fines none l)) := wFines hPlain hNamed hGoodAttrs hFine hFines l h
theorem dGood (x : Tree) (h : x.wt ≤ B) : PureC Tryd.prog noG 26 [x.av] (.bool x.good) := pGood hGood x (dSize x h) (wFine hPlain hNamed hGoodAttrs hFine hFines x h)
theorem dContent (l : List Tree) (h : wtT l ≤ B) : PureC Tryd.prog noG 28 [.list (ivT l)] (.bool (content l)) :=
  pContent hContent l h (fun x hx => dSize x (by have := wt_mem hx; omega)) (dFines l h)
theorem dTrees : PureC Tryd.prog noG 33 [] (.bool true) := pTrees hTrees (fun l h => wJoined hJoined l h) dGood
theorem dTrim (s : Bs) (h : s.length ≤ B) : PureC Tryd.prog noG 77 [.str s, .str lettersB] (.str (trimL (memB lettersB) (trimR (memB lettersB) s))) :=
  pTrim hTrim s lettersB h (by decide) (pMakeSet hMakeSet lettersB (by decide) (by decide)) (pTrimRight hTrimR _ s h (pContains hHas _))
    (pTrimLeft hTrimL _ _ (by have := trim_le (memB lettersB) s; omega) (pContains hHas _))
theorem dIsName (s : Bs) (h : s.length ≤ B) : PureC Tryd.prog noG 21 [.str s] (.bool (named s)) := pIsName hIsName s (dTrim s h)
theorem dIsPlain (s : Bs) (h : s.length ≤ B) : PureC Tryd.prog noG 23 [.str s] (.bool (plain s)) := pIsPlain hIsPlain s h (pPrinted hPrinted)
theorem attr_wt {l : List Attr} {a : Attr} (h : a ∈ l) : a.name.length ≤ wtA l ∧ a.val.length ≤ wtA l := by
  induction l with
  | nil => cases h
  | cons b r ih =>
    simp only [wtA]
    rcases List.mem_cons.1 h with rfl | h
    · simp only [Attr.wt]; omega
    · have := ih h; omega
theorem dIsAttrs (l : List Attr) (h : wtA l ≤ B) : PureC Tryd.prog noG 25 [.list (ivA l)] (.bool (goodAttrs l)) :=
  pIsAttrs hIsAttrs l (by have := wtA_len l; omega) (fun a ha => dIsName _ (by have := attr_wt ha; omega)) (fun a ha => dIsPlain _ (by have := attr_wt ha; omega))
theorem str_wt (x : Tree) : x.s.length ≤ x.wt := by have := x.wt_eq; omega
theorem dRight : ∀ l : List Tree, wtT l ≤ B → PureC Tryd.prog noG 80 [.list (ivT l)] (.bool (fines none l)) :=
  byWt (M := fun l => wtT l ≤ B → PureC Tryd.prog noG 80 [.list (ivT l)] (.bool (fines none l))) fun l ih h =>
    pRight hRight l h (fun x hx => dIsPlain _ (by have := wt_mem hx; have := str_wt x; omega)) (fun x hx => dIsName _ (by have := wt_mem hx; have := str_wt x; omega))
      (fun x hx => dIsAttrs _ (by have := wt_mem hx; have := wt_attrs x; omega)) (fun x hx => ih x hx (by have := wt_mem hx; have := wt_kids x; omega))
theorem dSizeOf (x : Tree) (h : x.wt ≤ B) : PureC Tryd.prog noG 19 [x.av] (.tup [.int .i64 x.dep, .int .i64 x.cnt]) := pSizeOf hSizeOf x h
theorem dIsTree (x : Tree) (h : x.wt ≤ B) : PureC Tryd.prog noG 27 [x.av] (.bool x.good) := pIsTree hIsTree x (dSizeOf x h) (dRight _ (by simp only [wtT]; omega))
theorem dIsContent (l : List Tree) (h : wtT l ≤ B) : PureC Tryd.prog noG 30 [.list (ivT l)] (.bool (content l)) :=
  pIsContent hIsContent l h (fun x hx => dSizeOf x (by have := wt_mem hx; omega)) (dRight l h)
theorem dTreeTells (x y : Tree) (l : List Tree) (hx : x.wt ≤ B) (hl : wtT l ≤ B) : PureC Tryd.prog noG 3 [x.av, y.av, .list (ivT l)] (.bool true) :=
  have hs := str_wt x
  have ha := wt_attrs x
  have hn := wtA_len x.attrs
  pTreeTells hTreeTells x y l (dCopyTree hx) (dSize x hx) (dSizeOf x hx) (pNamed hNamed _ (by omega)) (dIsName _ (by omega)) (pPlain hPlain _ (by omega)) (dIsPlain _ (by omega))
    (pGoodAttrs hGoodAttrs x.attrs (by omega) (fun a hm => pNamed hNamed _ (by have := attr_wt hm; omega)) (fun a hm => pPlain hPlain _ (by have := attr_wt hm; omega))) (dIsAttrs _ (by omega))
    (dGood x hx) (dIsTree x hx) (dCopyTrees hl) (dContent l hl) (dIsContent l hl) (wTreeSame hSame x y hx) (dSameTree x y hx) dTrees
end
theorem dClone (xs : List Attr) (h : xs.length ≤ B) : PureC Tryd.prog noG 120 [.list (ivA xs)] (.list (ivA xs)) := pCloneA hCloneA xs h
theorem dMake (x : Tree) (h : x.wt ≤ B) : PureC Tryd.prog noG 34 [x.av] (.tup [Doc.av (makeD x).1, .int .i64 (makeD x).2]) :=
  pMake hMake x h (dGood x h) (wPut hPut dClone x [] (-1) (by simpa using h))
theorem dAt (d : Doc) (h : wtN d ≤ B) (n : Nat) (q : Int) (x : Tree) (hL : Lies d n q x) : PureC Tryd.prog noG 86 [Doc.av d, .int .i64 n] x.av := wAt hAt dClone d h n q x hL
theorem lies0 {d : Doc} {x : Tree} (h : d = docOf x) : Lies d 0 (-1) x := by subst h; exact docOf_lies x
theorem dDocGood (d : Doc) (h : wtN d ≤ B) : PureC Tryd.prog noG 41 [Doc.av d] (.bool (isDoc d)) :=
  pDocGood hDocGood d h (pWalk hWalk d (by have := wtN_len d; omega) (fun x hx => by have := wtN_mem hx; simp only [Node.wt] at this; omega) 8 0 (-1) 0 (by decide) (by decide) (by decide)) (fun x hx => dAt d h 0 (-1) x (lies0 hx)) (fun x hx => dGood x (by have := (lies0 hx).wt; omega))
theorem dDocTree (d : Doc) (h : wtN d ≤ B) (n : Int) : PureC Tryd.prog noG 39 [Doc.av d, .int .i64 n] (.tup [(treeD d n).1.av, .int .i64 (treeD d n).2]) := pDocTree hDocTree d h n (dDocGood d h) (dAt d h)
theorem dDocEnd (d : Doc) (h : wtN d ≤ B) (n : Int) : PureC Tryd.prog noG 43 [Doc.av d, .int .i64 n] (.int .i64 (endD d n)) := pDocEnd hDocEnd d h n (dDocGood d h)
theorem dDocIn (d : Doc) (h : wtN d ≤ B) (n m : Int) : PureC Tryd.prog noG 45 [Doc.av d, .int .i64 n, .int .i64 m] (.bool (inD d n m)) := pDocIn hDocIn d n m (dDocEnd d h)
theorem dDocString (d : Doc) (h : wtN d ≤ B) (n : Int) : PureC Tryd.prog noG 47 [Doc.av d, .int .i64 n] (.str (strD d n)) := pDocString hDocString d h n (dDocEnd d h n)
theorem dDocs : PureC Tryd.prog noG 37 [] (.bool true) :=
  have hw : wtN (docOf treeK) ≤ B := by decide
  pLawDocs hDocs (dMake treeK (by decide)) (dDocEnd _ hw 1) (dDocString _ hw 0) (dDocIn _ hw 2 1)
theorem wtN_docOf : ∀ x : Tree, wtN (docOf x) ≤ 2 * x.wt := fun x => wt_docOf x
theorem dMakeDoc (x : Tree) (h : x.wt ≤ B) : PureC Tryd.prog noG 35 [x.av] (.tup [Doc.av (makeD x).1, .int .i64 (makeD x).2]) := pMakeDoc hMakeDoc x h (dIsTree x h)
theorem node_wt {d : List Am.Node} {x : Am.Node} (h : x ∈ d) : wtA x.attrs ≤ wtN d ∧ x.kids.length ≤ wtN d ∧ x.s.length ≤ wtN d := by
  have := wtN_mem h
  simp only [Am.Node.wt] at this
  omega
theorem dSameDoc (d e : Doc) (h : wtN d ≤ B) : PureC Tryd.prog noG 36 [Doc.av d, Doc.av e] (.bool (eqB d e)) :=
  pSameDoc hSameDoc d e h (fun x hx y _ => dSameAttrs _ _ (by have := (node_wt hx).1; have := wtA_len x.attrs; omega)) (fun x hx y _ => pSameNumbers hSameNumbers _ _ (by have := (node_wt hx).2; omega))
theorem dDocMakes (x : Tree) (h : 2 * x.wt ≤ B) : PureC Tryd.prog noG 4 [x.av] (.bool true) :=
  pDocMakes hDocMakes x (dCopyTree (by omega)) (dMake x (by omega)) (dMakeDoc x (by omega)) (dSameDoc _ _ (by
    unfold makeD
    split
    · have := wtN_docOf x; simp only; omega
    · simp [wtN])) (dSameTree x x (by omega)) dDocs
end Go.Proofs.YtfinkeaikbmpgaaDoor
