import Derived.Test.YtfinkeaikbmpgaaDoorE0
import Derived.Test.YtfinkeaikbmpgaaDoorKT70
set_option linter.unusedSimpArgs false
set_option linter.unusedVariables false
set_option linter.unnecessarySimpa false
set_option linter.defProp false
/- Functions of this seat, read with the table of entities known: mark. -/
namespace Go.Proofs.YtfinkeaikbmpgaaDoor
open Go Go.Am Go.ChangeShapes
/-- The package variables that are known: number 0, the entities. -/
def gE : Nat → Option (List IV) := fun g => if g = 0 then some [.str [38, 108, 116, 59], .str [38, 103, 116, 59], .str [38, 97, 109, 112, 59], .str [38, 113, 117, 111, 116, 59]] else none
theorem hMkPrint : compF Tryd.prog gE 49 = some (15, [(none, 2), (none, 3)], (c_mark_Print 26 90).bare) := by kernel_rfl
theorem hMkPut : compF Tryd.prog gE 90 = some (69, [(none, 4)], (c_mark_put 121 90).bare) := by kernel_rfl
theorem hEscape : compF Tryd.prog gE 121 = some (46, [(none, 6)], c_mark_escape.bare) := by kernel_rfl
theorem hMkParse : compF Tryd.prog gE 51 = some (33, [((some (some 4)), 2), (none, 3)], (c_mark_Parse 91 26).bare) := by kernel_rfl
theorem hMkContent : compF Tryd.prog gE 53 = some (31, [(none, 2), (none, 3)], (c_mark_Content 92 28).bare) := by kernel_rfl
theorem hRElem : compF Tryd.prog gE 91 = some (51, [((some (some 4)), 4)], (c_mark_reader_element 122 123 124 125 92 126).bare) := by kernel_rfl
theorem hRKids : compF Tryd.prog gE 92 = some (45, [(none, 4)], (c_mark_reader_kids 127 91 94).bare) := by kernel_rfl
theorem hRAttrs : compF Tryd.prog gE 124 = some (54, [(none, 2)], (c_mark_reader_attrs 126 123 122 94 153 154).bare) := by kernel_rfl
theorem hRName : compF Tryd.prog gE 123 = some (63, [(none, 2)], c_mark_reader_name.bare) := by kernel_rfl
theorem hRSpace : compF Tryd.prog gE 126 = some (24, [(none, 2)], (c_mark_reader_space 156).bare) := by kernel_rfl
theorem hRTake : compF Tryd.prog gE 122 = some (11, [], (c_mark_reader_take 125).bare) := by kernel_rfl
theorem hRAt : compF Tryd.prog gE 125 = some (22, [(none, 4)], (c_mark_reader_at 105).bare) := by kernel_rfl
theorem hRText : compF Tryd.prog gE 94 = some (86, [(none, 4)], (c_mark_reader_text 125 132).bare) := by kernel_rfl
theorem hCmpA : compF Tryd.prog gE 154 = some (10, [(none, 4)], (c_mark_reader_attrs_1 155).bare) := by kernel_rfl
theorem hIdxEnt : compF Tryd.prog gE 132 = some (19, [(none, 4)], c_slices_IndexFunc_string_string.bare) := by kernel_rfl
theorem hTrimLeft : compF Tryd.prog gE 156 = some (37, [(none, 4)], (c_strings_TrimLeft 113 115 116 118).bare) := by kernel_rfl
theorem hSortS : compF Tryd.prog gE 153 = some (9, [], (c_slices_SortStableFunc_Attr_Attr 180).bare) := by kernel_rfl
theorem hStable : compF Tryd.prog gE 180 = some (63, [], (c_slices_stableCmpFunc_Attr 205 206).bare) := by kernel_rfl
theorem hInsert : compF Tryd.prog gE 205 = some (53, [], c_slices_insertionSortCmpFunc_Attr.bare) := by kernel_rfl
theorem hSymM : compF Tryd.prog gE 206 = some (220, [], (c_slices_symMergeCmpFunc_Attr 223 206).bare) := by kernel_rfl
theorem hRotate : compF Tryd.prog gE 223 = some (58, [], (c_slices_rotateCmpFunc_Attr 230).bare) := by kernel_rfl
theorem hSwapR : compF Tryd.prog gE 230 = some (38, [], c_slices_swapRangeCmpFunc_Attr.bare) := by kernel_rfl
theorem hCompare : compF Tryd.prog gE 155 = some (8, [(none, 4)], (c_strings_Compare 181).bare) := by kernel_rfl
theorem hCmpString : compF Tryd.prog gE 181 = some (8, [(none, 4)], (c_internal_bytealg_CompareString 207).bare) := by kernel_rfl
theorem hMarkBack : compF Tryd.prog gE 6 = some (42, [(none, 2)], (c_topiarykeep_MarkBack 49 50 26 51 52).bare) := by kernel_rfl
theorem hMarkOnce : compF Tryd.prog gE 7 = some (51, [(none, 2)], (c_topiarykeep_MarkOnce 51 50 52 49 26).bare) := by kernel_rfl
theorem hMarkContent : compF Tryd.prog gE 8 = some (59, [(none, 2)], (c_topiarykeep_MarkContent 49 50 53 54).bare) := by kernel_rfl
theorem hMarks : compF Tryd.prog gE 50 = some (24, [(none, 0)], (c_topiarykeep_marks 51 49).bare) := by kernel_rfl
theorem hKeepSame : compF Tryd.prog gE 52 = some (50, [(none, 4)], (c_topiarykeep_same 54).bare) := by kernel_rfl
theorem hKeepSames : compF Tryd.prog gE 54 = some (27, [(none, 4)], (cSameTrees 52).bare) := by kernel_rfl
theorem hMMakeSet : compF Tryd.prog gE 115 = some (21, [((some (some 256)), 2), (none, 3)], c_strings_makeASCIISet.bare) := by kernel_rfl
theorem hMHas : compF Tryd.prog gE 149 = some (10, [(none, 4)], c_strings_asciiSet_contains.bare) := by kernel_rfl
theorem hMTrimL : compF Tryd.prog gE 116 = some (16, [(none, 4)], (c_strings_trimLeftASCII 149).bare) := by kernel_rfl
theorem hMHasPrefix : compF Tryd.prog gE 157 = some (18, [(none, 4)], c_internal_stringslite_HasPrefix.bare) := by kernel_rfl
theorem hHasPrefixS : compF Tryd.prog gE 127 = some (8, [(none, 4)], (c_strings_HasPrefix 157).bare) := by kernel_rfl
theorem hMSlCutPrefix : compF Tryd.prog gE 142 = some (15, [(none, 4), (none, 5)], (c_internal_stringslite_CutPrefix 157).bare) := by kernel_rfl
theorem hMCutPrefix : compF Tryd.prog gE 105 = some (11, [(none, 4), (none, 5)], (c_strings_CutPrefix 142).bare) := by kernel_rfl
theorem hMPlain : compF Tryd.prog gE 22 = some (29, [(none, 2)], cPlain.bare) := by kernel_rfl
theorem hMNamed : compF Tryd.prog gE 20 = some (28, [(none, 2)], cNamed.bare) := by kernel_rfl
theorem hMGoodAttrs : compF Tryd.prog gE 24 = some (41, [(none, 2)], (cGoodAttrs 20 22).bare) := by kernel_rfl
theorem hMSize : compF Tryd.prog gE 18 = some (32, [(none, 2), (none, 3)], (cSize 18).bare) := by kernel_rfl
theorem hMFine : compF Tryd.prog gE 79 = some (38, [(none, 2)], (cFine 22 20 24 81).bare) := by kernel_rfl
theorem hMFines : compF Tryd.prog gE 81 = some (32, [(none, 2)], (cFines 79).bare) := by kernel_rfl
theorem hMGood : compF Tryd.prog gE 26 = some (25, [(none, 2)], (cGood 18 79).bare) := by kernel_rfl
theorem hMContent : compF Tryd.prog gE 28 = some (31, [(none, 2)], (c_tree_Content 18 81).bare) := by kernel_rfl
theorem eCmp (N : Nat) (s t : Bs) (H : Hp) : ExtC ⟨Tryd.prog, gE, N⟩ 207 [.str s, .str t] H (.int .i64 (Lib.compareBytes s t)) :=
  ext_compare (fn := (Tryd.prog.funcs[207]?).getD default) (by kernel_rfl) (by kernel_rfl) (by kernel_rfl) (by kernel_rfl) (by kernel_rfl) s t H
theorem eHasPrefix (s t : Bs) : PureC Tryd.prog gE 157 [.str s, .str t] (.bool (t.isPrefixOf s)) := pHasPrefix hMHasPrefix s t
theorem eCutPrefix (s t : Bs) : PureC Tryd.prog gE 105 [.str s, .str t] (.tup [.str (if t.isPrefixOf s then s.drop t.length else s), .bool (t.isPrefixOf s)]) :=
  pCutPrefix hMCutPrefix s t (pSlCutPrefix hMSlCutPrefix s t (eHasPrefix s t))
theorem eAt (s p : Bs) (b : Bool) : MutC Tryd.prog gE 125 [.ptr (.par 0) 2 0 0, .str p] (rdC s b) fun x cs => x = .bool (p.isPrefixOf s) ∧ cs = rdC (cutP1 p s) b := pRAt hRAt eCutPrefix s p b
theorem eTake (s p : Bs) (b : Bool) : MutC Tryd.prog gE 122 [.ptr (.par 0) 2 0 0, .str p] (rdC s b) fun x cs => cs = rdC (cutP1 p s) (b || !p.isPrefixOf s) := pRTake hRTake s p b (eAt s p b)
theorem eTrim (s : Bs) (h : s.length ≤ B) : PureC Tryd.prog gE 156 [.str s, .str [32, 10]] (.str (s.dropWhile isSp)) := by
  have := pTrimL hTrimLeft s [32, 10] h (by decide) (pMakeSet hMMakeSet [32, 10] (by decide) (by decide)) (pTrimLeft hMTrimL _ _ h (pContains hMHas _))
  rw [trim_sp] at this
  exact this
theorem eSpace (s : Bs) (b : Bool) (h : s.length ≤ B) : MutC Tryd.prog gE 126 [.ptr (.par 0) 2 0 0] (rdC s b) fun x cs => x = .bool (decide ((s.dropWhile isSp).length < s.length)) ∧ cs = rdC (s.dropWhile isSp) b := pRSpace hRSpace s b (eTrim s h)
theorem eName (s : Bs) (b : Bool) (h : s.length ≤ B) : MutC Tryd.prog gE 123 [.ptr (.par 0) 2 0 0] (rdC s b) fun x cs => x = .str (s.takeWhile isLow) ∧ cs = rdC (s.dropWhile isLow) (b || (decide (s.takeWhile isLow = []) || decide (8 < (s.takeWhile isLow).length))) := pRName hRName s h b
theorem eText (v : Bool) (s : Bs) (b : Bool) (h : s.length ≤ B) : MutC Tryd.prog gE 94 [.ptr (.par 0) 2 0 0, .bool v] (rdC s b) (TextR v s b) := pRText hRText (fun s b => pIdxEnt hIdxEnt (by kernel_rfl) eAt s b) v s h b
theorem eCmpA (a b : Attr) : PureC Tryd.prog gE 154 [a.avA, b.avA] (.int .i64 (cmpA a b)) := pCmpA hCmpA a b (pCompare hCompare _ _ (pCmpString hCmpString eCmp _ _))
theorem eGoCmp : goBody Tryd.prog 154 = true := by kernel_rfl
theorem eSwap (l : List Attr) (hl : l.length ≤ B) (a b n : Nat) (ha : a + n ≤ l.length) (hb : b + n ≤ l.length) :
    RowC Tryd.prog gE 230 [.sl (.par 0) 2 0 l.length, .int .i64 a, .int .i64 b, .int .i64 n, .fn 154 [] []] 2 (ivA l) (PermR l) := pSwapRange (.fn 154 [] []) rfl hSwapR l hl a b n ha hb
theorem eRotate (l : List Attr) (hl : l.length ≤ B) (a m b : Nat) (ha : a < m) (hm : m < b) (hb : b ≤ l.length) :
    RowC Tryd.prog gE 223 [.sl (.par 0) 2 0 l.length, .int .i64 a, .int .i64 m, .int .i64 b, .fn 154 [] []] 2 (ivA l) (PermR l) := pRotate 154 hRotate eSwap l hl a m b ha hm hb
theorem eSym (l : List Attr) (hl : l.length ≤ B) (a m b : Nat) (ha : a < m) (hm : m < b) (hb : b ≤ l.length) :
    RowC Tryd.prog gE 206 [.sl (.par 0) 2 0 l.length, .int .i64 a, .int .i64 m, .int .i64 b, .fn 154 [] []] 2 (ivA l) (PermR l) := pSymMerge hSymM eGoCmp eCmpA eRotate (b - a) l hl a m b ha hm hb (Nat.le_refl _)
theorem eSort (l : List Attr) (hl : l.length ≤ B) : RowC Tryd.prog gE 153 [.sl (.par 0) 2 0 l.length, .fn 154 [] []] 2 (ivA l) fun x ys => ∃ zs : List Attr, ys = ivA zs ∧ zs.Perm l ∧ (l.length ≤ 20 → zs = sortA l) :=
  pSortStable hSortS l (pStable hStable (fun l hl a b h1 h2 => pInsert hInsert eGoCmp eCmpA l hl a b h1 h2) eSym l hl)
theorem eAttrs (s : Bs) (b : Bool) (h : s.length ≤ B) : MutC Tryd.prog gE 124 [.ptr (.par 0) 2 0 0] (rdC s b) (AttrsR s b) := pRAttrs hRAttrs eSpace eName eTake eText eSort s h b
theorem eElemKids : ∀ d : Nat, d ≤ 9 → (∀ (s : Bs) (b : Bool), s.length ≤ B → MutC Tryd.prog gE 91 [.ptr (.par 0) 2 0 0, .int .i64 (9 - d : Int)] (rdC s b) (ElmR d s b)) ∧
    (∀ (s : Bs) (b : Bool), s.length ≤ B → MutC Tryd.prog gE 92 [.ptr (.par 0) 2 0 0, .int .i64 (9 - d : Int)] (rdC s b) (KidsR d s b)) := by
  have kids : ∀ d : Nat, (∀ (s : Bs) (b : Bool), s.length ≤ B → MutC Tryd.prog gE 91 [.ptr (.par 0) 2 0 0, .int .i64 (9 - d : Int)] (rdC s b) (ElmR d s b)) →
      (∀ (s : Bs) (b : Bool), s.length ≤ B → MutC Tryd.prog gE 92 [.ptr (.par 0) 2 0 0, .int .i64 (9 - d : Int)] (rdC s b) (KidsR d s b)) :=
    fun d e s b h => pRKids hRKids (fun s t => pHasPrefixS hHasPrefixS s t (eHasPrefix s t)) eText d e s h b
  intro d
  induction d with
  | zero =>
    intro _
    have e := fun (s : Bs) (b : Bool) (h : s.length ≤ B) => pRElem hRElem eSpace eName eTake eAt eAttrs 0 (by decide) (fun d' h => by omega) s h b
    exact ⟨e, kids 0 e⟩
  | succ d ih =>
    intro hd
    have ih := (ih (by omega)).2
    have st : ∀ d', d + 1 = d' + 1 → ∀ (s : Bs) (b : Bool), s.length ≤ B → MutC Tryd.prog gE 92 [.ptr (.par 0) 2 0 0, .int .i64 (9 - d' : Int)] (rdC s b) (KidsR d' s b) := by
      intro d' hd'
      obtain rfl : d = d' := by omega
      exact ih
    have e := fun (s : Bs) (b : Bool) (h : s.length ≤ B) => pRElem hRElem eSpace eName eTake eAt eAttrs (d + 1) hd st s h b
    exact ⟨e, kids (d + 1) e⟩
theorem eElem (s : Bs) (h : s.length ≤ B) : MutC Tryd.prog gE 91 [.ptr (.par 0) 2 0 0, .int .i64 1] (rdC s false) (ElmR 8 s false) := (eElemKids 8 (by decide)).1 s false h
theorem eKids (s : Bs) (h : s.length ≤ B) : MutC Tryd.prog gE 92 [.ptr (.par 0) 2 0 0, .int .i64 1] (rdC s false) (KidsR 8 s false) := (eElemKids 8 (by decide)).2 s false h
theorem eSize (x : Tree) (h : x.wt ≤ B) : PureC Tryd.prog gE 18 [x.av] (.tup [.int .i64 x.dep, .int .i64 x.cnt]) := wSize hMSize x h
theorem eFines (l : List Tree) (h : wtT l ≤ B) : PureC Tryd.prog gE 81 [.list (ivT l)] (.bool (fines none l)) := wFines hMPlain hMNamed hMGoodAttrs hMFine hMFines l h
theorem eGood (x : Tree) (h : x.wt ≤ B) : PureC Tryd.prog gE 26 [x.av] (.bool x.good) := pGood hMGood x (eSize x h) (wFine hMPlain hMNamed hMGoodAttrs hMFine hMFines x h)
theorem eContent (l : List Tree) (h : wtT l ≤ B) : PureC Tryd.prog gE 28 [.list (ivT l)] (.bool (content l)) :=
  pContent hMContent l h (fun x hx => eSize x (by have := wt_mem hx; omega)) (eFines l h)
theorem eSames (xs ys : List Tree) (h : wtT xs ≤ B) : PureC Tryd.prog gE 54 [.list (ivT xs), .list (ivT ys)] (.bool (eqB xs ys)) := wKeepSames hKeepSame hKeepSames xs ys h
theorem eSame (x y : Tree) (h : x.wt ≤ B) : PureC Tryd.prog gE 52 [x.av, y.av] (.bool (eqB x y)) :=
  pKeepSame hKeepSame x y (by have := wt_attrs x; have := wtA_len x.attrs; omega) (eSames _ _ (by have := wt_kids x; omega))
theorem ePut (x : Tree) (h : 7 * x.wt ≤ 2 ^ 40) : PureC Tryd.prog gE 90 [.nil0, x.av] (.list (byIV x.sh)) := by
  have := pMkPut hMkPut (fun xs s v hb => pEscape hEscape xs s v hb) x.wt x [] (Nat.le_refl _) (by simpa using h)
  rw [List.nil_append] at this
  exact pure_of_grw this (by decide) (by simp [lbss, AV.lbs, Tree.av]) (byIV_flat _)
theorem ePrint (x : Tree) (h : x.wt ≤ B) : PureC Tryd.prog gE 49 [x.av] (.tup [.str (printF x).1, .int .i64 (printF x).2]) := pMkPrint hMkPrint x h (eGood x h) (ePut x (by unfold B at h; omega))
theorem eParse (s : Bs) (h : s.length ≤ B) : PureC Tryd.prog gE 51 [.str s] (.tup [(parseF s).1.av, .int .i64 (parseF s).2]) := pMkParse hMkParse s h eElem (fun x hx => eGood x (by unfold B; omega))
theorem eContF (s : Bs) (h : s.length ≤ B) : PureC Tryd.prog gE 53 [.str s] (.tup [.list (ivT (contF s).1), .int .i64 (contF s).2]) := pMkContent hMkContent s h eKids (fun l hl => eContent l (by unfold B; omega))
theorem eMarks : PureC Tryd.prog gE 50 [] (.bool true) := pMarks hMarks (eParse _ (by decide)) (ePrint _ (by decide))
theorem eMarkBack (x : Tree) (h : x.wt ≤ B) : PureC Tryd.prog gE 6 [x.av] (.bool true) := pMarkBack hMarkBack x (fun s hs => eParse s (by unfold B; omega)) (ePrint x h) eMarks (eGood x h) (eSame x x h)
theorem eMarkOnce (s : Bs) (h : 3 * s.length + 1 ≤ B) : PureC Tryd.prog gE 7 [.str s] (.bool true) :=
  pMarkOnce hMarkOnce s (by omega) eParse (fun x hx => ePrint x (by omega)) eMarks (fun x hx => eGood x (by omega)) (fun x hx => eSame x x (by omega))
theorem eMarkContent (l : List Tree) (h : wtT l + 2 ≤ B) : PureC Tryd.prog gE 8 [.list (ivT l)] (.bool true) :=
  pMarkContent hMarkContent l (ePrint _ (by simp [elA, Tree.wt, wtA]; omega)) eMarks (fun s hs => eContF s (by unfold B; omega)) (eSames l l (by omega))
end Go.Proofs.YtfinkeaikbmpgaaDoor
