import Derived.Test.YtfinkeaikbmpgaaDoorE1
import Derived.Test.YtfinkeaikbmpgaaDoorKT39
set_option linter.unusedSimpArgs false
set_option linter.unusedVariables false
set_option linter.unnecessarySimpa false
set_option linter.defProp false
/- Functions of this seat, read: paths. -/
namespace Go.Proofs.YtfinkeaikbmpgaaDoor
open Go Go.Am Go.ChangeShapes
def tysP : List TypeId := [23, 25, 22, 85, 4, 9, 3, 39, 37, 71, 67, 75, 66]
theorem okTsP : ∀ t ∈ tysP, okT Tryd.prog tysP t = true := by
  intro t ht
  simp only [tysP, List.mem_cons, List.not_mem_nil, or_false] at ht
  rcases ht with rfl | rfl | rfl | rfl | rfl | rfl | rfl | rfl | rfl | rfl | rfl | rfl | rfl <;> kernel_rfl
theorem hSlIndexByte : compF Tryd.prog noG 160 = some (8, [(none, 4)], (c_internal_stringslite_IndexByte 183).bare) := by kernel_rfl
theorem hSlIndex : compF Tryd.prog noG 161 = some (143, [(none, 4)], (c_internal_stringslite_Index 160 184 185 186).bare) := by kernel_rfl
theorem hIndex : compF Tryd.prog noG 134 = some (8, [(none, 4)], (c_strings_Index 161).bare) := by kernel_rfl
theorem hCount : compF Tryd.prog noG 169 = some (34, [(none, 4)], (c_strings_Count 195 196 134).bare) := by kernel_rfl
theorem hHasPrefix : compF Tryd.prog noG 157 = some (18, [(none, 4)], c_internal_stringslite_HasPrefix.bare) := by kernel_rfl
theorem hSlCutPrefix : compF Tryd.prog noG 142 = some (15, [(none, 4), (none, 5)], (c_internal_stringslite_CutPrefix 157).bare) := by kernel_rfl
theorem hCutPrefix : compF Tryd.prog noG 105 = some (11, [(none, 4), (none, 5)], (c_strings_CutPrefix 142).bare) := by kernel_rfl
theorem hHasSuffix : compF Tryd.prog noG 170 = some (21, [(none, 4)], c_internal_stringslite_HasSuffix.bare) := by kernel_rfl
theorem hSlCutSuffix : compF Tryd.prog noG 145 = some (18, [(none, 4), (none, 5)], (c_internal_stringslite_CutSuffix 170).bare) := by kernel_rfl
theorem hCutSuffix : compF Tryd.prog noG 108 = some (11, [(none, 4), (none, 5)], (c_strings_CutSuffix 145).bare) := by kernel_rfl
theorem hSlCut : compF Tryd.prog noG 144 = some (23, [(none, 4), (none, 5), (none, 6)], (c_internal_stringslite_Cut 161).bare) := by kernel_rfl
theorem hCut : compF Tryd.prog noG 107 = some (13, [(none, 4), (none, 5), (none, 6)], (c_strings_Cut 144).bare) := by kernel_rfl
theorem hGenSplit : compF Tryd.prog noG 143 = some (66, [(none, 8)], (c_strings_genSplit 168 169 134).bare) := by kernel_rfl
theorem hSplit : compF Tryd.prog noG 106 = some (8, [(none, 4)], (c_strings_Split 143).bare) := by kernel_rfl
theorem hFits : compF Tryd.prog noG 141 = some (29, [(none, 4)], c_path_fits.bare) := by kernel_rfl
theorem hChosen : compF Tryd.prog noG 104 = some (42, [(none, 6)], (c_path_chosen 141).bare) := by kernel_rfl
theorem hPathGood : compF Tryd.prog noG 103 = some (44, [(none, 2)], (c_path_Good 20).bare) := by kernel_rfl
theorem hSelect : compF Tryd.prog noG 70 = some (54, [(none, 4), (none, 5)], (c_path_Select 41 103 104).bare) := by kernel_rfl
theorem hSlAtoi : compF Tryd.prog noG 146 = some (77, [(none, 2), (none, 3)], (c_internal_strconv_Atoi 171).bare) := by kernel_rfl
theorem hAtoi : compF Tryd.prog noG 109 = some (18, [(none, 2), (none, 3)], (c_strconv_Atoi 146 147).bare) := by kernel_rfl
theorem hSmall : compF Tryd.prog noG 200 = some (15, [(none, 2)], c_internal_strconv_small.bare) := by kernel_rfl
theorem hFormatInt : compF Tryd.prog noG 176 = some (54, [(none, 4)], (c_internal_strconv_FormatInt 200 201 202 203).bare) := by kernel_rfl
theorem hSlItoa : compF Tryd.prog noG 148 = some (5, [(none, 2)], (c_internal_strconv_Itoa 176).bare) := by kernel_rfl
theorem hItoa : compF Tryd.prog noG 110 = some (5, [(none, 2)], (c_strconv_Itoa 148).bare) := by kernel_rfl
theorem hPick : compF Tryd.prog noG 72 = some (14, [(none, 4)], c_topiarykeep_pick.bare) := by kernel_rfl
theorem hParse : compF Tryd.prog noG 73 = some (88, [(none, 2), (none, 3)], (c_path_Parse 105 106 107 108 109 110 103).bare) := by kernel_rfl
theorem hPaths : compF Tryd.prog noG 71 = some (28, [(none, 0)], (c_topiarykeep_paths 73).bare) := by kernel_rfl
theorem xIndex (N : Nat) (s : Bs) (c : UInt8) (H : Hp) : ExtC ⟨Tryd.prog, noG, N⟩ 183 [.str s, .int .u8 (c.toNat : Int)] H (.int .i64 (Lib.indexByte s c)) :=
  ext_index (fn := (Tryd.prog.funcs[183]?).getD default) (by kernel_rfl) (by kernel_rfl) (by kernel_rfl) (by kernel_rfl) (by kernel_rfl) s c H
theorem xCount (N : Nat) (s : Bs) (c : UInt8) (H : Hp) : ExtC ⟨Tryd.prog, noG, N⟩ 196 [.str s, .int .u8 (c.toNat : Int)] H (.int .i64 ((s.count c : Nat) : Int)) :=
  ext_count (fn := (Tryd.prog.funcs[196]?).getD default) (by kernel_rfl) (by kernel_rfl) (by kernel_rfl) (by kernel_rfl) (by kernel_rfl) s c H
theorem dSlIndex (s : Bs) (c : UInt8) : PureC Tryd.prog noG 161 [.str s, .str [c]] (.int .i64 (Lib.indexByte s c)) := pSlIndex hSlIndex (pIndexByte hSlIndexByte xIndex) s c
theorem dIndex (s : Bs) (c : UInt8) : PureC Tryd.prog noG 134 [.str s, .str [c]] (.int .i64 (Lib.indexByte s c)) := pIndex hIndex s c (dSlIndex s c)
theorem dSplit (s : Bs) (c : UInt8) (h : s.length ≤ B) : PureC Tryd.prog noG 106 [.str s, .str [c]] (.list ((splitC c s).map IV.str)) :=
  pSplit hSplit s c (pGenSplit hGenSplit s c h (pCount hCount s c (fun N H => xCount N s c H)) (fun r => dIndex r c))
theorem dCutPrefix (s t : Bs) : PureC Tryd.prog noG 105 [.str s, .str t] (.tup [.str (if t.isPrefixOf s then s.drop t.length else s), .bool (t.isPrefixOf s)]) := pCutPrefix hCutPrefix s t (pSlCutPrefix hSlCutPrefix s t (pHasPrefix hHasPrefix s t))
theorem dCutSuffix (s t : Bs) (hs : s.length ≤ B) (ht : t.length ≤ B) : PureC Tryd.prog noG 108 [.str s, .str t] (.tup [.str (if t.isSuffixOf s then s.take (s.length - t.length) else s), .bool (t.isSuffixOf s)]) :=
  pCutSuffix hCutSuffix s t (pSlCutSuffix hSlCutSuffix s t hs ht (pHasSuffix hHasSuffix s t hs ht))
theorem dCut (s : Bs) (c : UInt8) (h : s.length ≤ B) : PureC Tryd.prog noG 107 [.str s, .str [c]] (.tup [.str (cutC c s).1, .str (cutC c s).2.1, .bool (cutC c s).2.2]) := pCut hCut s c (pSlCut hSlCut s c h (dSlIndex s c))
theorem dNamed (s : Bs) (h : s.length ≤ B) : PureC Tryd.prog noG 20 [.str s] (.bool (named s)) := pNamed hNamed s h
theorem dParseK : PureC Tryd.prog noG 73 [.str txtK] (.tup [.list (stepsK.map Step.iv), .int .i64 0]) :=
  pParseK hParse (dCutPrefix txtK [47]) (dSplit restK 47 (by decide)) (dCut [97] 91 (by decide)) (dCut [42, 91, 50, 93] 91 (by decide)) (dCut [35] 91 (by decide)) (dCutSuffix [50, 93] [93] (by decide) (by decide))
    (pAtoi2 hAtoi (pSlAtoi2 hSlAtoi)) (pItoa2 hItoa (pSlItoa2 hSlItoa (pFormat2 hFormatInt (pSmall2 hSmall))))
    (pPathGood hPathGood stepsK (by decide) (fun x hx => dNamed _ (by
      simp only [stepsK, List.mem_cons, List.not_mem_nil, or_false] at hx
      rcases hx with rfl | rfl | rfl <;> decide)))
theorem dPaths : PureC Tryd.prog noG 71 [] (.bool true) := pPaths hPaths dParseK
end Go.Proofs.YtfinkeaikbmpgaaDoor
