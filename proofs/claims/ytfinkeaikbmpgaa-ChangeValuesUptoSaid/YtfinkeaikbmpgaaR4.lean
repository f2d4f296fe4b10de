import Derived.Test.YtfinkeaikbmpgaaR3
import Derived.Test.YtfinkeaikbmpgaaKT50
set_option linter.unusedSimpArgs false
set_option linter.unusedVariables false
set_option linter.unnecessarySimpa false
set_option linter.defProp false
/- Functions of this seat, read: changes. -/
namespace Go.Proofs.Ytfinkeaikbmpgaa
open Go Go.Am Go.ChangeShapes
set_option maxRecDepth 100000
theorem c_hApply : compF Try.prog noG 34 = some (100,[((some (some 1)),4),(none,5)],(c_change_Apply 36 44 45 46 47 48 15 22).bare) := by kernel_rfl
theorem c_hCheck : compF Try.prog noG 36 = some (42,[(none,4)],(c_change_Check 28 50 52 51).bare) := by kernel_rfl
theorem c_hGood : compF Try.prog noG 50 = some (37,[(none,4)],(c_change_Good 28 63).bare) := by kernel_rfl
theorem c_hWrong : compF Try.prog noG 63 = some (107,[(none,4)],(c_change_wrong 19 56 55).bare) := by kernel_rfl
theorem c_hAgainst : compF Try.prog noG 53 = some (54,[(none,4)],c_change_Against.bare) := by kernel_rfl
theorem c_hCheck1 : compF Try.prog noG 52 = some (7,[(none,3)],(c_change_Check_1 53).bare) := by kernel_rfl
theorem c_hContains : compF Try.prog noG 51 = some (9,[(none,4)],(c_slices_ContainsFunc_Op_Op 64).bare) := by kernel_rfl
theorem c_hIndexF : compF Try.prog noG 64 = some (19,[(none,4)],c_slices_IndexFunc_Op_Op.bare) := by kernel_rfl
theorem c_hPhase : compF Try.prog noG 46 = some (17,[(none,4)],c_change_phase.bare) := by kernel_rfl
theorem c_hDo : compF Try.prog noG 47 = some (194,[],(c_change_bench_do 58 59 60 61 62).bare) := by kernel_rfl
theorem c_hInsert : compF Try.prog noG 58 = some (43,[],(c_change_bench_insert 65 66).bare) := by kernel_rfl
theorem c_hAdd : compF Try.prog noG 65 = some (58,[(none,6)],(c_change_bench_add 44 65).bare) := by kernel_rfl
theorem c_hPlace : compF Try.prog noG 59 = some (26,[(none,4),(none,5)],(c_change_bench_place 67).bare) := by kernel_rfl
theorem c_hValue : compF Try.prog noG 61 = some (35,[],(c_change_bench_value 58).bare) := by kernel_rfl
theorem c_hAttr : compF Try.prog noG 62 = some (77,[],(c_change_bench_attr 68 69 71 72).bare) := by kernel_rfl
theorem c_hTree : compF Try.prog noG 48 = some (40,[((some (some 4)),4)],(c_change_bench_tree 48).bare) := by kernel_rfl
theorem c_hAttr1 : compF Try.prog noG 69 = some (9,[(none,4)],(c_change_bench_attr_1 70).bare) := by kernel_rfl
theorem c_hInsI : compF Try.prog noG 66 = some (95,[(none,6)],(c_slices_Insert_int_int 73 74).bare) := by kernel_rfl
theorem c_hDelI : compF Try.prog noG 60 = some (33,[(none,6)],c_slices_Delete_int_int.bare) := by kernel_rfl
theorem c_hInsA : compF Try.prog noG 72 = some (95,[(none,6)],(c_slices_Insert_Attr_Attr 76 77).bare) := by kernel_rfl
theorem c_hDelA : compF Try.prog noG 71 = some (33,[(none,6)],c_slices_Delete_Attr_Attr.bare) := by kernel_rfl
theorem c_hSearch : compF Try.prog noG 68 = some (49,[(none,6),(none,7)],c_slices_BinarySearchFunc_Attr_Attr_string.bare) := by kernel_rfl
theorem c_hIndex : compF Try.prog noG 67 = some (19,[(none,4)],c_slices_Index_int_int.bare) := by kernel_rfl
theorem c_hCompare : compF Try.prog noG 70 = some (8,[(none,4)],(c_strings_Compare 75).bare) := by kernel_rfl
theorem c_hCmp : compF Try.prog noG 75 = some (8,[(none,4)],(c_internal_bytealg_CompareString 79).bare) := by kernel_rfl
theorem c_hCloneA : compF Try.prog noG 44 = some (8,[(none,2)],c_slices_Clone_Attr_Attr.bare) := by kernel_rfl
theorem c_hCloneI : compF Try.prog noG 45 = some (8,[(none,2)],c_slices_Clone_int_int.bare) := by kernel_rfl
theorem c_oI (N : Nat) (vs : List IV) (l : Lb) (sz j n c : Nat) (r : Row) (H : Hp) (h1 : vs ≠ []) (h2 : H l = .live r) (h3 : 0 < n) : ExtC ⟨Try.prog,noG,N⟩ 73 [.list vs,.slk l sz j n c] H (.bool false) :=
 ext_overlaps (fn := (Try.prog.funcs[73]?).getD default) (by kernel_rfl) (by kernel_rfl) (by kernel_rfl) (by kernel_rfl) (tS := 47) (tR := 4) (e := 3) (by kernel_rfl) (by kernel_rfl) (size := 1) (fun w => by rfl) h1 h2 h3
theorem c_oA (N : Nat) (vs : List IV) (l : Lb) (sz j n c : Nat) (r : Row) (H : Hp) (h1 : vs ≠ []) (h2 : H l = .live r) (h3 : 0 < n) : ExtC ⟨Try.prog,noG,N⟩ 76 [.list vs,.slk l sz j n c] H (.bool false) :=
 ext_overlaps (fn := (Try.prog.funcs[76]?).getD default) (by kernel_rfl) (by kernel_rfl) (by kernel_rfl) (by kernel_rfl) (tS := 27) (tR := 4) (e := 60) (by kernel_rfl) (by kernel_rfl) (size := 2) (fun w => by rfl) h1 h2 h3
theorem c_xCmp (N : Nat) (s t : Bs) (H : Hp) : ExtC ⟨Try.prog,noG,N⟩ 79 [.str s,.str t] H (.int .i64 (Lib.compareBytes s t)) :=
 ext_compare (fn := (Try.prog.funcs[79]?).getD default) (by kernel_rfl) (by kernel_rfl) (by kernel_rfl) (by kernel_rfl) (by kernel_rfl) s t H
noncomputable def chF : ChF Try.prog noG where
 f_change_Apply := 34
 f_change_Check := 36
 f_change_Good := 50
 f_change_wrong := 63
 f_change_Against := 53
 f_change_Check_1 := 52
 f_slices_ContainsFunc_Op_Op := 51
 f_slices_IndexFunc_Op_Op := 64
 f_change_phase := 46
 f_change_bench_do := 47
 f_change_bench_insert := 58
 f_change_bench_add := 65
 f_change_bench_place := 59
 f_change_bench_value := 61
 f_change_bench_attr := 62
 f_change_bench_tree := 48
 f_change_bench_attr_1 := 69
 f_slices_Insert_int_int := 66
 f_slices_Delete_int_int := 60
 f_slices_Insert_Attr_Attr := 72
 f_slices_Delete_Attr_Attr := 71
 f_slices_BinarySearchFunc_Attr_Attr_string := 68
 f_slices_Index_int_int := 67
 f_strings_Compare := 70
 f_internal_bytealg_CompareString := 75
 f_slices_Clone_Attr_Attr := 44
 f_slices_Clone_int_int := 45
 f_slices_overlaps_int := 73
 f_slices_overlaps_Attr := 76
 f_slices_rotateRight_int := 74
 f_slices_rotateRight_Attr := 77
 f_internal_bytealg_abigen_runtime_cmpstring := 79
 f_doc_Good := 28
 f_tree_Content := 19
 f_tree_Named := 56
 f_tree_Plain := 55
 f_tree_Joined := 15
 f_doc_Make := 22
 hApply := c_hApply
 hCheck := c_hCheck
 hGood := c_hGood
 hWrong := c_hWrong
 hAgainst := c_hAgainst
 hCheck1 := c_hCheck1
 hContains := c_hContains
 hIndexF := c_hIndexF
 hPhase := c_hPhase
 hDo := c_hDo
 hInsert := c_hInsert
 hAdd := c_hAdd
 hPlace := c_hPlace
 hValue := c_hValue
 hAttr := c_hAttr
 hTree := c_hTree
 hAttr1 := c_hAttr1
 hInsI := c_hInsI
 hDelI := c_hDelI
 hInsA := c_hInsA
 hDelA := c_hDelA
 hSearch := c_hSearch
 hIndex := c_hIndex
 hCompare := c_hCompare
 hCmp := c_hCmp
 hCloneA := c_hCloneA
 hCloneI := c_hCloneI
 oI := c_oI
 oA := c_oA
 xCmp := c_xCmp
 gAttr1 := by kernel_rfl
 gCheck1 := by kernel_rfl
 dGood := dDocGood
 dContent := dContent
 dNamed := fun s h => pNamed hNamed s h
 dPlain := fun s h => pPlain hPlain s h
 dJoined := dJoined
 dMake := dMake
end Go.Proofs.Ytfinkeaikbmpgaa
