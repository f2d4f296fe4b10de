import Derived.Test.YtfinkeaikbmpgaaDoorKT16
import Derived.Test.YtfinkeaikbmpgaaDoorT2
import Derived.Test.YtfinkeaikbmpgaaDoorKAm25
set_option linter.unusedSimpArgs false
set_option linter.unusedVariables false
set_option linter.unnecessarySimpa false
set_option linter.defProp false
/- Documents: within; what is said; the laws DocBack and DocNests. -/
namespace Go.Am
open Go Go.RowKit
def c_doc_In (f_doc_End : Nat) : AC :=
(.seq (.reg [⟨(some 3), none, (.box (.t 0))⟩, ⟨(some 6), none, (.mov (.c (.bool false)))⟩]) (.seq (.reg [⟨(some 7), none, (.mov (.t 1))⟩, ⟨(some 8), none, (.mov (.t 2))⟩, ⟨(some 9), none, (.bin .geq (.t 7) (.t 8))⟩, ⟨(some 10), none, (.mov (.t 9))⟩, ⟨(some 11), (some (10, true)), (.mov (.t 1))⟩, ⟨(some 12), (some (10, true)), (.load (some 1) (.t 3))⟩, ⟨(some 13), (some (10, true)), (.mov (.t 2))⟩, ⟨(some 14), (some (10, true)), (.call f_doc_End [(.t 12), (.t 13)])⟩, ⟨(some 15), (some (10, true)), (.bin .lss (.t 11) (.t 14))⟩, ⟨(some 16), none, (.pick (.t 10) (.t 15) (.c (.bool false)))⟩, ⟨(some 17), none, (.mov (.t 16))⟩, ⟨(some 18), (some (17, true)), (.mov (.t 2))⟩, ⟨(some 19), (some (17, true)), (.bin .geq (.t 18) (.c (.int .i64 0)))⟩, ⟨(some 20), none, (.pick (.t 17) (.t 19) (.c (.bool false)))⟩, ⟨(some 6), none, (.mov (.t 20))⟩]) .ret))
theorem pDocIn {P : Program} {G : Nat → Option (List IV)} {f_doc_In f_doc_End : Nat} (hF : compF P G f_doc_In = some (21, [(none, 6)], (c_doc_In f_doc_End).bare)) (d : Doc) (n m : Int)
    (hE : ∀ n : Int, PureC P G f_doc_End [Doc.av d, .int .i64 n] (.int .i64 (endD d n))) : PureC P G f_doc_In [Doc.av d, .int .i64 n, .int .i64 m] (.bool (inD d n m)) := by
  refine pure_of_go hF (by simp) (by simp [lbss, AV.lbs, Doc.av]) (by simp [AV.lbs]) ?_
  unfold c_doc_In
  simp only [↓aX, evp, evq, evl, boxK, stillV, binV, AV.cells, mP, loadV, storeV, ldV, AV.stb, AV.one, IV.av1, Lb.app, Lb.fresh, reduceCtorEq, ptrL, appL, fillA, chunks, ivs, AV.iv, mkE, if_false, if_true, List.not_mem_nil, forall_eq, beq_self_eq_true, List.isEmpty_nil, Nat.reduceEqDiff, Nat.reduceLT, Nat.reduceLeDiff, Nat.reduceAdd, Nat.reduceMul, Int.reduceToNat, Int.reduceLE, Int.reduceLT, Doc.av, List.length_map]
  cases h1 : decide (n ≥ m) with
  | false =>
    have h1' : decide (m ≤ n) = false := h1
    simp only [↓aX, evp, evq, evl, boxK, stillV, binV, AV.cells, mP, loadV, storeV, ldV, AV.stb, AV.one, IV.av1, Lb.app, Lb.fresh, reduceCtorEq, ptrL, appL, fillA, chunks, ivs, AV.iv, mkE, if_false, if_true, List.not_mem_nil, forall_eq, beq_self_eq_true, List.isEmpty_nil, Nat.reduceEqDiff, Nat.reduceLT, Nat.reduceLeDiff, Nat.reduceAdd, Nat.reduceMul, Int.reduceToNat, Int.reduceLE, Int.reduceLT, inD, h1', Bool.false_and]
  | true =>
    have h1' : decide (m ≤ n) = true := h1
    simp only [↓aX, evp, evq, evl, boxK, stillV, binV, AV.cells, mP, loadV, storeV, ldV, AV.stb, AV.one, IV.av1, Lb.app, Lb.fresh, reduceCtorEq, ptrL, appL, fillA, chunks, ivs, AV.iv, mkE, if_false, if_true, List.not_mem_nil, forall_eq, beq_self_eq_true, List.isEmpty_nil, Nat.reduceEqDiff, Nat.reduceLT, Nat.reduceLeDiff, Nat.reduceAdd, Nat.reduceMul, Int.reduceToNat, Int.reduceLE, Int.reduceLT]
    refine callT_pure (hE m) ?_
    cases h2 : decide (n < endD d m) with
    | false => simp only [↓aX, evp, evq, evl, boxK, stillV, binV, AV.cells, mP, loadV, storeV, ldV, AV.stb, AV.one, IV.av1, Lb.app, Lb.fresh, reduceCtorEq, ptrL, appL, fillA, chunks, ivs, AV.iv, mkE, if_false, if_true, List.not_mem_nil, forall_eq, beq_self_eq_true, List.isEmpty_nil, Nat.reduceEqDiff, Nat.reduceLT, Nat.reduceLeDiff, Nat.reduceAdd, Nat.reduceMul, Int.reduceToNat, Int.reduceLE, Int.reduceLT, inD, h1', h2, Bool.false_and, Bool.true_and]
    | true =>
      have h3 : decide (m ≥ 0) = decide (0 ≤ m) := rfl
      simp only [↓aX, evp, evq, evl, boxK, stillV, binV, AV.cells, mP, loadV, storeV, ldV, AV.stb, AV.one, IV.av1, Lb.app, Lb.fresh, reduceCtorEq, ptrL, appL, fillA, chunks, ivs, AV.iv, mkE, if_false, if_true, List.not_mem_nil, forall_eq, beq_self_eq_true, List.isEmpty_nil, Nat.reduceEqDiff, Nat.reduceLT, Nat.reduceLeDiff, Nat.reduceAdd, Nat.reduceMul, Int.reduceToNat, Int.reduceLE, Int.reduceLT, inD, h1', h2, h3, Bool.true_and]
def c_doc_String (f_doc_End : Nat) : AC :=
(.seq (.reg [⟨(some 2), none, (.box (.t 0))⟩, ⟨(some 4), none, (.mov (.c (.str [])))⟩]) (.seq (.reg [⟨(some 5), none, (.mov (.c (.str [])))⟩]) (.seq (.seq (.reg [⟨(some 7), none, (.mov (.t 1))⟩, ⟨(some 8), none, (.max (.c (.int .i64 0)) (.t 7))⟩, ⟨(some 6), none, (.mov (.t 8))⟩]) (.block 0 (.loop (.seq (.seq (.reg [⟨(some 9), none, (.mov (.t 6))⟩, ⟨(some 10), none, (.load (some 1) (.t 2))⟩, ⟨(some 11), none, (.mov (.t 1))⟩, ⟨(some 12), none, (.call f_doc_End [(.t 10), (.t 11)])⟩, ⟨(some 13), none, (.bin .lss (.t 9) (.t 12))⟩]) (.cond (.t 13) .skip (.exit 0))) (.seq (.block 1 (.seq (.reg [⟨(some 16), none, (.fld (.t 2) 0)⟩, ⟨(some 17), none, (.load none (.t 16))⟩, ⟨(some 18), none, (.mov (.t 6))⟩, ⟨(some 19), none, (.ixa (.t 17) (.t 18) 5)⟩, ⟨(some 20), none, (.fld (.t 19) 0)⟩, ⟨(some 21), none, (.load none (.t 20))⟩]) (.cond (.t 21) (.reg [⟨(some 22), none, (.mov (.t 5))⟩, ⟨(some 23), none, (.fld (.t 2) 0)⟩, ⟨(some 24), none, (.load none (.t 23))⟩, ⟨(some 25), none, (.mov (.t 6))⟩, ⟨(some 26), none, (.ixa (.t 24) (.t 25) 5)⟩, ⟨(some 27), none, (.fld (.t 26) 1)⟩, ⟨(some 28), none, (.load none (.t 27))⟩, ⟨(some 29), none, (.bin .add (.t 22) (.t 28))⟩, ⟨(some 5), none, (.mov (.t 29))⟩]) .skip))) (.reg [⟨(some 14), none, (.mov (.t 6))⟩, ⟨(some 15), none, (.bin .add (.t 14) (.c (.int .i64 1)))⟩, ⟨(some 6), none, (.mov (.t 15))⟩])))))) (.seq (.reg [⟨(some 30), none, (.mov (.t 5))⟩, ⟨(some 4), none, (.mov (.t 30))⟩]) .ret))))
theorem endD_le (d : Doc) (n : Int) : 0 ≤ endD d n ∧ endD d n ≤ d.length := by
  by_cases h : isDoc d = true ∧ 0 ≤ n ∧ n < d.length
  · obtain ⟨h1, h2, h3⟩ := h
    obtain ⟨t, ht, rfl⟩ := isDoc_iff.1 h1
    obtain ⟨m, rfl⟩ : ∃ m : Nat, n = m := ⟨n.toNat, by omega⟩
    obtain ⟨q, y, l, s⟩ := lies_doc (t := t) (n := m) (by omega)
    have := l.len
    rw [endD_of ht l]; omega
  · rw [endD_out h]; omega
theorem told_wt : ∀ d : Doc, (d.flatMap Node.told).length ≤ wtN d
  | [] => by simp
  | x :: r => by
    have := told_wt r
    simp only [List.flatMap_cons, List.length_append, wtN, Node.wt, Node.told]
    by_cases h : x.text = true
    · rw [if_pos h]; omega
    · rw [if_neg h]; simp only [List.length_nil]; omega
theorem wtN_sub (d : Doc) (a n : Nat) : wtN ((d.drop a).take n) ≤ wtN d := by
  have h1 := wtN_app (d.take a) (d.drop a)
  have h2 := wtN_app ((d.drop a).take n) ((d.drop a).drop n)
  rw [List.take_append_drop] at h1 h2
  omega
theorem pDocString {P : Program} {G : Nat → Option (List IV)} {f_doc_String f_doc_End : Nat} (hF : compF P G f_doc_String = some (31, [(none, 4)], (c_doc_String f_doc_End).bare)) (d : Doc) (hd : wtN d ≤ B) (n : Int)
    (hE : PureC P G f_doc_End [Doc.av d, .int .i64 n] (.int .i64 (endD d n))) : PureC P G f_doc_String [Doc.av d, .int .i64 n] (.str (strD d n)) := by
  refine pure_of_go hF (by simp) (by simp [lbss, AV.lbs, Doc.av]) (by simp [AV.lbs]) ?_
  have hlen := wtN_len d
  obtain ⟨he0, hel⟩ := endD_le d n
  have hmax : (if n > 0 then n else 0) = ((n.toNat : Nat) : Int) := by split <;> omega
  unfold c_doc_String
  simp only [↓aX, evp, evq, evl, boxK, stillV, binV, AV.cells, mP, loadV, storeV, ldV, AV.stb, AV.one, IV.av1, Lb.app, Lb.fresh, reduceCtorEq, ptrL, appL, fillA, chunks, ivs, AV.iv, mkE, if_false, if_true, List.not_mem_nil, forall_eq, beq_self_eq_true, List.isEmpty_nil, Nat.reduceEqDiff, Nat.reduceLT, Nat.reduceLeDiff, Nat.reduceAdd, Nat.reduceMul, Int.reduceToNat, Int.reduceLE, Int.reduceLT, Doc.av, List.length_map, hmax]
  refine loop_same (σ := { i : Nat // n.toNat ≤ i ∧ (i ≤ (endD d n).toNat ∨ i = n.toNat) }) [.loc 2]
    (fun i => [(1, .int .i64 n), (2, .ptr (.loc 2) 1 0 0), (5, .str (((d.drop n.toNat).take (i.1 - n.toNat)).flatMap Node.told)), (6, .int .i64 i.1)])
    (fun _ => [(.loc 2, ⟨1, [[.list (d.map Node.iv)]]⟩)]) (fun i => d.length - i.1) ⟨n.toNat, Nat.le_refl _, .inr rfl⟩
    (fun _ => rfl) (by decide) (by simp [lbss, AV.lbs]) (by simp [lbss, AV.lbs]) ?_ ?_
  · refine WS_mk (by simp only [NFx_loc, NFx_none]) ?_ (by repeat' constructor)
    simp only [Nat.sub_self, List.take_zero, List.flatMap_nil]
    repeat' constructor
  · rintro ⟨i, hni, hi⟩
    simp only [↓aX, evp, evq, evl, boxK, stillV, binV, AV.cells, mP, loadV, storeV, ldV, AV.stb, AV.one, IV.av1, Lb.app, Lb.fresh, reduceCtorEq, ptrL, appL, fillA, chunks, ivs, AV.iv, mkE, if_false, if_true, List.not_mem_nil, forall_eq, beq_self_eq_true, List.isEmpty_nil, Nat.reduceEqDiff, Nat.reduceLT, Nat.reduceLeDiff, Nat.reduceAdd, Nat.reduceMul, Int.reduceToNat, Int.reduceLE, Int.reduceLT, ofH_nil, ofH_cons]
    refine callT_pure hE ?_
    simp only [↓aX, evp, evq, evl, boxK, stillV, binV, AV.cells, mP, loadV, storeV, ldV, AV.stb, AV.one, IV.av1, Lb.app, Lb.fresh, reduceCtorEq, ptrL, appL, fillA, chunks, ivs, AV.iv, mkE, if_false, if_true, List.not_mem_nil, forall_eq, beq_self_eq_true, List.isEmpty_nil, Nat.reduceEqDiff, Nat.reduceLT, Nat.reduceLeDiff, Nat.reduceAdd, Nat.reduceMul, Int.reduceToNat, Int.reduceLE, Int.reduceLT]
    cases h1 : decide ((i : Int) < endD d n) with
    | false =>
      have h1' := of_decide_eq_false h1
      have : i - n.toNat = (endD d n).toNat - n.toNat := by rcases hi with h | h <;> omega
      simp only [↓aX, evp, evq, evl, boxK, stillV, binV, AV.cells, mP, loadV, storeV, ldV, AV.stb, AV.one, IV.av1, Lb.app, Lb.fresh, reduceCtorEq, ptrL, appL, fillA, chunks, ivs, AV.iv, mkE, if_false, if_true, List.not_mem_nil, forall_eq, beq_self_eq_true, List.isEmpty_nil, Nat.reduceEqDiff, Nat.reduceLT, Nat.reduceLeDiff, Nat.reduceAdd, Nat.reduceMul, Int.reduceToNat, Int.reduceLE, Int.reduceLT, strD, this]
    | true =>
      have h1' := of_decide_eq_true h1
      have hlt : i < d.length := by omega
      obtain ⟨x, hx⟩ : ∃ x, d[i]? = some x := ⟨_, List.getElem?_eq_getElem hlt⟩
      have hw : IntKind.i64.wrap ((i : Int) + 1) = ((i + 1 : Nat) : Int) := wrap64 (by omega) (by unfold B at hd; omega)
      have hsn : (d.drop n.toNat).take (i + 1 - n.toNat) = (d.drop n.toNat).take (i - n.toNat) ++ [x] := drop_take_snoc hni hx
      have hb : (((d.drop n.toNat).take (i - n.toNat)).flatMap Node.told).length + x.s.length ≤ 9223372036854775807 := by
        have h2 := told_wt ((d.drop n.toNat).take (i - n.toNat))
        have h3 := wtN_sub d n.toNat (i - n.toNat)
        have h4 := wtN_mem (List.mem_of_getElem? hx)
        simp only [Node.wt] at h4
        unfold B at hd; omega
      simp only [↓aX, evp, evq, evl, boxK, stillV, binV, AV.cells, mP, loadV, storeV, ldV, AV.stb, AV.one, IV.av1, Lb.app, Lb.fresh, reduceCtorEq, ptrL, appL, fillA, chunks, ivs, AV.iv, mkE, if_false, if_true, List.not_mem_nil, forall_eq, beq_self_eq_true, List.isEmpty_nil, Nat.reduceEqDiff, Nat.reduceLT, Nat.reduceLeDiff, Nat.reduceAdd, Nat.reduceMul, Int.reduceToNat, Int.reduceLE, Int.reduceLT, List.length_map, Doc.get_iv hx, elszN, Node.cells_eq, Node.cs]
      cases ht : x.text with
      | true =>
        simp only [↓aX, evp, evq, evl, boxK, stillV, binV, AV.cells, mP, loadV, storeV, ldV, AV.stb, AV.one, IV.av1, Lb.app, Lb.fresh, reduceCtorEq, ptrL, appL, fillA, chunks, ivs, AV.iv, mkE, if_false, if_true, List.not_mem_nil, forall_eq, beq_self_eq_true, List.isEmpty_nil, Nat.reduceEqDiff, Nat.reduceLT, Nat.reduceLeDiff, Nat.reduceAdd, Nat.reduceMul, Int.reduceToNat, Int.reduceLE, Int.reduceLT, List.length_map, Doc.get_iv hx, elszN, Node.cells_eq, Node.cs, hb, hw]
        refine ⟨⟨i + 1, by omega, by omega⟩, by simp only; omega, WS_mk (by simp only [NFx_loc, NFx_none]) ?_ (by repeat' constructor)⟩
        simp only [hsn, List.flatMap_append, List.flatMap_cons, List.flatMap_nil, List.append_nil, Node.told, ht, if_true]
        repeat' constructor
      | false =>
        simp only [↓aX, evp, evq, evl, boxK, stillV, binV, AV.cells, mP, loadV, storeV, ldV, AV.stb, AV.one, IV.av1, Lb.app, Lb.fresh, reduceCtorEq, ptrL, appL, fillA, chunks, ivs, AV.iv, mkE, if_false, if_true, List.not_mem_nil, forall_eq, beq_self_eq_true, List.isEmpty_nil, Nat.reduceEqDiff, Nat.reduceLT, Nat.reduceLeDiff, Nat.reduceAdd, Nat.reduceMul, Int.reduceToNat, Int.reduceLE, Int.reduceLT, hw]
        refine ⟨⟨i + 1, by omega, by omega⟩, by simp only; omega, WS_mk (by simp only [NFx_loc, NFx_none]) ?_ (by repeat' constructor)⟩
        simp only [hsn, List.flatMap_append, List.flatMap_cons, List.flatMap_nil, List.append_nil, Node.told, ht, if_false, Bool.false_eq_true]
        repeat' constructor
def c_topiarykeep_docs (f_doc_Make f_doc_End f_doc_String f_doc_In : Nat) : AC :=
(.seq (.reg [⟨(some 0), none, (.mov (.c (.bool false)))⟩]) (.seq (.reg [⟨(some 4), none, (.bld [(.bool false), (.str []), .nil0, .nil0] [(0, (1, (.c (.bool true)))), (1, (1, (.c (.str [120]))))])⟩, ⟨(some 5), none, (.lits 1 4 [(.bool false), (.str []), .nil0, .nil0] [(0, (.t 4))])⟩, ⟨(some 6), none, (.bld [(.bool false), (.str []), .nil0, .nil0] [(1, (1, (.c (.str [98])))), (3, (1, (.t 5)))])⟩, ⟨(some 7), none, (.bld [(.bool false), (.str []), .nil0, .nil0] [(1, (1, (.c (.str [99]))))])⟩, ⟨(some 8), none, (.lits 2 4 [(.bool false), (.str []), .nil0, .nil0] [(0, (.t 6)), (1, (.t 7))])⟩, ⟨(some 9), none, (.bld [(.bool false), (.str []), .nil0, .nil0] [(1, (1, (.c (.str [97])))), (3, (1, (.t 8)))])⟩, ⟨(some 10), none, (.call f_doc_Make [(.t 9)])⟩, ⟨(some 3), none, (.mov (.t 10))⟩, ⟨(some 11), none, (.ext (.t 3) 0)⟩, ⟨(some 12), none, (.ext (.t 3) 1)⟩, ⟨(some 1), none, (.new [.nil0])⟩, ⟨none, none, (.store 1 (.t 1) (.t 11))⟩, ⟨(some 2), none, (.mov (.t 12))⟩]) (.seq (.reg [⟨(some 13), none, (.mov (.t 2))⟩, ⟨(some 14), none, (.bin .eql (.t 13) (.c (.int .i64 0)))⟩, ⟨(some 15), none, (.mov (.t 14))⟩, ⟨(some 16), (some (15, true)), (.fld (.t 1) 0)⟩, ⟨(some 17), (some (15, true)), (.load none (.t 16))⟩, ⟨(some 18), (some (15, true)), (.len (.t 17))⟩, ⟨(some 19), (some (15, true)), (.bin .eql (.t 18) (.c (.int .i64 4)))⟩, ⟨(some 20), none, (.pick (.t 15) (.t 19) (.c (.bool false)))⟩, ⟨(some 21), none, (.mov (.t 20))⟩, ⟨(some 22), (some (21, true)), (.load (some 1) (.t 1))⟩, ⟨(some 23), (some (21, true)), (.call f_doc_End [(.t 22), (.c (.int .i64 1))])⟩, ⟨(some 24), (some (21, true)), (.bin .eql (.t 23) (.c (.int .i64 3)))⟩, ⟨(some 25), none, (.pick (.t 21) (.t 24) (.c (.bool false)))⟩, ⟨(some 26), none, (.mov (.t 25))⟩, ⟨(some 27), (some (26, true)), (.load (some 1) (.t 1))⟩, ⟨(some 28), (some (26, true)), (.call f_doc_String [(.t 27), (.c (.int .i64 0))])⟩, ⟨(some 29), (some (26, true)), (.bin .eql (.t 28) (.c (.str [120])))⟩, ⟨(some 30), none, (.pick (.t 26) (.t 29) (.c (.bool false)))⟩, ⟨(some 31), none, (.mov (.t 30))⟩, ⟨(some 32), (some (31, true)), (.load (some 1) (.t 1))⟩, ⟨(some 33), (some (31, true)), (.call f_doc_In [(.t 32), (.c (.int .i64 2)), (.c (.int .i64 1))])⟩, ⟨(some 34), none, (.pick (.t 31) (.t 33) (.c (.bool false)))⟩, ⟨(some 0), none, (.mov (.t 34))⟩]) .ret)))
def treeK : Tree := .mk false [97] [] [.mk false [98] [] [.mk true [120] [] []], .mk false [99] [] []]
theorem treeK_good : treeK.good = true := by decide
theorem pDocs {P : Program} {G : Nat → Option (List IV)} {f_topiarykeep_docs f_doc_Make f_doc_End f_doc_String f_doc_In : Nat} (hF : compF P G f_topiarykeep_docs = some (35, [(none, 0)], (c_topiarykeep_docs f_doc_Make f_doc_End f_doc_String f_doc_In).bare))
    (hM : PureC P G f_doc_Make [treeK.av] (.tup [Doc.av (makeD treeK).1, .int .i64 (makeD treeK).2])) (hE : PureC P G f_doc_End [Doc.av (docOf treeK), .int .i64 1] (.int .i64 (endD (docOf treeK) 1)))
    (hS : PureC P G f_doc_String [Doc.av (docOf treeK), .int .i64 0] (.str (strD (docOf treeK) 0))) (hI : PureC P G f_doc_In [Doc.av (docOf treeK), .int .i64 2, .int .i64 1] (.bool (inD (docOf treeK) 2 1))) :
    PureC P G f_topiarykeep_docs [] (.bool true) := by
  refine pure_of_go hF (by simp) (by simp [lbss]) (by simp [AV.lbs]) ?_
  have hm : makeD treeK = (docOf treeK, 0) := by unfold makeD; rw [if_pos treeK_good]
  have e1 : endD (docOf treeK) 1 = 3 := by
    have := endD_of treeK_good (n := 1) (q := 0) (y := .mk false [98] [] [.mk true [120] [] []]) ⟨(docOf treeK).drop 3, rfl⟩
    exact this
  have e2 : strD (docOf treeK) 0 = [120] := by
    have := strD_of treeK_good (n := 0) (q := -1) (y := treeK) ⟨[], rfl⟩
    exact this
  have e3 : inD (docOf treeK) 2 1 = true := by unfold inD; rw [e1]; rfl
  rw [hm] at hM
  rw [e1] at hE
  rw [e2] at hS
  rw [e3] at hI
  unfold c_topiarykeep_docs
  simp only [↓aX, evp, evq, evl, boxK, stillV, binV, AV.cells, mP, loadV, storeV, ldV, AV.stb, AV.one, IV.av1, Lb.app, Lb.fresh, reduceCtorEq, ptrL, appL, fillA, chunks, ivs, AV.iv, mkE, if_false, if_true, List.not_mem_nil, forall_eq, beq_self_eq_true, List.isEmpty_nil, Nat.reduceEqDiff, Nat.reduceLT, Nat.reduceLeDiff, Nat.reduceAdd, Nat.reduceMul, Int.reduceToNat, Int.reduceLE, Int.reduceLT, List.replicate_succ, List.replicate_zero]
  refine callT_pure (hM.of rfl) ?_
  simp only [↓aX, evp, evq, evl, boxK, stillV, binV, AV.cells, mP, loadV, storeV, ldV, AV.stb, AV.one, IV.av1, Lb.app, Lb.fresh, reduceCtorEq, ptrL, appL, fillA, chunks, ivs, AV.iv, mkE, if_false, if_true, List.not_mem_nil, forall_eq, beq_self_eq_true, List.isEmpty_nil, Nat.reduceEqDiff, Nat.reduceLT, Nat.reduceLeDiff, Nat.reduceAdd, Nat.reduceMul, Int.reduceToNat, Int.reduceLE, Int.reduceLT, Doc.av, List.length_map]
  rw [show (((docOf treeK).length : Int) == 4) = true from rfl]
  simp only [↓aX, evp, evq, evl, boxK, stillV, binV, AV.cells, mP, loadV, storeV, ldV, AV.stb, AV.one, IV.av1, Lb.app, Lb.fresh, reduceCtorEq, ptrL, appL, fillA, chunks, ivs, AV.iv, mkE, if_false, if_true, List.not_mem_nil, forall_eq, beq_self_eq_true, List.isEmpty_nil, Nat.reduceEqDiff, Nat.reduceLT, Nat.reduceLeDiff, Nat.reduceAdd, Nat.reduceMul, Int.reduceToNat, Int.reduceLE, Int.reduceLT]
  refine callT_pure hE ?_
  simp only [↓aX, evp, evq, evl, boxK, stillV, binV, AV.cells, mP, loadV, storeV, ldV, AV.stb, AV.one, IV.av1, Lb.app, Lb.fresh, reduceCtorEq, ptrL, appL, fillA, chunks, ivs, AV.iv, mkE, if_false, if_true, List.not_mem_nil, forall_eq, beq_self_eq_true, List.isEmpty_nil, Nat.reduceEqDiff, Nat.reduceLT, Nat.reduceLeDiff, Nat.reduceAdd, Nat.reduceMul, Int.reduceToNat, Int.reduceLE, Int.reduceLT, show ((3 : Int) == 3) = true from rfl]
  refine callT_pure hS ?_
  simp only [↓aX, evp, evq, evl, boxK, stillV, binV, AV.cells, mP, loadV, storeV, ldV, AV.stb, AV.one, IV.av1, Lb.app, Lb.fresh, reduceCtorEq, ptrL, appL, fillA, chunks, ivs, AV.iv, mkE, if_false, if_true, List.not_mem_nil, forall_eq, beq_self_eq_true, List.isEmpty_nil, Nat.reduceEqDiff, Nat.reduceLT, Nat.reduceLeDiff, Nat.reduceAdd, Nat.reduceMul, Int.reduceToNat, Int.reduceLE, Int.reduceLT, show (([120] : Bs) == [120]) = true from rfl]
  refine callT_pure hI ?_
  simp only [↓aX, evp, evq, evl, boxK, stillV, binV, AV.cells, mP, loadV, storeV, ldV, AV.stb, AV.one, IV.av1, Lb.app, Lb.fresh, reduceCtorEq, ptrL, appL, fillA, chunks, ivs, AV.iv, mkE, if_false, if_true, List.not_mem_nil, forall_eq, beq_self_eq_true, List.isEmpty_nil, Nat.reduceEqDiff, Nat.reduceLT, Nat.reduceLeDiff, Nat.reduceAdd, Nat.reduceMul, Int.reduceToNat, Int.reduceLE, Int.reduceLT]
end Go.Am

/- DocBack and DocNests. -/
namespace Go.Am
open Go Go.RowKit
theorem docOf_lies (x : Tree) : Lies (docOf x) 0 (-1) x := ⟨[], by simp [docOf]⟩
end Go.Am

/- Trees: out of readings. -/
namespace Go.Am
open Go Go.RowKit
section
variable {P : Program}
theorem Sh.inv_b {t : TypeId} {y : IV} (h : Sh P t y) (hu : P.underlying t = some .bool) : ∃ x, y = .bool x := by
  cases h <;> simp_all
theorem Sh.inv_i {t : TypeId} {y : IV} {k : IntKind} (h : Sh P t y) (hu : P.underlying t = some (.int k)) : ∃ n, y = .int k n ∧ (Lit.int k n).wf = true := by
  cases h <;> simp_all
theorem Sh.inv_s {t : TypeId} {y : IV} (h : Sh P t y) (hu : P.underlying t = some .string) : ∃ x, y = .str x := by
  cases h <;> simp_all
theorem Sh.inv_l {t e : TypeId} {y : IV} (h : Sh P t y) (hu : P.underlying t = some (.slice e)) : ∃ ys, y = .list ys ∧ ∀ y ∈ ys, Sh P e y := by
  cases h <;> simp_all
theorem Sh.inv_g {t : TypeId} {fs : Array Field} {y : IV} (h : Sh P t y) (hu : P.underlying t = some (.struct fs)) :
    ∃ ys, y = .agg ys ∧ ys.length = fs.size ∧ ∀ (j : Nat) (f : Field) (y : IV), fs[j]? = some f → ys[j]? = some y → Sh P f.type y := by
  cases h with
  | g hu' h1 h2 =>
    rw [hu'] at hu; cases hu; exact ⟨_, rfl, h1, h2⟩
  | _ => simp_all
/-- The types of trees. -/
structure TyT (P : Program) where
  tB : TypeId
  tS : TypeId
  tA : TypeId
  tAs : TypeId
  tT : TypeId
  tTs : TypeId
  fA : Array Field
  fT : Array Field
  uB : P.underlying tB = some .bool
  uS : P.underlying tS = some .string
  uAs : P.underlying tAs = some (.slice tA)
  uTs : P.underlying tTs = some (.slice tT)
  uA : P.underlying tA = some (.struct fA)
  uT : P.underlying tT = some (.struct fT)
  sA : fA.toList.map (·.type) = [tS, tS]
  sT : fT.toList.map (·.type) = [tB, tS, tAs, tTs]
theorem field_of {fs : Array Field} {ts : List TypeId} (h : fs.toList.map (·.type) = ts) (j : Nat) (t : TypeId) (ht : ts[j]? = some t) : ∃ f, fs[j]? = some f ∧ f.type = t := by
  subst h
  rw [List.getElem?_map] at ht
  obtain ⟨f, h1, rfl⟩ := Option.map_eq_some_iff.1 ht
  exact ⟨f, by simpa using h1, rfl⟩
theorem Sh.attr (T : TyT P) {y : IV} (h : Sh P T.tA y) : ∃ a : Attr, y = a.iv ∧ a.wt ≤ y.wt := by
  obtain ⟨ys, rfl, hl, hy⟩ := h.inv_g T.uA
  have hs : T.fA.size = 2 := by have := congrArg List.length T.sA; simpa using this
  match ys, hl.trans hs, hy with
  | [y0, y1], _, hy =>
    obtain ⟨f0, e0, t0⟩ := field_of T.sA 0 T.tS rfl
    obtain ⟨f1, e1, t1⟩ := field_of T.sA 1 T.tS rfl
    have h0 := hy 0 f0 y0 e0 rfl
    have h1 := hy 1 f1 y1 e1 rfl
    rw [t0] at h0
    rw [t1] at h1
    obtain ⟨x0, rfl⟩ := h0.inv_s T.uS
    obtain ⟨x1, rfl⟩ := h1.inv_s T.uS
    exact ⟨⟨x0, x1⟩, rfl, by simp [Attr.wt, IV.wt, wtI]; omega⟩
theorem Sh.attrs (T : TyT P) : ∀ (ys : List IV), (∀ y ∈ ys, Sh P T.tA y) → ∃ as, ys = ivA as ∧ wtA as ≤ wtI ys
  | [], _ => ⟨[], rfl, by simp [wtA, wtI]⟩
  | y :: r, h => by
    obtain ⟨a, rfl, h1⟩ := (h y (by simp)).attr T
    obtain ⟨as, rfl, h2⟩ := Sh.attrs T r (fun z hz => h z (by simp [hz]))
    exact ⟨a :: as, rfl, by simp only [wtA, wtI]; omega⟩
theorem Sh.treeN (T : TyT P) : ∀ (n : Nat), (∀ y : IV, y.wt ≤ n → Sh P T.tT y → ∃ x : Tree, y = x.iv ∧ x.wt ≤ y.wt) ∧ ∀ ys : List IV, wtI ys ≤ n → (∀ y ∈ ys, Sh P T.tT y) → ∃ xs, ys = ivT xs ∧ wtT xs ≤ wtI ys := by
  intro n
  induction n with
  | zero =>
    refine ⟨fun y hy h => ?_, fun ys hy h => ?_⟩
    · exfalso; cases y <;> simp [IV.wt] at hy
    · cases ys with
      | nil => exact ⟨[], rfl, by simp [wtT, wtI]⟩
      | cons y r => exfalso; cases y <;> simp [IV.wt, wtI] at hy
  | succ n ih =>
    have one : ∀ y : IV, y.wt ≤ n + 1 → Sh P T.tT y → ∃ x : Tree, y = x.iv ∧ x.wt ≤ y.wt := by
      intro y hy h
      obtain ⟨ys, rfl, hl, hys⟩ := h.inv_g T.uT
      have hs : T.fT.size = 4 := by have := congrArg List.length T.sT; simpa using this
      match ys, hl.trans hs, hys, hy with
      | [y0, y1, y2, y3], _, hys, hy =>
        obtain ⟨f0, e0, t0⟩ := field_of T.sT 0 T.tB rfl
        obtain ⟨f1, e1, t1⟩ := field_of T.sT 1 T.tS rfl
        obtain ⟨f2, e2, t2⟩ := field_of T.sT 2 T.tAs rfl
        obtain ⟨f3, e3, t3⟩ := field_of T.sT 3 T.tTs rfl
        have h0 := hys 0 f0 y0 e0 rfl
        have h1 := hys 1 f1 y1 e1 rfl
        have h2 := hys 2 f2 y2 e2 rfl
        have h3 := hys 3 f3 y3 e3 rfl
        rw [t0] at h0; rw [t1] at h1; rw [t2] at h2; rw [t3] at h3
        obtain ⟨b, rfl⟩ := h0.inv_b T.uB
        obtain ⟨s, rfl⟩ := h1.inv_s T.uS
        obtain ⟨z2, rfl, g2⟩ := h2.inv_l T.uAs
        obtain ⟨z3, rfl, g3⟩ := h3.inv_l T.uTs
        obtain ⟨as, rfl, w2⟩ := Sh.attrs T z2 g2
        simp only [IV.wt, wtI] at hy
        obtain ⟨ks, rfl, w3⟩ := ih.2 z3 (by omega) g3
        exact ⟨.mk b s as ks, by simp [Tree.iv], by simp only [Tree.wt, IV.wt, wtI]; omega⟩
    refine ⟨one, fun ys => ?_⟩
    induction ys with
    | nil => exact fun _ _ => ⟨[], rfl, by simp [wtT, wtI]⟩
    | cons y r ihr =>
      intro hy h
      simp only [wtI] at hy
      obtain ⟨x, rfl, h1⟩ := one y (by omega) (h y (by simp))
      obtain ⟨xs, rfl, h2⟩ := ihr (by omega) (fun z hz => h z (by simp [hz]))
      exact ⟨x :: xs, rfl, by simp only [wtT, wtI]; omega⟩
theorem Sh.trees (T : TyT P) {y : IV} (h : Sh P T.tTs y) : ∃ xs : List Tree, y = .list (ivT xs) ∧ wtT xs ≤ y.wt := by
  obtain ⟨ys, rfl, hy⟩ := h.inv_l T.uTs
  obtain ⟨xs, rfl, hw⟩ := (Sh.treeN T (wtI ys)).2 ys (Nat.le_refl _) hy
  exact ⟨xs, rfl, by simp only [IV.wt]; omega⟩
end
end Go.Am

/- Documents: out of readings. -/
namespace Go.Am
open Go Go.RowKit
mutual
theorem Tree.wt_flat_le (off : Nat) (p : Int) : ∀ x : Tree, wtN (x.flat off p) + 1 ≤ 2 * x.wt
  | .mk t s as ks => by
    have := wt_flats_le (off + 1) off ks
    simp only [Tree.flat, wtN, Node.wt, Tree.wt, kidsAt_len]; omega
theorem wt_flats_le (off p : Nat) : ∀ xs : List Tree, wtN (flats off p xs) + xs.length ≤ 2 * wtT xs
  | [] => by simp [wtT, flats, wtN]
  | k :: r => by
    have := k.wt_flat_le off p
    have := wt_flats_le (off + k.cnt) p r
    simp only [flats, wtN_app, wtT, List.length_cons]; omega
end
theorem wt_docOf (x : Tree) : wtN (docOf x) ≤ 2 * x.wt := by have := x.wt_flat_le 0 (-1); unfold docOf; omega
section
variable {P : Program}
/-- The types of documents. -/
structure TyD (P : Program) (T : TyT P) where
  tI : TypeId
  tIs : TypeId
  tN : TypeId
  tNs : TypeId
  tD : TypeId
  fN : Array Field
  fD : Array Field
  uI : P.underlying tI = some (.int .i64)
  uIs : P.underlying tIs = some (.slice tI)
  uN : P.underlying tN = some (.struct fN)
  uNs : P.underlying tNs = some (.slice tN)
  uD : P.underlying tD = some (.struct fD)
  sN : fN.toList.map (·.type) = [T.tB, T.tS, T.tAs, tI, tIs]
  sD : fD.toList.map (·.type) = [tNs]
theorem Sh.tree (T : TyT P) {y : IV} (h : Sh P T.tT y) : ∃ x : Tree, y = x.iv ∧ x.wt ≤ y.wt := by
  obtain ⟨xs, e, hw⟩ := (Sh.treeN T (wtI [y])).2 [y] (Nat.le_refl _) (by simpa using h)
  match xs, e with
  | [x], e =>
    simp only [ivT, List.cons.injEq, and_true] at e
    exact ⟨x, e, by simp only [wtT, wtI] at hw; omega⟩
theorem Sh.ints {T : TyT P} (D : TyD P T) : ∀ (ys : List IV), (∀ y ∈ ys, Sh P D.tI y) → ∃ xs : List Int, ys = xs.map intIV ∧ xs.length ≤ wtI ys
  | [], _ => ⟨[], rfl, by simp [wtI]⟩
  | y :: r, h => by
    obtain ⟨n, rfl, _⟩ := (h y (by simp)).inv_i D.uI
    obtain ⟨xs, rfl, h2⟩ := Sh.ints D r (fun z hz => h z (by simp [hz]))
    exact ⟨n :: xs, rfl, by simp only [List.length_cons, wtI, IV.wt]; omega⟩
theorem Sh.node {T : TyT P} (D : TyD P T) {y : IV} (h : Sh P D.tN y) : ∃ x : Node, y = x.iv ∧ x.wt ≤ y.wt := by
  obtain ⟨ys, rfl, hl, hys⟩ := h.inv_g D.uN
  have hs : D.fN.size = 5 := by have := congrArg List.length D.sN; simpa using this
  match ys, hl.trans hs, hys with
  | [y0, y1, y2, y3, y4], _, hys =>
    obtain ⟨f0, e0, t0⟩ := field_of D.sN 0 T.tB rfl
    obtain ⟨f1, e1, t1⟩ := field_of D.sN 1 T.tS rfl
    obtain ⟨f2, e2, t2⟩ := field_of D.sN 2 T.tAs rfl
    obtain ⟨f3, e3, t3⟩ := field_of D.sN 3 D.tI rfl
    obtain ⟨f4, e4, t4⟩ := field_of D.sN 4 D.tIs rfl
    have h0 := hys 0 f0 y0 e0 rfl
    have h1 := hys 1 f1 y1 e1 rfl
    have h2 := hys 2 f2 y2 e2 rfl
    have h3 := hys 3 f3 y3 e3 rfl
    have h4 := hys 4 f4 y4 e4 rfl
    rw [t0] at h0; rw [t1] at h1; rw [t2] at h2; rw [t3] at h3; rw [t4] at h4
    obtain ⟨b, rfl⟩ := h0.inv_b T.uB
    obtain ⟨s, rfl⟩ := h1.inv_s T.uS
    obtain ⟨z2, rfl, g2⟩ := h2.inv_l T.uAs
    obtain ⟨p, rfl, _⟩ := h3.inv_i D.uI
    obtain ⟨z4, rfl, g4⟩ := h4.inv_l D.uIs
    obtain ⟨as, rfl, w2⟩ := Sh.attrs T z2 g2
    obtain ⟨ks, rfl, w4⟩ := Sh.ints D z4 g4
    exact ⟨⟨b, s, as, p, ks⟩, rfl, by simp only [Node.wt, IV.wt, wtI]; omega⟩
theorem Sh.nodes {T : TyT P} (D : TyD P T) : ∀ (ys : List IV), (∀ y ∈ ys, Sh P D.tN y) → ∃ d : Doc, ys = d.map Node.iv ∧ wtN d ≤ wtI ys
  | [], _ => ⟨[], rfl, by simp [wtI, wtN]⟩
  | y :: r, h => by
    obtain ⟨x, rfl, h1⟩ := (h y (by simp)).node D
    obtain ⟨d, rfl, h2⟩ := Sh.nodes D r (fun z hz => h z (by simp [hz]))
    exact ⟨x :: d, rfl, by simp only [wtN, wtI]; omega⟩
theorem Sh.doc {T : TyT P} (D : TyD P T) {y : IV} (h : Sh P D.tD y) : ∃ d : Doc, y = .agg [.list (d.map Node.iv)] ∧ wtN d ≤ y.wt := by
  obtain ⟨ys, rfl, hl, hys⟩ := h.inv_g D.uD
  have hs : D.fD.size = 1 := by have := congrArg List.length D.sD; simpa using this
  match ys, hl.trans hs, hys with
  | [y0], _, hys =>
    obtain ⟨f0, e0, t0⟩ := field_of D.sD 0 D.tNs rfl
    have h0 := hys 0 f0 y0 e0 rfl
    rw [t0] at h0
    obtain ⟨z, rfl, g⟩ := h0.inv_l D.uNs
    obtain ⟨d, rfl, w⟩ := Sh.nodes D z g
    exact ⟨d, rfl, by simp only [IV.wt, wtI]; omega⟩
end
end Go.Am
