import Derived.Test.YtfinkeaikbmpgaaDoorT60
import Derived.Test.YtfinkeaikbmpgaaDoorKT21
import Derived.Test.YtfinkeaikbmpgaaDoorKT4
import Derived.Test.YtfinkeaikbmpgaaDoorKAm23
set_option linter.unusedSimpArgs false
set_option linter.unusedVariables false
set_option linter.unnecessarySimpa false
set_option linter.defProp false
/- Reading: what stands in front. -/
set_option pp.deepTerms false
set_option pp.deepTerms.threshold 5
namespace Go.Am
open Go Go.RowKit
section
variable {P : Program} {G : Nat → Option (List IV)}
def c_strings_TrimLeft (f_strings_trimLeftByte f_strings_makeASCIISet f_strings_trimLeftASCII f_strings_trimLeftUnicode : Nat) : AC :=
(.seq (.reg [⟨(some 4), none, (.mov (.c (.str [])))⟩]) (.seq (.seq (.reg [⟨(some 7), none, (.mov (.t 0))⟩, ⟨(some 8), none, (.bin .eql (.t 7) (.c (.str [])))⟩, ⟨(some 9), none, (.mov (.t 8))⟩, ⟨(some 10), (some (9, false)), (.mov (.t 1))⟩, ⟨(some 11), (some (9, false)), (.bin .eql (.t 10) (.c (.str [])))⟩, ⟨(some 12), none, (.pick (.t 9) (.c (.bool true)) (.t 11))⟩]) (.cond (.t 12) (.seq (.reg [⟨(some 13), none, (.mov (.t 0))⟩, ⟨(some 4), none, (.mov (.t 13))⟩]) .ret) .skip)) (.seq (.seq (.reg [⟨(some 14), none, (.mov (.t 1))⟩, ⟨(some 15), none, (.lens (.t 14))⟩, ⟨(some 16), none, (.bin .eql (.t 15) (.c (.int .i64 1)))⟩, ⟨(some 17), none, (.mov (.t 16))⟩, ⟨(some 18), (some (17, true)), (.mov (.t 1))⟩, ⟨(some 19), (some (17, true)), (.ixs (.t 18) (.c (.int .i64 0)))⟩, ⟨(some 20), (some (17, true)), (.bin .lss (.t 19) (.c (.int .u8 128)))⟩, ⟨(some 21), none, (.pick (.t 17) (.t 20) (.c (.bool false)))⟩]) (.cond (.t 21) (.seq (.reg [⟨(some 22), none, (.mov (.t 0))⟩, ⟨(some 23), none, (.mov (.t 1))⟩, ⟨(some 24), none, (.ixs (.t 23) (.c (.int .i64 0)))⟩, ⟨(some 25), none, (.call f_strings_trimLeftByte [(.t 22), (.t 24)])⟩, ⟨(some 4), none, (.mov (.t 25))⟩]) .ret) .skip)) (.seq (.seq (.reg [⟨(some 27), none, (.mov (.t 1))⟩, ⟨(some 28), none, (.call f_strings_makeASCIISet [(.t 27)])⟩, ⟨(some 26), none, (.mov (.t 28))⟩, ⟨(some 29), none, (.ext (.t 26) 0)⟩, ⟨(some 30), none, (.ext (.t 26) 1)⟩, ⟨(some 5), none, (.new (List.replicate 256 (.bool false)))⟩, ⟨none, none, (.store 256 (.t 5) (.t 29))⟩, ⟨(some 6), none, (.mov (.t 30))⟩]) (.seq (.reg [⟨(some 31), none, (.mov (.t 6))⟩]) (.cond (.t 31) (.seq (.reg [⟨(some 32), none, (.mov (.t 0))⟩, ⟨(some 33), none, (.call f_strings_trimLeftASCII [(.t 32), (.t 5)])⟩, ⟨(some 4), none, (.mov (.t 33))⟩]) .ret) .skip))) (.seq (.reg [⟨(some 34), none, (.mov (.t 0))⟩, ⟨(some 35), none, (.mov (.t 1))⟩, ⟨(some 36), none, (.call f_strings_trimLeftUnicode [(.t 34), (.t 35)])⟩, ⟨(some 4), none, (.mov (.t 36))⟩]) .ret)))))
theorem pTrimL {f_strings_TrimLeft f_strings_makeASCIISet f_strings_trimLeftASCII f_strings_trimLeftByte f_strings_trimLeftUnicode : Nat} (hF : compF P G f_strings_TrimLeft = some (37, [(none, 4)], (c_strings_TrimLeft f_strings_trimLeftByte f_strings_makeASCIISet f_strings_trimLeftASCII f_strings_trimLeftUnicode).bare)) (s t : Bs) (hs : s.length ≤ B) (ht : 2 ≤ t.length)
    (hM : PureC P G f_strings_makeASCIISet [.str t] (.tup [.agg (setA (memB t)), .bool true]))
    (hL : MutC P G f_strings_trimLeftASCII [.str s, .ptr (.par 0) 256 0 0] (setA (memB t)) fun x cs => x = .str (trimL (memB t) s) ∧ cs = setA (memB t)) :
    PureC P G f_strings_TrimLeft [.str s, .str t] (.str (trimL (memB t) s)) := by
  refine pure_of_go hF (by simp) (by simp [lbss, AV.lbs]) (by simp [AV.lbs]) ?_
  unfold c_strings_TrimLeft
  simp only [↓aX, evp, evq, evl, boxK, stillV, binV, AV.cells, mP, loadV, storeV, ldV, AV.stb, AV.one, IV.av1, Lb.app, Lb.fresh, reduceCtorEq, ptrL, appL, fillA, chunks, ivs, AV.iv, mkE, if_false, if_true, List.not_mem_nil, forall_eq, beq_self_eq_true, List.isEmpty_nil, Nat.reduceEqDiff, Nat.reduceLT, Nat.reduceLeDiff, Nat.reduceAdd, Nat.reduceMul, Int.reduceToNat, Int.reduceLE, Int.reduceLT]
  have e1 : (t == []) = false := by cases t <;> simp_all
  have e2 : (((t.length : Nat) : Int) == 1) = false := by rw [beq_eq_false_iff_ne]; omega
  cases hs0 : (s == []) with
  | true =>
    have : s = [] := by simpa using hs0
    subst this
    simp only [↓aX, evp, evq, evl, boxK, stillV, binV, AV.cells, mP, loadV, storeV, ldV, AV.stb, AV.one, IV.av1, Lb.app, Lb.fresh, reduceCtorEq, ptrL, appL, fillA, chunks, ivs, AV.iv, mkE, if_false, if_true, List.not_mem_nil, forall_eq, beq_self_eq_true, List.isEmpty_nil, Nat.reduceEqDiff, Nat.reduceLT, Nat.reduceLeDiff, Nat.reduceAdd, Nat.reduceMul, Int.reduceToNat, Int.reduceLE, Int.reduceLT]
    rfl
  | false =>
    simp only [↓aX, evp, evq, evl, boxK, stillV, binV, AV.cells, mP, loadV, storeV, ldV, AV.stb, AV.one, IV.av1, Lb.app, Lb.fresh, reduceCtorEq, ptrL, appL, fillA, chunks, ivs, AV.iv, mkE, if_false, if_true, List.not_mem_nil, forall_eq, beq_self_eq_true, List.isEmpty_nil, Nat.reduceEqDiff, Nat.reduceLT, Nat.reduceLeDiff, Nat.reduceAdd, Nat.reduceMul, Int.reduceToNat, Int.reduceLE, Int.reduceLT, e1, e2]
    refine callT_pure hM ?_
    simp only [↓aX, evp, evq, evl, boxK, stillV, binV, AV.cells, mP, loadV, storeV, ldV, AV.stb, AV.one, IV.av1, Lb.app, Lb.fresh, reduceCtorEq, ptrL, appL, fillA, chunks, ivs, AV.iv, mkE, if_false, if_true, List.not_mem_nil, forall_eq, beq_self_eq_true, List.isEmpty_nil, Nat.reduceEqDiff, Nat.reduceLT, Nat.reduceLeDiff, Nat.reduceAdd, Nat.reduceMul, Int.reduceToNat, Int.reduceLE, Int.reduceLT, List.length_replicate, setA_no, setA_len, setA_take, setA_drop, setA_one, List.append_nil]
    refine callT_mut (l := .loc 5) hL rfl (by simp only [↓aX, evp, evq, evl, boxK, stillV, binV, AV.cells, mP, loadV, storeV, ldV, AV.stb, AV.one, IV.av1, Lb.app, Lb.fresh, reduceCtorEq, ptrL, appL, fillA, chunks, ivs, AV.iv, mkE, if_false, if_true, List.not_mem_nil, forall_eq, beq_self_eq_true, List.isEmpty_nil, Nat.reduceEqDiff, Nat.reduceLT, Nat.reduceLeDiff, Nat.reduceAdd, Nat.reduceMul, Int.reduceToNat, Int.reduceLE, Int.reduceLT, setA_len]) ?_
    rintro x1 cs' ⟨rfl, rfl⟩ _ _ _
    simp only [↓aX, evp, evq, evl, boxK, stillV, binV, AV.cells, mP, loadV, storeV, ldV, AV.stb, AV.one, IV.av1, Lb.app, Lb.fresh, reduceCtorEq, ptrL, appL, fillA, chunks, ivs, AV.iv, mkE, if_false, if_true, List.not_mem_nil, forall_eq, beq_self_eq_true, List.isEmpty_nil, Nat.reduceEqDiff, Nat.reduceLT, Nat.reduceLeDiff, Nat.reduceAdd, Nat.reduceMul, Int.reduceToNat, Int.reduceLE, Int.reduceLT, setA_len, List.length_replicate]
theorem memB_sp (c : UInt8) : memB [32, 10] c.toNat = isSp c := by
  have : ∀ n : Fin 256, memB [32, 10] (UInt8.ofNat n.val).toNat = isSp (UInt8.ofNat n.val) := by decide +kernel
  have h := this ⟨c.toNat, c.toNat_lt⟩
  simpa using h
theorem trim_sp (s : Bs) : trimL (memB [32, 10]) s = s.dropWhile isSp := by
  unfold trimL
  congr 1
  funext c; exact memB_sp c
/-- What a reader holds. -/
abbrev rdC (s : Bs) (b : Bool) : List AV := [.str s, .bool b]
def cutP1 (p s : Bs) : Bs := if p.isPrefixOf s then s.drop p.length else s
theorem cutP1_le (p s : Bs) : (cutP1 p s).length ≤ s.length := by unfold cutP1; split <;> simp
def c_mark_reader_at (f_strings_CutPrefix : Nat) : AC :=
(.seq (.reg [⟨(some 4), none, (.mov (.c (.bool false)))⟩]) (.seq (.reg [⟨(some 8), none, (.mov (.t 0))⟩, ⟨(some 9), none, (.nchk (.t 8))⟩, ⟨(some 10), none, (.fld (.t 9) 0)⟩, ⟨(some 11), none, (.load none (.t 10))⟩, ⟨(some 12), none, (.mov (.t 1))⟩, ⟨(some 13), none, (.call f_strings_CutPrefix [(.t 11), (.t 12)])⟩, ⟨(some 7), none, (.mov (.t 13))⟩, ⟨(some 14), none, (.ext (.t 7) 0)⟩, ⟨(some 15), none, (.ext (.t 7) 1)⟩, ⟨(some 5), none, (.mov (.t 14))⟩, ⟨(some 6), none, (.mov (.t 15))⟩]) (.seq (.seq (.reg [⟨(some 16), none, (.mov (.t 6))⟩]) (.cond (.t 16) (.reg [⟨(some 17), none, (.mov (.t 0))⟩, ⟨(some 18), none, (.mov (.t 5))⟩, ⟨(some 19), none, (.nchk (.t 17))⟩, ⟨(some 20), none, (.fld (.t 19) 0)⟩, ⟨none, none, (.store 1 (.t 20) (.t 18))⟩]) .skip)) (.seq (.reg [⟨(some 21), none, (.mov (.t 6))⟩, ⟨(some 4), none, (.mov (.t 21))⟩]) .ret))))
theorem pRAt {f_mark_reader_at f_strings_CutPrefix : Nat} (hF : compF P G f_mark_reader_at = some (22, [(none, 4)], (c_mark_reader_at f_strings_CutPrefix).bare)) (hC : ∀ s t : Bs, PureC P G f_strings_CutPrefix [.str s, .str t] (.tup [.str (if t.isPrefixOf s then s.drop t.length else s), .bool (t.isPrefixOf s)])) (s p : Bs) (b : Bool) :
    MutC P G f_mark_reader_at [.ptr (.par 0) 2 0 0, .str p] (rdC s b) fun x cs => x = .bool (p.isPrefixOf s) ∧ cs = rdC (cutP1 p s) b := by
  refine mut_of_go hF (by simp) (by simp [lbss, AV.lbs]) (by simp [lbss, AV.lbs]) ?_
  unfold c_mark_reader_at
  simp only [↓aX, evp, evq, evl, boxK, stillV, binV, AV.cells, mP, loadV, storeV, ldV, AV.stb, AV.one, IV.av1, Lb.app, Lb.fresh, reduceCtorEq, ptrL, appL, fillA, chunks, ivs, AV.iv, mkE, if_false, if_true, List.not_mem_nil, forall_eq, beq_self_eq_true, List.isEmpty_nil, Nat.reduceEqDiff, Nat.reduceLT, Nat.reduceLeDiff, Nat.reduceAdd, Nat.reduceMul, Int.reduceToNat, Int.reduceLE, Int.reduceLT, row1]
  refine callT_pure (hC s p) ?_
  cases h : p.isPrefixOf s with
  | true =>
    simp only [↓aX, evp, evq, evl, boxK, stillV, binV, AV.cells, mP, loadV, storeV, ldV, AV.stb, AV.one, IV.av1, Lb.app, Lb.fresh, reduceCtorEq, ptrL, appL, fillA, chunks, ivs, AV.iv, mkE, if_false, if_true, List.not_mem_nil, forall_eq, beq_self_eq_true, List.isEmpty_nil, Nat.reduceEqDiff, Nat.reduceLT, Nat.reduceLeDiff, Nat.reduceAdd, Nat.reduceMul, Int.reduceToNat, Int.reduceLE, Int.reduceLT, ret1_r]
    exact ⟨rdC (cutP1 p s) b, by simp [upd_at, cutP1, h, lbss, AV.lbs]⟩
  | false =>
    simp only [↓aX, evp, evq, evl, boxK, stillV, binV, AV.cells, mP, loadV, storeV, ldV, AV.stb, AV.one, IV.av1, Lb.app, Lb.fresh, reduceCtorEq, ptrL, appL, fillA, chunks, ivs, AV.iv, mkE, if_false, if_true, List.not_mem_nil, forall_eq, beq_self_eq_true, List.isEmpty_nil, Nat.reduceEqDiff, Nat.reduceLT, Nat.reduceLeDiff, Nat.reduceAdd, Nat.reduceMul, Int.reduceToNat, Int.reduceLE, Int.reduceLT, ret1_r]
    exact ⟨rdC (cutP1 p s) b, by simp [upd_at, cutP1, h, lbss, AV.lbs]⟩
def c_mark_reader_take (f_mark_reader_at : Nat) : AC :=
(.seq (.reg [⟨(some 4), none, (.mov (.t 0))⟩, ⟨(some 5), none, (.mov (.t 1))⟩, ⟨(some 6), none, (.call f_mark_reader_at [(.t 4), (.t 5)])⟩, ⟨(some 7), none, (.not (.t 6))⟩]) (.cond (.t 7) (.reg [⟨(some 8), none, (.mov (.t 0))⟩, ⟨(some 9), none, (.nchk (.t 8))⟩, ⟨(some 10), none, (.fld (.t 9) 1)⟩, ⟨none, none, (.store 1 (.t 10) (.c (.bool true)))⟩]) .skip))
theorem pRTake {f_mark_reader_take f_mark_reader_at : Nat} (hF : compF P G f_mark_reader_take = some (11, [], (c_mark_reader_take f_mark_reader_at).bare)) (s p : Bs) (b : Bool)
    (hA : MutC P G f_mark_reader_at [.ptr (.par 0) 2 0 0, .str p] (rdC s b) fun x cs => x = .bool (p.isPrefixOf s) ∧ cs = rdC (cutP1 p s) b) :
    MutC P G f_mark_reader_take [.ptr (.par 0) 2 0 0, .str p] (rdC s b) fun x cs => cs = rdC (cutP1 p s) (b || !p.isPrefixOf s) := by
  refine mut_of_go hF (by simp) (by simp [lbss, AV.lbs]) (by simp [lbss, AV.lbs]) ?_
  unfold c_mark_reader_take
  simp only [↓aX, evp, evq, evl, boxK, stillV, binV, AV.cells, mP, loadV, storeV, ldV, AV.stb, AV.one, IV.av1, Lb.app, Lb.fresh, reduceCtorEq, ptrL, appL, fillA, chunks, ivs, AV.iv, mkE, if_false, if_true, List.not_mem_nil, forall_eq, beq_self_eq_true, List.isEmpty_nil, Nat.reduceEqDiff, Nat.reduceLT, Nat.reduceLeDiff, Nat.reduceAdd, Nat.reduceMul, Int.reduceToNat, Int.reduceLE, Int.reduceLT, row1]
  refine callT_mut (l := .par 0) hA (by simp [rens, ren, atL]) (by simp [upd_at]) ?_
  rintro x1 cs' ⟨rfl, rfl⟩ _ _ _
  cases h : p.isPrefixOf s with
  | true =>
    simp only [↓aX, evp, evq, evl, boxK, stillV, binV, AV.cells, mP, loadV, storeV, ldV, AV.stb, AV.one, IV.av1, Lb.app, Lb.fresh, reduceCtorEq, ptrL, appL, fillA, chunks, ivs, AV.iv, mkE, if_false, if_true, List.not_mem_nil, forall_eq, beq_self_eq_true, List.isEmpty_nil, Nat.reduceEqDiff, Nat.reduceLT, Nat.reduceLeDiff, Nat.reduceAdd, Nat.reduceMul, Int.reduceToNat, Int.reduceLE, Int.reduceLT, Bool.not_true, ret_n, resVs, oneV]
    exact ⟨_, rfl, rdC (cutP1 p s) (b || !p.isPrefixOf s), by simp [upd_at, h, lbss, AV.lbs]⟩
  | false =>
    simp only [↓aX, evp, evq, evl, boxK, stillV, binV, AV.cells, mP, loadV, storeV, ldV, AV.stb, AV.one, IV.av1, Lb.app, Lb.fresh, reduceCtorEq, ptrL, appL, fillA, chunks, ivs, AV.iv, mkE, if_false, if_true, List.not_mem_nil, forall_eq, beq_self_eq_true, List.isEmpty_nil, Nat.reduceEqDiff, Nat.reduceLT, Nat.reduceLeDiff, Nat.reduceAdd, Nat.reduceMul, Int.reduceToNat, Int.reduceLE, Int.reduceLT, Bool.not_false, ret_n, resVs, oneV]
    exact ⟨_, rfl, rdC (cutP1 p s) (b || !p.isPrefixOf s), by simp [upd_at, h, lbss, AV.lbs]⟩
def c_mark_reader_space (f_strings_TrimLeft : Nat) : AC :=
(.seq (.reg [⟨(some 2), none, (.mov (.c (.bool false)))⟩]) (.seq (.reg [⟨(some 4), none, (.mov (.t 0))⟩, ⟨(some 5), none, (.nchk (.t 4))⟩, ⟨(some 6), none, (.fld (.t 5) 0)⟩, ⟨(some 7), none, (.load none (.t 6))⟩, ⟨(some 8), none, (.lens (.t 7))⟩, ⟨(some 3), none, (.mov (.t 8))⟩]) (.seq (.reg [⟨(some 9), none, (.mov (.t 0))⟩, ⟨(some 10), none, (.mov (.t 0))⟩, ⟨(some 11), none, (.nchk (.t 10))⟩, ⟨(some 12), none, (.fld (.t 11) 0)⟩, ⟨(some 13), none, (.load none (.t 12))⟩, ⟨(some 14), none, (.call f_strings_TrimLeft [(.t 13), (.c (.str [32, 10]))])⟩, ⟨(some 15), none, (.nchk (.t 9))⟩, ⟨(some 16), none, (.fld (.t 15) 0)⟩, ⟨none, none, (.store 1 (.t 16) (.t 14))⟩]) (.seq (.reg [⟨(some 17), none, (.mov (.t 0))⟩, ⟨(some 18), none, (.nchk (.t 17))⟩, ⟨(some 19), none, (.fld (.t 18) 0)⟩, ⟨(some 20), none, (.load none (.t 19))⟩, ⟨(some 21), none, (.lens (.t 20))⟩, ⟨(some 22), none, (.mov (.t 3))⟩, ⟨(some 23), none, (.bin .lss (.t 21) (.t 22))⟩, ⟨(some 2), none, (.mov (.t 23))⟩]) .ret))))
theorem pRSpace {f_mark_reader_space f_strings_TrimLeft : Nat} (hF : compF P G f_mark_reader_space = some (24, [(none, 2)], (c_mark_reader_space f_strings_TrimLeft).bare)) (s : Bs) (b : Bool) (hT : PureC P G f_strings_TrimLeft [.str s, .str [32, 10]] (.str (s.dropWhile isSp))) :
    MutC P G f_mark_reader_space [.ptr (.par 0) 2 0 0] (rdC s b) fun x cs => x = .bool (decide ((s.dropWhile isSp).length < s.length)) ∧ cs = rdC (s.dropWhile isSp) b := by
  refine mut_of_go hF (by simp) (by simp [lbss, AV.lbs]) (by simp [lbss, AV.lbs]) ?_
  unfold c_mark_reader_space
  simp only [↓aX, evp, evq, evl, boxK, stillV, binV, AV.cells, mP, loadV, storeV, ldV, AV.stb, AV.one, IV.av1, Lb.app, Lb.fresh, reduceCtorEq, ptrL, appL, fillA, chunks, ivs, AV.iv, mkE, if_false, if_true, List.not_mem_nil, forall_eq, beq_self_eq_true, List.isEmpty_nil, Nat.reduceEqDiff, Nat.reduceLT, Nat.reduceLeDiff, Nat.reduceAdd, Nat.reduceMul, Int.reduceToNat, Int.reduceLE, Int.reduceLT, row1]
  refine callT_pure hT ?_
  simp only [↓aX, evp, evq, evl, boxK, stillV, binV, AV.cells, mP, loadV, storeV, ldV, AV.stb, AV.one, IV.av1, Lb.app, Lb.fresh, reduceCtorEq, ptrL, appL, fillA, chunks, ivs, AV.iv, mkE, if_false, if_true, List.not_mem_nil, forall_eq, beq_self_eq_true, List.isEmpty_nil, Nat.reduceEqDiff, Nat.reduceLT, Nat.reduceLeDiff, Nat.reduceAdd, Nat.reduceMul, Int.reduceToNat, Int.reduceLE, Int.reduceLT, ret1_r]
  exact ⟨rdC (s.dropWhile isSp) b, by simp [upd_at, lbss, AV.lbs]⟩
theorem takeW_at {p : UInt8 → Bool} : ∀ {s : Bs} {i : Nat} {c : UInt8}, s[i]? = some c → (∀ x ∈ s.take i, p x = true) → (p c = true → ∀ x ∈ s.take (i + 1), p x = true) ∧ (p c = false → s.takeWhile p = s.take i ∧ s.dropWhile p = s.drop i) := by
  intro s i c h hi
  refine ⟨fun hc x hx => ?_, fun hc => ?_⟩
  · rw [List.take_add_one, h] at hx
    simp only [Option.toList_some, List.mem_append, List.mem_singleton] at hx
    rcases hx with hx | rfl
    · exact hi x hx
    · exact hc
  · have hl := (List.getElem?_eq_some_iff.1 h).1
    have e : s = s.take i ++ s.drop i := (List.take_append_drop i s).symm
    have hd : s.drop i = c :: s.drop (i + 1) := by
      rw [List.drop_eq_getElem_cons hl]
      congr 1
      exact (List.getElem?_eq_some_iff.1 h).2
    have h2 : (s.take i ++ s.drop i).takeWhile p = s.take i ∧ (s.take i ++ s.drop i).dropWhile p = s.drop i :=
      takeW_app (s.take i) (s.drop i) hi (fun c' q hq => by rw [hd] at hq; cases hq; exact hc)
    rw [List.take_append_drop] at h2
    exact h2
theorem takeW_all {p : UInt8 → Bool} {s : Bs} (h : ∀ x ∈ s, p x = true) : s.takeWhile p = s ∧ s.dropWhile p = [] := by
  have := takeW_app (p := p) s [] h (by simp)
  simpa using this
theorem isLow_eq (c : UInt8) : isLow c = (decide ((c.toNat : Int) ≥ 97) && decide ((c.toNat : Int) ≤ 122)) := by
  unfold isLow
  congr 1
  · rw [decide_eq_decide, UInt8.le_iff_toNat_le]; show 97 ≤ _ ↔ _; omega
  · rw [decide_eq_decide, UInt8.le_iff_toNat_le]; show _ ≤ 122 ↔ _; omega
def c_mark_reader_name : AC :=
(.seq (.reg [⟨(some 2), none, (.mov (.c (.str [])))⟩]) (.seq (.reg [⟨(some 3), none, (.mov (.c (.int .i64 0)))⟩]) (.seq (.block 0 (.loop (.seq (.seq (.reg [⟨(some 5), none, (.mov (.t 3))⟩, ⟨(some 6), none, (.mov (.t 0))⟩, ⟨(some 7), none, (.nchk (.t 6))⟩, ⟨(some 8), none, (.fld (.t 7) 0)⟩, ⟨(some 9), none, (.load none (.t 8))⟩, ⟨(some 10), none, (.lens (.t 9))⟩, ⟨(some 11), none, (.bin .lss (.t 5) (.t 10))⟩, ⟨(some 12), none, (.mov (.t 11))⟩, ⟨(some 13), (some (12, true)), (.mov (.t 0))⟩, ⟨(some 14), (some (12, true)), (.nchk (.t 13))⟩, ⟨(some 15), (some (12, true)), (.fld (.t 14) 0)⟩, ⟨(some 16), (some (12, true)), (.load none (.t 15))⟩, ⟨(some 17), (some (12, true)), (.mov (.t 3))⟩, ⟨(some 18), (some (12, true)), (.ixs (.t 16) (.t 17))⟩, ⟨(some 19), (some (12, true)), (.bin .geq (.t 18) (.c (.int .u8 97)))⟩, ⟨(some 20), none, (.pick (.t 12) (.t 19) (.c (.bool false)))⟩, ⟨(some 21), none, (.mov (.t 20))⟩, ⟨(some 22), (some (21, true)), (.mov (.t 0))⟩, ⟨(some 23), (some (21, true)), (.nchk (.t 22))⟩, ⟨(some 24), (some (21, true)), (.fld (.t 23) 0)⟩, ⟨(some 25), (some (21, true)), (.load none (.t 24))⟩, ⟨(some 26), (some (21, true)), (.mov (.t 3))⟩, ⟨(some 27), (some (21, true)), (.ixs (.t 25) (.t 26))⟩, ⟨(some 28), (some (21, true)), (.bin .leq (.t 27) (.c (.int .u8 122)))⟩, ⟨(some 29), none, (.pick (.t 21) (.t 28) (.c (.bool false)))⟩]) (.cond (.t 29) .skip (.exit 0))) (.block 1 (.reg [⟨(some 30), none, (.mov (.t 3))⟩, ⟨(some 31), none, (.bin .add (.t 30) (.c (.int .i64 1)))⟩, ⟨(some 3), none, (.mov (.t 31))⟩]))))) (.seq (.reg [⟨(some 32), none, (.mov (.t 0))⟩, ⟨(some 33), none, (.nchk (.t 32))⟩, ⟨(some 34), none, (.fld (.t 33) 0)⟩, ⟨(some 35), none, (.load none (.t 34))⟩, ⟨(some 36), none, (.mov (.t 3))⟩, ⟨(some 37), none, (.slcs (.t 35) none (some (.t 36)))⟩, ⟨(some 4), none, (.mov (.t 37))⟩]) (.seq (.reg [⟨(some 38), none, (.mov (.t 0))⟩, ⟨(some 39), none, (.mov (.t 0))⟩, ⟨(some 40), none, (.nchk (.t 39))⟩, ⟨(some 41), none, (.fld (.t 40) 0)⟩, ⟨(some 42), none, (.load none (.t 41))⟩, ⟨(some 43), none, (.mov (.t 3))⟩, ⟨(some 44), none, (.slcs (.t 42) (some (.t 43)) none)⟩, ⟨(some 45), none, (.nchk (.t 38))⟩, ⟨(some 46), none, (.fld (.t 45) 0)⟩, ⟨none, none, (.store 1 (.t 46) (.t 44))⟩]) (.seq (.reg [⟨(some 47), none, (.mov (.t 0))⟩, ⟨(some 48), none, (.mov (.t 0))⟩, ⟨(some 49), none, (.nchk (.t 48))⟩, ⟨(some 50), none, (.fld (.t 49) 1)⟩, ⟨(some 51), none, (.load none (.t 50))⟩, ⟨(some 52), none, (.mov (.t 51))⟩, ⟨(some 53), (some (52, false)), (.mov (.t 3))⟩, ⟨(some 54), (some (52, false)), (.bin .eql (.t 53) (.c (.int .i64 0)))⟩, ⟨(some 55), none, (.pick (.t 52) (.c (.bool true)) (.t 54))⟩, ⟨(some 56), none, (.mov (.t 55))⟩, ⟨(some 57), (some (56, false)), (.mov (.t 3))⟩, ⟨(some 58), (some (56, false)), (.bin .gtr (.t 57) (.c (.int .i64 8)))⟩, ⟨(some 59), none, (.pick (.t 56) (.c (.bool true)) (.t 58))⟩, ⟨(some 60), none, (.nchk (.t 47))⟩, ⟨(some 61), none, (.fld (.t 60) 1)⟩, ⟨none, none, (.store 1 (.t 61) (.t 59))⟩]) (.seq (.reg [⟨(some 62), none, (.mov (.t 4))⟩, ⟨(some 2), none, (.mov (.t 62))⟩]) .ret)))))))
theorem pRName {f_mark_reader_name : Nat} (hF : compF P G f_mark_reader_name = some (63, [(none, 2)], c_mark_reader_name.bare)) (s : Bs) (hs : s.length ≤ B) (b : Bool) :
    MutC P G f_mark_reader_name [.ptr (.par 0) 2 0 0] (rdC s b) fun x cs => x = .str (s.takeWhile isLow) ∧ cs = rdC (s.dropWhile isLow) (b || (decide (s.takeWhile isLow = []) || decide (8 < (s.takeWhile isLow).length))) := by
  refine mut_of_go hF (by simp) (by simp [lbss, AV.lbs]) (by simp [lbss, AV.lbs]) ?_
  have hBv : B = 1073741824 := rfl
  unfold c_mark_reader_name
  simp only [↓aX, evp, evq, evl, boxK, stillV, binV, AV.cells, mP, loadV, storeV, ldV, AV.stb, AV.one, IV.av1, Lb.app, Lb.fresh, reduceCtorEq, ptrL, appL, fillA, chunks, ivs, AV.iv, mkE, if_false, if_true, List.not_mem_nil, forall_eq, beq_self_eq_true, List.isEmpty_nil, Nat.reduceEqDiff, Nat.reduceLT, Nat.reduceLeDiff, Nat.reduceAdd, Nat.reduceMul, Int.reduceToNat, Int.reduceLE, Int.reduceLT, row1]
  refine loop_same (σ := { i : Nat // i ≤ s.length ∧ ∀ c ∈ s.take i, isLow c = true }) [.par 0] (fun q => [(0, .ptr (.par 0) 2 0 0), (3, .int .i64 q.1)]) (fun _ => [(.par 0, ⟨2, [rdC s b]⟩)]) (fun q => s.length - q.1) ⟨0, by simp⟩ (fun _ => rfl) (by decide) (by simp [lbss, AV.lbs]) (by simp [lbss, AV.lbs]) ?_ ?_
  · refine WS_mk ?_ (by repeat' constructor) (by repeat' constructor)
    intro l hl hu
    by_cases e : l = .par 0
    · subst e; simp
    · exfalso; apply hu; simp [upd_at, e, Hp.none]
  · rintro ⟨i, hi, hall⟩
    simp only [↓aX, evp, evq, evl, boxK, stillV, binV, AV.cells, mP, loadV, storeV, ldV, AV.stb, AV.one, IV.av1, Lb.app, Lb.fresh, reduceCtorEq, ptrL, appL, fillA, chunks, ivs, AV.iv, mkE, if_false, if_true, List.not_mem_nil, forall_eq, beq_self_eq_true, List.isEmpty_nil, Nat.reduceEqDiff, Nat.reduceLT, Nat.reduceLeDiff, Nat.reduceAdd, Nat.reduceMul, Int.reduceToNat, Int.reduceLE, Int.reduceLT, ofH_nil, ofH_cons]
    have fin : s.takeWhile isLow = s.take i → (((i : Nat) : Int) == 0) = decide (s.takeWhile isLow = []) ∧ decide (((i : Nat) : Int) > 8) = decide (8 < (s.takeWhile isLow).length) := by
      intro h1
      rw [h1]
      constructor
      · rw [Bool.eq_iff_iff, beq_iff_eq, decide_eq_true_eq, ← List.length_eq_zero_iff, List.length_take]; omega
      · rw [decide_eq_decide, List.length_take]; omega
    by_cases hlt : i < s.length
    · rw [show decide (((i : Nat) : Int) < ((s.length : Nat) : Int)) = true by simpa using hlt]
      obtain ⟨c, hc⟩ := get_byte hlt
      have hw : IntKind.i64.wrap ((i : Int) + 1) = ((i + 1 : Nat) : Int) := wrap64 (by omega) (by omega)
      have hst := takeW_at hc hall
      rw [isLow_eq] at hst
      simp only [↓aX, evp, evq, evl, boxK, stillV, binV, AV.cells, mP, loadV, storeV, ldV, AV.stb, AV.one, IV.av1, Lb.app, Lb.fresh, reduceCtorEq, ptrL, appL, fillA, chunks, ivs, AV.iv, mkE, if_false, if_true, List.not_mem_nil, forall_eq, beq_self_eq_true, List.isEmpty_nil, Nat.reduceEqDiff, Nat.reduceLT, Nat.reduceLeDiff, Nat.reduceAdd, Nat.reduceMul, Int.reduceToNat, Int.reduceLE, Int.reduceLT, hc, Int.natCast_nonneg, Int.toNat_natCast]
      have next : (decide ((c.toNat : Int) ≥ 97) && decide ((c.toNat : Int) ≤ 122)) = true → ∃ q : { i : Nat // i ≤ s.length ∧ ∀ c ∈ s.take i, isLow c = true }, q.1 = i + 1 := fun h => ⟨⟨i + 1, hlt, hst.1 h⟩, rfl⟩
      have stop : (decide ((c.toNat : Int) ≥ 97) && decide ((c.toNat : Int) ≤ 122)) = false → s.takeWhile isLow = s.take i ∧ s.dropWhile isLow = s.drop i := hst.2
      cases h1 : decide ((c.toNat : Int) ≥ 97) with
      | false =>
        obtain ⟨e1, e2⟩ := stop (by rw [h1]; rfl)
        simp only [↓aX, evp, evq, evl, boxK, stillV, binV, AV.cells, mP, loadV, storeV, ldV, AV.stb, AV.one, IV.av1, Lb.app, Lb.fresh, reduceCtorEq, ptrL, appL, fillA, chunks, ivs, AV.iv, mkE, if_false, if_true, List.not_mem_nil, forall_eq, beq_self_eq_true, List.isEmpty_nil, Nat.reduceEqDiff, Nat.reduceLT, Nat.reduceLeDiff, Nat.reduceAdd, Nat.reduceMul, Int.reduceToNat, Int.reduceLE, Int.reduceLT, bnd, Int.natCast_nonneg, Int.toNat_natCast, true_and, hi, if_true, Option.bind_some, Option.map_some, Nat.sub_zero, List.drop_zero, Nat.zero_le, List.take_length, Nat.le_refl]
        obtain ⟨f1, f2⟩ := fin e1
        cases b with
        | true =>
          simp only [↓aX, evp, evq, evl, boxK, stillV, binV, AV.cells, mP, loadV, storeV, ldV, AV.stb, AV.one, IV.av1, Lb.app, Lb.fresh, reduceCtorEq, ptrL, appL, fillA, chunks, ivs, AV.iv, mkE, if_false, if_true, List.not_mem_nil, forall_eq, beq_self_eq_true, List.isEmpty_nil, Nat.reduceEqDiff, Nat.reduceLT, Nat.reduceLeDiff, Nat.reduceAdd, Nat.reduceMul, Int.reduceToNat, Int.reduceLE, Int.reduceLT, ret1_r]
          exact ⟨rdC (s.dropWhile isLow) true, by simp [upd_at, lbss, AV.lbs, e1, e2]⟩
        | false =>
          simp only [↓aX, evp, evq, evl, boxK, stillV, binV, AV.cells, mP, loadV, storeV, ldV, AV.stb, AV.one, IV.av1, Lb.app, Lb.fresh, reduceCtorEq, ptrL, appL, fillA, chunks, ivs, AV.iv, mkE, if_false, if_true, List.not_mem_nil, forall_eq, beq_self_eq_true, List.isEmpty_nil, Nat.reduceEqDiff, Nat.reduceLT, Nat.reduceLeDiff, Nat.reduceAdd, Nat.reduceMul, Int.reduceToNat, Int.reduceLE, Int.reduceLT, f1]
          cases h3 : decide (s.takeWhile isLow = []) with
          | true =>
            simp only [↓aX, evp, evq, evl, boxK, stillV, binV, AV.cells, mP, loadV, storeV, ldV, AV.stb, AV.one, IV.av1, Lb.app, Lb.fresh, reduceCtorEq, ptrL, appL, fillA, chunks, ivs, AV.iv, mkE, if_false, if_true, List.not_mem_nil, forall_eq, beq_self_eq_true, List.isEmpty_nil, Nat.reduceEqDiff, Nat.reduceLT, Nat.reduceLeDiff, Nat.reduceAdd, Nat.reduceMul, Int.reduceToNat, Int.reduceLE, Int.reduceLT, ret1_r]
            refine ⟨rdC (s.dropWhile isLow) true, ?_⟩
            rw [← e1, ← e2]
            simp [upd_at, lbss, AV.lbs, h3]
          | false =>
            simp only [↓aX, evp, evq, evl, boxK, stillV, binV, AV.cells, mP, loadV, storeV, ldV, AV.stb, AV.one, IV.av1, Lb.app, Lb.fresh, reduceCtorEq, ptrL, appL, fillA, chunks, ivs, AV.iv, mkE, if_false, if_true, List.not_mem_nil, forall_eq, beq_self_eq_true, List.isEmpty_nil, Nat.reduceEqDiff, Nat.reduceLT, Nat.reduceLeDiff, Nat.reduceAdd, Nat.reduceMul, Int.reduceToNat, Int.reduceLE, Int.reduceLT, f2, ret1_r]
            refine ⟨rdC (s.dropWhile isLow) (decide (8 < (s.takeWhile isLow).length)), ?_⟩
            rw [← e1, ← e2]
            simp [upd_at, lbss, AV.lbs, h3]
      | true =>
      simp only [↓aX, evp, evq, evl, boxK, stillV, binV, AV.cells, mP, loadV, storeV, ldV, AV.stb, AV.one, IV.av1, Lb.app, Lb.fresh, reduceCtorEq, ptrL, appL, fillA, chunks, ivs, AV.iv, mkE, if_false, if_true, List.not_mem_nil, forall_eq, beq_self_eq_true, List.isEmpty_nil, Nat.reduceEqDiff, Nat.reduceLT, Nat.reduceLeDiff, Nat.reduceAdd, Nat.reduceMul, Int.reduceToNat, Int.reduceLE, Int.reduceLT, hc, Int.natCast_nonneg, Int.toNat_natCast]
      cases h2 : decide ((c.toNat : Int) ≤ 122) with
      | false =>
        obtain ⟨e1, e2⟩ := stop (by rw [h1, h2]; rfl)
        simp only [↓aX, evp, evq, evl, boxK, stillV, binV, AV.cells, mP, loadV, storeV, ldV, AV.stb, AV.one, IV.av1, Lb.app, Lb.fresh, reduceCtorEq, ptrL, appL, fillA, chunks, ivs, AV.iv, mkE, if_false, if_true, List.not_mem_nil, forall_eq, beq_self_eq_true, List.isEmpty_nil, Nat.reduceEqDiff, Nat.reduceLT, Nat.reduceLeDiff, Nat.reduceAdd, Nat.reduceMul, Int.reduceToNat, Int.reduceLE, Int.reduceLT, bnd, Int.natCast_nonneg, Int.toNat_natCast, true_and, hi, if_true, Option.bind_some, Option.map_some, Nat.sub_zero, List.drop_zero, Nat.zero_le, List.take_length, Nat.le_refl]
        obtain ⟨f1, f2⟩ := fin e1
        cases b with
        | true =>
          simp only [↓aX, evp, evq, evl, boxK, stillV, binV, AV.cells, mP, loadV, storeV, ldV, AV.stb, AV.one, IV.av1, Lb.app, Lb.fresh, reduceCtorEq, ptrL, appL, fillA, chunks, ivs, AV.iv, mkE, if_false, if_true, List.not_mem_nil, forall_eq, beq_self_eq_true, List.isEmpty_nil, Nat.reduceEqDiff, Nat.reduceLT, Nat.reduceLeDiff, Nat.reduceAdd, Nat.reduceMul, Int.reduceToNat, Int.reduceLE, Int.reduceLT, ret1_r]
          exact ⟨rdC (s.dropWhile isLow) true, by simp [upd_at, lbss, AV.lbs, e1, e2]⟩
        | false =>
          simp only [↓aX, evp, evq, evl, boxK, stillV, binV, AV.cells, mP, loadV, storeV, ldV, AV.stb, AV.one, IV.av1, Lb.app, Lb.fresh, reduceCtorEq, ptrL, appL, fillA, chunks, ivs, AV.iv, mkE, if_false, if_true, List.not_mem_nil, forall_eq, beq_self_eq_true, List.isEmpty_nil, Nat.reduceEqDiff, Nat.reduceLT, Nat.reduceLeDiff, Nat.reduceAdd, Nat.reduceMul, Int.reduceToNat, Int.reduceLE, Int.reduceLT, f1]
          cases h3 : decide (s.takeWhile isLow = []) with
          | true =>
            simp only [↓aX, evp, evq, evl, boxK, stillV, binV, AV.cells, mP, loadV, storeV, ldV, AV.stb, AV.one, IV.av1, Lb.app, Lb.fresh, reduceCtorEq, ptrL, appL, fillA, chunks, ivs, AV.iv, mkE, if_false, if_true, List.not_mem_nil, forall_eq, beq_self_eq_true, List.isEmpty_nil, Nat.reduceEqDiff, Nat.reduceLT, Nat.reduceLeDiff, Nat.reduceAdd, Nat.reduceMul, Int.reduceToNat, Int.reduceLE, Int.reduceLT, ret1_r]
            refine ⟨rdC (s.dropWhile isLow) true, ?_⟩
            rw [← e1, ← e2]
            simp [upd_at, lbss, AV.lbs, h3]
          | false =>
            simp only [↓aX, evp, evq, evl, boxK, stillV, binV, AV.cells, mP, loadV, storeV, ldV, AV.stb, AV.one, IV.av1, Lb.app, Lb.fresh, reduceCtorEq, ptrL, appL, fillA, chunks, ivs, AV.iv, mkE, if_false, if_true, List.not_mem_nil, forall_eq, beq_self_eq_true, List.isEmpty_nil, Nat.reduceEqDiff, Nat.reduceLT, Nat.reduceLeDiff, Nat.reduceAdd, Nat.reduceMul, Int.reduceToNat, Int.reduceLE, Int.reduceLT, f2, ret1_r]
            refine ⟨rdC (s.dropWhile isLow) (decide (8 < (s.takeWhile isLow).length)), ?_⟩
            rw [← e1, ← e2]
            simp [upd_at, lbss, AV.lbs, h3]
      | true =>
        simp only [↓aX, evp, evq, evl, boxK, stillV, binV, AV.cells, mP, loadV, storeV, ldV, AV.stb, AV.one, IV.av1, Lb.app, Lb.fresh, reduceCtorEq, ptrL, appL, fillA, chunks, ivs, AV.iv, mkE, if_false, if_true, List.not_mem_nil, forall_eq, beq_self_eq_true, List.isEmpty_nil, Nat.reduceEqDiff, Nat.reduceLT, Nat.reduceLeDiff, Nat.reduceAdd, Nat.reduceMul, Int.reduceToNat, Int.reduceLE, Int.reduceLT, hw]
        refine ⟨⟨i + 1, hlt, hst.1 (by rw [h1, h2]; rfl)⟩, by simp only; omega, WS_mk ?_ (by repeat' constructor) (by repeat' constructor)⟩
        intro l hl hu
        by_cases e : l = .par 0
        · subst e; simp
        · exfalso; apply hu; simp [upd_at, e, Hp.none]
    · have hil : s.take i = s := List.take_of_length_le (by omega)
      have hdl : s.drop i = [] := List.drop_of_length_le (by omega)
      rw [show decide (((i : Nat) : Int) < ((s.length : Nat) : Int)) = false by simpa using hlt]
      rw [hil] at hall
      obtain ⟨e1, e2⟩ : s.takeWhile isLow = s.take i ∧ s.dropWhile isLow = s.drop i := by rw [hil, hdl]; exact takeW_all hall
      simp only [↓aX, evp, evq, evl, boxK, stillV, binV, AV.cells, mP, loadV, storeV, ldV, AV.stb, AV.one, IV.av1, Lb.app, Lb.fresh, reduceCtorEq, ptrL, appL, fillA, chunks, ivs, AV.iv, mkE, if_false, if_true, List.not_mem_nil, forall_eq, beq_self_eq_true, List.isEmpty_nil, Nat.reduceEqDiff, Nat.reduceLT, Nat.reduceLeDiff, Nat.reduceAdd, Nat.reduceMul, Int.reduceToNat, Int.reduceLE, Int.reduceLT, bnd, Int.natCast_nonneg, Int.toNat_natCast, true_and, hi, if_true, Option.bind_some, Option.map_some, Nat.sub_zero, List.drop_zero, Nat.zero_le, List.take_length, Nat.le_refl]
      obtain ⟨f1, f2⟩ := fin e1
      cases b with
      | true =>
        simp only [↓aX, evp, evq, evl, boxK, stillV, binV, AV.cells, mP, loadV, storeV, ldV, AV.stb, AV.one, IV.av1, Lb.app, Lb.fresh, reduceCtorEq, ptrL, appL, fillA, chunks, ivs, AV.iv, mkE, if_false, if_true, List.not_mem_nil, forall_eq, beq_self_eq_true, List.isEmpty_nil, Nat.reduceEqDiff, Nat.reduceLT, Nat.reduceLeDiff, Nat.reduceAdd, Nat.reduceMul, Int.reduceToNat, Int.reduceLE, Int.reduceLT, ret1_r]
        exact ⟨rdC (s.dropWhile isLow) true, by simp [upd_at, lbss, AV.lbs, e1, e2]⟩
      | false =>
        simp only [↓aX, evp, evq, evl, boxK, stillV, binV, AV.cells, mP, loadV, storeV, ldV, AV.stb, AV.one, IV.av1, Lb.app, Lb.fresh, reduceCtorEq, ptrL, appL, fillA, chunks, ivs, AV.iv, mkE, if_false, if_true, List.not_mem_nil, forall_eq, beq_self_eq_true, List.isEmpty_nil, Nat.reduceEqDiff, Nat.reduceLT, Nat.reduceLeDiff, Nat.reduceAdd, Nat.reduceMul, Int.reduceToNat, Int.reduceLE, Int.reduceLT, f1]
        cases h3 : decide (s.takeWhile isLow = []) with
        | true =>
          simp only [↓aX, evp, evq, evl, boxK, stillV, binV, AV.cells, mP, loadV, storeV, ldV, AV.stb, AV.one, IV.av1, Lb.app, Lb.fresh, reduceCtorEq, ptrL, appL, fillA, chunks, ivs, AV.iv, mkE, if_false, if_true, List.not_mem_nil, forall_eq, beq_self_eq_true, List.isEmpty_nil, Nat.reduceEqDiff, Nat.reduceLT, Nat.reduceLeDiff, Nat.reduceAdd, Nat.reduceMul, Int.reduceToNat, Int.reduceLE, Int.reduceLT, ret1_r]
          refine ⟨rdC (s.dropWhile isLow) true, ?_⟩
          rw [← e1, ← e2]
          simp [upd_at, lbss, AV.lbs, h3]
        | false =>
          simp only [↓aX, evp, evq, evl, boxK, stillV, binV, AV.cells, mP, loadV, storeV, ldV, AV.stb, AV.one, IV.av1, Lb.app, Lb.fresh, reduceCtorEq, ptrL, appL, fillA, chunks, ivs, AV.iv, mkE, if_false, if_true, List.not_mem_nil, forall_eq, beq_self_eq_true, List.isEmpty_nil, Nat.reduceEqDiff, Nat.reduceLT, Nat.reduceLeDiff, Nat.reduceAdd, Nat.reduceMul, Int.reduceToNat, Int.reduceLE, Int.reduceLT, f2, ret1_r]
          refine ⟨rdC (s.dropWhile isLow) (decide (8 < (s.takeWhile isLow).length)), ?_⟩
          rw [← e1, ← e2]
          simp [upd_at, lbss, AV.lbs, h3]
end
end Go.Am

/- THE ABSTRACT MACHINE, part 47: calls of values. -/
namespace Go.Am
open Go Go.RowKit
section
variable {S : St} {env : Env} {H : Hp}
def cvK (S : St) (x : AV) (args : List AV) (H : Hp) (k : AV → Hp → Prop) (_ : Tw k) : Prop := ∃ f first cap, x = .fn f first cap ∧ goBody S.P f = true ∧ CallT S f (first ++ args ++ cap) H k
theorem a1_callv (d : Option Nat) (x : O) (args : List O) (k : AV → Hp → Prop) : Act1 S d (.callv x args) env H k = cvK S (ev env x) (args.map (ev env)) H k .mk := rfl
theorem cvK_fn (f : Nat) (first cap args : List AV) (k : AV → Hp → Prop) (u : Tw k) : cvK S (.fn f first cap) args H k u = (goBody S.P f = true ∧ clK S f (first ++ args ++ cap) H k .mk) := by
  simp only [cvK, clK, AV.fn.injEq, eq_iff_iff]
  constructor
  · rintro ⟨_, _, _, ⟨rfl, rfl, rfl⟩, h⟩; exact h
  · intro h; exact ⟨_, _, _, ⟨rfl, rfl, rfl⟩, h⟩
def pvK (S : St) (x : AV) (args : List AV) (k : AV → Prop) (_ : Tv k) : Prop := ∃ f first cap res, x = .fn f first cap ∧ goBody S.P f = true ∧ PureC S.P S.G f (first ++ args ++ cap) res ∧ k res
theorem af_callv (d : Option Nat) (x : O) (args : List O) (k : AV → Hp → Prop) : Act1f S .no d (.callv x args) env H k = pvK S (ev env x) (args.map (ev env)) (fun y => k y H) .mk := by
  simp only [Act1f, Quiet, stillV, pvK, reduceCtorEq, false_or, eq_iff_iff]
  constructor
  · rintro ⟨res, ⟨f, first, cap, h1, h2, h3⟩, h4⟩; exact ⟨f, first, cap, res, h1, h2, h3, h4⟩
  · rintro ⟨f, first, cap, res, h1, h2, h3, h4⟩; exact ⟨res, ⟨f, first, cap, h1, h2, h3⟩, h4⟩
theorem pvK_fn (f : Nat) (first cap args : List AV) (k : AV → Prop) (u : Tv k) : pvK S (.fn f first cap) args k u = (goBody S.P f = true ∧ puK S f (first ++ args ++ cap) k .mk) := by
  simp only [pvK, puK, AV.fn.injEq, eq_iff_iff]
  constructor
  · rintro ⟨_, _, _, res, ⟨rfl, rfl, rfl⟩, h2, h3, h4⟩; exact ⟨h2, res, h3, h4⟩
  · rintro ⟨h2, res, h3, h4⟩; exact ⟨_, _, _, res, ⟨rfl, rfl, rfl⟩, h2, h3, h4⟩
end
end Go.Am
