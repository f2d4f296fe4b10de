import Derived.Test.YtfinkeaikbmpgaaDoorKAm34
import Derived.Test.YtfinkeaikbmpgaaDoorKAm30
import Derived.Test.YtfinkeaikbmpgaaDoorKAm40
import Derived.Lib.Bytealg
set_option linter.unusedSimpArgs false
set_option linter.unusedVariables false
set_option linter.unnecessarySimpa false
set_option linter.defProp false
/- Letters: sets of bytes; a string cut at both ends. -/
namespace Go.Am
open Go Go.RowKit
def bndV : AV → Nat → Option Nat
  | .int _ v, mx => if 0 ≤ v ∧ v.toNat ≤ mx then some v.toNat else none
  | _, _ => none
theorem bnd_n (env : Env) (d mx : Nat) : bnd env none d mx = some d := rfl
theorem bnd_s (env : Env) (x : O) (d mx : Nat) : bnd env (some x) d mx = bndV (ev env x) mx := by
  simp only [bnd]
  generalize ev env x = v
  cases v <;> rfl
theorem bndV_nat (k : IntKind) (n mx : Nat) (h : n ≤ mx) : bndV (.int k (n : Int)) mx = some n := by simp [bndV, h]
def setA (f : Nat → Bool) : List AV := (List.range 256).map fun i => .bool (f i)
theorem setA_len (f : Nat → Bool) : (setA f).length = 256 := by simp [setA]
theorem setA_get (f : Nat → Bool) (i : Nat) (h : i < 256) : (setA f)[i]? = some (.bool (f i)) := by simp [setA, List.getElem?_range h]
theorem setA_lbs (f : Nat → Bool) : lbss (setA f) = [] := by
  have : ∀ l : List Nat, lbss (l.map fun i => AV.bool (f i)) = [] := by
    intro l
    induction l with
    | nil => rfl
    | cons a r ih => simp [lbss, AV.lbs, ih]
  exact this _
theorem setA_no : List.replicate 256 (AV.bool false) = setA (fun _ => false) := by
  apply List.ext_getElem?
  intro i
  by_cases h : i < 256
  · rw [setA_get _ _ h, List.getElem?_replicate, if_pos h]
  · rw [List.getElem?_eq_none (by rw [List.length_replicate]; omega), List.getElem?_eq_none (by rw [setA_len]; omega)]
theorem setA_set (f : Nat → Bool) (j : Nat) : (setA f).set j (.bool true) = setA (fun k => k == j || f k) := by
  apply List.ext_getElem?
  intro i
  by_cases h : i < 256
  · rw [setA_get _ _ h, List.getElem?_set]
    by_cases e : j = i
    · subst e; rw [if_pos rfl, if_pos (by rw [setA_len]; exact h)]; simp
    · rw [if_neg e, setA_get _ _ h]
      have : (i == j) = false := by simpa using Ne.symm e
      rw [this]; simp
  · rw [List.getElem?_eq_none (by rw [List.length_set, setA_len]; omega), List.getElem?_eq_none (by rw [setA_len]; omega)]
theorem setA_put (f : Nat → Bool) (j : Nat) (h : j < 256) : (setA f).take j ++ [.bool true] ++ (setA f).drop (j + 1) = setA (fun k => k == j || f k) := by
  rw [← setA_set, List.set_eq_take_append_cons_drop, if_pos (by rw [setA_len]; exact h)]
  simp
theorem setA_take (f : Nat → Bool) : (setA f).take 256 = setA f := List.take_of_length_le (by rw [setA_len]; exact Nat.le_refl _)
theorem setA_drop (f : Nat → Bool) : (setA f).drop 256 = [] := List.drop_eq_nil_of_le (by rw [setA_len]; exact Nat.le_refl _)
theorem setA_one (f : Nat → Bool) : (setA f).all AV.one = true := by
  rw [List.all_eq_true]
  intro x hx
  obtain ⟨i, _, rfl⟩ := List.mem_map.1 hx
  rfl
def memB (s : Bs) (k : Nat) : Bool := s.any fun c => k == c.toNat
theorem take_snoc'' {α : Type} {l : List α} {i : Nat} {x : α} (h : l[i]? = some x) : l.take (i + 1) = l.take i ++ [x] := by rw [List.take_add_one, h]; rfl
theorem memB_snoc (s : Bs) (c : UInt8) : memB (s ++ [c]) = fun k => k == c.toNat || memB s k := by
  funext k; simp [memB, Bool.or_comm]
def c_strings_makeASCIISet : AC :=
(.seq (.reg [⟨(some 2), none, (.new (List.replicate 256 (.bool false)))⟩, ⟨(some 3), none, (.mov (.c (.bool false)))⟩]) (.seq (.seq (.reg [⟨(some 4), none, (.mov (.c (.int .i64 0)))⟩]) (.block 0 (.loop (.seq (.seq (.reg [⟨(some 6), none, (.mov (.t 4))⟩, ⟨(some 7), none, (.mov (.t 0))⟩, ⟨(some 8), none, (.lens (.t 7))⟩, ⟨(some 9), none, (.bin .lss (.t 6) (.t 8))⟩]) (.cond (.t 9) .skip (.exit 0))) (.seq (.block 1 (.seq (.reg [⟨(some 12), none, (.mov (.t 0))⟩, ⟨(some 13), none, (.mov (.t 4))⟩, ⟨(some 14), none, (.ixs (.t 12) (.t 13))⟩, ⟨(some 5), none, (.mov (.t 14))⟩]) (.seq (.seq (.reg [⟨(some 15), none, (.mov (.t 5))⟩, ⟨(some 16), none, (.bin .geq (.t 15) (.c (.int .u8 128)))⟩]) (.cond (.t 16) (.seq (.reg [⟨(some 17), none, (.load (some 256) (.t 2))⟩, ⟨none, none, (.store 256 (.t 2) (.t 17))⟩, ⟨(some 3), none, (.mov (.c (.bool false)))⟩]) .ret) .skip)) (.reg [⟨(some 18), none, (.mov (.t 5))⟩, ⟨(some 19), none, (.ixp (.t 2) (.t 18) 256 1)⟩, ⟨none, none, (.store 1 (.t 19) (.c (.bool true)))⟩])))) (.reg [⟨(some 10), none, (.mov (.t 4))⟩, ⟨(some 11), none, (.bin .add (.t 10) (.c (.int .i64 1)))⟩, ⟨(some 4), none, (.mov (.t 11))⟩])))))) (.seq (.reg [⟨(some 20), none, (.load (some 256) (.t 2))⟩, ⟨none, none, (.store 256 (.t 2) (.t 20))⟩, ⟨(some 3), none, (.mov (.c (.bool true)))⟩]) .ret)))
theorem pMakeSet {P : Program} {G : Nat → Option (List IV)} {f_strings_makeASCIISet : Nat} (hF : compF P G f_strings_makeASCIISet = some (21, [((some (some 256)), 2), (none, 3)], c_strings_makeASCIISet.bare)) (s : Bs) (hs : s.length ≤ B) (h128 : ∀ c ∈ s, c.toNat < 128) :
    PureC P G f_strings_makeASCIISet [.str s] (.tup [.agg (setA (memB s)), .bool true]) := by
  refine pure_of_go hF (by simp) (by simp [lbss, AV.lbs]) (by simp [AV.lbs, lbss, setA_lbs]) ?_
  unfold c_strings_makeASCIISet
  simp only [↓aX, evp, evq, evl, boxK, stillV, binV, AV.cells, mP, loadV, storeV, ldV, AV.stb, AV.one, IV.av1, Lb.app, Lb.fresh, reduceCtorEq, ptrL, appL, fillA, chunks, ivs, AV.iv, mkE, if_false, if_true, List.not_mem_nil, forall_eq, beq_self_eq_true, List.isEmpty_nil, Nat.reduceEqDiff, Nat.reduceLT, Nat.reduceLeDiff, Nat.reduceAdd, Nat.reduceMul, Int.reduceToNat, Int.reduceLE, Int.reduceLT, setA_no, setA_len]
  refine loop_same (σ := { i : Nat // i ≤ s.length }) [.loc 2] (fun q => [(0, .str s), (2, .ptr (.loc 2) 256 0 0), (4, .int .i64 q.1)]) (fun q => [(.loc 2, ⟨256, [setA (memB (s.take q.1))]⟩)]) (fun q => s.length - q.1) ⟨0, Nat.zero_le _⟩
    (fun _ => rfl) (by decide) (by simp [lbss, AV.lbs]) (fun q r hr cs hcs l hl => by
      simp only [List.mem_singleton] at hr; subst hr
      simp only [List.mem_singleton] at hcs; subst hcs
      rw [setA_lbs] at hl; simp at hl) ?_ ?_
  · exact WS_mk (by simp only [NFx_loc, NFx_none]) (by repeat' constructor) ⟨rfl, trivial⟩
  · rintro ⟨i, hi⟩
    simp only [↓aX, evp, evq, evl, boxK, stillV, binV, AV.cells, mP, loadV, storeV, ldV, AV.stb, AV.one, IV.av1, Lb.app, Lb.fresh, reduceCtorEq, ptrL, appL, fillA, chunks, ivs, AV.iv, mkE, if_false, if_true, List.not_mem_nil, forall_eq, beq_self_eq_true, List.isEmpty_nil, Nat.reduceEqDiff, Nat.reduceLT, Nat.reduceLeDiff, Nat.reduceAdd, Nat.reduceMul, Int.reduceToNat, Int.reduceLE, Int.reduceLT, ofH_nil, ofH_cons, setA_len]
    by_cases hlt : i < s.length
    · rw [show decide ((i : Int) < (s.length : Int)) = true by simpa using hlt]
      obtain ⟨c, hc⟩ : ∃ c, s[i]? = some c := ⟨_, List.getElem?_eq_getElem hlt⟩
      have hw : IntKind.i64.wrap ((i : Int) + 1) = ((i + 1 : Nat) : Int) := wrap64 (by omega) (by unfold B at hs; omega)
      have hcl := h128 c (List.mem_of_getElem? hc)
      simp only [↓aX, evp, evq, evl, boxK, stillV, binV, AV.cells, mP, loadV, storeV, ldV, AV.stb, AV.one, IV.av1, Lb.app, Lb.fresh, reduceCtorEq, ptrL, appL, fillA, chunks, ivs, AV.iv, mkE, if_false, if_true, List.not_mem_nil, forall_eq, beq_self_eq_true, List.isEmpty_nil, Nat.reduceEqDiff, Nat.reduceLT, Nat.reduceLeDiff, Nat.reduceAdd, Nat.reduceMul, Int.reduceToNat, Int.reduceLE, Int.reduceLT, hc, show decide (((c.toNat : Nat) : Int) ≥ 128) = false by simp; omega, setA_len, hw]
      simp only [↓aX, evp, evq, evl, boxK, stillV, binV, AV.cells, mP, loadV, storeV, ldV, AV.stb, AV.one, IV.av1, Lb.app, Lb.fresh, reduceCtorEq, ptrL, appL, fillA, chunks, ivs, AV.iv, mkE, if_false, if_true, List.not_mem_nil, forall_eq, beq_self_eq_true, List.isEmpty_nil, Nat.reduceEqDiff, Nat.reduceLT, Nat.reduceLeDiff, Nat.reduceAdd, Nat.reduceMul, Int.reduceToNat, Int.reduceLE, Int.reduceLT, if_pos (show c.toNat < 256 by omega), if_pos (show c.toNat ≤ 255 by omega), setA_put _ _ (show c.toNat < 256 by omega), setA_len, hw]
      refine ⟨⟨i + 1, hlt⟩, by simp only; omega, WS_mk (by simp only [NFx_loc, NFx_none]) (by repeat' constructor) ⟨?_, trivial⟩⟩
      rw [take_snoc'' hc, memB_snoc]
      rfl
    · have hil : i = s.length := by omega
      subst hil
      rw [show decide ((s.length : Int) < (s.length : Int)) = false by simp]
      simp only [↓aX, evp, evq, evl, boxK, stillV, binV, AV.cells, mP, loadV, storeV, ldV, AV.stb, AV.one, IV.av1, Lb.app, Lb.fresh, reduceCtorEq, ptrL, appL, fillA, chunks, ivs, AV.iv, mkE, if_false, if_true, List.not_mem_nil, forall_eq, beq_self_eq_true, List.isEmpty_nil, Nat.reduceEqDiff, Nat.reduceLT, Nat.reduceLeDiff, Nat.reduceAdd, Nat.reduceMul, Int.reduceToNat, Int.reduceLE, Int.reduceLT, List.take_length, setA_len, setA_take, setA_drop, setA_one, List.append_nil, retm2_r]
def c_strings_asciiSet_contains : AC :=
(.seq (.reg [⟨(some 4), none, (.mov (.c (.bool false)))⟩]) (.seq (.reg [⟨(some 5), none, (.mov (.t 0))⟩, ⟨(some 6), none, (.mov (.t 1))⟩, ⟨(some 7), none, (.nchk (.t 5))⟩, ⟨(some 8), none, (.ixp (.t 7) (.t 6) 256 1)⟩, ⟨(some 9), none, (.load none (.t 8))⟩, ⟨(some 4), none, (.mov (.t 9))⟩]) .ret))
theorem pContains {P : Program} {G : Nat → Option (List IV)} {f_strings_asciiSet_contains : Nat} (hF : compF P G f_strings_asciiSet_contains = some (10, [(none, 4)], c_strings_asciiSet_contains.bare)) (f : Nat → Bool) (c : UInt8) :
    MutC P G f_strings_asciiSet_contains [.ptr (.par 0) 256 0 0, .int .u8 (c.toNat : Int)] (setA f) fun x cs => x = .bool (f c.toNat) ∧ cs = setA f := by
  refine mut_of_go hF (by simp) (by simp [lbss, AV.lbs]) (setA_lbs f) ?_
  have hc : c.toNat < 256 := c.toNat_lt
  unfold c_strings_asciiSet_contains
  simp only [↓aX, evp, evq, evl, boxK, stillV, binV, AV.cells, mP, loadV, storeV, ldV, AV.stb, AV.one, IV.av1, Lb.app, Lb.fresh, reduceCtorEq, ptrL, appL, fillA, chunks, ivs, AV.iv, mkE, if_false, if_true, List.not_mem_nil, forall_eq, beq_self_eq_true, List.isEmpty_nil, Nat.reduceEqDiff, Nat.reduceLT, Nat.reduceLeDiff, Nat.reduceAdd, Nat.reduceMul, Int.reduceToNat, Int.reduceLE, Int.reduceLT, row1, setA_len, if_pos hc, setA_get f _ hc]
  exact ⟨_, rfl, rfl, setA_lbs f, setA_len f, rfl⟩
def c_strings_trimLeftASCII (f_strings_asciiSet_contains : Nat) : AC :=
(.seq (.reg [⟨(some 4), none, (.mov (.c (.str [])))⟩]) (.seq (.block 0 (.loop (.seq (.seq (.reg [⟨(some 5), none, (.mov (.t 0))⟩, ⟨(some 6), none, (.lens (.t 5))⟩, ⟨(some 7), none, (.bin .gtr (.t 6) (.c (.int .i64 0)))⟩]) (.cond (.t 7) .skip (.exit 0))) (.block 1 (.seq (.seq (.reg [⟨(some 8), none, (.mov (.t 1))⟩, ⟨(some 9), none, (.mov (.t 0))⟩, ⟨(some 10), none, (.ixs (.t 9) (.c (.int .i64 0)))⟩, ⟨(some 11), none, (.call f_strings_asciiSet_contains [(.t 8), (.t 10)])⟩, ⟨(some 12), none, (.not (.t 11))⟩]) (.cond (.t 12) (.exit 0) .skip)) (.reg [⟨(some 13), none, (.mov (.t 0))⟩, ⟨(some 14), none, (.slcs (.t 13) (some (.c (.int .i64 1))) none)⟩, ⟨(some 0), none, (.mov (.t 14))⟩])))))) (.seq (.reg [⟨(some 15), none, (.mov (.t 0))⟩, ⟨(some 4), none, (.mov (.t 15))⟩]) .ret)))
def trimL (f : Nat → Bool) (s : Bs) : Bs := s.dropWhile fun c => f c.toNat
theorem setA_rows {f : Nat → Bool} {q : Lb × Row} (hr : q ∈ [((.par 0 : Lb), (⟨256, [setA f]⟩ : Row))]) {ls : List Lb} : ∀ cs ∈ q.2.els, ∀ l ∈ lbss cs, l ∈ ls := by
  intro cs hcs l hl
  simp only [List.mem_singleton] at hr; subst hr
  simp only [List.mem_singleton] at hcs; subst hcs
  rw [setA_lbs] at hl; simp at hl
theorem pTrimLeft {P : Program} {G : Nat → Option (List IV)} {f_strings_trimLeftASCII f_strings_asciiSet_contains : Nat} (hF : compF P G f_strings_trimLeftASCII = some (16, [(none, 4)], (c_strings_trimLeftASCII f_strings_asciiSet_contains).bare)) (f : Nat → Bool) (s : Bs) (hs : s.length ≤ B)
    (hC : ∀ c : UInt8, MutC P G f_strings_asciiSet_contains [.ptr (.par 0) 256 0 0, .int .u8 (c.toNat : Int)] (setA f) fun x cs => x = .bool (f c.toNat) ∧ cs = setA f) :
    MutC P G f_strings_trimLeftASCII [.str s, .ptr (.par 0) 256 0 0] (setA f) fun x cs => x = .str (trimL f s) ∧ cs = setA f := by
  refine mut_of_go hF (by simp) (by simp [lbss, AV.lbs]) (setA_lbs f) ?_
  unfold c_strings_trimLeftASCII
  simp only [↓aX, evp, evq, evl, boxK, stillV, binV, AV.cells, mP, loadV, storeV, ldV, AV.stb, AV.one, IV.av1, Lb.app, Lb.fresh, reduceCtorEq, ptrL, appL, fillA, chunks, ivs, AV.iv, mkE, if_false, if_true, List.not_mem_nil, forall_eq, beq_self_eq_true, List.isEmpty_nil, Nat.reduceEqDiff, Nat.reduceLT, Nat.reduceLeDiff, Nat.reduceAdd, Nat.reduceMul, Int.reduceToNat, Int.reduceLE, Int.reduceLT, row1, setA_len]
  refine loop_same (σ := { t : Bs // t.length ≤ B ∧ trimL f t = trimL f s }) [.par 0] (fun t => [(0, .str t.1), (1, .ptr (.par 0) 256 0 0)]) (fun _ => [(.par 0, ⟨256, [setA f]⟩)]) (fun t => t.1.length) ⟨s, hs, rfl⟩
    (fun _ => rfl) (by decide) (by simp [lbss, AV.lbs]) (fun _ q hr => setA_rows hr) ?_ ?_
  · refine WS_mk ?_ (by repeat' constructor) ⟨rfl, trivial⟩
    intro l hl hu
    by_cases e : l = .par 0
    · subst e; simp
    · exfalso; apply hu; cases l <;> simp_all [Lb.fresh, upd_at, Hp.none]
  · rintro ⟨t, ht, hst⟩
    cases t with
    | nil =>
      simp only [↓aX, evp, evq, evl, boxK, stillV, binV, AV.cells, mP, loadV, storeV, ldV, AV.stb, AV.one, IV.av1, Lb.app, Lb.fresh, reduceCtorEq, ptrL, appL, fillA, chunks, ivs, AV.iv, mkE, if_false, if_true, List.not_mem_nil, forall_eq, beq_self_eq_true, List.isEmpty_nil, Nat.reduceEqDiff, Nat.reduceLT, Nat.reduceLeDiff, Nat.reduceAdd, Nat.reduceMul, Int.reduceToNat, Int.reduceLE, Int.reduceLT, ofH_nil, ofH_cons, List.length_nil, show decide (((0 : Nat) : Int) > 0) = false from rfl]
      rw [← hst]
      exact ⟨_, ⟨rfl, rfl⟩, rfl, setA_lbs f, setA_len f, rfl⟩
    | cons c r =>
      have hg : decide (((r.length + 1 : Nat) : Int) > 0) = true := by rw [decide_eq_true_eq]; omega
      have hi0 : (c :: r)[0]? = some c := rfl
      simp only [↓aX, evp, evq, evl, boxK, stillV, binV, AV.cells, mP, loadV, storeV, ldV, AV.stb, AV.one, IV.av1, Lb.app, Lb.fresh, reduceCtorEq, ptrL, appL, fillA, chunks, ivs, AV.iv, mkE, if_false, if_true, List.not_mem_nil, forall_eq, beq_self_eq_true, List.isEmpty_nil, Nat.reduceEqDiff, Nat.reduceLT, Nat.reduceLeDiff, Nat.reduceAdd, Nat.reduceMul, Int.reduceToNat, Int.reduceLE, Int.reduceLT, ofH_nil, ofH_cons, List.length_cons, hg, hi0]
      refine callT_mut (l := .par 0) (hC c) rfl (by simp only [↓aX, evp, evq, evl, boxK, stillV, binV, AV.cells, mP, loadV, storeV, ldV, AV.stb, AV.one, IV.av1, Lb.app, Lb.fresh, reduceCtorEq, ptrL, appL, fillA, chunks, ivs, AV.iv, mkE, if_false, if_true, List.not_mem_nil, forall_eq, beq_self_eq_true, List.isEmpty_nil, Nat.reduceEqDiff, Nat.reduceLT, Nat.reduceLeDiff, Nat.reduceAdd, Nat.reduceMul, Int.reduceToNat, Int.reduceLE, Int.reduceLT, setA_len]) ?_
      rintro x1 cs' ⟨rfl, rfl⟩ _ _ _
      simp only [↓aX, evp, evq, evl, boxK, stillV, binV, AV.cells, mP, loadV, storeV, ldV, AV.stb, AV.one, IV.av1, Lb.app, Lb.fresh, reduceCtorEq, ptrL, appL, fillA, chunks, ivs, AV.iv, mkE, if_false, if_true, List.not_mem_nil, forall_eq, beq_self_eq_true, List.isEmpty_nil, Nat.reduceEqDiff, Nat.reduceLT, Nat.reduceLeDiff, Nat.reduceAdd, Nat.reduceMul, Int.reduceToNat, Int.reduceLE, Int.reduceLT, setA_len]
      cases hf : f c.toNat with
      | false =>
        have : trimL f s = c :: r := by rw [← hst]; simp [trimL, hf]
        simp only [↓aX, evp, evq, evl, boxK, stillV, binV, AV.cells, mP, loadV, storeV, ldV, AV.stb, AV.one, IV.av1, Lb.app, Lb.fresh, reduceCtorEq, ptrL, appL, fillA, chunks, ivs, AV.iv, mkE, if_false, if_true, List.not_mem_nil, forall_eq, beq_self_eq_true, List.isEmpty_nil, Nat.reduceEqDiff, Nat.reduceLT, Nat.reduceLeDiff, Nat.reduceAdd, Nat.reduceMul, Int.reduceToNat, Int.reduceLE, Int.reduceLT, Bool.not_false, this]
        exact ⟨_, rfl, rfl, setA_lbs f, setA_len f, by rw [setA_len]⟩
      | true =>
        have h2 : trimL f r = trimL f s := by rw [← hst]; simp [trimL, hf]
        have hb : bndV (.int .i64 1) (r.length + 1) = some 1 := bndV_nat .i64 1 _ (by omega)
        have htk : (c :: r).take (r.length + 1) = c :: r := List.take_of_length_le (by simp)
        simp only [↓aX, evp, evq, evl, boxK, stillV, binV, AV.cells, mP, loadV, storeV, ldV, AV.stb, AV.one, IV.av1, Lb.app, Lb.fresh, reduceCtorEq, ptrL, appL, fillA, chunks, ivs, AV.iv, mkE, if_false, if_true, List.not_mem_nil, forall_eq, beq_self_eq_true, List.isEmpty_nil, Nat.reduceEqDiff, Nat.reduceLT, Nat.reduceLeDiff, Nat.reduceAdd, Nat.reduceMul, Int.reduceToNat, Int.reduceLE, Int.reduceLT, Bool.not_true, setA_len, List.length_cons, bnd_n, bnd_s, hb, htk, Option.bind_some, Option.map_some, List.drop_succ_cons, List.drop_zero]
        refine ⟨⟨r, by rw [List.length_cons] at ht; omega, h2⟩, by simp only [List.length_cons]; omega, WS_mk ?_ (by repeat' constructor) ⟨rfl, trivial⟩⟩
        intro l hl hu
        by_cases e : l = .par 0
        · subst e; simp
        · exfalso; apply hu; cases l <;> simp_all [Lb.fresh, upd_at, Hp.none]
end Go.Am

/- Strings cut and split. -/
namespace Go.Am
open Go Go.RowKit
theorem ext_of {S : St} {f : Nat} {fn : Func} {e : Array Value → Sem Value} {args : List AV} {H : Hp} {res : AV} (hf : S.P.funcs[f]? = some fn) (hname : (fn.name == "runtime.NumGoroutine") = false) (hb : fn.body.isNone = true)
    (hn : Extern.findNext fn = none) (he : Extern.find fn = some e) (hr : ∀ (w : World) (β : Lb → Option Nat) (I : Nat → Prop) (vs : List Value), RVs w β H I args vs → ∃ v, (e vs.toArray).run S.P w = .ok v w ∧ RV w β H I res v) (hl : res.lbs = []) :
    ExtC S f args H res := by
  intro K β env a w vs hS hrel hv
  subst hS
  obtain ⟨v, h1, h2⟩ := hr w β _ vs hv
  refine ⟨v, w, ?_, Below.refl _ _, h2, by simp [hl]⟩
  rw [run_callFunc_extern hf hname hb hn he, h1]
  rfl
theorem rvs2 {w : World} {β : Lb → Option Nat} {H : Hp} {I : Nat → Prop} {x y : AV} {vs : List Value} (h : RVs w β H I [x, y] vs) : ∃ u v, vs = [u, v] ∧ RV w β H I x u ∧ RV w β H I y v := by
  match vs, h with
  | [u, v], h =>
    simp only [RVs] at h
    obtain ⟨_, _, h0, h1, _, _, h2, h3, h4⟩ := h
    cases h0; cases h2; cases h4
    exact ⟨u, v, rfl, h1, h3⟩
theorem ext_compare {S : St} {f : Nat} {fn : Func} (hf : S.P.funcs[f]? = some fn) (hname : (fn.name == "runtime.NumGoroutine") = false) (hb : fn.body.isNone = true)
    (hn : Extern.findNext fn = none) (he : Extern.find fn = some Extern.BytealgCompare.compare) (s t : Bs) (H : Hp) : ExtC S f [.str s, .str t] H (.int .i64 (Lib.compareBytes s t)) := by
  refine ext_of hf hname hb hn he (fun w β I vs hv => ?_) rfl
  obtain ⟨u, v, rfl, h1, h2⟩ := rvs2 hv
  simp only [RV] at h1 h2
  subst h1; subst h2
  exact ⟨_, Lib.run_compareString _ _ _, by simp [RV]⟩
theorem pre_take (c s : Bs) : (decide (c.length ≤ s.length) && s.take c.length == c) = c.isPrefixOf s := by
  rw [Bool.eq_iff_iff]
  simp only [Bool.and_eq_true, decide_eq_true_eq, beq_iff_eq, List.isPrefixOf_iff_prefix]
  constructor
  · rintro ⟨_, h⟩
    have := List.take_append_drop c.length s
    rw [h] at this
    exact ⟨s.drop c.length, this⟩
  · rintro ⟨t, rfl⟩; simp
section
variable {P : Program} {G : Nat → Option (List IV)}
def c_internal_stringslite_HasPrefix : AC :=
(.seq (.reg [⟨(some 4), none, (.mov (.c (.bool false)))⟩]) (.seq (.reg [⟨(some 5), none, (.mov (.t 0))⟩, ⟨(some 6), none, (.lens (.t 5))⟩, ⟨(some 7), none, (.mov (.t 1))⟩, ⟨(some 8), none, (.lens (.t 7))⟩, ⟨(some 9), none, (.bin .geq (.t 6) (.t 8))⟩, ⟨(some 10), none, (.mov (.t 9))⟩, ⟨(some 11), (some (10, true)), (.mov (.t 0))⟩, ⟨(some 12), (some (10, true)), (.mov (.t 1))⟩, ⟨(some 13), (some (10, true)), (.lens (.t 12))⟩, ⟨(some 14), (some (10, true)), (.slcs (.t 11) none (some (.t 13)))⟩, ⟨(some 15), (some (10, true)), (.mov (.t 1))⟩, ⟨(some 16), (some (10, true)), (.bin .eql (.t 14) (.t 15))⟩, ⟨(some 17), none, (.pick (.t 10) (.t 16) (.c (.bool false)))⟩, ⟨(some 4), none, (.mov (.t 17))⟩]) .ret))
theorem pHasPrefix {f_internal_stringslite_HasPrefix : Nat} (hF : compF P G f_internal_stringslite_HasPrefix = some (18, [(none, 4)], c_internal_stringslite_HasPrefix.bare)) (s t : Bs) : PureC P G f_internal_stringslite_HasPrefix [.str s, .str t] (.bool (t.isPrefixOf s)) := by
  refine pure_of_go hF (by simp) (by simp [lbss, AV.lbs]) (by simp [AV.lbs]) ?_
  unfold c_internal_stringslite_HasPrefix
  rw [← pre_take]
  simp only [↓aX, evp, evq, evl, boxK, stillV, binV, AV.cells, mP, loadV, storeV, ldV, AV.stb, AV.one, IV.av1, Lb.app, Lb.fresh, reduceCtorEq, ptrL, appL, fillA, chunks, ivs, AV.iv, mkE, if_false, if_true, List.not_mem_nil, forall_eq, beq_self_eq_true, List.isEmpty_nil, Nat.reduceEqDiff, Nat.reduceLT, Nat.reduceLeDiff, Nat.reduceAdd, Nat.reduceMul, Int.reduceToNat, Int.reduceLE, Int.reduceLT]
  by_cases h : t.length ≤ s.length
  · rw [show decide (((s.length : Nat) : Int) ≥ ((t.length : Nat) : Int)) = true by simpa using h, decide_eq_true h]
    simp only [↓aX, evp, evq, evl, boxK, stillV, binV, AV.cells, mP, loadV, storeV, ldV, AV.stb, AV.one, IV.av1, Lb.app, Lb.fresh, reduceCtorEq, ptrL, appL, fillA, chunks, ivs, AV.iv, mkE, if_false, if_true, List.not_mem_nil, forall_eq, beq_self_eq_true, List.isEmpty_nil, Nat.reduceEqDiff, Nat.reduceLT, Nat.reduceLeDiff, Nat.reduceAdd, Nat.reduceMul, Int.reduceToNat, Int.reduceLE, Int.reduceLT, bnd, Int.natCast_nonneg, Int.toNat_natCast, true_and, h]
  · rw [show decide (((s.length : Nat) : Int) ≥ ((t.length : Nat) : Int)) = false by simpa using h, decide_eq_false h]
    simp only [↓aX, evp, evq, evl, boxK, stillV, binV, AV.cells, mP, loadV, storeV, ldV, AV.stb, AV.one, IV.av1, Lb.app, Lb.fresh, reduceCtorEq, ptrL, appL, fillA, chunks, ivs, AV.iv, mkE, if_false, if_true, List.not_mem_nil, forall_eq, beq_self_eq_true, List.isEmpty_nil, Nat.reduceEqDiff, Nat.reduceLT, Nat.reduceLeDiff, Nat.reduceAdd, Nat.reduceMul, Int.reduceToNat, Int.reduceLE, Int.reduceLT, Bool.false_and]
def c_internal_stringslite_CutPrefix (f_internal_stringslite_HasPrefix : Nat) : AC :=
(.seq (.reg [⟨(some 4), none, (.mov (.c (.str [])))⟩, ⟨(some 5), none, (.mov (.c (.bool false)))⟩]) (.seq (.seq (.reg [⟨(some 6), none, (.mov (.t 0))⟩, ⟨(some 7), none, (.mov (.t 1))⟩, ⟨(some 8), none, (.call f_internal_stringslite_HasPrefix [(.t 6), (.t 7)])⟩, ⟨(some 9), none, (.not (.t 8))⟩]) (.cond (.t 9) (.seq (.reg [⟨(some 10), none, (.mov (.t 0))⟩, ⟨(some 4), none, (.mov (.t 10))⟩, ⟨(some 5), none, (.mov (.c (.bool false)))⟩]) .ret) .skip)) (.seq (.reg [⟨(some 11), none, (.mov (.t 0))⟩, ⟨(some 12), none, (.mov (.t 1))⟩, ⟨(some 13), none, (.lens (.t 12))⟩, ⟨(some 14), none, (.slcs (.t 11) (some (.t 13)) none)⟩, ⟨(some 4), none, (.mov (.t 14))⟩, ⟨(some 5), none, (.mov (.c (.bool true)))⟩]) .ret)))
theorem pSlCutPrefix {f_internal_stringslite_CutPrefix f_internal_stringslite_HasPrefix : Nat} (hF : compF P G f_internal_stringslite_CutPrefix = some (15, [(none, 4), (none, 5)], (c_internal_stringslite_CutPrefix f_internal_stringslite_HasPrefix).bare)) (s t : Bs)
    (hX : PureC P G f_internal_stringslite_HasPrefix [.str s, .str t] (.bool (t.isPrefixOf s))) :
    PureC P G f_internal_stringslite_CutPrefix [.str s, .str t] (.tup [.str (if t.isPrefixOf s then s.drop t.length else s), .bool (t.isPrefixOf s)]) := by
  refine pure_of_go hF (by simp) (by simp [lbss, AV.lbs]) (by simp [AV.lbs, lbss]) ?_
  unfold c_internal_stringslite_CutPrefix
  simp only [↓aX, evp, evq, evl, boxK, stillV, binV, AV.cells, mP, loadV, storeV, ldV, AV.stb, AV.one, IV.av1, Lb.app, Lb.fresh, reduceCtorEq, ptrL, appL, fillA, chunks, ivs, AV.iv, mkE, if_false, if_true, List.not_mem_nil, forall_eq, beq_self_eq_true, List.isEmpty_nil, Nat.reduceEqDiff, Nat.reduceLT, Nat.reduceLeDiff, Nat.reduceAdd, Nat.reduceMul, Int.reduceToNat, Int.reduceLE, Int.reduceLT]
  refine callT_pure hX ?_
  cases h : t.isPrefixOf s with
  | false => simp only [↓aX, evp, evq, evl, boxK, stillV, binV, AV.cells, mP, loadV, storeV, ldV, AV.stb, AV.one, IV.av1, Lb.app, Lb.fresh, reduceCtorEq, ptrL, appL, fillA, chunks, ivs, AV.iv, mkE, if_false, if_true, List.not_mem_nil, forall_eq, beq_self_eq_true, List.isEmpty_nil, Nat.reduceEqDiff, Nat.reduceLT, Nat.reduceLeDiff, Nat.reduceAdd, Nat.reduceMul, Int.reduceToNat, Int.reduceLE, Int.reduceLT, Bool.not_false, ↓ret2_r]
  | true =>
    have : t.length ≤ s.length := by rw [List.isPrefixOf_iff_prefix] at h; exact h.length_le
    simp only [↓aX, evp, evq, evl, boxK, stillV, binV, AV.cells, mP, loadV, storeV, ldV, AV.stb, AV.one, IV.av1, Lb.app, Lb.fresh, reduceCtorEq, ptrL, appL, fillA, chunks, ivs, AV.iv, mkE, if_false, if_true, List.not_mem_nil, forall_eq, beq_self_eq_true, List.isEmpty_nil, Nat.reduceEqDiff, Nat.reduceLT, Nat.reduceLeDiff, Nat.reduceAdd, Nat.reduceMul, Int.reduceToNat, Int.reduceLE, Int.reduceLT, Bool.not_true, bnd, Int.natCast_nonneg, Int.toNat_natCast, true_and, this, List.take_length, ↓ret2_r]
def c_strings_CutPrefix (f_internal_stringslite_CutPrefix : Nat) : AC :=
(.seq (.reg [⟨(some 4), none, (.mov (.c (.str [])))⟩, ⟨(some 5), none, (.mov (.c (.bool false)))⟩]) (.seq (.reg [⟨(some 6), none, (.mov (.t 0))⟩, ⟨(some 7), none, (.mov (.t 1))⟩, ⟨(some 8), none, (.call f_internal_stringslite_CutPrefix [(.t 6), (.t 7)])⟩, ⟨(some 9), none, (.ext (.t 8) 0)⟩, ⟨(some 10), none, (.ext (.t 8) 1)⟩, ⟨(some 4), none, (.mov (.t 9))⟩, ⟨(some 5), none, (.mov (.t 10))⟩]) .ret))
theorem pCutPrefix {f_strings_CutPrefix f_internal_stringslite_CutPrefix : Nat} (hF : compF P G f_strings_CutPrefix = some (11, [(none, 4), (none, 5)], (c_strings_CutPrefix f_internal_stringslite_CutPrefix).bare)) (s t : Bs)
    (hX : PureC P G f_internal_stringslite_CutPrefix [.str s, .str t] (.tup [.str (if t.isPrefixOf s then s.drop t.length else s), .bool (t.isPrefixOf s)])) :
    PureC P G f_strings_CutPrefix [.str s, .str t] (.tup [.str (if t.isPrefixOf s then s.drop t.length else s), .bool (t.isPrefixOf s)]) := by
  refine pure_of_go hF (by simp) (by simp [lbss, AV.lbs]) (by simp [AV.lbs, lbss]) ?_
  unfold c_strings_CutPrefix
  simp only [↓aX, evp, evq, evl, boxK, stillV, binV, AV.cells, mP, loadV, storeV, ldV, AV.stb, AV.one, IV.av1, Lb.app, Lb.fresh, reduceCtorEq, ptrL, appL, fillA, chunks, ivs, AV.iv, mkE, if_false, if_true, List.not_mem_nil, forall_eq, beq_self_eq_true, List.isEmpty_nil, Nat.reduceEqDiff, Nat.reduceLT, Nat.reduceLeDiff, Nat.reduceAdd, Nat.reduceMul, Int.reduceToNat, Int.reduceLE, Int.reduceLT]
  refine callT_pure hX ?_
  simp only [↓aX, evp, evq, evl, boxK, stillV, binV, AV.cells, mP, loadV, storeV, ldV, AV.stb, AV.one, IV.av1, Lb.app, Lb.fresh, reduceCtorEq, ptrL, appL, fillA, chunks, ivs, AV.iv, mkE, if_false, if_true, List.not_mem_nil, forall_eq, beq_self_eq_true, List.isEmpty_nil, Nat.reduceEqDiff, Nat.reduceLT, Nat.reduceLeDiff, Nat.reduceAdd, Nat.reduceMul, Int.reduceToNat, Int.reduceLE, Int.reduceLT, ↓ret2_r]
end
end Go.Am
