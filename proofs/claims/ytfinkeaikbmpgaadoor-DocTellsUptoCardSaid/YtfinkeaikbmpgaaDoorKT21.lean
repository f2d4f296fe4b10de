import Derived.Test.YtfinkeaikbmpgaaDoorKT10
import Derived.Test.YtfinkeaikbmpgaaDoorKAm32
import Derived.Test.YtfinkeaikbmpgaaDoorKT4
import Derived.Test.YtfinkeaikbmpgaaDoorKAm25
import Derived.Test.YtfinkeaikbmpgaaDoorKD3
set_option linter.unusedSimpArgs false
set_option linter.unusedVariables false
set_option linter.unnecessarySimpa false
set_option linter.defProp false
/- Letters: sets of bytes; a string cut at both ends. -/
namespace Go.Am
open Go Go.RowKit
def bndV : AV → Nat → Option Nat
  | .int _ v, mx => if 0 ≤ v ∧ v.toNat ≤ mx then some v.toNat else none
  | _, _ => none
theorem bnd_n (env : Env) (d mx : Nat) : bnd env none d mx = some d := rfl
theorem bnd_s (env : Env) (x : O) (d mx : Nat) : bnd env (some x) d mx = bndV (ev env x) mx := by
  simp only [bnd]
  generalize ev env x = v
  cases v <;> rfl
theorem bndV_nat (k : IntKind) (n mx : Nat) (h : n ≤ mx) : bndV (.int k (n : Int)) mx = some n := by simp [bndV, h]
def setA (f : Nat → Bool) : List AV := (List.range 256).map fun i => .bool (f i)
theorem setA_len (f : Nat → Bool) : (setA f).length = 256 := by simp [setA]
theorem setA_get (f : Nat → Bool) (i : Nat) (h : i < 256) : (setA f)[i]? = some (.bool (f i)) := by simp [setA, List.getElem?_range h]
theorem setA_lbs (f : Nat → Bool) : lbss (setA f) = [] := by
  have : ∀ l : List Nat, lbss (l.map fun i => AV.bool (f i)) = [] := by
    intro l
    induction l with
    | nil => rfl
    | cons a r ih => simp [lbss, AV.lbs, ih]
  exact this _
theorem setA_no : List.replicate 256 (AV.bool false) = setA (fun _ => false) := by
  apply List.ext_getElem?
  intro i
  by_cases h : i < 256
  · rw [setA_get _ _ h, List.getElem?_replicate, if_pos h]
  · rw [List.getElem?_eq_none (by rw [List.length_replicate]; omega), List.getElem?_eq_none (by rw [setA_len]; omega)]
theorem setA_set (f : Nat → Bool) (j : Nat) : (setA f).set j (.bool true) = setA (fun k => k == j || f k) := by
  apply List.ext_getElem?
  intro i
  by_cases h : i < 256
  · rw [setA_get _ _ h, List.getElem?_set]
    by_cases e : j = i
    · subst e; rw [if_pos rfl, if_pos (by rw [setA_len]; exact h)]; simp
    · rw [if_neg e, setA_get _ _ h]
      have : (i == j) = false := by simpa using Ne.symm e
      rw [this]; simp
  · rw [List.getElem?_eq_none (by rw [List.length_set, setA_len]; omega), List.getElem?_eq_none (by rw [setA_len]; omega)]
theorem setA_put (f : Nat → Bool) (j : Nat) (h : j < 256) : (setA f).take j ++ [.bool true] ++ (setA f).drop (j + 1) = setA (fun k => k == j || f k) := by
  rw [← setA_set, List.set_eq_take_append_cons_drop, if_pos (by rw [setA_len]; exact h)]
  simp
theorem setA_take (f : Nat → Bool) : (setA f).take 256 = setA f := List.take_of_length_le (by rw [setA_len]; exact Nat.le_refl _)
theorem setA_drop (f : Nat → Bool) : (setA f).drop 256 = [] := List.drop_eq_nil_of_le (by rw [setA_len]; exact Nat.le_refl _)
theorem setA_one (f : Nat → Bool) : (setA f).all AV.one = true := by
  rw [List.all_eq_true]
  intro x hx
  obtain ⟨i, _, rfl⟩ := List.mem_map.1 hx
  rfl
def memB (s : Bs) (k : Nat) : Bool := s.any fun c => k == c.toNat
theorem take_snoc'' {α : Type} {l : List α} {i : Nat} {x : α} (h : l[i]? = some x) : l.take (i + 1) = l.take i ++ [x] := by rw [List.take_add_one, h]; rfl
theorem memB_snoc (s : Bs) (c : UInt8) : memB (s ++ [c]) = fun k => k == c.toNat || memB s k := by
  funext k; simp [memB, Bool.or_comm]
def c_strings_makeASCIISet : AC :=
(.seq (.reg [⟨(some 2), none, (.new (List.replicate 256 (.bool false)))⟩, ⟨(some 3), none, (.mov (.c (.bool false)))⟩]) (.seq (.seq (.reg [⟨(some 4), none, (.mov (.c (.int .i64 0)))⟩]) (.block 0 (.loop (.seq (.seq (.reg [⟨(some 6), none, (.mov (.t 4))⟩, ⟨(some 7), none, (.mov (.t 0))⟩, ⟨(some 8), none, (.lens (.t 7))⟩, ⟨(some 9), none, (.bin .lss (.t 6) (.t 8))⟩]) (.cond (.t 9) .skip (.exit 0))) (.seq (.block 1 (.seq (.reg [⟨(some 12), none, (.mov (.t 0))⟩, ⟨(some 13), none, (.mov (.t 4))⟩, ⟨(some 14), none, (.ixs (.t 12) (.t 13))⟩, ⟨(some 5), none, (.mov (.t 14))⟩]) (.seq (.seq (.reg [⟨(some 15), none, (.mov (.t 5))⟩, ⟨(some 16), none, (.bin .geq (.t 15) (.c (.int .u8 128)))⟩]) (.cond (.t 16) (.seq (.reg [⟨(some 17), none, (.load (some 256) (.t 2))⟩, ⟨none, none, (.store 256 (.t 2) (.t 17))⟩, ⟨(some 3), none, (.mov (.c (.bool false)))⟩]) .ret) .skip)) (.reg [⟨(some 18), none, (.mov (.t 5))⟩, ⟨(some 19), none, (.ixp (.t 2) (.t 18) 256 1)⟩, ⟨none, none, (.store 1 (.t 19) (.c (.bool true)))⟩])))) (.reg [⟨(some 10), none, (.mov (.t 4))⟩, ⟨(some 11), none, (.bin .add (.t 10) (.c (.int .i64 1)))⟩, ⟨(some 4), none, (.mov (.t 11))⟩])))))) (.seq (.reg [⟨(some 20), none, (.load (some 256) (.t 2))⟩, ⟨none, none, (.store 256 (.t 2) (.t 20))⟩, ⟨(some 3), none, (.mov (.c (.bool true)))⟩]) .ret)))
theorem pMakeSet {P : Program} {G : Nat → Option (List IV)} {f_strings_makeASCIISet : Nat} (hF : compF P G f_strings_makeASCIISet = some (21, [((some (some 256)), 2), (none, 3)], c_strings_makeASCIISet.bare)) (s : Bs) (hs : s.length ≤ B) (h128 : ∀ c ∈ s, c.toNat < 128) :
    PureC P G f_strings_makeASCIISet [.str s] (.tup [.agg (setA (memB s)), .bool true]) := by
  refine pure_of_go hF (by simp) (by simp [lbss, AV.lbs]) (by simp [AV.lbs, lbss, setA_lbs]) ?_
  unfold c_strings_makeASCIISet
  simp only [↓aX, evp, evq, evl, boxK, stillV, binV, AV.cells, mP, loadV, storeV, ldV, AV.stb, AV.one, IV.av1, Lb.app, Lb.fresh, reduceCtorEq, ptrL, appL, fillA, chunks, ivs, AV.iv, mkE, if_false, if_true, List.not_mem_nil, forall_eq, beq_self_eq_true, List.isEmpty_nil, Nat.reduceEqDiff, Nat.reduceLT, Nat.reduceLeDiff, Nat.reduceAdd, Nat.reduceMul, Int.reduceToNat, Int.reduceLE, Int.reduceLT, setA_no, setA_len]
  refine loop_same (σ := { i : Nat // i ≤ s.length }) [.loc 2] (fun q => [(0, .str s), (2, .ptr (.loc 2) 256 0 0), (4, .int .i64 q.1)]) (fun q => [(.loc 2, ⟨256, [setA (memB (s.take q.1))]⟩)]) (fun q => s.length - q.1) ⟨0, Nat.zero_le _⟩
    (fun _ => rfl) (by decide) (by simp [lbss, AV.lbs]) (fun q r hr cs hcs l hl => by
      simp only [List.mem_singleton] at hr; subst hr
      simp only [List.mem_singleton] at hcs; subst hcs
      rw [setA_lbs] at hl; simp at hl) ?_ ?_
  · exact WS_mk (by simp only [NFx_loc, NFx_none]) (by repeat' constructor) ⟨rfl, trivial⟩
  · rintro ⟨i, hi⟩
    simp only [↓aX, evp, evq, evl, boxK, stillV, binV, AV.cells, mP, loadV, storeV, ldV, AV.stb, AV.one, IV.av1, Lb.app, Lb.fresh, reduceCtorEq, ptrL, appL, fillA, chunks, ivs, AV.iv, mkE, if_false, if_true, List.not_mem_nil, forall_eq, beq_self_eq_true, List.isEmpty_nil, Nat.reduceEqDiff, Nat.reduceLT, Nat.reduceLeDiff, Nat.reduceAdd, Nat.reduceMul, Int.reduceToNat, Int.reduceLE, Int.reduceLT, ofH_nil, ofH_cons, setA_len]
    by_cases hlt : i < s.length
    · rw [show decide ((i : Int) < (s.length : Int)) = true by simpa using hlt]
      obtain ⟨c, hc⟩ : ∃ c, s[i]? = some c := ⟨_, List.getElem?_eq_getElem hlt⟩
      have hw : IntKind.i64.wrap ((i : Int) + 1) = ((i + 1 : Nat) : Int) := wrap64 (by omega) (by unfold B at hs; omega)
      have hcl := h128 c (List.mem_of_getElem? hc)
      simp only [↓aX, evp, evq, evl, boxK, stillV, binV, AV.cells, mP, loadV, storeV, ldV, AV.stb, AV.one, IV.av1, Lb.app, Lb.fresh, reduceCtorEq, ptrL, appL, fillA, chunks, ivs, AV.iv, mkE, if_false, if_true, List.not_mem_nil, forall_eq, beq_self_eq_true, List.isEmpty_nil, Nat.reduceEqDiff, Nat.reduceLT, Nat.reduceLeDiff, Nat.reduceAdd, Nat.reduceMul, Int.reduceToNat, Int.reduceLE, Int.reduceLT, hc, show decide (((c.toNat : Nat) : Int) ≥ 128) = false by simp; omega, setA_len, hw]
      simp only [↓aX, evp, evq, evl, boxK, stillV, binV, AV.cells, mP, loadV, storeV, ldV, AV.stb, AV.one, IV.av1, Lb.app, Lb.fresh, reduceCtorEq, ptrL, appL, fillA, chunks, ivs, AV.iv, mkE, if_false, if_true, List.not_mem_nil, forall_eq, beq_self_eq_true, List.isEmpty_nil, Nat.reduceEqDiff, Nat.reduceLT, Nat.reduceLeDiff, Nat.reduceAdd, Nat.reduceMul, Int.reduceToNat, Int.reduceLE, Int.reduceLT, if_pos (show c.toNat < 256 by omega), if_pos (show c.toNat ≤ 255 by omega), setA_put _ _ (show c.toNat < 256 by omega), setA_len, hw]
      refine ⟨⟨i + 1, hlt⟩, by simp only; omega, WS_mk (by simp only [NFx_loc, NFx_none]) (by repeat' constructor) ⟨?_, trivial⟩⟩
      rw [take_snoc'' hc, memB_snoc]
      rfl
    · have hil : i = s.length := by omega
      subst hil
      rw [show decide ((s.length : Int) < (s.length : Int)) = false by simp]
      simp only [↓aX, evp, evq, evl, boxK, stillV, binV, AV.cells, mP, loadV, storeV, ldV, AV.stb, AV.one, IV.av1, Lb.app, Lb.fresh, reduceCtorEq, ptrL, appL, fillA, chunks, ivs, AV.iv, mkE, if_false, if_true, List.not_mem_nil, forall_eq, beq_self_eq_true, List.isEmpty_nil, Nat.reduceEqDiff, Nat.reduceLT, Nat.reduceLeDiff, Nat.reduceAdd, Nat.reduceMul, Int.reduceToNat, Int.reduceLE, Int.reduceLT, List.take_length, setA_len, setA_take, setA_drop, setA_one, List.append_nil, retm2_r]
def c_strings_asciiSet_contains : AC :=
(.seq (.reg [⟨(some 4), none, (.mov (.c (.bool false)))⟩]) (.seq (.reg [⟨(some 5), none, (.mov (.t 0))⟩, ⟨(some 6), none, (.mov (.t 1))⟩, ⟨(some 7), none, (.nchk (.t 5))⟩, ⟨(some 8), none, (.ixp (.t 7) (.t 6) 256 1)⟩, ⟨(some 9), none, (.load none (.t 8))⟩, ⟨(some 4), none, (.mov (.t 9))⟩]) .ret))
theorem pContains {P : Program} {G : Nat → Option (List IV)} {f_strings_asciiSet_contains : Nat} (hF : compF P G f_strings_asciiSet_contains = some (10, [(none, 4)], c_strings_asciiSet_contains.bare)) (f : Nat → Bool) (c : UInt8) :
    MutC P G f_strings_asciiSet_contains [.ptr (.par 0) 256 0 0, .int .u8 (c.toNat : Int)] (setA f) fun x cs => x = .bool (f c.toNat) ∧ cs = setA f := by
  refine mut_of_go hF (by simp) (by simp [lbss, AV.lbs]) (setA_lbs f) ?_
  have hc : c.toNat < 256 := c.toNat_lt
  unfold c_strings_asciiSet_contains
  simp only [↓aX, evp, evq, evl, boxK, stillV, binV, AV.cells, mP, loadV, storeV, ldV, AV.stb, AV.one, IV.av1, Lb.app, Lb.fresh, reduceCtorEq, ptrL, appL, fillA, chunks, ivs, AV.iv, mkE, if_false, if_true, List.not_mem_nil, forall_eq, beq_self_eq_true, List.isEmpty_nil, Nat.reduceEqDiff, Nat.reduceLT, Nat.reduceLeDiff, Nat.reduceAdd, Nat.reduceMul, Int.reduceToNat, Int.reduceLE, Int.reduceLT, row1, setA_len, if_pos hc, setA_get f _ hc]
  exact ⟨_, rfl, rfl, setA_lbs f, setA_len f, rfl⟩
def c_strings_trimLeftASCII (f_strings_asciiSet_contains : Nat) : AC :=
(.seq (.reg [⟨(some 4), none, (.mov (.c (.str [])))⟩]) (.seq (.block 0 (.loop (.seq (.seq (.reg [⟨(some 5), none, (.mov (.t 0))⟩, ⟨(some 6), none, (.lens (.t 5))⟩, ⟨(some 7), none, (.bin .gtr (.t 6) (.c (.int .i64 0)))⟩]) (.cond (.t 7) .skip (.exit 0))) (.block 1 (.seq (.seq (.reg [⟨(some 8), none, (.mov (.t 1))⟩, ⟨(some 9), none, (.mov (.t 0))⟩, ⟨(some 10), none, (.ixs (.t 9) (.c (.int .i64 0)))⟩, ⟨(some 11), none, (.call f_strings_asciiSet_contains [(.t 8), (.t 10)])⟩, ⟨(some 12), none, (.not (.t 11))⟩]) (.cond (.t 12) (.exit 0) .skip)) (.reg [⟨(some 13), none, (.mov (.t 0))⟩, ⟨(some 14), none, (.slcs (.t 13) (some (.c (.int .i64 1))) none)⟩, ⟨(some 0), none, (.mov (.t 14))⟩])))))) (.seq (.reg [⟨(some 15), none, (.mov (.t 0))⟩, ⟨(some 4), none, (.mov (.t 15))⟩]) .ret)))
def c_strings_trimRightASCII (f_strings_asciiSet_contains : Nat) : AC :=
(.seq (.reg [⟨(some 4), none, (.mov (.c (.str [])))⟩]) (.seq (.block 0 (.loop (.seq (.seq (.reg [⟨(some 5), none, (.mov (.t 0))⟩, ⟨(some 6), none, (.lens (.t 5))⟩, ⟨(some 7), none, (.bin .gtr (.t 6) (.c (.int .i64 0)))⟩]) (.cond (.t 7) .skip (.exit 0))) (.block 1 (.seq (.seq (.reg [⟨(some 8), none, (.mov (.t 1))⟩, ⟨(some 9), none, (.mov (.t 0))⟩, ⟨(some 10), none, (.mov (.t 0))⟩, ⟨(some 11), none, (.lens (.t 10))⟩, ⟨(some 12), none, (.bin .sub (.t 11) (.c (.int .i64 1)))⟩, ⟨(some 13), none, (.ixs (.t 9) (.t 12))⟩, ⟨(some 14), none, (.call f_strings_asciiSet_contains [(.t 8), (.t 13)])⟩, ⟨(some 15), none, (.not (.t 14))⟩]) (.cond (.t 15) (.exit 0) .skip)) (.reg [⟨(some 16), none, (.mov (.t 0))⟩, ⟨(some 17), none, (.mov (.t 0))⟩, ⟨(some 18), none, (.lens (.t 17))⟩, ⟨(some 19), none, (.bin .sub (.t 18) (.c (.int .i64 1)))⟩, ⟨(some 20), none, (.slcs (.t 16) none (some (.t 19)))⟩, ⟨(some 0), none, (.mov (.t 20))⟩])))))) (.seq (.reg [⟨(some 21), none, (.mov (.t 0))⟩, ⟨(some 4), none, (.mov (.t 21))⟩]) .ret)))
def trimL (f : Nat → Bool) (s : Bs) : Bs := s.dropWhile fun c => f c.toNat
def trimR (f : Nat → Bool) (s : Bs) : Bs := (trimL f s.reverse).reverse
theorem setA_rows {f : Nat → Bool} {q : Lb × Row} (hr : q ∈ [((.par 0 : Lb), (⟨256, [setA f]⟩ : Row))]) {ls : List Lb} : ∀ cs ∈ q.2.els, ∀ l ∈ lbss cs, l ∈ ls := by
  intro cs hcs l hl
  simp only [List.mem_singleton] at hr; subst hr
  simp only [List.mem_singleton] at hcs; subst hcs
  rw [setA_lbs] at hl; simp at hl
theorem pTrimLeft {P : Program} {G : Nat → Option (List IV)} {f_strings_trimLeftASCII f_strings_asciiSet_contains : Nat} (hF : compF P G f_strings_trimLeftASCII = some (16, [(none, 4)], (c_strings_trimLeftASCII f_strings_asciiSet_contains).bare)) (f : Nat → Bool) (s : Bs) (hs : s.length ≤ B)
    (hC : ∀ c : UInt8, MutC P G f_strings_asciiSet_contains [.ptr (.par 0) 256 0 0, .int .u8 (c.toNat : Int)] (setA f) fun x cs => x = .bool (f c.toNat) ∧ cs = setA f) :
    MutC P G f_strings_trimLeftASCII [.str s, .ptr (.par 0) 256 0 0] (setA f) fun x cs => x = .str (trimL f s) ∧ cs = setA f := by
  refine mut_of_go hF (by simp) (by simp [lbss, AV.lbs]) (setA_lbs f) ?_
  unfold c_strings_trimLeftASCII
  simp only [↓aX, evp, evq, evl, boxK, stillV, binV, AV.cells, mP, loadV, storeV, ldV, AV.stb, AV.one, IV.av1, Lb.app, Lb.fresh, reduceCtorEq, ptrL, appL, fillA, chunks, ivs, AV.iv, mkE, if_false, if_true, List.not_mem_nil, forall_eq, beq_self_eq_true, List.isEmpty_nil, Nat.reduceEqDiff, Nat.reduceLT, Nat.reduceLeDiff, Nat.reduceAdd, Nat.reduceMul, Int.reduceToNat, Int.reduceLE, Int.reduceLT, row1, setA_len]
  refine loop_same (σ := { t : Bs // t.length ≤ B ∧ trimL f t = trimL f s }) [.par 0] (fun t => [(0, .str t.1), (1, .ptr (.par 0) 256 0 0)]) (fun _ => [(.par 0, ⟨256, [setA f]⟩)]) (fun t => t.1.length) ⟨s, hs, rfl⟩
    (fun _ => rfl) (by decide) (by simp [lbss, AV.lbs]) (fun _ q hr => setA_rows hr) ?_ ?_
  · refine WS_mk ?_ (by repeat' constructor) ⟨rfl, trivial⟩
    intro l hl hu
    by_cases e : l = .par 0
    · subst e; simp
    · exfalso; apply hu; cases l <;> simp_all [Lb.fresh, upd_at, Hp.none]
  · rintro ⟨t, ht, hst⟩
    cases t with
    | nil =>
      simp only [↓aX, evp, evq, evl, boxK, stillV, binV, AV.cells, mP, loadV, storeV, ldV, AV.stb, AV.one, IV.av1, Lb.app, Lb.fresh, reduceCtorEq, ptrL, appL, fillA, chunks, ivs, AV.iv, mkE, if_false, if_true, List.not_mem_nil, forall_eq, beq_self_eq_true, List.isEmpty_nil, Nat.reduceEqDiff, Nat.reduceLT, Nat.reduceLeDiff, Nat.reduceAdd, Nat.reduceMul, Int.reduceToNat, Int.reduceLE, Int.reduceLT, ofH_nil, ofH_cons, List.length_nil, show decide (((0 : Nat) : Int) > 0) = false from rfl]
      rw [← hst]
      exact ⟨_, ⟨rfl, rfl⟩, rfl, setA_lbs f, setA_len f, rfl⟩
    | cons c r =>
      have hg : decide (((r.length + 1 : Nat) : Int) > 0) = true := by rw [decide_eq_true_eq]; omega
      have hi0 : (c :: r)[0]? = some c := rfl
      simp only [↓aX, evp, evq, evl, boxK, stillV, binV, AV.cells, mP, loadV, storeV, ldV, AV.stb, AV.one, IV.av1, Lb.app, Lb.fresh, reduceCtorEq, ptrL, appL, fillA, chunks, ivs, AV.iv, mkE, if_false, if_true, List.not_mem_nil, forall_eq, beq_self_eq_true, List.isEmpty_nil, Nat.reduceEqDiff, Nat.reduceLT, Nat.reduceLeDiff, Nat.reduceAdd, Nat.reduceMul, Int.reduceToNat, Int.reduceLE, Int.reduceLT, ofH_nil, ofH_cons, List.length_cons, hg, hi0]
      refine callT_mut (l := .par 0) (hC c) rfl (by simp only [↓aX, evp, evq, evl, boxK, stillV, binV, AV.cells, mP, loadV, storeV, ldV, AV.stb, AV.one, IV.av1, Lb.app, Lb.fresh, reduceCtorEq, ptrL, appL, fillA, chunks, ivs, AV.iv, mkE, if_false, if_true, List.not_mem_nil, forall_eq, beq_self_eq_true, List.isEmpty_nil, Nat.reduceEqDiff, Nat.reduceLT, Nat.reduceLeDiff, Nat.reduceAdd, Nat.reduceMul, Int.reduceToNat, Int.reduceLE, Int.reduceLT, setA_len]) ?_
      rintro x1 cs' ⟨rfl, rfl⟩ _ _ _
      simp only [↓aX, evp, evq, evl, boxK, stillV, binV, AV.cells, mP, loadV, storeV, ldV, AV.stb, AV.one, IV.av1, Lb.app, Lb.fresh, reduceCtorEq, ptrL, appL, fillA, chunks, ivs, AV.iv, mkE, if_false, if_true, List.not_mem_nil, forall_eq, beq_self_eq_true, List.isEmpty_nil, Nat.reduceEqDiff, Nat.reduceLT, Nat.reduceLeDiff, Nat.reduceAdd, Nat.reduceMul, Int.reduceToNat, Int.reduceLE, Int.reduceLT, setA_len]
      cases hf : f c.toNat with
      | false =>
        have : trimL f s = c :: r := by rw [← hst]; simp [trimL, hf]
        simp only [↓aX, evp, evq, evl, boxK, stillV, binV, AV.cells, mP, loadV, storeV, ldV, AV.stb, AV.one, IV.av1, Lb.app, Lb.fresh, reduceCtorEq, ptrL, appL, fillA, chunks, ivs, AV.iv, mkE, if_false, if_true, List.not_mem_nil, forall_eq, beq_self_eq_true, List.isEmpty_nil, Nat.reduceEqDiff, Nat.reduceLT, Nat.reduceLeDiff, Nat.reduceAdd, Nat.reduceMul, Int.reduceToNat, Int.reduceLE, Int.reduceLT, Bool.not_false, this]
        exact ⟨_, rfl, rfl, setA_lbs f, setA_len f, by rw [setA_len]⟩
      | true =>
        have h2 : trimL f r = trimL f s := by rw [← hst]; simp [trimL, hf]
        have hb : bndV (.int .i64 1) (r.length + 1) = some 1 := bndV_nat .i64 1 _ (by omega)
        have htk : (c :: r).take (r.length + 1) = c :: r := List.take_of_length_le (by simp)
        simp only [↓aX, evp, evq, evl, boxK, stillV, binV, AV.cells, mP, loadV, storeV, ldV, AV.stb, AV.one, IV.av1, Lb.app, Lb.fresh, reduceCtorEq, ptrL, appL, fillA, chunks, ivs, AV.iv, mkE, if_false, if_true, List.not_mem_nil, forall_eq, beq_self_eq_true, List.isEmpty_nil, Nat.reduceEqDiff, Nat.reduceLT, Nat.reduceLeDiff, Nat.reduceAdd, Nat.reduceMul, Int.reduceToNat, Int.reduceLE, Int.reduceLT, Bool.not_true, setA_len, List.length_cons, bnd_n, bnd_s, hb, htk, Option.bind_some, Option.map_some, List.drop_succ_cons, List.drop_zero]
        refine ⟨⟨r, by rw [List.length_cons] at ht; omega, h2⟩, by simp only [List.length_cons]; omega, WS_mk ?_ (by repeat' constructor) ⟨rfl, trivial⟩⟩
        intro l hl hu
        by_cases e : l = .par 0
        · subst e; simp
        · exfalso; apply hu; cases l <;> simp_all [Lb.fresh, upd_at, Hp.none]
theorem trimR_snoc (f : Nat → Bool) (t : Bs) (c : UInt8) : trimR f (t ++ [c]) = if f c.toNat = true then trimR f t else t ++ [c] := by
  unfold trimR trimL
  rw [List.reverse_append]
  simp only [List.reverse_cons, List.reverse_nil, List.nil_append, List.singleton_append, List.dropWhile_cons]
  split <;> simp
theorem pTrimRight {P : Program} {G : Nat → Option (List IV)} {f_strings_trimRightASCII f_strings_asciiSet_contains : Nat} (hF : compF P G f_strings_trimRightASCII = some (22, [(none, 4)], (c_strings_trimRightASCII f_strings_asciiSet_contains).bare)) (f : Nat → Bool) (s : Bs) (hs : s.length ≤ B)
    (hC : ∀ c : UInt8, MutC P G f_strings_asciiSet_contains [.ptr (.par 0) 256 0 0, .int .u8 (c.toNat : Int)] (setA f) fun x cs => x = .bool (f c.toNat) ∧ cs = setA f) :
    MutC P G f_strings_trimRightASCII [.str s, .ptr (.par 0) 256 0 0] (setA f) fun x cs => x = .str (trimR f s) ∧ cs = setA f := by
  refine mut_of_go hF (by simp) (by simp [lbss, AV.lbs]) (setA_lbs f) ?_
  unfold c_strings_trimRightASCII
  simp only [↓aX, evp, evq, evl, boxK, stillV, binV, AV.cells, mP, loadV, storeV, ldV, AV.stb, AV.one, IV.av1, Lb.app, Lb.fresh, reduceCtorEq, ptrL, appL, fillA, chunks, ivs, AV.iv, mkE, if_false, if_true, List.not_mem_nil, forall_eq, beq_self_eq_true, List.isEmpty_nil, Nat.reduceEqDiff, Nat.reduceLT, Nat.reduceLeDiff, Nat.reduceAdd, Nat.reduceMul, Int.reduceToNat, Int.reduceLE, Int.reduceLT, row1, setA_len]
  refine loop_same (σ := { n : Nat // n ≤ s.length ∧ trimR f (s.take n) = trimR f s }) [.par 0] (fun n => [(0, .str (s.take n.1)), (1, .ptr (.par 0) 256 0 0)]) (fun _ => [(.par 0, ⟨256, [setA f]⟩)]) (fun n => n.1) ⟨s.length, Nat.le_refl _, by rw [List.take_length]⟩
    (fun _ => rfl) (by decide) (by simp [lbss, AV.lbs]) (fun _ q hr => setA_rows hr) ?_ ?_
  · refine WS_mk ?_ ⟨by rw [List.take_length]; rfl, rfl, trivial⟩ ⟨rfl, trivial⟩
    intro l hl hu
    by_cases e : l = .par 0
    · subst e; simp
    · exfalso; apply hu; cases l <;> simp_all [Lb.fresh, upd_at, Hp.none]
  · rintro ⟨n, hn, hst⟩
    have hln : (s.take n).length = n := by rw [List.length_take]; omega
    cases n with
    | zero =>
      simp only [↓aX, evp, evq, evl, boxK, stillV, binV, AV.cells, mP, loadV, storeV, ldV, AV.stb, AV.one, IV.av1, Lb.app, Lb.fresh, reduceCtorEq, ptrL, appL, fillA, chunks, ivs, AV.iv, mkE, if_false, if_true, List.not_mem_nil, forall_eq, beq_self_eq_true, List.isEmpty_nil, Nat.reduceEqDiff, Nat.reduceLT, Nat.reduceLeDiff, Nat.reduceAdd, Nat.reduceMul, Int.reduceToNat, Int.reduceLE, Int.reduceLT, ofH_nil, ofH_cons, hln, show decide (((0 : Nat) : Int) > 0) = false from rfl]
      rw [← hst]
      exact ⟨_, ⟨rfl, rfl⟩, rfl, setA_lbs f, setA_len f, rfl⟩
    | succ n =>
      obtain ⟨c, hc⟩ : ∃ c, s[n]? = some c := ⟨_, List.getElem?_eq_getElem (by omega)⟩
      have hg : decide (((n + 1 : Nat) : Int) > 0) = true := by rw [decide_eq_true_eq]; omega
      have hw : IntKind.i64.wrap (((n + 1 : Nat) : Int) - 1) = (n : Int) := by rw [wrap64 (by omega) (by unfold B at hs; omega)]; omega
      have hcn : (s.take (n + 1))[n]? = some c := by rw [List.getElem?_take, if_pos (by omega)]; exact hc
      have hsn : s.take (n + 1) = s.take n ++ [c] := take_snoc'' hc
      simp only [↓aX, evp, evq, evl, boxK, stillV, binV, AV.cells, mP, loadV, storeV, ldV, AV.stb, AV.one, IV.av1, Lb.app, Lb.fresh, reduceCtorEq, ptrL, appL, fillA, chunks, ivs, AV.iv, mkE, if_false, if_true, List.not_mem_nil, forall_eq, beq_self_eq_true, List.isEmpty_nil, Nat.reduceEqDiff, Nat.reduceLT, Nat.reduceLeDiff, Nat.reduceAdd, Nat.reduceMul, Int.reduceToNat, Int.reduceLE, Int.reduceLT, ofH_nil, ofH_cons, hln, hg, hw, hcn]
      refine callT_mut (l := .par 0) (hC c) rfl (by simp only [↓aX, evp, evq, evl, boxK, stillV, binV, AV.cells, mP, loadV, storeV, ldV, AV.stb, AV.one, IV.av1, Lb.app, Lb.fresh, reduceCtorEq, ptrL, appL, fillA, chunks, ivs, AV.iv, mkE, if_false, if_true, List.not_mem_nil, forall_eq, beq_self_eq_true, List.isEmpty_nil, Nat.reduceEqDiff, Nat.reduceLT, Nat.reduceLeDiff, Nat.reduceAdd, Nat.reduceMul, Int.reduceToNat, Int.reduceLE, Int.reduceLT, setA_len]) ?_
      rintro x1 cs' ⟨rfl, rfl⟩ _ _ _
      simp only [↓aX, evp, evq, evl, boxK, stillV, binV, AV.cells, mP, loadV, storeV, ldV, AV.stb, AV.one, IV.av1, Lb.app, Lb.fresh, reduceCtorEq, ptrL, appL, fillA, chunks, ivs, AV.iv, mkE, if_false, if_true, List.not_mem_nil, forall_eq, beq_self_eq_true, List.isEmpty_nil, Nat.reduceEqDiff, Nat.reduceLT, Nat.reduceLeDiff, Nat.reduceAdd, Nat.reduceMul, Int.reduceToNat, Int.reduceLE, Int.reduceLT, setA_len]
      cases hf : f c.toNat with
      | false =>
        have : trimR f s = s.take (n + 1) := by rw [← hst, hsn, trimR_snoc, if_neg (by rw [hf]; simp)]
        simp only [↓aX, evp, evq, evl, boxK, stillV, binV, AV.cells, mP, loadV, storeV, ldV, AV.stb, AV.one, IV.av1, Lb.app, Lb.fresh, reduceCtorEq, ptrL, appL, fillA, chunks, ivs, AV.iv, mkE, if_false, if_true, List.not_mem_nil, forall_eq, beq_self_eq_true, List.isEmpty_nil, Nat.reduceEqDiff, Nat.reduceLT, Nat.reduceLeDiff, Nat.reduceAdd, Nat.reduceMul, Int.reduceToNat, Int.reduceLE, Int.reduceLT, Bool.not_false, this]
        exact ⟨_, rfl, rfl, setA_lbs f, setA_len f, by rw [setA_len]⟩
      | true =>
        have h2 : trimR f (s.take n) = trimR f s := by rw [← hst, hsn, trimR_snoc, if_pos hf]
        have hb : bndV (.int .i64 (n : Int)) (n + 1) = some n := bndV_nat .i64 n _ (by omega)
        have htk : (s.take (n + 1)).take n = s.take n := by rw [List.take_take, Nat.min_eq_left (Nat.le_succ n)]
        simp only [↓aX, evp, evq, evl, boxK, stillV, binV, AV.cells, mP, loadV, storeV, ldV, AV.stb, AV.one, IV.av1, Lb.app, Lb.fresh, reduceCtorEq, ptrL, appL, fillA, chunks, ivs, AV.iv, mkE, if_false, if_true, List.not_mem_nil, forall_eq, beq_self_eq_true, List.isEmpty_nil, Nat.reduceEqDiff, Nat.reduceLT, Nat.reduceLeDiff, Nat.reduceAdd, Nat.reduceMul, Int.reduceToNat, Int.reduceLE, Int.reduceLT, Bool.not_true, setA_len, hln, hw, bnd_n, bnd_s, hb, htk, Option.bind_some, Option.map_some, List.drop_zero]
        refine ⟨⟨n, by omega, h2⟩, by simp only; omega, WS_mk ?_ (by repeat' constructor) ⟨rfl, trivial⟩⟩
        intro l hl hu
        by_cases e : l = .par 0
        · subst e; simp
        · exfalso; apply hu; cases l <;> simp_all [Lb.fresh, upd_at, Hp.none]
end Go.Am

/- Names, as the document says them. -/
namespace Go.Am
open Go Go.RowKit
def c_strings_Trim (f_strings_trimRightByte f_strings_trimLeftByte f_strings_makeASCIISet f_strings_trimRightASCII f_strings_trimLeftASCII f_strings_trimRightUnicode f_strings_trimLeftUnicode : Nat) : AC :=
(.seq (.reg [⟨(some 4), none, (.mov (.c (.str [])))⟩]) (.seq (.seq (.reg [⟨(some 7), none, (.mov (.t 0))⟩, ⟨(some 8), none, (.bin .eql (.t 7) (.c (.str [])))⟩, ⟨(some 9), none, (.mov (.t 8))⟩, ⟨(some 10), (some (9, false)), (.mov (.t 1))⟩, ⟨(some 11), (some (9, false)), (.bin .eql (.t 10) (.c (.str [])))⟩, ⟨(some 12), none, (.pick (.t 9) (.c (.bool true)) (.t 11))⟩]) (.cond (.t 12) (.seq (.reg [⟨(some 13), none, (.mov (.t 0))⟩, ⟨(some 4), none, (.mov (.t 13))⟩]) .ret) .skip)) (.seq (.seq (.reg [⟨(some 14), none, (.mov (.t 1))⟩, ⟨(some 15), none, (.lens (.t 14))⟩, ⟨(some 16), none, (.bin .eql (.t 15) (.c (.int .i64 1)))⟩, ⟨(some 17), none, (.mov (.t 16))⟩, ⟨(some 18), (some (17, true)), (.mov (.t 1))⟩, ⟨(some 19), (some (17, true)), (.ixs (.t 18) (.c (.int .i64 0)))⟩, ⟨(some 20), (some (17, true)), (.bin .lss (.t 19) (.c (.int .u8 128)))⟩, ⟨(some 21), none, (.pick (.t 17) (.t 20) (.c (.bool false)))⟩]) (.cond (.t 21) (.seq (.dreg [⟨(some 22), none, (.mov (.t 0))⟩, ⟨(some 23), none, (.mov (.t 1))⟩, ⟨(some 24), none, (.ixs (.t 23) (.c (.int .i64 0)))⟩, ⟨(some 25), none, (.call f_strings_trimRightByte [(.t 22), (.t 24)])⟩, ⟨(some 26), none, (.mov (.t 1))⟩, ⟨(some 27), none, (.ixs (.t 26) (.c (.int .i64 0)))⟩, ⟨(some 28), none, (.call f_strings_trimLeftByte [(.t 25), (.t 27)])⟩, ⟨(some 4), none, (.mov (.t 28))⟩] [[], [], [1], [0, 2], [], [4], [3, 5, 3], [6, 6, 0, 1, 2, 3, 4, 5, 6]] [.no, .no, .no, .no, .no, .no, .no, .no]) .ret) .skip)) (.seq (.seq (.reg [⟨(some 30), none, (.mov (.t 1))⟩, ⟨(some 31), none, (.call f_strings_makeASCIISet [(.t 30)])⟩, ⟨(some 29), none, (.mov (.t 31))⟩, ⟨(some 32), none, (.ext (.t 29) 0)⟩, ⟨(some 33), none, (.ext (.t 29) 1)⟩, ⟨(some 5), none, (.new (List.replicate 256 (.bool false)))⟩, ⟨none, none, (.store 256 (.t 5) (.t 32))⟩, ⟨(some 6), none, (.mov (.t 33))⟩]) (.seq (.reg [⟨(some 34), none, (.mov (.t 6))⟩]) (.cond (.t 34) (.seq (.reg [⟨(some 35), none, (.mov (.t 0))⟩, ⟨(some 36), none, (.call f_strings_trimRightASCII [(.t 35), (.t 5)])⟩, ⟨(some 37), none, (.call f_strings_trimLeftASCII [(.t 36), (.t 5)])⟩, ⟨(some 4), none, (.mov (.t 37))⟩]) .ret) .skip))) (.seq (.reg [⟨(some 38), none, (.mov (.t 0))⟩, ⟨(some 39), none, (.mov (.t 1))⟩, ⟨(some 40), none, (.call f_strings_trimRightUnicode [(.t 38), (.t 39)])⟩, ⟨(some 41), none, (.mov (.t 1))⟩, ⟨(some 42), none, (.call f_strings_trimLeftUnicode [(.t 40), (.t 41)])⟩, ⟨(some 4), none, (.mov (.t 42))⟩]) .ret)))))
theorem trim_le (f : Nat → Bool) (s : Bs) : (trimR f s).length ≤ s.length := by
  unfold trimR trimL
  rw [List.length_reverse]
  have := (List.dropWhile_suffix (l := s.reverse) (fun c => f c.toNat)).length_le
  rwa [List.length_reverse] at this
theorem pTrim {P : Program} {G : Nat → Option (List IV)} {f_strings_Trim f_strings_makeASCIISet f_strings_trimRightASCII f_strings_trimLeftASCII f_strings_trimRightByte f_strings_trimLeftByte f_strings_trimRightUnicode f_strings_trimLeftUnicode : Nat} (hF : compF P G f_strings_Trim = some (43, [(none, 4)], (c_strings_Trim f_strings_trimRightByte f_strings_trimLeftByte f_strings_makeASCIISet f_strings_trimRightASCII f_strings_trimLeftASCII f_strings_trimRightUnicode f_strings_trimLeftUnicode).bare)) (s t : Bs) (hs : s.length ≤ B) (ht : 2 ≤ t.length)
    (hM : PureC P G f_strings_makeASCIISet [.str t] (.tup [.agg (setA (memB t)), .bool true]))
    (hR : MutC P G f_strings_trimRightASCII [.str s, .ptr (.par 0) 256 0 0] (setA (memB t)) fun x cs => x = .str (trimR (memB t) s) ∧ cs = setA (memB t))
    (hL : MutC P G f_strings_trimLeftASCII [.str (trimR (memB t) s), .ptr (.par 0) 256 0 0] (setA (memB t)) fun x cs => x = .str (trimL (memB t) (trimR (memB t) s)) ∧ cs = setA (memB t)) :
    PureC P G f_strings_Trim [.str s, .str t] (.str (trimL (memB t) (trimR (memB t) s))) := by
  refine pure_of_go hF (by simp) (by simp [lbss, AV.lbs]) (by simp [AV.lbs]) ?_
  unfold c_strings_Trim
  simp only [↓aX, evp, evq, evl, boxK, stillV, binV, AV.cells, mP, loadV, storeV, ldV, AV.stb, AV.one, IV.av1, Lb.app, Lb.fresh, reduceCtorEq, ptrL, appL, fillA, chunks, ivs, AV.iv, mkE, if_false, if_true, List.not_mem_nil, forall_eq, beq_self_eq_true, List.isEmpty_nil, Nat.reduceEqDiff, Nat.reduceLT, Nat.reduceLeDiff, Nat.reduceAdd, Nat.reduceMul, Int.reduceToNat, Int.reduceLE, Int.reduceLT]
  have e1 : (t == []) = false := by cases t <;> simp_all
  have e2 : (((t.length : Nat) : Int) == 1) = false := by rw [beq_eq_false_iff_ne]; omega
  cases hs0 : (s == []) with
  | true =>
    have : s = [] := by simpa using hs0
    subst this
    simp only [↓aX, evp, evq, evl, boxK, stillV, binV, AV.cells, mP, loadV, storeV, ldV, AV.stb, AV.one, IV.av1, Lb.app, Lb.fresh, reduceCtorEq, ptrL, appL, fillA, chunks, ivs, AV.iv, mkE, if_false, if_true, List.not_mem_nil, forall_eq, beq_self_eq_true, List.isEmpty_nil, Nat.reduceEqDiff, Nat.reduceLT, Nat.reduceLeDiff, Nat.reduceAdd, Nat.reduceMul, Int.reduceToNat, Int.reduceLE, Int.reduceLT]
    rfl
  | false =>
    simp only [↓aX, evp, evq, evl, boxK, stillV, binV, AV.cells, mP, loadV, storeV, ldV, AV.stb, AV.one, IV.av1, Lb.app, Lb.fresh, reduceCtorEq, ptrL, appL, fillA, chunks, ivs, AV.iv, mkE, if_false, if_true, List.not_mem_nil, forall_eq, beq_self_eq_true, List.isEmpty_nil, Nat.reduceEqDiff, Nat.reduceLT, Nat.reduceLeDiff, Nat.reduceAdd, Nat.reduceMul, Int.reduceToNat, Int.reduceLE, Int.reduceLT, e1, e2]
    refine callT_pure hM ?_
    simp only [↓aX, evp, evq, evl, boxK, stillV, binV, AV.cells, mP, loadV, storeV, ldV, AV.stb, AV.one, IV.av1, Lb.app, Lb.fresh, reduceCtorEq, ptrL, appL, fillA, chunks, ivs, AV.iv, mkE, if_false, if_true, List.not_mem_nil, forall_eq, beq_self_eq_true, List.isEmpty_nil, Nat.reduceEqDiff, Nat.reduceLT, Nat.reduceLeDiff, Nat.reduceAdd, Nat.reduceMul, Int.reduceToNat, Int.reduceLE, Int.reduceLT, List.length_replicate, setA_no, setA_len, setA_take, setA_drop, setA_one, List.append_nil]
    refine callT_mut (l := .loc 5) hR rfl (by simp only [↓aX, evp, evq, evl, boxK, stillV, binV, AV.cells, mP, loadV, storeV, ldV, AV.stb, AV.one, IV.av1, Lb.app, Lb.fresh, reduceCtorEq, ptrL, appL, fillA, chunks, ivs, AV.iv, mkE, if_false, if_true, List.not_mem_nil, forall_eq, beq_self_eq_true, List.isEmpty_nil, Nat.reduceEqDiff, Nat.reduceLT, Nat.reduceLeDiff, Nat.reduceAdd, Nat.reduceMul, Int.reduceToNat, Int.reduceLE, Int.reduceLT, setA_len]) ?_
    rintro x1 cs' ⟨rfl, rfl⟩ _ _ _
    simp only [↓aX, evp, evq, evl, boxK, stillV, binV, AV.cells, mP, loadV, storeV, ldV, AV.stb, AV.one, IV.av1, Lb.app, Lb.fresh, reduceCtorEq, ptrL, appL, fillA, chunks, ivs, AV.iv, mkE, if_false, if_true, List.not_mem_nil, forall_eq, beq_self_eq_true, List.isEmpty_nil, Nat.reduceEqDiff, Nat.reduceLT, Nat.reduceLeDiff, Nat.reduceAdd, Nat.reduceMul, Int.reduceToNat, Int.reduceLE, Int.reduceLT, setA_len, List.length_replicate]
    refine callT_mut (l := .loc 5) hL rfl (by simp only [↓aX, evp, evq, evl, boxK, stillV, binV, AV.cells, mP, loadV, storeV, ldV, AV.stb, AV.one, IV.av1, Lb.app, Lb.fresh, reduceCtorEq, ptrL, appL, fillA, chunks, ivs, AV.iv, mkE, if_false, if_true, List.not_mem_nil, forall_eq, beq_self_eq_true, List.isEmpty_nil, Nat.reduceEqDiff, Nat.reduceLT, Nat.reduceLeDiff, Nat.reduceAdd, Nat.reduceMul, Int.reduceToNat, Int.reduceLE, Int.reduceLT, setA_len]) ?_
    rintro x1 cs' ⟨rfl, rfl⟩ _ _ _
    simp only [↓aX, evp, evq, evl, boxK, stillV, binV, AV.cells, mP, loadV, storeV, ldV, AV.stb, AV.one, IV.av1, Lb.app, Lb.fresh, reduceCtorEq, ptrL, appL, fillA, chunks, ivs, AV.iv, mkE, if_false, if_true, List.not_mem_nil, forall_eq, beq_self_eq_true, List.isEmpty_nil, Nat.reduceEqDiff, Nat.reduceLT, Nat.reduceLeDiff, Nat.reduceAdd, Nat.reduceMul, Int.reduceToNat, Int.reduceLE, Int.reduceLT, setA_len]
theorem trimL_nil (f : Nat → Bool) : ∀ s : Bs, trimL f s = [] ↔ s.all (fun c => f c.toNat) = true
  | [] => by simp [trimL]
  | c :: r => by
    have ih := trimL_nil f r
    unfold trimL at ih ⊢
    rw [List.dropWhile_cons, List.all_cons]
    cases h : f c.toNat with
    | true => rw [if_pos rfl, ih]; simp
    | false => simp
theorem trim_nil (f : Nat → Bool) (s : Bs) : trimL f (trimR f s) = [] ↔ s.all (fun c => f c.toNat) = true := by
  constructor
  · intro h
    cases hall : s.all (fun c => f c.toNat) with
    | true => rfl
    | false =>
      have h1 : ∃ x, x ∈ trimL f s.reverse ∧ f x.toNat = false := by
        have : (s.reverse).all (fun c => f c.toNat) = false := by rw [List.all_reverse]; exact hall
        have hne : trimL f s.reverse ≠ [] := fun e => by rw [(trimL_nil f _).1 e] at this; cases this
        unfold trimL at hne ⊢
        cases hd : (s.reverse.dropWhile fun c => f c.toNat) with
        | nil => exact absurd hd hne
        | cons x r =>
          refine ⟨x, by simp, ?_⟩
          have := List.head?_dropWhile_not (p := fun c : UInt8 => f c.toNat) (l := s.reverse)
          rw [hd] at this
          simpa using this
      obtain ⟨x, hx, hfx⟩ := h1
      have h2 := (trimL_nil f _).1 h
      have h3 := List.all_eq_true.1 h2 x (by unfold trimR; simpa using hx)
      rw [hfx] at h3; cases h3
  · intro h
    have : trimL f s.reverse = [] := (trimL_nil f _).2 (by rw [List.all_reverse]; exact h)
    unfold trimR
    rw [this]; rfl
def lettersB : Bs := [97, 98, 99, 100, 101, 102, 103, 104, 105, 106, 107, 108, 109, 110, 111, 112, 113, 114, 115, 116, 117, 118, 119, 120, 121, 122]
theorem nameC_mem (c : UInt8) : memB lettersB c.toNat = nameC c := by
  have : ∀ n : Fin 256, memB lettersB (UInt8.ofNat n.val).toNat = nameC (UInt8.ofNat n.val) := by decide +kernel
  have h := this ⟨c.toNat, c.toNat_lt⟩
  simpa using h
theorem named_eq (s : Bs) : named s = (decide (s ≠ []) && (decide (((s.length : Nat) : Int) ≤ 8) && (trimL (memB lettersB) (trimR (memB lettersB) s) == []))) := by
  have h1 : (s.all fun c => memB lettersB c.toNat) = s.all nameC := by congr 1; funext c; exact nameC_mem c
  have h2 : (trimL (memB lettersB) (trimR (memB lettersB) s) == []) = s.all nameC := by
    rw [← h1, Bool.eq_iff_iff, beq_iff_eq]; exact trim_nil _ s
  have h3 : decide ((s.length : Int) ≥ 1) = decide (s ≠ []) := by
    rw [decide_eq_decide]
    cases s with
    | nil => simp
    | cons c r => simp; omega
  rw [h2, named, h3]
  cases decide (s ≠ []) <;> cases s.all nameC <;> simp
def c_topiaryref_IsName (f_strings_Trim : Nat) : AC :=
(.seq (.reg [⟨(some 2), none, (.mov (.c (.bool false)))⟩]) (.seq (.reg [⟨(some 3), none, (.mov (.t 0))⟩, ⟨(some 4), none, (.bin .neq (.t 3) (.c (.str [])))⟩, ⟨(some 5), none, (.mov (.t 4))⟩, ⟨(some 6), (some (5, true)), (.mov (.t 0))⟩, ⟨(some 7), (some (5, true)), (.lens (.t 6))⟩, ⟨(some 8), (some (5, true)), (.bin .leq (.t 7) (.c (.int .i64 8)))⟩, ⟨(some 9), none, (.pick (.t 5) (.t 8) (.c (.bool false)))⟩, ⟨(some 10), none, (.mov (.t 9))⟩, ⟨(some 11), (some (10, true)), (.mov (.t 0))⟩, ⟨(some 12), (some (10, true)), (.call f_strings_Trim [(.t 11), (.c (.str [97, 98, 99, 100, 101, 102, 103, 104, 105, 106, 107, 108, 109, 110, 111, 112, 113, 114, 115, 116, 117, 118, 119, 120, 121, 122]))])⟩, ⟨(some 13), (some (10, true)), (.bin .eql (.t 12) (.c (.str [])))⟩, ⟨(some 14), none, (.pick (.t 10) (.t 13) (.c (.bool false)))⟩, ⟨(some 2), none, (.mov (.t 14))⟩]) .ret))
theorem pIsName {P : Program} {G : Nat → Option (List IV)} {f_topiaryref_IsName f_strings_Trim : Nat} (hF : compF P G f_topiaryref_IsName = some (15, [(none, 2)], (c_topiaryref_IsName f_strings_Trim).bare)) (s : Bs)
    (hT : PureC P G f_strings_Trim [.str s, .str lettersB] (.str (trimL (memB lettersB) (trimR (memB lettersB) s)))) : PureC P G f_topiaryref_IsName [.str s] (.bool (named s)) := by
  refine pure_of_go hF (by simp) (by simp [lbss, AV.lbs]) (by simp [AV.lbs]) ?_
  unfold c_topiaryref_IsName
  rw [named_eq]
  simp only [↓aX, evp, evq, evl, boxK, stillV, binV, AV.cells, mP, loadV, storeV, ldV, AV.stb, AV.one, IV.av1, Lb.app, Lb.fresh, reduceCtorEq, ptrL, appL, fillA, chunks, ivs, AV.iv, mkE, if_false, if_true, List.not_mem_nil, forall_eq, beq_self_eq_true, List.isEmpty_nil, Nat.reduceEqDiff, Nat.reduceLT, Nat.reduceLeDiff, Nat.reduceAdd, Nat.reduceMul, Int.reduceToNat, Int.reduceLE, Int.reduceLT]
  cases h1 : (s == []) with
  | true =>
    have h1' : s = [] := by simpa using h1
    simp only [↓aX, evp, evq, evl, boxK, stillV, binV, AV.cells, mP, loadV, storeV, ldV, AV.stb, AV.one, IV.av1, Lb.app, Lb.fresh, reduceCtorEq, ptrL, appL, fillA, chunks, ivs, AV.iv, mkE, if_false, if_true, List.not_mem_nil, forall_eq, beq_self_eq_true, List.isEmpty_nil, Nat.reduceEqDiff, Nat.reduceLT, Nat.reduceLeDiff, Nat.reduceAdd, Nat.reduceMul, Int.reduceToNat, Int.reduceLE, Int.reduceLT, Bool.not_true, h1']
    rfl
  | false =>
    have h1' : s ≠ [] := by simpa using h1
    simp only [↓aX, evp, evq, evl, boxK, stillV, binV, AV.cells, mP, loadV, storeV, ldV, AV.stb, AV.one, IV.av1, Lb.app, Lb.fresh, reduceCtorEq, ptrL, appL, fillA, chunks, ivs, AV.iv, mkE, if_false, if_true, List.not_mem_nil, forall_eq, beq_self_eq_true, List.isEmpty_nil, Nat.reduceEqDiff, Nat.reduceLT, Nat.reduceLeDiff, Nat.reduceAdd, Nat.reduceMul, Int.reduceToNat, Int.reduceLE, Int.reduceLT, Bool.not_false]
    cases h2 : decide (((s.length : Nat) : Int) ≤ 8) with
    | false => simp only [↓aX, evp, evq, evl, boxK, stillV, binV, AV.cells, mP, loadV, storeV, ldV, AV.stb, AV.one, IV.av1, Lb.app, Lb.fresh, reduceCtorEq, ptrL, appL, fillA, chunks, ivs, AV.iv, mkE, if_false, if_true, List.not_mem_nil, forall_eq, beq_self_eq_true, List.isEmpty_nil, Nat.reduceEqDiff, Nat.reduceLT, Nat.reduceLeDiff, Nat.reduceAdd, Nat.reduceMul, Int.reduceToNat, Int.reduceLE, Int.reduceLT, decide_eq_true h1', Bool.true_and, Bool.false_and]
    | true =>
      simp only [↓aX, evp, evq, evl, boxK, stillV, binV, AV.cells, mP, loadV, storeV, ldV, AV.stb, AV.one, IV.av1, Lb.app, Lb.fresh, reduceCtorEq, ptrL, appL, fillA, chunks, ivs, AV.iv, mkE, if_false, if_true, List.not_mem_nil, forall_eq, beq_self_eq_true, List.isEmpty_nil, Nat.reduceEqDiff, Nat.reduceLT, Nat.reduceLeDiff, Nat.reduceAdd, Nat.reduceMul, Int.reduceToNat, Int.reduceLE, Int.reduceLT]
      refine callT_pure hT ?_
      simp only [↓aX, evp, evq, evl, boxK, stillV, binV, AV.cells, mP, loadV, storeV, ldV, AV.stb, AV.one, IV.av1, Lb.app, Lb.fresh, reduceCtorEq, ptrL, appL, fillA, chunks, ivs, AV.iv, mkE, if_false, if_true, List.not_mem_nil, forall_eq, beq_self_eq_true, List.isEmpty_nil, Nat.reduceEqDiff, Nat.reduceLT, Nat.reduceLeDiff, Nat.reduceAdd, Nat.reduceMul, Int.reduceToNat, Int.reduceLE, Int.reduceLT, decide_eq_true h1', Bool.true_and]
end Go.Am

/- Plain texts, as the document says them. -/
namespace Go.Am
open Go Go.RowKit
def c_topiaryref_printed : AC :=
(.seq (.reg [⟨(some 2), none, (.mov (.c (.bool false)))⟩]) (.seq (.reg [⟨(some 3), none, (.mov (.t 0))⟩, ⟨(some 4), none, (.bin .eql (.t 3) (.c (.int .u8 10)))⟩, ⟨(some 5), none, (.mov (.t 4))⟩, ⟨(some 6), (some (5, false)), (.mov (.t 0))⟩, ⟨(some 7), (some (5, false)), (.bin .geq (.t 6) (.c (.int .u8 32)))⟩, ⟨(some 8), (some (5, false)), (.mov (.t 7))⟩, ⟨(some 9), (some (8, true)), (.mov (.t 0))⟩, ⟨(some 10), (some (8, true)), (.bin .lss (.t 9) (.c (.int .u8 127)))⟩, ⟨(some 11), (some (5, false)), (.pick (.t 8) (.t 10) (.c (.bool false)))⟩, ⟨(some 12), none, (.pick (.t 5) (.c (.bool true)) (.t 11))⟩, ⟨(some 2), none, (.mov (.t 12))⟩]) .ret))
theorem pPrinted {P : Program} {G : Nat → Option (List IV)} {f_topiaryref_printed : Nat} (hF : compF P G f_topiaryref_printed = some (13, [(none, 2)], c_topiaryref_printed.bare)) (c : UInt8) : PureC P G f_topiaryref_printed [.int .u8 (c.toNat : Int)] (.bool (plainC c)) := by
  refine pure_of_go hF (by simp) (by simp [lbss, AV.lbs]) (by simp [AV.lbs]) ?_
  unfold c_topiaryref_printed
  simp only [↓aX, evp, evq, evl, boxK, stillV, binV, AV.cells, mP, loadV, storeV, ldV, AV.stb, AV.one, IV.av1, Lb.app, Lb.fresh, reduceCtorEq, ptrL, appL, fillA, chunks, ivs, AV.iv, mkE, if_false, if_true, List.not_mem_nil, forall_eq, beq_self_eq_true, List.isEmpty_nil, Nat.reduceEqDiff, Nat.reduceLT, Nat.reduceLeDiff, Nat.reduceAdd, Nat.reduceMul, Int.reduceToNat, Int.reduceLE, Int.reduceLT]
  cases h1 : ((c.toNat : Int) == 10) with
  | true =>
    have h1' : (c.toNat : Int) = 10 := by simpa using h1
    simp only [↓aX, evp, evq, evl, boxK, stillV, binV, AV.cells, mP, loadV, storeV, ldV, AV.stb, AV.one, IV.av1, Lb.app, Lb.fresh, reduceCtorEq, ptrL, appL, fillA, chunks, ivs, AV.iv, mkE, if_false, if_true, List.not_mem_nil, forall_eq, beq_self_eq_true, List.isEmpty_nil, Nat.reduceEqDiff, Nat.reduceLT, Nat.reduceLeDiff, Nat.reduceAdd, Nat.reduceMul, Int.reduceToNat, Int.reduceLE, Int.reduceLT]
    simp [plainC, h1']
  | false =>
    have h1' : (c.toNat : Int) ≠ 10 := by simpa using h1
    simp only [↓aX, evp, evq, evl, boxK, stillV, binV, AV.cells, mP, loadV, storeV, ldV, AV.stb, AV.one, IV.av1, Lb.app, Lb.fresh, reduceCtorEq, ptrL, appL, fillA, chunks, ivs, AV.iv, mkE, if_false, if_true, List.not_mem_nil, forall_eq, beq_self_eq_true, List.isEmpty_nil, Nat.reduceEqDiff, Nat.reduceLT, Nat.reduceLeDiff, Nat.reduceAdd, Nat.reduceMul, Int.reduceToNat, Int.reduceLE, Int.reduceLT]
    cases h2 : decide ((c.toNat : Int) ≥ 32) with
    | false =>
      have h2' := of_decide_eq_false h2
      simp only [↓aX, evp, evq, evl, boxK, stillV, binV, AV.cells, mP, loadV, storeV, ldV, AV.stb, AV.one, IV.av1, Lb.app, Lb.fresh, reduceCtorEq, ptrL, appL, fillA, chunks, ivs, AV.iv, mkE, if_false, if_true, List.not_mem_nil, forall_eq, beq_self_eq_true, List.isEmpty_nil, Nat.reduceEqDiff, Nat.reduceLT, Nat.reduceLeDiff, Nat.reduceAdd, Nat.reduceMul, Int.reduceToNat, Int.reduceLE, Int.reduceLT]
      have : plainC c = false := by unfold plainC; simp [h1']; omega
      simp only [this]
    | true =>
      have h2' := of_decide_eq_true h2
      simp only [↓aX, evp, evq, evl, boxK, stillV, binV, AV.cells, mP, loadV, storeV, ldV, AV.stb, AV.one, IV.av1, Lb.app, Lb.fresh, reduceCtorEq, ptrL, appL, fillA, chunks, ivs, AV.iv, mkE, if_false, if_true, List.not_mem_nil, forall_eq, beq_self_eq_true, List.isEmpty_nil, Nat.reduceEqDiff, Nat.reduceLT, Nat.reduceLeDiff, Nat.reduceAdd, Nat.reduceMul, Int.reduceToNat, Int.reduceLE, Int.reduceLT]
      have : plainC c = decide ((c.toNat : Int) < 127) := by
        unfold plainC
        rw [show ((c.toNat : Int) != 10) = true by simpa using h1', show decide ((c.toNat : Int) < 32) = false by simp; omega]
        simp only [Bool.true_and, Bool.false_or]
        rw [← decide_not, decide_eq_decide]; omega
      rw [this]
def c_topiaryref_IsPlain (f_topiaryref_printed : Nat) : AC :=
(.seq (.reg [⟨(some 2), none, (.mov (.c (.bool false)))⟩]) (.seq (.seq (.reg [⟨(some 5), none, (.mov (.t 0))⟩, ⟨(some 6), none, (.cvb (.t 5))⟩, ⟨(some 7), none, (.len (.t 6))⟩, ⟨(some 8), none, (.mov (.c (.int .i64 0)))⟩]) (.block 0 (.loop (.seq (.reg [⟨(some 9), none, (.bin .lss (.t 8) (.t 7))⟩]) (.seq (.cond (.t 9) .skip (.exit 0)) (.seq (.block 1 (.seq (.reg [⟨(some 10), none, (.ixa (.t 6) (.t 8) 1)⟩, ⟨(some 11), none, (.load none (.t 10))⟩, ⟨(some 4), none, (.mov (.t 11))⟩]) (.seq (.reg [⟨(some 12), none, (.mov (.t 4))⟩, ⟨(some 13), none, (.call f_topiaryref_printed [(.t 12)])⟩, ⟨(some 14), none, (.not (.t 13))⟩]) (.cond (.t 14) (.seq (.reg [⟨(some 2), none, (.mov (.c (.bool false)))⟩]) .ret) .skip)))) (.reg [⟨(some 15), none, (.bin .add (.t 8) (.c (.int .i64 1)))⟩, ⟨(some 8), none, (.mov (.t 15))⟩]))))))) (.seq (.reg [⟨(some 16), none, (.mov (.t 0))⟩, ⟨(some 17), none, (.lens (.t 16))⟩, ⟨(some 18), none, (.bin .leq (.t 17) (.c (.int .i64 40)))⟩, ⟨(some 2), none, (.mov (.t 18))⟩]) .ret)))
def u8L (s : Bs) : List IV := s.map fun c => .int .u8 (c.toNat : Int)
theorem u8L_len (s : Bs) : (u8L s).length = s.length := by simp [u8L]
theorem u8L_get (s : Bs) (i : Nat) : (u8L s)[i]? = (s[i]?).map fun c => .int .u8 (c.toNat : Int) := List.getElem?_map ..
theorem u8L_sz (s : Bs) : Elsz 1 (u8L s) := by
  intro x hx
  obtain ⟨a, _, rfl⟩ := List.mem_map.1 hx
  rfl
theorem pIsPlain {P : Program} {G : Nat → Option (List IV)} {f_topiaryref_IsPlain f_topiaryref_printed : Nat} (hF : compF P G f_topiaryref_IsPlain = some (19, [(none, 2)], (c_topiaryref_IsPlain f_topiaryref_printed).bare)) (s : Bs) (hs : s.length ≤ B)
    (hP : ∀ c : UInt8, PureC P G f_topiaryref_printed [.int .u8 (c.toNat : Int)] (.bool (plainC c))) : PureC P G f_topiaryref_IsPlain [.str s] (.bool (plain s)) := by
  refine pure_of_go hF (by simp) (by simp [lbss, AV.lbs]) (by simp [AV.lbs]) ?_
  have hB : s.length ≤ 140737488355328 := by unfold B at hs; omega
  have hu : (s.map fun c => IV.int .u8 (c.toNat : Int)) = u8L s := rfl
  unfold c_topiaryref_IsPlain
  simp only [↓aX, evp, evq, evl, boxK, stillV, binV, AV.cells, mP, loadV, storeV, ldV, AV.stb, AV.one, IV.av1, Lb.app, Lb.fresh, reduceCtorEq, ptrL, appL, fillA, chunks, ivs, AV.iv, mkE, if_false, if_true, List.not_mem_nil, forall_eq, beq_self_eq_true, List.isEmpty_nil, Nat.reduceEqDiff, Nat.reduceLT, Nat.reduceLeDiff, Nat.reduceAdd, Nat.reduceMul, Int.reduceToNat, Int.reduceLE, Int.reduceLT, if_pos hB, hu, u8L_len]
  refine loop_data (σ := { i : Nat // i ≤ s.length ∧ (s.take i).all plainC = true }) (fun q => [(0, .str s), (6, .list (u8L s)), (7, .int .i64 s.length), (8, .int .i64 q.1)]) (fun q => s.length - q.1) ⟨0, by simp⟩ (fun _ => rfl) ?_ ?_
  · exact ⟨by simp only [↓aX, evp, evq, evl, boxK, stillV, binV, AV.cells, mP, loadV, storeV, ldV, AV.stb, AV.one, IV.av1, Lb.app, Lb.fresh, reduceCtorEq, ptrL, appL, fillA, chunks, ivs, AV.iv, mkE, if_false, if_true, List.not_mem_nil, forall_eq, beq_self_eq_true, List.isEmpty_nil, Nat.reduceEqDiff, Nat.reduceLT, Nat.reduceLeDiff, Nat.reduceAdd, Nat.reduceMul, Int.reduceToNat, Int.reduceLE, Int.reduceLT], by repeat' constructor⟩
  · rintro ⟨i, hi, hst⟩
    simp only [↓aX, evp, evq, evl, boxK, stillV, binV, AV.cells, mP, loadV, storeV, ldV, AV.stb, AV.one, IV.av1, Lb.app, Lb.fresh, reduceCtorEq, ptrL, appL, fillA, chunks, ivs, AV.iv, mkE, if_false, if_true, List.not_mem_nil, forall_eq, beq_self_eq_true, List.isEmpty_nil, Nat.reduceEqDiff, Nat.reduceLT, Nat.reduceLeDiff, Nat.reduceAdd, Nat.reduceMul, Int.reduceToNat, Int.reduceLE, Int.reduceLT]
    by_cases hlt : i < s.length
    · rw [show decide ((i : Int) < (s.length : Int)) = true by simpa using hlt]
      obtain ⟨c, hc⟩ : ∃ c, s[i]? = some c := ⟨_, List.getElem?_eq_getElem hlt⟩
      have hw : IntKind.i64.wrap ((i : Int) + 1) = ((i + 1 : Nat) : Int) := wrap64 (by omega) (by unfold B at hs; omega)
      simp only [↓aX, evp, evq, evl, boxK, stillV, binV, AV.cells, mP, loadV, storeV, ldV, AV.stb, AV.one, IV.av1, Lb.app, Lb.fresh, reduceCtorEq, ptrL, appL, fillA, chunks, ivs, AV.iv, mkE, if_false, if_true, List.not_mem_nil, forall_eq, beq_self_eq_true, List.isEmpty_nil, Nat.reduceEqDiff, Nat.reduceLT, Nat.reduceLeDiff, Nat.reduceAdd, Nat.reduceMul, Int.reduceToNat, Int.reduceLE, Int.reduceLT, u8L_get, hc, u8L_sz, Option.map_some, IV.cells]
      refine callT_pure (hP c) ?_
      cases hp : plainC c with
      | false =>
        have : plain s = false := by
          unfold plain
          rw [show s.all plainC = false by rw [Bool.eq_false_iff]; intro h; have := List.all_eq_true.1 h c (List.mem_of_getElem? hc); rw [hp] at this; cases this]
          rfl
        simp only [↓aX, evp, evq, evl, boxK, stillV, binV, AV.cells, mP, loadV, storeV, ldV, AV.stb, AV.one, IV.av1, Lb.app, Lb.fresh, reduceCtorEq, ptrL, appL, fillA, chunks, ivs, AV.iv, mkE, if_false, if_true, List.not_mem_nil, forall_eq, beq_self_eq_true, List.isEmpty_nil, Nat.reduceEqDiff, Nat.reduceLT, Nat.reduceLeDiff, Nat.reduceAdd, Nat.reduceMul, Int.reduceToNat, Int.reduceLE, Int.reduceLT, Bool.not_false, this]
      | true =>
        simp only [↓aX, evp, evq, evl, boxK, stillV, binV, AV.cells, mP, loadV, storeV, ldV, AV.stb, AV.one, IV.av1, Lb.app, Lb.fresh, reduceCtorEq, ptrL, appL, fillA, chunks, ivs, AV.iv, mkE, if_false, if_true, List.not_mem_nil, forall_eq, beq_self_eq_true, List.isEmpty_nil, Nat.reduceEqDiff, Nat.reduceLT, Nat.reduceLeDiff, Nat.reduceAdd, Nat.reduceMul, Int.reduceToNat, Int.reduceLE, Int.reduceLT, Bool.not_true, hw]
        exact ⟨⟨i + 1, hlt, all_take hst hc hp⟩, by simp only; omega, rfl⟩
    · have hil : i = s.length := by omega
      subst hil
      rw [List.take_length] at hst
      rw [show decide ((s.length : Int) < (s.length : Int)) = false by simp]
      simp only [↓aX, evp, evq, evl, boxK, stillV, binV, AV.cells, mP, loadV, storeV, ldV, AV.stb, AV.one, IV.av1, Lb.app, Lb.fresh, reduceCtorEq, ptrL, appL, fillA, chunks, ivs, AV.iv, mkE, if_false, if_true, List.not_mem_nil, forall_eq, beq_self_eq_true, List.isEmpty_nil, Nat.reduceEqDiff, Nat.reduceLT, Nat.reduceLeDiff, Nat.reduceAdd, Nat.reduceMul, Int.reduceToNat, Int.reduceLE, Int.reduceLT, plain, hst, Bool.true_and]
end Go.Am

/- Trees out of their own text. -/
namespace Go.Am
open Go Go.RowKit
theorem u8_lt_irr (a : UInt8) : ¬ a < a := by rw [UInt8.lt_iff_toNat_lt]; omega
theorem u8_lt_tr {a b c : UInt8} (h : a < b) (h2 : b < c) : a < c := by rw [UInt8.lt_iff_toNat_lt] at *; omega
theorem u8_tri (a b : UInt8) : a < b ∨ a = b ∨ b < a := by
  simp only [UInt8.lt_iff_toNat_lt]
  rcases Nat.lt_trichotomy a.toNat b.toNat with h | h | h
  · exact .inl h
  · exact .inr (.inl (UInt8.toNat.inj h))
  · exact .inr (.inr h)
theorem bl_irr : ∀ x : Bs, Op.bytesLess x x = false
  | [] => rfl
  | a :: x => by simp [Op.bytesLess, u8_lt_irr, bl_irr x]
theorem bl_tr : ∀ {x y z : Bs}, Op.bytesLess x y = true → Op.bytesLess y z = true → Op.bytesLess x z = true
  | [], [], _, h, _ => by simp [Op.bytesLess] at h
  | [], _ :: _, [], _, h => by simp [Op.bytesLess] at h
  | [], _ :: _, _ :: _, _, _ => rfl
  | _ :: _, [], _, h, _ => by simp [Op.bytesLess] at h
  | _ :: _, _ :: _, [], _, h => by simp [Op.bytesLess] at h
  | a :: x, b :: y, c :: z, h1, h2 => by
    simp only [Op.bytesLess, Bool.or_eq_true, decide_eq_true_eq, Bool.and_eq_true, beq_iff_eq] at h1 h2 ⊢
    rcases h1 with h1 | ⟨rfl, h1⟩
    · rcases h2 with h2 | ⟨rfl, h2⟩
      · exact .inl (u8_lt_tr h1 h2)
      · exact .inl h1
    · rcases h2 with h2 | ⟨rfl, h2⟩
      · exact .inl h2
      · exact .inr ⟨rfl, bl_tr h1 h2⟩
theorem bl_asym {x y : Bs} (h : Op.bytesLess x y = true) : Op.bytesLess y x = false := by
  cases h2 : Op.bytesLess y x with
  | false => rfl
  | true => have := bl_tr h h2; rw [bl_irr] at this; cases this
theorem bl_tri : ∀ x y : Bs, Op.bytesLess x y = true ∨ x = y ∨ Op.bytesLess y x = true
  | [], [] => .inr (.inl rfl)
  | [], _ :: _ => .inl rfl
  | _ :: _, [] => .inr (.inr rfl)
  | a :: x, b :: y => by
    simp only [Op.bytesLess, Bool.or_eq_true, decide_eq_true_eq, Bool.and_eq_true, beq_iff_eq, List.cons.injEq]
    rcases u8_tri a b with h | rfl | h
    · exact .inl (.inl h)
    · rcases bl_tri x y with h | rfl | h
      · exact .inl (.inr ⟨rfl, h⟩)
      · exact .inr (.inl ⟨rfl, rfl⟩)
      · exact .inr (.inr (.inr ⟨rfl, h⟩))
    · exact .inr (.inr (.inl h))
end Go.Am
