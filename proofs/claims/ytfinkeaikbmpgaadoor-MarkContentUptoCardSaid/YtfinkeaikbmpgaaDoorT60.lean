import Derived.Test.YtfinkeaikbmpgaaDoorKAm34
import Derived.Test.YtfinkeaikbmpgaaDoorKAm40
set_option linter.unusedSimpArgs false
set_option linter.unusedVariables false
set_option linter.unnecessarySimpa false
set_option linter.defProp false
/- Trees printed: escape, put, Print. -/
set_option pp.deepTerms false
set_option pp.deepTerms.threshold 5
namespace Go.Am
open Go Go.RowKit
def byIV (s : Bs) : List IV := s.map fun c => IV.int .u8 c.toNat
theorem byIV_len (s : Bs) : (byIV s).length = s.length := by simp [byIV]
theorem byIV_app (s t : Bs) : byIV (s ++ t) = byIV s ++ byIV t := by simp [byIV]
theorem byIV_flat (s : Bs) : Flat (byIV s) := by
  intro x hx z hz cs
  obtain ⟨c, _, rfl⟩ := List.mem_map.1 hx
  simp only [IV.cells, List.mem_singleton] at hz
  subst hz; simp
theorem immE_by (s : Bs) : immE (byIV s) = s.map fun c => [AV.int .u8 c.toNat] := by
  simp [immE, byIV, IV.cells, IV.av1]
/-- A string, put behind bytes of one's own. -/
theorem app_str {H : Hp} {l : Lb} {d n : Nat} {xs : List IV} {t : Bs} (hl : H l = .live ⟨1, immE xs⟩) (hn : n = xs.length) (hb : n + t.length ≤ 140737488355328) (hd : l ≠ l.app d) (hu : H (l.app d) = .unused) :
    appV 1 1 d (.sl l 1 0 n) (.str t) H = some (.sl (l.app d) 1 0 (n + t.length), upd (upd H l .dead) (l.app d) (.live ⟨1, immE (xs ++ byIV t)⟩)) := by
  unfold appV
  have h1 : (immE xs).length = n := by rw [immE_len, hn]
  have e : immE (xs ++ byIV t) = immE xs ++ t.map fun c => [AV.int .u8 c.toNat] := by rw [immE_app, immE_by]
  have ho : ∀ cs ∈ t.map (fun c => [AV.int .u8 (c.toNat : Int)]), AV.one1 cs := by
    intro cs hcs
    obtain ⟨c, _, rfl⟩ := List.mem_map.1 hcs
    intro x hx
    simp only [List.mem_singleton] at hx; subst hx; rfl
  simp only [srcE, if_true, Option.bind_some]
  rw [if_neg (by simpa using ho)]
  simp only [hl, true_and, List.length_map, h1, Nat.le_refl, Nat.mul_one, hb, Nat.lt_irrefl, show 0 < 1 by decide, ne_eq, hd, not_false_eq_true, hu, if_true, e]
  rw [List.take_of_length_le (Nat.le_of_eq h1)]
theorem app_byte {H : Hp} {l : Lb} {d n : Nat} {xs : List IV} {c : UInt8} (hl : H l = .live ⟨1, immE xs⟩) (hn : n = xs.length) (hb : n + 1 ≤ 140737488355328) (hd : l ≠ l.app d) (hu : H (l.app d) = .unused) :
    appV 1 1 d (.sl l 1 0 n) (.list [.int .u8 (c.toNat : Int)]) H = some (.sl (l.app d) 1 0 (n + 1), upd (upd H l .dead) (l.app d) (.live ⟨1, immE (xs ++ byIV [c])⟩)) := by
  rw [app_one hl (by rw [immE_len, hn]) rfl (by intro z hz cs; simp only [IV.cells, List.mem_singleton] at hz; subst hz; simp) (by omega) (by decide) hd hu, immE_app]
  rfl
theorem app_byteZ {H : Hp} {l : Lb} {d n : Nat} {xs : List IV} (c : UInt8) {z : Int} (hz : (c.toNat : Int) = z) (hl : H l = .live ⟨1, immE xs⟩) (hn : n = xs.length) (hb : n + 1 ≤ 140737488355328) (hd : l ≠ l.app d) (hu : H (l.app d) = .unused) :
    appV 1 1 d (.sl l 1 0 n) (.list [.int .u8 z]) H = some (.sl (l.app d) 1 0 (n + 1), upd (upd H l .dead) (l.app d) (.live ⟨1, immE (xs ++ byIV [c])⟩)) := by
  subst hz; exact app_byte hl hn hb hd hu
theorem get_byte {s : Bs} {i : Nat} (h : i < s.length) : ∃ c, s[i]? = some c := ⟨_, List.getElem?_eq_getElem h⟩
theorem esc_take {v : Bool} {s : Bs} {i : Nat} {c : UInt8} (h : s[i]? = some c) : esc v (s.take (i + 1)) = esc v (s.take i) ++ escC v c := by
  unfold esc
  rw [List.take_add_one, h, List.flatMap_append]; simp
theorem escC_len (v : Bool) (c : UInt8) : (escC v c).length ≤ 6 := by
  unfold escC
  split <;> (try split) <;> (try split) <;> (try split) <;> simp [bLt, bGt, bAmp, bQuot]
theorem esc_len (v : Bool) : ∀ s : Bs, (esc v s).length ≤ 6 * s.length
  | [] => by simp [esc]
  | c :: s => by
    have := esc_len v s
    have := escC_len v c
    simp only [esc, List.flatMap_cons, List.length_append, List.length_cons] at *
    omega
section
variable {P : Program} {G : Nat → Option (List IV)}
def c_mark_escape : AC :=
(.seq (.reg [⟨(some 6), none, (.mov (.c .nil0))⟩]) (.seq (.seq (.reg [⟨(some 9), none, (.mov (.t 1))⟩, ⟨(some 10), none, (.lens (.t 9))⟩, ⟨(some 11), none, (.mov (.c (.int .i64 0)))⟩]) (.block 0 (.loop (.seq (.reg [⟨(some 12), none, (.bin .lss (.t 11) (.t 10))⟩]) (.seq (.cond (.t 12) .skip (.exit 0)) (.seq (.block 1 (.seq (.reg [⟨(some 13), none, (.mov (.t 11))⟩, ⟨(some 7), none, (.mov (.t 13))⟩]) (.seq (.reg [⟨(some 14), none, (.mov (.t 1))⟩, ⟨(some 15), none, (.mov (.t 7))⟩, ⟨(some 16), none, (.ixs (.t 14) (.t 15))⟩, ⟨(some 8), none, (.mov (.t 16))⟩]) (.block 2 (.seq (.reg [⟨(some 22), none, (.mov (.t 8))⟩, ⟨(some 23), none, (.bin .eql (.t 22) (.c (.int .u8 60)))⟩, ⟨(some 21), none, (.mov (.t 23))⟩]) (.cond (.t 21) (.reg [⟨(some 24), none, (.mov (.t 0))⟩, ⟨(some 25), none, (.app (.t 24) (.c (.str [38, 108, 116, 59])) 1 1)⟩, ⟨(some 0), none, (.mov (.t 25))⟩]) (.seq (.reg [⟨(some 27), none, (.mov (.t 8))⟩, ⟨(some 28), none, (.bin .eql (.t 27) (.c (.int .u8 62)))⟩, ⟨(some 26), none, (.mov (.t 28))⟩]) (.cond (.t 26) (.reg [⟨(some 29), none, (.mov (.t 0))⟩, ⟨(some 30), none, (.app (.t 29) (.c (.str [38, 103, 116, 59])) 1 1)⟩, ⟨(some 0), none, (.mov (.t 30))⟩]) (.seq (.reg [⟨(some 32), none, (.mov (.t 8))⟩, ⟨(some 33), none, (.bin .eql (.t 32) (.c (.int .u8 38)))⟩, ⟨(some 31), none, (.mov (.t 33))⟩]) (.cond (.t 31) (.reg [⟨(some 34), none, (.mov (.t 0))⟩, ⟨(some 35), none, (.app (.t 34) (.c (.str [38, 97, 109, 112, 59])) 1 1)⟩, ⟨(some 0), none, (.mov (.t 35))⟩]) (.seq (.reg [⟨(some 37), none, (.mov (.t 8))⟩, ⟨(some 38), none, (.bin .eql (.t 37) (.c (.int .u8 34)))⟩, ⟨(some 39), none, (.mov (.t 38))⟩, ⟨(some 40), (some (39, true)), (.mov (.t 2))⟩, ⟨(some 41), none, (.pick (.t 39) (.t 40) (.c (.bool false)))⟩, ⟨(some 36), none, (.mov (.t 41))⟩]) (.cond (.t 36) (.reg [⟨(some 42), none, (.mov (.t 0))⟩, ⟨(some 43), none, (.app (.t 42) (.c (.str [38, 113, 117, 111, 116, 59])) 1 1)⟩, ⟨(some 0), none, (.mov (.t 43))⟩]) (.reg [⟨(some 17), none, (.mov (.t 0))⟩, ⟨(some 18), none, (.mov (.t 8))⟩, ⟨(some 19), none, (.lits 1 1 [(.int .u8 0)] [(0, (.t 18))])⟩, ⟨(some 20), none, (.app (.t 17) (.t 19) 1 1)⟩, ⟨(some 0), none, (.mov (.t 20))⟩]))))))))))))) (.reg [⟨(some 44), none, (.bin .add (.t 11) (.c (.int .i64 1)))⟩, ⟨(some 11), none, (.mov (.t 44))⟩]))))))) (.seq (.reg [⟨(some 45), none, (.mov (.t 0))⟩, ⟨(some 6), none, (.mov (.t 45))⟩]) .ret)))
theorem pEscape {f_mark_escape : Nat} (hF : compF P G f_mark_escape = some (46, [(none, 6)], c_mark_escape.bare)) (xs : List IV) (s : Bs) (v : Bool) (hb : xs.length + 6 * s.length ≤ 2 ^ 40) :
    GrwC P G 1 f_mark_escape [.sl (.par 0) 1 0 xs.length, .str s, .bool v] xs (xs ++ byIV (esc v s)) := by
  refine grw_of_go hF (by simp) (by simp [lbss, AV.lbs]) ?_
  have hbv : (2 : Nat) ^ 40 = 1099511627776 := by decide
  unfold c_mark_escape
  simp only [↓aX, evp, evq, evl, boxK, stillV, binV, AV.cells, mP, loadV, storeV, ldV, AV.stb, AV.one, IV.av1, Lb.app, Lb.fresh, reduceCtorEq, ptrL, appL, fillA, chunks, ivs, AV.iv, mkE, if_false, if_true, List.not_mem_nil, forall_eq, beq_self_eq_true, List.isEmpty_nil, Nat.reduceEqDiff, Nat.reduceLT, Nat.reduceLeDiff, Nat.reduceAdd, Nat.reduceMul, Int.reduceToNat, Int.reduceLE, Int.reduceLT, rowX]
  refine loop_entry (σ := { i : Nat // i ≤ s.length }) (fun _ => [.gen 0]) (fun _ l => l == .par 0)
    (fun q => [(0, .sl (.gen 0) 1 0 (xs.length + (esc v (s.take q.1)).length)), (1, .str s), (2, .bool v), (10, .int .i64 s.length), (11, .int .i64 q.1)])
    (fun q => [(.gen 0, ⟨1, immE (xs ++ byIV (esc v (s.take q.1)))⟩)]) (fun q => s.length - q.1) ⟨0, Nat.zero_le _⟩ (fun _ => rfl) (fun q => by simp [lbss, AV.lbs]) ?_ ⟨[(.gen 0, .par 0)], ?_⟩ ?_
  · intro q w hw cs hcs z hz
    simp only [List.mem_singleton] at hw; subst hw
    rw [lbss_immE hcs] at hz; simp at hz
  · refine ⟨?_, ?_, ?_, by simp [rnF], ?_⟩
    · intro l hf hu
      right
      by_cases e : l = .par 0
      · subst e; rfl
      · exfalso; apply hu; simp [upd_at, e, Hp.none]
    · simp [EqL, rnF, ren, put, esc, argE]
    · simp [RwL, rnF, upd_at, renR_immE, esc, byIV]
    · simp [Lb.fresh, Lb.entry]
  · rintro ⟨i, hi⟩
    have hti := esc_len v (s.take i)
    rw [List.length_take, Nat.min_eq_left hi] at hti
    simp only [↓aX, evp, evq, evl, boxK, stillV, binV, AV.cells, mP, loadV, storeV, ldV, AV.stb, AV.one, IV.av1, Lb.app, Lb.fresh, reduceCtorEq, ptrL, appL, fillA, chunks, ivs, AV.iv, mkE, if_false, if_true, List.not_mem_nil, forall_eq, beq_self_eq_true, List.isEmpty_nil, Nat.reduceEqDiff, Nat.reduceLT, Nat.reduceLeDiff, Nat.reduceAdd, Nat.reduceMul, Int.reduceToNat, Int.reduceLE, Int.reduceLT, List.length_map]
    by_cases hlt : i < s.length
    · rw [show decide (((i : Nat) : Int) < ((s.length : Nat) : Int)) = true by simpa using hlt]
      obtain ⟨c, hc⟩ := get_byte hlt
      have hw : IntKind.i64.wrap ((i : Int) + 1) = ((i + 1 : Nat) : Int) := wrap64 (by omega) (by omega)
      have hU : ∀ d, ofU (fun l => l == Lb.par 0) [(Lb.gen 0, ⟨1, immE (xs ++ byIV (esc v (s.take i)))⟩)] (.gen (d + 1)) = .unused := fun d => by
        rw [ofU_at (by simp)]; rfl
      have hL : ofU (fun l => l == Lb.par 0) [(Lb.gen 0, ⟨1, immE (xs ++ byIV (esc v (s.take i)))⟩)] (.gen 0) = .live ⟨1, immE (xs ++ byIV (esc v (s.take i)))⟩ := ofU_live.2 (by simp [ofH, upd_at])
      have hlen : xs.length + (esc v (s.take i)).length = (xs ++ byIV (esc v (s.take i))).length := by rw [List.length_append, byIV_len]
      simp only [↓aX, evp, evq, evl, boxK, stillV, binV, AV.cells, mP, loadV, storeV, ldV, AV.stb, AV.one, IV.av1, Lb.app, Lb.fresh, reduceCtorEq, ptrL, appL, fillA, chunks, ivs, AV.iv, mkE, if_false, if_true, List.not_mem_nil, forall_eq, beq_self_eq_true, List.isEmpty_nil, Nat.reduceEqDiff, Nat.reduceLT, Nat.reduceLeDiff, Nat.reduceAdd, Nat.reduceMul, Int.reduceToNat, Int.reduceLE, Int.reduceLT, hc, Int.natCast_nonneg, Int.toNat_natCast]
      have fin : ∀ (w : Bs) (d : Nat) (env : Env), escC v c = w → env 0 = .sl (.gen d) 1 0 (xs.length + (esc v (s.take i)).length + w.length) → env 1 = .str s → env 2 = .bool v → env 10 = .int .i64 s.length → env 11 = .int .i64 ((i + 1 : Nat) : Int) →
          ∃ q : { i : Nat // i ≤ s.length }, s.length - q.1 < s.length - i ∧ ∃ m, WE [.gen 0] (fun l => l == .par 0) [(0, .sl (.gen 0) 1 0 (xs.length + (esc v (s.take q.1)).length)), (1, .str s), (2, .bool v), (10, .int .i64 s.length), (11, .int .i64 q.1)]
            [(.gen 0, ⟨1, immE (xs ++ byIV (esc v (s.take q.1)))⟩)] env (upd (upd (ofU (fun l => l == Lb.par 0) [(Lb.gen 0, ⟨1, immE (xs ++ byIV (esc v (s.take i)))⟩)]) (.gen 0) .dead) (.gen d) (.live ⟨1, immE (xs ++ byIV (esc v (s.take i)) ++ byIV w)⟩)) m := by
        rintro w d env rfl h0 h1 h2 h3 h4
        refine ⟨⟨i + 1, hlt⟩, by simp only; omega, [(.gen 0, .gen d)], ?_, ?_, ?_, by simp [rnF], ?_⟩
        · intro l hf hu
          right
          by_cases e : l = .par 0
          · subst e; rfl
          · exfalso; apply hu
            cases l <;> simp [Lb.entry] at hf
            rename_i n
            rw [upd_ne _ _ (by simp), upd_ne _ _ (by simp), ofU_at (by simp)]
            simp only [beq_iff_eq, e, if_false]
        · simp only [EqL, h0, h1, h2, h3, h4, ren, rnF, esc_take hc, List.length_append, if_true]
          simp only [Nat.add_assoc, and_self]
        · simp [RwL, rnF, upd_at, renR_immE, esc_take hc, byIV_app]
        · simp [Lb.fresh, Lb.entry]
      have hbd : xs.length + (esc v (s.take i)).length + 6 ≤ 140737488355328 := by omega
      have c60 : ((c.toNat : Int) == 60) = (c == 60) := by
        rw [Bool.eq_iff_iff]; simp only [beq_iff_eq]
        rw [← UInt8.toNat_inj]; show _ ↔ _ = 60; omega
      have c62 : ((c.toNat : Int) == 62) = (c == 62) := by
        rw [Bool.eq_iff_iff]; simp only [beq_iff_eq]
        rw [← UInt8.toNat_inj]; show _ ↔ _ = 62; omega
      have c38 : ((c.toNat : Int) == 38) = (c == 38) := by
        rw [Bool.eq_iff_iff]; simp only [beq_iff_eq]
        rw [← UInt8.toNat_inj]; show _ ↔ _ = 38; omega
      have c34 : ((c.toNat : Int) == 34) = (c == 34) := by
        rw [Bool.eq_iff_iff]; simp only [beq_iff_eq]
        rw [← UInt8.toNat_inj]; show _ ↔ _ = 34; omega
      rw [c60]
      by_cases h1 : c = 60
      · rw [show (c == 60) = true by simp [h1]]
        simp only [↓aX, evp, evq, evl, boxK, stillV, binV, AV.cells, mP, loadV, storeV, ldV, AV.stb, AV.one, IV.av1, Lb.app, Lb.fresh, reduceCtorEq, ptrL, appL, fillA, chunks, ivs, AV.iv, mkE, if_false, if_true, List.not_mem_nil, forall_eq, beq_self_eq_true, List.isEmpty_nil, Nat.reduceEqDiff, Nat.reduceLT, Nat.reduceLeDiff, Nat.reduceAdd, Nat.reduceMul, Int.reduceToNat, Int.reduceLE, Int.reduceLT]
        rw [app_str (xs := xs ++ byIV (esc v (s.take i))) hL hlen (by simp; omega) (by simp [Lb.app, Lb.fresh]) (hU 24)]
        simp only [↓aX, evp, evq, evl, boxK, stillV, binV, AV.cells, mP, loadV, storeV, ldV, AV.stb, AV.one, IV.av1, Lb.app, Lb.fresh, reduceCtorEq, ptrL, appL, fillA, chunks, ivs, AV.iv, mkE, if_false, if_true, List.not_mem_nil, forall_eq, beq_self_eq_true, List.isEmpty_nil, Nat.reduceEqDiff, Nat.reduceLT, Nat.reduceLeDiff, Nat.reduceAdd, Nat.reduceMul, Int.reduceToNat, Int.reduceLE, Int.reduceLT, hw]
        exact fin bLt 25 _ (by unfold escC; rw [if_pos h1]) rfl rfl rfl rfl rfl
      · rw [show (c == 60) = false by simp [h1]]
        simp only [↓aX, evp, evq, evl, boxK, stillV, binV, AV.cells, mP, loadV, storeV, ldV, AV.stb, AV.one, IV.av1, Lb.app, Lb.fresh, reduceCtorEq, ptrL, appL, fillA, chunks, ivs, AV.iv, mkE, if_false, if_true, List.not_mem_nil, forall_eq, beq_self_eq_true, List.isEmpty_nil, Nat.reduceEqDiff, Nat.reduceLT, Nat.reduceLeDiff, Nat.reduceAdd, Nat.reduceMul, Int.reduceToNat, Int.reduceLE, Int.reduceLT, c62]
        by_cases h2 : c = 62
        · rw [show (c == 62) = true by simp [h2]]
          simp only [↓aX, evp, evq, evl, boxK, stillV, binV, AV.cells, mP, loadV, storeV, ldV, AV.stb, AV.one, IV.av1, Lb.app, Lb.fresh, reduceCtorEq, ptrL, appL, fillA, chunks, ivs, AV.iv, mkE, if_false, if_true, List.not_mem_nil, forall_eq, beq_self_eq_true, List.isEmpty_nil, Nat.reduceEqDiff, Nat.reduceLT, Nat.reduceLeDiff, Nat.reduceAdd, Nat.reduceMul, Int.reduceToNat, Int.reduceLE, Int.reduceLT]
          rw [app_str (xs := xs ++ byIV (esc v (s.take i))) hL hlen (by simp; omega) (by simp [Lb.app, Lb.fresh]) (hU 29)]
          simp only [↓aX, evp, evq, evl, boxK, stillV, binV, AV.cells, mP, loadV, storeV, ldV, AV.stb, AV.one, IV.av1, Lb.app, Lb.fresh, reduceCtorEq, ptrL, appL, fillA, chunks, ivs, AV.iv, mkE, if_false, if_true, List.not_mem_nil, forall_eq, beq_self_eq_true, List.isEmpty_nil, Nat.reduceEqDiff, Nat.reduceLT, Nat.reduceLeDiff, Nat.reduceAdd, Nat.reduceMul, Int.reduceToNat, Int.reduceLE, Int.reduceLT, hw]
          exact fin bGt 30 _ (by unfold escC; rw [if_neg h1, if_pos h2]) rfl rfl rfl rfl rfl
        · rw [show (c == 62) = false by simp [h2]]
          simp only [↓aX, evp, evq, evl, boxK, stillV, binV, AV.cells, mP, loadV, storeV, ldV, AV.stb, AV.one, IV.av1, Lb.app, Lb.fresh, reduceCtorEq, ptrL, appL, fillA, chunks, ivs, AV.iv, mkE, if_false, if_true, List.not_mem_nil, forall_eq, beq_self_eq_true, List.isEmpty_nil, Nat.reduceEqDiff, Nat.reduceLT, Nat.reduceLeDiff, Nat.reduceAdd, Nat.reduceMul, Int.reduceToNat, Int.reduceLE, Int.reduceLT, c38]
          by_cases h3 : c = 38
          · rw [show (c == 38) = true by simp [h3]]
            simp only [↓aX, evp, evq, evl, boxK, stillV, binV, AV.cells, mP, loadV, storeV, ldV, AV.stb, AV.one, IV.av1, Lb.app, Lb.fresh, reduceCtorEq, ptrL, appL, fillA, chunks, ivs, AV.iv, mkE, if_false, if_true, List.not_mem_nil, forall_eq, beq_self_eq_true, List.isEmpty_nil, Nat.reduceEqDiff, Nat.reduceLT, Nat.reduceLeDiff, Nat.reduceAdd, Nat.reduceMul, Int.reduceToNat, Int.reduceLE, Int.reduceLT]
            rw [app_str (xs := xs ++ byIV (esc v (s.take i))) hL hlen (by simp; omega) (by simp [Lb.app, Lb.fresh]) (hU 34)]
            simp only [↓aX, evp, evq, evl, boxK, stillV, binV, AV.cells, mP, loadV, storeV, ldV, AV.stb, AV.one, IV.av1, Lb.app, Lb.fresh, reduceCtorEq, ptrL, appL, fillA, chunks, ivs, AV.iv, mkE, if_false, if_true, List.not_mem_nil, forall_eq, beq_self_eq_true, List.isEmpty_nil, Nat.reduceEqDiff, Nat.reduceLT, Nat.reduceLeDiff, Nat.reduceAdd, Nat.reduceMul, Int.reduceToNat, Int.reduceLE, Int.reduceLT, hw]
            exact fin bAmp 35 _ (by unfold escC; rw [if_neg h1, if_neg h2, if_pos h3]) rfl rfl rfl rfl rfl
          · rw [show (c == 38) = false by simp [h3]]
            simp only [↓aX, evp, evq, evl, boxK, stillV, binV, AV.cells, mP, loadV, storeV, ldV, AV.stb, AV.one, IV.av1, Lb.app, Lb.fresh, reduceCtorEq, ptrL, appL, fillA, chunks, ivs, AV.iv, mkE, if_false, if_true, List.not_mem_nil, forall_eq, beq_self_eq_true, List.isEmpty_nil, Nat.reduceEqDiff, Nat.reduceLT, Nat.reduceLeDiff, Nat.reduceAdd, Nat.reduceMul, Int.reduceToNat, Int.reduceLE, Int.reduceLT, c34]
            have last : ∀ (env : Env), ¬ (c = 34 ∧ v = true) → escC v c = [c] := fun _ h4 => by unfold escC; rw [if_neg h1, if_neg h2, if_neg h3, if_neg h4]
            by_cases h4 : c = 34
            · rw [show (c == 34) = true by simp [h4]]
              simp only [↓aX, evp, evq, evl, boxK, stillV, binV, AV.cells, mP, loadV, storeV, ldV, AV.stb, AV.one, IV.av1, Lb.app, Lb.fresh, reduceCtorEq, ptrL, appL, fillA, chunks, ivs, AV.iv, mkE, if_false, if_true, List.not_mem_nil, forall_eq, beq_self_eq_true, List.isEmpty_nil, Nat.reduceEqDiff, Nat.reduceLT, Nat.reduceLeDiff, Nat.reduceAdd, Nat.reduceMul, Int.reduceToNat, Int.reduceLE, Int.reduceLT]
              refine cK_b (fun hv => ?_) (fun hv => ?_)
              · simp only [↓aX, evp, evq, evl, boxK, stillV, binV, AV.cells, mP, loadV, storeV, ldV, AV.stb, AV.one, IV.av1, Lb.app, Lb.fresh, reduceCtorEq, ptrL, appL, fillA, chunks, ivs, AV.iv, mkE, if_false, if_true, List.not_mem_nil, forall_eq, beq_self_eq_true, List.isEmpty_nil, Nat.reduceEqDiff, Nat.reduceLT, Nat.reduceLeDiff, Nat.reduceAdd, Nat.reduceMul, Int.reduceToNat, Int.reduceLE, Int.reduceLT]
                rw [app_str (xs := xs ++ byIV (esc v (s.take i))) hL hlen (by simp; omega) (by simp [Lb.app, Lb.fresh]) (hU 42)]
                simp only [↓aX, evp, evq, evl, boxK, stillV, binV, AV.cells, mP, loadV, storeV, ldV, AV.stb, AV.one, IV.av1, Lb.app, Lb.fresh, reduceCtorEq, ptrL, appL, fillA, chunks, ivs, AV.iv, mkE, if_false, if_true, List.not_mem_nil, forall_eq, beq_self_eq_true, List.isEmpty_nil, Nat.reduceEqDiff, Nat.reduceLT, Nat.reduceLeDiff, Nat.reduceAdd, Nat.reduceMul, Int.reduceToNat, Int.reduceLE, Int.reduceLT, hw]
                exact fin bQuot 43 _ (by unfold escC; rw [if_neg h1, if_neg h2, if_neg h3, if_pos ⟨h4, hv⟩]) rfl rfl rfl rfl rfl
              · simp only [↓aX, evp, evq, evl, boxK, stillV, binV, AV.cells, mP, loadV, storeV, ldV, AV.stb, AV.one, IV.av1, Lb.app, Lb.fresh, reduceCtorEq, ptrL, appL, fillA, chunks, ivs, AV.iv, mkE, if_false, if_true, List.not_mem_nil, forall_eq, beq_self_eq_true, List.isEmpty_nil, Nat.reduceEqDiff, Nat.reduceLT, Nat.reduceLeDiff, Nat.reduceAdd, Nat.reduceMul, Int.reduceToNat, Int.reduceLE, Int.reduceLT]
                rw [app_byte (xs := xs ++ byIV (esc v (s.take i))) hL hlen (by omega) (by simp [Lb.app, Lb.fresh]) (hU 19)]
                simp only [↓aX, evp, evq, evl, boxK, stillV, binV, AV.cells, mP, loadV, storeV, ldV, AV.stb, AV.one, IV.av1, Lb.app, Lb.fresh, reduceCtorEq, ptrL, appL, fillA, chunks, ivs, AV.iv, mkE, if_false, if_true, List.not_mem_nil, forall_eq, beq_self_eq_true, List.isEmpty_nil, Nat.reduceEqDiff, Nat.reduceLT, Nat.reduceLeDiff, Nat.reduceAdd, Nat.reduceMul, Int.reduceToNat, Int.reduceLE, Int.reduceLT, hw]
                exact fin [c] 20 _ (last Env.any (by simp [hv])) rfl rfl rfl rfl rfl
            · rw [show (c == 34) = false by simp [h4]]
              simp only [↓aX, evp, evq, evl, boxK, stillV, binV, AV.cells, mP, loadV, storeV, ldV, AV.stb, AV.one, IV.av1, Lb.app, Lb.fresh, reduceCtorEq, ptrL, appL, fillA, chunks, ivs, AV.iv, mkE, if_false, if_true, List.not_mem_nil, forall_eq, beq_self_eq_true, List.isEmpty_nil, Nat.reduceEqDiff, Nat.reduceLT, Nat.reduceLeDiff, Nat.reduceAdd, Nat.reduceMul, Int.reduceToNat, Int.reduceLE, Int.reduceLT]
              rw [app_byte (xs := xs ++ byIV (esc v (s.take i))) hL hlen (by omega) (by simp [Lb.app, Lb.fresh]) (hU 19)]
              simp only [↓aX, evp, evq, evl, boxK, stillV, binV, AV.cells, mP, loadV, storeV, ldV, AV.stb, AV.one, IV.av1, Lb.app, Lb.fresh, reduceCtorEq, ptrL, appL, fillA, chunks, ivs, AV.iv, mkE, if_false, if_true, List.not_mem_nil, forall_eq, beq_self_eq_true, List.isEmpty_nil, Nat.reduceEqDiff, Nat.reduceLT, Nat.reduceLeDiff, Nat.reduceAdd, Nat.reduceMul, Int.reduceToNat, Int.reduceLE, Int.reduceLT, hw]
              exact fin [c] 20 _ (last Env.any (by simp [h4])) rfl rfl rfl rfl rfl
    · have hil : s.take i = s := List.take_of_length_le (by omega)
      rw [show decide (((i : Nat) : Int) < ((s.length : Nat) : Int)) = false by simpa using hlt, hil]
      simp only [↓aX, evp, evq, evl, boxK, stillV, binV, AV.cells, mP, loadV, storeV, ldV, AV.stb, AV.one, IV.av1, Lb.app, Lb.fresh, reduceCtorEq, ptrL, appL, fillA, chunks, ivs, AV.iv, mkE, if_false, if_true, List.not_mem_nil, forall_eq, beq_self_eq_true, List.isEmpty_nil, Nat.reduceEqDiff, Nat.reduceLT, Nat.reduceLeDiff, Nat.reduceAdd, Nat.reduceMul, Int.reduceToNat, Int.reduceLE, Int.reduceLT, ret1_r]
      refine ⟨.gen 0, by rw [List.length_append, byIV_len], ?_⟩
      exact ofU_live.2 (by simp [ofH, upd_at])
mutual
theorem sh_len : ∀ x : Tree, x.sh.length ≤ 7 * x.wt
  | .mk t s as ks => by
    have h1 := esc_len false s
    have h2 := shAttrs_len as
    have h3 := shs_len ks
    cases t with
    | true =>
      rw [Tree.sh_t _ rfl]
      simp only [Tree.s, Tree.wt]; omega
    | false =>
      rw [Tree.sh_e _ rfl]
      simp only [Tree.s, Tree.attrs, Tree.kids, Tree.wt, List.length_append, List.length_cons]
      cases ks with
      | nil => simp only [endS, List.length_cons, List.length_nil]; omega
      | cons k r => simp only [endS, List.length_append, List.length_cons, List.length_nil]; omega
theorem shs_len : ∀ xs : List Tree, (shs xs).length ≤ 7 * wtT xs
  | [] => by simp [shs, wtT]
  | x :: r => by
    have := sh_len x
    have := shs_len r
    simp only [shs, wtT, List.length_append]; omega
theorem shAttrs_len : ∀ as : List Attr, (shAttrs as).length ≤ 7 * wtA as
  | [] => by simp [shAttrs, wtA]
  | a :: r => by
    have h1 := shAttrs_len r
    have h2 := esc_len true a.val
    simp only [shAttrs, List.flatMap_cons, List.length_append, shAttr, wtA, Attr.wt, List.length_cons, List.length_nil] at *
    omega
end
theorem shAttrs_take {as : List Attr} {i : Nat} {a : Attr} (h : as[i]? = some a) : shAttrs (as.take (i + 1)) = shAttrs (as.take i) ++ shAttr a := by
  unfold shAttrs
  rw [List.take_add_one, h, List.flatMap_append]; simp
theorem shs_app : ∀ xs ys : List Tree, shs (xs ++ ys) = shs xs ++ shs ys
  | [], ys => by simp [shs]
  | x :: r, ys => by simp [shs, shs_app r ys]
theorem shs_take {ks : List Tree} {i : Nat} {k : Tree} (h : ks[i]? = some k) : shs (ks.take (i + 1)) = shs (ks.take i) ++ k.sh := by
  rw [List.take_add_one, h, shs_app]; simp [shs]
theorem wtA_takeP (as : List Attr) (i : Nat) : wtA (as.take i) ≤ wtA as := by
  induction as generalizing i with
  | nil => simp [wtA]
  | cons a r ih =>
    cases i with
    | zero => simp [wtA]
    | succ i => have := ih i; simp [wtA]; omega
theorem wtT_takeP (ks : List Tree) (i : Nat) : wtT (ks.take i) ≤ wtT ks := by
  induction ks generalizing i with
  | nil => simp [wtT]
  | cons a r ih =>
    cases i with
    | zero => simp [wtT]
    | succ i => have := ih i; simp [wtT]; omega
theorem wtA_memP {as : List Attr} {i : Nat} {a : Attr} (h : as[i]? = some a) : wtA (as.take i) + a.wt ≤ wtA as := by
  induction as generalizing i with
  | nil => simp at h
  | cons b r ih =>
    cases i with
    | zero => simp at h; subst h; simp [wtA]
    | succ i => have := ih (i := i) (by simpa using h); simp [wtA]; omega
theorem wtT_memP {ks : List Tree} {i : Nat} {k : Tree} (h : ks[i]? = some k) : wtT (ks.take i) + k.wt ≤ wtT ks := by
  induction ks generalizing i with
  | nil => simp at h
  | cons b r ih =>
    cases i with
    | zero => simp at h; subst h; simp [wtT]
    | succ i => have := ih (i := i) (by simpa using h); simp [wtT]; omega
/-- Seen again as the loop sees it. -/
theorem we_pt {x : Tree} {env : Env} {H : Hp} {d : Nat} {ys : List IV} {ps : List (Nat × AV)} (h1 : H (.gen d) = .live ⟨1, immE ys⟩) (h2 : H (.loc 3) = .live ⟨4, [x.cs.map IV.av1]⟩) (hnf : ∀ n, n ≠ 0 → H (.par n) = .unused) (he : EqL (rnF [(.gen 0, .gen d)]) env ps) :
    WE [.gen 0, .loc 3] (fun l => l == .par 0) ps [(.gen 0, ⟨1, immE ys⟩), (.loc 3, ⟨4, [x.cs.map IV.av1]⟩)] env H [(.gen 0, .gen d)] := by
  refine ⟨?_, he, ?_, by simp [rnF], ?_⟩
  · intro l hf hu
    right
    cases l <;> simp [Lb.entry] at hf
    rename_i n
    by_cases e : n = 0
    · subst e; rfl
    · exact absurd (hnf n e) hu
  · refine ⟨by simp [rnF, renR_immE, h1], ?_, trivial⟩
    have : renR (rnF [(Lb.gen 0, Lb.gen d)]) ⟨4, [x.cs.map IV.av1]⟩ = ⟨4, [x.cs.map IV.av1]⟩ := by
      simp only [renR, List.map_cons, List.map_nil]
      rw [rens_imm]
    rw [this]
    simpa [rnF] using h2
  · intro l hl
    simp only [List.mem_cons, List.not_mem_nil, or_false] at hl
    rcases hl with rfl | rfl
    · simp [Lb.fresh, Lb.entry]
    · simp [rnF]
def c_mark_put (f_mark_escape f_mark_put : Nat) : AC :=
(.seq (.reg [⟨(some 3), none, (.box (.t 1))⟩, ⟨(some 4), none, (.mov (.c .nil0))⟩]) (.seq (.seq (.reg [⟨(some 9), none, (.fld (.t 3) 0)⟩, ⟨(some 10), none, (.load none (.t 9))⟩]) (.cond (.t 10) (.seq (.reg [⟨(some 11), none, (.mov (.t 0))⟩, ⟨(some 12), none, (.fld (.t 3) 1)⟩, ⟨(some 13), none, (.load none (.t 12))⟩, ⟨(some 14), none, (.call f_mark_escape [(.t 11), (.t 13), (.c (.bool false))])⟩, ⟨(some 4), none, (.mov (.t 14))⟩]) .ret) .skip)) (.seq (.dreg [⟨(some 15), none, (.mov (.t 0))⟩, ⟨(some 16), none, (.lits 1 1 [(.int .u8 0)] [(0, (.c (.int .u8 60)))])⟩, ⟨(some 17), none, (.app (.t 15) (.t 16) 1 1)⟩, ⟨(some 18), none, (.fld (.t 3) 1)⟩, ⟨(some 19), none, (.load none (.t 18))⟩, ⟨(some 20), none, (.app (.t 17) (.t 19) 1 1)⟩, ⟨(some 0), none, (.mov (.t 20))⟩] [[], [], [0, 1], [], [3], [2, 4, 2], [5, 5, 0, 1, 2, 3, 4, 5]] [.no, .no, (.rw [] [(.par 0), (.gen 17)]), .no, .rw [.loc 3] [], (.rw [] [(.gen 17), (.gen 20)]), .no]) (.seq (.seq (.reg [⟨(some 21), none, (.fld (.t 3) 2)⟩, ⟨(some 22), none, (.load none (.t 21))⟩, ⟨(some 23), none, (.len (.t 22))⟩, ⟨(some 24), none, (.mov (.c (.int .i64 0)))⟩]) (.block 0 (.loop (.seq (.reg [⟨(some 25), none, (.bin .lss (.t 24) (.t 23))⟩]) (.seq (.cond (.t 25) .skip (.exit 0)) (.seq (.block 1 (.seq (.reg [⟨(some 26), none, (.ixa (.t 22) (.t 24) 2)⟩, ⟨(some 27), none, (.load (some 2) (.t 26))⟩, ⟨(some 6), none, (.new [(.str []), (.str [])])⟩, ⟨none, none, (.store 2 (.t 6) (.t 27))⟩]) (.seq (.dreg [⟨(some 28), none, (.mov (.t 0))⟩, ⟨(some 29), none, (.lits 1 1 [(.int .u8 0)] [(0, (.c (.int .u8 32)))])⟩, ⟨(some 30), none, (.app (.t 28) (.t 29) 1 1)⟩, ⟨(some 31), none, (.fld (.t 6) 0)⟩, ⟨(some 32), none, (.load none (.t 31))⟩, ⟨(some 33), none, (.app (.t 30) (.t 32) 1 1)⟩, ⟨(some 0), none, (.mov (.t 33))⟩] [[], [], [0, 1], [], [3], [2, 4, 2], [5, 5, 0, 1, 2, 3, 4, 5]] [.no, .no, (.rw [] [(.gen 0), (.gen 30)]), .no, .rw [.loc 6] [], (.rw [] [(.gen 30), (.gen 33)]), .no]) (.dreg [⟨(some 34), none, (.mov (.t 0))⟩, ⟨(some 35), none, (.app (.t 34) (.c (.str [61, 34])) 1 1)⟩, ⟨(some 36), none, (.fld (.t 6) 1)⟩, ⟨(some 37), none, (.load none (.t 36))⟩, ⟨(some 38), none, (.call f_mark_escape [(.t 35), (.t 37), (.c (.bool true))])⟩, ⟨(some 39), none, (.lits 1 1 [(.int .u8 0)] [(0, (.c (.int .u8 34)))])⟩, ⟨(some 40), none, (.app (.t 38) (.t 39) 1 1)⟩, ⟨(some 0), none, (.mov (.t 40))⟩] [[], [0], [], [2], [1, 3, 1], [], [4, 5, 4], [6, 6, 0, 1, 2, 3, 4, 5, 6]] [.no, (.rw [] [(.gen 33), (.gen 35)]), .no, .rw [.loc 6] [], (.far []), .no, (.rw [] [(.gen 35), (.gen 38), (.gen 40)]), .no])))) (.reg [⟨(some 41), none, (.bin .add (.t 24) (.c (.int .i64 1)))⟩, ⟨(some 24), none, (.mov (.t 41))⟩]))))))) (.seq (.seq (.reg [⟨(some 42), none, (.fld (.t 3) 3)⟩, ⟨(some 43), none, (.load none (.t 42))⟩, ⟨(some 44), none, (.len (.t 43))⟩, ⟨(some 45), none, (.bin .eql (.t 44) (.c (.int .i64 0)))⟩]) (.cond (.t 45) (.seq (.reg [⟨(some 46), none, (.mov (.t 0))⟩, ⟨(some 47), none, (.app (.t 46) (.c (.str [47, 62])) 1 1)⟩, ⟨(some 4), none, (.mov (.t 47))⟩]) .ret) .skip)) (.seq (.reg [⟨(some 48), none, (.mov (.t 0))⟩, ⟨(some 49), none, (.lits 1 1 [(.int .u8 0)] [(0, (.c (.int .u8 62)))])⟩, ⟨(some 50), none, (.app (.t 48) (.t 49) 1 1)⟩, ⟨(some 0), none, (.mov (.t 50))⟩]) (.seq (.seq (.reg [⟨(some 51), none, (.fld (.t 3) 3)⟩, ⟨(some 52), none, (.load none (.t 51))⟩, ⟨(some 53), none, (.len (.t 52))⟩, ⟨(some 54), none, (.mov (.c (.int .i64 0)))⟩]) (.block 2 (.loop (.seq (.reg [⟨(some 55), none, (.bin .lss (.t 54) (.t 53))⟩]) (.seq (.cond (.t 55) .skip (.exit 2)) (.seq (.block 3 (.seq (.reg [⟨(some 56), none, (.ixa (.t 52) (.t 54) 4)⟩, ⟨(some 57), none, (.load (some 4) (.t 56))⟩, ⟨(some 8), none, (.new [(.bool false), (.str []), .nil0, .nil0])⟩, ⟨none, none, (.store 4 (.t 8) (.t 57))⟩]) (.reg [⟨(some 58), none, (.mov (.t 0))⟩, ⟨(some 59), none, (.load (some 4) (.t 8))⟩, ⟨(some 60), none, (.call f_mark_put [(.t 58), (.t 59)])⟩, ⟨(some 0), none, (.mov (.t 60))⟩]))) (.reg [⟨(some 61), none, (.bin .add (.t 54) (.c (.int .i64 1)))⟩, ⟨(some 54), none, (.mov (.t 61))⟩]))))))) (.seq (.dreg [⟨(some 62), none, (.mov (.t 0))⟩, ⟨(some 63), none, (.app (.t 62) (.c (.str [60, 47])) 1 1)⟩, ⟨(some 64), none, (.fld (.t 3) 1)⟩, ⟨(some 65), none, (.load none (.t 64))⟩, ⟨(some 66), none, (.app (.t 63) (.t 65) 1 1)⟩, ⟨(some 67), none, (.lits 1 1 [(.int .u8 0)] [(0, (.c (.int .u8 62)))])⟩, ⟨(some 68), none, (.app (.t 66) (.t 67) 1 1)⟩, ⟨(some 4), none, (.mov (.t 68))⟩] [[], [0], [], [2], [1, 3, 1], [], [4, 5, 4], [6, 6, 0, 1, 2, 3, 4, 5, 6]] [.no, (.rw [] [(.gen 0), (.gen 63)]), .no, .rw [.loc 3] [], (.rw [] [(.gen 63), (.gen 66)]), .no, (.rw [] [(.gen 66), (.gen 68)]), .no]) .ret))))))))
theorem pMkPut {f_mark_put f_mark_escape : Nat} (hF : compF P G f_mark_put = some (69, [(none, 4)], (c_mark_put f_mark_escape f_mark_put).bare)) (hE : ∀ (xs : List IV) (s : Bs) (v : Bool), xs.length + 6 * s.length ≤ 2 ^ 40 → GrwC P G 1 f_mark_escape [.sl (.par 0) 1 0 xs.length, .str s, .bool v] xs (xs ++ byIV (esc v s))) :
    ∀ (n : Nat) (x : Tree) (xs : List IV), x.wt ≤ n → xs.length + 7 * x.wt ≤ 2 ^ 40 → GrwC P G 1 f_mark_put [.sl (.par 0) 1 0 xs.length, x.av] xs (xs ++ byIV x.sh) := by
  intro n
  induction n with
  | zero => intro x xs hn; have := x.wt_eq; omega
  | succ n ih =>
  intro x xs hn hb
  refine grw_of_go hF (by simp) (by simp [lbss, AV.lbs, Tree.av]) ?_
  have hbv : (2 : Nat) ^ 40 = 1099511627776 := by decide
  have hwt := x.wt_eq
  have hal := wtA_len x.attrs
  have hkl := wtT_len x.kids
  unfold c_mark_put
  simp only [↓aX, evp, evq, evl, boxK, stillV, binV, AV.cells, mP, loadV, storeV, ldV, AV.stb, AV.one, IV.av1, Lb.app, Lb.fresh, reduceCtorEq, ptrL, appL, fillA, chunks, ivs, AV.iv, mkE, if_false, if_true, List.not_mem_nil, forall_eq, beq_self_eq_true, List.isEmpty_nil, Nat.reduceEqDiff, Nat.reduceLT, Nat.reduceLeDiff, Nat.reduceAdd, Nat.reduceMul, Int.reduceToNat, Int.reduceLE, Int.reduceLT, rowX, Tree.av, List.map_cons, List.map_nil]
  refine cK_b (fun ht => ?_) (fun ht => ?_)
  · simp only [↓aX, evp, evq, evl, boxK, stillV, binV, AV.cells, mP, loadV, storeV, ldV, AV.stb, AV.one, IV.av1, Lb.app, Lb.fresh, reduceCtorEq, ptrL, appL, fillA, chunks, ivs, AV.iv, mkE, if_false, if_true, List.not_mem_nil, forall_eq, beq_self_eq_true, List.isEmpty_nil, Nat.reduceEqDiff, Nat.reduceLT, Nat.reduceLeDiff, Nat.reduceAdd, Nat.reduceMul, Int.reduceToNat, Int.reduceLE, Int.reduceLT]
    have h1 := esc_len false x.s
    have hw := x.wt_eq
    refine callT_grw (l := .par 0) (N := .gen 14) (hE xs x.s false (by omega)) (by simp [rens, ren, atL]) (by simp [upd_at]) (by simp [upd_at, Hp.none]) (by simp [Lb.fresh]) ?_ ?_
    · simp only [↓aX, evp, evq, evl, boxK, stillV, binV, AV.cells, mP, loadV, storeV, ldV, AV.stb, AV.one, IV.av1, Lb.app, Lb.fresh, reduceCtorEq, ptrL, appL, fillA, chunks, ivs, AV.iv, mkE, if_false, if_true, List.not_mem_nil, forall_eq, beq_self_eq_true, List.isEmpty_nil, Nat.reduceEqDiff, Nat.reduceLT, Nat.reduceLeDiff, Nat.reduceAdd, Nat.reduceMul, Int.reduceToNat, Int.reduceLE, Int.reduceLT, ret1_r, x.sh_t ht]
      exact ⟨.gen 14, rfl, by simp [upd_at]⟩
    · simp only [↓aX, evp, evq, evl, boxK, stillV, binV, AV.cells, mP, loadV, storeV, ldV, AV.stb, AV.one, IV.av1, Lb.app, Lb.fresh, reduceCtorEq, ptrL, appL, fillA, chunks, ivs, AV.iv, mkE, if_false, if_true, List.not_mem_nil, forall_eq, beq_self_eq_true, List.isEmpty_nil, Nat.reduceEqDiff, Nat.reduceLT, Nat.reduceLeDiff, Nat.reduceAdd, Nat.reduceMul, Int.reduceToNat, Int.reduceLE, Int.reduceLT, ret1_r, x.sh_t ht]
      exact ⟨.par 0, rfl, by simp [upd_at]⟩
  · simp only [↓aX, evp, evq, evl, boxK, stillV, binV, AV.cells, mP, loadV, storeV, ldV, AV.stb, AV.one, IV.av1, Lb.app, Lb.fresh, reduceCtorEq, ptrL, appL, fillA, chunks, ivs, AV.iv, mkE, if_false, if_true, List.not_mem_nil, forall_eq, beq_self_eq_true, List.isEmpty_nil, Nat.reduceEqDiff, Nat.reduceLT, Nat.reduceLeDiff, Nat.reduceAdd, Nat.reduceMul, Int.reduceToNat, Int.reduceLE, Int.reduceLT]
    have hsl : x.sh = 60 :: x.s ++ shAttrs x.attrs ++ endS x.s x.kids := x.sh_e ht
    refine ⟨by decide +kernel, ?_⟩
    rw [app_byteZ (z := 60) 60 rfl (xs := xs) (by simp [upd_at]) rfl (by omega) (by simp [Lb.app, Lb.fresh]) (by simp [Lb.app, Lb.fresh, upd_at, Hp.none])]
    simp only [↓aX, evp, evq, evl, boxK, stillV, binV, AV.cells, mP, loadV, storeV, ldV, AV.stb, AV.one, IV.av1, Lb.app, Lb.fresh, reduceCtorEq, ptrL, appL, fillA, chunks, ivs, AV.iv, mkE, if_false, if_true, List.not_mem_nil, forall_eq, beq_self_eq_true, List.isEmpty_nil, Nat.reduceEqDiff, Nat.reduceLT, Nat.reduceLeDiff, Nat.reduceAdd, Nat.reduceMul, Int.reduceToNat, Int.reduceLE, Int.reduceLT, Lb.app, Lb.fresh]
    rw [app_str (xs := xs ++ byIV [60]) (by simp [upd_at]) (by simp [byIV_len]) (by omega) (by simp [Lb.app, Lb.fresh]) (by simp [Lb.app, Lb.fresh, upd_at, Hp.none])]
    simp only [↓aX, evp, evq, evl, boxK, stillV, binV, AV.cells, mP, loadV, storeV, ldV, AV.stb, AV.one, IV.av1, Lb.app, Lb.fresh, reduceCtorEq, ptrL, appL, fillA, chunks, ivs, AV.iv, mkE, if_false, if_true, List.not_mem_nil, forall_eq, beq_self_eq_true, List.isEmpty_nil, Nat.reduceEqDiff, Nat.reduceLT, Nat.reduceLeDiff, Nat.reduceAdd, Nat.reduceMul, Int.reduceToNat, Int.reduceLE, Int.reduceLT, Lb.app, Lb.fresh]
    have fam2 : ∀ (a b : Lb) (F : List Lb), a.fam ∈ F → b.fam ∈ F → ∀ l : Lb, l = a ∨ l = b → l.fam ∈ F := by rintro a b F h1 h2 l (rfl | rfl); exact h1; exact h2
    obtain ⟨y1, hy1⟩ : ∃ y1 : Nat → Bs, y1 = fun j => 60 :: x.s ++ shAttrs (x.attrs.take j) := ⟨_, rfl⟩
    have hyl : ∀ j, (y1 j).length ≤ 1 + x.s.length + 7 * wtA x.attrs := fun j => by
      have := shAttrs_len (x.attrs.take j)
      have := wtA_takeP x.attrs j
      rw [hy1]; simp only [List.length_append, List.length_cons]; omega
    have hcs : x.cs.map IV.av1 = [.bool x.text, .str x.s, .list (ivA x.attrs), .list (ivT x.kids)] := rfl
    refine ⟨by rintro l (rfl | rfl); exact .inl rfl; exact .inr rfl, by rintro l (rfl | rfl); exact .inl rfl; exact .inr rfl, ?_⟩
    refine loop_entry (σ := { j : Nat // j ≤ x.attrs.length }) (fun _ => [.gen 0, .loc 3]) (fun _ l => l == .par 0)
      (fun q => [(0, .sl (.gen 0) 1 0 (xs ++ byIV (y1 q.1)).length), (3, .ptr (.loc 3) 4 0 0), (22, .list (ivA x.attrs)), (23, .int .i64 x.attrs.length), (24, .int .i64 q.1)])
      (fun q => [(.gen 0, ⟨1, immE (xs ++ byIV (y1 q.1))⟩), (.loc 3, ⟨4, [x.cs.map IV.av1]⟩)]) (fun q => x.attrs.length - q.1) ⟨0, Nat.zero_le _⟩ (fun _ => rfl) (fun q => by simp [lbss, AV.lbs]) ?_ ⟨[(.gen 0, .gen 20)], ?_⟩ ?_
    · intro q w hw cs hcs2 z hz
      simp only [List.mem_cons, List.not_mem_nil, or_false] at hw
      rcases hw with rfl | rfl
      · rw [lbss_immE hcs2] at hz; simp at hz
      · simp only [List.mem_singleton] at hcs2; subst hcs2; rw [lbss_imm] at hz; simp at hz
    · refine we_pt (x := x) ?_ ?_ ?_ ?_
      · simp [upd_at, hy1, shAttrs, byIV]
      · simp [upd_at, hcs]
      · intro n hn; simp [upd_at, Hp.none, hn]
      · simp [EqL, rnF, ren, put, hy1, shAttrs, byIV_len, ivA_len, Nat.add_assoc, Nat.add_comm]
    · rintro ⟨j, hj⟩
      have hyj := hyl j
      have hU6 : ofU (fun l => l == Lb.par 0) [(Lb.gen 0, ⟨1, immE (xs ++ byIV (y1 j))⟩), (Lb.loc 3, ⟨4, [x.cs.map IV.av1]⟩)] (.loc 6) = .unused := by rw [ofU_at (by simp)]; rfl
      have hUg : ∀ d, ofU (fun l => l == Lb.par 0) [(Lb.gen 0, ⟨1, immE (xs ++ byIV (y1 j))⟩), (Lb.loc 3, ⟨4, [x.cs.map IV.av1]⟩)] (.gen (d + 1)) = .unused := fun d => by rw [ofU_at (by simp)]; rfl
      have hUp : ∀ d, d ≠ 0 → ofU (fun l => l == Lb.par 0) [(Lb.gen 0, ⟨1, immE (xs ++ byIV (y1 j))⟩), (Lb.loc 3, ⟨4, [x.cs.map IV.av1]⟩)] (.par d) = .unused := fun d hd => by rw [ofU_at (by simp)]; simp [hd]
      have hL0 : ofU (fun l => l == Lb.par 0) [(Lb.gen 0, ⟨1, immE (xs ++ byIV (y1 j))⟩), (Lb.loc 3, ⟨4, [x.cs.map IV.av1]⟩)] (.gen 0) = .live ⟨1, immE (xs ++ byIV (y1 j))⟩ := ofU_live.2 (by simp [ofH, upd_at])
      have hL3 : ofU (fun l => l == Lb.par 0) [(Lb.gen 0, ⟨1, immE (xs ++ byIV (y1 j))⟩), (Lb.loc 3, ⟨4, [x.cs.map IV.av1]⟩)] (.loc 3) = .live ⟨4, [x.cs.map IV.av1]⟩ := ofU_live.2 (by simp [ofH, upd_at])
      simp only
      generalize ofU (fun l => l == Lb.par 0) [(Lb.gen 0, ⟨1, immE (xs ++ byIV (y1 j))⟩), (Lb.loc 3, ⟨4, [x.cs.map IV.av1]⟩)] = H0 at *
      simp only [↓aX, evp, evq, evl, boxK, stillV, binV, AV.cells, mP, loadV, storeV, ldV, AV.stb, AV.one, IV.av1, Lb.app, Lb.fresh, reduceCtorEq, ptrL, appL, fillA, chunks, ivs, AV.iv, mkE, if_false, if_true, List.not_mem_nil, forall_eq, beq_self_eq_true, List.isEmpty_nil, Nat.reduceEqDiff, Nat.reduceLT, Nat.reduceLeDiff, Nat.reduceAdd, Nat.reduceMul, Int.reduceToNat, Int.reduceLE, Int.reduceLT, List.length_map]
      by_cases hlt : j < x.attrs.length
      · rw [show decide (((j : Nat) : Int) < ((x.attrs.length : Nat) : Int)) = true by simpa using hlt]
        obtain ⟨a, ha⟩ : ∃ a, x.attrs[j]? = some a := ⟨_, List.getElem?_eq_getElem hlt⟩
        have hw : IntKind.i64.wrap ((j : Int) + 1) = ((j + 1 : Nat) : Int) := wrap64 (by omega) (by omega)
        have hwa := wtA_memP ha
        have hat := shAttrs_len (x.attrs.take j)
        have hyj1 : (y1 j).length = 1 + x.s.length + (shAttrs (x.attrs.take j)).length := by rw [hy1]; simp; omega
        simp only [Attr.wt] at hwa
        simp only [↓aX, evp, evq, evl, boxK, stillV, binV, AV.cells, mP, loadV, storeV, ldV, AV.stb, AV.one, IV.av1, Lb.app, Lb.fresh, reduceCtorEq, ptrL, appL, fillA, chunks, ivs, AV.iv, mkE, if_false, if_true, List.not_mem_nil, forall_eq, beq_self_eq_true, List.isEmpty_nil, Nat.reduceEqDiff, Nat.reduceLT, Nat.reduceLeDiff, Nat.reduceAdd, Nat.reduceMul, Int.reduceToNat, Int.reduceLE, Int.reduceLT, ivA_get, ha, elszA, Attr.cells_eq, Attr.cs, Option.map_some]
        refine ⟨hU6, by decide +kernel, ?_⟩
        rw [app_byteZ (z := 32) 32 rfl (xs := xs ++ byIV (y1 j)) (by simp [upd_at, hL0]) rfl (by simp [byIV_len]; omega) (by simp [Lb.app, Lb.fresh]) (by simp [Lb.app, Lb.fresh, upd_at, hUg])]
        simp only [↓aX, evp, evq, evl, boxK, stillV, binV, AV.cells, mP, loadV, storeV, ldV, AV.stb, AV.one, IV.av1, Lb.app, Lb.fresh, reduceCtorEq, ptrL, appL, fillA, chunks, ivs, AV.iv, mkE, if_false, if_true, List.not_mem_nil, forall_eq, beq_self_eq_true, List.isEmpty_nil, Nat.reduceEqDiff, Nat.reduceLT, Nat.reduceLeDiff, Nat.reduceAdd, Nat.reduceMul, Int.reduceToNat, Int.reduceLE, Int.reduceLT, Lb.app, Lb.fresh]
        rw [app_str (xs := xs ++ byIV (y1 j) ++ byIV [32]) (by simp [upd_at]) (by simp [byIV_len, Nat.add_assoc]) (by simp [byIV_len]; omega) (by simp [Lb.app, Lb.fresh]) (by simp [Lb.app, Lb.fresh, upd_at, hUg])]
        simp only [↓aX, evp, evq, evl, boxK, stillV, binV, AV.cells, mP, loadV, storeV, ldV, AV.stb, AV.one, IV.av1, Lb.app, Lb.fresh, reduceCtorEq, ptrL, appL, fillA, chunks, ivs, AV.iv, mkE, if_false, if_true, List.not_mem_nil, forall_eq, beq_self_eq_true, List.isEmpty_nil, Nat.reduceEqDiff, Nat.reduceLT, Nat.reduceLeDiff, Nat.reduceAdd, Nat.reduceMul, Int.reduceToNat, Int.reduceLE, Int.reduceLT, Lb.app, Lb.fresh]
        refine ⟨by rintro l (rfl | rfl); exact .inl rfl; exact .inr rfl, by rintro l (rfl | rfl); exact .inl rfl; exact .inr rfl, rfl, ?_⟩
        rw [app_str (xs := xs ++ byIV (y1 j) ++ byIV [32] ++ byIV a.name) (t := [61, 34]) (by simp [upd_at]) (by simp [byIV_len, Nat.add_assoc]) (by simp [byIV_len]; omega) (by simp [Lb.app, Lb.fresh]) (by simp [Lb.app, Lb.fresh, upd_at, hUg])]
        simp only [↓aX, evp, evq, evl, boxK, stillV, binV, AV.cells, mP, loadV, storeV, ldV, AV.stb, AV.one, IV.av1, Lb.app, Lb.fresh, reduceCtorEq, ptrL, appL, fillA, chunks, ivs, AV.iv, mkE, if_false, if_true, List.not_mem_nil, forall_eq, beq_self_eq_true, List.isEmpty_nil, Nat.reduceEqDiff, Nat.reduceLT, Nat.reduceLeDiff, Nat.reduceAdd, Nat.reduceMul, Int.reduceToNat, Int.reduceLE, Int.reduceLT, Lb.app, Lb.fresh]
        refine ⟨by rintro l (rfl | rfl); exact .inl rfl; exact .inr rfl, ?_⟩
        have hnext : y1 (j + 1) = y1 j ++ ([32] ++ a.name ++ [61, 34] ++ esc true a.val ++ [34]) := by rw [hy1]; simp only [shAttrs_take ha, shAttr]; simp
        have hev := esc_len true a.val
        refine far_grw (l := .gen 35) (N := .gen 38) (hE (xs ++ byIV (y1 j) ++ byIV [32] ++ byIV a.name ++ byIV [61, 34]) a.val true (by simp [byIV_len]; omega)) (by simp [rens, ren, atL, byIV_len, Nat.add_assoc]) (by simp [upd_at]) (by simp [upd_at, hUg]) (by simp [Lb.fresh]) (by simp) (by simp) ?_ ?_
        · simp only [↓aX, evp, evq, evl, boxK, stillV, binV, AV.cells, mP, loadV, storeV, ldV, AV.stb, AV.one, IV.av1, Lb.app, Lb.fresh, reduceCtorEq, ptrL, appL, fillA, chunks, ivs, AV.iv, mkE, if_false, if_true, List.not_mem_nil, forall_eq, beq_self_eq_true, List.isEmpty_nil, Nat.reduceEqDiff, Nat.reduceLT, Nat.reduceLeDiff, Nat.reduceAdd, Nat.reduceMul, Int.reduceToNat, Int.reduceLE, Int.reduceLT, Lb.app, Lb.fresh]
          rw [app_byteZ (z := 34) 34 rfl (xs := xs ++ byIV (y1 j) ++ byIV [32] ++ byIV a.name ++ byIV [61, 34] ++ byIV (esc true a.val)) (by simp [upd_at]) rfl (by simp [byIV_len]; omega) (by simp [Lb.app, Lb.fresh]) (by simp [Lb.app, Lb.fresh, upd_at, hUg])]
          simp only [↓aX, evp, evq, evl, boxK, stillV, binV, AV.cells, mP, loadV, storeV, ldV, AV.stb, AV.one, IV.av1, Lb.app, Lb.fresh, reduceCtorEq, ptrL, appL, fillA, chunks, ivs, AV.iv, mkE, if_false, if_true, List.not_mem_nil, forall_eq, beq_self_eq_true, List.isEmpty_nil, Nat.reduceEqDiff, Nat.reduceLT, Nat.reduceLeDiff, Nat.reduceAdd, Nat.reduceMul, Int.reduceToNat, Int.reduceLE, Int.reduceLT, Lb.app, Lb.fresh, hw]
          refine ⟨by rintro l (rfl | rfl); exact .inr (.inl rfl); exact .inr (.inr rfl), ⟨j + 1, hlt⟩, by simp only; omega, [(.gen 0, .gen 40)], ?_⟩
          refine we_pt (x := x) ?_ ?_ ?_ ?_
          · simp [upd_at, hnext, byIV]
          · simp [upd_at, hL3]
          · intro n hn; simp [upd_at, hUp n hn]
          · simp [EqL, rnF, ren, put, hnext, byIV_len]; omega
        · simp only [↓aX, evp, evq, evl, boxK, stillV, binV, AV.cells, mP, loadV, storeV, ldV, AV.stb, AV.one, IV.av1, Lb.app, Lb.fresh, reduceCtorEq, ptrL, appL, fillA, chunks, ivs, AV.iv, mkE, if_false, if_true, List.not_mem_nil, forall_eq, beq_self_eq_true, List.isEmpty_nil, Nat.reduceEqDiff, Nat.reduceLT, Nat.reduceLeDiff, Nat.reduceAdd, Nat.reduceMul, Int.reduceToNat, Int.reduceLE, Int.reduceLT, Lb.app, Lb.fresh]
          rw [app_byteZ (z := 34) 34 rfl (xs := xs ++ byIV (y1 j) ++ byIV [32] ++ byIV a.name ++ byIV [61, 34] ++ byIV (esc true a.val)) (by simp [upd_at]) rfl (by simp [byIV_len]; omega) (by simp [Lb.app, Lb.fresh]) (by simp [Lb.app, Lb.fresh, upd_at, hUg])]
          simp only [↓aX, evp, evq, evl, boxK, stillV, binV, AV.cells, mP, loadV, storeV, ldV, AV.stb, AV.one, IV.av1, Lb.app, Lb.fresh, reduceCtorEq, ptrL, appL, fillA, chunks, ivs, AV.iv, mkE, if_false, if_true, List.not_mem_nil, forall_eq, beq_self_eq_true, List.isEmpty_nil, Nat.reduceEqDiff, Nat.reduceLT, Nat.reduceLeDiff, Nat.reduceAdd, Nat.reduceMul, Int.reduceToNat, Int.reduceLE, Int.reduceLT, Lb.app, Lb.fresh, hw]
          refine ⟨by rintro l (rfl | rfl); exact .inl rfl; exact .inr (.inr rfl), ⟨j + 1, hlt⟩, by simp only; omega, [(.gen 0, .gen 40)], ?_⟩
          refine we_pt (x := x) ?_ ?_ ?_ ?_
          · simp [upd_at, hnext, byIV]
          · simp [upd_at, hL3]
          · intro n hn; simp [upd_at, hUp n hn]
          · simp [EqL, rnF, ren, put, hnext, byIV_len]; omega
      · have hil : x.attrs.take j = x.attrs := List.take_of_length_le (by omega)
        rw [show decide (((j : Nat) : Int) < ((x.attrs.length : Nat) : Int)) = false by simpa using hlt]
        have hy0 : y1 j = 60 :: x.s ++ shAttrs x.attrs := by rw [hy1]; simp only [hil]
        simp only [↓aX, evp, evq, evl, boxK, stillV, binV, AV.cells, mP, loadV, storeV, ldV, AV.stb, AV.one, IV.av1, Lb.app, Lb.fresh, reduceCtorEq, ptrL, appL, fillA, chunks, ivs, AV.iv, mkE, if_false, if_true, List.not_mem_nil, forall_eq, beq_self_eq_true, List.isEmpty_nil, Nat.reduceEqDiff, Nat.reduceLT, Nat.reduceLeDiff, Nat.reduceAdd, Nat.reduceMul, Int.reduceToNat, Int.reduceLE, Int.reduceLT, hL3, hcs, ivT_len]
        have hwk : (shs x.kids).length ≤ 7 * wtT x.kids := shs_len _
        have hy0l : (y1 j).length = 1 + x.s.length + (shAttrs x.attrs).length := by rw [hy0]; simp; omega
        have hatl := shAttrs_len x.attrs
        by_cases hk0 : x.kids = []
        · rw [show (((x.kids.length : Nat) : Int) == 0) = true by simp [hk0]]
          simp only [↓aX, evp, evq, evl, boxK, stillV, binV, AV.cells, mP, loadV, storeV, ldV, AV.stb, AV.one, IV.av1, Lb.app, Lb.fresh, reduceCtorEq, ptrL, appL, fillA, chunks, ivs, AV.iv, mkE, if_false, if_true, List.not_mem_nil, forall_eq, beq_self_eq_true, List.isEmpty_nil, Nat.reduceEqDiff, Nat.reduceLT, Nat.reduceLeDiff, Nat.reduceAdd, Nat.reduceMul, Int.reduceToNat, Int.reduceLE, Int.reduceLT]
          rw [app_str (xs := xs ++ byIV (y1 j)) (t := [47, 62]) hL0 rfl (by simp [byIV_len]; omega) (by simp [Lb.app, Lb.fresh]) (by simp [Lb.app, Lb.fresh, hUg])]
          simp only [↓aX, evp, evq, evl, boxK, stillV, binV, AV.cells, mP, loadV, storeV, ldV, AV.stb, AV.one, IV.av1, Lb.app, Lb.fresh, reduceCtorEq, ptrL, appL, fillA, chunks, ivs, AV.iv, mkE, if_false, if_true, List.not_mem_nil, forall_eq, beq_self_eq_true, List.isEmpty_nil, Nat.reduceEqDiff, Nat.reduceLT, Nat.reduceLeDiff, Nat.reduceAdd, Nat.reduceMul, Int.reduceToNat, Int.reduceLE, Int.reduceLT, Lb.app, Lb.fresh, ret1_r]
          refine ⟨.gen 47, ?_, ?_⟩
          · simp [hsl, hk0, endS, hy0, byIV_len]; omega
          · simp [upd_at, hsl, hk0, endS, hy0, byIV]
        · have hkl0 : x.kids.length ≠ 0 := fun e => hk0 (List.length_eq_zero_iff.1 e)
          rw [show (((x.kids.length : Nat) : Int) == 0) = false by simp; exact hk0]
          simp only [↓aX, evp, evq, evl, boxK, stillV, binV, AV.cells, mP, loadV, storeV, ldV, AV.stb, AV.one, IV.av1, Lb.app, Lb.fresh, reduceCtorEq, ptrL, appL, fillA, chunks, ivs, AV.iv, mkE, if_false, if_true, List.not_mem_nil, forall_eq, beq_self_eq_true, List.isEmpty_nil, Nat.reduceEqDiff, Nat.reduceLT, Nat.reduceLeDiff, Nat.reduceAdd, Nat.reduceMul, Int.reduceToNat, Int.reduceLE, Int.reduceLT]
          rw [app_byteZ (z := 62) 62 rfl (xs := xs ++ byIV (y1 j)) hL0 rfl (by simp [byIV_len]; omega) (by simp [Lb.app, Lb.fresh]) (by simp [Lb.app, Lb.fresh, hUg])]
          simp only [↓aX, evp, evq, evl, boxK, stillV, binV, AV.cells, mP, loadV, storeV, ldV, AV.stb, AV.one, IV.av1, Lb.app, Lb.fresh, reduceCtorEq, ptrL, appL, fillA, chunks, ivs, AV.iv, mkE, if_false, if_true, List.not_mem_nil, forall_eq, beq_self_eq_true, List.isEmpty_nil, Nat.reduceEqDiff, Nat.reduceLT, Nat.reduceLeDiff, Nat.reduceAdd, Nat.reduceMul, Int.reduceToNat, Int.reduceLE, Int.reduceLT, Lb.app, Lb.fresh, hL3, hcs, ivT_len]
          obtain ⟨y2, hy2⟩ : ∃ y2 : Nat → Bs, y2 = fun k => y1 j ++ [62] ++ shs (x.kids.take k) := ⟨_, rfl⟩
          have hyl2 : ∀ k, (y2 k).length = 2 + x.s.length + (shAttrs x.attrs).length + (shs (x.kids.take k)).length := fun k => by
            rw [hy2]; simp only [List.length_append, List.length_cons, List.length_nil, hy0l]; omega
          refine loop_entry (σ := { k : Nat // k ≤ x.kids.length }) (fun _ => [.gen 0, .loc 3]) (fun _ l => l == .par 0)
            (fun q => [(0, .sl (.gen 0) 1 0 (xs ++ byIV (y2 q.1)).length), (3, .ptr (.loc 3) 4 0 0), (52, .list (ivT x.kids)), (53, .int .i64 x.kids.length), (54, .int .i64 q.1)])
            (fun q => [(.gen 0, ⟨1, immE (xs ++ byIV (y2 q.1))⟩), (.loc 3, ⟨4, [x.cs.map IV.av1]⟩)]) (fun q => x.kids.length - q.1) ⟨0, Nat.zero_le _⟩ (fun _ => rfl) (fun q => by simp [lbss, AV.lbs]) ?_ ⟨[(.gen 0, .gen 50)], ?_⟩ ?_
          · intro q w hw cs hcs2 z hz
            simp only [List.mem_cons, List.not_mem_nil, or_false] at hw
            rcases hw with rfl | rfl
            · rw [lbss_immE hcs2] at hz; simp at hz
            · simp only [List.mem_singleton] at hcs2; subst hcs2; rw [lbss_imm] at hz; simp at hz
          · refine we_pt (x := x) ?_ ?_ ?_ ?_
            · simp [upd_at, hy2, shs, byIV]
            · simp [upd_at, hL3]
            · intro n hn; simp [upd_at, hUp n hn]
            · simp [EqL, rnF, ren, put, hy2, shs, byIV_len, ivT_len]; omega
          · clear hU6 hUg hUp hL0 hL3
            rintro ⟨k, hk⟩
            have hyk := hyl2 k
            have hsk := shs_len (x.kids.take k)
            have hsk2 := wtT_takeP x.kids k
            have hU8 : ofU (fun l => l == Lb.par 0) [(Lb.gen 0, ⟨1, immE (xs ++ byIV (y2 k))⟩), (Lb.loc 3, ⟨4, [x.cs.map IV.av1]⟩)] (.loc 8) = .unused := by rw [ofU_at (by simp)]; rfl
            have hUg : ∀ d, ofU (fun l => l == Lb.par 0) [(Lb.gen 0, ⟨1, immE (xs ++ byIV (y2 k))⟩), (Lb.loc 3, ⟨4, [x.cs.map IV.av1]⟩)] (.gen (d + 1)) = .unused := fun d => by rw [ofU_at (by simp)]; rfl
            have hUp : ∀ d, d ≠ 0 → ofU (fun l => l == Lb.par 0) [(Lb.gen 0, ⟨1, immE (xs ++ byIV (y2 k))⟩), (Lb.loc 3, ⟨4, [x.cs.map IV.av1]⟩)] (.par d) = .unused := fun d hd => by rw [ofU_at (by simp)]; simp [hd]
            have hL0 : ofU (fun l => l == Lb.par 0) [(Lb.gen 0, ⟨1, immE (xs ++ byIV (y2 k))⟩), (Lb.loc 3, ⟨4, [x.cs.map IV.av1]⟩)] (.gen 0) = .live ⟨1, immE (xs ++ byIV (y2 k))⟩ := ofU_live.2 (by simp [ofH, upd_at])
            have hL3 : ofU (fun l => l == Lb.par 0) [(Lb.gen 0, ⟨1, immE (xs ++ byIV (y2 k))⟩), (Lb.loc 3, ⟨4, [x.cs.map IV.av1]⟩)] (.loc 3) = .live ⟨4, [x.cs.map IV.av1]⟩ := ofU_live.2 (by simp [ofH, upd_at])
            simp only
            generalize ofU (fun l => l == Lb.par 0) [(Lb.gen 0, ⟨1, immE (xs ++ byIV (y2 k))⟩), (Lb.loc 3, ⟨4, [x.cs.map IV.av1]⟩)] = H1 at *
            simp only [↓aX, evp, evq, evl, boxK, stillV, binV, AV.cells, mP, loadV, storeV, ldV, AV.stb, AV.one, IV.av1, Lb.app, Lb.fresh, reduceCtorEq, ptrL, appL, fillA, chunks, ivs, AV.iv, mkE, if_false, if_true, List.not_mem_nil, forall_eq, beq_self_eq_true, List.isEmpty_nil, Nat.reduceEqDiff, Nat.reduceLT, Nat.reduceLeDiff, Nat.reduceAdd, Nat.reduceMul, Int.reduceToNat, Int.reduceLE, Int.reduceLT, List.length_map]
            by_cases hlt2 : k < x.kids.length
            · rw [show decide (((k : Nat) : Int) < ((x.kids.length : Nat) : Int)) = true by simpa using hlt2]
              obtain ⟨t, ht2⟩ : ∃ t, x.kids[k]? = some t := ⟨_, List.getElem?_eq_getElem hlt2⟩
              have hw : IntKind.i64.wrap ((k : Int) + 1) = ((k + 1 : Nat) : Int) := wrap64 (by omega) (by omega)
              have hwt2 := wtT_memP ht2
              have hnext : y2 (k + 1) = y2 k ++ t.sh := by rw [hy2]; simp only [shs_take ht2]; simp
              simp only [↓aX, evp, evq, evl, boxK, stillV, binV, AV.cells, mP, loadV, storeV, ldV, AV.stb, AV.one, IV.av1, Lb.app, Lb.fresh, reduceCtorEq, ptrL, appL, fillA, chunks, ivs, AV.iv, mkE, if_false, if_true, List.not_mem_nil, forall_eq, beq_self_eq_true, List.isEmpty_nil, Nat.reduceEqDiff, Nat.reduceLT, Nat.reduceLeDiff, Nat.reduceAdd, Nat.reduceMul, Int.reduceToNat, Int.reduceLE, Int.reduceLT, ivT_get, ht2, elszT, Tree.cells_eq, Tree.cs, Option.map_some]
              refine ⟨hU8, ?_⟩
              refine callT_grw (l := .gen 0) (N := .gen 60) (ih t (xs ++ byIV (y2 k)) (by omega) (by simp [byIV_len]; omega)) (by simp [rens, ren, atL, Tree.av]) (by simp [upd_at, hL0]) (by simp [upd_at, hUg]) (by simp [Lb.fresh]) ?_ ?_
              · simp only [↓aX, evp, evq, evl, boxK, stillV, binV, AV.cells, mP, loadV, storeV, ldV, AV.stb, AV.one, IV.av1, Lb.app, Lb.fresh, reduceCtorEq, ptrL, appL, fillA, chunks, ivs, AV.iv, mkE, if_false, if_true, List.not_mem_nil, forall_eq, beq_self_eq_true, List.isEmpty_nil, Nat.reduceEqDiff, Nat.reduceLT, Nat.reduceLeDiff, Nat.reduceAdd, Nat.reduceMul, Int.reduceToNat, Int.reduceLE, Int.reduceLT, hw]
                refine ⟨⟨k + 1, hlt2⟩, by simp only; omega, [(.gen 0, .gen 60)], ?_⟩
                refine we_pt (x := x) ?_ ?_ ?_ ?_
                · simp [upd_at, hnext, byIV]
                · simp [upd_at, hL3]
                · intro n hn; simp [upd_at, hUp n hn]
                · simp [EqL, rnF, ren, put, hnext, byIV_len]
              · simp only [↓aX, evp, evq, evl, boxK, stillV, binV, AV.cells, mP, loadV, storeV, ldV, AV.stb, AV.one, IV.av1, Lb.app, Lb.fresh, reduceCtorEq, ptrL, appL, fillA, chunks, ivs, AV.iv, mkE, if_false, if_true, List.not_mem_nil, forall_eq, beq_self_eq_true, List.isEmpty_nil, Nat.reduceEqDiff, Nat.reduceLT, Nat.reduceLeDiff, Nat.reduceAdd, Nat.reduceMul, Int.reduceToNat, Int.reduceLE, Int.reduceLT, hw]
                refine ⟨⟨k + 1, hlt2⟩, by simp only; omega, [(.gen 0, .gen 0)], ?_⟩
                refine we_pt (x := x) ?_ ?_ ?_ ?_
                · simp [upd_at, hnext, byIV]
                · simp [upd_at, hL3]
                · intro n hn; simp [upd_at, hUp n hn]
                · simp [EqL, rnF, ren, put, hnext, byIV_len]
            · have hkk : x.kids.take k = x.kids := List.take_of_length_le (by omega)
              rw [show decide (((k : Nat) : Int) < ((x.kids.length : Nat) : Int)) = false by simpa using hlt2]
              rw [hkk] at hyk
              simp only [↓aX, evp, evq, evl, boxK, stillV, binV, AV.cells, mP, loadV, storeV, ldV, AV.stb, AV.one, IV.av1, Lb.app, Lb.fresh, reduceCtorEq, ptrL, appL, fillA, chunks, ivs, AV.iv, mkE, if_false, if_true, List.not_mem_nil, forall_eq, beq_self_eq_true, List.isEmpty_nil, Nat.reduceEqDiff, Nat.reduceLT, Nat.reduceLeDiff, Nat.reduceAdd, Nat.reduceMul, Int.reduceToNat, Int.reduceLE, Int.reduceLT, hL3, hcs]
              refine ⟨by decide +kernel, ?_⟩
              rw [app_str (xs := xs ++ byIV (y2 k)) (t := [60, 47]) hL0 rfl (by simp [byIV_len]; omega) (by simp [Lb.app, Lb.fresh]) (by simp [Lb.app, Lb.fresh, hUg])]
              simp only [↓aX, evp, evq, evl, boxK, stillV, binV, AV.cells, mP, loadV, storeV, ldV, AV.stb, AV.one, IV.av1, Lb.app, Lb.fresh, reduceCtorEq, ptrL, appL, fillA, chunks, ivs, AV.iv, mkE, if_false, if_true, List.not_mem_nil, forall_eq, beq_self_eq_true, List.isEmpty_nil, Nat.reduceEqDiff, Nat.reduceLT, Nat.reduceLeDiff, Nat.reduceAdd, Nat.reduceMul, Int.reduceToNat, Int.reduceLE, Int.reduceLT, Lb.app, Lb.fresh, hL3, hcs]
              rw [app_str (xs := xs ++ byIV (y2 k) ++ byIV [60, 47]) (by simp [upd_at]) (by simp [byIV_len, Nat.add_assoc]) (by simp [byIV_len]; omega) (by simp [Lb.app, Lb.fresh]) (by simp [Lb.app, Lb.fresh, upd_at, hUg])]
              simp only [↓aX, evp, evq, evl, boxK, stillV, binV, AV.cells, mP, loadV, storeV, ldV, AV.stb, AV.one, IV.av1, Lb.app, Lb.fresh, reduceCtorEq, ptrL, appL, fillA, chunks, ivs, AV.iv, mkE, if_false, if_true, List.not_mem_nil, forall_eq, beq_self_eq_true, List.isEmpty_nil, Nat.reduceEqDiff, Nat.reduceLT, Nat.reduceLeDiff, Nat.reduceAdd, Nat.reduceMul, Int.reduceToNat, Int.reduceLE, Int.reduceLT, Lb.app, Lb.fresh]
              rw [app_byteZ (z := 62) 62 rfl (xs := xs ++ byIV (y2 k) ++ byIV [60, 47] ++ byIV x.s) (by simp [upd_at]) (by simp [byIV_len, Nat.add_assoc]) (by simp [byIV_len]; omega) (by simp [Lb.app, Lb.fresh]) (by simp [Lb.app, Lb.fresh, upd_at, hUg])]
              simp only [↓aX, evp, evq, evl, boxK, stillV, binV, AV.cells, mP, loadV, storeV, ldV, AV.stb, AV.one, IV.av1, Lb.app, Lb.fresh, reduceCtorEq, ptrL, appL, fillA, chunks, ivs, AV.iv, mkE, if_false, if_true, List.not_mem_nil, forall_eq, beq_self_eq_true, List.isEmpty_nil, Nat.reduceEqDiff, Nat.reduceLT, Nat.reduceLeDiff, Nat.reduceAdd, Nat.reduceMul, Int.reduceToNat, Int.reduceLE, Int.reduceLT, Lb.app, Lb.fresh, ret1_r]
              have hfin : x.sh = y2 k ++ [60, 47] ++ x.s ++ [62] := by rw [hsl, endS_ne _ hk0, hy2]; simp only [hkk, hy0]; simp
              refine ⟨by rintro l (rfl | rfl); exact .inl rfl; exact .inr rfl, by rintro l (rfl | rfl); exact .inl rfl; exact .inr rfl, by rintro l (rfl | rfl); exact .inl rfl; exact .inr rfl, .gen 68, ?_, ?_⟩
              · simp [hfin, byIV_len]; omega
              · simp [upd_at, hfin, byIV]
end
end Go.Am
