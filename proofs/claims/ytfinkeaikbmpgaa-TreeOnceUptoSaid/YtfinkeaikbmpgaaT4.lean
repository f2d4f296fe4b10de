/- Texts and names that are good. -/
import Derived.Test.YtfinkeaikbmpgaaT2
set_option linter.defProp false
set_option linter.unnecessarySimpa false
set_option linter.unusedVariables false
set_option linter.unusedSimpArgs false
namespace Go.Am
open Go Go.RowKit

def plainC (c : UInt8) : Bool := !((((c.toNat : Int) != 10)) && (decide ((c.toNat : Int) < 32) || decide ((c.toNat : Int) > 126)))
def plain (s : Bs) : Bool := s.all plainC && decide ((s.length : Int) ≤ 40)

def cPlain : AC :=
(.seq
  (.reg [
    ⟨(some 2), none, (.mov (.c (.bool false)))⟩])
(.seq
  (.seq
    (.reg [
      ⟨(some 4), none, (.mov (.t 0))⟩,
      ⟨(some 5), none, (.lens (.t 4))⟩,
      ⟨(some 6), none, (.mov (.c (.int .i64 0)))⟩])
  (.block 0
    (.loop
      (.seq
        (.reg [
          ⟨(some 7), none, (.bin .lss (.t 6) (.t 5))⟩])
      (.seq
        (.cond (.t 7)
          .skip
          (.exit 0))
      (.seq
        (.block 1
          (.seq
            (.reg [
              ⟨(some 8), none, (.mov (.t 6))⟩,
              ⟨(some 3), none, (.mov (.t 8))⟩])
          (.seq
            (.reg [
              ⟨(some 9), none, (.mov (.t 0))⟩,
              ⟨(some 10), none, (.mov (.t 3))⟩,
              ⟨(some 11), none, (.ixs (.t 9) (.t 10))⟩,
              ⟨(some 12), none, (.bin .neq (.t 11) (.c (.int .u8 10)))⟩,
              ⟨(some 13), none, (.mov (.t 12))⟩,
              ⟨(some 14), (some (13, true)), (.mov (.t 0))⟩,
              ⟨(some 15), (some (13, true)), (.mov (.t 3))⟩,
              ⟨(some 16), (some (13, true)), (.ixs (.t 14) (.t 15))⟩,
              ⟨(some 17), (some (13, true)), (.bin .lss (.t 16) (.c (.int .u8 32)))⟩,
              ⟨(some 18), (some (13, true)), (.mov (.t 17))⟩,
              ⟨(some 19), (some (18, false)), (.mov (.t 0))⟩,
              ⟨(some 20), (some (18, false)), (.mov (.t 3))⟩,
              ⟨(some 21), (some (18, false)), (.ixs (.t 19) (.t 20))⟩,
              ⟨(some 22), (some (18, false)), (.bin .gtr (.t 21) (.c (.int .u8 126)))⟩,
              ⟨(some 23), (some (13, true)), (.pick (.t 18) (.c (.bool true)) (.t 22))⟩,
              ⟨(some 24), none, (.pick (.t 13) (.t 23) (.c (.bool false)))⟩])
          (.cond (.t 24)
            (.seq
              (.reg [
                ⟨(some 2), none, (.mov (.c (.bool false)))⟩])
            .ret)
            .skip))))
      (.reg [
        ⟨(some 25), none, (.bin .add (.t 6) (.c (.int .i64 1)))⟩,
        ⟨(some 6), none, (.mov (.t 25))⟩])))))))
(.seq
  (.reg [
    ⟨(some 26), none, (.mov (.t 0))⟩,
    ⟨(some 27), none, (.lens (.t 26))⟩,
    ⟨(some 28), none, (.bin .leq (.t 27) (.c (.int .i64 40)))⟩,
    ⟨(some 2), none, (.mov (.t 28))⟩])
.ret)))

def ePlain (s : Bs) (i : Nat) : Env := put (put (put Env.any 0 (.str s)) 5 (.int .i64 s.length)) 6 (.int .i64 i)

theorem all_take {p : UInt8 → Bool} {s : Bs} {i : Nat} {c : UInt8} (h : (s.take i).all p = true) (hc : s[i]? = some c) (hp : p c = true) : (s.take (i + 1)).all p = true := by
  rw [List.take_add_one, hc]; simp [h, hp]

theorem all_not {p : UInt8 → Bool} {s : Bs} {i : Nat} {c : UInt8} (hc : s[i]? = some c) (hp : p c = false) : s.all p = false := by
  cases h : s.all p with
  | false => rfl
  | true =>
    have := List.all_eq_true.1 h c (List.mem_of_getElem? hc)
    rw [hp] at this; exact this.symm

theorem pPlain {P : Program} {G : Nat → Option (List IV)} {f : Nat} (hF : compF P G f = some (29, [(none, 2)], cPlain.bare)) (s : Bs) (hx : s.length ≤ B) :
    PureC P G f [.str s] (.bool (plain s)) := by
  refine pure_of_go hF (by simp) (by simp [lbss, AV.lbs]) (by simp [AV.lbs]) ?_
  unfold cPlain
  simp only [↓evs, evp, boxK, ↓a1_still, stillV, ev, argE, List.getD_cons_zero, List.getD_cons_succ, Nat.reduceEqDiff, if_false, if_true, Nat.reduceLT, Nat.reduceLeDiff, Nat.reduceAdd, Nat.reduceMul, true_and, and_true, List.length_map, binV, AV.cells, List.length_cons, List.length_nil, upd_at, Lb.loc.injEq, ↓af_still, ↓af_load, ↓af_store, ↓af_app, ↓af_new, ↓af_box, loadV, storeV, ldV, List.getElem?_cons_zero, List.getElem?_cons_succ, Option.bind_some, Option.map_some, List.map_cons, List.map_nil, Int.natCast_nonneg, Int.toNat_natCast, AV.stb, AV.one, List.all_cons, List.all_nil, Bool.and_self, Bool.and_true, Bool.true_and, List.take_succ_cons, List.take_zero, List.drop_succ_cons, List.drop_zero, List.cons_append, List.nil_append, List.append_nil, List.set_cons_zero, IV.av1, Lb.app, Lb.fresh, reduceCtorEq, Bool.false_eq_true, List.take, List.drop, List.mem_cons, List.not_mem_nil, or_false, ptrL, appL, forall_eq, false_implies, implies_true, ev, Hp.none, Nat.le_refl, List.set_cons_succ, fillA, chunks, ivs, AV.iv, mkE, List.replicate_one, List.flatten_cons, List.flatten_nil, Nat.zero_mul, Nat.zero_add, Nat.mul_one]
  refine loop_intro (σ := { i : Nat // i ≤ s.length ∧ (s.take i).all plainC = true }) (fun q => ePlain s q.1) (fun _ => Hp.none) (fun q => s.length - q.1) ⟨0, by simp⟩ id ?_ ?_
  · refine .none ?_ ?_
    · exact we_put rfl (we_put rfl (we_put rfl (we_any _ _)))
    · exact wm_put (by simp [AV.lbs]) (wm_put (by simp [AV.lbs]) (wm_put (by simp [AV.lbs]) (wm_any _)))
  · rintro ⟨i, hi, hs⟩
    simp only [↓evs, evp, boxK, ↓a1_still, stillV, ev, argE, List.getD_cons_zero, List.getD_cons_succ, Nat.reduceEqDiff, if_false, if_true, Nat.reduceLT, Nat.reduceLeDiff, Nat.reduceAdd, Nat.reduceMul, true_and, and_true, List.length_map, binV, AV.cells, List.length_cons, List.length_nil, upd_at, Lb.loc.injEq, ↓af_still, ↓af_load, ↓af_store, ↓af_app, ↓af_new, ↓af_box, loadV, storeV, ldV, List.getElem?_cons_zero, List.getElem?_cons_succ, Option.bind_some, Option.map_some, List.map_cons, List.map_nil, Int.natCast_nonneg, Int.toNat_natCast, AV.stb, AV.one, List.all_cons, List.all_nil, Bool.and_self, Bool.and_true, Bool.true_and, List.take_succ_cons, List.take_zero, List.drop_succ_cons, List.drop_zero, List.cons_append, List.nil_append, List.append_nil, List.set_cons_zero, IV.av1, Lb.app, Lb.fresh, reduceCtorEq, Bool.false_eq_true, List.take, List.drop, List.mem_cons, List.not_mem_nil, or_false, ptrL, appL, forall_eq, false_implies, implies_true, ev, Hp.none, Nat.le_refl, List.set_cons_succ, fillA, chunks, ivs, AV.iv, mkE, List.replicate_one, List.flatten_cons, List.flatten_nil, Nat.zero_mul, Nat.zero_add, Nat.mul_one, ePlain]
    by_cases hlt : i < s.length
    · rw [show decide ((i : Int) < (s.length : Int)) = true by simpa using hlt]
      obtain ⟨c, hc⟩ : ∃ c, s[i]? = some c := ⟨_, List.getElem?_eq_getElem hlt⟩
      have hw : IntKind.i64.wrap ((i : Int) + 1) = ((i + 1 : Nat) : Int) := wrap64 (by omega) (by unfold B at hx; omega)
      have next : plainC c = true → ∃ q : { i : Nat // i ≤ s.length ∧ (s.take i).all plainC = true }, q.1 = i + 1 := fun hp => ⟨⟨i + 1, hlt, all_take hs hc hp⟩, rfl⟩
      simp only [↓evs, evp, boxK, ↓a1_still, stillV, ev, argE, List.getD_cons_zero, List.getD_cons_succ, Nat.reduceEqDiff, if_false, if_true, Nat.reduceLT, Nat.reduceLeDiff, Nat.reduceAdd, Nat.reduceMul, true_and, and_true, List.length_map, binV, AV.cells, List.length_cons, List.length_nil, upd_at, Lb.loc.injEq, ↓af_still, ↓af_load, ↓af_store, ↓af_app, ↓af_new, ↓af_box, loadV, storeV, ldV, List.getElem?_cons_zero, List.getElem?_cons_succ, Option.bind_some, Option.map_some, List.map_cons, List.map_nil, Int.natCast_nonneg, Int.toNat_natCast, AV.stb, AV.one, List.all_cons, List.all_nil, Bool.and_self, Bool.and_true, Bool.true_and, List.take_succ_cons, List.take_zero, List.drop_succ_cons, List.drop_zero, List.cons_append, List.nil_append, List.append_nil, List.set_cons_zero, IV.av1, Lb.app, Lb.fresh, reduceCtorEq, Bool.false_eq_true, List.take, List.drop, List.mem_cons, List.not_mem_nil, or_false, ptrL, appL, forall_eq, false_implies, implies_true, ev, Hp.none, Nat.le_refl, List.set_cons_succ, fillA, chunks, ivs, AV.iv, mkE, List.replicate_one, List.flatten_cons, List.flatten_nil, Nat.zero_mul, Nat.zero_add, Nat.mul_one, hc]
      cases h1 : ((c.toNat : Int) != 10) with
      | false =>
        obtain ⟨q, hq⟩ := next (by simp [plainC, h1])
        simp only [↓evs, evp, boxK, ↓a1_still, stillV, ev, argE, List.getD_cons_zero, List.getD_cons_succ, Nat.reduceEqDiff, if_false, if_true, Nat.reduceLT, Nat.reduceLeDiff, Nat.reduceAdd, Nat.reduceMul, true_and, and_true, List.length_map, binV, AV.cells, List.length_cons, List.length_nil, upd_at, Lb.loc.injEq, ↓af_still, ↓af_load, ↓af_store, ↓af_app, ↓af_new, ↓af_box, loadV, storeV, ldV, List.getElem?_cons_zero, List.getElem?_cons_succ, Option.bind_some, Option.map_some, List.map_cons, List.map_nil, Int.natCast_nonneg, Int.toNat_natCast, AV.stb, AV.one, List.all_cons, List.all_nil, Bool.and_self, Bool.and_true, Bool.true_and, List.take_succ_cons, List.take_zero, List.drop_succ_cons, List.drop_zero, List.cons_append, List.nil_append, List.append_nil, List.set_cons_zero, IV.av1, Lb.app, Lb.fresh, reduceCtorEq, Bool.false_eq_true, List.take, List.drop, List.mem_cons, List.not_mem_nil, or_false, ptrL, appL, forall_eq, false_implies, implies_true, ev, Hp.none, Nat.le_refl, List.set_cons_succ, fillA, chunks, ivs, AV.iv, mkE, List.replicate_one, List.flatten_cons, List.flatten_nil, Nat.zero_mul, Nat.zero_add, Nat.mul_one, hc, hw]
        refine ⟨q, by omega, id, .none ?_ ?_⟩
        · rw [hq]; exact we_put rfl (we_put rfl (we_put rfl (we_any _ _)))
        · exact wm_put (by simp [AV.lbs]) (wm_put (by simp [AV.lbs]) (wm_put (by simp [AV.lbs]) (wm_any _)))
      | true =>
        simp only [↓evs, evp, boxK, ↓a1_still, stillV, ev, argE, List.getD_cons_zero, List.getD_cons_succ, Nat.reduceEqDiff, if_false, if_true, Nat.reduceLT, Nat.reduceLeDiff, Nat.reduceAdd, Nat.reduceMul, true_and, and_true, List.length_map, binV, AV.cells, List.length_cons, List.length_nil, upd_at, Lb.loc.injEq, ↓af_still, ↓af_load, ↓af_store, ↓af_app, ↓af_new, ↓af_box, loadV, storeV, ldV, List.getElem?_cons_zero, List.getElem?_cons_succ, Option.bind_some, Option.map_some, List.map_cons, List.map_nil, Int.natCast_nonneg, Int.toNat_natCast, AV.stb, AV.one, List.all_cons, List.all_nil, Bool.and_self, Bool.and_true, Bool.true_and, List.take_succ_cons, List.take_zero, List.drop_succ_cons, List.drop_zero, List.cons_append, List.nil_append, List.append_nil, List.set_cons_zero, IV.av1, Lb.app, Lb.fresh, reduceCtorEq, Bool.false_eq_true, List.take, List.drop, List.mem_cons, List.not_mem_nil, or_false, ptrL, appL, forall_eq, false_implies, implies_true, ev, Hp.none, Nat.le_refl, List.set_cons_succ, fillA, chunks, ivs, AV.iv, mkE, List.replicate_one, List.flatten_cons, List.flatten_nil, Nat.zero_mul, Nat.zero_add, Nat.mul_one, hc]
        cases h2 : decide ((c.toNat : Int) < 32) with
        | true =>
          simp only [↓evs, evp, boxK, ↓a1_still, stillV, ev, argE, List.getD_cons_zero, List.getD_cons_succ, Nat.reduceEqDiff, if_false, if_true, Nat.reduceLT, Nat.reduceLeDiff, Nat.reduceAdd, Nat.reduceMul, true_and, and_true, List.length_map, binV, AV.cells, List.length_cons, List.length_nil, upd_at, Lb.loc.injEq, ↓af_still, ↓af_load, ↓af_store, ↓af_app, ↓af_new, ↓af_box, loadV, storeV, ldV, List.getElem?_cons_zero, List.getElem?_cons_succ, Option.bind_some, Option.map_some, List.map_cons, List.map_nil, Int.natCast_nonneg, Int.toNat_natCast, AV.stb, AV.one, List.all_cons, List.all_nil, Bool.and_self, Bool.and_true, Bool.true_and, List.take_succ_cons, List.take_zero, List.drop_succ_cons, List.drop_zero, List.cons_append, List.nil_append, List.append_nil, List.set_cons_zero, IV.av1, Lb.app, Lb.fresh, reduceCtorEq, Bool.false_eq_true, List.take, List.drop, List.mem_cons, List.not_mem_nil, or_false, ptrL, appL, forall_eq, false_implies, implies_true, ev, Hp.none, Nat.le_refl, List.set_cons_succ, fillA, chunks, ivs, AV.iv, mkE, List.replicate_one, List.flatten_cons, List.flatten_nil, Nat.zero_mul, Nat.zero_add, Nat.mul_one, hc]
          rw [plain, all_not hc (by simp [plainC, h1, h2])]; rfl
        | false =>
          simp only [↓evs, evp, boxK, ↓a1_still, stillV, ev, argE, List.getD_cons_zero, List.getD_cons_succ, Nat.reduceEqDiff, if_false, if_true, Nat.reduceLT, Nat.reduceLeDiff, Nat.reduceAdd, Nat.reduceMul, true_and, and_true, List.length_map, binV, AV.cells, List.length_cons, List.length_nil, upd_at, Lb.loc.injEq, ↓af_still, ↓af_load, ↓af_store, ↓af_app, ↓af_new, ↓af_box, loadV, storeV, ldV, List.getElem?_cons_zero, List.getElem?_cons_succ, Option.bind_some, Option.map_some, List.map_cons, List.map_nil, Int.natCast_nonneg, Int.toNat_natCast, AV.stb, AV.one, List.all_cons, List.all_nil, Bool.and_self, Bool.and_true, Bool.true_and, List.take_succ_cons, List.take_zero, List.drop_succ_cons, List.drop_zero, List.cons_append, List.nil_append, List.append_nil, List.set_cons_zero, IV.av1, Lb.app, Lb.fresh, reduceCtorEq, Bool.false_eq_true, List.take, List.drop, List.mem_cons, List.not_mem_nil, or_false, ptrL, appL, forall_eq, false_implies, implies_true, ev, Hp.none, Nat.le_refl, List.set_cons_succ, fillA, chunks, ivs, AV.iv, mkE, List.replicate_one, List.flatten_cons, List.flatten_nil, Nat.zero_mul, Nat.zero_add, Nat.mul_one, hc]
          cases h3 : decide ((c.toNat : Int) > 126) with
          | true =>
            simp only [↓evs, evp, boxK, ↓a1_still, stillV, ev, argE, List.getD_cons_zero, List.getD_cons_succ, Nat.reduceEqDiff, if_false, if_true, Nat.reduceLT, Nat.reduceLeDiff, Nat.reduceAdd, Nat.reduceMul, true_and, and_true, List.length_map, binV, AV.cells, List.length_cons, List.length_nil, upd_at, Lb.loc.injEq, ↓af_still, ↓af_load, ↓af_store, ↓af_app, ↓af_new, ↓af_box, loadV, storeV, ldV, List.getElem?_cons_zero, List.getElem?_cons_succ, Option.bind_some, Option.map_some, List.map_cons, List.map_nil, Int.natCast_nonneg, Int.toNat_natCast, AV.stb, AV.one, List.all_cons, List.all_nil, Bool.and_self, Bool.and_true, Bool.true_and, List.take_succ_cons, List.take_zero, List.drop_succ_cons, List.drop_zero, List.cons_append, List.nil_append, List.append_nil, List.set_cons_zero, IV.av1, Lb.app, Lb.fresh, reduceCtorEq, Bool.false_eq_true, List.take, List.drop, List.mem_cons, List.not_mem_nil, or_false, ptrL, appL, forall_eq, false_implies, implies_true, ev, Hp.none, Nat.le_refl, List.set_cons_succ, fillA, chunks, ivs, AV.iv, mkE, List.replicate_one, List.flatten_cons, List.flatten_nil, Nat.zero_mul, Nat.zero_add, Nat.mul_one, hc]
            rw [plain, all_not hc (by simp [plainC, h1, h2, h3])]; rfl
          | false =>
            obtain ⟨q, hq⟩ := next (by simp [plainC, h1, h2, h3])
            simp only [↓evs, evp, boxK, ↓a1_still, stillV, ev, argE, List.getD_cons_zero, List.getD_cons_succ, Nat.reduceEqDiff, if_false, if_true, Nat.reduceLT, Nat.reduceLeDiff, Nat.reduceAdd, Nat.reduceMul, true_and, and_true, List.length_map, binV, AV.cells, List.length_cons, List.length_nil, upd_at, Lb.loc.injEq, ↓af_still, ↓af_load, ↓af_store, ↓af_app, ↓af_new, ↓af_box, loadV, storeV, ldV, List.getElem?_cons_zero, List.getElem?_cons_succ, Option.bind_some, Option.map_some, List.map_cons, List.map_nil, Int.natCast_nonneg, Int.toNat_natCast, AV.stb, AV.one, List.all_cons, List.all_nil, Bool.and_self, Bool.and_true, Bool.true_and, List.take_succ_cons, List.take_zero, List.drop_succ_cons, List.drop_zero, List.cons_append, List.nil_append, List.append_nil, List.set_cons_zero, IV.av1, Lb.app, Lb.fresh, reduceCtorEq, Bool.false_eq_true, List.take, List.drop, List.mem_cons, List.not_mem_nil, or_false, ptrL, appL, forall_eq, false_implies, implies_true, ev, Hp.none, Nat.le_refl, List.set_cons_succ, fillA, chunks, ivs, AV.iv, mkE, List.replicate_one, List.flatten_cons, List.flatten_nil, Nat.zero_mul, Nat.zero_add, Nat.mul_one, hc, hw]
            refine ⟨q, by omega, id, .none ?_ ?_⟩
            · rw [hq]; exact we_put rfl (we_put rfl (we_put rfl (we_any _ _)))
            · exact wm_put (by simp [AV.lbs]) (wm_put (by simp [AV.lbs]) (wm_put (by simp [AV.lbs]) (wm_any _)))
    · rw [show decide ((i : Int) < (s.length : Int)) = false by simpa using hlt]
      simp only [↓evs, evp, boxK, ↓a1_still, stillV, ev, argE, List.getD_cons_zero, List.getD_cons_succ, Nat.reduceEqDiff, if_false, if_true, Nat.reduceLT, Nat.reduceLeDiff, Nat.reduceAdd, Nat.reduceMul, true_and, and_true, List.length_map, binV, AV.cells, List.length_cons, List.length_nil, upd_at, Lb.loc.injEq, ↓af_still, ↓af_load, ↓af_store, ↓af_app, ↓af_new, ↓af_box, loadV, storeV, ldV, List.getElem?_cons_zero, List.getElem?_cons_succ, Option.bind_some, Option.map_some, List.map_cons, List.map_nil, Int.natCast_nonneg, Int.toNat_natCast, AV.stb, AV.one, List.all_cons, List.all_nil, Bool.and_self, Bool.and_true, Bool.true_and, List.take_succ_cons, List.take_zero, List.drop_succ_cons, List.drop_zero, List.cons_append, List.nil_append, List.append_nil, List.set_cons_zero, IV.av1, Lb.app, Lb.fresh, reduceCtorEq, Bool.false_eq_true, List.take, List.drop, List.mem_cons, List.not_mem_nil, or_false, ptrL, appL, forall_eq, false_implies, implies_true, ev, Hp.none, Nat.le_refl, List.set_cons_succ, fillA, chunks, ivs, AV.iv, mkE, List.replicate_one, List.flatten_cons, List.flatten_nil, Nat.zero_mul, Nat.zero_add, Nat.mul_one]
      have : s.take i = s := List.take_of_length_le (by omega)
      rw [plain, ← this, hs, this]; rfl

def nameC (c : UInt8) : Bool := !(decide ((c.toNat : Int) < 97) || decide ((c.toNat : Int) > 122))
def named (s : Bs) : Bool := s.all nameC && (decide ((s.length : Int) ≥ 1) && decide ((s.length : Int) ≤ 8))

def cNamed : AC :=
(.seq
  (.reg [
    ⟨(some 2), none, (.mov (.c (.bool false)))⟩])
(.seq
  (.seq
    (.reg [
      ⟨(some 4), none, (.mov (.t 0))⟩,
      ⟨(some 5), none, (.lens (.t 4))⟩,
      ⟨(some 6), none, (.mov (.c (.int .i64 0)))⟩])
  (.block 0
    (.loop
      (.seq
        (.reg [
          ⟨(some 7), none, (.bin .lss (.t 6) (.t 5))⟩])
      (.seq
        (.cond (.t 7)
          .skip
          (.exit 0))
      (.seq
        (.block 1
          (.seq
            (.reg [
              ⟨(some 8), none, (.mov (.t 6))⟩,
              ⟨(some 3), none, (.mov (.t 8))⟩])
          (.seq
            (.reg [
              ⟨(some 9), none, (.mov (.t 0))⟩,
              ⟨(some 10), none, (.mov (.t 3))⟩,
              ⟨(some 11), none, (.ixs (.t 9) (.t 10))⟩,
              ⟨(some 12), none, (.bin .lss (.t 11) (.c (.int .u8 97)))⟩,
              ⟨(some 13), none, (.mov (.t 12))⟩,
              ⟨(some 14), (some (13, false)), (.mov (.t 0))⟩,
              ⟨(some 15), (some (13, false)), (.mov (.t 3))⟩,
              ⟨(some 16), (some (13, false)), (.ixs (.t 14) (.t 15))⟩,
              ⟨(some 17), (some (13, false)), (.bin .gtr (.t 16) (.c (.int .u8 122)))⟩,
              ⟨(some 18), none, (.pick (.t 13) (.c (.bool true)) (.t 17))⟩])
          (.cond (.t 18)
            (.seq
              (.reg [
                ⟨(some 2), none, (.mov (.c (.bool false)))⟩])
            .ret)
            .skip))))
      (.reg [
        ⟨(some 19), none, (.bin .add (.t 6) (.c (.int .i64 1)))⟩,
        ⟨(some 6), none, (.mov (.t 19))⟩])))))))
(.seq
  (.reg [
    ⟨(some 20), none, (.mov (.t 0))⟩,
    ⟨(some 21), none, (.lens (.t 20))⟩,
    ⟨(some 22), none, (.bin .geq (.t 21) (.c (.int .i64 1)))⟩,
    ⟨(some 23), none, (.mov (.t 22))⟩,
    ⟨(some 24), (some (23, true)), (.mov (.t 0))⟩,
    ⟨(some 25), (some (23, true)), (.lens (.t 24))⟩,
    ⟨(some 26), (some (23, true)), (.bin .leq (.t 25) (.c (.int .i64 8)))⟩,
    ⟨(some 27), none, (.pick (.t 23) (.t 26) (.c (.bool false)))⟩,
    ⟨(some 2), none, (.mov (.t 27))⟩])
.ret)))

theorem pNamed {P : Program} {G : Nat → Option (List IV)} {f : Nat} (hF : compF P G f = some (28, [(none, 2)], cNamed.bare)) (s : Bs) (hx : s.length ≤ B) :
    PureC P G f [.str s] (.bool (named s)) := by
  refine pure_of_go hF (by simp) (by simp [lbss, AV.lbs]) (by simp [AV.lbs]) ?_
  unfold cNamed
  simp only [↓evs, evp, boxK, ↓a1_still, stillV, ev, argE, List.getD_cons_zero, List.getD_cons_succ, Nat.reduceEqDiff, if_false, if_true, Nat.reduceLT, Nat.reduceLeDiff, Nat.reduceAdd, Nat.reduceMul, true_and, and_true, List.length_map, binV, AV.cells, List.length_cons, List.length_nil, upd_at, Lb.loc.injEq, ↓af_still, ↓af_load, ↓af_store, ↓af_app, ↓af_new, ↓af_box, loadV, storeV, ldV, List.getElem?_cons_zero, List.getElem?_cons_succ, Option.bind_some, Option.map_some, List.map_cons, List.map_nil, Int.natCast_nonneg, Int.toNat_natCast, AV.stb, AV.one, List.all_cons, List.all_nil, Bool.and_self, Bool.and_true, Bool.true_and, List.take_succ_cons, List.take_zero, List.drop_succ_cons, List.drop_zero, List.cons_append, List.nil_append, List.append_nil, List.set_cons_zero, IV.av1, Lb.app, Lb.fresh, reduceCtorEq, Bool.false_eq_true, List.take, List.drop, List.mem_cons, List.not_mem_nil, or_false, ptrL, appL, forall_eq, false_implies, implies_true, ev, Hp.none, Nat.le_refl, List.set_cons_succ, fillA, chunks, ivs, AV.iv, mkE, List.replicate_one, List.flatten_cons, List.flatten_nil, Nat.zero_mul, Nat.zero_add, Nat.mul_one]
  refine loop_intro (σ := { i : Nat // i ≤ s.length ∧ (s.take i).all nameC = true }) (fun q => ePlain s q.1) (fun _ => Hp.none) (fun q => s.length - q.1) ⟨0, by simp⟩ id ?_ ?_
  · refine .none ?_ ?_
    · exact we_put rfl (we_put rfl (we_put rfl (we_any _ _)))
    · exact wm_put (by simp [AV.lbs]) (wm_put (by simp [AV.lbs]) (wm_put (by simp [AV.lbs]) (wm_any _)))
  · rintro ⟨i, hi, hs⟩
    simp only [↓evs, evp, boxK, ↓a1_still, stillV, ev, argE, List.getD_cons_zero, List.getD_cons_succ, Nat.reduceEqDiff, if_false, if_true, Nat.reduceLT, Nat.reduceLeDiff, Nat.reduceAdd, Nat.reduceMul, true_and, and_true, List.length_map, binV, AV.cells, List.length_cons, List.length_nil, upd_at, Lb.loc.injEq, ↓af_still, ↓af_load, ↓af_store, ↓af_app, ↓af_new, ↓af_box, loadV, storeV, ldV, List.getElem?_cons_zero, List.getElem?_cons_succ, Option.bind_some, Option.map_some, List.map_cons, List.map_nil, Int.natCast_nonneg, Int.toNat_natCast, AV.stb, AV.one, List.all_cons, List.all_nil, Bool.and_self, Bool.and_true, Bool.true_and, List.take_succ_cons, List.take_zero, List.drop_succ_cons, List.drop_zero, List.cons_append, List.nil_append, List.append_nil, List.set_cons_zero, IV.av1, Lb.app, Lb.fresh, reduceCtorEq, Bool.false_eq_true, List.take, List.drop, List.mem_cons, List.not_mem_nil, or_false, ptrL, appL, forall_eq, false_implies, implies_true, ev, Hp.none, Nat.le_refl, List.set_cons_succ, fillA, chunks, ivs, AV.iv, mkE, List.replicate_one, List.flatten_cons, List.flatten_nil, Nat.zero_mul, Nat.zero_add, Nat.mul_one, ePlain]
    by_cases hlt : i < s.length
    · rw [show decide ((i : Int) < (s.length : Int)) = true by simpa using hlt]
      obtain ⟨c, hc⟩ : ∃ c, s[i]? = some c := ⟨_, List.getElem?_eq_getElem hlt⟩
      have hw : IntKind.i64.wrap ((i : Int) + 1) = ((i + 1 : Nat) : Int) := wrap64 (by omega) (by unfold B at hx; omega)
      have next : nameC c = true → ∃ q : { i : Nat // i ≤ s.length ∧ (s.take i).all nameC = true }, q.1 = i + 1 := fun hp => ⟨⟨i + 1, hlt, all_take hs hc hp⟩, rfl⟩
      simp only [↓evs, evp, boxK, ↓a1_still, stillV, ev, argE, List.getD_cons_zero, List.getD_cons_succ, Nat.reduceEqDiff, if_false, if_true, Nat.reduceLT, Nat.reduceLeDiff, Nat.reduceAdd, Nat.reduceMul, true_and, and_true, List.length_map, binV, AV.cells, List.length_cons, List.length_nil, upd_at, Lb.loc.injEq, ↓af_still, ↓af_load, ↓af_store, ↓af_app, ↓af_new, ↓af_box, loadV, storeV, ldV, List.getElem?_cons_zero, List.getElem?_cons_succ, Option.bind_some, Option.map_some, List.map_cons, List.map_nil, Int.natCast_nonneg, Int.toNat_natCast, AV.stb, AV.one, List.all_cons, List.all_nil, Bool.and_self, Bool.and_true, Bool.true_and, List.take_succ_cons, List.take_zero, List.drop_succ_cons, List.drop_zero, List.cons_append, List.nil_append, List.append_nil, List.set_cons_zero, IV.av1, Lb.app, Lb.fresh, reduceCtorEq, Bool.false_eq_true, List.take, List.drop, List.mem_cons, List.not_mem_nil, or_false, ptrL, appL, forall_eq, false_implies, implies_true, ev, Hp.none, Nat.le_refl, List.set_cons_succ, fillA, chunks, ivs, AV.iv, mkE, List.replicate_one, List.flatten_cons, List.flatten_nil, Nat.zero_mul, Nat.zero_add, Nat.mul_one, hc]
      cases h1 : decide ((c.toNat : Int) < 97) with
      | true =>
        simp only [↓evs, evp, boxK, ↓a1_still, stillV, ev, argE, List.getD_cons_zero, List.getD_cons_succ, Nat.reduceEqDiff, if_false, if_true, Nat.reduceLT, Nat.reduceLeDiff, Nat.reduceAdd, Nat.reduceMul, true_and, and_true, List.length_map, binV, AV.cells, List.length_cons, List.length_nil, upd_at, Lb.loc.injEq, ↓af_still, ↓af_load, ↓af_store, ↓af_app, ↓af_new, ↓af_box, loadV, storeV, ldV, List.getElem?_cons_zero, List.getElem?_cons_succ, Option.bind_some, Option.map_some, List.map_cons, List.map_nil, Int.natCast_nonneg, Int.toNat_natCast, AV.stb, AV.one, List.all_cons, List.all_nil, Bool.and_self, Bool.and_true, Bool.true_and, List.take_succ_cons, List.take_zero, List.drop_succ_cons, List.drop_zero, List.cons_append, List.nil_append, List.append_nil, List.set_cons_zero, IV.av1, Lb.app, Lb.fresh, reduceCtorEq, Bool.false_eq_true, List.take, List.drop, List.mem_cons, List.not_mem_nil, or_false, ptrL, appL, forall_eq, false_implies, implies_true, ev, Hp.none, Nat.le_refl, List.set_cons_succ, fillA, chunks, ivs, AV.iv, mkE, List.replicate_one, List.flatten_cons, List.flatten_nil, Nat.zero_mul, Nat.zero_add, Nat.mul_one, hc]
        rw [named, all_not hc (by simp [nameC, h1])]; rfl
      | false =>
        simp only [↓evs, evp, boxK, ↓a1_still, stillV, ev, argE, List.getD_cons_zero, List.getD_cons_succ, Nat.reduceEqDiff, if_false, if_true, Nat.reduceLT, Nat.reduceLeDiff, Nat.reduceAdd, Nat.reduceMul, true_and, and_true, List.length_map, binV, AV.cells, List.length_cons, List.length_nil, upd_at, Lb.loc.injEq, ↓af_still, ↓af_load, ↓af_store, ↓af_app, ↓af_new, ↓af_box, loadV, storeV, ldV, List.getElem?_cons_zero, List.getElem?_cons_succ, Option.bind_some, Option.map_some, List.map_cons, List.map_nil, Int.natCast_nonneg, Int.toNat_natCast, AV.stb, AV.one, List.all_cons, List.all_nil, Bool.and_self, Bool.and_true, Bool.true_and, List.take_succ_cons, List.take_zero, List.drop_succ_cons, List.drop_zero, List.cons_append, List.nil_append, List.append_nil, List.set_cons_zero, IV.av1, Lb.app, Lb.fresh, reduceCtorEq, Bool.false_eq_true, List.take, List.drop, List.mem_cons, List.not_mem_nil, or_false, ptrL, appL, forall_eq, false_implies, implies_true, ev, Hp.none, Nat.le_refl, List.set_cons_succ, fillA, chunks, ivs, AV.iv, mkE, List.replicate_one, List.flatten_cons, List.flatten_nil, Nat.zero_mul, Nat.zero_add, Nat.mul_one, hc]
        cases h2 : decide ((c.toNat : Int) > 122) with
        | true =>
          simp only [↓evs, evp, boxK, ↓a1_still, stillV, ev, argE, List.getD_cons_zero, List.getD_cons_succ, Nat.reduceEqDiff, if_false, if_true, Nat.reduceLT, Nat.reduceLeDiff, Nat.reduceAdd, Nat.reduceMul, true_and, and_true, List.length_map, binV, AV.cells, List.length_cons, List.length_nil, upd_at, Lb.loc.injEq, ↓af_still, ↓af_load, ↓af_store, ↓af_app, ↓af_new, ↓af_box, loadV, storeV, ldV, List.getElem?_cons_zero, List.getElem?_cons_succ, Option.bind_some, Option.map_some, List.map_cons, List.map_nil, Int.natCast_nonneg, Int.toNat_natCast, AV.stb, AV.one, List.all_cons, List.all_nil, Bool.and_self, Bool.and_true, Bool.true_and, List.take_succ_cons, List.take_zero, List.drop_succ_cons, List.drop_zero, List.cons_append, List.nil_append, List.append_nil, List.set_cons_zero, IV.av1, Lb.app, Lb.fresh, reduceCtorEq, Bool.false_eq_true, List.take, List.drop, List.mem_cons, List.not_mem_nil, or_false, ptrL, appL, forall_eq, false_implies, implies_true, ev, Hp.none, Nat.le_refl, List.set_cons_succ, fillA, chunks, ivs, AV.iv, mkE, List.replicate_one, List.flatten_cons, List.flatten_nil, Nat.zero_mul, Nat.zero_add, Nat.mul_one, hc]
          rw [named, all_not hc (by simp [nameC, h1, h2])]; rfl
        | false =>
          obtain ⟨q, hq⟩ := next (by simp [nameC, h1, h2])
          simp only [↓evs, evp, boxK, ↓a1_still, stillV, ev, argE, List.getD_cons_zero, List.getD_cons_succ, Nat.reduceEqDiff, if_false, if_true, Nat.reduceLT, Nat.reduceLeDiff, Nat.reduceAdd, Nat.reduceMul, true_and, and_true, List.length_map, binV, AV.cells, List.length_cons, List.length_nil, upd_at, Lb.loc.injEq, ↓af_still, ↓af_load, ↓af_store, ↓af_app, ↓af_new, ↓af_box, loadV, storeV, ldV, List.getElem?_cons_zero, List.getElem?_cons_succ, Option.bind_some, Option.map_some, List.map_cons, List.map_nil, Int.natCast_nonneg, Int.toNat_natCast, AV.stb, AV.one, List.all_cons, List.all_nil, Bool.and_self, Bool.and_true, Bool.true_and, List.take_succ_cons, List.take_zero, List.drop_succ_cons, List.drop_zero, List.cons_append, List.nil_append, List.append_nil, List.set_cons_zero, IV.av1, Lb.app, Lb.fresh, reduceCtorEq, Bool.false_eq_true, List.take, List.drop, List.mem_cons, List.not_mem_nil, or_false, ptrL, appL, forall_eq, false_implies, implies_true, ev, Hp.none, Nat.le_refl, List.set_cons_succ, fillA, chunks, ivs, AV.iv, mkE, List.replicate_one, List.flatten_cons, List.flatten_nil, Nat.zero_mul, Nat.zero_add, Nat.mul_one, hc, hw]
          refine ⟨q, by omega, id, .none ?_ ?_⟩
          · rw [hq]; exact we_put rfl (we_put rfl (we_put rfl (we_any _ _)))
          · exact wm_put (by simp [AV.lbs]) (wm_put (by simp [AV.lbs]) (wm_put (by simp [AV.lbs]) (wm_any _)))
    · rw [show decide ((i : Int) < (s.length : Int)) = false by simpa using hlt]
      have hall : s.all nameC = true := by
        have : s.take i = s := List.take_of_length_le (by omega)
        rw [← this, hs]
      simp only [↓evs, evp, boxK, ↓a1_still, stillV, ev, argE, List.getD_cons_zero, List.getD_cons_succ, Nat.reduceEqDiff, if_false, if_true, Nat.reduceLT, Nat.reduceLeDiff, Nat.reduceAdd, Nat.reduceMul, true_and, and_true, List.length_map, binV, AV.cells, List.length_cons, List.length_nil, upd_at, Lb.loc.injEq, ↓af_still, ↓af_load, ↓af_store, ↓af_app, ↓af_new, ↓af_box, loadV, storeV, ldV, List.getElem?_cons_zero, List.getElem?_cons_succ, Option.bind_some, Option.map_some, List.map_cons, List.map_nil, Int.natCast_nonneg, Int.toNat_natCast, AV.stb, AV.one, List.all_cons, List.all_nil, Bool.and_self, Bool.and_true, Bool.true_and, List.take_succ_cons, List.take_zero, List.drop_succ_cons, List.drop_zero, List.cons_append, List.nil_append, List.append_nil, List.set_cons_zero, IV.av1, Lb.app, Lb.fresh, reduceCtorEq, Bool.false_eq_true, List.take, List.drop, List.mem_cons, List.not_mem_nil, or_false, ptrL, appL, forall_eq, false_implies, implies_true, ev, Hp.none, Nat.le_refl, List.set_cons_succ, fillA, chunks, ivs, AV.iv, mkE, List.replicate_one, List.flatten_cons, List.flatten_nil, Nat.zero_mul, Nat.zero_add, Nat.mul_one]
      cases h1 : decide ((s.length : Int) ≥ 1) with
      | true =>
        simp only [↓evs, evp, boxK, ↓a1_still, stillV, ev, argE, List.getD_cons_zero, List.getD_cons_succ, Nat.reduceEqDiff, if_false, if_true, Nat.reduceLT, Nat.reduceLeDiff, Nat.reduceAdd, Nat.reduceMul, true_and, and_true, List.length_map, binV, AV.cells, List.length_cons, List.length_nil, upd_at, Lb.loc.injEq, ↓af_still, ↓af_load, ↓af_store, ↓af_app, ↓af_new, ↓af_box, loadV, storeV, ldV, List.getElem?_cons_zero, List.getElem?_cons_succ, Option.bind_some, Option.map_some, List.map_cons, List.map_nil, Int.natCast_nonneg, Int.toNat_natCast, AV.stb, AV.one, List.all_cons, List.all_nil, Bool.and_self, Bool.and_true, Bool.true_and, List.take_succ_cons, List.take_zero, List.drop_succ_cons, List.drop_zero, List.cons_append, List.nil_append, List.append_nil, List.set_cons_zero, IV.av1, Lb.app, Lb.fresh, reduceCtorEq, Bool.false_eq_true, List.take, List.drop, List.mem_cons, List.not_mem_nil, or_false, ptrL, appL, forall_eq, false_implies, implies_true, ev, Hp.none, Nat.le_refl, List.set_cons_succ, fillA, chunks, ivs, AV.iv, mkE, List.replicate_one, List.flatten_cons, List.flatten_nil, Nat.zero_mul, Nat.zero_add, Nat.mul_one]
        rw [named, hall, h1]; rfl
      | false =>
        simp only [↓evs, evp, boxK, ↓a1_still, stillV, ev, argE, List.getD_cons_zero, List.getD_cons_succ, Nat.reduceEqDiff, if_false, if_true, Nat.reduceLT, Nat.reduceLeDiff, Nat.reduceAdd, Nat.reduceMul, true_and, and_true, List.length_map, binV, AV.cells, List.length_cons, List.length_nil, upd_at, Lb.loc.injEq, ↓af_still, ↓af_load, ↓af_store, ↓af_app, ↓af_new, ↓af_box, loadV, storeV, ldV, List.getElem?_cons_zero, List.getElem?_cons_succ, Option.bind_some, Option.map_some, List.map_cons, List.map_nil, Int.natCast_nonneg, Int.toNat_natCast, AV.stb, AV.one, List.all_cons, List.all_nil, Bool.and_self, Bool.and_true, Bool.true_and, List.take_succ_cons, List.take_zero, List.drop_succ_cons, List.drop_zero, List.cons_append, List.nil_append, List.append_nil, List.set_cons_zero, IV.av1, Lb.app, Lb.fresh, reduceCtorEq, Bool.false_eq_true, List.take, List.drop, List.mem_cons, List.not_mem_nil, or_false, ptrL, appL, forall_eq, false_implies, implies_true, ev, Hp.none, Nat.le_refl, List.set_cons_succ, fillA, chunks, ivs, AV.iv, mkE, List.replicate_one, List.flatten_cons, List.flatten_nil, Nat.zero_mul, Nat.zero_add, Nat.mul_one]
        rw [named, hall, h1]; rfl

end Go.Am
