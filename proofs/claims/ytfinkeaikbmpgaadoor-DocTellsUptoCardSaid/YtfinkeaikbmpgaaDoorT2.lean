import Derived.Test.YtfinkeaikbmpgaaDoorKAm32
set_option linter.unusedSimpArgs false
set_option linter.unusedVariables false
set_option linter.unnecessarySimpa false
set_option linter.defProp false
/- Trees: are they the same? -/
namespace Go.Am
open Go Go.RowKit
open Classical in
noncomputable def eqB {α : Type} (x y : α) : Bool := decide (x = y)
theorem eqB_self {α : Type} (x : α) : eqB x x = true := by simp [eqB]
theorem eqB_ne {α : Type} {x y : α} (h : x ≠ y) : eqB x y = false := by simp [eqB, h]
theorem eqB_iff {α : Type} {x y : α} : eqB x y = true ↔ x = y := by simp [eqB]
theorem Attr.ext {x y : Attr} (h1 : x.name = y.name) (h2 : x.val = y.val) : x = y := by cases x; cases y; simp_all
theorem Tree.ext {x y : Tree} (h1 : x.text = y.text) (h2 : x.s = y.s) (h3 : x.attrs = y.attrs) (h4 : x.kids = y.kids) : x = y := by
  cases x; cases y; simp_all [Tree.text, Tree.s, Tree.attrs, Tree.kids]
def cSameAttrs : AC :=
(.seq
  (.reg [
    ⟨(some 4), none, (.mov (.c (.bool false)))⟩])
(.seq
  (.seq
    (.reg [
      ⟨(some 6), none, (.mov (.t 0))⟩,
      ⟨(some 7), none, (.len (.t 6))⟩,
      ⟨(some 8), none, (.mov (.t 1))⟩,
      ⟨(some 9), none, (.len (.t 8))⟩,
      ⟨(some 10), none, (.bin .neq (.t 7) (.t 9))⟩])
  (.cond (.t 10)
    (.seq
      (.reg [
        ⟨(some 4), none, (.mov (.c (.bool false)))⟩])
    .ret)
    .skip))
(.seq
  (.seq
    (.reg [
      ⟨(some 11), none, (.mov (.t 0))⟩,
      ⟨(some 12), none, (.len (.t 11))⟩,
      ⟨(some 13), none, (.mov (.c (.int .i64 0)))⟩])
  (.block 0
    (.loop
      (.seq
        (.reg [
          ⟨(some 14), none, (.bin .lss (.t 13) (.t 12))⟩])
      (.seq
        (.cond (.t 14)
          .skip
          (.exit 0))
      (.seq
        (.block 1
          (.seq
            (.reg [
              ⟨(some 15), none, (.mov (.t 13))⟩,
              ⟨(some 5), none, (.mov (.t 15))⟩])
          (.seq
            (.dreg [
              ⟨(some 16), none, (.mov (.t 0))⟩,
              ⟨(some 17), none, (.mov (.t 5))⟩,
              ⟨(some 18), none, (.ixa (.t 16) (.t 17) 2)⟩,
              ⟨(some 19), none, (.load (some 2) (.t 18))⟩,
              ⟨(some 20), none, (.mov (.t 1))⟩,
              ⟨(some 21), none, (.mov (.t 5))⟩,
              ⟨(some 22), none, (.ixa (.t 20) (.t 21) 2)⟩,
              ⟨(some 23), none, (.load (some 2) (.t 22))⟩,
              ⟨(some 24), none, (.eqst true [.s, .s] (.t 19) (.t 23))⟩]
              [[], [], [0, 1], [2], [], [], [4, 5], [6], [3, 7]]
              [.no, .no, .no, .no, .no, .no, .no, .no, .no])
          (.cond (.t 24)
            (.seq
              (.reg [
                ⟨(some 4), none, (.mov (.c (.bool false)))⟩])
            .ret)
            .skip))))
      (.reg [
        ⟨(some 25), none, (.bin .add (.t 13) (.c (.int .i64 1)))⟩,
        ⟨(some 13), none, (.mov (.t 25))⟩])))))))
(.seq
  (.reg [
    ⟨(some 4), none, (.mov (.c (.bool true)))⟩])
.ret))))
def cSameTrees (g : Nat) : AC :=
(.seq
  (.reg [
    ⟨(some 4), none, (.mov (.c (.bool false)))⟩])
(.seq
  (.seq
    (.reg [
      ⟨(some 6), none, (.mov (.t 0))⟩,
      ⟨(some 7), none, (.len (.t 6))⟩,
      ⟨(some 8), none, (.mov (.t 1))⟩,
      ⟨(some 9), none, (.len (.t 8))⟩,
      ⟨(some 10), none, (.bin .neq (.t 7) (.t 9))⟩])
  (.cond (.t 10)
    (.seq
      (.reg [
        ⟨(some 4), none, (.mov (.c (.bool false)))⟩])
    .ret)
    .skip))
(.seq
  (.seq
    (.reg [
      ⟨(some 11), none, (.mov (.t 0))⟩,
      ⟨(some 12), none, (.len (.t 11))⟩,
      ⟨(some 13), none, (.mov (.c (.int .i64 0)))⟩])
  (.block 0
    (.loop
      (.seq
        (.reg [
          ⟨(some 14), none, (.bin .lss (.t 13) (.t 12))⟩])
      (.seq
        (.cond (.t 14)
          .skip
          (.exit 0))
      (.seq
        (.block 1
          (.seq
            (.reg [
              ⟨(some 15), none, (.mov (.t 13))⟩,
              ⟨(some 5), none, (.mov (.t 15))⟩])
          (.seq
            (.dreg [
              ⟨(some 16), none, (.mov (.t 0))⟩,
              ⟨(some 17), none, (.mov (.t 5))⟩,
              ⟨(some 18), none, (.ixa (.t 16) (.t 17) 4)⟩,
              ⟨(some 19), none, (.load (some 4) (.t 18))⟩,
              ⟨(some 20), none, (.mov (.t 1))⟩,
              ⟨(some 21), none, (.mov (.t 5))⟩,
              ⟨(some 22), none, (.ixa (.t 20) (.t 21) 4)⟩,
              ⟨(some 23), none, (.load (some 4) (.t 22))⟩,
              ⟨(some 24), none, (.call g [(.t 19), (.t 23)])⟩,
              ⟨(some 25), none, (.not (.t 24))⟩]
              [[], [], [0, 1], [2], [], [], [4, 5], [6], [3, 7], [8]]
              [.no, .no, .no, .no, .no, .no, .no, .no, .no, .no])
          (.cond (.t 25)
            (.seq
              (.reg [
                ⟨(some 4), none, (.mov (.c (.bool false)))⟩])
            .ret)
            .skip))))
      (.reg [
        ⟨(some 26), none, (.bin .add (.t 13) (.c (.int .i64 1)))⟩,
        ⟨(some 13), none, (.mov (.t 26))⟩])))))))
(.seq
  (.reg [
    ⟨(some 4), none, (.mov (.c (.bool true)))⟩])
.ret))))
def eSame (xs ys : List IV) (i : Nat) : Env :=
  put (put (put (put Env.any 0 (.list xs)) 1 (.list ys)) 12 (.int .i64 xs.length)) 13 (.int .i64 i)
theorem pSameAttrs {P : Program} {G : Nat → Option (List IV)} {f : Nat} (hF : compF P G f = some (26, [(none, 4)], cSameAttrs.bare)) (xs ys : List Attr) (hx : xs.length ≤ B) :
    PureC P G f [.list (ivA xs), .list (ivA ys)] (.bool (eqB xs ys)) := by
  refine pure_of_go hF (by simp) (by simp [lbss, AV.lbs]) (by simp [AV.lbs]) ?_
  unfold cSameAttrs
  simp only [↓evs, evp, boxK, ↓a1_still, stillV, ev, argE, List.getD_cons_zero, List.getD_cons_succ, Nat.reduceEqDiff, if_false, if_true, Nat.reduceLT, Nat.reduceLeDiff, Nat.reduceAdd, Nat.reduceMul, true_and, and_true, List.length_map, binV, AV.cells, List.length_cons, List.length_nil, upd_at, Lb.loc.injEq, ↓af_still, ↓af_load, ↓af_store, ↓af_app, ↓af_new, ↓af_box, loadV, storeV, ldV, List.getElem?_cons_zero, List.getElem?_cons_succ, Option.bind_some, Option.map_some, List.map_cons, List.map_nil, Int.natCast_nonneg, Int.toNat_natCast, AV.stb, AV.one, List.all_cons, List.all_nil, Bool.and_self, Bool.and_true, Bool.true_and, List.take_succ_cons, List.take_zero, List.drop_succ_cons, List.drop_zero, List.cons_append, List.nil_append, List.append_nil, List.set_cons_zero, IV.av1, Lb.app, Lb.fresh, fam_loc, fam_par, fam_gen, fam_nest, reduceCtorEq, Bool.false_eq_true, List.take, List.drop, List.mem_cons, List.not_mem_nil, or_false, ptrL, appL, forall_eq, false_implies, implies_true, ev, Hp.none, Nat.le_refl, List.set_cons_succ, fillA, chunks, ivs, AV.iv, mkE, List.replicate_one, List.flatten_cons, List.flatten_nil, Nat.zero_mul, Nat.zero_add, Nat.mul_one, ivA_len]
  by_cases hl : xs.length = ys.length
  · rw [show ((xs.length : Int) != (ys.length : Int)) = false by simp [hl]]
    simp only [↓evs, evp, boxK, ↓a1_still, stillV, ev, argE, List.getD_cons_zero, List.getD_cons_succ, Nat.reduceEqDiff, if_false, if_true, Nat.reduceLT, Nat.reduceLeDiff, Nat.reduceAdd, Nat.reduceMul, true_and, and_true, List.length_map, binV, AV.cells, List.length_cons, List.length_nil, upd_at, Lb.loc.injEq, ↓af_still, ↓af_load, ↓af_store, ↓af_app, ↓af_new, ↓af_box, loadV, storeV, ldV, List.getElem?_cons_zero, List.getElem?_cons_succ, Option.bind_some, Option.map_some, List.map_cons, List.map_nil, Int.natCast_nonneg, Int.toNat_natCast, AV.stb, AV.one, List.all_cons, List.all_nil, Bool.and_self, Bool.and_true, Bool.true_and, List.take_succ_cons, List.take_zero, List.drop_succ_cons, List.drop_zero, List.cons_append, List.nil_append, List.append_nil, List.set_cons_zero, IV.av1, Lb.app, Lb.fresh, fam_loc, fam_par, fam_gen, fam_nest, reduceCtorEq, Bool.false_eq_true, List.take, List.drop, List.mem_cons, List.not_mem_nil, or_false, ptrL, appL, forall_eq, false_implies, implies_true, ev, Hp.none, Nat.le_refl, List.set_cons_succ, fillA, chunks, ivs, AV.iv, mkE, List.replicate_one, List.flatten_cons, List.flatten_nil, Nat.zero_mul, Nat.zero_add, Nat.mul_one, ivA_len]
    refine loop_intro (σ := { i : Nat // i ≤ xs.length ∧ ∀ j, j < i → xs[j]? = ys[j]? }) (fun s => eSame (ivA xs) (ivA ys) s.1) (fun _ => Hp.none) (fun s => xs.length - s.1) ⟨0, by simp⟩ id ?_ ?_
    · refine .none ?_ ?_
      · exact we_put rfl (we_put (by simp [put_at, ivA_len, ren]) (we_put rfl (we_put rfl (we_any _ _))))
      · exact wm_put (by simp [AV.lbs]) (wm_put (by simp [AV.lbs]) (wm_put (by simp [AV.lbs]) (wm_put (by simp [AV.lbs]) (wm_any _))))
    · rintro ⟨i, hi, hs⟩
      simp only [↓evs, evp, boxK, ↓a1_still, stillV, ev, argE, List.getD_cons_zero, List.getD_cons_succ, Nat.reduceEqDiff, if_false, if_true, Nat.reduceLT, Nat.reduceLeDiff, Nat.reduceAdd, Nat.reduceMul, true_and, and_true, List.length_map, binV, AV.cells, List.length_cons, List.length_nil, upd_at, Lb.loc.injEq, ↓af_still, ↓af_load, ↓af_store, ↓af_app, ↓af_new, ↓af_box, loadV, storeV, ldV, List.getElem?_cons_zero, List.getElem?_cons_succ, Option.bind_some, Option.map_some, List.map_cons, List.map_nil, Int.natCast_nonneg, Int.toNat_natCast, AV.stb, AV.one, List.all_cons, List.all_nil, Bool.and_self, Bool.and_true, Bool.true_and, List.take_succ_cons, List.take_zero, List.drop_succ_cons, List.drop_zero, List.cons_append, List.nil_append, List.append_nil, List.set_cons_zero, IV.av1, Lb.app, Lb.fresh, fam_loc, fam_par, fam_gen, fam_nest, reduceCtorEq, Bool.false_eq_true, List.take, List.drop, List.mem_cons, List.not_mem_nil, or_false, ptrL, appL, forall_eq, false_implies, implies_true, ev, Hp.none, Nat.le_refl, List.set_cons_succ, fillA, chunks, ivs, AV.iv, mkE, List.replicate_one, List.flatten_cons, List.flatten_nil, Nat.zero_mul, Nat.zero_add, Nat.mul_one, eSame, ivA_len]
      by_cases hlt : i < xs.length
      · rw [show decide ((i : Int) < (xs.length : Int)) = true by simpa using hlt]
        obtain ⟨x, hx1⟩ : ∃ x, xs[i]? = some x := ⟨_, List.getElem?_eq_getElem hlt⟩
        obtain ⟨y, hy1⟩ : ∃ y, ys[i]? = some y := ⟨_, List.getElem?_eq_getElem (hl ▸ hlt)⟩
        simp only [↓evs, evp, boxK, ↓a1_still, stillV, ev, argE, List.getD_cons_zero, List.getD_cons_succ, Nat.reduceEqDiff, if_false, if_true, Nat.reduceLT, Nat.reduceLeDiff, Nat.reduceAdd, Nat.reduceMul, true_and, and_true, List.length_map, binV, AV.cells, List.length_cons, List.length_nil, upd_at, Lb.loc.injEq, ↓af_still, ↓af_load, ↓af_store, ↓af_app, ↓af_new, ↓af_box, loadV, storeV, ldV, List.getElem?_cons_zero, List.getElem?_cons_succ, Option.bind_some, Option.map_some, List.map_cons, List.map_nil, Int.natCast_nonneg, Int.toNat_natCast, AV.stb, AV.one, List.all_cons, List.all_nil, Bool.and_self, Bool.and_true, Bool.true_and, List.take_succ_cons, List.take_zero, List.drop_succ_cons, List.drop_zero, List.cons_append, List.nil_append, List.append_nil, List.set_cons_zero, IV.av1, Lb.app, Lb.fresh, fam_loc, fam_par, fam_gen, fam_nest, reduceCtorEq, Bool.false_eq_true, List.take, List.drop, List.mem_cons, List.not_mem_nil, or_false, ptrL, appL, forall_eq, false_implies, implies_true, ev, Hp.none, Nat.le_refl, List.set_cons_succ, fillA, chunks, ivs, AV.iv, mkE, List.replicate_one, List.flatten_cons, List.flatten_nil, Nat.zero_mul, Nat.zero_add, Nat.mul_one, ivA_get, hx1, hy1, elszA, Attr.cells_eq, Attr.cs, eqs, eq1]
        refine ⟨rfl, ?_⟩
        by_cases hxy : x = y
        · subst hxy
          have hw : IntKind.i64.wrap ((i : Int) + 1) = ((i + 1 : Nat) : Int) := wrap64 (by omega) (by unfold B at hx; omega)
          rw [show (true ^^ (x.name == x.name && x.val == x.val)) = false by simp]
          simp only [↓evs, evp, boxK, ↓a1_still, stillV, ev, argE, List.getD_cons_zero, List.getD_cons_succ, Nat.reduceEqDiff, if_false, if_true, Nat.reduceLT, Nat.reduceLeDiff, Nat.reduceAdd, Nat.reduceMul, true_and, and_true, List.length_map, binV, AV.cells, List.length_cons, List.length_nil, upd_at, Lb.loc.injEq, ↓af_still, ↓af_load, ↓af_store, ↓af_app, ↓af_new, ↓af_box, loadV, storeV, ldV, List.getElem?_cons_zero, List.getElem?_cons_succ, Option.bind_some, Option.map_some, List.map_cons, List.map_nil, Int.natCast_nonneg, Int.toNat_natCast, AV.stb, AV.one, List.all_cons, List.all_nil, Bool.and_self, Bool.and_true, Bool.true_and, List.take_succ_cons, List.take_zero, List.drop_succ_cons, List.drop_zero, List.cons_append, List.nil_append, List.append_nil, List.set_cons_zero, IV.av1, Lb.app, Lb.fresh, fam_loc, fam_par, fam_gen, fam_nest, reduceCtorEq, Bool.false_eq_true, List.take, List.drop, List.mem_cons, List.not_mem_nil, or_false, ptrL, appL, forall_eq, false_implies, implies_true, ev, Hp.none, Nat.le_refl, List.set_cons_succ, fillA, chunks, ivs, AV.iv, mkE, List.replicate_one, List.flatten_cons, List.flatten_nil, Nat.zero_mul, Nat.zero_add, Nat.mul_one, hw]
          refine ⟨⟨i + 1, hlt, fun j hj => ?_⟩, by simp only; omega, id, .none ?_ ?_⟩
          · by_cases e : j = i
            · rw [e, hx1, hy1]
            · exact hs j (by omega)
          · exact we_put rfl (we_put (by simp [put_at, ivA_len, ren]) (we_put rfl (we_put rfl (we_any _ _))))
          · exact wm_put (by simp [AV.lbs]) (wm_put (by simp [AV.lbs]) (wm_put (by simp [AV.lbs]) (wm_put (by simp [AV.lbs]) (wm_any _))))
        · have hne : xs ≠ ys := fun e => hxy (by rw [e, hy1] at hx1; cases hx1; rfl)
          have hne2 : (true ^^ (x.name == y.name && x.val == y.val)) = true := by
            simp only [Bool.true_xor, Bool.not_eq_true', Bool.and_eq_false_iff, beq_eq_false_iff_ne]
            by_cases e1 : x.name = y.name
            · exact .inr fun e2 => hxy (Attr.ext e1 e2)
            · exact .inl e1
          rw [hne2]
          simp only [↓evs, evp, boxK, ↓a1_still, stillV, ev, argE, List.getD_cons_zero, List.getD_cons_succ, Nat.reduceEqDiff, if_false, if_true, Nat.reduceLT, Nat.reduceLeDiff, Nat.reduceAdd, Nat.reduceMul, true_and, and_true, List.length_map, binV, AV.cells, List.length_cons, List.length_nil, upd_at, Lb.loc.injEq, ↓af_still, ↓af_load, ↓af_store, ↓af_app, ↓af_new, ↓af_box, loadV, storeV, ldV, List.getElem?_cons_zero, List.getElem?_cons_succ, Option.bind_some, Option.map_some, List.map_cons, List.map_nil, Int.natCast_nonneg, Int.toNat_natCast, AV.stb, AV.one, List.all_cons, List.all_nil, Bool.and_self, Bool.and_true, Bool.true_and, List.take_succ_cons, List.take_zero, List.drop_succ_cons, List.drop_zero, List.cons_append, List.nil_append, List.append_nil, List.set_cons_zero, IV.av1, Lb.app, Lb.fresh, fam_loc, fam_par, fam_gen, fam_nest, reduceCtorEq, Bool.false_eq_true, List.take, List.drop, List.mem_cons, List.not_mem_nil, or_false, ptrL, appL, forall_eq, false_implies, implies_true, ev, Hp.none, Nat.le_refl, List.set_cons_succ, fillA, chunks, ivs, AV.iv, mkE, List.replicate_one, List.flatten_cons, List.flatten_nil, Nat.zero_mul, Nat.zero_add, Nat.mul_one, eqB_ne hne]
      · rw [show decide ((i : Int) < (xs.length : Int)) = false by simpa using hlt]
        simp only [↓evs, evp, boxK, ↓a1_still, stillV, ev, argE, List.getD_cons_zero, List.getD_cons_succ, Nat.reduceEqDiff, if_false, if_true, Nat.reduceLT, Nat.reduceLeDiff, Nat.reduceAdd, Nat.reduceMul, true_and, and_true, List.length_map, binV, AV.cells, List.length_cons, List.length_nil, upd_at, Lb.loc.injEq, ↓af_still, ↓af_load, ↓af_store, ↓af_app, ↓af_new, ↓af_box, loadV, storeV, ldV, List.getElem?_cons_zero, List.getElem?_cons_succ, Option.bind_some, Option.map_some, List.map_cons, List.map_nil, Int.natCast_nonneg, Int.toNat_natCast, AV.stb, AV.one, List.all_cons, List.all_nil, Bool.and_self, Bool.and_true, Bool.true_and, List.take_succ_cons, List.take_zero, List.drop_succ_cons, List.drop_zero, List.cons_append, List.nil_append, List.append_nil, List.set_cons_zero, IV.av1, Lb.app, Lb.fresh, fam_loc, fam_par, fam_gen, fam_nest, reduceCtorEq, Bool.false_eq_true, List.take, List.drop, List.mem_cons, List.not_mem_nil, or_false, ptrL, appL, forall_eq, false_implies, implies_true, ev, Hp.none, Nat.le_refl, List.set_cons_succ, fillA, chunks, ivs, AV.iv, mkE, List.replicate_one, List.flatten_cons, List.flatten_nil, Nat.zero_mul, Nat.zero_add, Nat.mul_one]
        have : xs = ys := List.ext_getElem? fun j => by
          by_cases hj : j < i
          · exact hs j hj
          · rw [List.getElem?_eq_none (by omega), List.getElem?_eq_none (by omega)]
        rw [this, eqB_self]
  · rw [show ((xs.length : Int) != (ys.length : Int)) = true by simp; omega]
    have : xs ≠ ys := fun e => hl (by rw [e])
    simp only [↓evs, evp, boxK, ↓a1_still, stillV, ev, argE, List.getD_cons_zero, List.getD_cons_succ, Nat.reduceEqDiff, if_false, if_true, Nat.reduceLT, Nat.reduceLeDiff, Nat.reduceAdd, Nat.reduceMul, true_and, and_true, List.length_map, binV, AV.cells, List.length_cons, List.length_nil, upd_at, Lb.loc.injEq, ↓af_still, ↓af_load, ↓af_store, ↓af_app, ↓af_new, ↓af_box, loadV, storeV, ldV, List.getElem?_cons_zero, List.getElem?_cons_succ, Option.bind_some, Option.map_some, List.map_cons, List.map_nil, Int.natCast_nonneg, Int.toNat_natCast, AV.stb, AV.one, List.all_cons, List.all_nil, Bool.and_self, Bool.and_true, Bool.true_and, List.take_succ_cons, List.take_zero, List.drop_succ_cons, List.drop_zero, List.cons_append, List.nil_append, List.append_nil, List.set_cons_zero, IV.av1, Lb.app, Lb.fresh, fam_loc, fam_par, fam_gen, fam_nest, reduceCtorEq, Bool.false_eq_true, List.take, List.drop, List.mem_cons, List.not_mem_nil, or_false, ptrL, appL, forall_eq, false_implies, implies_true, ev, Hp.none, Nat.le_refl, List.set_cons_succ, fillA, chunks, ivs, AV.iv, mkE, List.replicate_one, List.flatten_cons, List.flatten_nil, Nat.zero_mul, Nat.zero_add, Nat.mul_one, eqB_ne this]
theorem pSameTrees {P : Program} {G : Nat → Option (List IV)} {f g : Nat} (hF : compF P G f = some (27, [(none, 4)], (cSameTrees g).bare)) (xs ys : List Tree) (hx : xs.length ≤ B)
    (hg : ∀ x ∈ xs, ∀ y ∈ ys, PureC P G g [x.av, y.av] (.bool (eqB x y))) : PureC P G f [.list (ivT xs), .list (ivT ys)] (.bool (eqB xs ys)) := by
  refine pure_of_go hF (by simp) (by simp [lbss, AV.lbs]) (by simp [AV.lbs]) ?_
  unfold cSameTrees
  simp only [↓evs, evp, boxK, ↓a1_still, stillV, ev, argE, List.getD_cons_zero, List.getD_cons_succ, Nat.reduceEqDiff, if_false, if_true, Nat.reduceLT, Nat.reduceLeDiff, Nat.reduceAdd, Nat.reduceMul, true_and, and_true, List.length_map, binV, AV.cells, List.length_cons, List.length_nil, upd_at, Lb.loc.injEq, ↓af_still, ↓af_load, ↓af_store, ↓af_app, ↓af_new, ↓af_box, loadV, storeV, ldV, List.getElem?_cons_zero, List.getElem?_cons_succ, Option.bind_some, Option.map_some, List.map_cons, List.map_nil, Int.natCast_nonneg, Int.toNat_natCast, AV.stb, AV.one, List.all_cons, List.all_nil, Bool.and_self, Bool.and_true, Bool.true_and, List.take_succ_cons, List.take_zero, List.drop_succ_cons, List.drop_zero, List.cons_append, List.nil_append, List.append_nil, List.set_cons_zero, IV.av1, Lb.app, Lb.fresh, fam_loc, fam_par, fam_gen, fam_nest, reduceCtorEq, Bool.false_eq_true, List.take, List.drop, List.mem_cons, List.not_mem_nil, or_false, ptrL, appL, forall_eq, false_implies, implies_true, ev, Hp.none, Nat.le_refl, List.set_cons_succ, fillA, chunks, ivs, AV.iv, mkE, List.replicate_one, List.flatten_cons, List.flatten_nil, Nat.zero_mul, Nat.zero_add, Nat.mul_one, ivT_len]
  by_cases hl : xs.length = ys.length
  · rw [show ((xs.length : Int) != (ys.length : Int)) = false by simp [hl]]
    simp only [↓evs, evp, boxK, ↓a1_still, stillV, ev, argE, List.getD_cons_zero, List.getD_cons_succ, Nat.reduceEqDiff, if_false, if_true, Nat.reduceLT, Nat.reduceLeDiff, Nat.reduceAdd, Nat.reduceMul, true_and, and_true, List.length_map, binV, AV.cells, List.length_cons, List.length_nil, upd_at, Lb.loc.injEq, ↓af_still, ↓af_load, ↓af_store, ↓af_app, ↓af_new, ↓af_box, loadV, storeV, ldV, List.getElem?_cons_zero, List.getElem?_cons_succ, Option.bind_some, Option.map_some, List.map_cons, List.map_nil, Int.natCast_nonneg, Int.toNat_natCast, AV.stb, AV.one, List.all_cons, List.all_nil, Bool.and_self, Bool.and_true, Bool.true_and, List.take_succ_cons, List.take_zero, List.drop_succ_cons, List.drop_zero, List.cons_append, List.nil_append, List.append_nil, List.set_cons_zero, IV.av1, Lb.app, Lb.fresh, fam_loc, fam_par, fam_gen, fam_nest, reduceCtorEq, Bool.false_eq_true, List.take, List.drop, List.mem_cons, List.not_mem_nil, or_false, ptrL, appL, forall_eq, false_implies, implies_true, ev, Hp.none, Nat.le_refl, List.set_cons_succ, fillA, chunks, ivs, AV.iv, mkE, List.replicate_one, List.flatten_cons, List.flatten_nil, Nat.zero_mul, Nat.zero_add, Nat.mul_one, ivT_len]
    refine loop_intro (σ := { i : Nat // i ≤ xs.length ∧ ∀ j, j < i → xs[j]? = ys[j]? }) (fun s => eSame (ivT xs) (ivT ys) s.1) (fun _ => Hp.none) (fun s => xs.length - s.1) ⟨0, by simp⟩ id ?_ ?_
    · refine .none ?_ ?_
      · exact we_put rfl (we_put (by simp [put_at, ivT_len, ren]) (we_put rfl (we_put rfl (we_any _ _))))
      · exact wm_put (by simp [AV.lbs]) (wm_put (by simp [AV.lbs]) (wm_put (by simp [AV.lbs]) (wm_put (by simp [AV.lbs]) (wm_any _))))
    · rintro ⟨i, hi, hs⟩
      simp only [↓evs, evp, boxK, ↓a1_still, stillV, ev, argE, List.getD_cons_zero, List.getD_cons_succ, Nat.reduceEqDiff, if_false, if_true, Nat.reduceLT, Nat.reduceLeDiff, Nat.reduceAdd, Nat.reduceMul, true_and, and_true, List.length_map, binV, AV.cells, List.length_cons, List.length_nil, upd_at, Lb.loc.injEq, ↓af_still, ↓af_load, ↓af_store, ↓af_app, ↓af_new, ↓af_box, loadV, storeV, ldV, List.getElem?_cons_zero, List.getElem?_cons_succ, Option.bind_some, Option.map_some, List.map_cons, List.map_nil, Int.natCast_nonneg, Int.toNat_natCast, AV.stb, AV.one, List.all_cons, List.all_nil, Bool.and_self, Bool.and_true, Bool.true_and, List.take_succ_cons, List.take_zero, List.drop_succ_cons, List.drop_zero, List.cons_append, List.nil_append, List.append_nil, List.set_cons_zero, IV.av1, Lb.app, Lb.fresh, fam_loc, fam_par, fam_gen, fam_nest, reduceCtorEq, Bool.false_eq_true, List.take, List.drop, List.mem_cons, List.not_mem_nil, or_false, ptrL, appL, forall_eq, false_implies, implies_true, ev, Hp.none, Nat.le_refl, List.set_cons_succ, fillA, chunks, ivs, AV.iv, mkE, List.replicate_one, List.flatten_cons, List.flatten_nil, Nat.zero_mul, Nat.zero_add, Nat.mul_one, eSame, ivT_len]
      by_cases hlt : i < xs.length
      · rw [show decide ((i : Int) < (xs.length : Int)) = true by simpa using hlt]
        obtain ⟨x, hx1⟩ : ∃ x, xs[i]? = some x := ⟨_, List.getElem?_eq_getElem hlt⟩
        obtain ⟨y, hy1⟩ : ∃ y, ys[i]? = some y := ⟨_, List.getElem?_eq_getElem (hl ▸ hlt)⟩
        simp only [↓evs, evp, boxK, ↓a1_still, stillV, ev, argE, List.getD_cons_zero, List.getD_cons_succ, Nat.reduceEqDiff, if_false, if_true, Nat.reduceLT, Nat.reduceLeDiff, Nat.reduceAdd, Nat.reduceMul, true_and, and_true, List.length_map, binV, AV.cells, List.length_cons, List.length_nil, upd_at, Lb.loc.injEq, ↓af_still, ↓af_load, ↓af_store, ↓af_app, ↓af_new, ↓af_box, loadV, storeV, ldV, List.getElem?_cons_zero, List.getElem?_cons_succ, Option.bind_some, Option.map_some, List.map_cons, List.map_nil, Int.natCast_nonneg, Int.toNat_natCast, AV.stb, AV.one, List.all_cons, List.all_nil, Bool.and_self, Bool.and_true, Bool.true_and, List.take_succ_cons, List.take_zero, List.drop_succ_cons, List.drop_zero, List.cons_append, List.nil_append, List.append_nil, List.set_cons_zero, IV.av1, Lb.app, Lb.fresh, fam_loc, fam_par, fam_gen, fam_nest, reduceCtorEq, Bool.false_eq_true, List.take, List.drop, List.mem_cons, List.not_mem_nil, or_false, ptrL, appL, forall_eq, false_implies, implies_true, ev, Hp.none, Nat.le_refl, List.set_cons_succ, fillA, chunks, ivs, AV.iv, mkE, List.replicate_one, List.flatten_cons, List.flatten_nil, Nat.zero_mul, Nat.zero_add, Nat.mul_one, ivT_get, hx1, hy1, elszT, Tree.cells_eq, Tree.cs]
        refine ⟨rfl, puK_in (hg x (List.mem_of_getElem? hx1) y (List.mem_of_getElem? hy1)) ?_⟩
        by_cases hxy : x = y
        · subst hxy
          have hw : IntKind.i64.wrap ((i : Int) + 1) = ((i + 1 : Nat) : Int) := wrap64 (by omega) (by unfold B at hx; omega)
          simp only [↓evs, evp, boxK, ↓a1_still, stillV, ev, argE, List.getD_cons_zero, List.getD_cons_succ, Nat.reduceEqDiff, if_false, if_true, Nat.reduceLT, Nat.reduceLeDiff, Nat.reduceAdd, Nat.reduceMul, true_and, and_true, List.length_map, binV, AV.cells, List.length_cons, List.length_nil, upd_at, Lb.loc.injEq, ↓af_still, ↓af_load, ↓af_store, ↓af_app, ↓af_new, ↓af_box, loadV, storeV, ldV, List.getElem?_cons_zero, List.getElem?_cons_succ, Option.bind_some, Option.map_some, List.map_cons, List.map_nil, Int.natCast_nonneg, Int.toNat_natCast, AV.stb, AV.one, List.all_cons, List.all_nil, Bool.and_self, Bool.and_true, Bool.true_and, List.take_succ_cons, List.take_zero, List.drop_succ_cons, List.drop_zero, List.cons_append, List.nil_append, List.append_nil, List.set_cons_zero, IV.av1, Lb.app, Lb.fresh, fam_loc, fam_par, fam_gen, fam_nest, reduceCtorEq, Bool.false_eq_true, List.take, List.drop, List.mem_cons, List.not_mem_nil, or_false, ptrL, appL, forall_eq, false_implies, implies_true, ev, Hp.none, Nat.le_refl, List.set_cons_succ, fillA, chunks, ivs, AV.iv, mkE, List.replicate_one, List.flatten_cons, List.flatten_nil, Nat.zero_mul, Nat.zero_add, Nat.mul_one, hw, eqB_self, Bool.not_true]
          refine ⟨⟨i + 1, hlt, fun j hj => ?_⟩, by simp only; omega, id, .none ?_ ?_⟩
          · by_cases e : j = i
            · rw [e, hx1, hy1]
            · exact hs j (by omega)
          · exact we_put rfl (we_put (by simp [put_at, ivT_len, ren]) (we_put rfl (we_put rfl (we_any _ _))))
          · exact wm_put (by simp [AV.lbs]) (wm_put (by simp [AV.lbs]) (wm_put (by simp [AV.lbs]) (wm_put (by simp [AV.lbs]) (wm_any _))))
        · have hne : xs ≠ ys := fun e => hxy (by rw [e, hy1] at hx1; cases hx1; rfl)
          simp only [↓evs, evp, boxK, ↓a1_still, stillV, ev, argE, List.getD_cons_zero, List.getD_cons_succ, Nat.reduceEqDiff, if_false, if_true, Nat.reduceLT, Nat.reduceLeDiff, Nat.reduceAdd, Nat.reduceMul, true_and, and_true, List.length_map, binV, AV.cells, List.length_cons, List.length_nil, upd_at, Lb.loc.injEq, ↓af_still, ↓af_load, ↓af_store, ↓af_app, ↓af_new, ↓af_box, loadV, storeV, ldV, List.getElem?_cons_zero, List.getElem?_cons_succ, Option.bind_some, Option.map_some, List.map_cons, List.map_nil, Int.natCast_nonneg, Int.toNat_natCast, AV.stb, AV.one, List.all_cons, List.all_nil, Bool.and_self, Bool.and_true, Bool.true_and, List.take_succ_cons, List.take_zero, List.drop_succ_cons, List.drop_zero, List.cons_append, List.nil_append, List.append_nil, List.set_cons_zero, IV.av1, Lb.app, Lb.fresh, fam_loc, fam_par, fam_gen, fam_nest, reduceCtorEq, Bool.false_eq_true, List.take, List.drop, List.mem_cons, List.not_mem_nil, or_false, ptrL, appL, forall_eq, false_implies, implies_true, ev, Hp.none, Nat.le_refl, List.set_cons_succ, fillA, chunks, ivs, AV.iv, mkE, List.replicate_one, List.flatten_cons, List.flatten_nil, Nat.zero_mul, Nat.zero_add, Nat.mul_one, eqB_ne hne, eqB_ne hxy, Bool.not_false]
      · rw [show decide ((i : Int) < (xs.length : Int)) = false by simpa using hlt]
        simp only [↓evs, evp, boxK, ↓a1_still, stillV, ev, argE, List.getD_cons_zero, List.getD_cons_succ, Nat.reduceEqDiff, if_false, if_true, Nat.reduceLT, Nat.reduceLeDiff, Nat.reduceAdd, Nat.reduceMul, true_and, and_true, List.length_map, binV, AV.cells, List.length_cons, List.length_nil, upd_at, Lb.loc.injEq, ↓af_still, ↓af_load, ↓af_store, ↓af_app, ↓af_new, ↓af_box, loadV, storeV, ldV, List.getElem?_cons_zero, List.getElem?_cons_succ, Option.bind_some, Option.map_some, List.map_cons, List.map_nil, Int.natCast_nonneg, Int.toNat_natCast, AV.stb, AV.one, List.all_cons, List.all_nil, Bool.and_self, Bool.and_true, Bool.true_and, List.take_succ_cons, List.take_zero, List.drop_succ_cons, List.drop_zero, List.cons_append, List.nil_append, List.append_nil, List.set_cons_zero, IV.av1, Lb.app, Lb.fresh, fam_loc, fam_par, fam_gen, fam_nest, reduceCtorEq, Bool.false_eq_true, List.take, List.drop, List.mem_cons, List.not_mem_nil, or_false, ptrL, appL, forall_eq, false_implies, implies_true, ev, Hp.none, Nat.le_refl, List.set_cons_succ, fillA, chunks, ivs, AV.iv, mkE, List.replicate_one, List.flatten_cons, List.flatten_nil, Nat.zero_mul, Nat.zero_add, Nat.mul_one]
        have : xs = ys := List.ext_getElem? fun j => by
          by_cases hj : j < i
          · exact hs j hj
          · rw [List.getElem?_eq_none (by omega), List.getElem?_eq_none (by omega)]
        rw [this, eqB_self]
  · rw [show ((xs.length : Int) != (ys.length : Int)) = true by simp; omega]
    have : xs ≠ ys := fun e => hl (by rw [e])
    simp only [↓evs, evp, boxK, ↓a1_still, stillV, ev, argE, List.getD_cons_zero, List.getD_cons_succ, Nat.reduceEqDiff, if_false, if_true, Nat.reduceLT, Nat.reduceLeDiff, Nat.reduceAdd, Nat.reduceMul, true_and, and_true, List.length_map, binV, AV.cells, List.length_cons, List.length_nil, upd_at, Lb.loc.injEq, ↓af_still, ↓af_load, ↓af_store, ↓af_app, ↓af_new, ↓af_box, loadV, storeV, ldV, List.getElem?_cons_zero, List.getElem?_cons_succ, Option.bind_some, Option.map_some, List.map_cons, List.map_nil, Int.natCast_nonneg, Int.toNat_natCast, AV.stb, AV.one, List.all_cons, List.all_nil, Bool.and_self, Bool.and_true, Bool.true_and, List.take_succ_cons, List.take_zero, List.drop_succ_cons, List.drop_zero, List.cons_append, List.nil_append, List.append_nil, List.set_cons_zero, IV.av1, Lb.app, Lb.fresh, fam_loc, fam_par, fam_gen, fam_nest, reduceCtorEq, Bool.false_eq_true, List.take, List.drop, List.mem_cons, List.not_mem_nil, or_false, ptrL, appL, forall_eq, false_implies, implies_true, ev, Hp.none, Nat.le_refl, List.set_cons_succ, fillA, chunks, ivs, AV.iv, mkE, List.replicate_one, List.flatten_cons, List.flatten_nil, Nat.zero_mul, Nat.zero_add, Nat.mul_one, eqB_ne this]
def cSameTree (fAttrs fTrees : Nat) : AC :=
(.seq
  (.reg [
    ⟨(some 2), none, (.box (.t 0))⟩,
    ⟨(some 3), none, (.box (.t 1))⟩,
    ⟨(some 4), none, (.mov (.c (.bool false)))⟩])
(.seq
  (.reg [
    ⟨(some 5), none, (.fld (.t 2) 0)⟩,
    ⟨(some 6), none, (.load none (.t 5))⟩,
    ⟨(some 7), none, (.fld (.t 3) 0)⟩,
    ⟨(some 8), none, (.load none (.t 7))⟩,
    ⟨(some 9), none, (.eqb false (.t 6) (.t 8))⟩,
    ⟨(some 10), none, (.mov (.t 9))⟩,
    ⟨(some 11), (some (10, true)), (.fld (.t 2) 1)⟩,
    ⟨(some 12), (some (10, true)), (.load none (.t 11))⟩,
    ⟨(some 13), (some (10, true)), (.fld (.t 3) 1)⟩,
    ⟨(some 14), (some (10, true)), (.load none (.t 13))⟩,
    ⟨(some 15), (some (10, true)), (.bin .eql (.t 12) (.t 14))⟩,
    ⟨(some 16), none, (.pick (.t 10) (.t 15) (.c (.bool false)))⟩,
    ⟨(some 17), none, (.mov (.t 16))⟩,
    ⟨(some 18), (some (17, true)), (.fld (.t 2) 2)⟩,
    ⟨(some 19), (some (17, true)), (.load none (.t 18))⟩,
    ⟨(some 20), (some (17, true)), (.fld (.t 3) 2)⟩,
    ⟨(some 21), (some (17, true)), (.load none (.t 20))⟩,
    ⟨(some 22), (some (17, true)), (.call fAttrs [(.t 19), (.t 21)])⟩,
    ⟨(some 23), none, (.pick (.t 17) (.t 22) (.c (.bool false)))⟩,
    ⟨(some 24), none, (.mov (.t 23))⟩,
    ⟨(some 25), (some (24, true)), (.fld (.t 2) 3)⟩,
    ⟨(some 26), (some (24, true)), (.load none (.t 25))⟩,
    ⟨(some 27), (some (24, true)), (.fld (.t 3) 3)⟩,
    ⟨(some 28), (some (24, true)), (.load none (.t 27))⟩,
    ⟨(some 29), (some (24, true)), (.call fTrees [(.t 26), (.t 28)])⟩,
    ⟨(some 30), none, (.pick (.t 24) (.t 29) (.c (.bool false)))⟩,
    ⟨(some 4), none, (.mov (.t 30))⟩])
.ret))
theorem pSameTree {P : Program} {G : Nat → Option (List IV)} {f g h : Nat} (hF : compF P G f = some (31, [(none, 4)], (cSameTree g h).bare)) (x y : Tree)
    (hg : PureC P G g [.list (ivA x.attrs), .list (ivA y.attrs)] (.bool (eqB x.attrs y.attrs))) (hh : PureC P G h [.list (ivT x.kids), .list (ivT y.kids)] (.bool (eqB x.kids y.kids))) :
    PureC P G f [x.av, y.av] (.bool (eqB x y)) := by
  refine pure_of_go hF (by simp) (by simp [lbss, AV.lbs, Tree.av]) (by simp [AV.lbs]) ?_
  unfold cSameTree
  simp only [↓evs, evp, boxK, ↓a1_still, stillV, ev, argE, List.getD_cons_zero, List.getD_cons_succ, Nat.reduceEqDiff, if_false, if_true, Nat.reduceLT, Nat.reduceLeDiff, Nat.reduceAdd, Nat.reduceMul, true_and, and_true, List.length_map, binV, AV.cells, List.length_cons, List.length_nil, upd_at, Lb.loc.injEq, ↓af_still, ↓af_load, ↓af_store, ↓af_app, ↓af_new, ↓af_box, loadV, storeV, ldV, List.getElem?_cons_zero, List.getElem?_cons_succ, Option.bind_some, Option.map_some, List.map_cons, List.map_nil, Int.natCast_nonneg, Int.toNat_natCast, AV.stb, AV.one, List.all_cons, List.all_nil, Bool.and_self, Bool.and_true, Bool.true_and, List.take_succ_cons, List.take_zero, List.drop_succ_cons, List.drop_zero, List.cons_append, List.nil_append, List.append_nil, List.set_cons_zero, IV.av1, Lb.app, Lb.fresh, fam_loc, fam_par, fam_gen, fam_nest, reduceCtorEq, Bool.false_eq_true, List.take, List.drop, List.mem_cons, List.not_mem_nil, or_false, ptrL, appL, forall_eq, false_implies, implies_true, ev, Hp.none, Nat.le_refl, List.set_cons_succ, fillA, chunks, ivs, AV.iv, mkE, List.replicate_one, List.flatten_cons, List.flatten_nil, Nat.zero_mul, Nat.zero_add, Nat.mul_one, Tree.av]
  refine ⟨le_max (by decide), le_max (by decide), ?_⟩
  by_cases h1 : x.text = y.text
  · rw [h1, show (false ^^ (y.text == y.text)) = true by simp]
    by_cases h2 : x.s = y.s
    · simp only [↓evs, evp, boxK, ↓a1_still, stillV, ev, argE, List.getD_cons_zero, List.getD_cons_succ, Nat.reduceEqDiff, if_false, if_true, Nat.reduceLT, Nat.reduceLeDiff, Nat.reduceAdd, Nat.reduceMul, true_and, and_true, List.length_map, binV, AV.cells, List.length_cons, List.length_nil, upd_at, Lb.loc.injEq, ↓af_still, ↓af_load, ↓af_store, ↓af_app, ↓af_new, ↓af_box, loadV, storeV, ldV, List.getElem?_cons_zero, List.getElem?_cons_succ, Option.bind_some, Option.map_some, List.map_cons, List.map_nil, Int.natCast_nonneg, Int.toNat_natCast, AV.stb, AV.one, List.all_cons, List.all_nil, Bool.and_self, Bool.and_true, Bool.true_and, List.take_succ_cons, List.take_zero, List.drop_succ_cons, List.drop_zero, List.cons_append, List.nil_append, List.append_nil, List.set_cons_zero, IV.av1, Lb.app, Lb.fresh, fam_loc, fam_par, fam_gen, fam_nest, reduceCtorEq, Bool.false_eq_true, List.take, List.drop, List.mem_cons, List.not_mem_nil, or_false, ptrL, appL, forall_eq, false_implies, implies_true, ev, Hp.none, Nat.le_refl, List.set_cons_succ, fillA, chunks, ivs, AV.iv, mkE, List.replicate_one, List.flatten_cons, List.flatten_nil, Nat.zero_mul, Nat.zero_add, Nat.mul_one, h2, beq_self_eq_true]
      refine callT_pure hg ?_
      by_cases h3 : x.attrs = y.attrs
      · simp only [↓evs, evp, boxK, ↓a1_still, stillV, ev, argE, List.getD_cons_zero, List.getD_cons_succ, Nat.reduceEqDiff, if_false, if_true, Nat.reduceLT, Nat.reduceLeDiff, Nat.reduceAdd, Nat.reduceMul, true_and, and_true, List.length_map, binV, AV.cells, List.length_cons, List.length_nil, upd_at, Lb.loc.injEq, ↓af_still, ↓af_load, ↓af_store, ↓af_app, ↓af_new, ↓af_box, loadV, storeV, ldV, List.getElem?_cons_zero, List.getElem?_cons_succ, Option.bind_some, Option.map_some, List.map_cons, List.map_nil, Int.natCast_nonneg, Int.toNat_natCast, AV.stb, AV.one, List.all_cons, List.all_nil, Bool.and_self, Bool.and_true, Bool.true_and, List.take_succ_cons, List.take_zero, List.drop_succ_cons, List.drop_zero, List.cons_append, List.nil_append, List.append_nil, List.set_cons_zero, IV.av1, Lb.app, Lb.fresh, fam_loc, fam_par, fam_gen, fam_nest, reduceCtorEq, Bool.false_eq_true, List.take, List.drop, List.mem_cons, List.not_mem_nil, or_false, ptrL, appL, forall_eq, false_implies, implies_true, ev, Hp.none, Nat.le_refl, List.set_cons_succ, fillA, chunks, ivs, AV.iv, mkE, List.replicate_one, List.flatten_cons, List.flatten_nil, Nat.zero_mul, Nat.zero_add, Nat.mul_one, h3, eqB_self]
        refine callT_pure hh ?_
        by_cases h4 : x.kids = y.kids
        · have : x = y := Tree.ext h1 h2 h3 h4
          subst this
          simp only [↓evs, evp, boxK, ↓a1_still, stillV, ev, argE, List.getD_cons_zero, List.getD_cons_succ, Nat.reduceEqDiff, if_false, if_true, Nat.reduceLT, Nat.reduceLeDiff, Nat.reduceAdd, Nat.reduceMul, true_and, and_true, List.length_map, binV, AV.cells, List.length_cons, List.length_nil, upd_at, Lb.loc.injEq, ↓af_still, ↓af_load, ↓af_store, ↓af_app, ↓af_new, ↓af_box, loadV, storeV, ldV, List.getElem?_cons_zero, List.getElem?_cons_succ, Option.bind_some, Option.map_some, List.map_cons, List.map_nil, Int.natCast_nonneg, Int.toNat_natCast, AV.stb, AV.one, List.all_cons, List.all_nil, Bool.and_self, Bool.and_true, Bool.true_and, List.take_succ_cons, List.take_zero, List.drop_succ_cons, List.drop_zero, List.cons_append, List.nil_append, List.append_nil, List.set_cons_zero, IV.av1, Lb.app, Lb.fresh, fam_loc, fam_par, fam_gen, fam_nest, reduceCtorEq, Bool.false_eq_true, List.take, List.drop, List.mem_cons, List.not_mem_nil, or_false, ptrL, appL, forall_eq, false_implies, implies_true, ev, Hp.none, Nat.le_refl, List.set_cons_succ, fillA, chunks, ivs, AV.iv, mkE, List.replicate_one, List.flatten_cons, List.flatten_nil, Nat.zero_mul, Nat.zero_add, Nat.mul_one, eqB_self]
        · have : x ≠ y := fun e => h4 (by rw [e])
          simp only [↓evs, evp, boxK, ↓a1_still, stillV, ev, argE, List.getD_cons_zero, List.getD_cons_succ, Nat.reduceEqDiff, if_false, if_true, Nat.reduceLT, Nat.reduceLeDiff, Nat.reduceAdd, Nat.reduceMul, true_and, and_true, List.length_map, binV, AV.cells, List.length_cons, List.length_nil, upd_at, Lb.loc.injEq, ↓af_still, ↓af_load, ↓af_store, ↓af_app, ↓af_new, ↓af_box, loadV, storeV, ldV, List.getElem?_cons_zero, List.getElem?_cons_succ, Option.bind_some, Option.map_some, List.map_cons, List.map_nil, Int.natCast_nonneg, Int.toNat_natCast, AV.stb, AV.one, List.all_cons, List.all_nil, Bool.and_self, Bool.and_true, Bool.true_and, List.take_succ_cons, List.take_zero, List.drop_succ_cons, List.drop_zero, List.cons_append, List.nil_append, List.append_nil, List.set_cons_zero, IV.av1, Lb.app, Lb.fresh, fam_loc, fam_par, fam_gen, fam_nest, reduceCtorEq, Bool.false_eq_true, List.take, List.drop, List.mem_cons, List.not_mem_nil, or_false, ptrL, appL, forall_eq, false_implies, implies_true, ev, Hp.none, Nat.le_refl, List.set_cons_succ, fillA, chunks, ivs, AV.iv, mkE, List.replicate_one, List.flatten_cons, List.flatten_nil, Nat.zero_mul, Nat.zero_add, Nat.mul_one, eqB_ne h4, eqB_ne this]
      · have : x ≠ y := fun e => h3 (by rw [e])
        simp only [↓evs, evp, boxK, ↓a1_still, stillV, ev, argE, List.getD_cons_zero, List.getD_cons_succ, Nat.reduceEqDiff, if_false, if_true, Nat.reduceLT, Nat.reduceLeDiff, Nat.reduceAdd, Nat.reduceMul, true_and, and_true, List.length_map, binV, AV.cells, List.length_cons, List.length_nil, upd_at, Lb.loc.injEq, ↓af_still, ↓af_load, ↓af_store, ↓af_app, ↓af_new, ↓af_box, loadV, storeV, ldV, List.getElem?_cons_zero, List.getElem?_cons_succ, Option.bind_some, Option.map_some, List.map_cons, List.map_nil, Int.natCast_nonneg, Int.toNat_natCast, AV.stb, AV.one, List.all_cons, List.all_nil, Bool.and_self, Bool.and_true, Bool.true_and, List.take_succ_cons, List.take_zero, List.drop_succ_cons, List.drop_zero, List.cons_append, List.nil_append, List.append_nil, List.set_cons_zero, IV.av1, Lb.app, Lb.fresh, fam_loc, fam_par, fam_gen, fam_nest, reduceCtorEq, Bool.false_eq_true, List.take, List.drop, List.mem_cons, List.not_mem_nil, or_false, ptrL, appL, forall_eq, false_implies, implies_true, ev, Hp.none, Nat.le_refl, List.set_cons_succ, fillA, chunks, ivs, AV.iv, mkE, List.replicate_one, List.flatten_cons, List.flatten_nil, Nat.zero_mul, Nat.zero_add, Nat.mul_one, eqB_ne h3, eqB_ne this]
    · have : x ≠ y := fun e => h2 (by rw [e])
      simp only [↓evs, evp, boxK, ↓a1_still, stillV, ev, argE, List.getD_cons_zero, List.getD_cons_succ, Nat.reduceEqDiff, if_false, if_true, Nat.reduceLT, Nat.reduceLeDiff, Nat.reduceAdd, Nat.reduceMul, true_and, and_true, List.length_map, binV, AV.cells, List.length_cons, List.length_nil, upd_at, Lb.loc.injEq, ↓af_still, ↓af_load, ↓af_store, ↓af_app, ↓af_new, ↓af_box, loadV, storeV, ldV, List.getElem?_cons_zero, List.getElem?_cons_succ, Option.bind_some, Option.map_some, List.map_cons, List.map_nil, Int.natCast_nonneg, Int.toNat_natCast, AV.stb, AV.one, List.all_cons, List.all_nil, Bool.and_self, Bool.and_true, Bool.true_and, List.take_succ_cons, List.take_zero, List.drop_succ_cons, List.drop_zero, List.cons_append, List.nil_append, List.append_nil, List.set_cons_zero, IV.av1, Lb.app, Lb.fresh, fam_loc, fam_par, fam_gen, fam_nest, reduceCtorEq, Bool.false_eq_true, List.take, List.drop, List.mem_cons, List.not_mem_nil, or_false, ptrL, appL, forall_eq, false_implies, implies_true, ev, Hp.none, Nat.le_refl, List.set_cons_succ, fillA, chunks, ivs, AV.iv, mkE, List.replicate_one, List.flatten_cons, List.flatten_nil, Nat.zero_mul, Nat.zero_add, Nat.mul_one, eqB_ne this, beq_false_of_ne h2]
  · have : x ≠ y := fun e => h1 (by rw [e])
    rw [show (false ^^ (x.text == y.text)) = false by simpa using h1]
    simp only [↓evs, evp, boxK, ↓a1_still, stillV, ev, argE, List.getD_cons_zero, List.getD_cons_succ, Nat.reduceEqDiff, if_false, if_true, Nat.reduceLT, Nat.reduceLeDiff, Nat.reduceAdd, Nat.reduceMul, true_and, and_true, List.length_map, binV, AV.cells, List.length_cons, List.length_nil, upd_at, Lb.loc.injEq, ↓af_still, ↓af_load, ↓af_store, ↓af_app, ↓af_new, ↓af_box, loadV, storeV, ldV, List.getElem?_cons_zero, List.getElem?_cons_succ, Option.bind_some, Option.map_some, List.map_cons, List.map_nil, Int.natCast_nonneg, Int.toNat_natCast, AV.stb, AV.one, List.all_cons, List.all_nil, Bool.and_self, Bool.and_true, Bool.true_and, List.take_succ_cons, List.take_zero, List.drop_succ_cons, List.drop_zero, List.cons_append, List.nil_append, List.append_nil, List.set_cons_zero, IV.av1, Lb.app, Lb.fresh, fam_loc, fam_par, fam_gen, fam_nest, reduceCtorEq, Bool.false_eq_true, List.take, List.drop, List.mem_cons, List.not_mem_nil, or_false, ptrL, appL, forall_eq, false_implies, implies_true, ev, Hp.none, Nat.le_refl, List.set_cons_succ, fillA, chunks, ivs, AV.iv, mkE, List.replicate_one, List.flatten_cons, List.flatten_nil, Nat.zero_mul, Nat.zero_add, Nat.mul_one, eqB_ne this]
/-- SameTrees, SameTree: they compare. -/
theorem wSame {P : Program} {G : Nat → Option (List IV)} {fA fT fTs : Nat} (hA : compF P G fA = some (26, [(none, 4)], cSameAttrs.bare)) (hT : compF P G fT = some (31, [(none, 4)], (cSameTree fA fTs).bare))
    (hTs : compF P G fTs = some (27, [(none, 4)], (cSameTrees fT).bare)) : ∀ (n : Nat) (xs ys : List Tree), wtT xs ≤ n → wtT xs ≤ B → PureC P G fTs [.list (ivT xs), .list (ivT ys)] (.bool (eqB xs ys)) := by
  intro n
  induction n with
  | zero =>
    intro xs ys hn hB
    refine pSameTrees hTs xs ys (Nat.le_trans (wtT_len xs) hB) fun x hx y hy => ?_
    obtain ⟨i, hi⟩ := List.getElem?_of_mem hx
    have := wtT_get xs i x hi
    have := x.wt_eq
    omega
  | succ n ih =>
    intro xs ys hn hB
    refine pSameTrees hTs xs ys (Nat.le_trans (wtT_len xs) hB) fun x hx y hy => ?_
    obtain ⟨i, hi⟩ := List.getElem?_of_mem hx
    have h1 := wtT_get xs i x hi
    have h2 := x.wt_eq
    have h3 := wtA_len x.attrs
    exact pSameTree hT x y (pSameAttrs hA _ _ (by omega)) (ih _ _ (by omega) (by omega))
/-- CopyTrees, CopyTree: they copy. -/
theorem wCopy {P : Program} {G : Nat → Option (List IV)} {fT fTs : Nat} (hT : compF P G fT = some (12, [((some (some 4)), 2)], (cCopyTree fTs).bare))
    (hTs : compF P G fTs = some (19, [(none, 2)], (cCopyTrees fT).bare)) : ∀ (n : Nat) (xs : List Tree), wtT xs ≤ n → wtT xs ≤ B → PureC P G fTs [.list (ivT xs)] (.list (ivT xs)) := by
  intro n
  induction n with
  | zero =>
    intro xs hn hB
    refine pCopyTrees hTs xs hB fun x hx => ?_
    obtain ⟨i, hi⟩ := List.getElem?_of_mem hx
    have := wtT_get xs i x hi
    have := x.wt_eq
    omega
  | succ n ih =>
    intro xs hn hB
    refine pCopyTrees hTs xs hB fun x hx => ?_
    obtain ⟨i, hi⟩ := List.getElem?_of_mem hx
    have h1 := wtT_get xs i x hi
    have h2 := x.wt_eq
    exact pCopyTree hT x (by omega) (ih _ (by omega) (by omega))
end Go.Am
