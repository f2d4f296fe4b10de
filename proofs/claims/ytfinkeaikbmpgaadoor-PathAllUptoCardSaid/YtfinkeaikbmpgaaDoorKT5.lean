import Derived.Test.YtfinkeaikbmpgaaDoorKAm33
set_option linter.unusedSimpArgs false
set_option linter.unusedVariables false
set_option linter.unnecessarySimpa false
set_option linter.defProp false
/- Attributes that are good. -/
namespace Go.Am
open Go Go.RowKit
def okAttr (as : List Attr) (i : Nat) : Bool :=
  match as[i]? with
  | some a => named a.name && (plain a.val && (i == 0 || match as[i - 1]? with | some p => Op.bytesLess p.name a.name | none => true))
  | none => true
def goodAttrs (as : List Attr) : Bool := (List.range as.length).all (okAttr as) && decide ((as.length : Int) ≤ 4)
def cGoodAttrs (fN fP : Nat) : AC :=
(.seq
  (.reg [
    ⟨(some 2), none, (.mov (.c (.bool false)))⟩])
(.seq
  (.seq
    (.reg [
      ⟨(some 5), none, (.mov (.t 0))⟩,
      ⟨(some 6), none, (.len (.t 5))⟩,
      ⟨(some 7), none, (.mov (.c (.int .i64 0)))⟩])
  (.block 0
    (.loop
      (.seq
        (.reg [
          ⟨(some 8), none, (.bin .lss (.t 7) (.t 6))⟩])
      (.seq
        (.cond (.t 8)
          .skip
          (.exit 0))
      (.seq
        (.block 1
          (.seq
            (.reg [
              ⟨(some 9), none, (.mov (.t 7))⟩,
              ⟨(some 10), none, (.ixa (.t 5) (.t 7) 2)⟩,
              ⟨(some 11), none, (.load (some 2) (.t 10))⟩,
              ⟨(some 4), none, (.new [(.str []), (.str [])])⟩,
              ⟨(some 3), none, (.mov (.t 9))⟩,
              ⟨none, none, (.store 2 (.t 4) (.t 11))⟩])
          (.seq
            (.dreg [
              ⟨(some 12), none, (.fld (.t 4) 0)⟩,
              ⟨(some 13), none, (.load none (.t 12))⟩,
              ⟨(some 14), none, (.call fN [(.t 13)])⟩,
              ⟨(some 15), none, (.not (.t 14))⟩,
              ⟨(some 16), none, (.mov (.t 15))⟩,
              ⟨(some 17), (some (16, false)), (.fld (.t 4) 1)⟩,
              ⟨(some 18), (some (16, false)), (.load none (.t 17))⟩,
              ⟨(some 19), (some (16, false)), (.call fP [(.t 18)])⟩,
              ⟨(some 20), (some (16, false)), (.not (.t 19))⟩,
              ⟨(some 21), none, (.pick (.t 16) (.c (.bool true)) (.t 20))⟩,
              ⟨(some 22), none, (.mov (.t 21))⟩,
              ⟨(some 23), (some (22, false)), (.mov (.t 3))⟩,
              ⟨(some 24), (some (22, false)), (.bin .gtr (.t 23) (.c (.int .i64 0)))⟩,
              ⟨(some 25), (some (22, false)), (.mov (.t 24))⟩,
              ⟨(some 26), (some (25, true)), (.mov (.t 0))⟩,
              ⟨(some 27), (some (25, true)), (.mov (.t 3))⟩,
              ⟨(some 28), (some (25, true)), (.bin .sub (.t 27) (.c (.int .i64 1)))⟩,
              ⟨(some 29), (some (25, true)), (.ixa (.t 26) (.t 28) 2)⟩,
              ⟨(some 30), (some (25, true)), (.fld (.t 29) 0)⟩,
              ⟨(some 31), (some (25, true)), (.load none (.t 30))⟩,
              ⟨(some 32), (some (25, true)), (.fld (.t 4) 0)⟩,
              ⟨(some 33), (some (25, true)), (.load none (.t 32))⟩,
              ⟨(some 34), (some (25, true)), (.bin .geq (.t 31) (.t 33))⟩,
              ⟨(some 35), (some (22, false)), (.pick (.t 25) (.t 34) (.c (.bool false)))⟩,
              ⟨(some 36), none, (.pick (.t 22) (.c (.bool true)) (.t 35))⟩]
              [[], [0], [1], [2], [3, 2], [4], [5, 4], [6, 4, 4], [7, 4], [4, 8], [9, 7], [10], [11, 10], [12, 10, 10], [13], [13], [15, 13], [14, 16, 13], [17, 13], [18, 13], [13], [20, 13], [19, 21, 13], [13, 22, 10], [10, 23]]
              [.no, .rw [.loc 4] [], .no, .no, .no, .no, .rw [.loc 4] [], .no, .no, .no, .no, .no, .no, .no, .no, .no, .no, .no, .no, .no, .no, .rw [.loc 4] [], .no, .no, .no])
          (.cond (.t 36)
            (.seq
              (.reg [
                ⟨(some 2), none, (.mov (.c (.bool false)))⟩])
            .ret)
            .skip))))
      (.reg [
        ⟨(some 37), none, (.bin .add (.t 7) (.c (.int .i64 1)))⟩,
        ⟨(some 7), none, (.mov (.t 37))⟩])))))))
(.seq
  (.reg [
    ⟨(some 38), none, (.mov (.t 0))⟩,
    ⟨(some 39), none, (.len (.t 38))⟩,
    ⟨(some 40), none, (.bin .leq (.t 39) (.c (.int .i64 4)))⟩,
    ⟨(some 2), none, (.mov (.t 40))⟩])
.ret)))
def eGoodAttrs (as : List Attr) (i : Nat) : Env := put (put (put (put Env.any 0 (.list (ivA as))) 5 (.list (ivA as))) 6 (.int .i64 as.length)) 7 (.int .i64 i)
/-- The rows that this call has made are forgotten. -/
theorem Wk.drop {env env2 : Env} {H : Hp} (e : ∀ n, env2 n = .any ∨ env n = ren id (env2 n)) (m : ∀ n, ∀ l ∈ (env2 n).lbs, Hp.none l ≠ .unused) (hn : ∀ l : Lb, l.fresh = false → H l = .unused) : Wk id env H env2 Hp.none :=
  ⟨e, fun l r h => by simp [Hp.none] at h, fun _ _ ⟨r, h⟩ => by simp [Hp.none] at h, m, fun l r h => by simp [Hp.none] at h, fun l hl => ⟨fun h => absurd (hn l hl) h, fun _ => rfl⟩, fun l ⟨r, h⟩ => by simp [Hp.none] at h⟩
theorem range_not {p : Nat → Bool} {n i : Nat} (hi : i < n) (hp : p i = false) : (List.range n).all p = false := by
  cases h : (List.range n).all p with
  | false => rfl
  | true =>
    have := List.all_eq_true.1 h i (by simpa using hi)
    rw [hp] at this; exact this.symm
theorem pGoodAttrs {P : Program} {G : Nat → Option (List IV)} {f fN fP : Nat} (hF : compF P G f = some (41, [(none, 2)], (cGoodAttrs fN fP).bare)) (as : List Attr) (hx : as.length ≤ B)
    (hN : ∀ a ∈ as, PureC P G fN [.str a.name] (.bool (named a.name))) (hP : ∀ a ∈ as, PureC P G fP [.str a.val] (.bool (plain a.val))) :
    PureC P G f [.list (ivA as)] (.bool (goodAttrs as)) := by
  refine pure_of_go hF (by simp) (by simp [lbss, AV.lbs]) (by simp [AV.lbs]) ?_
  unfold cGoodAttrs
  simp only [↓evs, evp, boxK, ↓a1_still, stillV, ev, argE, List.getD_cons_zero, List.getD_cons_succ, Nat.reduceEqDiff, if_false, if_true, Nat.reduceLT, Nat.reduceLeDiff, Nat.reduceAdd, Nat.reduceMul, true_and, and_true, List.length_map, binV, AV.cells, List.length_cons, List.length_nil, upd_at, Lb.loc.injEq, ↓af_still, ↓af_load, ↓af_store, ↓af_app, ↓af_new, ↓af_box, loadV, storeV, ldV, List.getElem?_cons_zero, List.getElem?_cons_succ, Option.bind_some, Option.map_some, List.map_cons, List.map_nil, Int.natCast_nonneg, Int.toNat_natCast, AV.stb, AV.one, List.all_cons, List.all_nil, Bool.and_self, Bool.and_true, Bool.true_and, List.take_succ_cons, List.take_zero, List.drop_succ_cons, List.drop_zero, List.cons_append, List.nil_append, List.append_nil, List.set_cons_zero, IV.av1, Lb.app, Lb.fresh, fam_loc, fam_par, fam_gen, fam_nest, reduceCtorEq, Bool.false_eq_true, List.take, List.drop, List.mem_cons, List.not_mem_nil, or_false, ptrL, appL, forall_eq, false_implies, implies_true, ev, Hp.none, Nat.le_refl, List.set_cons_succ, fillA, chunks, ivs, AV.iv, mkE, List.replicate_one, List.flatten_cons, List.flatten_nil, Nat.zero_mul, Nat.zero_add, Nat.mul_one, ivA_len]
  refine loop_intro (σ := { i : Nat // i ≤ as.length ∧ ∀ j, j < i → okAttr as j = true }) (fun q => eGoodAttrs as q.1) (fun _ => Hp.none) (fun q => as.length - q.1) ⟨0, by simp⟩ id ?_ ?_
  · refine .none ?_ ?_
    · exact we_put rfl (we_put rfl (we_put rfl (we_put rfl (we_any _ _))))
    · exact wm_put (by simp [AV.lbs]) (wm_put (by simp [AV.lbs]) (wm_put (by simp [AV.lbs]) (wm_put (by simp [AV.lbs]) (wm_any _))))
  · rintro ⟨i, hi, hs⟩
    simp only [↓evs, evp, boxK, ↓a1_still, stillV, ev, argE, List.getD_cons_zero, List.getD_cons_succ, Nat.reduceEqDiff, if_false, if_true, Nat.reduceLT, Nat.reduceLeDiff, Nat.reduceAdd, Nat.reduceMul, true_and, and_true, List.length_map, binV, AV.cells, List.length_cons, List.length_nil, upd_at, Lb.loc.injEq, ↓af_still, ↓af_load, ↓af_store, ↓af_app, ↓af_new, ↓af_box, loadV, storeV, ldV, List.getElem?_cons_zero, List.getElem?_cons_succ, Option.bind_some, Option.map_some, List.map_cons, List.map_nil, Int.natCast_nonneg, Int.toNat_natCast, AV.stb, AV.one, List.all_cons, List.all_nil, Bool.and_self, Bool.and_true, Bool.true_and, List.take_succ_cons, List.take_zero, List.drop_succ_cons, List.drop_zero, List.cons_append, List.nil_append, List.append_nil, List.set_cons_zero, IV.av1, Lb.app, Lb.fresh, fam_loc, fam_par, fam_gen, fam_nest, reduceCtorEq, Bool.false_eq_true, List.take, List.drop, List.mem_cons, List.not_mem_nil, or_false, ptrL, appL, forall_eq, false_implies, implies_true, ev, Hp.none, Nat.le_refl, List.set_cons_succ, fillA, chunks, ivs, AV.iv, mkE, List.replicate_one, List.flatten_cons, List.flatten_nil, Nat.zero_mul, Nat.zero_add, Nat.mul_one, eGoodAttrs, ivA_len]
    by_cases hlt : i < as.length
    · rw [show decide ((i : Int) < (as.length : Int)) = true by simpa using hlt]
      obtain ⟨a, ha⟩ : ∃ a, as[i]? = some a := ⟨_, List.getElem?_eq_getElem hlt⟩
      have hw : IntKind.i64.wrap ((i : Int) + 1) = ((i + 1 : Nat) : Int) := wrap64 (by omega) (by unfold B at hx; omega)
      simp only [↓evs, evp, boxK, ↓a1_still, stillV, ev, argE, List.getD_cons_zero, List.getD_cons_succ, Nat.reduceEqDiff, if_false, if_true, Nat.reduceLT, Nat.reduceLeDiff, Nat.reduceAdd, Nat.reduceMul, true_and, and_true, List.length_map, binV, AV.cells, List.length_cons, List.length_nil, upd_at, Lb.loc.injEq, ↓af_still, ↓af_load, ↓af_store, ↓af_app, ↓af_new, ↓af_box, loadV, storeV, ldV, List.getElem?_cons_zero, List.getElem?_cons_succ, Option.bind_some, Option.map_some, List.map_cons, List.map_nil, Int.natCast_nonneg, Int.toNat_natCast, AV.stb, AV.one, List.all_cons, List.all_nil, Bool.and_self, Bool.and_true, Bool.true_and, List.take_succ_cons, List.take_zero, List.drop_succ_cons, List.drop_zero, List.cons_append, List.nil_append, List.append_nil, List.set_cons_zero, IV.av1, Lb.app, Lb.fresh, fam_loc, fam_par, fam_gen, fam_nest, reduceCtorEq, Bool.false_eq_true, List.take, List.drop, List.mem_cons, List.not_mem_nil, or_false, ptrL, appL, forall_eq, false_implies, implies_true, ev, Hp.none, Nat.le_refl, List.set_cons_succ, fillA, chunks, ivs, AV.iv, mkE, List.replicate_one, List.flatten_cons, List.flatten_nil, Nat.zero_mul, Nat.zero_add, Nat.mul_one, ivA_get, ha, elszA, Attr.cells_eq, Attr.cs]
      refine ⟨le_max (by decide), rfl, puK_in (hN a (List.mem_of_getElem? ha)) ?_⟩
      have next : okAttr as i = true → ∃ q : { i : Nat // i ≤ as.length ∧ ∀ j, j < i → okAttr as j = true }, q.1 = i + 1 := fun hp => ⟨⟨i + 1, hlt, fun j hj => by
        by_cases e : j = i
        · rw [e]; exact hp
        · exact hs j (by omega)⟩, rfl⟩
      have stop : okAttr as i = false → goodAttrs as = false := fun hp => by rw [goodAttrs, range_not hlt hp]; rfl
      have hok : okAttr as i = (named a.name && (plain a.val && (i == 0 || match as[i - 1]? with | some p => Op.bytesLess p.name a.name | none => true))) := by unfold okAttr; rw [ha]
      cases h1 : named a.name with
      | false =>
        simp only [↓evs, evp, boxK, ↓a1_still, stillV, ev, argE, List.getD_cons_zero, List.getD_cons_succ, Nat.reduceEqDiff, if_false, if_true, Nat.reduceLT, Nat.reduceLeDiff, Nat.reduceAdd, Nat.reduceMul, true_and, and_true, List.length_map, binV, AV.cells, List.length_cons, List.length_nil, upd_at, Lb.loc.injEq, ↓af_still, ↓af_load, ↓af_store, ↓af_app, ↓af_new, ↓af_box, loadV, storeV, ldV, List.getElem?_cons_zero, List.getElem?_cons_succ, Option.bind_some, Option.map_some, List.map_cons, List.map_nil, Int.natCast_nonneg, Int.toNat_natCast, AV.stb, AV.one, List.all_cons, List.all_nil, Bool.and_self, Bool.and_true, Bool.true_and, List.take_succ_cons, List.take_zero, List.drop_succ_cons, List.drop_zero, List.cons_append, List.nil_append, List.append_nil, List.set_cons_zero, IV.av1, Lb.app, Lb.fresh, fam_loc, fam_par, fam_gen, fam_nest, reduceCtorEq, Bool.false_eq_true, List.take, List.drop, List.mem_cons, List.not_mem_nil, or_false, ptrL, appL, forall_eq, false_implies, implies_true, ev, Hp.none, Nat.le_refl, List.set_cons_succ, fillA, chunks, ivs, AV.iv, mkE, List.replicate_one, List.flatten_cons, List.flatten_nil, Nat.zero_mul, Nat.zero_add, Nat.mul_one, Bool.not_false]
        rw [stop (by rw [hok, h1]; rfl)]
      | true =>
        simp only [↓evs, evp, boxK, ↓a1_still, stillV, ev, argE, List.getD_cons_zero, List.getD_cons_succ, Nat.reduceEqDiff, if_false, if_true, Nat.reduceLT, Nat.reduceLeDiff, Nat.reduceAdd, Nat.reduceMul, true_and, and_true, List.length_map, binV, AV.cells, List.length_cons, List.length_nil, upd_at, Lb.loc.injEq, ↓af_still, ↓af_load, ↓af_store, ↓af_app, ↓af_new, ↓af_box, loadV, storeV, ldV, List.getElem?_cons_zero, List.getElem?_cons_succ, Option.bind_some, Option.map_some, List.map_cons, List.map_nil, Int.natCast_nonneg, Int.toNat_natCast, AV.stb, AV.one, List.all_cons, List.all_nil, Bool.and_self, Bool.and_true, Bool.true_and, List.take_succ_cons, List.take_zero, List.drop_succ_cons, List.drop_zero, List.cons_append, List.nil_append, List.append_nil, List.set_cons_zero, IV.av1, Lb.app, Lb.fresh, fam_loc, fam_par, fam_gen, fam_nest, reduceCtorEq, Bool.false_eq_true, List.take, List.drop, List.mem_cons, List.not_mem_nil, or_false, ptrL, appL, forall_eq, false_implies, implies_true, ev, Hp.none, Nat.le_refl, List.set_cons_succ, fillA, chunks, ivs, AV.iv, mkE, List.replicate_one, List.flatten_cons, List.flatten_nil, Nat.zero_mul, Nat.zero_add, Nat.mul_one, Bool.not_true]
        refine puK_in (hP a (List.mem_of_getElem? ha)) ?_
        cases h2 : plain a.val with
        | false =>
          simp only [↓evs, evp, boxK, ↓a1_still, stillV, ev, argE, List.getD_cons_zero, List.getD_cons_succ, Nat.reduceEqDiff, if_false, if_true, Nat.reduceLT, Nat.reduceLeDiff, Nat.reduceAdd, Nat.reduceMul, true_and, and_true, List.length_map, binV, AV.cells, List.length_cons, List.length_nil, upd_at, Lb.loc.injEq, ↓af_still, ↓af_load, ↓af_store, ↓af_app, ↓af_new, ↓af_box, loadV, storeV, ldV, List.getElem?_cons_zero, List.getElem?_cons_succ, Option.bind_some, Option.map_some, List.map_cons, List.map_nil, Int.natCast_nonneg, Int.toNat_natCast, AV.stb, AV.one, List.all_cons, List.all_nil, Bool.and_self, Bool.and_true, Bool.true_and, List.take_succ_cons, List.take_zero, List.drop_succ_cons, List.drop_zero, List.cons_append, List.nil_append, List.append_nil, List.set_cons_zero, IV.av1, Lb.app, Lb.fresh, fam_loc, fam_par, fam_gen, fam_nest, reduceCtorEq, Bool.false_eq_true, List.take, List.drop, List.mem_cons, List.not_mem_nil, or_false, ptrL, appL, forall_eq, false_implies, implies_true, ev, Hp.none, Nat.le_refl, List.set_cons_succ, fillA, chunks, ivs, AV.iv, mkE, List.replicate_one, List.flatten_cons, List.flatten_nil, Nat.zero_mul, Nat.zero_add, Nat.mul_one, Bool.not_false]
          rw [stop (by rw [hok, h1, h2]; rfl)]
        | true =>
          simp only [↓evs, evp, boxK, ↓a1_still, stillV, ev, argE, List.getD_cons_zero, List.getD_cons_succ, Nat.reduceEqDiff, if_false, if_true, Nat.reduceLT, Nat.reduceLeDiff, Nat.reduceAdd, Nat.reduceMul, true_and, and_true, List.length_map, binV, AV.cells, List.length_cons, List.length_nil, upd_at, Lb.loc.injEq, ↓af_still, ↓af_load, ↓af_store, ↓af_app, ↓af_new, ↓af_box, loadV, storeV, ldV, List.getElem?_cons_zero, List.getElem?_cons_succ, Option.bind_some, Option.map_some, List.map_cons, List.map_nil, Int.natCast_nonneg, Int.toNat_natCast, AV.stb, AV.one, List.all_cons, List.all_nil, Bool.and_self, Bool.and_true, Bool.true_and, List.take_succ_cons, List.take_zero, List.drop_succ_cons, List.drop_zero, List.cons_append, List.nil_append, List.append_nil, List.set_cons_zero, IV.av1, Lb.app, Lb.fresh, fam_loc, fam_par, fam_gen, fam_nest, reduceCtorEq, Bool.false_eq_true, List.take, List.drop, List.mem_cons, List.not_mem_nil, or_false, ptrL, appL, forall_eq, false_implies, implies_true, ev, Hp.none, Nat.le_refl, List.set_cons_succ, fillA, chunks, ivs, AV.iv, mkE, List.replicate_one, List.flatten_cons, List.flatten_nil, Nat.zero_mul, Nat.zero_add, Nat.mul_one, Bool.not_true]
          by_cases h3 : i = 0
          · subst h3
            rw [show decide (((0 : Nat) : Int) > 0) = false by simp]
            obtain ⟨q, hq⟩ := next (by rw [hok, h1, h2]; rfl)
            simp only [↓evs, evp, boxK, ↓a1_still, stillV, ev, argE, List.getD_cons_zero, List.getD_cons_succ, Nat.reduceEqDiff, if_false, if_true, Nat.reduceLT, Nat.reduceLeDiff, Nat.reduceAdd, Nat.reduceMul, true_and, and_true, List.length_map, binV, AV.cells, List.length_cons, List.length_nil, upd_at, Lb.loc.injEq, ↓af_still, ↓af_load, ↓af_store, ↓af_app, ↓af_new, ↓af_box, loadV, storeV, ldV, List.getElem?_cons_zero, List.getElem?_cons_succ, Option.bind_some, Option.map_some, List.map_cons, List.map_nil, Int.natCast_nonneg, Int.toNat_natCast, AV.stb, AV.one, List.all_cons, List.all_nil, Bool.and_self, Bool.and_true, Bool.true_and, List.take_succ_cons, List.take_zero, List.drop_succ_cons, List.drop_zero, List.cons_append, List.nil_append, List.append_nil, List.set_cons_zero, IV.av1, Lb.app, Lb.fresh, fam_loc, fam_par, fam_gen, fam_nest, reduceCtorEq, Bool.false_eq_true, List.take, List.drop, List.mem_cons, List.not_mem_nil, or_false, ptrL, appL, forall_eq, false_implies, implies_true, ev, Hp.none, Nat.le_refl, List.set_cons_succ, fillA, chunks, ivs, AV.iv, mkE, List.replicate_one, List.flatten_cons, List.flatten_nil, Nat.zero_mul, Nat.zero_add, Nat.mul_one, hw]
            refine ⟨q, by omega, id, .drop ?_ ?_ ?_⟩
            · rw [hq]; exact we_put rfl (we_put rfl (we_put rfl (we_put rfl (we_any _ _))))
            · exact wm_put (by simp [AV.lbs]) (wm_put (by simp [AV.lbs]) (wm_put (by simp [AV.lbs]) (wm_put (by simp [AV.lbs]) (wm_any _))))
            · exact nf_upd (nf_upd nf_none)
          · rw [show decide ((i : Int) > 0) = true by simp; omega]
            obtain ⟨p, hp⟩ : ∃ p, as[i - 1]? = some p := ⟨_, List.getElem?_eq_getElem (by omega)⟩
            have hw1 : IntKind.i64.wrap ((i : Int) - 1) = ((i - 1 : Nat) : Int) := by rw [wrap64 (by omega) (by unfold B at hx; omega)]; omega
            simp only [↓evs, evp, boxK, ↓a1_still, stillV, ev, argE, List.getD_cons_zero, List.getD_cons_succ, Nat.reduceEqDiff, if_false, if_true, Nat.reduceLT, Nat.reduceLeDiff, Nat.reduceAdd, Nat.reduceMul, true_and, and_true, List.length_map, binV, AV.cells, List.length_cons, List.length_nil, upd_at, Lb.loc.injEq, ↓af_still, ↓af_load, ↓af_store, ↓af_app, ↓af_new, ↓af_box, loadV, storeV, ldV, List.getElem?_cons_zero, List.getElem?_cons_succ, Option.bind_some, Option.map_some, List.map_cons, List.map_nil, Int.natCast_nonneg, Int.toNat_natCast, AV.stb, AV.one, List.all_cons, List.all_nil, Bool.and_self, Bool.and_true, Bool.true_and, List.take_succ_cons, List.take_zero, List.drop_succ_cons, List.drop_zero, List.cons_append, List.nil_append, List.append_nil, List.set_cons_zero, IV.av1, Lb.app, Lb.fresh, fam_loc, fam_par, fam_gen, fam_nest, reduceCtorEq, Bool.false_eq_true, List.take, List.drop, List.mem_cons, List.not_mem_nil, or_false, ptrL, appL, forall_eq, false_implies, implies_true, ev, Hp.none, Nat.le_refl, List.set_cons_succ, fillA, chunks, ivs, AV.iv, mkE, List.replicate_one, List.flatten_cons, List.flatten_nil, Nat.zero_mul, Nat.zero_add, Nat.mul_one, hw1, ivA_get, hp, elszA, Attr.cells_eq, Attr.cs]
            cases h4 : Op.bytesLess p.name a.name with
            | false =>
              simp only [↓evs, evp, boxK, ↓a1_still, stillV, ev, argE, List.getD_cons_zero, List.getD_cons_succ, Nat.reduceEqDiff, if_false, if_true, Nat.reduceLT, Nat.reduceLeDiff, Nat.reduceAdd, Nat.reduceMul, true_and, and_true, List.length_map, binV, AV.cells, List.length_cons, List.length_nil, upd_at, Lb.loc.injEq, ↓af_still, ↓af_load, ↓af_store, ↓af_app, ↓af_new, ↓af_box, loadV, storeV, ldV, List.getElem?_cons_zero, List.getElem?_cons_succ, Option.bind_some, Option.map_some, List.map_cons, List.map_nil, Int.natCast_nonneg, Int.toNat_natCast, AV.stb, AV.one, List.all_cons, List.all_nil, Bool.and_self, Bool.and_true, Bool.true_and, List.take_succ_cons, List.take_zero, List.drop_succ_cons, List.drop_zero, List.cons_append, List.nil_append, List.append_nil, List.set_cons_zero, IV.av1, Lb.app, Lb.fresh, fam_loc, fam_par, fam_gen, fam_nest, reduceCtorEq, Bool.false_eq_true, List.take, List.drop, List.mem_cons, List.not_mem_nil, or_false, ptrL, appL, forall_eq, false_implies, implies_true, ev, Hp.none, Nat.le_refl, List.set_cons_succ, fillA, chunks, ivs, AV.iv, mkE, List.replicate_one, List.flatten_cons, List.flatten_nil, Nat.zero_mul, Nat.zero_add, Nat.mul_one, Bool.not_false]
              rw [stop (by rw [hok, h1, h2, hp]; simp [h3, h4])]
            | true =>
              obtain ⟨q, hq⟩ := next (by rw [hok, h1, h2, hp]; simp [h4])
              simp only [↓evs, evp, boxK, ↓a1_still, stillV, ev, argE, List.getD_cons_zero, List.getD_cons_succ, Nat.reduceEqDiff, if_false, if_true, Nat.reduceLT, Nat.reduceLeDiff, Nat.reduceAdd, Nat.reduceMul, true_and, and_true, List.length_map, binV, AV.cells, List.length_cons, List.length_nil, upd_at, Lb.loc.injEq, ↓af_still, ↓af_load, ↓af_store, ↓af_app, ↓af_new, ↓af_box, loadV, storeV, ldV, List.getElem?_cons_zero, List.getElem?_cons_succ, Option.bind_some, Option.map_some, List.map_cons, List.map_nil, Int.natCast_nonneg, Int.toNat_natCast, AV.stb, AV.one, List.all_cons, List.all_nil, Bool.and_self, Bool.and_true, Bool.true_and, List.take_succ_cons, List.take_zero, List.drop_succ_cons, List.drop_zero, List.cons_append, List.nil_append, List.append_nil, List.set_cons_zero, IV.av1, Lb.app, Lb.fresh, fam_loc, fam_par, fam_gen, fam_nest, reduceCtorEq, Bool.false_eq_true, List.take, List.drop, List.mem_cons, List.not_mem_nil, or_false, ptrL, appL, forall_eq, false_implies, implies_true, ev, Hp.none, Nat.le_refl, List.set_cons_succ, fillA, chunks, ivs, AV.iv, mkE, List.replicate_one, List.flatten_cons, List.flatten_nil, Nat.zero_mul, Nat.zero_add, Nat.mul_one, Bool.not_true, hw]
              refine ⟨q, by omega, id, .drop ?_ ?_ ?_⟩
              · rw [hq]; exact we_put rfl (we_put rfl (we_put rfl (we_put rfl (we_any _ _))))
              · exact wm_put (by simp [AV.lbs]) (wm_put (by simp [AV.lbs]) (wm_put (by simp [AV.lbs]) (wm_put (by simp [AV.lbs]) (wm_any _))))
              · exact nf_upd (nf_upd nf_none)
    · rw [show decide ((i : Int) < (as.length : Int)) = false by simpa using hlt]
      simp only [↓evs, evp, boxK, ↓a1_still, stillV, ev, argE, List.getD_cons_zero, List.getD_cons_succ, Nat.reduceEqDiff, if_false, if_true, Nat.reduceLT, Nat.reduceLeDiff, Nat.reduceAdd, Nat.reduceMul, true_and, and_true, List.length_map, binV, AV.cells, List.length_cons, List.length_nil, upd_at, Lb.loc.injEq, ↓af_still, ↓af_load, ↓af_store, ↓af_app, ↓af_new, ↓af_box, loadV, storeV, ldV, List.getElem?_cons_zero, List.getElem?_cons_succ, Option.bind_some, Option.map_some, List.map_cons, List.map_nil, Int.natCast_nonneg, Int.toNat_natCast, AV.stb, AV.one, List.all_cons, List.all_nil, Bool.and_self, Bool.and_true, Bool.true_and, List.take_succ_cons, List.take_zero, List.drop_succ_cons, List.drop_zero, List.cons_append, List.nil_append, List.append_nil, List.set_cons_zero, IV.av1, Lb.app, Lb.fresh, fam_loc, fam_par, fam_gen, fam_nest, reduceCtorEq, Bool.false_eq_true, List.take, List.drop, List.mem_cons, List.not_mem_nil, or_false, ptrL, appL, forall_eq, false_implies, implies_true, ev, Hp.none, Nat.le_refl, List.set_cons_succ, fillA, chunks, ivs, AV.iv, mkE, List.replicate_one, List.flatten_cons, List.flatten_nil, Nat.zero_mul, Nat.zero_add, Nat.mul_one, ivA_len]
      have : (List.range as.length).all (okAttr as) = true := by
        rw [List.all_eq_true]
        intro j hj
        exact hs j (by simp at hj; omega)
      rw [goodAttrs, this]; rfl
end Go.Am

/- The size of a tree. -/
namespace Go.Am
open Go Go.RowKit
mutual
def Tree.dep : Tree → Nat
  | .mk _ _ _ ks => depT ks + 1
def depT : List Tree → Nat
  | [] => 0
  | x :: r => max x.dep (depT r)
end
mutual
def Tree.cnt : Tree → Nat
  | .mk _ _ _ ks => cntT ks + 1
def cntT : List Tree → Nat
  | [] => 0
  | x :: r => x.cnt + cntT r
end
theorem Tree.dep_eq (x : Tree) : x.dep = depT x.kids + 1 := by cases x; simp [Tree.dep, Tree.kids]
theorem Tree.cnt_eq (x : Tree) : x.cnt = cntT x.kids + 1 := by cases x; simp [Tree.cnt, Tree.kids]
theorem depT_app : ∀ xs ys : List Tree, depT (xs ++ ys) = max (depT xs) (depT ys)
  | [], ys => by simp [depT]
  | x :: r, ys => by simp only [List.cons_append, depT, depT_app r ys]; omega
theorem cntT_app : ∀ xs ys : List Tree, cntT (xs ++ ys) = cntT xs + cntT ys
  | [], ys => by simp [cntT]
  | x :: r, ys => by simp [cntT, cntT_app r ys]; omega
mutual
theorem Tree.dep_le : ∀ x : Tree, x.dep ≤ x.wt
  | .mk _ _ _ ks => by have := depT_le ks; simp only [Tree.dep, Tree.wt]; omega
theorem depT_le : ∀ xs : List Tree, depT xs ≤ wtT xs
  | [] => by simp [depT]
  | x :: r => by have := x.dep_le; have := depT_le r; simp only [depT, wtT]; omega
end
mutual
theorem Tree.cnt_le : ∀ x : Tree, x.cnt ≤ x.wt
  | .mk _ _ _ ks => by have := cntT_le ks; simp only [Tree.cnt, Tree.wt]; omega
theorem cntT_le : ∀ xs : List Tree, cntT xs ≤ wtT xs
  | [] => by simp [cntT]
  | x :: r => by have := x.cnt_le; have := cntT_le r; simp only [cntT, wtT]; omega
end
theorem wtT_take (xs : List Tree) (i : Nat) : wtT (xs.take i) ≤ wtT xs := by
  have := wtT_app (xs.take i) (xs.drop i)
  rw [List.take_append_drop] at this; omega
theorem ret2_r {env : Env} {H : Hp} (t u : Nat) (R : AV → Hp → Prop) : RetP [(none, t), (none, u)] R .ret env H = R (.tup [env t, env u]) H := by simp [RetP, resVs, resV, oneV]
def cSize (fS : Nat) : AC :=
(.seq
  (.reg [
    ⟨(some 1), none, (.box (.t 0))⟩,
    ⟨(some 2), none, (.mov (.c (.int .i64 0)))⟩,
    ⟨(some 3), none, (.mov (.c (.int .i64 0)))⟩])
(.seq
  (.reg [
    ⟨(some 4), none, (.mov (.c (.int .i64 0)))⟩,
    ⟨(some 5), none, (.mov (.c (.int .i64 1)))⟩])
(.seq
  (.seq
    (.reg [
      ⟨(some 10), none, (.fld (.t 1) 3)⟩,
      ⟨(some 11), none, (.load none (.t 10))⟩,
      ⟨(some 12), none, (.len (.t 11))⟩,
      ⟨(some 13), none, (.mov (.c (.int .i64 0)))⟩])
  (.block 0
    (.loop
      (.seq
        (.reg [
          ⟨(some 14), none, (.bin .lss (.t 13) (.t 12))⟩])
      (.seq
        (.cond (.t 14)
          .skip
          (.exit 0))
      (.seq
        (.block 1
          (.seq
            (.reg [
              ⟨(some 15), none, (.ixa (.t 11) (.t 13) 4)⟩,
              ⟨(some 16), none, (.load (some 4) (.t 15))⟩,
              ⟨(some 7), none, (.new [(.bool false), (.str []), .nil0, .nil0])⟩,
              ⟨none, none, (.store 4 (.t 7) (.t 16))⟩])
          (.seq
            (.reg [
              ⟨(some 18), none, (.load (some 4) (.t 7))⟩,
              ⟨(some 19), none, (.call fS [(.t 18)])⟩,
              ⟨(some 17), none, (.mov (.t 19))⟩,
              ⟨(some 20), none, (.ext (.t 17) 0)⟩,
              ⟨(some 21), none, (.ext (.t 17) 1)⟩,
              ⟨(some 8), none, (.mov (.t 20))⟩,
              ⟨(some 9), none, (.mov (.t 21))⟩])
          (.reg [
            ⟨(some 22), none, (.mov (.t 4))⟩,
            ⟨(some 23), none, (.mov (.t 8))⟩,
            ⟨(some 24), none, (.max (.t 22) (.t 23))⟩,
            ⟨(some 25), none, (.mov (.t 5))⟩,
            ⟨(some 26), none, (.mov (.t 9))⟩,
            ⟨(some 27), none, (.bin .add (.t 25) (.t 26))⟩,
            ⟨(some 4), none, (.mov (.t 24))⟩,
            ⟨(some 5), none, (.mov (.t 27))⟩]))))
      (.reg [
        ⟨(some 28), none, (.bin .add (.t 13) (.c (.int .i64 1)))⟩,
        ⟨(some 13), none, (.mov (.t 28))⟩])))))))
(.seq
  (.reg [
    ⟨(some 29), none, (.mov (.t 4))⟩,
    ⟨(some 30), none, (.bin .add (.t 29) (.c (.int .i64 1)))⟩,
    ⟨(some 31), none, (.mov (.t 5))⟩,
    ⟨(some 2), none, (.mov (.t 30))⟩,
    ⟨(some 3), none, (.mov (.t 31))⟩])
.ret))))
def eSize (ks : List Tree) (i : Nat) : Env := put (put (put (put (put Env.any 4 (.int .i64 (depT (ks.take i)))) 5 (.int .i64 ((cntT (ks.take i) + 1 : Nat) : Int))) 11 (.list (ivT ks))) 12 (.int .i64 ks.length)) 13 (.int .i64 i)
theorem pSize {P : Program} {G : Nat → Option (List IV)} {f g : Nat} (hF : compF P G f = some (32, [(none, 2), (none, 3)], (cSize g).bare)) (x : Tree) (hx : x.wt ≤ B)
    (hS : ∀ k ∈ x.kids, PureC P G g [k.av] (.tup [.int .i64 k.dep, .int .i64 k.cnt])) :
    PureC P G f [x.av] (.tup [.int .i64 x.dep, .int .i64 x.cnt]) := by
  refine pure_of_go hF (by simp) (by simp [lbss, AV.lbs, Tree.av]) (by simp [AV.lbs, lbss]) ?_
  have hk : wtT x.kids ≤ B := by have := x.wt_eq; omega
  have hl : x.kids.length ≤ B := Nat.le_trans (wtT_len _) hk
  unfold cSize
  simp only [↓evs, evp, boxK, ↓a1_still, stillV, ev, argE, List.getD_cons_zero, List.getD_cons_succ, Nat.reduceEqDiff, if_false, if_true, Nat.reduceLT, Nat.reduceLeDiff, Nat.reduceAdd, Nat.reduceMul, true_and, and_true, List.length_map, binV, AV.cells, List.length_cons, List.length_nil, upd_at, Lb.loc.injEq, ↓af_still, ↓af_load, ↓af_store, ↓af_app, ↓af_new, ↓af_box, loadV, storeV, ldV, List.getElem?_cons_zero, List.getElem?_cons_succ, Option.bind_some, Option.map_some, List.map_cons, List.map_nil, Int.natCast_nonneg, Int.toNat_natCast, AV.stb, AV.one, List.all_cons, List.all_nil, Bool.and_self, Bool.and_true, Bool.true_and, List.take_succ_cons, List.take_zero, List.drop_succ_cons, List.drop_zero, List.cons_append, List.nil_append, List.append_nil, List.set_cons_zero, IV.av1, Lb.app, Lb.fresh, fam_loc, fam_par, fam_gen, fam_nest, reduceCtorEq, Bool.false_eq_true, List.take, List.drop, List.mem_cons, List.not_mem_nil, or_false, ptrL, appL, forall_eq, false_implies, implies_true, ev, Hp.none, Nat.le_refl, List.set_cons_succ, fillA, chunks, ivs, AV.iv, mkE, List.replicate_one, List.flatten_cons, List.flatten_nil, Nat.zero_mul, Nat.zero_add, Nat.mul_one, Tree.av, ivT_len]
  refine ⟨le_max (by decide), ?_⟩
  refine loop_intro (σ := { i : Nat // i ≤ x.kids.length }) (fun q => eSize x.kids q.1) (fun _ => Hp.none) (fun q => x.kids.length - q.1) ⟨0, by simp⟩ id ?_ ?_
  · refine .drop ?_ ?_ (nf_upd nf_none)
    · exact we_put rfl (we_put rfl (we_put rfl (we_put (by simp [put_at, ren, cntT]) (we_put (by simp [put_at, ren, depT]) (we_any _ _)))))
    · exact wm_put (by simp [AV.lbs]) (wm_put (by simp [AV.lbs]) (wm_put (by simp [AV.lbs]) (wm_put (by simp [AV.lbs]) (wm_put (by simp [AV.lbs]) (wm_any _)))))
  · rintro ⟨i, hi⟩
    simp only [↓evs, evp, boxK, ↓a1_still, stillV, ev, argE, List.getD_cons_zero, List.getD_cons_succ, Nat.reduceEqDiff, if_false, if_true, Nat.reduceLT, Nat.reduceLeDiff, Nat.reduceAdd, Nat.reduceMul, true_and, and_true, List.length_map, binV, AV.cells, List.length_cons, List.length_nil, upd_at, Lb.loc.injEq, ↓af_still, ↓af_load, ↓af_store, ↓af_app, ↓af_new, ↓af_box, loadV, storeV, ldV, List.getElem?_cons_zero, List.getElem?_cons_succ, Option.bind_some, Option.map_some, List.map_cons, List.map_nil, Int.natCast_nonneg, Int.toNat_natCast, AV.stb, AV.one, List.all_cons, List.all_nil, Bool.and_self, Bool.and_true, Bool.true_and, List.take_succ_cons, List.take_zero, List.drop_succ_cons, List.drop_zero, List.cons_append, List.nil_append, List.append_nil, List.set_cons_zero, IV.av1, Lb.app, Lb.fresh, fam_loc, fam_par, fam_gen, fam_nest, reduceCtorEq, Bool.false_eq_true, List.take, List.drop, List.mem_cons, List.not_mem_nil, or_false, ptrL, appL, forall_eq, false_implies, implies_true, ev, Hp.none, Nat.le_refl, List.set_cons_succ, fillA, chunks, ivs, AV.iv, mkE, List.replicate_one, List.flatten_cons, List.flatten_nil, Nat.zero_mul, Nat.zero_add, Nat.mul_one, eSize, ivT_len]
    by_cases hlt : i < x.kids.length
    · rw [show decide ((i : Int) < (x.kids.length : Int)) = true by simpa using hlt]
      obtain ⟨k, hki⟩ : ∃ k, x.kids[i]? = some k := ⟨_, List.getElem?_eq_getElem hlt⟩
      have hw : IntKind.i64.wrap ((i : Int) + 1) = ((i + 1 : Nat) : Int) := wrap64 (by omega) (by unfold B at hl; omega)
      simp only [↓evs, evp, boxK, ↓a1_still, stillV, ev, argE, List.getD_cons_zero, List.getD_cons_succ, Nat.reduceEqDiff, if_false, if_true, Nat.reduceLT, Nat.reduceLeDiff, Nat.reduceAdd, Nat.reduceMul, true_and, and_true, List.length_map, binV, AV.cells, List.length_cons, List.length_nil, upd_at, Lb.loc.injEq, ↓af_still, ↓af_load, ↓af_store, ↓af_app, ↓af_new, ↓af_box, loadV, storeV, ldV, List.getElem?_cons_zero, List.getElem?_cons_succ, Option.bind_some, Option.map_some, List.map_cons, List.map_nil, Int.natCast_nonneg, Int.toNat_natCast, AV.stb, AV.one, List.all_cons, List.all_nil, Bool.and_self, Bool.and_true, Bool.true_and, List.take_succ_cons, List.take_zero, List.drop_succ_cons, List.drop_zero, List.cons_append, List.nil_append, List.append_nil, List.set_cons_zero, IV.av1, Lb.app, Lb.fresh, fam_loc, fam_par, fam_gen, fam_nest, reduceCtorEq, Bool.false_eq_true, List.take, List.drop, List.mem_cons, List.not_mem_nil, or_false, ptrL, appL, forall_eq, false_implies, implies_true, ev, Hp.none, Nat.le_refl, List.set_cons_succ, fillA, chunks, ivs, AV.iv, mkE, List.replicate_one, List.flatten_cons, List.flatten_nil, Nat.zero_mul, Nat.zero_add, Nat.mul_one, ivT_get, hki, elszT, Tree.cells_eq, Tree.cs]
      refine ⟨le_max (by decide), callT_pure (hS k (List.mem_of_getElem? hki)) ?_⟩
      have h1 : x.kids.take (i + 1) = x.kids.take i ++ [k] := by rw [List.take_add_one, hki]; rfl
      have h2 := wtT_take x.kids i
      have h3 := cntT_le (x.kids.take i)
      have h4 := depT_le (x.kids.take i)
      have h5 := wtT_get _ _ _ hki
      have h6 := k.cnt_le
      have hc : IntKind.i64.wrap (((cntT (x.kids.take i) + 1 : Nat) : Int) + (k.cnt : Int)) = ((cntT (x.kids.take (i + 1)) + 1 : Nat) : Int) := by
        rw [wrap64 (by omega) (by unfold B at hk; omega), h1, cntT_app]; simp [cntT]; omega
      have hd : (if (k.dep : Int) > (depT (x.kids.take i) : Int) then (k.dep : Int) else (depT (x.kids.take i) : Int)) = (depT (x.kids.take (i + 1)) : Int) := by
        rw [h1, depT_app]; simp only [depT]; split <;> omega
      simp only [↓evs, evp, boxK, ↓a1_still, stillV, ev, argE, List.getD_cons_zero, List.getD_cons_succ, Nat.reduceEqDiff, if_false, if_true, Nat.reduceLT, Nat.reduceLeDiff, Nat.reduceAdd, Nat.reduceMul, true_and, and_true, List.length_map, binV, AV.cells, List.length_cons, List.length_nil, upd_at, Lb.loc.injEq, ↓af_still, ↓af_load, ↓af_store, ↓af_app, ↓af_new, ↓af_box, loadV, storeV, ldV, List.getElem?_cons_zero, List.getElem?_cons_succ, Option.bind_some, Option.map_some, List.map_cons, List.map_nil, Int.natCast_nonneg, Int.toNat_natCast, AV.stb, AV.one, List.all_cons, List.all_nil, Bool.and_self, Bool.and_true, Bool.true_and, List.take_succ_cons, List.take_zero, List.drop_succ_cons, List.drop_zero, List.cons_append, List.nil_append, List.append_nil, List.set_cons_zero, IV.av1, Lb.app, Lb.fresh, fam_loc, fam_par, fam_gen, fam_nest, reduceCtorEq, Bool.false_eq_true, List.take, List.drop, List.mem_cons, List.not_mem_nil, or_false, ptrL, appL, forall_eq, false_implies, implies_true, ev, Hp.none, Nat.le_refl, List.set_cons_succ, fillA, chunks, ivs, AV.iv, mkE, List.replicate_one, List.flatten_cons, List.flatten_nil, Nat.zero_mul, Nat.zero_add, Nat.mul_one, hw, hc, hd]
      refine ⟨⟨i + 1, hlt⟩, by simp only; omega, id, .drop ?_ ?_ (nf_upd (nf_upd nf_none))⟩
      · exact we_put rfl (we_put rfl (we_put rfl (we_put rfl (we_put rfl (we_any _ _)))))
      · exact wm_put (by simp [AV.lbs]) (wm_put (by simp [AV.lbs]) (wm_put (by simp [AV.lbs]) (wm_put (by simp [AV.lbs]) (wm_put (by simp [AV.lbs]) (wm_any _)))))
    · rw [show decide ((i : Int) < (x.kids.length : Int)) = false by simpa using hlt]
      have h1 : x.kids.take i = x.kids := List.take_of_length_le (by omega)
      have h4 := depT_le x.kids
      have hd : IntKind.i64.wrap ((depT x.kids : Int) + 1) = (x.dep : Int) := by rw [wrap64 (by omega) (by unfold B at hk; omega), x.dep_eq]; omega
      simp only [↓evs, evp, boxK, ↓a1_still, stillV, ev, argE, List.getD_cons_zero, List.getD_cons_succ, Nat.reduceEqDiff, if_false, if_true, Nat.reduceLT, Nat.reduceLeDiff, Nat.reduceAdd, Nat.reduceMul, true_and, and_true, List.length_map, binV, AV.cells, List.length_cons, List.length_nil, upd_at, Lb.loc.injEq, ↓af_still, ↓af_load, ↓af_store, ↓af_app, ↓af_new, ↓af_box, loadV, storeV, ldV, List.getElem?_cons_zero, List.getElem?_cons_succ, Option.bind_some, Option.map_some, List.map_cons, List.map_nil, Int.natCast_nonneg, Int.toNat_natCast, AV.stb, AV.one, List.all_cons, List.all_nil, Bool.and_self, Bool.and_true, Bool.true_and, List.take_succ_cons, List.take_zero, List.drop_succ_cons, List.drop_zero, List.cons_append, List.nil_append, List.append_nil, List.set_cons_zero, IV.av1, Lb.app, Lb.fresh, fam_loc, fam_par, fam_gen, fam_nest, reduceCtorEq, Bool.false_eq_true, List.take, List.drop, List.mem_cons, List.not_mem_nil, or_false, ptrL, appL, forall_eq, false_implies, implies_true, ev, Hp.none, Nat.le_refl, List.set_cons_succ, fillA, chunks, ivs, AV.iv, mkE, List.replicate_one, List.flatten_cons, List.flatten_nil, Nat.zero_mul, Nat.zero_add, Nat.mul_one, ↓ret2_r, h1, hd, x.cnt_eq]
end Go.Am
