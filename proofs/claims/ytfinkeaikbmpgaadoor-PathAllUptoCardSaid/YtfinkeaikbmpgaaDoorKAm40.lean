import Derived.Test.YtfinkeaikbmpgaaDoorKT13
import Derived.Test.YtfinkeaikbmpgaaDoorKT39
import Derived.Test.YtfinkeaikbmpgaaDoorKP1
set_option linter.unusedSimpArgs false
set_option linter.unusedVariables false
set_option linter.unnecessarySimpa false
set_option linter.defProp false
/- THE ABSTRACT MACHINE, part 40: functions that are handed a row of data by a slice. -/
namespace Go.Am
open Go Go.RowKit
/-- One row of data that is handed in. -/
def rowX (sz : Nat) (xs : List IV) : Hp := upd Hp.none (.par 0) (.live ⟨sz, immE xs⟩)
/-- A contract of a function that is handed a slice of data: 'R' says what comes of it, and what the row is then. -/
def RowC (P : Program) (G : Nat → Option (List IV)) (f : Nat) (args : List AV) (sz : Nat) (xs : List IV) (R : AV → List IV → Prop) : Prop :=
  (∀ l ∈ lbss args, l = .par 0) ∧ SpecC P G f args (rowX sz xs) fun x H' => ∃ xs', R x xs' ∧ x.lbs = [] ∧ xs'.length = xs.length ∧ H' (.par 0) = .live ⟨sz, immE xs'⟩
theorem callT_row {S : St} {f : Nat} {args cargs : List AV} {sz : Nat} {xs : List IV} {R : AV → List IV → Prop} {H : Hp} {k : AV → Hp → Prop} {u : Tw k} {l : Lb} (h : RowC S.P S.G f cargs sz xs R)
    (ha : args = rens (atL l) cargs) (hl : H l = .live ⟨sz, immE xs⟩) (hk : ∀ x xs', R x xs' → x.lbs = [] → xs'.length = xs.length → k x (upd H l (.live ⟨sz, immE xs'⟩))) : clK S f args H k u := by
  obtain ⟨h1, h3⟩ := h
  have hlive : ∀ q r, rowX sz xs q = .live r → q = .par 0 ∧ r = ⟨sz, immE xs⟩ := by
    intro q r h
    by_cases e : q = .par 0
    · subst e; simp [rowX] at h; exact ⟨rfl, h.symm⟩
    · rw [rowX, upd_ne _ _ e] at h; simp [Hp.none] at h
  refine .inr ⟨⟨atL l, rowX sz xs, cargs, _, h3.keep (fun q => q = .par 0), ha, ?_, ?_, ?_, ?_, ?_, ?_, ?_⟩⟩
  · intro q r h
    obtain ⟨rfl, rfl⟩ := hlive q r h
    rw [renR_immE]
    simp only [atL, if_true, hl]
  · intro q hq
    by_cases e : q = .par 0
    · subst e; exact ⟨_, by simp [rowX]; rfl⟩
    · rw [rowX, upd_ne _ _ e] at hq; simp [Hp.none] at hq
  · rintro q q' ⟨r, h⟩ ⟨r', h'⟩ _
    rw [(hlive q r h).1, (hlive q' r' h').1]
  · intro q hq
    rw [h1 q hq]; simp [rowX]
  · rintro q ⟨r, h⟩
    rw [(hlive q r h).1]; rfl
  · intro q r h c hc z hz
    obtain ⟨rfl, rfl⟩ := hlive q r h
    rw [lbss_immE hc] at hz; simp at hz
  · rintro x H' ⟨H1, ⟨xs', e1, e2, e4, e5⟩, rfl⟩
    have hH : ∀ q r, killE (fun q => q = .par 0) H1 q = .live r → q = .par 0 ∧ r = ⟨sz, immE xs'⟩ := by
      intro q r h
      obtain ⟨g1, rfl⟩ := killE_live.1 h
      rw [e5] at g1; cases g1; exact ⟨rfl, rfl⟩
    have hH0 : killE (fun q => q = .par 0) H1 (.par 0) = .live ⟨sz, immE xs'⟩ := killE_live.2 ⟨e5, rfl⟩
    refine ⟨atL l, upd H l (.live ⟨sz, immE xs'⟩), fun _ _ _ => rfl, ?_, ?_, ?_, ?_, ?_, ?_, ?_, ?_⟩
    · intro q r h
      by_cases e : q = l
      · subst e
        simp at h
        refine .inr ⟨.par 0, _, hH0, by simp [atL], ?_⟩
        rw [← h, renR_immE]
      · rw [upd_ne _ _ e] at h
        refine .inl ⟨h, ?_⟩
        rintro z ⟨r', hz⟩
        rw [(hlive z r' hz).1]
        simp only [atL, if_true]
        exact Ne.symm e
    · rintro q q' ⟨r, h⟩ ⟨r', h'⟩ _
      rw [(hH q r h).1, (hH q' r' h').1]
    · intro q hq
      by_cases e : q = l
      · subst e; simp
      · rw [upd_ne _ _ e]; exact hq
    · intro q hq; rw [e2] at hq; simp at hq
    · intro q r h c hc z hz
      obtain ⟨rfl, rfl⟩ := hH q r h
      rw [lbss_immE hc] at hz; simp at hz
    · rintro q ⟨r, h⟩
      obtain ⟨rfl, rfl⟩ := hH q r h
      exact .inl ⟨_, by simp [rowX]; rfl⟩
    · rintro q (hq | ⟨l1, r1, c, g1, g2, g3⟩) _
      · rw [e2] at hq; simp at hq
      · obtain ⟨rfl, rfl⟩ := hH l1 r1 g1
        rw [lbss_immE g2] at g3; simp at g3
    · rw [ren_nolb _ _ e2]
      exact hk x xs' e1 e2 e4
/-- By walking. -/
theorem row_of_go {P : Program} {G : Nat → Option (List IV)} {f : Nat} {n : Nat} {rs : List RO} {ac : AC} {args : List AV} {sz : Nat} {xs : List IV} {R : AV → List IV → Prop}
    (hF : compF P G f = some (n, rs, ac.bare)) (hn : args.length ≤ n) (ha : ∀ l ∈ lbss args, l = .par 0)
    (hg : go ⟨P, G, n⟩ (RetP rs fun x H' => ∃ xs', R x xs' ∧ x.lbs = [] ∧ xs'.length = xs.length ∧ H' (.par 0) = .live ⟨sz, immE xs'⟩) [.code ac] (argE args) (rowX sz xs)) : RowC P G f args sz xs R := by
  refine ⟨ha, spec_of_go hF hn ?_ ?_ hg⟩
  · rintro l ⟨r, h⟩
    by_cases e : l = .par 0
    · subst e; rfl
    · rw [rowX, upd_ne _ _ e] at h; simp [Hp.none] at h
  · intro l hl
    rw [ha l hl]; simp [rowX]
theorem RowC.mono {P : Program} {G : Nat → Option (List IV)} {f : Nat} {args : List AV} {sz : Nat} {xs : List IV} {R R' : AV → List IV → Prop} (h : RowC P G f args sz xs R) (hq : ∀ x c, R x c → R' x c) : RowC P G f args sz xs R' :=
  ⟨h.1, h.2.mono fun x H ⟨c, h1, h2⟩ => ⟨c, hq _ _ h1, h2⟩⟩
end Go.Am

/- Paths, handed over by a row of one's own. -/
namespace Go.Am
open Go Go.RowKit
section
variable {P : Program} {G : Nat → Option (List IV)}
theorem pPathGoodR {f_path_Good f_tree_Named : Nat} (hF : compF P G f_path_Good = some (44, [(none, 2)], (c_path_Good f_tree_Named).bare)) (l : List Step) (hl : l.length ≤ B) (hN : ∀ x ∈ l, PureC P G f_tree_Named [.str x.name] (.bool (named x.name))) :
    RowC P G f_path_Good [.sl (.par 0) 2 0 l.length] 2 (l.map Step.iv) (fun x ys => x = .bool (goodPath l) ∧ ys = l.map Step.iv) := by
  refine row_of_go hF (by simp) (by simp [lbss, AV.lbs]) ?_
  have hBv : B = 1073741824 := rfl
  unfold c_path_Good
  simp only [↓aX, evp, evq, evl, boxK, stillV, binV, AV.cells, mP, loadV, storeV, ldV, AV.stb, AV.one, IV.av1, Lb.app, Lb.fresh, reduceCtorEq, ptrL, appL, fillA, chunks, ivs, AV.iv, mkE, if_false, if_true, List.not_mem_nil, forall_eq, beq_self_eq_true, List.isEmpty_nil, Nat.reduceEqDiff, Nat.reduceLT, Nat.reduceLeDiff, Nat.reduceAdd, Nat.reduceMul, Int.reduceToNat, Int.reduceLE, Int.reduceLT, rowX]
  refine loop_same (σ := { i : Nat // i ≤ l.length ∧ ∀ x ∈ l.take i, okStep x = true }) [.par 0] (fun q => [(0, .sl (.par 0) 2 0 l.length), (5, .sl (.par 0) 2 0 l.length), (6, .int .i64 l.length), (7, .int .i64 q.1)])
    (fun _ => [(.par 0, ⟨2, immE (l.map Step.iv)⟩)]) (fun q => l.length - q.1) ⟨0, by simp⟩ (fun _ => rfl) (by decide) (by simp [lbss, AV.lbs]) (by
      intro q r hr cs hcs z hz
      simp only [List.mem_singleton] at hr; subst hr
      rw [lbss_immE hcs] at hz; simp at hz) ?_ ?_
  · refine WS_mk ?_ (by repeat' constructor) ⟨rfl, trivial⟩
    intro z hz hu
    by_cases e : z = .par 0
    · subst e; simp
    · exfalso; apply hu; cases z <;> simp_all [Lb.fresh, upd_at, Hp.none]
  · rintro ⟨i, hi, hs⟩
    simp only [↓aX, evp, evq, evl, boxK, stillV, binV, AV.cells, mP, loadV, storeV, ldV, AV.stb, AV.one, IV.av1, Lb.app, Lb.fresh, reduceCtorEq, ptrL, appL, fillA, chunks, ivs, AV.iv, mkE, if_false, if_true, List.not_mem_nil, forall_eq, beq_self_eq_true, List.isEmpty_nil, Nat.reduceEqDiff, Nat.reduceLT, Nat.reduceLeDiff, Nat.reduceAdd, Nat.reduceMul, Int.reduceToNat, Int.reduceLE, Int.reduceLT, ofH_nil, ofH_cons]
    by_cases hlt : i < l.length
    · rw [show decide ((i : Int) < (l.length : Int)) = true by simpa using hlt]
      obtain ⟨x, hx⟩ : ∃ x, l[i]? = some x := ⟨_, List.getElem?_eq_getElem hlt⟩
      have hxm := List.mem_of_getElem? hx
      have hw : IntKind.i64.wrap ((i : Int) + 1) = ((i + 1 : Nat) : Int) := wrap64 (by omega) (by omega)
      have stop : okStep x = false → goodPath l = false := fun h => by
        unfold goodPath
        rw [show l.all okStep = false from List.all_eq_false.2 ⟨x, hxm, by simp [h]⟩]; rfl
      have next : okStep x = true → ∀ y ∈ l.take (i + 1), okStep y = true := fun h y hy => by
        rw [List.take_add_one, hx] at hy
        simp only [Option.toList_some, List.mem_append, List.mem_singleton] at hy
        rcases hy with hy | rfl
        · exact hs y hy
        · exact h
      simp only [↓aX, evp, evq, evl, boxK, stillV, binV, AV.cells, mP, loadV, storeV, ldV, AV.stb, AV.one, IV.av1, Lb.app, Lb.fresh, reduceCtorEq, ptrL, appL, fillA, chunks, ivs, AV.iv, mkE, if_false, if_true, List.not_mem_nil, forall_eq, beq_self_eq_true, List.isEmpty_nil, Nat.reduceEqDiff, Nat.reduceLT, Nat.reduceLeDiff, Nat.reduceAdd, Nat.reduceMul, Int.reduceToNat, Int.reduceLE, Int.reduceLT, Int.natCast_nonneg, Int.toNat_natCast, true_and, List.length_map, hlt, immE_get', stGet, hx, Option.map_some, Option.bind_some, Step.cells_eq, Step.cs, List.map_cons, List.map_nil, List.length_cons, List.length_nil, List.drop_zero, List.take_succ_cons, List.take_zero, Nat.zero_add, Nat.add_zero, Nat.le_refl]
      have tail : ∀ b : Bool, (x.name == [] || (x.name == [42] || named x.name)) = b → okStep x = (b && (decide (0 ≤ x.n) && decide (x.n ≤ 99))) := fun b h => by unfold okStep; rw [h]
      cases h1 : (x.name == []) with
      | true =>
        have ht := tail true (by rw [h1]; rfl)
        simp only [↓aX, evp, evq, evl, boxK, stillV, binV, AV.cells, mP, loadV, storeV, ldV, AV.stb, AV.one, IV.av1, Lb.app, Lb.fresh, reduceCtorEq, ptrL, appL, fillA, chunks, ivs, AV.iv, mkE, if_false, if_true, List.not_mem_nil, forall_eq, beq_self_eq_true, List.isEmpty_nil, Nat.reduceEqDiff, Nat.reduceLT, Nat.reduceLeDiff, Nat.reduceAdd, Nat.reduceMul, Int.reduceToNat, Int.reduceLE, Int.reduceLT, Bool.not_true]
        by_cases h4 : x.n < 0
        · have hz := stop (by rw [ht, decide_eq_false (by omega)]; rfl)
          simp only [↓aX, evp, evq, evl, boxK, stillV, binV, AV.cells, mP, loadV, storeV, ldV, AV.stb, AV.one, IV.av1, Lb.app, Lb.fresh, reduceCtorEq, ptrL, appL, fillA, chunks, ivs, AV.iv, mkE, if_false, if_true, List.not_mem_nil, forall_eq, beq_self_eq_true, List.isEmpty_nil, Nat.reduceEqDiff, Nat.reduceLT, Nat.reduceLeDiff, Nat.reduceAdd, Nat.reduceMul, Int.reduceToNat, Int.reduceLE, Int.reduceLT, h4, decide_true]
          exact ⟨_, ⟨by rw [hz], rfl⟩, rfl, by simp, rfl⟩
        · by_cases h5 : 99 < x.n
          · have hz := stop (by rw [ht, decide_eq_false (show ¬ x.n ≤ 99 by omega), Bool.and_false]; rfl)
            simp only [↓aX, evp, evq, evl, boxK, stillV, binV, AV.cells, mP, loadV, storeV, ldV, AV.stb, AV.one, IV.av1, Lb.app, Lb.fresh, reduceCtorEq, ptrL, appL, fillA, chunks, ivs, AV.iv, mkE, if_false, if_true, List.not_mem_nil, forall_eq, beq_self_eq_true, List.isEmpty_nil, Nat.reduceEqDiff, Nat.reduceLT, Nat.reduceLeDiff, Nat.reduceAdd, Nat.reduceMul, Int.reduceToNat, Int.reduceLE, Int.reduceLT, h4, decide_false, gt_iff_lt, h5, decide_true]
            exact ⟨_, ⟨by rw [hz], rfl⟩, rfl, by simp, rfl⟩
          · simp only [↓aX, evp, evq, evl, boxK, stillV, binV, AV.cells, mP, loadV, storeV, ldV, AV.stb, AV.one, IV.av1, Lb.app, Lb.fresh, reduceCtorEq, ptrL, appL, fillA, chunks, ivs, AV.iv, mkE, if_false, if_true, List.not_mem_nil, forall_eq, beq_self_eq_true, List.isEmpty_nil, Nat.reduceEqDiff, Nat.reduceLT, Nat.reduceLeDiff, Nat.reduceAdd, Nat.reduceMul, Int.reduceToNat, Int.reduceLE, Int.reduceLT, h4, decide_false, gt_iff_lt, h5, hw]
            refine ⟨⟨i + 1, hlt, next (by rw [ht, decide_eq_true (show 0 ≤ x.n by omega), decide_eq_true (show x.n ≤ 99 by omega)]; rfl)⟩, by simp only; omega, WS_mk ?_ (by repeat' constructor) ⟨rfl, trivial⟩⟩
            intro z hz hu
            by_cases e : z = .par 0
            · subst e; simp
            · exfalso; apply hu; cases z <;> simp_all [Lb.fresh, upd_at, Hp.none]
      | false =>
        simp only [↓aX, evp, evq, evl, boxK, stillV, binV, AV.cells, mP, loadV, storeV, ldV, AV.stb, AV.one, IV.av1, Lb.app, Lb.fresh, reduceCtorEq, ptrL, appL, fillA, chunks, ivs, AV.iv, mkE, if_false, if_true, List.not_mem_nil, forall_eq, beq_self_eq_true, List.isEmpty_nil, Nat.reduceEqDiff, Nat.reduceLT, Nat.reduceLeDiff, Nat.reduceAdd, Nat.reduceMul, Int.reduceToNat, Int.reduceLE, Int.reduceLT, Bool.not_false]
        cases h2 : (x.name == [42]) with
        | true =>
          have ht := tail true (by rw [h1, h2]; rfl)
          simp only [↓aX, evp, evq, evl, boxK, stillV, binV, AV.cells, mP, loadV, storeV, ldV, AV.stb, AV.one, IV.av1, Lb.app, Lb.fresh, reduceCtorEq, ptrL, appL, fillA, chunks, ivs, AV.iv, mkE, if_false, if_true, List.not_mem_nil, forall_eq, beq_self_eq_true, List.isEmpty_nil, Nat.reduceEqDiff, Nat.reduceLT, Nat.reduceLeDiff, Nat.reduceAdd, Nat.reduceMul, Int.reduceToNat, Int.reduceLE, Int.reduceLT, Bool.not_true]
          by_cases h4 : x.n < 0
          · have hz := stop (by rw [ht, decide_eq_false (by omega)]; rfl)
            simp only [↓aX, evp, evq, evl, boxK, stillV, binV, AV.cells, mP, loadV, storeV, ldV, AV.stb, AV.one, IV.av1, Lb.app, Lb.fresh, reduceCtorEq, ptrL, appL, fillA, chunks, ivs, AV.iv, mkE, if_false, if_true, List.not_mem_nil, forall_eq, beq_self_eq_true, List.isEmpty_nil, Nat.reduceEqDiff, Nat.reduceLT, Nat.reduceLeDiff, Nat.reduceAdd, Nat.reduceMul, Int.reduceToNat, Int.reduceLE, Int.reduceLT, h4, decide_true]
            exact ⟨_, ⟨by rw [hz], rfl⟩, rfl, by simp, rfl⟩
          · by_cases h5 : 99 < x.n
            · have hz := stop (by rw [ht, decide_eq_false (show ¬ x.n ≤ 99 by omega), Bool.and_false]; rfl)
              simp only [↓aX, evp, evq, evl, boxK, stillV, binV, AV.cells, mP, loadV, storeV, ldV, AV.stb, AV.one, IV.av1, Lb.app, Lb.fresh, reduceCtorEq, ptrL, appL, fillA, chunks, ivs, AV.iv, mkE, if_false, if_true, List.not_mem_nil, forall_eq, beq_self_eq_true, List.isEmpty_nil, Nat.reduceEqDiff, Nat.reduceLT, Nat.reduceLeDiff, Nat.reduceAdd, Nat.reduceMul, Int.reduceToNat, Int.reduceLE, Int.reduceLT, h4, decide_false, gt_iff_lt, h5, decide_true]
              exact ⟨_, ⟨by rw [hz], rfl⟩, rfl, by simp, rfl⟩
            · simp only [↓aX, evp, evq, evl, boxK, stillV, binV, AV.cells, mP, loadV, storeV, ldV, AV.stb, AV.one, IV.av1, Lb.app, Lb.fresh, reduceCtorEq, ptrL, appL, fillA, chunks, ivs, AV.iv, mkE, if_false, if_true, List.not_mem_nil, forall_eq, beq_self_eq_true, List.isEmpty_nil, Nat.reduceEqDiff, Nat.reduceLT, Nat.reduceLeDiff, Nat.reduceAdd, Nat.reduceMul, Int.reduceToNat, Int.reduceLE, Int.reduceLT, h4, decide_false, gt_iff_lt, h5, hw]
              refine ⟨⟨i + 1, hlt, next (by rw [ht, decide_eq_true (show 0 ≤ x.n by omega), decide_eq_true (show x.n ≤ 99 by omega)]; rfl)⟩, by simp only; omega, WS_mk ?_ (by repeat' constructor) ⟨rfl, trivial⟩⟩
              intro z hz hu
              by_cases e : z = .par 0
              · subst e; simp
              · exfalso; apply hu; cases z <;> simp_all [Lb.fresh, upd_at, Hp.none]
        | false =>
          simp only [↓aX, evp, evq, evl, boxK, stillV, binV, AV.cells, mP, loadV, storeV, ldV, AV.stb, AV.one, IV.av1, Lb.app, Lb.fresh, reduceCtorEq, ptrL, appL, fillA, chunks, ivs, AV.iv, mkE, if_false, if_true, List.not_mem_nil, forall_eq, beq_self_eq_true, List.isEmpty_nil, Nat.reduceEqDiff, Nat.reduceLT, Nat.reduceLeDiff, Nat.reduceAdd, Nat.reduceMul, Int.reduceToNat, Int.reduceLE, Int.reduceLT, Bool.not_false]
          refine callT_pure (hN x hxm) ?_
          cases h3 : named x.name with
          | true =>
            have ht := tail true (by rw [h1, h2, h3]; rfl)
            simp only [↓aX, evp, evq, evl, boxK, stillV, binV, AV.cells, mP, loadV, storeV, ldV, AV.stb, AV.one, IV.av1, Lb.app, Lb.fresh, reduceCtorEq, ptrL, appL, fillA, chunks, ivs, AV.iv, mkE, if_false, if_true, List.not_mem_nil, forall_eq, beq_self_eq_true, List.isEmpty_nil, Nat.reduceEqDiff, Nat.reduceLT, Nat.reduceLeDiff, Nat.reduceAdd, Nat.reduceMul, Int.reduceToNat, Int.reduceLE, Int.reduceLT, Bool.not_true]
            by_cases h4 : x.n < 0
            · have hz := stop (by rw [ht, decide_eq_false (by omega)]; rfl)
              simp only [↓aX, evp, evq, evl, boxK, stillV, binV, AV.cells, mP, loadV, storeV, ldV, AV.stb, AV.one, IV.av1, Lb.app, Lb.fresh, reduceCtorEq, ptrL, appL, fillA, chunks, ivs, AV.iv, mkE, if_false, if_true, List.not_mem_nil, forall_eq, beq_self_eq_true, List.isEmpty_nil, Nat.reduceEqDiff, Nat.reduceLT, Nat.reduceLeDiff, Nat.reduceAdd, Nat.reduceMul, Int.reduceToNat, Int.reduceLE, Int.reduceLT, h4, decide_true]
              exact ⟨_, ⟨by rw [hz], rfl⟩, rfl, by simp, rfl⟩
            · by_cases h5 : 99 < x.n
              · have hz := stop (by rw [ht, decide_eq_false (show ¬ x.n ≤ 99 by omega), Bool.and_false]; rfl)
                simp only [↓aX, evp, evq, evl, boxK, stillV, binV, AV.cells, mP, loadV, storeV, ldV, AV.stb, AV.one, IV.av1, Lb.app, Lb.fresh, reduceCtorEq, ptrL, appL, fillA, chunks, ivs, AV.iv, mkE, if_false, if_true, List.not_mem_nil, forall_eq, beq_self_eq_true, List.isEmpty_nil, Nat.reduceEqDiff, Nat.reduceLT, Nat.reduceLeDiff, Nat.reduceAdd, Nat.reduceMul, Int.reduceToNat, Int.reduceLE, Int.reduceLT, h4, decide_false, gt_iff_lt, h5, decide_true]
                exact ⟨_, ⟨by rw [hz], rfl⟩, rfl, by simp, rfl⟩
              · simp only [↓aX, evp, evq, evl, boxK, stillV, binV, AV.cells, mP, loadV, storeV, ldV, AV.stb, AV.one, IV.av1, Lb.app, Lb.fresh, reduceCtorEq, ptrL, appL, fillA, chunks, ivs, AV.iv, mkE, if_false, if_true, List.not_mem_nil, forall_eq, beq_self_eq_true, List.isEmpty_nil, Nat.reduceEqDiff, Nat.reduceLT, Nat.reduceLeDiff, Nat.reduceAdd, Nat.reduceMul, Int.reduceToNat, Int.reduceLE, Int.reduceLT, h4, decide_false, gt_iff_lt, h5, hw]
                refine ⟨⟨i + 1, hlt, next (by rw [ht, decide_eq_true (show 0 ≤ x.n by omega), decide_eq_true (show x.n ≤ 99 by omega)]; rfl)⟩, by simp only; omega, WS_mk ?_ (by repeat' constructor) ⟨rfl, trivial⟩⟩
                intro z hz hu
                by_cases e : z = .par 0
                · subst e; simp
                · exfalso; apply hu; cases z <;> simp_all [Lb.fresh, upd_at, Hp.none]
          | false =>
            have ht := tail false (by rw [h1, h2, h3]; rfl)
            have hz := stop ht
            simp only [↓aX, evp, evq, evl, boxK, stillV, binV, AV.cells, mP, loadV, storeV, ldV, AV.stb, AV.one, IV.av1, Lb.app, Lb.fresh, reduceCtorEq, ptrL, appL, fillA, chunks, ivs, AV.iv, mkE, if_false, if_true, List.not_mem_nil, forall_eq, beq_self_eq_true, List.isEmpty_nil, Nat.reduceEqDiff, Nat.reduceLT, Nat.reduceLeDiff, Nat.reduceAdd, Nat.reduceMul, Int.reduceToNat, Int.reduceLE, Int.reduceLT, Bool.not_false]
            exact ⟨_, ⟨by rw [hz], rfl⟩, rfl, by simp, rfl⟩
    · have hil : l.take i = l := List.take_of_length_le (by omega)
      have hall : l.all okStep = true := List.all_eq_true.2 fun x hx => hs x (by rw [hil]; exact hx)
      rw [show decide ((i : Int) < (l.length : Int)) = false by simpa using hlt]
      simp only [↓aX, evp, evq, evl, boxK, stillV, binV, AV.cells, mP, loadV, storeV, ldV, AV.stb, AV.one, IV.av1, Lb.app, Lb.fresh, reduceCtorEq, ptrL, appL, fillA, chunks, ivs, AV.iv, mkE, if_false, if_true, List.not_mem_nil, forall_eq, beq_self_eq_true, List.isEmpty_nil, Nat.reduceEqDiff, Nat.reduceLT, Nat.reduceLeDiff, Nat.reduceAdd, Nat.reduceMul, Int.reduceToNat, Int.reduceLE, Int.reduceLT]
      by_cases h1 : 1 ≤ l.length
      · by_cases h2 : l.length ≤ 5
        · have hz : goodPath l = true := by unfold goodPath; rw [hall]; simp [h1, h2]
          simp only [↓aX, evp, evq, evl, boxK, stillV, binV, AV.cells, mP, loadV, storeV, ldV, AV.stb, AV.one, IV.av1, Lb.app, Lb.fresh, reduceCtorEq, ptrL, appL, fillA, chunks, ivs, AV.iv, mkE, if_false, if_true, List.not_mem_nil, forall_eq, beq_self_eq_true, List.isEmpty_nil, Nat.reduceEqDiff, Nat.reduceLT, Nat.reduceLeDiff, Nat.reduceAdd, Nat.reduceMul, Int.reduceToNat, Int.reduceLE, Int.reduceLT, show ((l.length : Int) ≥ 1) by omega, decide_true, show ((l.length : Int) ≤ 5) by omega]
          exact ⟨_, ⟨by rw [hz], rfl⟩, rfl, by simp, rfl⟩
        · have hz : goodPath l = false := by unfold goodPath; simp [h2]
          simp only [↓aX, evp, evq, evl, boxK, stillV, binV, AV.cells, mP, loadV, storeV, ldV, AV.stb, AV.one, IV.av1, Lb.app, Lb.fresh, reduceCtorEq, ptrL, appL, fillA, chunks, ivs, AV.iv, mkE, if_false, if_true, List.not_mem_nil, forall_eq, beq_self_eq_true, List.isEmpty_nil, Nat.reduceEqDiff, Nat.reduceLT, Nat.reduceLeDiff, Nat.reduceAdd, Nat.reduceMul, Int.reduceToNat, Int.reduceLE, Int.reduceLT, show ((l.length : Int) ≥ 1) by omega, decide_true, show ¬ ((l.length : Int) ≤ 5) by omega, decide_false]
          exact ⟨_, ⟨by rw [hz], rfl⟩, rfl, by simp, rfl⟩
      · have hz : goodPath l = false := by unfold goodPath; simp [h1]
        simp only [↓aX, evp, evq, evl, boxK, stillV, binV, AV.cells, mP, loadV, storeV, ldV, AV.stb, AV.one, IV.av1, Lb.app, Lb.fresh, reduceCtorEq, ptrL, appL, fillA, chunks, ivs, AV.iv, mkE, if_false, if_true, List.not_mem_nil, forall_eq, beq_self_eq_true, List.isEmpty_nil, Nat.reduceEqDiff, Nat.reduceLT, Nat.reduceLeDiff, Nat.reduceAdd, Nat.reduceMul, Int.reduceToNat, Int.reduceLE, Int.reduceLT, show ¬ ((l.length : Int) ≥ 1) by omega, decide_false]
        exact ⟨_, ⟨by rw [hz], rfl⟩, rfl, by simp, rfl⟩
def c_path_SelectR (f_doc_Good f_path_Good f_path_chosen : Nat) : AC :=
(.seq (.reg [⟨(some 2), none, (.box (.t 0))⟩, ⟨(some 4), none, (.mov (.c .nil0))⟩, ⟨(some 5), none, (.mov (.c (.int .i64 0)))⟩]) (.seq (.seq (.reg [⟨(some 12), none, (.load (some 1) (.t 2))⟩, ⟨(some 13), none, (.call f_doc_Good [(.t 12)])⟩, ⟨(some 14), none, (.not (.t 13))⟩, ⟨(some 15), none, (.mov (.t 14))⟩, ⟨(some 16), (some (15, false)), (.mov (.t 1))⟩, ⟨(some 17), (some (15, false)), (.call f_path_Good [(.t 16)])⟩, ⟨(some 18), (some (15, false)), (.not (.t 17))⟩, ⟨(some 19), none, (.pick (.t 15) (.c (.bool true)) (.t 18))⟩]) (.cond (.t 19) (.seq (.reg [⟨(some 4), none, (.mov (.c .nil0))⟩, ⟨(some 5), none, (.mov (.c (.int .i64 1)))⟩]) .ret) .skip)) (.seq (.dreg [⟨(some 20), none, (.load (some 1) (.t 2))⟩, ⟨(some 21), none, (.lits 1 1 [(.int .i64 0)] [(0, (.c (.int .i64 0)))])⟩, ⟨(some 22), none, (.mov (.t 1))⟩, ⟨(some 23), none, (.ixa (.t 22) (.c (.int .i64 0)) 2)⟩, ⟨(some 24), none, (.load (some 2) (.t 23))⟩, ⟨(some 25), none, (.call f_path_chosen [(.t 20), (.t 21), (.t 24)])⟩, ⟨(some 6), none, (.mov (.t 25))⟩] [[], [], [], [2], [3], [0, 1, 4], [5, 5, 0, 1, 2, 3, 4, 5]] [.rw [.loc 2] [], .no, .no, .no, (.rw [.par 0] []), .no, .no]) (.seq (.seq (.reg [⟨(some 26), none, (.mov (.t 1))⟩, ⟨(some 27), none, (.slc (.t 26) (some (.c (.int .i64 1))) none none 2)⟩, ⟨(some 28), none, (.len (.t 27))⟩, ⟨(some 29), none, (.mov (.c (.int .i64 0)))⟩]) (.block 0 (.loop (.seq (.reg [⟨(some 30), none, (.bin .lss (.t 29) (.t 28))⟩]) (.seq (.cond (.t 30) .skip (.exit 0)) (.seq (.block 1 (.seq (.reg [⟨(some 31), none, (.ixa (.t 27) (.t 29) 2)⟩, ⟨(some 32), none, (.load (some 2) (.t 31))⟩, ⟨(some 8), none, (.new [(.str []), (.int .i64 0)])⟩, ⟨none, none, (.store 2 (.t 8) (.t 32))⟩]) (.seq (.reg [⟨(some 9), none, (.mov (.c .nil0))⟩]) (.gh (.own 9 1) (.seq (.seq (.reg [⟨(some 33), none, (.mov (.t 6))⟩, ⟨(some 34), none, (.len (.t 33))⟩, ⟨(some 35), none, (.mov (.c (.int .i64 0)))⟩]) (.block 2 (.loop (.seq (.reg [⟨(some 36), none, (.bin .lss (.t 35) (.t 34))⟩]) (.seq (.cond (.t 36) .skip (.exit 2)) (.seq (.block 3 (.seq (.reg [⟨(some 37), none, (.ixa (.t 33) (.t 35) 1)⟩, ⟨(some 38), none, (.load none (.t 37))⟩, ⟨(some 11), none, (.mov (.t 38))⟩]) (.dreg [⟨(some 39), none, (.mov (.t 9))⟩, ⟨(some 40), none, (.load (some 1) (.t 2))⟩, ⟨(some 41), none, (.fld (.t 2) 0)⟩, ⟨(some 42), none, (.load none (.t 41))⟩, ⟨(some 43), none, (.mov (.t 11))⟩, ⟨(some 44), none, (.ixa (.t 42) (.t 43) 5)⟩, ⟨(some 45), none, (.fld (.t 44) 4)⟩, ⟨(some 46), none, (.load none (.t 45))⟩, ⟨(some 47), none, (.load (some 2) (.t 8))⟩, ⟨(some 48), none, (.call f_path_chosen [(.t 40), (.t 46), (.t 47)])⟩, ⟨(some 49), none, (.app (.t 39) (.t 48) 1 8)⟩, ⟨(some 9), none, (.mov (.t 49))⟩] [[], [], [], [2], [], [3, 4], [5], [6], [], [1, 7, 8], [0, 9, 9], [10, 10, 0, 1, 2, 3, 4, 5, 6, 7, 8, 9, 10]] [.no, .rw [.loc 2] [], .no, .rw [.loc 2] [], .no, .no, .no, .no, .rw [.loc 8] [], .no, (.rw [] [.loc 9, .loc 49]), .no]))) (.reg [⟨(some 50), none, (.bin .add (.t 35) (.c (.int .i64 1)))⟩, ⟨(some 35), none, (.mov (.t 50))⟩]))))))) (.gh (.frz (.loc 9) 9) (.reg [⟨(some 51), none, (.mov (.t 9))⟩, ⟨(some 6), none, (.mov (.t 51))⟩]))))))) (.reg [⟨(some 52), none, (.bin .add (.t 29) (.c (.int .i64 1)))⟩, ⟨(some 29), none, (.mov (.t 52))⟩]))))))) (.seq (.reg [⟨(some 53), none, (.mov (.t 6))⟩, ⟨(some 4), none, (.mov (.t 53))⟩, ⟨(some 5), none, (.mov (.c (.int .i64 0)))⟩]) .ret)))))
theorem pSelectR {f_path_Select f_doc_Good f_path_Good f_path_chosen : Nat} (hF : compF P G f_path_Select = some (54, [(none, 4), (none, 5)], (c_path_Select f_doc_Good f_path_Good f_path_chosen).bare)) (d : Doc) (hd : wtN d ≤ B) (l : List Step) (hl : l.length ≤ B)
    (hi : isDoc d = true) (hg : goodPath l = true) (hG : PureC P G f_doc_Good [Doc.av d] (.bool (isDoc d))) (hP : RowC P G f_path_Good [.sl (.par 0) 2 0 l.length] 2 (l.map Step.iv) (fun x ys => x = .bool (goodPath l) ∧ ys = l.map Step.iv))
    (hC : ∀ s ∈ l, ∀ ks : List Int, ks.length ≤ B → (∀ n ∈ ks, 0 ≤ n ∧ n < (d.length : Int)) → PureC P G f_path_chosen [Doc.av d, .list (ks.map intIV), s.av] (.list ((chosenF d s 0 ks).map intIV))) :
    RowC P G f_path_Select [Doc.av d, .sl (.par 0) 2 0 l.length] 2 (l.map Step.iv) (fun x ys => x = .tup [.list ((selectF d l).map intIV), .int .i64 0] ∧ ys = l.map Step.iv) := by
  have hF' : compF P G f_path_Select = some (54, [(none, 4), (none, 5)], (c_path_SelectR f_doc_Good f_path_Good f_path_chosen).bare) := hF
  refine row_of_go hF' (by simp) (by simp [lbss, AV.lbs, Doc.av]) ?_
  have hBv : B = 1073741824 := rfl
  have hdl := wtN_len d
  unfold c_path_SelectR
  simp only [Doc.av] at hG hC
  simp only [↓aX, evp, evq, evl, boxK, stillV, binV, AV.cells, mP, loadV, storeV, ldV, AV.stb, AV.one, IV.av1, Lb.app, Lb.fresh, reduceCtorEq, ptrL, appL, fillA, chunks, ivs, AV.iv, mkE, if_false, if_true, List.not_mem_nil, forall_eq, beq_self_eq_true, List.isEmpty_nil, Nat.reduceEqDiff, Nat.reduceLT, Nat.reduceLeDiff, Nat.reduceAdd, Nat.reduceMul, Int.reduceToNat, Int.reduceLE, Int.reduceLT, Doc.av, rowX]
  refine callT_pure hG ?_
  rw [hi]
  simp only [↓aX, evp, evq, evl, boxK, stillV, binV, AV.cells, mP, loadV, storeV, ldV, AV.stb, AV.one, IV.av1, Lb.app, Lb.fresh, reduceCtorEq, ptrL, appL, fillA, chunks, ivs, AV.iv, mkE, if_false, if_true, List.not_mem_nil, forall_eq, beq_self_eq_true, List.isEmpty_nil, Nat.reduceEqDiff, Nat.reduceLT, Nat.reduceLeDiff, Nat.reduceAdd, Nat.reduceMul, Int.reduceToNat, Int.reduceLE, Int.reduceLT, Bool.not_true]
  refine callT_row (l := .par 0) hP rfl (by simp [upd_at]) ?_
  rintro x ys ⟨rfl, rfl⟩ _ _
  rw [hg]
  have e : selectD d l = (selectF d l, 0) := by unfold selectD; rw [if_pos ⟨hi, hg⟩]
  have hlen : 1 ≤ l.length := by unfold goodPath at hg; simp only [Bool.and_eq_true, decide_eq_true_eq] at hg; exact hg.2.1
  obtain ⟨t, ht, hdt⟩ := isDoc_iff.1 hi
  have hd1 : 1 ≤ d.length := by rw [hdt]; exact doc_head
  obtain ⟨s0, r, rfl⟩ : ∃ s0 r, l = s0 :: r := by cases l with | nil => simp at hlen | cons a r => exact ⟨a, r, rfl⟩
  have hc0 := hC s0 (by simp) [0] (by simp [hBv]) (by intro n hn; simp only [List.mem_singleton] at hn; subst hn; omega)
  simp only [List.map_cons, List.map_nil, intIV, Step.av] at hc0
  simp only [↓aX, evp, evq, evl, boxK, stillV, binV, AV.cells, mP, loadV, storeV, ldV, AV.stb, AV.one, IV.av1, Lb.app, Lb.fresh, reduceCtorEq, ptrL, appL, fillA, chunks, ivs, AV.iv, mkE, if_false, if_true, List.not_mem_nil, forall_eq, beq_self_eq_true, List.isEmpty_nil, Nat.reduceEqDiff, Nat.reduceLT, Nat.reduceLeDiff, Nat.reduceAdd, Nat.reduceMul, Int.reduceToNat, Int.reduceLE, Int.reduceLT, Bool.not_true, Nat.zero_add, Nat.add_zero, List.length_cons, Nat.zero_lt_succ, true_and, immE_get', stGet, List.getElem?_cons_zero, Option.map_some, Option.bind_some, Step.cells_eq, Step.cs, List.map_cons, List.map_nil, List.length_nil, List.drop_zero, List.take_succ_cons, List.take_zero, Nat.le_refl]
  refine ⟨rfl, puK_in hc0 ?_⟩
  simp only [↓aX, evp, evq, evl, boxK, stillV, binV, AV.cells, mP, loadV, storeV, ldV, AV.stb, AV.one, IV.av1, Lb.app, Lb.fresh, reduceCtorEq, ptrL, appL, fillA, chunks, ivs, AV.iv, mkE, if_false, if_true, List.not_mem_nil, forall_eq, beq_self_eq_true, List.isEmpty_nil, Nat.reduceEqDiff, Nat.reduceLT, Nat.reduceLeDiff, Nat.reduceAdd, Nat.reduceMul, Int.reduceToNat, Int.reduceLE, Int.reduceLT, slcV, cutB, bnd, evq, show (1 : Int).toNat = 1 from rfl, show (0 : Int) ≤ 1 by decide, true_and, List.length_cons, List.length_map, show 1 ≤ r.length + 1 by omega, Option.bind_some, Option.map_some, Option.isSome_none, Nat.zero_add, Nat.add_sub_cancel, reduceCtorEq]
  have hr2 : ∀ (ρ : Lb → Lb) (xs : List IV), renR ρ ⟨2, immE xs⟩ = ⟨2, immE xs⟩ := fun ρ xs => renR_immE _ _ _
  have hr1 : ∀ (ρ : Lb → Lb) (xs : List IV), renR ρ ⟨1, immE xs⟩ = ⟨1, immE xs⟩ := fun ρ xs => renR_immE _ _ _
  have hne : ∀ j, s0 :: r.take j ≠ [] := fun j => by simp
  refine loop_used (σ := { j : Nat // j ≤ r.length }) (fun _ => [.par 0, .loc 2]) (fun _ _ => false)
    (fun q => [(2, .ptr (.loc 2) 1 0 0), (6, .list ((selectF d (s0 :: r.take q.1)).map intIV)), (27, .sl (.par 0) 2 1 r.length), (28, .int .i64 r.length), (29, .int .i64 q.1)])
    (fun q => [(.par 0, ⟨2, immE ((s0 :: r).map Step.iv)⟩), (.loc 2, ⟨1, [[.list (d.map Node.iv)]]⟩)]) (fun q => r.length - q.1) ⟨0, Nat.zero_le _⟩ (fun _ => rfl) (fun q => by simp [lbss, AV.lbs]) ?_ ⟨[], ?_⟩ ?_
  · intro q w hw cs hcs z hz
    simp only [List.mem_cons, List.not_mem_nil, or_false] at hw
    rcases hw with rfl | rfl
    · rw [lbss_immE hcs] at hz; simp at hz
    · simp only [List.mem_singleton] at hcs; subst hcs; simp [lbss, AV.lbs] at hz
  · refine ⟨?_, ?_, ?_, by simp [rnF], fun l _ => ⟨id, fun _ => rfl⟩⟩
    · intro l hf hu
      by_cases e0 : l = .par 0
      · subst e0; left; simp
      · exfalso; apply hu
        cases l <;> simp_all [Lb.fresh, upd_at, Hp.none]
    · simp [EqL, rnF, ren, put, selectF, selF]
    · simp only [RwL, hr2]
      simp [rnF, upd_at, renR, rens, ren]
  · rintro ⟨j, hj⟩
    rw [ofU_f]
    obtain ⟨hsl, hsm⟩ := sel_mem hi (hne j)
    simp only [↓aX, evp, evq, evl, boxK, stillV, binV, AV.cells, mP, loadV, storeV, ldV, AV.stb, AV.one, IV.av1, Lb.app, Lb.fresh, reduceCtorEq, ptrL, appL, fillA, chunks, ivs, AV.iv, mkE, if_false, if_true, List.not_mem_nil, forall_eq, beq_self_eq_true, List.isEmpty_nil, Nat.reduceEqDiff, Nat.reduceLT, Nat.reduceLeDiff, Nat.reduceAdd, Nat.reduceMul, Int.reduceToNat, Int.reduceLE, Int.reduceLT, ofH_nil, ofH_cons, List.length_map]
    by_cases hlt : j < r.length
    · rw [show decide (((j : Nat) : Int) < ((r.length : Nat) : Int)) = true by simpa using hlt]
      obtain ⟨s, hs⟩ : ∃ s, r[j]? = some s := ⟨_, List.getElem?_eq_getElem hlt⟩
      have hsmem : s ∈ s0 :: r := List.mem_cons_of_mem _ (List.mem_of_getElem? hs)
      have hw : IntKind.i64.wrap ((j : Int) + 1) = ((j + 1 : Nat) : Int) := wrap64 (by omega) (by simp only [List.length_cons] at hl; omega)
      have hnext : selectF d (s0 :: r.take (j + 1)) = (selectF d (s0 :: r.take j)).flatMap fun n => chosenF d s 0 (kidsD d n) := by
        rw [List.take_add_one, hs, ← sel_snoc d _ s (hne j)]; rfl
      have hnl := (sel_mem hi (hne (j + 1))).1
      rw [hnext] at hnl
      have hs' : (s0.iv :: r.map Step.iv)[1 + j]? = some s.iv := by rw [Nat.add_comm]; simp [hs]
      simp only [↓aX, evp, evq, evl, boxK, stillV, binV, AV.cells, mP, loadV, storeV, ldV, AV.stb, AV.one, IV.av1, Lb.app, Lb.fresh, reduceCtorEq, ptrL, appL, fillA, chunks, ivs, AV.iv, mkE, if_false, if_true, List.not_mem_nil, forall_eq, beq_self_eq_true, List.isEmpty_nil, Nat.reduceEqDiff, Nat.reduceLT, Nat.reduceLeDiff, Nat.reduceAdd, Nat.reduceMul, Int.reduceToNat, Int.reduceLE, Int.reduceLT, Int.natCast_nonneg, Int.toNat_natCast, true_and, hlt, immE_get', stGet, hs', Option.map_some, Option.bind_some, Step.cells_eq, Step.cs, List.map_cons, List.map_nil, List.length_cons, List.length_nil, List.drop_zero, List.take_succ_cons, List.take_zero, Nat.zero_add, Nat.add_zero, Nat.le_refl]
      refine loop_used (σ := { i : Nat // i ≤ (selectF d (s0 :: r.take j)).length }) (fun _ => [.par 0, .loc 2, .loc 8, .loc 9]) (fun _ _ => false)
        (fun q => [(2, .ptr (.loc 2) 1 0 0), (27, .sl (.par 0) 2 1 r.length), (28, .int .i64 r.length), (29, .int .i64 j), (8, .ptr (.loc 8) 2 0 0),
          (9, .sl (.loc 9) 1 0 (((selectF d (s0 :: r.take j)).take q.1).flatMap fun n => chosenF d s 0 (kidsD d n)).length), (33, .list ((selectF d (s0 :: r.take j)).map intIV)), (34, .int .i64 (selectF d (s0 :: r.take j)).length), (35, .int .i64 q.1)])
        (fun q => [(.par 0, ⟨2, immE ((s0 :: r).map Step.iv)⟩), (.loc 2, ⟨1, [[.list (d.map Node.iv)]]⟩), (.loc 8, ⟨2, [[.str s.name, .int .i64 s.n]]⟩), (.loc 9, ⟨1, immE ((((selectF d (s0 :: r.take j)).take q.1).flatMap fun n => chosenF d s 0 (kidsD d n)).map intIV)⟩)])
        (fun q => (selectF d (s0 :: r.take j)).length - q.1) ⟨0, Nat.zero_le _⟩ (fun _ => rfl) (fun q => by simp [lbss, AV.lbs]) ?_ ⟨[], ?_⟩ ?_
      · intro q w hw cs hcs z hz
        simp only [List.mem_cons, List.not_mem_nil, or_false] at hw
        rcases hw with rfl | rfl | rfl | rfl
        · rw [lbss_immE hcs] at hz; simp at hz
        · simp only [List.mem_singleton] at hcs; subst hcs; simp [lbss, AV.lbs] at hz
        · simp only [List.mem_singleton] at hcs; subst hcs; simp [lbss, AV.lbs] at hz
        · rw [lbss_immE hcs] at hz; simp at hz
      · refine ⟨?_, ?_, ?_, by simp [rnF], fun l _ => ⟨id, fun _ => rfl⟩⟩
        · intro l hf hu
          by_cases e0 : l = .par 0
          · subst e0; left; simp
          · exfalso; apply hu
            cases l <;> simp_all [Lb.fresh, upd_at, Hp.none]
        · simp [EqL, rnF, ren, put]
        · simp only [RwL, hr2, hr1]
          simp [rnF, upd_at, renR, rens, ren, immE]
      · rintro ⟨i, hi2⟩
        rw [ofU_f]
        have htk := flat_take (fun n => chosenF d s 0 (kidsD d n)) (selectF d (s0 :: r.take j)) i
        simp only [↓aX, evp, evq, evl, boxK, stillV, binV, AV.cells, mP, loadV, storeV, ldV, AV.stb, AV.one, IV.av1, Lb.app, Lb.fresh, reduceCtorEq, ptrL, appL, fillA, chunks, ivs, AV.iv, mkE, if_false, if_true, List.not_mem_nil, forall_eq, beq_self_eq_true, List.isEmpty_nil, Nat.reduceEqDiff, Nat.reduceLT, Nat.reduceLeDiff, Nat.reduceAdd, Nat.reduceMul, Int.reduceToNat, Int.reduceLE, Int.reduceLT, ofH_nil, ofH_cons, List.length_map]
        by_cases hlt2 : i < (selectF d (s0 :: r.take j)).length
        · rw [show decide (((i : Nat) : Int) < (((selectF d (s0 :: r.take j)).length : Nat) : Int)) = true by simpa using hlt2]
          obtain ⟨n0, hn0⟩ : ∃ n, (selectF d (s0 :: r.take j))[i]? = some n := ⟨_, List.getElem?_eq_getElem hlt2⟩
          obtain ⟨h0, h1⟩ := hsm n0 (List.mem_of_getElem? hn0)
          obtain ⟨n, rfl⟩ := Int.eq_ofNat_of_zero_le h0
          obtain ⟨x, hx⟩ : ∃ x, d[n]? = some x := ⟨_, List.getElem?_eq_getElem (by omega)⟩
          have hxw := wtN_mem (List.mem_of_getElem? hx)
          simp only [Node.wt] at hxw
          have hcx := hC s hsmem x.kids (by omega) (kids_mem hi hx)
          simp only [Step.av] at hcx
          have hkd : kidsD d (n : Int) = x.kids := by simp only [kidsD, Int.toNat_natCast, hx]
          have hcl := chosen_len d s x.kids 0
          have hstep := flat_step (fun n => chosenF d s 0 (kidsD d n)) hn0
          simp only [hkd] at hstep
          have hwi : IntKind.i64.wrap ((i : Int) + 1) = ((i + 1 : Nat) : Int) := wrap64 (by omega) (by omega)
          have hr : ∀ (ρ : Lb → Lb) (xs : List IV), renR ρ ⟨1, immE xs⟩ = ⟨1, immE xs⟩ := fun ρ xs => renR_immE _ _ _
          simp only [↓aX, evp, evq, evl, boxK, stillV, binV, AV.cells, mP, loadV, storeV, ldV, AV.stb, AV.one, IV.av1, Lb.app, Lb.fresh, reduceCtorEq, ptrL, appL, fillA, chunks, ivs, AV.iv, mkE, if_false, if_true, List.not_mem_nil, forall_eq, beq_self_eq_true, List.isEmpty_nil, Nat.reduceEqDiff, Nat.reduceLT, Nat.reduceLeDiff, Nat.reduceAdd, Nat.reduceMul, Int.reduceToNat, Int.reduceLE, Int.reduceLT, intGet, hn0, elszI, Option.map_some, intIV_cs, Int.toNat_natCast, Doc.get_iv hx, elszN, Node.cells_eq, Node.cs, Int.natCast_nonneg, List.length_map]
          refine ⟨rfl, puK_in hcx ?_⟩
          simp only [↓aX, evp, evq, evl, boxK, stillV, binV, AV.cells, mP, loadV, storeV, ldV, AV.stb, AV.one, IV.av1, Lb.app, Lb.fresh, reduceCtorEq, ptrL, appL, fillA, chunks, ivs, AV.iv, mkE, if_false, if_true, List.not_mem_nil, forall_eq, beq_self_eq_true, List.isEmpty_nil, Nat.reduceEqDiff, Nat.reduceLT, Nat.reduceLeDiff, Nat.reduceAdd, Nat.reduceMul, Int.reduceToNat, Int.reduceLE, Int.reduceLT]
          rw [app_locs 1 8 49 9 ((((selectF d (s0 :: r.take j)).take i).flatMap fun n => chosenF d s 0 (kidsD d n)).map intIV) ((chosenF d s 0 x.kids).map intIV) (by simp [upd_at]) (by simp) (elszI _) (flatI _)
            (by rw [List.length_map]; omega) (by decide) (by decide) (by simp [upd_at, Hp.none])]
          simp only [↓aX, evp, evq, evl, boxK, stillV, binV, AV.cells, mP, loadV, storeV, ldV, AV.stb, AV.one, IV.av1, Lb.app, Lb.fresh, reduceCtorEq, ptrL, appL, fillA, chunks, ivs, AV.iv, mkE, if_false, if_true, List.not_mem_nil, forall_eq, beq_self_eq_true, List.isEmpty_nil, Nat.reduceEqDiff, Nat.reduceLT, Nat.reduceLeDiff, Nat.reduceAdd, Nat.reduceMul, Int.reduceToNat, Int.reduceLE, Int.reduceLT, hwi]
          refine ⟨by rintro l (rfl | rfl) <;> simp [Lb.fam], ⟨i + 1, by omega⟩, by simp only; omega, [(.loc 9, .loc 49)], ?_⟩
          refine ⟨?_, ?_, ?_, by simp [rnF], ?_⟩
          · intro l hf hu
            by_cases e0 : l = .par 0
            · subst e0; left; simp
            · exfalso; apply hu
              cases l <;> simp_all [Lb.fresh, upd_at, Hp.none]
          · simp only [hstep]
            simp [EqL, rnF, ren, put]
          · simp only [RwL, hr2, hr, hstep, List.map_append]
            simp [rnF, upd_at, renR, rens, ren]
          · intro l hl
            simp only [List.mem_cons, List.not_mem_nil, or_false] at hl
            rcases hl with rfl | rfl | rfl | rfl
            · exact ⟨fun h => by simp [Lb.fresh] at h, fun _ => rfl⟩
            · exact ⟨fun _ => rfl, fun _ => rfl⟩
            · exact ⟨fun _ => rfl, fun _ => rfl⟩
            · exact ⟨fun _ => rfl, fun h => by simp [Lb.fresh] at h⟩
        · have hil : (selectF d (s0 :: r.take j)).take i = selectF d (s0 :: r.take j) := List.take_of_length_le (by omega)
          rw [show decide (((i : Nat) : Int) < (((selectF d (s0 :: r.take j)).length : Nat) : Int)) = false by simpa using hlt2]
          rw [hil, ← hnext]
          simp only [↓aX, evp, evq, evl, boxK, stillV, binV, AV.cells, mP, loadV, storeV, ldV, AV.stb, AV.one, IV.av1, Lb.app, Lb.fresh, reduceCtorEq, ptrL, appL, fillA, chunks, ivs, AV.iv, mkE, if_false, if_true, List.not_mem_nil, forall_eq, beq_self_eq_true, List.isEmpty_nil, Nat.reduceEqDiff, Nat.reduceLT, Nat.reduceLeDiff, Nat.reduceAdd, Nat.reduceMul, Int.reduceToNat, Int.reduceLE, Int.reduceLT]
          refine ⟨1, (selectF d (s0 :: r.take (j + 1))).map intIV, 0, (selectF d (s0 :: r.take (j + 1))).length, rfl, rfl, by simp, flatI _, ?_⟩
          simp only [↓aX, evp, evq, evl, boxK, stillV, binV, AV.cells, mP, loadV, storeV, ldV, AV.stb, AV.one, IV.av1, Lb.app, Lb.fresh, reduceCtorEq, ptrL, appL, fillA, chunks, ivs, AV.iv, mkE, if_false, if_true, List.not_mem_nil, forall_eq, beq_self_eq_true, List.isEmpty_nil, Nat.reduceEqDiff, Nat.reduceLT, Nat.reduceLeDiff, Nat.reduceAdd, Nat.reduceMul, Int.reduceToNat, Int.reduceLE, Int.reduceLT, List.drop_zero, List.take_of_length_le (show ((selectF d (s0 :: r.take (j + 1))).map intIV).length ≤ (selectF d (s0 :: r.take (j + 1))).length by simp), hw]
          refine ⟨⟨j + 1, by omega⟩, by simp only; omega, [], ?_⟩
          refine ⟨?_, ?_, ?_, by simp [rnF], fun l _ => ⟨id, fun _ => rfl⟩⟩
          · intro l hf hu
            by_cases e0 : l = .par 0
            · subst e0; left; simp
            · exfalso; apply hu
              cases l <;> simp_all [Lb.fresh, upd_at, Hp.none]
          · simp [EqL, rnF, ren, put]
          · simp only [RwL, hr2]
            simp [rnF, upd_at, renR, rens, ren]
    · have hjl : r.take j = r := List.take_of_length_le (by omega)
      rw [show decide (((j : Nat) : Int) < ((r.length : Nat) : Int)) = false by simpa using hlt, hjl]
      simp only [↓aX, evp, evq, evl, boxK, stillV, binV, AV.cells, mP, loadV, storeV, ldV, AV.stb, AV.one, IV.av1, Lb.app, Lb.fresh, reduceCtorEq, ptrL, appL, fillA, chunks, ivs, AV.iv, mkE, if_false, if_true, List.not_mem_nil, forall_eq, beq_self_eq_true, List.isEmpty_nil, Nat.reduceEqDiff, Nat.reduceLT, Nat.reduceLeDiff, Nat.reduceAdd, Nat.reduceMul, Int.reduceToNat, Int.reduceLE, Int.reduceLT, ↓ret2_r, e]
      exact ⟨_, rfl, by simp [AV.lbs, lbss], by simp, by simp [upd_at]⟩
end
end Go.Am

/- Paths of any elements. -/
namespace Go.Am
open Go Go.RowKit
def starS : Step := ⟨[42], 0⟩
def hashS : Step := ⟨[], 0⟩
theorem par_elem {d : Doc} (hd : isDoc d = true) {n : Nat} {x : Node} (h : d[n]? = some x) (hp : 0 ≤ x.parent) : ∃ y, d[x.parent.toNat]? = some y ∧ y.text = false ∧ x.parent.toNat < n := by
  obtain ⟨t, ht, rfl⟩ := isDoc_iff.1 hd
  have hlt := (List.getElem?_eq_some_iff.1 h).1
  obtain ⟨q, y, l, s⟩ := lies_doc hlt
  have hn := l.node
  rw [h] at hn
  have hq : x.parent = q := by simp only [Option.some.injEq] at hn; rw [hn]; rfl
  rcases s.parent with ⟨_, e2, _⟩ | ⟨m, z, r, e1, e2, e3, e4, e5, _⟩
  · omega
  · have lz := e2.lies (docOf t) ⟨[], by simp [docOf]⟩
    have hm : x.parent.toNat = m := by omega
    refine ⟨z.node m r, by rw [hm]; exact lz.node, ?_, by omega⟩
    have hf := e2.fine ((good_iff t).1 ht).2.2.2
    cases hz : z.text with
    | false => show z.text = false; exact hz
    | true =>
      have := (Tree.fine_text hf hz).1
      rw [this] at e5; simp at e5
theorem called_star {d : Doc} {n : Nat} {x : Node} (h : d[n]? = some x) : calledF d [42] n = !x.text := by
  simp only [calledF, h, fitsN]
  cases hx : x.text <;> simp
theorem called_hash {d : Doc} {n : Nat} {x : Node} (h : d[n]? = some x) : calledF d [] n = x.text := by
  simp only [calledF, h, fitsN]
  cases hx : x.text <;> simp
theorem dep_step' {d : Doc} (hi : isDoc d = true) {n : Nat} {x : Node} (h : d[n]? = some x) : depD d n = if 0 ≤ x.parent then depD d x.parent.toNat + 1 else 1 := by
  obtain ⟨t, ht, rfl⟩ := isDoc_iff.1 hi
  rw [depD_eq h rfl]
  rcases doc_parent h with ⟨e1, e2⟩ | ⟨e1, e2, e3⟩
  · rw [if_neg (by omega), if_neg (by omega)]
  · rw [if_pos (by omega), if_pos e2]
theorem dep_pos {d : Doc} (hi : isDoc d = true) {n : Nat} {x : Node} (h : d[n]? = some x) : 1 ≤ depD d n := by
  rw [dep_step' hi h]; split <;> omega
/-- Any elements, so deep. -/
theorem meant_star {d : Doc} (hi : isDoc d = true) : ∀ (D n : Nat) (x : Node), d[n]? = some x → meantF' d (List.replicate (D + 1) starS) n = (decide (depD d n = D + 1) && !x.text) := by
  intro D
  induction D with
  | zero =>
    intro n x h
    rw [List.replicate_succ, meantF'_eq h rfl]
    simp only [starS, called_star h, List.replicate_zero, List.isEmpty_nil, Bool.not_true, Bool.false_and]
    rw [dep_step' hi h]
    by_cases hp : 0 ≤ x.parent
    · obtain ⟨y, hy, _, _⟩ := par_elem hi h hp
      have := dep_pos hi hy
      rw [if_neg (by omega), if_pos hp, decide_eq_false (by omega)]
      simp
    · rw [if_pos (by omega), if_neg hp]
      simp
  | succ D ih =>
    intro n x h
    rw [List.replicate_succ, meantF'_eq h rfl]
    rw [dep_step' hi h]
    by_cases hp : 0 ≤ x.parent
    · obtain ⟨y, hy, hyt, _⟩ := par_elem hi h hp
      rw [if_neg (by omega), if_pos hp, ih _ y hy, hyt]
      simp only [starS, called_star h]
      by_cases e : depD d x.parent.toNat = D + 1
      · rw [decide_eq_true e, decide_eq_true (by omega)]
        simp [List.replicate_succ]
      · rw [decide_eq_false e, decide_eq_false (by omega)]
        simp
    · rw [if_pos (by omega), if_neg hp]
      simp [List.replicate_succ]
theorem meant_hash {d : Doc} (hi : isDoc d = true) (D n : Nat) (x : Node) (h : d[n]? = some x) : meantF' d (hashS :: List.replicate D starS) n = (decide (depD d n = D + 1) && x.text) := by
  rw [meantF'_eq h rfl, dep_step' hi h]
  simp only [hashS, called_hash h]
  by_cases hp : 0 ≤ x.parent
  · obtain ⟨y, hy, hyt, _⟩ := par_elem hi h hp
    have hpos := dep_pos hi hy
    rw [if_neg (by omega), if_pos hp]
    cases D with
    | zero =>
      rw [decide_eq_false (by omega)]
      simp
    | succ D =>
      rw [meant_star hi D _ y hy, hyt]
      by_cases e : depD d x.parent.toNat = D + 1
      · rw [decide_eq_true e, decide_eq_true (by omega)]
        simp [List.replicate_succ]
      · rw [decide_eq_false e, decide_eq_false (by omega)]
        simp
  · rw [if_pos (by omega), if_neg hp]
    cases D with
    | zero => simp
    | succ D => simp [List.replicate_succ]
/-- How many are so deep: elements, texts; among the first i. -/
def cntE (d : Doc) (D i : Nat) : Nat := ((List.range i).filter fun n => decide (depD d n = D) && !((d[n]?).any Node.text)).length
def cntX (d : Doc) (D i : Nat) : Nat := ((List.range i).filter fun n => decide (depD d n = D) && (d[n]?).any Node.text).length
theorem cntE_step {d : Doc} {D i : Nat} {x : Node} (h : d[i]? = some x) : cntE d D (i + 1) = cntE d D i + if depD d i = D ∧ x.text = false then 1 else 0 := by
  unfold cntE
  rw [List.range_succ, List.filter_append, List.length_append]
  congr 1
  simp only [List.filter_cons, List.filter_nil, h, Option.any_some]
  by_cases e : depD d i = D
  · cases hx : x.text <;> simp [e]
  · simp [e]
theorem cntX_step {d : Doc} {D i : Nat} {x : Node} (h : d[i]? = some x) : cntX d D (i + 1) = cntX d D i + if depD d i = D ∧ x.text = true then 1 else 0 := by
  unfold cntX
  rw [List.range_succ, List.filter_append, List.length_append]
  congr 1
  simp only [List.filter_cons, List.filter_nil, h, Option.any_some]
  by_cases e : depD d i = D
  · cases hx : x.text <;> simp [e]
  · simp [e]
theorem cntE_le (d : Doc) (D i : Nat) : cntE d D i ≤ i := by
  unfold cntE
  refine Nat.le_trans (List.length_filter_le _ _) (by simp)
theorem cntX_le (d : Doc) (D i : Nat) : cntX d D i ≤ i := by
  unfold cntX
  refine Nat.le_trans (List.length_filter_le _ _) (by simp)
theorem sel_star {d : Doc} (hi : isDoc d = true) (D : Nat) : (selectF d (List.replicate (D + 1) starS)).length = cntE d (D + 1) d.length := by
  obtain ⟨t, ht, rfl⟩ := isDoc_iff.1 hi
  rw [selectF_meant _ (by simp [List.replicate_succ]), List.length_map, List.reverse_replicate]
  unfold cntE
  congr 1
  refine List.filter_congr fun n hn => ?_
  obtain ⟨x, hx⟩ : ∃ x, (docOf t)[n]? = some x := ⟨_, List.getElem?_eq_getElem (List.mem_range.1 hn)⟩
  rw [meant_star hi D n x hx, hx]; rfl
theorem sel_hash {d : Doc} (hi : isDoc d = true) (D : Nat) : (selectF d (List.replicate D starS ++ [hashS])).length = cntX d (D + 1) d.length := by
  obtain ⟨t, ht, rfl⟩ := isDoc_iff.1 hi
  rw [selectF_meant _ (by simp), List.length_map, List.reverse_append, List.reverse_replicate]
  unfold cntX
  congr 1
  refine List.filter_congr fun n hn => ?_
  obtain ⟨x, hx⟩ : ∃ x, (docOf t)[n]? = some x := ⟨_, List.getElem?_eq_getElem (List.mem_range.1 hn)⟩
  show meantF' (docOf t) (hashS :: List.replicate D starS) n = _
  rw [meant_hash hi D n x hx, hx]; rfl
theorem good_star (D : Nat) (h : D < 5) : goodPath (List.replicate (D + 1) starS) = true := by
  have : ∀ D : Fin 5, goodPath (List.replicate (D.val + 1) starS) = true := by decide
  exact this ⟨D, h⟩
theorem good_hash (D : Nat) (h : D < 5) : goodPath (List.replicate D starS ++ [hashS]) = true := by
  have : ∀ D : Fin 5, goodPath (List.replicate D.val starS ++ [hashS]) = true := by decide
  exact this ⟨D, h⟩
end Go.Am
