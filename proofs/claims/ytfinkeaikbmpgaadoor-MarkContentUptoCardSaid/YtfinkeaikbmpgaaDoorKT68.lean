import Derived.Test.YtfinkeaikbmpgaaDoorT67
import Derived.Test.YtfinkeaikbmpgaaDoorKAm34
import Derived.Test.YtfinkeaikbmpgaaDoorKAm23
set_option linter.unusedSimpArgs false
set_option linter.unusedVariables false
set_option linter.unnecessarySimpa false
set_option linter.defProp false
/- Attributes sorted: SortStableFunc. -/
set_option pp.deepTerms false
set_option pp.deepTerms.threshold 5
namespace Go.Am
open Go Go.RowKit
section
variable {P : Program} {G : Nat → Option (List IV)}
def c_slices_stableCmpFunc_Attr (f_slices_insertionSortCmpFunc_Attr f_slices_symMergeCmpFunc_Attr : Nat) : AC :=
(.seq (.reg [⟨(some 6), none, (.mov (.c (.int .i64 20)))⟩]) (.seq (.reg [⟨(some 10), none, (.mov (.t 6))⟩, ⟨(some 7), none, (.mov (.c (.int .i64 0)))⟩, ⟨(some 8), none, (.mov (.t 10))⟩]) (.seq (.block 0 (.loop (.seq (.seq (.reg [⟨(some 11), none, (.mov (.t 8))⟩, ⟨(some 12), none, (.mov (.t 1))⟩, ⟨(some 13), none, (.bin .leq (.t 11) (.t 12))⟩]) (.cond (.t 13) .skip (.exit 0))) (.block 1 (.seq (.reg [⟨(some 14), none, (.mov (.t 0))⟩, ⟨(some 15), none, (.mov (.t 7))⟩, ⟨(some 16), none, (.mov (.t 8))⟩, ⟨(some 17), none, (.mov (.t 2))⟩, ⟨(some 18), none, (.call f_slices_insertionSortCmpFunc_Attr [(.t 14), (.t 15), (.t 16), (.t 17)])⟩]) (.seq (.reg [⟨(some 19), none, (.mov (.t 8))⟩, ⟨(some 7), none, (.mov (.t 19))⟩]) (.reg [⟨(some 20), none, (.mov (.t 8))⟩, ⟨(some 21), none, (.mov (.t 6))⟩, ⟨(some 22), none, (.bin .add (.t 20) (.t 21))⟩, ⟨(some 8), none, (.mov (.t 22))⟩]))))))) (.seq (.reg [⟨(some 23), none, (.mov (.t 0))⟩, ⟨(some 24), none, (.mov (.t 7))⟩, ⟨(some 25), none, (.mov (.t 1))⟩, ⟨(some 26), none, (.mov (.t 2))⟩, ⟨(some 27), none, (.call f_slices_insertionSortCmpFunc_Attr [(.t 23), (.t 24), (.t 25), (.t 26)])⟩]) (.block 2 (.loop (.seq (.seq (.reg [⟨(some 28), none, (.mov (.t 6))⟩, ⟨(some 29), none, (.mov (.t 1))⟩, ⟨(some 30), none, (.bin .lss (.t 28) (.t 29))⟩]) (.cond (.t 30) .skip (.exit 2))) (.block 3 (.seq (.reg [⟨(some 31), none, (.mov (.t 6))⟩, ⟨(some 32), none, (.bin .mul (.c (.int .i64 2)) (.t 31))⟩, ⟨(some 7), none, (.mov (.c (.int .i64 0)))⟩, ⟨(some 8), none, (.mov (.t 32))⟩]) (.seq (.block 4 (.loop (.seq (.seq (.reg [⟨(some 33), none, (.mov (.t 8))⟩, ⟨(some 34), none, (.mov (.t 1))⟩, ⟨(some 35), none, (.bin .leq (.t 33) (.t 34))⟩]) (.cond (.t 35) .skip (.exit 4))) (.block 5 (.seq (.reg [⟨(some 36), none, (.mov (.t 0))⟩, ⟨(some 37), none, (.mov (.t 7))⟩, ⟨(some 38), none, (.mov (.t 7))⟩, ⟨(some 39), none, (.mov (.t 6))⟩, ⟨(some 40), none, (.bin .add (.t 38) (.t 39))⟩, ⟨(some 41), none, (.mov (.t 8))⟩, ⟨(some 42), none, (.mov (.t 2))⟩, ⟨(some 43), none, (.call f_slices_symMergeCmpFunc_Attr [(.t 36), (.t 37), (.t 40), (.t 41), (.t 42)])⟩]) (.seq (.reg [⟨(some 44), none, (.mov (.t 8))⟩, ⟨(some 7), none, (.mov (.t 44))⟩]) (.reg [⟨(some 45), none, (.mov (.t 8))⟩, ⟨(some 46), none, (.mov (.t 6))⟩, ⟨(some 47), none, (.bin .mul (.c (.int .i64 2)) (.t 46))⟩, ⟨(some 48), none, (.bin .add (.t 45) (.t 47))⟩, ⟨(some 8), none, (.mov (.t 48))⟩]))))))) (.seq (.seq (.reg [⟨(some 49), none, (.mov (.t 7))⟩, ⟨(some 50), none, (.mov (.t 6))⟩, ⟨(some 51), none, (.bin .add (.t 49) (.t 50))⟩, ⟨(some 9), none, (.mov (.t 51))⟩]) (.seq (.reg [⟨(some 52), none, (.mov (.t 9))⟩, ⟨(some 53), none, (.mov (.t 1))⟩, ⟨(some 54), none, (.bin .lss (.t 52) (.t 53))⟩]) (.cond (.t 54) (.reg [⟨(some 55), none, (.mov (.t 0))⟩, ⟨(some 56), none, (.mov (.t 7))⟩, ⟨(some 57), none, (.mov (.t 9))⟩, ⟨(some 58), none, (.mov (.t 1))⟩, ⟨(some 59), none, (.mov (.t 2))⟩, ⟨(some 60), none, (.call f_slices_symMergeCmpFunc_Attr [(.t 55), (.t 56), (.t 57), (.t 58), (.t 59)])⟩]) .skip))) (.reg [⟨(some 61), none, (.mov (.t 6))⟩, ⟨(some 62), none, (.bin .mul (.t 61) (.c (.int .i64 2)))⟩, ⟨(some 6), none, (.mov (.t 62))⟩]))))))))))))
theorem pStable {f_slices_stableCmpFunc_Attr f_slices_insertionSortCmpFunc_Attr f_slices_symMergeCmpFunc_Attr f_cmp : Nat} (hF : compF P G f_slices_stableCmpFunc_Attr = some (63, [], (c_slices_stableCmpFunc_Attr f_slices_insertionSortCmpFunc_Attr f_slices_symMergeCmpFunc_Attr).bare))
    (hI : ∀ (l : List Attr), l.length ≤ B → ∀ a b : Nat, a ≤ b → b ≤ l.length → RowC P G f_slices_insertionSortCmpFunc_Attr [.sl (.par 0) 2 0 l.length, .int .i64 a, .int .i64 b, .fn f_cmp [] []] 2 (ivA l) fun x ys => ∃ zs : List Attr, ys = ivA zs ∧ zs.Perm l ∧ (a = 0 → zs = sortA (l.take b) ++ l.drop b) ∧ (a = b → zs = l))
    (hS : ∀ (l : List Attr), l.length ≤ B → ∀ a m b : Nat, a < m → m < b → b ≤ l.length → RowC P G f_slices_symMergeCmpFunc_Attr [.sl (.par 0) 2 0 l.length, .int .i64 a, .int .i64 m, .int .i64 b, .fn f_cmp [] []] 2 (ivA l) (PermR l))
    (l : List Attr) (hl : l.length ≤ B) :
    RowC P G f_slices_stableCmpFunc_Attr [.sl (.par 0) 2 0 l.length, .int .i64 l.length, .fn f_cmp [] []] 2 (ivA l) fun x ys => ∃ zs : List Attr, ys = ivA zs ∧ zs.Perm l ∧ (l.length ≤ 20 → zs = sortA l) := by
  refine row_of_go hF (by simp) (by simp [lbss, AV.lbs]) ?_
  have hBv : B = 1073741824 := rfl
  unfold c_slices_stableCmpFunc_Attr
  simp only [↓aX, evp, evq, evl, boxK, stillV, binV, AV.cells, mP, loadV, storeV, ldV, AV.stb, AV.one, IV.av1, Lb.app, Lb.fresh, reduceCtorEq, ptrL, appL, fillA, chunks, ivs, AV.iv, mkE, if_false, if_true, List.not_mem_nil, forall_eq, beq_self_eq_true, List.isEmpty_nil, Nat.reduceEqDiff, Nat.reduceLT, Nat.reduceLeDiff, Nat.reduceAdd, Nat.reduceMul, Int.reduceToNat, Int.reduceLE, Int.reduceLT, rowX]
  refine loop_same (σ := { q : Nat × List Attr // q.1 ≤ l.length ∧ q.2.Perm l ∧ (l.length ≤ 20 → (q.1 = 0 ∧ q.2 = l) ∨ (q.1 = l.length ∧ q.2 = sortA l)) }) [.par 0] (fun q => [(0, .sl (.par 0) 2 0 l.length), (1, .int .i64 l.length), (2, .fn f_cmp [] []), (6, .int .i64 20), (7, .int .i64 q.1.1), (8, .int .i64 ((q.1.1 + 20 : Nat) : Int))]) (fun q => [(.par 0, ⟨2, immE (ivA q.1.2)⟩)]) (fun q => l.length - q.1.1)
    ⟨(0, l), Nat.zero_le _, .refl _, fun _ => .inl ⟨rfl, rfl⟩⟩ (fun _ => rfl) (by decide) (by simp [lbss, AV.lbs]) ?_ ?_ ?_
  · intro q w hw cs hcs z hz
    simp only [List.mem_singleton] at hw; subst hw
    rw [lbss_immE hcs] at hz; simp at hz
  · refine WS_mk ?_ (by repeat' constructor) (by repeat' constructor)
    intro z hz hu
    by_cases e : z = .par 0
    · subst e; simp
    · exfalso; apply hu; simp [upd_at, e, Hp.none]
  · rintro ⟨⟨a, M⟩, ha, hM, hs⟩
    simp only at ha hM hs
    have hMl : M.length = l.length := hM.length_eq
    simp only [↓aX, evp, evq, evl, boxK, stillV, binV, AV.cells, mP, loadV, storeV, ldV, AV.stb, AV.one, IV.av1, Lb.app, Lb.fresh, reduceCtorEq, ptrL, appL, fillA, chunks, ivs, AV.iv, mkE, if_false, if_true, List.not_mem_nil, forall_eq, beq_self_eq_true, List.isEmpty_nil, Nat.reduceEqDiff, Nat.reduceLT, Nat.reduceLeDiff, Nat.reduceAdd, Nat.reduceMul, Int.reduceToNat, Int.reduceLE, Int.reduceLT, ofH_nil, ofH_cons]
    by_cases hle : a + 20 ≤ l.length
    · rw [show decide (((a + 20 : Nat) : Int) ≤ ((l.length : Nat) : Int)) = true by rw [decide_eq_true_eq]; omega]
      have hw : IntKind.i64.wrap (((a + 20 : Nat) : Int) + 20) = ((a + 20 + 20 : Nat) : Int) := wrap64 (by omega) (by omega)
      have hc := hI M (by omega) a (a + 20) (by omega) (by omega)
      rw [hMl] at hc
      simp only [↓aX, evp, evq, evl, boxK, stillV, binV, AV.cells, mP, loadV, storeV, ldV, AV.stb, AV.one, IV.av1, Lb.app, Lb.fresh, reduceCtorEq, ptrL, appL, fillA, chunks, ivs, AV.iv, mkE, if_false, if_true, List.not_mem_nil, forall_eq, beq_self_eq_true, List.isEmpty_nil, Nat.reduceEqDiff, Nat.reduceLT, Nat.reduceLeDiff, Nat.reduceAdd, Nat.reduceMul, Int.reduceToNat, Int.reduceLE, Int.reduceLT]
      refine callT_row (l := .par 0) hc (by simp [rens, ren, atL]) (by simp [upd_at]) ?_
      rintro x1 ys ⟨zs, rfl, hz, hz0, _⟩ _ _
      simp only [↓aX, evp, evq, evl, boxK, stillV, binV, AV.cells, mP, loadV, storeV, ldV, AV.stb, AV.one, IV.av1, Lb.app, Lb.fresh, reduceCtorEq, ptrL, appL, fillA, chunks, ivs, AV.iv, mkE, if_false, if_true, List.not_mem_nil, forall_eq, beq_self_eq_true, List.isEmpty_nil, Nat.reduceEqDiff, Nat.reduceLT, Nat.reduceLeDiff, Nat.reduceAdd, Nat.reduceMul, Int.reduceToNat, Int.reduceLE, Int.reduceLT, hw]
      refine ⟨⟨(a + 20, zs), hle, hz.trans hM, fun h20 => .inr ⟨by simp only; omega, ?_⟩⟩, by simp only; omega, ?_⟩
      · rcases hs h20 with ⟨rfl, rfl⟩ | ⟨h, _⟩
        · have := hz0 rfl
          rw [this, List.take_of_length_le (by omega), List.drop_of_length_le (by omega), List.append_nil]
        · omega
      · refine WS_mk ?_ (by repeat' constructor) (by repeat' constructor)
        intro z hz hu
        by_cases e : z = .par 0
        · subst e; simp
        · exfalso; apply hu; simp [upd_at, e, Hp.none]
    · rw [show decide (((a + 20 : Nat) : Int) ≤ ((l.length : Nat) : Int)) = false by rw [decide_eq_false_iff_not]; omega]
      have hc := hI M (by omega) a l.length ha (by omega)
      rw [hMl] at hc
      simp only [↓aX, evp, evq, evl, boxK, stillV, binV, AV.cells, mP, loadV, storeV, ldV, AV.stb, AV.one, IV.av1, Lb.app, Lb.fresh, reduceCtorEq, ptrL, appL, fillA, chunks, ivs, AV.iv, mkE, if_false, if_true, List.not_mem_nil, forall_eq, beq_self_eq_true, List.isEmpty_nil, Nat.reduceEqDiff, Nat.reduceLT, Nat.reduceLeDiff, Nat.reduceAdd, Nat.reduceMul, Int.reduceToNat, Int.reduceLE, Int.reduceLT]
      refine callT_row (l := .par 0) hc (by simp [rens, ren, atL]) (by simp [upd_at]) ?_
      rintro x1 ys ⟨zs, rfl, hz, hz0, hz1⟩ _ _
      have hzs : l.length ≤ 20 → zs = sortA l := by
        intro h20
        rcases hs h20 with ⟨rfl, rfl⟩ | ⟨h, h2⟩
        · rw [hz0 rfl, List.take_of_length_le (Nat.le_refl _), List.drop_of_length_le (Nat.le_refl _), List.append_nil]
        · rw [hz1 h, h2]
      have hzp := hz.trans hM
      clear hz hz0 hz1 hs hM hMl hc ha hle
      simp only [↓aX, evp, evq, evl, boxK, stillV, binV, AV.cells, mP, loadV, storeV, ldV, AV.stb, AV.one, IV.av1, Lb.app, Lb.fresh, reduceCtorEq, ptrL, appL, fillA, chunks, ivs, AV.iv, mkE, if_false, if_true, List.not_mem_nil, forall_eq, beq_self_eq_true, List.isEmpty_nil, Nat.reduceEqDiff, Nat.reduceLT, Nat.reduceLeDiff, Nat.reduceAdd, Nat.reduceMul, Int.reduceToNat, Int.reduceLE, Int.reduceLT]
      refine loop_same (σ := { q : Nat × List Attr // 0 < q.1 ∧ q.2.Perm l ∧ (q.1 = 20 → q.2 = zs) ∧ 20 ≤ q.1 ∧ (20 < q.1 → 20 < l.length) ∧ q.1 ≤ 2 * l.length + 20 }) [.par 0] (fun q => [(0, .sl (.par 0) 2 0 l.length), (1, .int .i64 l.length), (2, .fn f_cmp [] []), (6, .int .i64 q.1.1)]) (fun q => [(.par 0, ⟨2, immE (ivA q.1.2)⟩)]) (fun q => 2 * l.length + 20 - q.1.1)
        ⟨(20, zs), by simp only; omega, hzp, fun _ => rfl, Nat.le_refl _, fun h => absurd h (by simp), by simp only; omega⟩ (fun _ => rfl) (by decide) (by simp [lbss, AV.lbs]) ?_ ?_ ?_
      · intro q w hw cs hcs z hz
        simp only [List.mem_singleton] at hw; subst hw
        rw [lbss_immE hcs] at hz; simp at hz
      · refine WS_mk ?_ (by repeat' constructor) (by repeat' constructor)
        intro z hz hu
        by_cases e : z = .par 0
        · subst e; simp
        · exfalso; apply hu; simp [upd_at, e, Hp.none]
      · rintro ⟨⟨bs, M⟩, hb0, hM, hq1, hq2, hq3, hq4⟩
        simp only at hb0 hM hq1 hq2 hq3 hq4
        have hMl : M.length = l.length := hM.length_eq
        simp only [↓aX, evp, evq, evl, boxK, stillV, binV, AV.cells, mP, loadV, storeV, ldV, AV.stb, AV.one, IV.av1, Lb.app, Lb.fresh, reduceCtorEq, ptrL, appL, fillA, chunks, ivs, AV.iv, mkE, if_false, if_true, List.not_mem_nil, forall_eq, beq_self_eq_true, List.isEmpty_nil, Nat.reduceEqDiff, Nat.reduceLT, Nat.reduceLeDiff, Nat.reduceAdd, Nat.reduceMul, Int.reduceToNat, Int.reduceLE, Int.reduceLT, ofH_nil, ofH_cons]
        by_cases hlt : bs < l.length
        · rw [show decide (((bs : Nat) : Int) < ((l.length : Nat) : Int)) = true by simpa using hlt]
          have hw2 : IntKind.i64.wrap (2 * (bs : Int)) = ((2 * bs : Nat) : Int) := by rw [wrap64 (by omega) (by omega)]; omega
          have hw3 : IntKind.i64.wrap ((bs : Int) * 2) = ((2 * bs : Nat) : Int) := by rw [wrap64 (by omega) (by omega)]; omega
          simp only [↓aX, evp, evq, evl, boxK, stillV, binV, AV.cells, mP, loadV, storeV, ldV, AV.stb, AV.one, IV.av1, Lb.app, Lb.fresh, reduceCtorEq, ptrL, appL, fillA, chunks, ivs, AV.iv, mkE, if_false, if_true, List.not_mem_nil, forall_eq, beq_self_eq_true, List.isEmpty_nil, Nat.reduceEqDiff, Nat.reduceLT, Nat.reduceLeDiff, Nat.reduceAdd, Nat.reduceMul, Int.reduceToNat, Int.reduceLE, Int.reduceLT, hw2]
          refine loop_same (σ := { q : Nat × List Attr // q.1 ≤ l.length ∧ q.2.Perm l }) [.par 0] (fun q => [(0, .sl (.par 0) 2 0 l.length), (1, .int .i64 l.length), (2, .fn f_cmp [] []), (6, .int .i64 bs), (7, .int .i64 q.1.1), (8, .int .i64 ((q.1.1 + 2 * bs : Nat) : Int))]) (fun q => [(.par 0, ⟨2, immE (ivA q.1.2)⟩)]) (fun q => l.length - q.1.1)
            ⟨(0, M), Nat.zero_le _, hM⟩ (fun _ => rfl) (by decide) (by simp [lbss, AV.lbs]) ?_ ?_ ?_
          · intro q w hw cs hcs z hz
            simp only [List.mem_singleton] at hw; subst hw
            rw [lbss_immE hcs] at hz; simp at hz
          · refine WS_mk ?_ (by simp only [Nat.zero_add]; repeat' constructor) (by repeat' constructor)
            intro z hz hu
            by_cases e : z = .par 0
            · subst e; simp
            · exfalso; apply hu; simp [upd_at, e, Hp.none]
          · rintro ⟨⟨a, M⟩, ha, hM⟩
            simp only at ha hM
            have hMl : M.length = l.length := hM.length_eq
            have hwm : IntKind.i64.wrap ((a : Int) + (bs : Int)) = ((a + bs : Nat) : Int) := wrap64 (by omega) (by omega)
            have hwn : IntKind.i64.wrap (((a + 2 * bs : Nat) : Int) + ((2 * bs : Nat) : Int)) = ((a + 2 * bs + 2 * bs : Nat) : Int) := wrap64 (by omega) (by omega)
            simp only [↓aX, evp, evq, evl, boxK, stillV, binV, AV.cells, mP, loadV, storeV, ldV, AV.stb, AV.one, IV.av1, Lb.app, Lb.fresh, reduceCtorEq, ptrL, appL, fillA, chunks, ivs, AV.iv, mkE, if_false, if_true, List.not_mem_nil, forall_eq, beq_self_eq_true, List.isEmpty_nil, Nat.reduceEqDiff, Nat.reduceLT, Nat.reduceLeDiff, Nat.reduceAdd, Nat.reduceMul, Int.reduceToNat, Int.reduceLE, Int.reduceLT, ofH_nil, ofH_cons, hw2, hwm, hwn]
            by_cases hle : a + 2 * bs ≤ l.length
            · rw [show decide (((a + 2 * bs : Nat) : Int) ≤ ((l.length : Nat) : Int)) = true by rw [decide_eq_true_eq]; omega]
              have hc := hS M (by omega) a (a + bs) (a + 2 * bs) (by omega) (by omega) (by omega)
              rw [hMl] at hc
              simp only [↓aX, evp, evq, evl, boxK, stillV, binV, AV.cells, mP, loadV, storeV, ldV, AV.stb, AV.one, IV.av1, Lb.app, Lb.fresh, reduceCtorEq, ptrL, appL, fillA, chunks, ivs, AV.iv, mkE, if_false, if_true, List.not_mem_nil, forall_eq, beq_self_eq_true, List.isEmpty_nil, Nat.reduceEqDiff, Nat.reduceLT, Nat.reduceLeDiff, Nat.reduceAdd, Nat.reduceMul, Int.reduceToNat, Int.reduceLE, Int.reduceLT, hwm]
              refine callT_row (l := .par 0) hc (by simp [rens, ren, atL]) (by simp [upd_at]) ?_
              rintro x1 ys ⟨z1, rfl, hz⟩ _ _
              simp only [↓aX, evp, evq, evl, boxK, stillV, binV, AV.cells, mP, loadV, storeV, ldV, AV.stb, AV.one, IV.av1, Lb.app, Lb.fresh, reduceCtorEq, ptrL, appL, fillA, chunks, ivs, AV.iv, mkE, if_false, if_true, List.not_mem_nil, forall_eq, beq_self_eq_true, List.isEmpty_nil, Nat.reduceEqDiff, Nat.reduceLT, Nat.reduceLeDiff, Nat.reduceAdd, Nat.reduceMul, Int.reduceToNat, Int.reduceLE, Int.reduceLT, hw2, hwn]
              exact ⟨⟨(a + 2 * bs, z1), hle, hz.trans hM⟩, by simp only; omega, by
                refine WS_mk ?_ (by repeat' constructor) (by repeat' constructor)
                intro z hz hu
                by_cases e : z = .par 0
                · subst e; simp
                · exfalso; apply hu; simp [upd_at, e, Hp.none]⟩
            · rw [show decide (((a + 2 * bs : Nat) : Int) ≤ ((l.length : Nat) : Int)) = false by rw [decide_eq_false_iff_not]; omega]
              simp only [↓aX, evp, evq, evl, boxK, stillV, binV, AV.cells, mP, loadV, storeV, ldV, AV.stb, AV.one, IV.av1, Lb.app, Lb.fresh, reduceCtorEq, ptrL, appL, fillA, chunks, ivs, AV.iv, mkE, if_false, if_true, List.not_mem_nil, forall_eq, beq_self_eq_true, List.isEmpty_nil, Nat.reduceEqDiff, Nat.reduceLT, Nat.reduceLeDiff, Nat.reduceAdd, Nat.reduceMul, Int.reduceToNat, Int.reduceLE, Int.reduceLT, hwm]
              by_cases hmn : a + bs < l.length
              · rw [show decide (((a + bs : Nat) : Int) < ((l.length : Nat) : Int)) = true by rw [decide_eq_true_eq]; omega]
                have hc := hS M (by omega) a (a + bs) l.length (by omega) (by omega) (by omega)
                rw [hMl] at hc
                simp only [↓aX, evp, evq, evl, boxK, stillV, binV, AV.cells, mP, loadV, storeV, ldV, AV.stb, AV.one, IV.av1, Lb.app, Lb.fresh, reduceCtorEq, ptrL, appL, fillA, chunks, ivs, AV.iv, mkE, if_false, if_true, List.not_mem_nil, forall_eq, beq_self_eq_true, List.isEmpty_nil, Nat.reduceEqDiff, Nat.reduceLT, Nat.reduceLeDiff, Nat.reduceAdd, Nat.reduceMul, Int.reduceToNat, Int.reduceLE, Int.reduceLT]
                refine callT_row (l := .par 0) hc (by simp [rens, ren, atL]) (by simp [upd_at]) ?_
                rintro x1 ys ⟨z1, rfl, hz⟩ _ _
                simp only [↓aX, evp, evq, evl, boxK, stillV, binV, AV.cells, mP, loadV, storeV, ldV, AV.stb, AV.one, IV.av1, Lb.app, Lb.fresh, reduceCtorEq, ptrL, appL, fillA, chunks, ivs, AV.iv, mkE, if_false, if_true, List.not_mem_nil, forall_eq, beq_self_eq_true, List.isEmpty_nil, Nat.reduceEqDiff, Nat.reduceLT, Nat.reduceLeDiff, Nat.reduceAdd, Nat.reduceMul, Int.reduceToNat, Int.reduceLE, Int.reduceLT, hw3]
                exact ⟨⟨(2 * bs, z1), by simp only; omega, hz.trans hM, fun h => absurd h (by simp only; omega), by simp only; omega, fun _ => by omega, by simp only; omega⟩, by simp only; omega, by
                  refine WS_mk ?_ (by repeat' constructor) (by repeat' constructor)
                  intro z hz hu
                  by_cases e : z = .par 0
                  · subst e; simp
                  · exfalso; apply hu; simp [upd_at, e, Hp.none]⟩
              · rw [show decide (((a + bs : Nat) : Int) < ((l.length : Nat) : Int)) = false by rw [decide_eq_false_iff_not]; omega]
                simp only [↓aX, evp, evq, evl, boxK, stillV, binV, AV.cells, mP, loadV, storeV, ldV, AV.stb, AV.one, IV.av1, Lb.app, Lb.fresh, reduceCtorEq, ptrL, appL, fillA, chunks, ivs, AV.iv, mkE, if_false, if_true, List.not_mem_nil, forall_eq, beq_self_eq_true, List.isEmpty_nil, Nat.reduceEqDiff, Nat.reduceLT, Nat.reduceLeDiff, Nat.reduceAdd, Nat.reduceMul, Int.reduceToNat, Int.reduceLE, Int.reduceLT, hw3]
                exact ⟨⟨(2 * bs, M), by simp only; omega, hM, fun h => absurd h (by simp only; omega), by simp only; omega, fun _ => by omega, by simp only; omega⟩, by simp only; omega, by
                  refine WS_mk ?_ (by repeat' constructor) (by repeat' constructor)
                  intro z hz hu
                  by_cases e : z = .par 0
                  · subst e; simp
                  · exfalso; apply hu; simp [upd_at, e, Hp.none]⟩
        · rw [show decide (((bs : Nat) : Int) < ((l.length : Nat) : Int)) = false by simpa using hlt]
          simp only [↓aX, evp, evq, evl, boxK, stillV, binV, AV.cells, mP, loadV, storeV, ldV, AV.stb, AV.one, IV.av1, Lb.app, Lb.fresh, reduceCtorEq, ptrL, appL, fillA, chunks, ivs, AV.iv, mkE, if_false, if_true, List.not_mem_nil, forall_eq, beq_self_eq_true, List.isEmpty_nil, Nat.reduceEqDiff, Nat.reduceLT, Nat.reduceLeDiff, Nat.reduceAdd, Nat.reduceMul, Int.reduceToNat, Int.reduceLE, Int.reduceLT, ret_n, resVs, oneV]
          refine ⟨_, rfl, ivA M, ⟨M, rfl, hM, fun h => ?_⟩, by simp [AV.lbs, lbss], by rw [ivA_len, ivA_len, hMl], by simp [upd_at]⟩
          have hb20 : bs = 20 := by
            by_cases h20 : 20 < bs
            · have := hq3 h20; omega
            · omega
          rw [hq1 hb20]; exact hzs h
def c_slices_SortStableFunc_Attr_Attr (f_slices_stableCmpFunc_Attr : Nat) : AC :=
(.reg [⟨(some 4), none, (.mov (.t 0))⟩, ⟨(some 5), none, (.mov (.t 0))⟩, ⟨(some 6), none, (.len (.t 5))⟩, ⟨(some 7), none, (.mov (.t 1))⟩, ⟨(some 8), none, (.call f_slices_stableCmpFunc_Attr [(.t 4), (.t 6), (.t 7)])⟩])
theorem pSortStable {f_slices_SortStableFunc_Attr_Attr f_slices_stableCmpFunc_Attr f_cmp : Nat} (hF : compF P G f_slices_SortStableFunc_Attr_Attr = some (9, [], (c_slices_SortStableFunc_Attr_Attr f_slices_stableCmpFunc_Attr).bare))
    (l : List Attr) (hS : RowC P G f_slices_stableCmpFunc_Attr [.sl (.par 0) 2 0 l.length, .int .i64 l.length, .fn f_cmp [] []] 2 (ivA l) fun x ys => ∃ zs : List Attr, ys = ivA zs ∧ zs.Perm l ∧ (l.length ≤ 20 → zs = sortA l)) :
    RowC P G f_slices_SortStableFunc_Attr_Attr [.sl (.par 0) 2 0 l.length, .fn f_cmp [] []] 2 (ivA l) fun x ys => ∃ zs : List Attr, ys = ivA zs ∧ zs.Perm l ∧ (l.length ≤ 20 → zs = sortA l) := by
  refine row_of_go hF (by simp) (by simp [lbss, AV.lbs]) ?_
  unfold c_slices_SortStableFunc_Attr_Attr
  simp only [↓aX, evp, evq, evl, boxK, stillV, binV, AV.cells, mP, loadV, storeV, ldV, AV.stb, AV.one, IV.av1, Lb.app, Lb.fresh, reduceCtorEq, ptrL, appL, fillA, chunks, ivs, AV.iv, mkE, if_false, if_true, List.not_mem_nil, forall_eq, beq_self_eq_true, List.isEmpty_nil, Nat.reduceEqDiff, Nat.reduceLT, Nat.reduceLeDiff, Nat.reduceAdd, Nat.reduceMul, Int.reduceToNat, Int.reduceLE, Int.reduceLT, rowX]
  refine callT_row (l := .par 0) hS (by simp [rens, ren, atL]) (by simp [upd_at]) ?_
  rintro x1 ys ⟨zs, rfl, hz, hz2⟩ _ _
  simp only [↓aX, evp, evq, evl, boxK, stillV, binV, AV.cells, mP, loadV, storeV, ldV, AV.stb, AV.one, IV.av1, Lb.app, Lb.fresh, reduceCtorEq, ptrL, appL, fillA, chunks, ivs, AV.iv, mkE, if_false, if_true, List.not_mem_nil, forall_eq, beq_self_eq_true, List.isEmpty_nil, Nat.reduceEqDiff, Nat.reduceLT, Nat.reduceLeDiff, Nat.reduceAdd, Nat.reduceMul, Int.reduceToNat, Int.reduceLE, Int.reduceLT, ret_n, resVs, oneV]
  exact ⟨_, rfl, ivA zs, ⟨zs, rfl, hz, hz2⟩, by simp [AV.lbs, lbss], by rw [ivA_len, ivA_len, hz.length_eq], by simp [upd_at]⟩
end
end Go.Am

/- Print, Parse, Content. -/
set_option pp.deepTerms false
set_option pp.deepTerms.threshold 5
namespace Go.Am
open Go Go.RowKit
mutual
theorem Tree.big_fine : ∀ x : Tree, x.big = true → x.fine = false
  | .mk t s as ks, h => by
    simp only [Tree.big, Bool.or_eq_true, decide_eq_true_eq] at h
    cases t with
    | true =>
      rw [Tree.fine_t _ rfl]
      simp only [Tree.attrs, Tree.kids]
      rcases h with h | h
      · have : (as.length == 0) = false := by rw [beq_eq_false_iff_ne]; omega
        simp [this]
      · have : (ks.length == 0) = false := by
          cases ks with
          | nil => simp [bigs] at h
          | cons a r => simp
        simp [this]
    | false =>
      rw [Tree.fine_e _ rfl]
      simp only [Tree.attrs, Tree.kids]
      rcases h with h | h
      · have : goodAttrs as = false := by
          unfold goodAttrs
          rw [decide_eq_false (show ¬ (as.length : Int) ≤ 4 by omega), Bool.and_false]
        simp [this]
      · have := bigs_fine ks h none
        simp [this]
theorem bigs_fine : ∀ l : List Tree, bigs l = true → ∀ p, fines p l = false
  | [], h, _ => by simp [bigs] at h
  | x :: r, h, p => by
    simp only [bigs, Bool.or_eq_true] at h
    rcases h with h | h
    · have := x.big_fine h
      simp [fines, this]
    · have := bigs_fine r h (some x.text)
      simp [fines, this]
end
theorem Tree.big_good {x : Tree} (h : x.big = true) : x.good = false := by unfold Tree.good; rw [x.big_fine h]; simp
theorem bigs_content {l : List Tree} (h : bigs l = true) : content l = false := by unfold content; rw [bigs_fine l h]; simp
def printF (x : Tree) : Bs × Int := if x.good then (if 2500 < x.sh.length then ([], 2) else (x.sh, 0)) else ([], 1)
def noT : Tree := .mk false [] [] []
def parseK (s : Bs) : Tree × Int := match elementF 8 s with
  | some (t, []) => if t.good then (t, 0) else (noT, 1)
  | _ => (noT, 1)
def parseF (s : Bs) : Tree × Int := if 2500 < s.length then (noT, 2) else parseK s
def contK (s : Bs) : List Tree × Int := match kidsF (elementF 8) s with
  | some (l, []) => if content l then (l, 0) else ([], 1)
  | _ => ([], 1)
def contF (s : Bs) : List Tree × Int := if 2500 < s.length then ([], 2) else contK s
section
variable {P : Program} {G : Nat → Option (List IV)}
def c_mark_Print (f_tree_Good f_mark_put : Nat) : AC :=
(.seq (.reg [⟨(some 1), none, (.box (.t 0))⟩, ⟨(some 2), none, (.mov (.c (.str [])))⟩, ⟨(some 3), none, (.mov (.c (.int .i64 0)))⟩]) (.seq (.seq (.reg [⟨(some 5), none, (.load (some 4) (.t 1))⟩, ⟨(some 6), none, (.call f_tree_Good [(.t 5)])⟩, ⟨(some 7), none, (.not (.t 6))⟩]) (.cond (.t 7) (.seq (.reg [⟨(some 2), none, (.mov (.c (.str [])))⟩, ⟨(some 3), none, (.mov (.c (.int .i64 1)))⟩]) .ret) .skip)) (.seq (.reg [⟨(some 8), none, (.load (some 4) (.t 1))⟩, ⟨(some 9), none, (.call f_mark_put [(.c .nil0), (.t 8)])⟩, ⟨(some 4), none, (.mov (.t 9))⟩]) (.seq (.seq (.reg [⟨(some 10), none, (.mov (.t 4))⟩, ⟨(some 11), none, (.len (.t 10))⟩, ⟨(some 12), none, (.bin .gtr (.t 11) (.c (.int .i64 2500)))⟩]) (.cond (.t 12) (.seq (.reg [⟨(some 2), none, (.mov (.c (.str [])))⟩, ⟨(some 3), none, (.mov (.c (.int .i64 2)))⟩]) .ret) .skip)) (.seq (.reg [⟨(some 13), none, (.mov (.t 4))⟩, ⟨(some 14), none, (.cvt (.t 13))⟩, ⟨(some 2), none, (.mov (.t 14))⟩, ⟨(some 3), none, (.mov (.c (.int .i64 0)))⟩]) .ret)))))
theorem pMkPrint {f_mark_Print f_tree_Good f_mark_put : Nat} (hF : compF P G f_mark_Print = some (15, [(none, 2), (none, 3)], (c_mark_Print f_tree_Good f_mark_put).bare)) (x : Tree) (hx : x.wt ≤ B) (hG : PureC P G f_tree_Good [x.av] (.bool x.good)) (hP : PureC P G f_mark_put [.nil0, x.av] (.list (byIV x.sh))) :
    PureC P G f_mark_Print [x.av] (.tup [.str (printF x).1, .int .i64 (printF x).2]) := by
  refine pure_of_go hF (by simp) (by simp [lbss, AV.lbs, Tree.av]) (by simp [AV.lbs, lbss]) ?_
  unfold c_mark_Print
  simp only [Tree.av] at hG hP
  simp only [↓aX, evp, evq, evl, boxK, stillV, binV, AV.cells, mP, loadV, storeV, ldV, AV.stb, AV.one, IV.av1, Lb.app, Lb.fresh, reduceCtorEq, ptrL, appL, fillA, chunks, ivs, AV.iv, mkE, if_false, if_true, List.not_mem_nil, forall_eq, beq_self_eq_true, List.isEmpty_nil, Nat.reduceEqDiff, Nat.reduceLT, Nat.reduceLeDiff, Nat.reduceAdd, Nat.reduceMul, Int.reduceToNat, Int.reduceLE, Int.reduceLT, Tree.av]
  refine callT_pure hG ?_
  unfold printF
  cases hg : x.good with
  | false => simp only [↓aX, evp, evq, evl, boxK, stillV, binV, AV.cells, mP, loadV, storeV, ldV, AV.stb, AV.one, IV.av1, Lb.app, Lb.fresh, reduceCtorEq, ptrL, appL, fillA, chunks, ivs, AV.iv, mkE, if_false, if_true, List.not_mem_nil, forall_eq, beq_self_eq_true, List.isEmpty_nil, Nat.reduceEqDiff, Nat.reduceLT, Nat.reduceLeDiff, Nat.reduceAdd, Nat.reduceMul, Int.reduceToNat, Int.reduceLE, Int.reduceLT, Bool.not_false, ↓ret2_r, Bool.false_eq_true, if_false]
  | true =>
    simp only [↓aX, evp, evq, evl, boxK, stillV, binV, AV.cells, mP, loadV, storeV, ldV, AV.stb, AV.one, IV.av1, Lb.app, Lb.fresh, reduceCtorEq, ptrL, appL, fillA, chunks, ivs, AV.iv, mkE, if_false, if_true, List.not_mem_nil, forall_eq, beq_self_eq_true, List.isEmpty_nil, Nat.reduceEqDiff, Nat.reduceLT, Nat.reduceLeDiff, Nat.reduceAdd, Nat.reduceMul, Int.reduceToNat, Int.reduceLE, Int.reduceLT, Bool.not_true]
    refine callT_pure hP ?_
    by_cases hl : 2500 < x.sh.length
    · simp only [↓aX, evp, evq, evl, boxK, stillV, binV, AV.cells, mP, loadV, storeV, ldV, AV.stb, AV.one, IV.av1, Lb.app, Lb.fresh, reduceCtorEq, ptrL, appL, fillA, chunks, ivs, AV.iv, mkE, if_false, if_true, List.not_mem_nil, forall_eq, beq_self_eq_true, List.isEmpty_nil, Nat.reduceEqDiff, Nat.reduceLT, Nat.reduceLeDiff, Nat.reduceAdd, Nat.reduceMul, Int.reduceToNat, Int.reduceLE, Int.reduceLT, byIV_len, show (((x.sh.length : Nat) : Int) > 2500) = True by simp; omega, decide_true, ↓ret2_r, hl, if_true]
    · simp only [↓aX, evp, evq, evl, boxK, stillV, binV, AV.cells, mP, loadV, storeV, ldV, AV.stb, AV.one, IV.av1, Lb.app, Lb.fresh, reduceCtorEq, ptrL, appL, fillA, chunks, ivs, AV.iv, mkE, if_false, if_true, List.not_mem_nil, forall_eq, beq_self_eq_true, List.isEmpty_nil, Nat.reduceEqDiff, Nat.reduceLT, Nat.reduceLeDiff, Nat.reduceAdd, Nat.reduceMul, Int.reduceToNat, Int.reduceLE, Int.reduceLT, byIV_len, show (((x.sh.length : Nat) : Int) > 2500) = False by simp; omega, decide_false, ↓ret2_r, hl, if_false, cvtV, byteL_by, Option.map_some]
def c_mark_Parse (f_mark_reader_element f_tree_Good : Nat) : AC :=
(.seq (.reg [⟨(some 2), none, (.new [(.bool false), (.str []), .nil0, .nil0])⟩, ⟨(some 3), none, (.mov (.c (.int .i64 0)))⟩]) (.seq (.seq (.reg [⟨(some 6), none, (.mov (.t 0))⟩, ⟨(some 7), none, (.lens (.t 6))⟩, ⟨(some 8), none, (.bin .gtr (.t 7) (.c (.int .i64 2500)))⟩]) (.cond (.t 8) (.seq (.reg [⟨(some 9), none, (.bld [(.bool false), (.str []), .nil0, .nil0] [])⟩, ⟨none, none, (.store 4 (.t 2) (.t 9))⟩, ⟨(some 3), none, (.mov (.c (.int .i64 2)))⟩]) .ret) .skip)) (.seq (.reg [⟨(some 10), none, (.mov (.t 0))⟩, ⟨(some 11), none, (.bld [(.str []), (.bool false)] [(0, (1, (.t 10)))])⟩, ⟨(some 12), none, (.box (.t 11))⟩, ⟨(some 4), none, (.mov (.t 12))⟩]) (.seq (.reg [⟨(some 13), none, (.mov (.t 4))⟩, ⟨(some 14), none, (.call f_mark_reader_element [(.t 13), (.c (.int .i64 1))])⟩, ⟨(some 5), none, (.new [(.bool false), (.str []), .nil0, .nil0])⟩, ⟨none, none, (.store 4 (.t 5) (.t 14))⟩]) (.seq (.seq (.reg [⟨(some 15), none, (.mov (.t 4))⟩, ⟨(some 16), none, (.nchk (.t 15))⟩, ⟨(some 17), none, (.fld (.t 16) 1)⟩, ⟨(some 18), none, (.load none (.t 17))⟩, ⟨(some 19), none, (.mov (.t 18))⟩, ⟨(some 20), (some (19, false)), (.mov (.t 4))⟩, ⟨(some 21), (some (19, false)), (.nchk (.t 20))⟩, ⟨(some 22), (some (19, false)), (.fld (.t 21) 0)⟩, ⟨(some 23), (some (19, false)), (.load none (.t 22))⟩, ⟨(some 24), (some (19, false)), (.bin .neq (.t 23) (.c (.str [])))⟩, ⟨(some 25), none, (.pick (.t 19) (.c (.bool true)) (.t 24))⟩, ⟨(some 26), none, (.mov (.t 25))⟩, ⟨(some 27), (some (26, false)), (.load (some 4) (.t 5))⟩, ⟨(some 28), (some (26, false)), (.call f_tree_Good [(.t 27)])⟩, ⟨(some 29), (some (26, false)), (.not (.t 28))⟩, ⟨(some 30), none, (.pick (.t 26) (.c (.bool true)) (.t 29))⟩]) (.cond (.t 30) (.seq (.reg [⟨(some 31), none, (.bld [(.bool false), (.str []), .nil0, .nil0] [])⟩, ⟨none, none, (.store 4 (.t 2) (.t 31))⟩, ⟨(some 3), none, (.mov (.c (.int .i64 1)))⟩]) .ret) .skip)) (.seq (.reg [⟨(some 32), none, (.load (some 4) (.t 5))⟩, ⟨none, none, (.store 4 (.t 2) (.t 32))⟩, ⟨(some 3), none, (.mov (.c (.int .i64 0)))⟩]) .ret))))))
theorem pMkParse {f_mark_Parse f_mark_reader_element f_tree_Good : Nat} (hF : compF P G f_mark_Parse = some (33, [((some (some 4)), 2), (none, 3)], (c_mark_Parse f_mark_reader_element f_tree_Good).bare)) (s : Bs) (hs : s.length ≤ B) (hE : ∀ s : Bs, s.length ≤ B → MutC P G f_mark_reader_element [.ptr (.par 0) 2 0 0, .int .i64 1] (rdC s false) (ElmR 8 s false))
    (hG : ∀ x : Tree, x.wt ≤ 10000 → PureC P G f_tree_Good [x.av] (.bool x.good)) :
    PureC P G f_mark_Parse [.str s] (.tup [(parseF s).1.av, .int .i64 (parseF s).2]) := by
  refine pure_of_goN hF (by simp) (by simp [lbss, AV.lbs]) (by simp [AV.lbs, lbss, Tree.av]) ?_
  unfold c_mark_Parse parseF
  simp only [↓aX, evp, evq, evl, boxK, stillV, binV, AV.cells, mP, loadV, storeV, ldV, AV.stb, AV.one, IV.av1, Lb.app, Lb.fresh, reduceCtorEq, ptrL, appL, fillA, chunks, ivs, AV.iv, mkE, if_false, if_true, List.not_mem_nil, forall_eq, beq_self_eq_true, List.isEmpty_nil, Nat.reduceEqDiff, Nat.reduceLT, Nat.reduceLeDiff, Nat.reduceAdd, Nat.reduceMul, Int.reduceToNat, Int.reduceLE, Int.reduceLT]
  by_cases hl : 2500 < s.length
  · simp only [↓aX, evp, evq, evl, boxK, stillV, binV, AV.cells, mP, loadV, storeV, ldV, AV.stb, AV.one, IV.av1, Lb.app, Lb.fresh, reduceCtorEq, ptrL, appL, fillA, chunks, ivs, AV.iv, mkE, if_false, if_true, List.not_mem_nil, forall_eq, beq_self_eq_true, List.isEmpty_nil, Nat.reduceEqDiff, Nat.reduceLT, Nat.reduceLeDiff, Nat.reduceAdd, Nat.reduceMul, Int.reduceToNat, Int.reduceLE, Int.reduceLT, show (((s.length : Nat) : Int) > 2500) = True by simp; omega, decide_true, retm2_r, hl, if_true, norm, norms, noT, Tree.av, Tree.text, Tree.s, Tree.attrs, Tree.kids, ivA, ivT, List.map_nil]
  · simp only [↓aX, evp, evq, evl, boxK, stillV, binV, AV.cells, mP, loadV, storeV, ldV, AV.stb, AV.one, IV.av1, Lb.app, Lb.fresh, reduceCtorEq, ptrL, appL, fillA, chunks, ivs, AV.iv, mkE, if_false, if_true, List.not_mem_nil, forall_eq, beq_self_eq_true, List.isEmpty_nil, Nat.reduceEqDiff, Nat.reduceLT, Nat.reduceLeDiff, Nat.reduceAdd, Nat.reduceMul, Int.reduceToNat, Int.reduceLE, Int.reduceLT, show (((s.length : Nat) : Int) > 2500) = False by simp; omega, decide_false]
    refine callT_mut (l := .loc 12) (hE s hs) (by simp [rens, ren, atL]) (by simp [upd_at]) ?_
    rintro x1 cs' ⟨t, r, b', rfl, rfl, hw1, hw2, _, _, hs4⟩ _ _ _
    have hs4 := hs4 rfl
    have hgt := hG t (by omega)
    simp only [Tree.av] at hgt
    simp only [↓aX, evp, evq, evl, boxK, stillV, binV, AV.cells, mP, loadV, storeV, ldV, AV.stb, AV.one, IV.av1, Lb.app, Lb.fresh, reduceCtorEq, ptrL, appL, fillA, chunks, ivs, AV.iv, mkE, if_false, if_true, List.not_mem_nil, forall_eq, beq_self_eq_true, List.isEmpty_nil, Nat.reduceEqDiff, Nat.reduceLT, Nat.reduceLeDiff, Nat.reduceAdd, Nat.reduceMul, Int.reduceToNat, Int.reduceLE, Int.reduceLT, Tree.av, hl, if_false]
    have bad1 : (b' = true ∨ r ≠ [] ∨ t.good = false) → parseK s = (noT, 1) := by
      intro h
      have nogood : (∀ t0, elementF 8 s = some (t0, []) → t0.good = false) → parseK s = (noT, 1) := by
        intro h
        unfold parseK
        split
        · rename_i t0 he; rw [h t0 he]; rfl
        · rfl
      refine nogood fun t0 he => ?_
      rw [he] at hs4
      obtain ⟨rfl, rfl, h7⟩ := hs4
      rcases h with h | h | h
      · cases h
      · exact absurd rfl h
      · rcases h7 with rfl | ⟨_, h8⟩
        · exact h
        · exact Tree.big_good h8
    cases b' with
    | true =>
      rw [bad1 (.inl rfl)]
      simp only [↓aX, evp, evq, evl, boxK, stillV, binV, AV.cells, mP, loadV, storeV, ldV, AV.stb, AV.one, IV.av1, Lb.app, Lb.fresh, reduceCtorEq, ptrL, appL, fillA, chunks, ivs, AV.iv, mkE, if_false, if_true, List.not_mem_nil, forall_eq, beq_self_eq_true, List.isEmpty_nil, Nat.reduceEqDiff, Nat.reduceLT, Nat.reduceLeDiff, Nat.reduceAdd, Nat.reduceMul, Int.reduceToNat, Int.reduceLE, Int.reduceLT, retm2_r, hl, if_false, norm, norms, noT, Tree.text, Tree.s, Tree.attrs, Tree.kids, ivA, ivT, List.map_nil]
      try rfl
    | false =>
      simp only [↓aX, evp, evq, evl, boxK, stillV, binV, AV.cells, mP, loadV, storeV, ldV, AV.stb, AV.one, IV.av1, Lb.app, Lb.fresh, reduceCtorEq, ptrL, appL, fillA, chunks, ivs, AV.iv, mkE, if_false, if_true, List.not_mem_nil, forall_eq, beq_self_eq_true, List.isEmpty_nil, Nat.reduceEqDiff, Nat.reduceLT, Nat.reduceLeDiff, Nat.reduceAdd, Nat.reduceMul, Int.reduceToNat, Int.reduceLE, Int.reduceLT]
      cases hr0 : (r == []) with
      | false =>
        have hr : r ≠ [] := by simpa using hr0
        rw [bad1 (.inr (.inl hr))]
        simp only [↓aX, evp, evq, evl, boxK, stillV, binV, AV.cells, mP, loadV, storeV, ldV, AV.stb, AV.one, IV.av1, Lb.app, Lb.fresh, reduceCtorEq, ptrL, appL, fillA, chunks, ivs, AV.iv, mkE, if_false, if_true, List.not_mem_nil, forall_eq, beq_self_eq_true, List.isEmpty_nil, Nat.reduceEqDiff, Nat.reduceLT, Nat.reduceLeDiff, Nat.reduceAdd, Nat.reduceMul, Int.reduceToNat, Int.reduceLE, Int.reduceLT, Bool.not_false, retm2_r, hl, if_false, norm, norms, noT, Tree.text, Tree.s, Tree.attrs, Tree.kids, ivA, ivT, List.map_nil]
        try rfl
      | true =>
        have hr : r = [] := by simpa using hr0
        subst hr
        simp only [↓aX, evp, evq, evl, boxK, stillV, binV, AV.cells, mP, loadV, storeV, ldV, AV.stb, AV.one, IV.av1, Lb.app, Lb.fresh, reduceCtorEq, ptrL, appL, fillA, chunks, ivs, AV.iv, mkE, if_false, if_true, List.not_mem_nil, forall_eq, beq_self_eq_true, List.isEmpty_nil, Nat.reduceEqDiff, Nat.reduceLT, Nat.reduceLeDiff, Nat.reduceAdd, Nat.reduceMul, Int.reduceToNat, Int.reduceLE, Int.reduceLT, Bool.not_true]
        refine callT_pure hgt ?_
        cases hg : t.good with
        | false =>
          rw [bad1 (.inr (.inr hg))]
          simp only [↓aX, evp, evq, evl, boxK, stillV, binV, AV.cells, mP, loadV, storeV, ldV, AV.stb, AV.one, IV.av1, Lb.app, Lb.fresh, reduceCtorEq, ptrL, appL, fillA, chunks, ivs, AV.iv, mkE, if_false, if_true, List.not_mem_nil, forall_eq, beq_self_eq_true, List.isEmpty_nil, Nat.reduceEqDiff, Nat.reduceLT, Nat.reduceLeDiff, Nat.reduceAdd, Nat.reduceMul, Int.reduceToNat, Int.reduceLE, Int.reduceLT, Bool.not_false, retm2_r, hl, if_false, norm, norms, noT, Tree.text, Tree.s, Tree.attrs, Tree.kids, ivA, ivT, List.map_nil]
          try rfl
        | true =>
          have he : elementF 8 s = some (t, []) := by
            cases hel : elementF 8 s with
            | none => rw [hel] at hs4; cases hs4
            | some y =>
              rw [hel] at hs4
              obtain ⟨_, h6, h7⟩ := hs4
              rcases h7 with rfl | ⟨h7, _⟩
              · rw [h6]
              · rw [Tree.big_good h7] at hg; cases hg
          have hpk : parseK s = (t, 0) := by unfold parseK; rw [he]; simp only [hg, if_true]
          rw [hpk]
          simp only [↓aX, evp, evq, evl, boxK, stillV, binV, AV.cells, mP, loadV, storeV, ldV, AV.stb, AV.one, IV.av1, Lb.app, Lb.fresh, reduceCtorEq, ptrL, appL, fillA, chunks, ivs, AV.iv, mkE, if_false, if_true, List.not_mem_nil, forall_eq, beq_self_eq_true, List.isEmpty_nil, Nat.reduceEqDiff, Nat.reduceLT, Nat.reduceLeDiff, Nat.reduceAdd, Nat.reduceMul, Int.reduceToNat, Int.reduceLE, Int.reduceLT, Bool.not_true, retm2_r, hl, if_false, norm, norms]
          try rfl
def c_mark_Content (f_mark_reader_kids f_tree_Content : Nat) : AC :=
(.seq (.reg [⟨(some 2), none, (.mov (.c .nil0))⟩, ⟨(some 3), none, (.mov (.c (.int .i64 0)))⟩]) (.seq (.seq (.reg [⟨(some 6), none, (.mov (.t 0))⟩, ⟨(some 7), none, (.lens (.t 6))⟩, ⟨(some 8), none, (.bin .gtr (.t 7) (.c (.int .i64 2500)))⟩]) (.cond (.t 8) (.seq (.reg [⟨(some 2), none, (.mov (.c .nil0))⟩, ⟨(some 3), none, (.mov (.c (.int .i64 2)))⟩]) .ret) .skip)) (.seq (.reg [⟨(some 9), none, (.mov (.t 0))⟩, ⟨(some 10), none, (.bld [(.str []), (.bool false)] [(0, (1, (.t 9)))])⟩, ⟨(some 11), none, (.box (.t 10))⟩, ⟨(some 4), none, (.mov (.t 11))⟩]) (.seq (.reg [⟨(some 12), none, (.mov (.t 4))⟩, ⟨(some 13), none, (.call f_mark_reader_kids [(.t 12), (.c (.int .i64 1))])⟩, ⟨(some 5), none, (.mov (.t 13))⟩]) (.seq (.seq (.reg [⟨(some 14), none, (.mov (.t 4))⟩, ⟨(some 15), none, (.nchk (.t 14))⟩, ⟨(some 16), none, (.fld (.t 15) 1)⟩, ⟨(some 17), none, (.load none (.t 16))⟩, ⟨(some 18), none, (.mov (.t 17))⟩, ⟨(some 19), (some (18, false)), (.mov (.t 4))⟩, ⟨(some 20), (some (18, false)), (.nchk (.t 19))⟩, ⟨(some 21), (some (18, false)), (.fld (.t 20) 0)⟩, ⟨(some 22), (some (18, false)), (.load none (.t 21))⟩, ⟨(some 23), (some (18, false)), (.bin .neq (.t 22) (.c (.str [])))⟩, ⟨(some 24), none, (.pick (.t 18) (.c (.bool true)) (.t 23))⟩, ⟨(some 25), none, (.mov (.t 24))⟩, ⟨(some 26), (some (25, false)), (.mov (.t 5))⟩, ⟨(some 27), (some (25, false)), (.call f_tree_Content [(.t 26)])⟩, ⟨(some 28), (some (25, false)), (.not (.t 27))⟩, ⟨(some 29), none, (.pick (.t 25) (.c (.bool true)) (.t 28))⟩]) (.cond (.t 29) (.seq (.reg [⟨(some 2), none, (.mov (.c .nil0))⟩, ⟨(some 3), none, (.mov (.c (.int .i64 1)))⟩]) .ret) .skip)) (.seq (.reg [⟨(some 30), none, (.mov (.t 5))⟩, ⟨(some 2), none, (.mov (.t 30))⟩, ⟨(some 3), none, (.mov (.c (.int .i64 0)))⟩]) .ret))))))
theorem pMkContent {f_mark_Content f_mark_reader_kids f_tree_Content : Nat} (hF : compF P G f_mark_Content = some (31, [(none, 2), (none, 3)], (c_mark_Content f_mark_reader_kids f_tree_Content).bare)) (s : Bs) (hs : s.length ≤ B) (hK : ∀ s : Bs, s.length ≤ B → MutC P G f_mark_reader_kids [.ptr (.par 0) 2 0 0, .int .i64 1] (rdC s false) (KidsR 8 s false))
    (hG : ∀ l : List Tree, wtT l ≤ 10000 → PureC P G f_tree_Content [.list (ivT l)] (.bool (content l))) :
    PureC P G f_mark_Content [.str s] (.tup [.list (ivT (contF s).1), .int .i64 (contF s).2]) := by
  refine pure_of_goN hF (by simp) (by simp [lbss, AV.lbs]) (by simp [AV.lbs, lbss]) ?_
  unfold c_mark_Content contF
  simp only [↓aX, evp, evq, evl, boxK, stillV, binV, AV.cells, mP, loadV, storeV, ldV, AV.stb, AV.one, IV.av1, Lb.app, Lb.fresh, reduceCtorEq, ptrL, appL, fillA, chunks, ivs, AV.iv, mkE, if_false, if_true, List.not_mem_nil, forall_eq, beq_self_eq_true, List.isEmpty_nil, Nat.reduceEqDiff, Nat.reduceLT, Nat.reduceLeDiff, Nat.reduceAdd, Nat.reduceMul, Int.reduceToNat, Int.reduceLE, Int.reduceLT]
  by_cases hl : 2500 < s.length
  · simp only [↓aX, evp, evq, evl, boxK, stillV, binV, AV.cells, mP, loadV, storeV, ldV, AV.stb, AV.one, IV.av1, Lb.app, Lb.fresh, reduceCtorEq, ptrL, appL, fillA, chunks, ivs, AV.iv, mkE, if_false, if_true, List.not_mem_nil, forall_eq, beq_self_eq_true, List.isEmpty_nil, Nat.reduceEqDiff, Nat.reduceLT, Nat.reduceLeDiff, Nat.reduceAdd, Nat.reduceMul, Int.reduceToNat, Int.reduceLE, Int.reduceLT, show (((s.length : Nat) : Int) > 2500) = True by simp; omega, decide_true, ↓ret2_r, hl, if_true, norm, norms, ivT]
  · simp only [↓aX, evp, evq, evl, boxK, stillV, binV, AV.cells, mP, loadV, storeV, ldV, AV.stb, AV.one, IV.av1, Lb.app, Lb.fresh, reduceCtorEq, ptrL, appL, fillA, chunks, ivs, AV.iv, mkE, if_false, if_true, List.not_mem_nil, forall_eq, beq_self_eq_true, List.isEmpty_nil, Nat.reduceEqDiff, Nat.reduceLT, Nat.reduceLeDiff, Nat.reduceAdd, Nat.reduceMul, Int.reduceToNat, Int.reduceLE, Int.reduceLT, show (((s.length : Nat) : Int) > 2500) = False by simp; omega, decide_false]
    refine callT_mut (l := .loc 11) (hK s hs) (by simp [rens, ren, atL]) (by simp [upd_at]) ?_
    rintro x1 cs' ⟨t, r, b', rfl, rfl, hw1, _, hs4⟩ _ _ _
    have hs4 := hs4 rfl
    have hgt := hG t (by omega)
    simp only [↓aX, evp, evq, evl, boxK, stillV, binV, AV.cells, mP, loadV, storeV, ldV, AV.stb, AV.one, IV.av1, Lb.app, Lb.fresh, reduceCtorEq, ptrL, appL, fillA, chunks, ivs, AV.iv, mkE, if_false, if_true, List.not_mem_nil, forall_eq, beq_self_eq_true, List.isEmpty_nil, Nat.reduceEqDiff, Nat.reduceLT, Nat.reduceLeDiff, Nat.reduceAdd, Nat.reduceMul, Int.reduceToNat, Int.reduceLE, Int.reduceLT, hl, if_false]
    have bad1 : (b' = true ∨ r ≠ [] ∨ content t = false) → contK s = ([], 1) := by
      intro h
      unfold contK
      split
      · rename_i t0 he
        rw [he] at hs4
        obtain ⟨rfl, rfl, h7⟩ := hs4
        rcases h with h | h | h
        · cases h
        · exact absurd rfl h
        · have : content t0 = false := by
            rcases h7 with rfl | ⟨_, h8⟩
            · exact h
            · exact bigs_content h8
          rw [this]; rfl
      · rfl
    cases b' with
    | true =>
      rw [bad1 (.inl rfl)]
      simp only [↓aX, evp, evq, evl, boxK, stillV, binV, AV.cells, mP, loadV, storeV, ldV, AV.stb, AV.one, IV.av1, Lb.app, Lb.fresh, reduceCtorEq, ptrL, appL, fillA, chunks, ivs, AV.iv, mkE, if_false, if_true, List.not_mem_nil, forall_eq, beq_self_eq_true, List.isEmpty_nil, Nat.reduceEqDiff, Nat.reduceLT, Nat.reduceLeDiff, Nat.reduceAdd, Nat.reduceMul, Int.reduceToNat, Int.reduceLE, Int.reduceLT, ↓ret2_r, hl, if_false, norm, norms, ivT]
    | false =>
      simp only [↓aX, evp, evq, evl, boxK, stillV, binV, AV.cells, mP, loadV, storeV, ldV, AV.stb, AV.one, IV.av1, Lb.app, Lb.fresh, reduceCtorEq, ptrL, appL, fillA, chunks, ivs, AV.iv, mkE, if_false, if_true, List.not_mem_nil, forall_eq, beq_self_eq_true, List.isEmpty_nil, Nat.reduceEqDiff, Nat.reduceLT, Nat.reduceLeDiff, Nat.reduceAdd, Nat.reduceMul, Int.reduceToNat, Int.reduceLE, Int.reduceLT]
      cases hr0 : (r == []) with
      | false =>
        have hr : r ≠ [] := by simpa using hr0
        rw [bad1 (.inr (.inl hr))]
        simp only [↓aX, evp, evq, evl, boxK, stillV, binV, AV.cells, mP, loadV, storeV, ldV, AV.stb, AV.one, IV.av1, Lb.app, Lb.fresh, reduceCtorEq, ptrL, appL, fillA, chunks, ivs, AV.iv, mkE, if_false, if_true, List.not_mem_nil, forall_eq, beq_self_eq_true, List.isEmpty_nil, Nat.reduceEqDiff, Nat.reduceLT, Nat.reduceLeDiff, Nat.reduceAdd, Nat.reduceMul, Int.reduceToNat, Int.reduceLE, Int.reduceLT, Bool.not_false, ↓ret2_r, hl, if_false, norm, norms, ivT]
      | true =>
        have hr : r = [] := by simpa using hr0
        subst hr
        simp only [↓aX, evp, evq, evl, boxK, stillV, binV, AV.cells, mP, loadV, storeV, ldV, AV.stb, AV.one, IV.av1, Lb.app, Lb.fresh, reduceCtorEq, ptrL, appL, fillA, chunks, ivs, AV.iv, mkE, if_false, if_true, List.not_mem_nil, forall_eq, beq_self_eq_true, List.isEmpty_nil, Nat.reduceEqDiff, Nat.reduceLT, Nat.reduceLeDiff, Nat.reduceAdd, Nat.reduceMul, Int.reduceToNat, Int.reduceLE, Int.reduceLT, Bool.not_true]
        refine callT_pure hgt ?_
        cases hg : content t with
        | false =>
          rw [bad1 (.inr (.inr hg))]
          simp only [↓aX, evp, evq, evl, boxK, stillV, binV, AV.cells, mP, loadV, storeV, ldV, AV.stb, AV.one, IV.av1, Lb.app, Lb.fresh, reduceCtorEq, ptrL, appL, fillA, chunks, ivs, AV.iv, mkE, if_false, if_true, List.not_mem_nil, forall_eq, beq_self_eq_true, List.isEmpty_nil, Nat.reduceEqDiff, Nat.reduceLT, Nat.reduceLeDiff, Nat.reduceAdd, Nat.reduceMul, Int.reduceToNat, Int.reduceLE, Int.reduceLT, Bool.not_false, ↓ret2_r, hl, if_false, norm, norms, ivT]
        | true =>
          have he : kidsF (elementF 8) s = some (t, []) := by
            cases hel : kidsF (elementF 8) s with
            | none => rw [hel] at hs4; cases hs4
            | some y =>
              rw [hel] at hs4
              obtain ⟨_, h6, h7⟩ := hs4
              rcases h7 with rfl | ⟨h7, _⟩
              · rw [h6]
              · rw [bigs_content h7] at hg; cases hg
          have hpk : contK s = (t, 0) := by unfold contK; rw [he]; simp only [hg, if_true]
          rw [hpk]
          simp only [↓aX, evp, evq, evl, boxK, stillV, binV, AV.cells, mP, loadV, storeV, ldV, AV.stb, AV.one, IV.av1, Lb.app, Lb.fresh, reduceCtorEq, ptrL, appL, fillA, chunks, ivs, AV.iv, mkE, if_false, if_true, List.not_mem_nil, forall_eq, beq_self_eq_true, List.isEmpty_nil, Nat.reduceEqDiff, Nat.reduceLT, Nat.reduceLeDiff, Nat.reduceAdd, Nat.reduceMul, Int.reduceToNat, Int.reduceLE, Int.reduceLT, Bool.not_true, ↓ret2_r, hl, if_false, norm, norms]
end
end Go.Am

/- THE ABSTRACT MACHINE, part 48: a law of a program whose package variables are known; a nil slice handed where an empty list is asked. -/
namespace Go.Am
open Go Go.RowKit Go.ChangeShapes
theorem nil_list {w : World} {β : Lb → Option Nat} {H : Hp} {I : Nat → Prop} {v : Value} (h : RV w β H I .nil0 v) : RV w β H I (.list []) v := by
  simp only [RV] at h
  obtain ⟨a, rfl⟩ := h
  simp only [RV, IVR, SlV]
  exact ⟨a, 0, rfl, Nat.le_refl _, Nat.zero_le _, .inl rfl⟩
theorem pure_args {P : Program} {G : Nat → Option (List IV)} {f : Nat} {args args' : List AV} {res : AV} (h : PureC P G f args res) (hl : lbss args' = [])
    (hv : ∀ (w : World) β H I vs, RVs w β H I args' vs → RVs w β H I args vs) : PureC P G f args' res :=
  ⟨hl, h.2.1, fun w A β vs hr hq => h.2.2 w A β vs hr (hv _ _ _ _ _ hq)⟩
section
variable {P : Program} {G : Nat → Option (List IV)}
def GlobOk (P : Program) (G : Nat → Option (List IV)) (W : World) : Prop := ∀ g cs, G g = some cs → g < W.heap.size ∧ CellsR W (fun _ => True) cs g 0
theorem rel_noneG {W : World} (hG : GlobOk P G W) : RelB (callK P G W (fun _ => True) noβ Hp.none) noβ Env.any Hp.none noAct W := by
  have hI : ∀ k, Im (callK P G W (fun _ => True) noβ Hp.none) noβ Hp.none k := fun k => ⟨.inl trivial, fun l ⟨r, h⟩ => by simp [Hp.none] at h⟩
  exact { defers := rfl, size := rfl
          regs := fun n => by simp [Env.any, RV]
          rows := fun l r h => by simp [Hp.none] at h
          own := fun l g ⟨r, h⟩ => by simp [Hp.none] at h
          inj := fun l l' g ⟨r, h⟩ => by simp [Hp.none] at h
          ment := fun n => by simp [Env.any, AV.lbs]
          rment := fun l r h => by simp [Hp.none] at h
          frame := ⟨rfl, rfl, rfl, Nat.le_refl _, fun _ _ _ => rfl, fun _ _ h => h⟩
          stab := fun l ⟨r, h⟩ => by simp [callK, Hp.none] at h
          fr := fun l g ⟨r, h⟩ => by simp [Hp.none] at h
          glob := fun g cs hg => by
            obtain ⟨h1, h2⟩ := hG g cs hg
            exact ⟨hI g, h1, CellsR.mono ⟨fun k _ hs => ⟨hI k, hs, rfl⟩⟩ cs g 0 trivial h1 h2⟩ }
theorem run_pureG {f : Nat} {args : List AV} {res : AV} {vs : List Value} {W : World} (hG : GlobOk P G W) (hp : PureC P G f args res) (hv : RVs W noβ Hp.none (fun _ => True) args vs) :
    Calls P f vs.toArray W fun e W' => ∃ v, e = .returned v ∧ Below W.heap.size W W' ∧ RV W' noβ Hp.none (fun _ => True) res v := by
  have hI : ∀ k, Im (callK P G W (fun _ => True) noβ Hp.none) noβ Hp.none k := fun k => ⟨.inl trivial, fun l ⟨r, h⟩ => by simp [Hp.none] at h⟩
  refine (call_pure (rel_noneG hG) hp (RVs.mono _ _ ?_ hv) trivial).mono ?_
  · exact { im := fun k _ hs => ⟨hI k, hs, rfl⟩, lb := fun l _ ⟨r, h⟩ => by simp [Hp.none] at h }
  · rintro e W' ⟨v, rfl, h1, h2⟩
    refine ⟨v, rfl, h1, RV.mono _ _ ?_ h2⟩
    exact { im := fun k _ hs => ⟨trivial, hs, rfl⟩, lb := fun l _ ⟨r, h⟩ => by simp [Hp.none] at h }
end
section
variable {H : Type} {enc : TypeId × Value → H} {P : Program} {G : Nat → Option (List IV)}
theorem law_contractG (B : Bk H) {T : List TypeId} (hT : ∀ t ∈ T, okT P T t = true) {f : Nat} {fn : Func} {s : ChangeSpec} {apart fresh handsOn again : Bool} {tb : TypeId} (hl : laidOutB P = true)
    (hp : ∀ t ∈ fn.params.toList, t ∈ T) (hr : fn.params.toList.all (rowedT P) = true) (hres : fn.resultTypes = #[tb]) (hub : P.underlying tb = some .bool) (hvars : s.vars = [])
    (W : World) (base : Nat) (args : Array Value) (ds gs : List (DataW H)) (before : List MemPlace) (hG : GlobOk P G W)
    (hfn : ∀ ds : List (DataW H), ds.length = fn.params.toList.length → s.fn H ds = { results := [.lit (.bool true)], args := ds })
    (hval : ∀ (j : Nat) t v, fn.params[j]? = some t → args[j]? = some v → Value.okWide P W .any base t v)
    (hW : DataW.Whole enc P fn.params.toList s.vars apart W args.toList ds gs before)
    (hg : ∀ ys, Shs P fn.params.toList ys → wtI ys ≤ (ds.map B.bk).sum → PureC P G f (ys.map IV.av) (.bool true)) :
    Calls P f args W fun e W' => ∃ v, e = .returned v ∧ s.post enc P fn apart fresh handsOn again W args v W' := by
  have hW' := hW
  obtain ⟨p, q, hA, hV, rfl, hz, hn⟩ := hW'
  obtain ⟨ys, h1, h2, h3⟩ := args_rv B hT hp (fun j t v a b => hval j t v (by simpa using a) (by simpa using b)) hA
  have := run_pureG hG (hg ys h1 h2) h3
  simp only [Array.toArray_toList] at this
  refine this.mono ?_
  rintro e W' ⟨v, rfl, hb, hv⟩
  simp only [RV] at hv
  subst hv
  exact ⟨_, rfl, post_law hl hr hres hub hvars (hfn ds (trodAll_len hA)) hW hb⟩
end
end Go.Am
