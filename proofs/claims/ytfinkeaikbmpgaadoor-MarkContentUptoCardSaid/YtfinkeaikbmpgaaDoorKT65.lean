import Derived.Test.YtfinkeaikbmpgaaDoorKT63
set_option linter.unusedSimpArgs false
set_option linter.unusedVariables false
set_option linter.unnecessarySimpa false
set_option linter.defProp false
/- Reading: what is in an element. -/
set_option pp.deepTerms false
set_option pp.deepTerms.threshold 5
namespace Go.Am
open Go Go.RowKit
def KidI (d : Nat) (s : Bs) (b : Bool) (q : Bs × List Tree × Bool) : Prop := wtT q.2.1 + 3 * q.1.length ≤ 3 * s.length + (if q.2.2 then 1 else 0) ∧ (b = true → q.2.2 = true) ∧
  (b = false → ∃ l0, (q.2.1 = l0 ∨ (bigs q.2.1 = true ∧ bigs l0 = true)) ∧ if q.2.2 then kidsF (elementF d) s = none else kidsF (elementF d) s = (kidsF (elementF d) q.1).map fun y => (l0 ++ y.1, y.2))
theorem textF_some_ne {c : UInt8} {q t r : Bs} (hc : c ≠ 60) (h : textF false (c :: q) = some (t, r)) : r.length < (c :: q).length := by
  have hl := textF_len _ _ _ _ (Nat.le_refl _) h
  have ht : t ≠ [] := by
    rw [textF, if_neg (by simp [hc])] at h
    split at h
    · split at h
      · obtain ⟨y, _, h2⟩ := Option.map_eq_some_iff.1 h
        simp only [Prod.mk.injEq] at h2
        rw [← h2.1]; simp
      · cases h
    · split at h
      · cases h
      · obtain ⟨y, _, h2⟩ := Option.map_eq_some_iff.1 h
        simp only [Prod.mk.injEq] at h2
        rw [← h2.1]; simp
  have : 0 < t.length := List.length_pos_iff.2 ht
  omega
section
variable {P : Program} {G : Nat → Option (List IV)}
def c_mark_reader_kids (f_strings_HasPrefix f_mark_reader_element f_mark_reader_text : Nat) : AC :=
(.seq (.reg [⟨(some 4), none, (.mov (.c .nil0))⟩]) (.seq (.reg [⟨(some 5), none, (.mov (.c .nil0))⟩]) (.gh (.own 5 4) (.seq (.block 0 (.loop (.seq (.seq (.reg [⟨(some 6), none, (.mov (.t 0))⟩, ⟨(some 7), none, (.nchk (.t 6))⟩, ⟨(some 8), none, (.fld (.t 7) 0)⟩, ⟨(some 9), none, (.load none (.t 8))⟩, ⟨(some 10), none, (.bin .neq (.t 9) (.c (.str [])))⟩, ⟨(some 11), none, (.mov (.t 10))⟩, ⟨(some 12), (some (11, true)), (.mov (.t 0))⟩, ⟨(some 13), (some (11, true)), (.nchk (.t 12))⟩, ⟨(some 14), (some (11, true)), (.fld (.t 13) 1)⟩, ⟨(some 15), (some (11, true)), (.load none (.t 14))⟩, ⟨(some 16), (some (11, true)), (.not (.t 15))⟩, ⟨(some 17), none, (.pick (.t 11) (.t 16) (.c (.bool false)))⟩, ⟨(some 18), none, (.mov (.t 17))⟩, ⟨(some 19), (some (18, true)), (.mov (.t 0))⟩, ⟨(some 20), (some (18, true)), (.nchk (.t 19))⟩, ⟨(some 21), (some (18, true)), (.fld (.t 20) 0)⟩, ⟨(some 22), (some (18, true)), (.load none (.t 21))⟩, ⟨(some 23), (some (18, true)), (.call f_strings_HasPrefix [(.t 22), (.c (.str [60, 47]))])⟩, ⟨(some 24), (some (18, true)), (.not (.t 23))⟩, ⟨(some 25), none, (.pick (.t 18) (.t 24) (.c (.bool false)))⟩]) (.cond (.t 25) .skip (.exit 0))) (.block 1 (.seq (.reg [⟨(some 26), none, (.mov (.t 0))⟩, ⟨(some 27), none, (.nchk (.t 26))⟩, ⟨(some 28), none, (.fld (.t 27) 0)⟩, ⟨(some 29), none, (.load none (.t 28))⟩, ⟨(some 30), none, (.ixs (.t 29) (.c (.int .i64 0)))⟩, ⟨(some 31), none, (.bin .eql (.t 30) (.c (.int .u8 60)))⟩]) (.cond (.t 31) (.reg [⟨(some 32), none, (.mov (.t 5))⟩, ⟨(some 33), none, (.mov (.t 0))⟩, ⟨(some 34), none, (.mov (.t 1))⟩, ⟨(some 35), none, (.call f_mark_reader_element [(.t 33), (.t 34)])⟩, ⟨(some 36), none, (.lits 1 4 [(.bool false), (.str []), .nil0, .nil0] [(0, (.t 35))])⟩, ⟨(some 37), none, (.app (.t 32) (.t 36) 4 72)⟩, ⟨(some 5), none, (.mov (.t 37))⟩]) (.reg [⟨(some 38), none, (.mov (.t 5))⟩, ⟨(some 39), none, (.mov (.t 0))⟩, ⟨(some 40), none, (.call f_mark_reader_text [(.t 39), (.c (.bool false))])⟩, ⟨(some 41), none, (.bld [(.bool false), (.str []), .nil0, .nil0] [(0, (1, (.c (.bool true)))), (1, (1, (.t 40)))])⟩, ⟨(some 42), none, (.lits 1 4 [(.bool false), (.str []), .nil0, .nil0] [(0, (.t 41))])⟩, ⟨(some 43), none, (.app (.t 38) (.t 42) 4 72)⟩, ⟨(some 5), none, (.mov (.t 43))⟩]))))))) (.gh (.frz (.loc 5) 5) (.seq (.reg [⟨(some 44), none, (.mov (.t 5))⟩, ⟨(some 4), none, (.mov (.t 44))⟩]) .ret))))))
theorem pRKids {f_mark_reader_kids f_strings_HasPrefix f_mark_reader_element f_mark_reader_text : Nat} (hF : compF P G f_mark_reader_kids = some (45, [(none, 4)], (c_mark_reader_kids f_strings_HasPrefix f_mark_reader_element f_mark_reader_text).bare))
    (hP : ∀ s t : Bs, PureC P G f_strings_HasPrefix [.str s, .str t] (.bool (t.isPrefixOf s)))
    (hT : ∀ (v : Bool) (s : Bs) (b : Bool), s.length ≤ B → MutC P G f_mark_reader_text [.ptr (.par 0) 2 0 0, .bool v] (rdC s b) (TextR v s b))
    (d : Nat) (hE : ∀ (s : Bs) (b : Bool), s.length ≤ B → MutC P G f_mark_reader_element [.ptr (.par 0) 2 0 0, .int .i64 (9 - d : Int)] (rdC s b) (ElmR d s b))
    (s : Bs) (hs : s.length ≤ B) (b : Bool) :
    MutC P G f_mark_reader_kids [.ptr (.par 0) 2 0 0, .int .i64 (9 - d : Int)] (rdC s b) (KidsR d s b) := by
  refine mut_of_go hF (by simp) (by simp [lbss, AV.lbs]) (by simp [lbss, AV.lbs]) ?_
  have hBv : B = 1073741824 := rfl
  unfold c_mark_reader_kids
  simp only [↓aX, evp, evq, evl, boxK, stillV, binV, AV.cells, mP, loadV, storeV, ldV, AV.stb, AV.one, IV.av1, Lb.app, Lb.fresh, reduceCtorEq, ptrL, appL, fillA, chunks, ivs, AV.iv, mkE, if_false, if_true, List.not_mem_nil, forall_eq, beq_self_eq_true, List.isEmpty_nil, Nat.reduceEqDiff, Nat.reduceLT, Nat.reduceLeDiff, Nat.reduceAdd, Nat.reduceMul, Int.reduceToNat, Int.reduceLE, Int.reduceLT, row1]
  refine loop_entry (σ := { q : Bs × List Tree × Bool // KidI d s b q }) (fun _ => [.par 0, .loc 5]) (fun _ _ => false)
    (fun q => [(0, .ptr (.par 0) 2 0 0), (1, .int .i64 (9 - d : Int)), (5, .sl (.loc 5) 4 0 q.1.2.1.length)])
    (fun q => [(.par 0, ⟨2, [rdC q.1.1 q.1.2.2]⟩), (.loc 5, ⟨4, immE (ivT q.1.2.1)⟩)]) (fun q => 2 * q.1.1.length + (if q.1.2.2 then 0 else 1)) ⟨(s, [], b), by simp [wtT], fun h => h, fun h => ⟨[], .inl rfl, ?_⟩⟩ (fun _ => rfl) (fun q => by simp [lbss, AV.lbs]) ?_ ⟨[], ?_⟩ ?_
  · simp only [h, Bool.false_eq_true, if_false]
    cases kidsF (elementF d) s <;> simp
  · intro q w hw cs hcs2 z hz
    simp only [List.mem_cons, List.not_mem_nil, or_false] at hw
    rcases hw with rfl | rfl
    · simp only [List.mem_singleton] at hcs2; subst hcs2; simp [lbss, AV.lbs] at hz
    · rw [lbss_immE hcs2] at hz; simp at hz
  · refine ⟨?_, ?_, ?_, by simp [rnF], by simp [rnF]⟩
    · intro l hf hu
      left
      cases l <;> simp [Lb.entry] at hf
      rename_i n
      by_cases e : n = 0
      · subst e; simp
      · exfalso; apply hu; simp [upd_at, Hp.none, e]
    · simp [EqL, rnF, ren, put, argE]
    · simp [RwL, rnF, upd_at, renR, rens, ren, ivT, immE]
  · rintro ⟨⟨r, l, bad⟩, hlen, hb1, hb2⟩
    simp only at hlen hb1 hb2
    have hll := wtT_len l
    have hbd : l.length ≤ 3 * s.length + 1 := by split at hlen <;> omega
    have hrl : r.length ≤ s.length := by split at hlen <;> omega
    have hU : ∀ d, d ≠ 5 → ofU (fun _ => false) [(Lb.par 0, ⟨2, [rdC r bad]⟩), (Lb.loc 5, ⟨4, immE (ivT l)⟩)] (.loc d) = .unused := fun d hd => by rw [ofU_at (by simp [hd])]; rfl
    have hUp : ∀ d, d ≠ 0 → ofU (fun _ => false) [(Lb.par 0, ⟨2, [rdC r bad]⟩), (Lb.loc 5, ⟨4, immE (ivT l)⟩)] (.par d) = .unused := fun d hd => by rw [ofU_at (by simp [hd])]; rfl
    have hL0 : ofU (fun _ => false) [(Lb.par 0, ⟨2, [rdC r bad]⟩), (Lb.loc 5, ⟨4, immE (ivT l)⟩)] (.par 0) = .live ⟨2, [rdC r bad]⟩ := ofU_live.2 (by simp [ofH, upd_at])
    have hL5 : ofU (fun _ => false) [(Lb.par 0, ⟨2, [rdC r bad]⟩), (Lb.loc 5, ⟨4, immE (ivT l)⟩)] (.loc 5) = .live ⟨4, immE (ivT l)⟩ := ofU_live.2 (by simp [ofH, upd_at])
    simp only
    generalize ofU (fun _ => false) [(Lb.par 0, ⟨2, [rdC r bad]⟩), (Lb.loc 5, ⟨4, immE (ivT l)⟩)] = H0 at *
    have fin : (bad = false → kidsF (elementF d) r = some ([], r)) → KidsR d s b (.list (ivT l)) (rdC r bad) := by
      intro h4
      refine ⟨l, r, bad, rfl, rfl, by split at hlen <;> omega, hb1, fun hb => ?_⟩
      obtain ⟨l0, h1, h2⟩ := hb2 hb
      cases bad with
      | true => simp only [if_true] at h2; rw [h2]
      | false =>
        simp only [Bool.false_eq_true, if_false, h4 rfl, Option.map_some, List.append_nil] at h2
        rw [h2]; exact ⟨rfl, rfl, h1⟩
    simp only [↓aX, evp, evq, evl, boxK, stillV, binV, AV.cells, mP, loadV, storeV, ldV, AV.stb, AV.one, IV.av1, Lb.app, Lb.fresh, reduceCtorEq, ptrL, appL, fillA, chunks, ivs, AV.iv, mkE, if_false, if_true, List.not_mem_nil, forall_eq, beq_self_eq_true, List.isEmpty_nil, Nat.reduceEqDiff, Nat.reduceLT, Nat.reduceLeDiff, Nat.reduceAdd, Nat.reduceMul, Int.reduceToNat, Int.reduceLE, Int.reduceLT, hL0]
    match r, hlen, hb2, hL0, fin, hrl with
    | [], hlen, hb2, hL0, fin, hrl =>
      simp only [↓aX, evp, evq, evl, boxK, stillV, binV, AV.cells, mP, loadV, storeV, ldV, AV.stb, AV.one, IV.av1, Lb.app, Lb.fresh, reduceCtorEq, ptrL, appL, fillA, chunks, ivs, AV.iv, mkE, if_false, if_true, List.not_mem_nil, forall_eq, beq_self_eq_true, List.isEmpty_nil, Nat.reduceEqDiff, Nat.reduceLT, Nat.reduceLeDiff, Nat.reduceAdd, Nat.reduceMul, Int.reduceToNat, Int.reduceLE, Int.reduceLT, show (([] : Bs) == []) = true from rfl, Bool.not_true]
      refine ⟨4, ivT l, 0, l.length, rfl, hL5, by rw [ivT_len]; omega, flatT l, ?_⟩
      rw [List.drop_zero, List.take_of_length_le (by rw [ivT_len]; exact Nat.le_refl _)]
      exact ⟨_, fin (fun _ => by rw [kidsF]), rfl, by simp [lbss, AV.lbs], rfl, by simp [upd_at, hL0]⟩
    | c :: q, hlen, hb2, hL0, fin, hrl =>
      simp only [↓aX, evp, evq, evl, boxK, stillV, binV, AV.cells, mP, loadV, storeV, ldV, AV.stb, AV.one, IV.av1, Lb.app, Lb.fresh, reduceCtorEq, ptrL, appL, fillA, chunks, ivs, AV.iv, mkE, if_false, if_true, List.not_mem_nil, forall_eq, beq_self_eq_true, List.isEmpty_nil, Nat.reduceEqDiff, Nat.reduceLT, Nat.reduceLeDiff, Nat.reduceAdd, Nat.reduceMul, Int.reduceToNat, Int.reduceLE, Int.reduceLT, show ((c :: q : Bs) == []) = false from rfl, Bool.not_false, hL0]
      cases bad with
      | true =>
        simp only [↓aX, evp, evq, evl, boxK, stillV, binV, AV.cells, mP, loadV, storeV, ldV, AV.stb, AV.one, IV.av1, Lb.app, Lb.fresh, reduceCtorEq, ptrL, appL, fillA, chunks, ivs, AV.iv, mkE, if_false, if_true, List.not_mem_nil, forall_eq, beq_self_eq_true, List.isEmpty_nil, Nat.reduceEqDiff, Nat.reduceLT, Nat.reduceLeDiff, Nat.reduceAdd, Nat.reduceMul, Int.reduceToNat, Int.reduceLE, Int.reduceLT, Bool.not_true]
        refine ⟨4, ivT l, 0, l.length, rfl, hL5, by rw [ivT_len]; omega, flatT l, ?_⟩
        rw [List.drop_zero, List.take_of_length_le (by rw [ivT_len]; exact Nat.le_refl _)]
        exact ⟨_, fin (fun h => by cases h), rfl, by simp [lbss, AV.lbs], rfl, by simp [upd_at, hL0]⟩
      | false =>
        have hbf : b = false := by cases b with | true => exact absurd (hb1 rfl) (by simp) | false => rfl
        obtain ⟨l0, hl0, hsem⟩ := hb2 hbf
        simp only [Bool.false_eq_true, if_false] at hsem hlen
        simp only [↓aX, evp, evq, evl, boxK, stillV, binV, AV.cells, mP, loadV, storeV, ldV, AV.stb, AV.one, IV.av1, Lb.app, Lb.fresh, reduceCtorEq, ptrL, appL, fillA, chunks, ivs, AV.iv, mkE, if_false, if_true, List.not_mem_nil, forall_eq, beq_self_eq_true, List.isEmpty_nil, Nat.reduceEqDiff, Nat.reduceLT, Nat.reduceLeDiff, Nat.reduceAdd, Nat.reduceMul, Int.reduceToNat, Int.reduceLE, Int.reduceLT, Bool.not_false, hL0]
        refine callT_pure (hP (c :: q) [60, 47]) ?_
        cases hpre : List.isPrefixOf [60, 47] (c :: q) with
        | true =>
          simp only [↓aX, evp, evq, evl, boxK, stillV, binV, AV.cells, mP, loadV, storeV, ldV, AV.stb, AV.one, IV.av1, Lb.app, Lb.fresh, reduceCtorEq, ptrL, appL, fillA, chunks, ivs, AV.iv, mkE, if_false, if_true, List.not_mem_nil, forall_eq, beq_self_eq_true, List.isEmpty_nil, Nat.reduceEqDiff, Nat.reduceLT, Nat.reduceLeDiff, Nat.reduceAdd, Nat.reduceMul, Int.reduceToNat, Int.reduceLE, Int.reduceLT, Bool.not_true]
          refine ⟨4, ivT l, 0, l.length, rfl, hL5, by rw [ivT_len]; omega, flatT l, ?_⟩
          rw [List.drop_zero, List.take_of_length_le (by rw [ivT_len]; exact Nat.le_refl _)]
          exact ⟨_, fin (fun _ => by rw [kidsF, if_pos hpre]), rfl, by simp [lbss, AV.lbs], rfl, by simp [upd_at, hL0]⟩
        | false =>
          have c60 : ((c.toNat : Int) == 60) = (c == 60) := cI c 60 (by decide)
          have hnp : ¬ List.isPrefixOf [60, 47] (c :: q) = true := by rw [hpre]; simp
          simp only [↓aX, evp, evq, evl, boxK, stillV, binV, AV.cells, mP, loadV, storeV, ldV, AV.stb, AV.one, IV.av1, Lb.app, Lb.fresh, reduceCtorEq, ptrL, appL, fillA, chunks, ivs, AV.iv, mkE, if_false, if_true, List.not_mem_nil, forall_eq, beq_self_eq_true, List.isEmpty_nil, Nat.reduceEqDiff, Nat.reduceLT, Nat.reduceLeDiff, Nat.reduceAdd, Nat.reduceMul, Int.reduceToNat, Int.reduceLE, Int.reduceLT, Bool.not_false, hL0, show ((0 : Int)).toNat = 0 from rfl, List.getElem?_cons_zero, c60]
          have keep : ∀ (t t0 : Tree), (t = t0 ∨ (t.big = true ∧ t0.big = true)) → (l ++ [t] = l0 ++ [t0] ∨ (bigs (l ++ [t]) = true ∧ bigs (l0 ++ [t0]) = true)) := by
            intro t t0 h
            simp only [bigs_app, bigs, Bool.or_false]
            rcases hl0 with h1 | ⟨h1, h2⟩
            · rcases h with h | ⟨h3, h4⟩
              · left; rw [h1, h]
              · right; rw [h3, h4]; simp
            · right; rw [h1, h2]; simp
          by_cases h60 : c = 60
          · rw [show (c == 60) = true by simp [h60]]
            simp only [↓aX, evp, evq, evl, boxK, stillV, binV, AV.cells, mP, loadV, storeV, ldV, AV.stb, AV.one, IV.av1, Lb.app, Lb.fresh, reduceCtorEq, ptrL, appL, fillA, chunks, ivs, AV.iv, mkE, if_false, if_true, List.not_mem_nil, forall_eq, beq_self_eq_true, List.isEmpty_nil, Nat.reduceEqDiff, Nat.reduceLT, Nat.reduceLeDiff, Nat.reduceAdd, Nat.reduceMul, Int.reduceToNat, Int.reduceLE, Int.reduceLT]
            refine callT_mut (l := .par 0) (hE (c :: q) false (by omega)) (by simp [rens, ren, atL]) (by simp [hL0]) ?_
            rintro x1 cs' ⟨t, r', b', rfl, rfl, hw0, hw1, hw2, _, hs4⟩ _ _ _
            obtain ⟨hw3, hw4⟩ := hw2 q (by rw [h60])
            have hs4 := hs4 rfl
            simp only [↓aX, evp, evq, evl, boxK, stillV, binV, AV.cells, mP, loadV, storeV, ldV, AV.stb, AV.one, IV.av1, Lb.app, Lb.fresh, reduceCtorEq, ptrL, appL, fillA, chunks, ivs, AV.iv, mkE, if_false, if_true, List.not_mem_nil, forall_eq, beq_self_eq_true, List.isEmpty_nil, Nat.reduceEqDiff, Nat.reduceLT, Nat.reduceLeDiff, Nat.reduceAdd, Nat.reduceMul, Int.reduceToNat, Int.reduceLE, Int.reduceLT, Tree.av]
            rw [app_loc 4 72 37 5 (ivT l) (.agg [.bool t.text, .str t.s, .list (ivA t.attrs), .list (ivT t.kids)]) (by simp [upd_at, hL5]) (ivT_len l) rfl (by intro z hz cs; simp only [IV.cells, List.mem_cons, List.not_mem_nil, or_false] at hz; rcases hz with rfl | rfl | rfl | rfl <;> simp) (by omega) (by decide) (by decide) (by simp [upd_at, hU 37 (by decide)])]
            simp only [↓aX, evp, evq, evl, boxK, stillV, binV, AV.cells, mP, loadV, storeV, ldV, AV.stb, AV.one, IV.av1, Lb.app, Lb.fresh, reduceCtorEq, ptrL, appL, fillA, chunks, ivs, AV.iv, mkE, if_false, if_true, List.not_mem_nil, forall_eq, beq_self_eq_true, List.isEmpty_nil, Nat.reduceEqDiff, Nat.reduceLT, Nat.reduceLeDiff, Nat.reduceAdd, Nat.reduceMul, Int.reduceToNat, Int.reduceLE, Int.reduceLT]
            refine ⟨⟨(r', l ++ [t], b'), ?_, fun (h : b = true) => (by rw [hbf] at h; cases h), fun _ => ?_⟩, ?_, [(.loc 5, .loc 37)], ?_, ?_, ?_, by simp [rnF], ?_⟩
            · simp only [wtT_app, wtT]; split <;> omega
            · cases hel : elementF d (c :: q) with
              | none =>
                rw [hel] at hs4
                refine ⟨l0 ++ [t], keep t t (.inl rfl), ?_⟩
                simp only [hs4, if_true]
                rw [hsem, kidsF, if_neg hnp, if_pos h60, hel]
                rfl
              | some y =>
                rw [hel] at hs4
                obtain ⟨rfl, rfl, h7⟩ := hs4
                refine ⟨l0 ++ [y.1], keep t y.1 h7, ?_⟩
                simp only [Bool.false_eq_true, if_false]
                rw [hsem]
                conv => lhs; rw [kidsF, if_neg hnp, if_pos h60, hel]
                simp only
                rw [dif_pos hw4]
                cases kidsF (elementF d) y.2 with
                | none => rfl
                | some z => simp only [Option.map_some, List.append_assoc, List.singleton_append]
            · simp only; cases b' <;> simp at hw4 ⊢ <;> omega
            · intro z hf hu
              left
              cases z <;> simp [Lb.entry] at hf
              rename_i n
              by_cases e0 : n = 0
              · subst e0; simp
              · exfalso; apply hu; simp [upd_at, e0, hUp n e0]
            · simp [EqL, ren, rnF, put]
            · refine ⟨by simp [rnF, renR, rens, ren, upd_at], by simp [rnF, renR_immE, upd_at, ivT_map, Tree.iv_eq, Tree.cs, Tree.text, Tree.s, Tree.attrs, Tree.kids, ivA, ivT], trivial⟩
            · intro z hz
              simp only [List.mem_cons, List.not_mem_nil, or_false] at hz
              rcases hz with rfl | rfl
              · simp [rnF]
              · simp [rnF, Lb.fresh, Lb.entry]
          · rw [show (c == 60) = false by simp [h60]]
            simp only [↓aX, evp, evq, evl, boxK, stillV, binV, AV.cells, mP, loadV, storeV, ldV, AV.stb, AV.one, IV.av1, Lb.app, Lb.fresh, reduceCtorEq, ptrL, appL, fillA, chunks, ivs, AV.iv, mkE, if_false, if_true, List.not_mem_nil, forall_eq, beq_self_eq_true, List.isEmpty_nil, Nat.reduceEqDiff, Nat.reduceLT, Nat.reduceLeDiff, Nat.reduceAdd, Nat.reduceMul, Int.reduceToNat, Int.reduceLE, Int.reduceLT]
            refine callT_mut (l := .par 0) (hT false (c :: q) false (by omega)) (by simp [rens, ren, atL]) (by simp [hL0]) ?_
            rintro x1 cs' ⟨t, r', b', rfl, rfl, hw0, _, hs4⟩ _ _ _
            have hs4 := hs4 rfl
            simp only [↓aX, evp, evq, evl, boxK, stillV, binV, AV.cells, mP, loadV, storeV, ldV, AV.stb, AV.one, IV.av1, Lb.app, Lb.fresh, reduceCtorEq, ptrL, appL, fillA, chunks, ivs, AV.iv, mkE, if_false, if_true, List.not_mem_nil, forall_eq, beq_self_eq_true, List.isEmpty_nil, Nat.reduceEqDiff, Nat.reduceLT, Nat.reduceLeDiff, Nat.reduceAdd, Nat.reduceMul, Int.reduceToNat, Int.reduceLE, Int.reduceLT]
            rw [app_loc 4 72 43 5 (ivT l) (.agg [.bool true, .str t, .list [], .list []]) (by simp [upd_at, hL5]) (ivT_len l) rfl (by intro z hz cs; simp only [IV.cells, List.mem_cons, List.not_mem_nil, or_false] at hz; rcases hz with rfl | rfl | rfl | rfl <;> simp) (by omega) (by decide) (by decide) (by simp [upd_at, hU 43 (by decide)])]
            simp only [↓aX, evp, evq, evl, boxK, stillV, binV, AV.cells, mP, loadV, storeV, ldV, AV.stb, AV.one, IV.av1, Lb.app, Lb.fresh, reduceCtorEq, ptrL, appL, fillA, chunks, ivs, AV.iv, mkE, if_false, if_true, List.not_mem_nil, forall_eq, beq_self_eq_true, List.isEmpty_nil, Nat.reduceEqDiff, Nat.reduceLT, Nat.reduceLeDiff, Nat.reduceAdd, Nat.reduceMul, Int.reduceToNat, Int.reduceLE, Int.reduceLT]
            refine ⟨⟨(r', l ++ [(Tree.mk true t [] [])], b'), ?_, fun (h : b = true) => (by rw [hbf] at h; cases h), fun _ => ?_⟩, ?_, [(.loc 5, .loc 43)], ?_, ?_, ?_, by simp [rnF], ?_⟩
            · simp only [wtT_app, wtT, Tree.wt, wtA]
              cases htx : textF false (c :: q) with
              | none => rw [htx] at hs4; rw [hs4]; simp only [if_true]; omega
              | some y =>
                rw [htx] at hs4
                obtain ⟨rfl, rfl⟩ := hs4
                have := textF_some_ne h60 htx
                simp only [Bool.false_eq_true, if_false]; omega
            · cases htx : textF false (c :: q) with
              | none =>
                rw [htx] at hs4
                refine ⟨l0 ++ [.mk true t [] []], keep _ _ (.inl rfl), ?_⟩
                simp only at hs4
                simp only [hs4, if_true]
                rw [hsem, kidsF, if_neg hnp, if_neg h60, htx]
                rfl
              | some y =>
                rw [htx] at hs4
                obtain ⟨rfl, rfl⟩ := hs4
                refine ⟨l0 ++ [.mk true t [] []], keep _ _ (.inl rfl), ?_⟩
                simp only [Bool.false_eq_true, if_false]
                rw [hsem]
                conv => lhs; rw [kidsF, if_neg hnp, if_neg h60, htx]
                simp only [Option.map_some]
                rw [dif_pos (textF_some_ne h60 htx)]
                cases kidsF (elementF d) r' with
                | none => rfl
                | some z => simp only [Option.map_some, List.append_assoc, List.singleton_append]
            · show 2 * r'.length + (if b' = true then 0 else 1) < 2 * (c :: q).length + 1
              cases htx : textF false (c :: q) with
              | none => rw [htx] at hs4; simp only at hs4; simp only [hs4, if_true]; omega
              | some y =>
                rw [htx] at hs4
                obtain ⟨rfl, rfl⟩ := hs4
                have := textF_some_ne h60 htx
                simp only [Bool.false_eq_true, if_false]; omega
            · intro z hf hu
              left
              cases z <;> simp [Lb.entry] at hf
              rename_i n
              by_cases e0 : n = 0
              · subst e0; simp
              · exfalso; apply hu; simp [upd_at, e0, hUp n e0]
            · simp [EqL, ren, rnF, put]
            · refine ⟨by simp [rnF, renR, rens, ren, upd_at], by simp [rnF, renR_immE, upd_at, ivT_map, Tree.iv_eq, Tree.cs, Tree.text, Tree.s, Tree.attrs, Tree.kids, ivA, ivT], trivial⟩
            · intro z hz
              simp only [List.mem_cons, List.not_mem_nil, or_false] at hz
              rcases hz with rfl | rfl
              · simp [rnF]
              · simp [rnF, Lb.fresh, Lb.entry]
end
end Go.Am

/- Attributes sorted. -/
set_option pp.deepTerms false
set_option pp.deepTerms.threshold 5
namespace Go.Am
open Go Go.RowKit
def cmpA (a b : Attr) : Int := Lib.compareBytes a.name b.name
def Attr.avA (a : Attr) : AV := .agg [.str a.name, .str a.val]
section
variable {P : Program} {G : Nat → Option (List IV)}
def c_internal_bytealg_CompareString (f_internal_bytealg_abigen_runtime_cmpstring : Nat) : AC :=
(.seq (.reg [⟨(some 4), none, (.mov (.c (.int .i64 0)))⟩]) (.seq (.reg [⟨(some 5), none, (.mov (.t 0))⟩, ⟨(some 6), none, (.mov (.t 1))⟩, ⟨(some 7), none, (.callx f_internal_bytealg_abigen_runtime_cmpstring [(.t 5), (.t 6)])⟩, ⟨(some 4), none, (.mov (.t 7))⟩]) .ret))
theorem pCmpString {f_internal_bytealg_CompareString f_internal_bytealg_abigen_runtime_cmpstring : Nat} (hF : compF P G f_internal_bytealg_CompareString = some (8, [(none, 4)], (c_internal_bytealg_CompareString f_internal_bytealg_abigen_runtime_cmpstring).bare))
    (hX : ∀ (N : Nat) (s t : Bs) (H : Hp), ExtC ⟨P, G, N⟩ f_internal_bytealg_abigen_runtime_cmpstring [.str s, .str t] H (.int .i64 (Lib.compareBytes s t))) (s t : Bs) :
    PureC P G f_internal_bytealg_CompareString [.str s, .str t] (.int .i64 (Lib.compareBytes s t)) := by
  refine pure_of_go hF (by simp) (by simp [lbss, AV.lbs]) (by simp [AV.lbs]) ?_
  unfold c_internal_bytealg_CompareString
  simp only [↓aX, evp, evq, evl, boxK, stillV, binV, AV.cells, mP, loadV, storeV, ldV, AV.stb, AV.one, IV.av1, Lb.app, Lb.fresh, reduceCtorEq, ptrL, appL, fillA, chunks, ivs, AV.iv, mkE, if_false, if_true, List.not_mem_nil, forall_eq, beq_self_eq_true, List.isEmpty_nil, Nat.reduceEqDiff, Nat.reduceLT, Nat.reduceLeDiff, Nat.reduceAdd, Nat.reduceMul, Int.reduceToNat, Int.reduceLE, Int.reduceLT]
  refine exK_in (hX _ _ _ _) ?_
  simp only [↓aX, evp, evq, evl, boxK, stillV, binV, AV.cells, mP, loadV, storeV, ldV, AV.stb, AV.one, IV.av1, Lb.app, Lb.fresh, reduceCtorEq, ptrL, appL, fillA, chunks, ivs, AV.iv, mkE, if_false, if_true, List.not_mem_nil, forall_eq, beq_self_eq_true, List.isEmpty_nil, Nat.reduceEqDiff, Nat.reduceLT, Nat.reduceLeDiff, Nat.reduceAdd, Nat.reduceMul, Int.reduceToNat, Int.reduceLE, Int.reduceLT]
def c_strings_Compare (f_internal_bytealg_CompareString : Nat) : AC :=
(.seq (.reg [⟨(some 4), none, (.mov (.c (.int .i64 0)))⟩]) (.seq (.reg [⟨(some 5), none, (.mov (.t 0))⟩, ⟨(some 6), none, (.mov (.t 1))⟩, ⟨(some 7), none, (.call f_internal_bytealg_CompareString [(.t 5), (.t 6)])⟩, ⟨(some 4), none, (.mov (.t 7))⟩]) .ret))
theorem pCompare {f_strings_Compare f_internal_bytealg_CompareString : Nat} (hF : compF P G f_strings_Compare = some (8, [(none, 4)], (c_strings_Compare f_internal_bytealg_CompareString).bare)) (s t : Bs) (hC : PureC P G f_internal_bytealg_CompareString [.str s, .str t] (.int .i64 (Lib.compareBytes s t))) :
    PureC P G f_strings_Compare [.str s, .str t] (.int .i64 (Lib.compareBytes s t)) := by
  refine pure_of_go hF (by simp) (by simp [lbss, AV.lbs]) (by simp [AV.lbs]) ?_
  unfold c_strings_Compare
  simp only [↓aX, evp, evq, evl, boxK, stillV, binV, AV.cells, mP, loadV, storeV, ldV, AV.stb, AV.one, IV.av1, Lb.app, Lb.fresh, reduceCtorEq, ptrL, appL, fillA, chunks, ivs, AV.iv, mkE, if_false, if_true, List.not_mem_nil, forall_eq, beq_self_eq_true, List.isEmpty_nil, Nat.reduceEqDiff, Nat.reduceLT, Nat.reduceLeDiff, Nat.reduceAdd, Nat.reduceMul, Int.reduceToNat, Int.reduceLE, Int.reduceLT]
  refine callT_pure hC ?_
  simp only [↓aX, evp, evq, evl, boxK, stillV, binV, AV.cells, mP, loadV, storeV, ldV, AV.stb, AV.one, IV.av1, Lb.app, Lb.fresh, reduceCtorEq, ptrL, appL, fillA, chunks, ivs, AV.iv, mkE, if_false, if_true, List.not_mem_nil, forall_eq, beq_self_eq_true, List.isEmpty_nil, Nat.reduceEqDiff, Nat.reduceLT, Nat.reduceLeDiff, Nat.reduceAdd, Nat.reduceMul, Int.reduceToNat, Int.reduceLE, Int.reduceLT]
def c_mark_reader_attrs_1 (f_strings_Compare : Nat) : AC :=
(.seq (.reg [⟨(some 2), none, (.box (.t 0))⟩, ⟨(some 3), none, (.box (.t 1))⟩, ⟨(some 4), none, (.mov (.c (.int .i64 0)))⟩]) (.seq (.reg [⟨(some 5), none, (.fld (.t 2) 0)⟩, ⟨(some 6), none, (.load none (.t 5))⟩, ⟨(some 7), none, (.fld (.t 3) 0)⟩, ⟨(some 8), none, (.load none (.t 7))⟩, ⟨(some 9), none, (.call f_strings_Compare [(.t 6), (.t 8)])⟩, ⟨(some 4), none, (.mov (.t 9))⟩]) .ret))
theorem pCmpA {f_mark_reader_attrs_1 f_strings_Compare : Nat} (hF : compF P G f_mark_reader_attrs_1 = some (10, [(none, 4)], (c_mark_reader_attrs_1 f_strings_Compare).bare)) (a b : Attr) (hC : PureC P G f_strings_Compare [.str a.name, .str b.name] (.int .i64 (Lib.compareBytes a.name b.name))) :
    PureC P G f_mark_reader_attrs_1 [a.avA, b.avA] (.int .i64 (cmpA a b)) := by
  refine pure_of_go hF (by simp) (by simp [lbss, AV.lbs, Attr.avA]) (by simp [AV.lbs]) ?_
  unfold c_mark_reader_attrs_1
  simp only [↓aX, evp, evq, evl, boxK, stillV, binV, AV.cells, mP, loadV, storeV, ldV, AV.stb, AV.one, IV.av1, Lb.app, Lb.fresh, reduceCtorEq, ptrL, appL, fillA, chunks, ivs, AV.iv, mkE, if_false, if_true, List.not_mem_nil, forall_eq, beq_self_eq_true, List.isEmpty_nil, Nat.reduceEqDiff, Nat.reduceLT, Nat.reduceLeDiff, Nat.reduceAdd, Nat.reduceMul, Int.reduceToNat, Int.reduceLE, Int.reduceLT, Attr.avA]
  refine callT_pure hC ?_
  simp only [↓aX, evp, evq, evl, boxK, stillV, binV, AV.cells, mP, loadV, storeV, ldV, AV.stb, AV.one, IV.av1, Lb.app, Lb.fresh, reduceCtorEq, ptrL, appL, fillA, chunks, ivs, AV.iv, mkE, if_false, if_true, List.not_mem_nil, forall_eq, beq_self_eq_true, List.isEmpty_nil, Nat.reduceEqDiff, Nat.reduceLT, Nat.reduceLeDiff, Nat.reduceAdd, Nat.reduceMul, Int.reduceToNat, Int.reduceLE, Int.reduceLT, cmpA]
theorem cmpB_neg : ∀ s t : Bs, decide (Lib.compareBytes s t < 0) = Op.bytesLess s t
  | [], [] => rfl
  | [], _ :: _ => rfl
  | _ :: _, [] => rfl
  | a :: as, b :: bs => by
    have ih := cmpB_neg as bs
    simp only [Lib.compareBytes, Op.bytesLess]
    by_cases h1 : a < b
    · simp [h1]
    · by_cases h2 : b < a
      · simp only [h1, h2, if_true, if_false]
        have : ¬ a = b := fun e => h1 (by rw [e] at h2; exact absurd h2 (u8_lt_irr _))
        simp_all
      · have h3 : a = b := (u8_tri a b).elim (fun h => absurd h h1) (fun h => h.elim id (fun h => absurd h h2))
        subst h3
        simp only [u8_lt_irr, if_false, ih]
        try simp
theorem cmpA_neg (a b : Attr) : decide (cmpA a b < 0) = Op.bytesLess a.name b.name := cmpB_neg _ _
theorem swap_perm {L : List Attr} {i j : Nat} {x y : Attr} (hi : L[i]? = some x) (hj : L[j]? = some y) : ((L.set i y).set j x).Perm L := by
  obtain ⟨h1, e1⟩ := List.getElem?_eq_some_iff.1 hi
  obtain ⟨h2, e2⟩ := List.getElem?_eq_some_iff.1 hj
  subst e1; subst e2
  exact List.set_set_perm h1 h2
/-- Sorted, equal ones as they stood. -/
def srtA : List Attr → Prop
  | [] => True
  | x :: r => (∀ y ∈ r, Op.bytesLess y.name x.name = false) ∧ srtA r
theorem insA_mem {l : List Attr} {a x : Attr} : x ∈ insA l a ↔ x = a ∨ x ∈ l := by
  induction l with
  | nil => simp [insA]
  | cons b r ih =>
    unfold insA
    split
    · simp
    · simp [ih]; constructor <;> (rintro (h | h | h) <;> simp [h])
theorem insA_srt {l : List Attr} (a : Attr) (h : srtA l) : srtA (insA l a) := by
  induction l with
  | nil => simp [insA, srtA]
  | cons b r ih =>
    unfold insA
    split
    · rename_i hlt
      refine ⟨fun y hy => ?_, h⟩
      rcases List.mem_cons.1 hy with rfl | hy
      · exact bl_asym hlt
      · have := h.1 y hy
        cases hc : Op.bytesLess y.name a.name with
        | false => rfl
        | true => have := bl_tr hc hlt; simp_all
    · rename_i hlt
      refine ⟨fun y hy => ?_, ih h.2⟩
      rcases insA_mem.1 hy with rfl | hy
      · simpa using hlt
      · exact h.1 y hy
theorem sortA_srt (l : List Attr) : srtA (sortA l) := by
  have key : ∀ (l acc : List Attr), srtA acc → srtA (l.foldl insA acc) := by
    intro l
    induction l with
    | nil => intro acc h; exact h
    | cons a r ih => intro acc h; exact ih _ (insA_srt a h)
  exact key l [] trivial
theorem srtA_app {p q : List Attr} (h : srtA (p ++ q)) : srtA p ∧ ∀ x ∈ p, ∀ y ∈ q, Op.bytesLess y.name x.name = false := by
  induction p with
  | nil => exact ⟨trivial, by simp⟩
  | cons a r ih =>
    obtain ⟨h1, h2⟩ := h
    obtain ⟨h3, h4⟩ := ih h2
    refine ⟨⟨fun y hy => h1 y (by simp [hy]), h3⟩, fun x hx y hy => ?_⟩
    rcases List.mem_cons.1 hx with rfl | hx
    · exact h1 y (by simp [hy])
    · exact h4 x hx y hy
/-- What is not smaller than the last of those ahead, and smaller than all behind, stands between them. -/
theorem insA_at {x : Attr} : ∀ {pre suf : List Attr}, (∀ y ∈ pre, Op.bytesLess x.name y.name = false) → (∀ y ∈ suf, Op.bytesLess x.name y.name = true) → insA (pre ++ suf) x = pre ++ x :: suf
  | [], [], _, _ => rfl
  | [], b :: r, _, h => by simp only [List.nil_append, insA, h b (by simp), if_true]
  | a :: p, suf, h1, h2 => by
    have := insA_at (pre := p) (suf := suf) (x := x) (fun y hy => h1 y (by simp [hy])) h2
    simp only [List.cons_append, insA, h1 a (by simp), Bool.false_eq_true, if_false, this]
theorem sortA_snoc (l : List Attr) (x : Attr) : sortA (l ++ [x]) = insA (sortA l) x := by unfold sortA; rw [List.foldl_append]; rfl
theorem getA {L : List Attr} {i : Nat} {x : Attr} (h : L[i]? = some x) : (immE (ivA L))[i]? = some [.str x.name, .str x.val] := by
  rw [immE_get, ivA_get, h]; rfl
theorem setA2 (L : List Attr) (i : Nat) (x : Attr) : (immE (ivA L)).set i [.str x.name, .str x.val] = immE (ivA (L.set i x)) := by
  have := immE_set (ivA L) i x.iv
  rw [show (immE (ivA L)).set i [.str x.name, .str x.val] = (immE (ivA L)).set i (x.iv.cells.map IV.av1) from rfl, this]
  congr 1
  simp [ivA, List.map_set]
def c_slices_insertionSortCmpFunc_Attr : AC :=
(.seq (.reg [⟨(some 10), none, (.mov (.t 1))⟩, ⟨(some 11), none, (.bin .add (.t 10) (.c (.int .i64 1)))⟩, ⟨(some 8), none, (.mov (.t 11))⟩]) (.block 0 (.loop (.seq (.seq (.reg [⟨(some 12), none, (.mov (.t 8))⟩, ⟨(some 13), none, (.mov (.t 2))⟩, ⟨(some 14), none, (.bin .lss (.t 12) (.t 13))⟩]) (.cond (.t 14) .skip (.exit 0))) (.seq (.block 1 (.seq (.reg [⟨(some 17), none, (.mov (.t 8))⟩, ⟨(some 9), none, (.mov (.t 17))⟩]) (.block 2 (.loop (.seq (.seq (.dreg [⟨(some 18), none, (.mov (.t 9))⟩, ⟨(some 19), none, (.mov (.t 1))⟩, ⟨(some 20), none, (.bin .gtr (.t 18) (.t 19))⟩, ⟨(some 21), none, (.mov (.t 20))⟩, ⟨(some 22), (some (21, true)), (.mov (.t 3))⟩, ⟨(some 23), (some (21, true)), (.mov (.t 0))⟩, ⟨(some 24), (some (21, true)), (.mov (.t 9))⟩, ⟨(some 25), (some (21, true)), (.ixa (.t 23) (.t 24) 2)⟩, ⟨(some 26), (some (21, true)), (.load (some 2) (.t 25))⟩, ⟨(some 27), (some (21, true)), (.mov (.t 0))⟩, ⟨(some 28), (some (21, true)), (.mov (.t 9))⟩, ⟨(some 29), (some (21, true)), (.bin .sub (.t 28) (.c (.int .i64 1)))⟩, ⟨(some 30), (some (21, true)), (.ixa (.t 27) (.t 29) 2)⟩, ⟨(some 31), (some (21, true)), (.load (some 2) (.t 30))⟩, ⟨(some 32), (some (21, true)), (.callv (.t 22) [(.t 26), (.t 31)])⟩, ⟨(some 33), (some (21, true)), (.bin .lss (.t 32) (.c (.int .i64 0)))⟩, ⟨(some 34), none, (.pick (.t 21) (.t 33) (.c (.bool false)))⟩] [[], [], [0, 1], [2], [3], [3], [3], [5, 6, 3], [7, 3], [3], [3], [10, 3], [9, 11, 3], [12, 3], [4, 8, 13, 3, 3], [14, 3], [3, 15]] [.no, .no, .no, .no, .no, .no, .no, .no, (.rw [(.par 0)] []), .no, .no, .no, .no, (.rw [(.par 0)] []), .no, .no, .no]) (.cond (.t 34) .skip (.exit 2))) (.seq (.block 3 (.dreg [⟨(some 37), none, (.mov (.t 0))⟩, ⟨(some 38), none, (.mov (.t 9))⟩, ⟨(some 39), none, (.mov (.t 0))⟩, ⟨(some 40), none, (.mov (.t 9))⟩, ⟨(some 41), none, (.bin .sub (.t 40) (.c (.int .i64 1)))⟩, ⟨(some 42), none, (.mov (.t 0))⟩, ⟨(some 43), none, (.mov (.t 9))⟩, ⟨(some 44), none, (.bin .sub (.t 43) (.c (.int .i64 1)))⟩, ⟨(some 45), none, (.ixa (.t 42) (.t 44) 2)⟩, ⟨(some 46), none, (.load (some 2) (.t 45))⟩, ⟨(some 47), none, (.mov (.t 0))⟩, ⟨(some 48), none, (.mov (.t 9))⟩, ⟨(some 49), none, (.ixa (.t 47) (.t 48) 2)⟩, ⟨(some 50), none, (.load (some 2) (.t 49))⟩, ⟨(some 51), none, (.ixa (.t 37) (.t 38) 2)⟩, ⟨none, none, (.store 2 (.t 51) (.t 46))⟩, ⟨(some 52), none, (.ixa (.t 39) (.t 41) 2)⟩, ⟨none, none, (.store 2 (.t 52) (.t 50))⟩] [[], [], [], [], [3], [], [], [6], [5, 7], [8], [], [], [10, 11], [12], [0, 1, 0, 1, 5, 6, 7, 8, 9, 13], [14, 9, 0, 1, 5, 6, 7, 8, 9, 13], [2, 4, 0, 1, 2, 3, 4, 5, 6, 7, 8, 9, 10, 11, 12, 13, 14, 15], [16, 13, 15, 0, 1, 2, 3, 4, 5, 6, 7, 8, 9, 10, 11, 12, 13, 14, 15]] [.no, .no, .no, .no, .no, .no, .no, .no, .no, (.rw [(.par 0)] []), .no, .no, .no, (.rw [(.par 0)] []), .no, (.rw [] [(.par 0)]), .no, (.rw [] [(.par 0)])])) (.reg [⟨(some 35), none, (.mov (.t 9))⟩, ⟨(some 36), none, (.bin .sub (.t 35) (.c (.int .i64 1)))⟩, ⟨(some 9), none, (.mov (.t 36))⟩]))))))) (.reg [⟨(some 15), none, (.mov (.t 8))⟩, ⟨(some 16), none, (.bin .add (.t 15) (.c (.int .i64 1)))⟩, ⟨(some 8), none, (.mov (.t 16))⟩]))))))
theorem pInsert {f_slices_insertionSortCmpFunc_Attr f_cmp : Nat} (hF : compF P G f_slices_insertionSortCmpFunc_Attr = some (53, [], c_slices_insertionSortCmpFunc_Attr.bare)) (hB : goBody P f_cmp = true) (hC : ∀ a b : Attr, PureC P G f_cmp [a.avA, b.avA] (.int .i64 (cmpA a b)))
    (l : List Attr) (hl : l.length ≤ B) (a b : Nat) (hab : a ≤ b) (hb : b ≤ l.length) :
    RowC P G f_slices_insertionSortCmpFunc_Attr [.sl (.par 0) 2 0 l.length, .int .i64 a, .int .i64 b, .fn f_cmp [] []] 2 (ivA l) fun x ys => ∃ zs : List Attr, ys = ivA zs ∧ zs.Perm l ∧ (a = 0 → zs = sortA (l.take b) ++ l.drop b) ∧ (a = b → zs = l) := by
  refine row_of_go hF (by simp) (by simp [lbss, AV.lbs]) ?_
  have hBv : B = 1073741824 := rfl
  unfold c_slices_insertionSortCmpFunc_Attr
  simp only [↓aX, evp, evq, evl, boxK, stillV, binV, AV.cells, mP, loadV, storeV, ldV, AV.stb, AV.one, IV.av1, Lb.app, Lb.fresh, reduceCtorEq, ptrL, appL, fillA, chunks, ivs, AV.iv, mkE, if_false, if_true, List.not_mem_nil, forall_eq, beq_self_eq_true, List.isEmpty_nil, Nat.reduceEqDiff, Nat.reduceLT, Nat.reduceLeDiff, Nat.reduceAdd, Nat.reduceMul, Int.reduceToNat, Int.reduceLE, Int.reduceLT, rowX]
  have hwa : IntKind.i64.wrap ((a : Int) + 1) = ((a + 1 : Nat) : Int) := wrap64 (by omega) (by omega)
  rw [hwa]
  clear hwa
  refine loop_same (σ := { q : Nat × List Attr // a + 1 ≤ q.1 ∧ q.1 ≤ max b (a + 1) ∧ q.2.Perm l ∧ (a = 0 → q.2 = sortA (l.take q.1) ++ l.drop q.1) ∧ (q.1 = a + 1 → q.2 = l) }) [.par 0]
    (fun q => [(0, .sl (.par 0) 2 0 l.length), (1, .int .i64 a), (2, .int .i64 b), (3, .fn f_cmp [] []), (8, .int .i64 q.1.1)]) (fun q => [(.par 0, ⟨2, immE (ivA q.1.2)⟩)]) (fun q => b + 1 - q.1.1)
    ⟨(a + 1, l), Nat.le_refl _, by simp only; omega, .refl _, fun h => ?_, fun _ => rfl⟩ (fun _ => rfl) (by decide) (by simp [lbss, AV.lbs]) ?_ ?_ ?_
  · subst h
    cases l with
    | nil => rfl
    | cons x r => simp [sortA, insA]
  · intro q w hw cs hcs z hz
    simp only [List.mem_singleton] at hw; subst hw
    rw [lbss_immE hcs] at hz; simp at hz
  · refine WS_mk ?_ (by repeat' constructor) (by repeat' constructor)
    intro z hz hu
    by_cases e : z = .par 0
    · subst e; simp
    · exfalso; apply hu; simp [upd_at, e, Hp.none]
  · rintro ⟨⟨i, L⟩, hi1, hi2, hp, hs, hsame⟩
    simp only at hi1 hi2 hp hs hsame
    have hLl : L.length = l.length := hp.length_eq
    simp only [↓aX, evp, evq, evl, boxK, stillV, binV, AV.cells, mP, loadV, storeV, ldV, AV.stb, AV.one, IV.av1, Lb.app, Lb.fresh, reduceCtorEq, ptrL, appL, fillA, chunks, ivs, AV.iv, mkE, if_false, if_true, List.not_mem_nil, forall_eq, beq_self_eq_true, List.isEmpty_nil, Nat.reduceEqDiff, Nat.reduceLT, Nat.reduceLeDiff, Nat.reduceAdd, Nat.reduceMul, Int.reduceToNat, Int.reduceLE, Int.reduceLT, ofH_nil, ofH_cons]
    by_cases hlt : i < b
    · rw [show decide (((i : Nat) : Int) < ((b : Nat) : Int)) = true by simpa using hlt]
      have hwi : IntKind.i64.wrap ((i : Int) + 1) = ((i + 1 : Nat) : Int) := wrap64 (by omega) (by omega)
      simp only [↓aX, evp, evq, evl, boxK, stillV, binV, AV.cells, mP, loadV, storeV, ldV, AV.stb, AV.one, IV.av1, Lb.app, Lb.fresh, reduceCtorEq, ptrL, appL, fillA, chunks, ivs, AV.iv, mkE, if_false, if_true, List.not_mem_nil, forall_eq, beq_self_eq_true, List.isEmpty_nil, Nat.reduceEqDiff, Nat.reduceLT, Nat.reduceLeDiff, Nat.reduceAdd, Nat.reduceMul, Int.reduceToNat, Int.reduceLE, Int.reduceLT]
      -- INNER
      refine loop_same (σ := { q : Nat × List Attr // a ≤ q.1 ∧ q.1 ≤ i ∧ q.2.Perm l ∧ (a = 0 → ∃ pre suf x, l[i]? = some x ∧ pre ++ suf = sortA (l.take i) ∧ q.2 = pre ++ x :: (suf ++ l.drop (i + 1)) ∧ pre.length = q.1 ∧ ∀ y ∈ suf, Op.bytesLess x.name y.name = true) }) [.par 0]
        (fun q => [(0, .sl (.par 0) 2 0 l.length), (1, .int .i64 a), (2, .int .i64 b), (3, .fn f_cmp [] []), (8, .int .i64 i), (9, .int .i64 q.1.1)]) (fun q => [(.par 0, ⟨2, immE (ivA q.1.2)⟩)]) (fun q => q.1.1)
        ⟨(i, L), by simp only; omega, Nat.le_refl _, hp, fun h => ?_⟩ (fun _ => rfl) (by decide) (by simp [lbss, AV.lbs]) ?_ ?_ ?_
      · obtain ⟨x, hx⟩ : ∃ x, l[i]? = some x := ⟨_, List.getElem?_eq_getElem (by omega)⟩
        refine ⟨sortA (l.take i), [], x, hx, by simp, ?_, ?_, by simp⟩
        · simp only
          rw [hs h, List.drop_eq_getElem_cons (show i < l.length by omega), (List.getElem?_eq_some_iff.1 hx).2, List.nil_append]
        · rw [sortA_len, List.length_take]; simp only; omega
      · intro q w hw cs hcs z hz
        simp only [List.mem_singleton] at hw; subst hw
        rw [lbss_immE hcs] at hz; simp at hz
      · refine WS_mk ?_ (by repeat' constructor) (by repeat' constructor)
        intro z hz hu
        by_cases e : z = .par 0
        · subst e; simp
        · exfalso; apply hu; simp [upd_at, e, Hp.none]
      · rintro ⟨⟨j, M⟩, hj1, hj2, hM, hms⟩
        simp only at hj1 hj2 hM hms
        have hMl : M.length = l.length := hM.length_eq
        simp only [↓aX, evp, evq, evl, boxK, stillV, binV, AV.cells, mP, loadV, storeV, ldV, AV.stb, AV.one, IV.av1, Lb.app, Lb.fresh, reduceCtorEq, ptrL, appL, fillA, chunks, ivs, AV.iv, mkE, if_false, if_true, List.not_mem_nil, forall_eq, beq_self_eq_true, List.isEmpty_nil, Nat.reduceEqDiff, Nat.reduceLT, Nat.reduceLeDiff, Nat.reduceAdd, Nat.reduceMul, Int.reduceToNat, Int.reduceLE, Int.reduceLT, ofH_nil, ofH_cons]
        refine ⟨by decide +kernel, ?_⟩
        have done : ∀ pre suf x, l[i]? = some x → pre ++ suf = sortA (l.take i) → M = pre ++ x :: (suf ++ l.drop (i + 1)) → (∀ y ∈ suf, Op.bytesLess x.name y.name = true) → (∀ y ∈ pre, Op.bytesLess x.name y.name = false) → M = sortA (l.take (i + 1)) ++ l.drop (i + 1) := by
          intro pre suf x h1 h2 h3 h4 h5
          rw [List.take_add_one, h1, Option.toList_some, sortA_snoc, ← h2, insA_at h5 h4, h3]; simp
        by_cases hja : a < j
        · rw [show decide (((j : Nat) : Int) > ((a : Nat) : Int)) = true by simpa using hja]
          have hwj : IntKind.i64.wrap ((j : Int) - 1) = ((j - 1 : Nat) : Int) := by rw [wrap64 (by omega) (by omega)]; omega
          obtain ⟨x, hx⟩ : ∃ x, M[j]? = some x := ⟨_, List.getElem?_eq_getElem (by omega)⟩
          obtain ⟨y, hy⟩ : ∃ y, M[j - 1]? = some y := ⟨_, List.getElem?_eq_getElem (by omega)⟩
          have hcxy := hC x y
          simp only [Attr.avA] at hcxy
          simp only [↓aX, evp, evq, evl, boxK, stillV, binV, AV.cells, mP, loadV, storeV, ldV, AV.stb, AV.one, IV.av1, Lb.app, Lb.fresh, reduceCtorEq, ptrL, appL, fillA, chunks, ivs, AV.iv, mkE, if_false, if_true, List.not_mem_nil, forall_eq, beq_self_eq_true, List.isEmpty_nil, Nat.reduceEqDiff, Nat.reduceLT, Nat.reduceLeDiff, Nat.reduceAdd, Nat.reduceMul, Int.reduceToNat, Int.reduceLE, Int.reduceLT, hwj, Int.natCast_nonneg, Int.toNat_natCast, Nat.zero_add, getA hx, getA hy, show j < l.length by omega, show j - 1 < l.length by omega, af_callv, pvK_fn]
          refine ⟨hB, puK_in hcxy ?_⟩
          simp only [↓aX, evp, evq, evl, boxK, stillV, binV, AV.cells, mP, loadV, storeV, ldV, AV.stb, AV.one, IV.av1, Lb.app, Lb.fresh, reduceCtorEq, ptrL, appL, fillA, chunks, ivs, AV.iv, mkE, if_false, if_true, List.not_mem_nil, forall_eq, beq_self_eq_true, List.isEmpty_nil, Nat.reduceEqDiff, Nat.reduceLT, Nat.reduceLeDiff, Nat.reduceAdd, Nat.reduceMul, Int.reduceToNat, Int.reduceLE, Int.reduceLT, cmpA_neg]
          have preOK : a = 0 → ∀ {pre suf : List Attr} {z : Attr}, l[i]? = some z → pre ++ suf = sortA (l.take i) → M = pre ++ z :: (suf ++ l.drop (i + 1)) → pre.length = j → Op.bytesLess x.name y.name = false → ∀ w ∈ pre, Op.bytesLess z.name w.name = false := by
            intro h pre suf z h1 h2 h3 h4 hcmp w hw
            have hz : z = x := by
              rw [h3, List.getElem?_append_right (by omega), h4] at hx
              simpa using hx
            subst hz
            obtain ⟨pre', y', rfl⟩ : ∃ pre' y', pre = pre' ++ [y'] := by
              rcases List.eq_nil_or_concat pre with h | ⟨p', y', h⟩
              · subst h; simp at h4; omega
              · exact ⟨p', y', by simpa using h⟩
            have hpl : pre'.length = j - 1 := by simp at h4; omega
            have hyy : y' = y := by
              rw [h3, List.append_assoc, List.getElem?_append_right (by omega), hpl, Nat.sub_self] at hy
              simpa using hy
            subst hyy
            have hsr := sortA_srt (l.take i)
            rw [← h2] at hsr
            have hs2 := (srtA_app (srtA_app hsr).1).2
            rcases List.mem_append.1 hw with hw | hw
            · have h6 := hs2 w hw y' (by simp)
              cases hc : Op.bytesLess z.name w.name with
              | false => rfl
              | true =>
                rcases bl_tri y'.name w.name with h7 | h7 | h7
                · rw [h7] at h6; cases h6
                · rw [h7, hc] at hcmp; cases hcmp
                · rw [bl_tr hc h7] at hcmp; cases hcmp
            · simp only [List.mem_singleton] at hw; subst hw; exact hcmp
          cases hcmp : Op.bytesLess x.name y.name with
          | true =>
            simp only [↓aX, evp, evq, evl, boxK, stillV, binV, AV.cells, mP, loadV, storeV, ldV, AV.stb, AV.one, IV.av1, Lb.app, Lb.fresh, reduceCtorEq, ptrL, appL, fillA, chunks, ivs, AV.iv, mkE, if_false, if_true, List.not_mem_nil, forall_eq, beq_self_eq_true, List.isEmpty_nil, Nat.reduceEqDiff, Nat.reduceLT, Nat.reduceLeDiff, Nat.reduceAdd, Nat.reduceMul, Int.reduceToNat, Int.reduceLE, Int.reduceLT]
            refine ⟨by decide +kernel, ?_⟩
            simp only [↓aX, evp, evq, evl, boxK, stillV, binV, AV.cells, mP, loadV, storeV, ldV, AV.stb, AV.one, IV.av1, Lb.app, Lb.fresh, reduceCtorEq, ptrL, appL, fillA, chunks, ivs, AV.iv, mkE, if_false, if_true, List.not_mem_nil, forall_eq, beq_self_eq_true, List.isEmpty_nil, Nat.reduceEqDiff, Nat.reduceLT, Nat.reduceLeDiff, Nat.reduceAdd, Nat.reduceMul, Int.reduceToNat, Int.reduceLE, Int.reduceLT, hwj, Int.natCast_nonneg, Int.toNat_natCast, Nat.zero_add, getA hx, getA hy, show j < l.length by omega, show j - 1 < l.length by omega, ptrL]
            have hx1 : (M.set j y)[j - 1]? = some y := by rw [List.getElem?_set_ne (by omega)]; exact hy
            rw [setA2 M j y]
            simp only [↓aX, evp, evq, evl, boxK, stillV, binV, AV.cells, mP, loadV, storeV, ldV, AV.stb, AV.one, IV.av1, Lb.app, Lb.fresh, reduceCtorEq, ptrL, appL, fillA, chunks, ivs, AV.iv, mkE, if_false, if_true, List.not_mem_nil, forall_eq, beq_self_eq_true, List.isEmpty_nil, Nat.reduceEqDiff, Nat.reduceLT, Nat.reduceLeDiff, Nat.reduceAdd, Nat.reduceMul, Int.reduceToNat, Int.reduceLE, Int.reduceLT, getA hx1, hwj]
            refine ⟨⟨(j - 1, (M.set j y).set (j - 1) x), by simp only; omega, by simp only; omega, (swap_perm hx hy).trans hM, fun h => ?_⟩, by simp only; omega, WS_mk ?_ (by repeat' constructor) ⟨by simp only [upd_at, if_true]; rw [setA2], trivial⟩⟩
            · obtain ⟨pre, suf, z, h1, h2, h3, h4, h5⟩ := hms h
              have hz : z = x := by
                rw [h3, List.getElem?_append_right (by omega), h4] at hx
                simpa using hx
              subst hz
              obtain ⟨pre', y', rfl⟩ : ∃ pre' y', pre = pre' ++ [y'] := by
                rcases List.eq_nil_or_concat pre with h | ⟨p', y', h⟩
                · subst h; simp at h4; omega
                · exact ⟨p', y', by simpa using h⟩
              have hpl : pre'.length = j - 1 := by simp at h4; omega
              have hyy : y' = y := by
                rw [h3, List.append_assoc, List.getElem?_append_right (by omega), hpl, Nat.sub_self] at hy
                simpa using hy
              subst hyy
              refine ⟨pre', y' :: suf, z, h1, by rw [← h2]; simp, ?_, hpl, fun w hw => ?_⟩
              · simp only
                rw [h3]
                have hjl : j = pre'.length + 1 := by omega
                subst hjl
                simp [List.set_append_right]
              · rcases List.mem_cons.1 hw with rfl | hw
                · exact hcmp
                · exact h5 w hw
            · intro z hz hu
              by_cases e : z = .par 0
              · subst e; simp
              · exfalso; apply hu; simp [upd_at, e, Hp.none]
          | false =>
            simp only [↓aX, evp, evq, evl, boxK, stillV, binV, AV.cells, mP, loadV, storeV, ldV, AV.stb, AV.one, IV.av1, Lb.app, Lb.fresh, reduceCtorEq, ptrL, appL, fillA, chunks, ivs, AV.iv, mkE, if_false, if_true, List.not_mem_nil, forall_eq, beq_self_eq_true, List.isEmpty_nil, Nat.reduceEqDiff, Nat.reduceLT, Nat.reduceLeDiff, Nat.reduceAdd, Nat.reduceMul, Int.reduceToNat, Int.reduceLE, Int.reduceLT, hwi]
            refine ⟨⟨(i + 1, M), by simp only; omega, Nat.le_trans hlt (Nat.le_max_left _ _), hM, fun h => ?_, fun h => absurd h (by simp only; omega)⟩, by simp only; omega, WS_mk ?_ (by repeat' constructor) (by repeat' constructor)⟩
            · obtain ⟨pre, suf, z, h1, h2, h3, h4, h5⟩ := hms h
              exact done pre suf z h1 h2 h3 h5 (preOK h h1 h2 h3 h4 hcmp)
            · intro z hz hu
              by_cases e : z = .par 0
              · subst e; simp
              · exfalso; apply hu; simp [upd_at, e, Hp.none]
        · rw [show decide (((j : Nat) : Int) > ((a : Nat) : Int)) = false by simpa using hja]
          simp only [↓aX, evp, evq, evl, boxK, stillV, binV, AV.cells, mP, loadV, storeV, ldV, AV.stb, AV.one, IV.av1, Lb.app, Lb.fresh, reduceCtorEq, ptrL, appL, fillA, chunks, ivs, AV.iv, mkE, if_false, if_true, List.not_mem_nil, forall_eq, beq_self_eq_true, List.isEmpty_nil, Nat.reduceEqDiff, Nat.reduceLT, Nat.reduceLeDiff, Nat.reduceAdd, Nat.reduceMul, Int.reduceToNat, Int.reduceLE, Int.reduceLT, hwi]
          refine ⟨⟨(i + 1, M), by simp only; omega, Nat.le_trans hlt (Nat.le_max_left _ _), hM, fun h => ?_, fun h => absurd h (by simp only; omega)⟩, by simp only; omega, WS_mk ?_ (by repeat' constructor) (by repeat' constructor)⟩
          · obtain ⟨pre, suf, z, h1, h2, h3, h4, h5⟩ := hms h
            exact done pre suf z h1 h2 h3 h5 (by have : pre = [] := List.eq_nil_of_length_eq_zero (by omega); rw [this]; simp)
          · intro z hz hu
            by_cases e : z = .par 0
            · subst e; simp
            · exfalso; apply hu; simp [upd_at, e, Hp.none]
    · rw [show decide (((i : Nat) : Int) < ((b : Nat) : Int)) = false by simpa using hlt]
      simp only [↓aX, evp, evq, evl, boxK, stillV, binV, AV.cells, mP, loadV, storeV, ldV, AV.stb, AV.one, IV.av1, Lb.app, Lb.fresh, reduceCtorEq, ptrL, appL, fillA, chunks, ivs, AV.iv, mkE, if_false, if_true, List.not_mem_nil, forall_eq, beq_self_eq_true, List.isEmpty_nil, Nat.reduceEqDiff, Nat.reduceLT, Nat.reduceLeDiff, Nat.reduceAdd, Nat.reduceMul, Int.reduceToNat, Int.reduceLE, Int.reduceLT, ret_n, resVs, oneV]
      refine ⟨_, rfl, ivA L, ⟨L, rfl, hp, fun h => ?_, fun h => hsame (by omega)⟩, by simp [AV.lbs, lbss], by rw [ivA_len, ivA_len, hLl], by simp [upd_at]⟩
      rw [hs h]
      by_cases hbi : i = b
      · rw [hbi]
      · have hb0 : b = 0 := by omega
        have hi1' : i = 1 := by omega
        subst hb0; subst hi1'
        cases l with
        | nil => rfl
        | cons x r => simp [sortA, insA]
end
end Go.Am
