import Derived.Test.YtfinkeaikbmpgaaDoorT62
set_option linter.unusedSimpArgs false
set_option linter.unusedVariables false
set_option linter.unnecessarySimpa false
set_option linter.defProp false
/- Reading: attributes. -/
set_option pp.deepTerms false
set_option pp.deepTerms.threshold 5
namespace Go.Am
open Go Go.RowKit
theorem wtA_app : ∀ l m : List Attr, wtA (l ++ m) = wtA l + wtA m
  | [], m => by simp [wtA]
  | a :: r, m => by simp [wtA, wtA_app r m]; omega
theorem wtA_perm {l m : List Attr} (h : l.Perm m) : wtA l = wtA m := by
  induction h with
  | nil => rfl
  | cons x _ ih => simp [wtA, ih]
  | swap x y l => simp [wtA]; omega
  | trans _ _ h1 h2 => exact h1.trans h2
def AttrsR (s : Bs) (b : Bool) (x : AV) (cs : List AV) : Prop := ∃ l r b', x = .list (ivA l) ∧ cs = rdC r b' ∧ r.length + wtA l ≤ s.length ∧ (b = true → b' = true) ∧
  (b = false → match attrsF s with
    | some y => b' = false ∧ r = y.2 ∧ l.length = y.1.length ∧ (y.1.length ≤ 20 → l = sortA y.1)
    | none => b' = true)
def AttrI (s : Bs) (b : Bool) (q : Bs × List Attr × Bool) : Prop := q.1.length + wtA q.2.1 ≤ s.length ∧ (b = true → q.2.2 = true) ∧ (b = false → if q.2.2 then attrsF s = none else attrsF s = (attrsF q.1).map fun y => (q.2.1 ++ y.1, y.2))
theorem takeF_cut (p s : Bs) : takeF p s = if p.isPrefixOf s then some (cutP1 p s) else none := by
  unfold takeF cutP1
  split <;> rfl
theorem nameF_eq (s : Bs) : nameF s = if (decide (s.takeWhile isLow = []) || decide (8 < (s.takeWhile isLow).length)) then none else some (s.takeWhile isLow, s.dropWhile isLow) := by
  unfold nameF
  simp only [Bool.or_eq_true, decide_eq_true_eq]
theorem takeDrop_len (p : UInt8 → Bool) (s : Bs) : (s.takeWhile p).length + (s.dropWhile p).length = s.length := by
  rw [← List.length_append, List.takeWhile_append_dropWhile]
section
variable {P : Program} {G : Nat → Option (List IV)}
def c_mark_reader_attrs (f_mark_reader_space f_mark_reader_name f_mark_reader_take f_mark_reader_text f_slices_SortStableFunc_Attr_Attr f_mark_reader_attrs_1 : Nat) : AC :=
(.seq (.reg [⟨(some 2), none, (.mov (.c .nil0))⟩]) (.seq (.reg [⟨(some 3), none, (.mov (.c .nil0))⟩]) (.gh (.own 3 2) (.seq (.block 0 (.loop (.seq (.seq (.reg [⟨(some 5), none, (.mov (.t 0))⟩, ⟨(some 6), none, (.call f_mark_reader_space [(.t 5)])⟩, ⟨(some 7), none, (.mov (.t 6))⟩, ⟨(some 8), (some (7, true)), (.mov (.t 0))⟩, ⟨(some 9), (some (7, true)), (.nchk (.t 8))⟩, ⟨(some 10), (some (7, true)), (.fld (.t 9) 1)⟩, ⟨(some 11), (some (7, true)), (.load none (.t 10))⟩, ⟨(some 12), (some (7, true)), (.not (.t 11))⟩, ⟨(some 13), none, (.pick (.t 7) (.t 12) (.c (.bool false)))⟩, ⟨(some 14), none, (.mov (.t 13))⟩, ⟨(some 15), (some (14, true)), (.mov (.t 0))⟩, ⟨(some 16), (some (14, true)), (.nchk (.t 15))⟩, ⟨(some 17), (some (14, true)), (.fld (.t 16) 0)⟩, ⟨(some 18), (some (14, true)), (.load none (.t 17))⟩, ⟨(some 19), (some (14, true)), (.bin .neq (.t 18) (.c (.str [])))⟩, ⟨(some 20), none, (.pick (.t 14) (.t 19) (.c (.bool false)))⟩, ⟨(some 21), none, (.mov (.t 20))⟩, ⟨(some 22), (some (21, true)), (.mov (.t 0))⟩, ⟨(some 23), (some (21, true)), (.nchk (.t 22))⟩, ⟨(some 24), (some (21, true)), (.fld (.t 23) 0)⟩, ⟨(some 25), (some (21, true)), (.load none (.t 24))⟩, ⟨(some 26), (some (21, true)), (.ixs (.t 25) (.c (.int .i64 0)))⟩, ⟨(some 27), (some (21, true)), (.bin .neq (.t 26) (.c (.int .u8 62)))⟩, ⟨(some 28), none, (.pick (.t 21) (.t 27) (.c (.bool false)))⟩, ⟨(some 29), none, (.mov (.t 28))⟩, ⟨(some 30), (some (29, true)), (.mov (.t 0))⟩, ⟨(some 31), (some (29, true)), (.nchk (.t 30))⟩, ⟨(some 32), (some (29, true)), (.fld (.t 31) 0)⟩, ⟨(some 33), (some (29, true)), (.load none (.t 32))⟩, ⟨(some 34), (some (29, true)), (.ixs (.t 33) (.c (.int .i64 0)))⟩, ⟨(some 35), (some (29, true)), (.bin .neq (.t 34) (.c (.int .u8 47)))⟩, ⟨(some 36), none, (.pick (.t 29) (.t 35) (.c (.bool false)))⟩]) (.cond (.t 36) .skip (.exit 0))) (.block 1 (.seq (.reg [⟨(some 37), none, (.mov (.t 0))⟩, ⟨(some 38), none, (.call f_mark_reader_name [(.t 37)])⟩, ⟨(some 39), none, (.bld [(.str []), (.str [])] [(0, (1, (.t 38)))])⟩, ⟨(some 4), none, (.new [(.str []), (.str [])])⟩, ⟨none, none, (.store 2 (.t 4) (.t 39))⟩]) (.seq (.reg [⟨(some 40), none, (.mov (.t 0))⟩, ⟨(some 41), none, (.call f_mark_reader_take [(.t 40), (.c (.str [61, 34]))])⟩]) (.seq (.reg [⟨(some 42), none, (.mov (.t 0))⟩, ⟨(some 43), none, (.call f_mark_reader_text [(.t 42), (.c (.bool true))])⟩, ⟨(some 44), none, (.fld (.t 4) 1)⟩, ⟨none, none, (.store 1 (.t 44) (.t 43))⟩]) (.seq (.reg [⟨(some 45), none, (.mov (.t 0))⟩, ⟨(some 46), none, (.call f_mark_reader_take [(.t 45), (.c (.str [34]))])⟩]) (.reg [⟨(some 47), none, (.mov (.t 3))⟩, ⟨(some 48), none, (.load (some 2) (.t 4))⟩, ⟨(some 49), none, (.lits 1 2 [(.str []), (.str [])] [(0, (.t 48))])⟩, ⟨(some 50), none, (.app (.t 47) (.t 49) 2 32)⟩, ⟨(some 3), none, (.mov (.t 50))⟩]))))))))) (.seq (.reg [⟨(some 51), none, (.mov (.t 3))⟩, ⟨(some 52), none, (.call f_slices_SortStableFunc_Attr_Attr [(.t 51), (.c (.fn f_mark_reader_attrs_1 [] []))])⟩]) (.seq (.reg [⟨(some 53), none, (.mov (.t 3))⟩, ⟨(some 2), none, (.mov (.t 53))⟩]) (.gh (.frz (.loc 3) 2) .ret)))))))
theorem pRAttrs {f_mark_reader_attrs f_mark_reader_space f_mark_reader_name f_mark_reader_take f_mark_reader_text f_slices_SortStableFunc_Attr_Attr f_mark_reader_attrs_1 : Nat} (hF : compF P G f_mark_reader_attrs = some (54, [(none, 2)], (c_mark_reader_attrs f_mark_reader_space f_mark_reader_name f_mark_reader_take f_mark_reader_text f_slices_SortStableFunc_Attr_Attr f_mark_reader_attrs_1).bare))
    (hSp : ∀ (s : Bs) (b : Bool), s.length ≤ B → MutC P G f_mark_reader_space [.ptr (.par 0) 2 0 0] (rdC s b) fun x cs => x = .bool (decide ((s.dropWhile isSp).length < s.length)) ∧ cs = rdC (s.dropWhile isSp) b)
    (hN : ∀ (s : Bs) (b : Bool), s.length ≤ B → MutC P G f_mark_reader_name [.ptr (.par 0) 2 0 0] (rdC s b) fun x cs => x = .str (s.takeWhile isLow) ∧ cs = rdC (s.dropWhile isLow) (b || (decide (s.takeWhile isLow = []) || decide (8 < (s.takeWhile isLow).length))))
    (hTk : ∀ (s p : Bs) (b : Bool), MutC P G f_mark_reader_take [.ptr (.par 0) 2 0 0, .str p] (rdC s b) fun x cs => cs = rdC (cutP1 p s) (b || !p.isPrefixOf s))
    (hT : ∀ (v : Bool) (s : Bs) (b : Bool), s.length ≤ B → MutC P G f_mark_reader_text [.ptr (.par 0) 2 0 0, .bool v] (rdC s b) (TextR v s b))
    (hSort : ∀ l : List Attr, l.length ≤ B → RowC P G f_slices_SortStableFunc_Attr_Attr [.sl (.par 0) 2 0 l.length, .fn f_mark_reader_attrs_1 [] []] 2 (ivA l) fun x ys => ∃ zs : List Attr, ys = ivA zs ∧ zs.Perm l ∧ (l.length ≤ 20 → zs = sortA l))
    (s : Bs) (hs : s.length ≤ B) (b : Bool) :
    MutC P G f_mark_reader_attrs [.ptr (.par 0) 2 0 0] (rdC s b) (AttrsR s b) := by
  refine mut_of_go hF (by simp) (by simp [lbss, AV.lbs]) (by simp [lbss, AV.lbs]) ?_
  have hBv : B = 1073741824 := rfl
  unfold c_mark_reader_attrs
  simp only [↓aX, evp, evq, evl, boxK, stillV, binV, AV.cells, mP, loadV, storeV, ldV, AV.stb, AV.one, IV.av1, Lb.app, Lb.fresh, reduceCtorEq, ptrL, appL, fillA, chunks, ivs, AV.iv, mkE, if_false, if_true, List.not_mem_nil, forall_eq, beq_self_eq_true, List.isEmpty_nil, Nat.reduceEqDiff, Nat.reduceLT, Nat.reduceLeDiff, Nat.reduceAdd, Nat.reduceMul, Int.reduceToNat, Int.reduceLE, Int.reduceLT, row1]
  refine loop_entry (σ := { q : Bs × List Attr × Bool // AttrI s b q }) (fun _ => [.par 0, .loc 3]) (fun _ _ => false)
    (fun q => [(0, .ptr (.par 0) 2 0 0), (3, .sl (.loc 3) 2 0 q.1.2.1.length)])
    (fun q => [(.par 0, ⟨2, [rdC q.1.1 q.1.2.2]⟩), (.loc 3, ⟨2, immE (ivA q.1.2.1)⟩)]) (fun q => q.1.1.length) ⟨(s, [], b), by simp [wtA], fun h => h, fun h => ?_⟩ (fun _ => rfl) (fun q => by simp [lbss, AV.lbs]) ?_ ⟨[], ?_⟩ ?_
  · simp only [h, Bool.false_eq_true, if_false]
    cases attrsF s <;> simp
  · intro q w hw cs hcs2 z hz
    simp only [List.mem_cons, List.not_mem_nil, or_false] at hw
    rcases hw with rfl | rfl
    · simp only [List.mem_singleton] at hcs2; subst hcs2; simp [lbss, AV.lbs] at hz
    · rw [lbss_immE hcs2] at hz; simp at hz
  · refine ⟨?_, ?_, ?_, by simp [rnF], by simp [rnF]⟩
    · intro l hf hu
      left
      cases l <;> simp [Lb.entry] at hf
      rename_i n
      by_cases e : n = 0
      · subst e; simp
      · exfalso; apply hu; simp [upd_at, Hp.none, e]
    · simp [EqL, rnF, ren, put, argE]
    · simp [RwL, rnF, upd_at, renR, rens, ren, ivA, immE]
  · rintro ⟨⟨r, l, bad⟩, hlen, hb1, hb2⟩
    simp only at hlen hb1 hb2
    have hll := wtA_len l
    have hU : ∀ d, d ≠ 3 → ofU (fun _ => false) [(Lb.par 0, ⟨2, [rdC r bad]⟩), (Lb.loc 3, ⟨2, immE (ivA l)⟩)] (.loc d) = .unused := fun d hd => by rw [ofU_at (by simp [hd])]; rfl
    have hUp : ∀ d, d ≠ 0 → ofU (fun _ => false) [(Lb.par 0, ⟨2, [rdC r bad]⟩), (Lb.loc 3, ⟨2, immE (ivA l)⟩)] (.par d) = .unused := fun d hd => by rw [ofU_at (by simp [hd])]; rfl
    have hL0 : ofU (fun _ => false) [(Lb.par 0, ⟨2, [rdC r bad]⟩), (Lb.loc 3, ⟨2, immE (ivA l)⟩)] (.par 0) = .live ⟨2, [rdC r bad]⟩ := ofU_live.2 (by simp [ofH, upd_at])
    have hL3 : ofU (fun _ => false) [(Lb.par 0, ⟨2, [rdC r bad]⟩), (Lb.loc 3, ⟨2, immE (ivA l)⟩)] (.loc 3) = .live ⟨2, immE (ivA l)⟩ := ofU_live.2 (by simp [ofH, upd_at])
    simp only
    generalize ofU (fun _ => false) [(Lb.par 0, ⟨2, [rdC r bad]⟩), (Lb.loc 3, ⟨2, immE (ivA l)⟩)] = H0 at *
    simp only [↓aX, evp, evq, evl, boxK, stillV, binV, AV.cells, mP, loadV, storeV, ldV, AV.stb, AV.one, IV.av1, Lb.app, Lb.fresh, reduceCtorEq, ptrL, appL, fillA, chunks, ivs, AV.iv, mkE, if_false, if_true, List.not_mem_nil, forall_eq, beq_self_eq_true, List.isEmpty_nil, Nat.reduceEqDiff, Nat.reduceLT, Nat.reduceLeDiff, Nat.reduceAdd, Nat.reduceMul, Int.reduceToNat, Int.reduceLE, Int.reduceLT]
    refine callT_mut (l := .par 0) (hSp r bad (by omega)) (by simp [rens, ren, atL]) (by simp [hL0]) ?_
    rintro x1 cs' ⟨rfl, rfl⟩ _ _ _
    obtain ⟨r1, hr1⟩ : ∃ r1, r1 = r.dropWhile isSp := ⟨_, rfl⟩
    have hr1l : r1.length ≤ r.length := by rw [hr1]; exact dropW_le _ _
    rw [← hr1]
    simp only [↓aX, evp, evq, evl, boxK, stillV, binV, AV.cells, mP, loadV, storeV, ldV, AV.stb, AV.one, IV.av1, Lb.app, Lb.fresh, reduceCtorEq, ptrL, appL, fillA, chunks, ivs, AV.iv, mkE, if_false, if_true, List.not_mem_nil, forall_eq, beq_self_eq_true, List.isEmpty_nil, Nat.reduceEqDiff, Nat.reduceLT, Nat.reduceLeDiff, Nat.reduceAdd, Nat.reduceMul, Int.reduceToNat, Int.reduceLE, Int.reduceLT]
    -- THE REST
    have fin : ∀ (zs : List Attr), zs.Perm l → (l.length ≤ 20 → zs = sortA l) → (bad = false → attrsF r = some ([], r1)) → AttrsR s b (.list (ivA zs)) (rdC r1 bad) := by
      intro zs h1 h2 h4
      refine ⟨zs, r1, bad, rfl, rfl, by rw [wtA_perm h1]; omega, hb1, fun hb => ?_⟩
      have h5 := hb2 hb
      cases bad with
      | true => simp only [if_true] at h5; rw [h5]
      | false =>
        simp only [Bool.false_eq_true, if_false, h4 rfl, Option.map_some, List.append_nil] at h5
        rw [h5]
        exact ⟨rfl, rfl, h1.length_eq, h2⟩
    have hgo : ∀ B' : Bool, goAttr r r1 = B' → attrsF r = if B' then (match attr1 r1 with | some (a, q) => (attrsF q).map fun x => (a :: x.1, x.2) | none => none) else some ([], r1) := by
      intro B' h
      rw [attrsF, ← hr1, h]
      split
      · split <;> simp_all
      · rfl
    cases hsp : decide (r1.length < r.length) with
    | false =>
      simp only [↓aX, evp, evq, evl, boxK, stillV, binV, AV.cells, mP, loadV, storeV, ldV, AV.stb, AV.one, IV.av1, Lb.app, Lb.fresh, reduceCtorEq, ptrL, appL, fillA, chunks, ivs, AV.iv, mkE, if_false, if_true, List.not_mem_nil, forall_eq, beq_self_eq_true, List.isEmpty_nil, Nat.reduceEqDiff, Nat.reduceLT, Nat.reduceLeDiff, Nat.reduceAdd, Nat.reduceMul, Int.reduceToNat, Int.reduceLE, Int.reduceLT]
      refine callT_row (l := .loc 3) (hSort l (by omega)) (by simp [rens, ren, atL]) (by simp [upd_at, hL3]) ?_
      rintro x1 ys ⟨zs, rfl, hz1, hz2⟩ _ _
      simp only [↓aX, evp, evq, evl, boxK, stillV, binV, AV.cells, mP, loadV, storeV, ldV, AV.stb, AV.one, IV.av1, Lb.app, Lb.fresh, reduceCtorEq, ptrL, appL, fillA, chunks, ivs, AV.iv, mkE, if_false, if_true, List.not_mem_nil, forall_eq, beq_self_eq_true, List.isEmpty_nil, Nat.reduceEqDiff, Nat.reduceLT, Nat.reduceLeDiff, Nat.reduceAdd, Nat.reduceMul, Int.reduceToNat, Int.reduceLE, Int.reduceLT]
      refine ⟨2, ivA zs, 0, l.length, rfl, by simp [upd_at], by rw [ivA_len, hz1.length_eq]; omega, flatA zs, ?_⟩
      rw [List.drop_zero, List.take_of_length_le (by rw [ivA_len, hz1.length_eq]; exact Nat.le_refl _)]
      exact ⟨_, fin zs hz1 hz2 (fun _ => by rw [hgo false (by unfold goAttr; rw [hsp]; rfl)]; rfl), rfl, by simp [lbss, AV.lbs], rfl, by simp [upd_at]⟩
    | true =>
    simp only [↓aX, evp, evq, evl, boxK, stillV, binV, AV.cells, mP, loadV, storeV, ldV, AV.stb, AV.one, IV.av1, Lb.app, Lb.fresh, reduceCtorEq, ptrL, appL, fillA, chunks, ivs, AV.iv, mkE, if_false, if_true, List.not_mem_nil, forall_eq, beq_self_eq_true, List.isEmpty_nil, Nat.reduceEqDiff, Nat.reduceLT, Nat.reduceLeDiff, Nat.reduceAdd, Nat.reduceMul, Int.reduceToNat, Int.reduceLE, Int.reduceLT, Bool.not_true, Bool.not_false]
    cases bad with
    | true =>
      simp only [↓aX, evp, evq, evl, boxK, stillV, binV, AV.cells, mP, loadV, storeV, ldV, AV.stb, AV.one, IV.av1, Lb.app, Lb.fresh, reduceCtorEq, ptrL, appL, fillA, chunks, ivs, AV.iv, mkE, if_false, if_true, List.not_mem_nil, forall_eq, beq_self_eq_true, List.isEmpty_nil, Nat.reduceEqDiff, Nat.reduceLT, Nat.reduceLeDiff, Nat.reduceAdd, Nat.reduceMul, Int.reduceToNat, Int.reduceLE, Int.reduceLT, Bool.not_true, Bool.not_false]
      refine callT_row (l := .loc 3) (hSort l (by omega)) (by simp [rens, ren, atL]) (by simp [upd_at, hL3]) ?_
      rintro x1 ys ⟨zs, rfl, hz1, hz2⟩ _ _
      simp only [↓aX, evp, evq, evl, boxK, stillV, binV, AV.cells, mP, loadV, storeV, ldV, AV.stb, AV.one, IV.av1, Lb.app, Lb.fresh, reduceCtorEq, ptrL, appL, fillA, chunks, ivs, AV.iv, mkE, if_false, if_true, List.not_mem_nil, forall_eq, beq_self_eq_true, List.isEmpty_nil, Nat.reduceEqDiff, Nat.reduceLT, Nat.reduceLeDiff, Nat.reduceAdd, Nat.reduceMul, Int.reduceToNat, Int.reduceLE, Int.reduceLT]
      refine ⟨2, ivA zs, 0, l.length, rfl, by simp [upd_at], by rw [ivA_len, hz1.length_eq]; omega, flatA zs, ?_⟩
      rw [List.drop_zero, List.take_of_length_le (by rw [ivA_len, hz1.length_eq]; exact Nat.le_refl _)]
      exact ⟨_, fin zs hz1 hz2 (fun h => by cases h), rfl, by simp [lbss, AV.lbs], rfl, by simp [upd_at]⟩
    | false =>
    have hbf : b = false := by cases b with | true => exact absurd (hb1 rfl) (by simp) | false => rfl
    have hsem := hb2 hbf
    simp only [Bool.false_eq_true, if_false] at hsem
    simp only [↓aX, evp, evq, evl, boxK, stillV, binV, AV.cells, mP, loadV, storeV, ldV, AV.stb, AV.one, IV.av1, Lb.app, Lb.fresh, reduceCtorEq, ptrL, appL, fillA, chunks, ivs, AV.iv, mkE, if_false, if_true, List.not_mem_nil, forall_eq, beq_self_eq_true, List.isEmpty_nil, Nat.reduceEqDiff, Nat.reduceLT, Nat.reduceLeDiff, Nat.reduceAdd, Nat.reduceMul, Int.reduceToNat, Int.reduceLE, Int.reduceLT, Bool.not_true, Bool.not_false]
    clear hb2
    match r1, hr1, hr1l, hsp, hgo, fin with
    | [], hr1, hr1l, hsp, hgo, fin =>
      simp only [↓aX, evp, evq, evl, boxK, stillV, binV, AV.cells, mP, loadV, storeV, ldV, AV.stb, AV.one, IV.av1, Lb.app, Lb.fresh, reduceCtorEq, ptrL, appL, fillA, chunks, ivs, AV.iv, mkE, if_false, if_true, List.not_mem_nil, forall_eq, beq_self_eq_true, List.isEmpty_nil, Nat.reduceEqDiff, Nat.reduceLT, Nat.reduceLeDiff, Nat.reduceAdd, Nat.reduceMul, Int.reduceToNat, Int.reduceLE, Int.reduceLT, show ((([] : Bs) != []) = false) from rfl, show (([] : Bs) == []) = true from rfl, Bool.not_true]
      refine callT_row (l := .loc 3) (hSort l (by omega)) (by simp [rens, ren, atL]) (by simp [upd_at, hL3]) ?_
      rintro x1 ys ⟨zs, rfl, hz1, hz2⟩ _ _
      simp only [↓aX, evp, evq, evl, boxK, stillV, binV, AV.cells, mP, loadV, storeV, ldV, AV.stb, AV.one, IV.av1, Lb.app, Lb.fresh, reduceCtorEq, ptrL, appL, fillA, chunks, ivs, AV.iv, mkE, if_false, if_true, List.not_mem_nil, forall_eq, beq_self_eq_true, List.isEmpty_nil, Nat.reduceEqDiff, Nat.reduceLT, Nat.reduceLeDiff, Nat.reduceAdd, Nat.reduceMul, Int.reduceToNat, Int.reduceLE, Int.reduceLT]
      refine ⟨2, ivA zs, 0, l.length, rfl, by simp [upd_at], by rw [ivA_len, hz1.length_eq]; omega, flatA zs, ?_⟩
      rw [List.drop_zero, List.take_of_length_le (by rw [ivA_len, hz1.length_eq]; exact Nat.le_refl _)]
      exact ⟨_, fin zs hz1 hz2 (fun _ => by rw [hgo false (by unfold goAttr; rw [hsp]; rfl)]; rfl), rfl, by simp [lbss, AV.lbs], rfl, by simp [upd_at]⟩
    | c :: q, hr1, hr1l, hsp, hgo, fin =>
      have c62 : ((c.toNat : Int) == 62) = (c == 62) := cI c 62 (by decide)
      have c47 : ((c.toNat : Int) == 47) = (c == 47) := cI c 47 (by decide)
      simp only [↓aX, evp, evq, evl, boxK, stillV, binV, AV.cells, mP, loadV, storeV, ldV, AV.stb, AV.one, IV.av1, Lb.app, Lb.fresh, reduceCtorEq, ptrL, appL, fillA, chunks, ivs, AV.iv, mkE, if_false, if_true, List.not_mem_nil, forall_eq, beq_self_eq_true, List.isEmpty_nil, Nat.reduceEqDiff, Nat.reduceLT, Nat.reduceLeDiff, Nat.reduceAdd, Nat.reduceMul, Int.reduceToNat, Int.reduceLE, Int.reduceLT, show ((c :: q : Bs) == []) = false from rfl, Bool.not_false, show ((0 : Int)).toNat = 0 from rfl, List.getElem?_cons_zero, bne, c62]
      cases h62 : (c == 62) with
      | true =>
        simp only [↓aX, evp, evq, evl, boxK, stillV, binV, AV.cells, mP, loadV, storeV, ldV, AV.stb, AV.one, IV.av1, Lb.app, Lb.fresh, reduceCtorEq, ptrL, appL, fillA, chunks, ivs, AV.iv, mkE, if_false, if_true, List.not_mem_nil, forall_eq, beq_self_eq_true, List.isEmpty_nil, Nat.reduceEqDiff, Nat.reduceLT, Nat.reduceLeDiff, Nat.reduceAdd, Nat.reduceMul, Int.reduceToNat, Int.reduceLE, Int.reduceLT, Bool.not_true]
        refine callT_row (l := .loc 3) (hSort l (by omega)) (by simp [rens, ren, atL]) (by simp [upd_at, hL3]) ?_
        rintro x1 ys ⟨zs, rfl, hz1, hz2⟩ _ _
        simp only [↓aX, evp, evq, evl, boxK, stillV, binV, AV.cells, mP, loadV, storeV, ldV, AV.stb, AV.one, IV.av1, Lb.app, Lb.fresh, reduceCtorEq, ptrL, appL, fillA, chunks, ivs, AV.iv, mkE, if_false, if_true, List.not_mem_nil, forall_eq, beq_self_eq_true, List.isEmpty_nil, Nat.reduceEqDiff, Nat.reduceLT, Nat.reduceLeDiff, Nat.reduceAdd, Nat.reduceMul, Int.reduceToNat, Int.reduceLE, Int.reduceLT]
        refine ⟨2, ivA zs, 0, l.length, rfl, by simp [upd_at], by rw [ivA_len, hz1.length_eq]; omega, flatA zs, ?_⟩
        rw [List.drop_zero, List.take_of_length_le (by rw [ivA_len, hz1.length_eq]; exact Nat.le_refl _)]
        exact ⟨_, fin zs hz1 hz2 (fun _ => by rw [hgo false (by unfold goAttr; simp [h62])]; rfl), rfl, by simp [lbss, AV.lbs], rfl, by simp [upd_at]⟩
      | false =>
      simp only [↓aX, evp, evq, evl, boxK, stillV, binV, AV.cells, mP, loadV, storeV, ldV, AV.stb, AV.one, IV.av1, Lb.app, Lb.fresh, reduceCtorEq, ptrL, appL, fillA, chunks, ivs, AV.iv, mkE, if_false, if_true, List.not_mem_nil, forall_eq, beq_self_eq_true, List.isEmpty_nil, Nat.reduceEqDiff, Nat.reduceLT, Nat.reduceLeDiff, Nat.reduceAdd, Nat.reduceMul, Int.reduceToNat, Int.reduceLE, Int.reduceLT, Bool.not_false, show ((0 : Int)).toNat = 0 from rfl, List.getElem?_cons_zero, bne, c47]
      cases h47 : (c == 47) with
      | true =>
        simp only [↓aX, evp, evq, evl, boxK, stillV, binV, AV.cells, mP, loadV, storeV, ldV, AV.stb, AV.one, IV.av1, Lb.app, Lb.fresh, reduceCtorEq, ptrL, appL, fillA, chunks, ivs, AV.iv, mkE, if_false, if_true, List.not_mem_nil, forall_eq, beq_self_eq_true, List.isEmpty_nil, Nat.reduceEqDiff, Nat.reduceLT, Nat.reduceLeDiff, Nat.reduceAdd, Nat.reduceMul, Int.reduceToNat, Int.reduceLE, Int.reduceLT, Bool.not_true]
        refine callT_row (l := .loc 3) (hSort l (by omega)) (by simp [rens, ren, atL]) (by simp [upd_at, hL3]) ?_
        rintro x1 ys ⟨zs, rfl, hz1, hz2⟩ _ _
        simp only [↓aX, evp, evq, evl, boxK, stillV, binV, AV.cells, mP, loadV, storeV, ldV, AV.stb, AV.one, IV.av1, Lb.app, Lb.fresh, reduceCtorEq, ptrL, appL, fillA, chunks, ivs, AV.iv, mkE, if_false, if_true, List.not_mem_nil, forall_eq, beq_self_eq_true, List.isEmpty_nil, Nat.reduceEqDiff, Nat.reduceLT, Nat.reduceLeDiff, Nat.reduceAdd, Nat.reduceMul, Int.reduceToNat, Int.reduceLE, Int.reduceLT]
        refine ⟨2, ivA zs, 0, l.length, rfl, by simp [upd_at], by rw [ivA_len, hz1.length_eq]; omega, flatA zs, ?_⟩
        rw [List.drop_zero, List.take_of_length_le (by rw [ivA_len, hz1.length_eq]; exact Nat.le_refl _)]
        exact ⟨_, fin zs hz1 hz2 (fun _ => by rw [hgo false (by unfold goAttr; simp [h62, h47])]; rfl), rfl, by simp [lbss, AV.lbs], rfl, by simp [upd_at]⟩
      | false =>
      simp only [↓aX, evp, evq, evl, boxK, stillV, binV, AV.cells, mP, loadV, storeV, ldV, AV.stb, AV.one, IV.av1, Lb.app, Lb.fresh, reduceCtorEq, ptrL, appL, fillA, chunks, ivs, AV.iv, mkE, if_false, if_true, List.not_mem_nil, forall_eq, beq_self_eq_true, List.isEmpty_nil, Nat.reduceEqDiff, Nat.reduceLT, Nat.reduceLeDiff, Nat.reduceAdd, Nat.reduceMul, Int.reduceToNat, Int.reduceLE, Int.reduceLT, Bool.not_false]
      have hgoT := hgo true (by unfold goAttr; simp only [hsp, h62, h47]; rfl)
      simp only [if_true] at hgoT
      have hsp' : (c :: q).length < r.length := by simpa using hsp
      generalize c :: q = r1 at *
      refine callT_mut (l := .par 0) (hN r1 false (by omega)) (by simp [rens, ren, atL]) (by simp [upd_at]) ?_
      rintro x1 cs' ⟨rfl, rfl⟩ _ _ _
      have hn1 := takeDrop_len isLow r1
      have hnf := nameF_eq r1
      rw [Bool.false_or]
      generalize r1.takeWhile isLow = nm at *
      generalize r1.dropWhile isLow = r2 at *
      generalize (decide (nm = []) || decide (8 < nm.length)) = bad2 at *
      simp only [↓aX, evp, evq, evl, boxK, stillV, binV, AV.cells, mP, loadV, storeV, ldV, AV.stb, AV.one, IV.av1, Lb.app, Lb.fresh, reduceCtorEq, ptrL, appL, fillA, chunks, ivs, AV.iv, mkE, if_false, if_true, List.not_mem_nil, forall_eq, beq_self_eq_true, List.isEmpty_nil, Nat.reduceEqDiff, Nat.reduceLT, Nat.reduceLeDiff, Nat.reduceAdd, Nat.reduceMul, Int.reduceToNat, Int.reduceLE, Int.reduceLT]
      refine ⟨by simp [upd_at, hU 4 (by decide)], ?_⟩
      refine callT_mut (l := .par 0) (hTk r2 [61, 34] bad2) (by simp [rens, ren, atL]) (by simp [upd_at]) ?_
      rintro x1 cs' rfl _ _ _
      have hc1 := cutP1_le [61, 34] r2
      have ht1 := takeF_cut [61, 34] r2
      generalize List.isPrefixOf [61, 34] r2 = pf1 at *
      generalize cutP1 [61, 34] r2 = r3 at *
      simp only [↓aX, evp, evq, evl, boxK, stillV, binV, AV.cells, mP, loadV, storeV, ldV, AV.stb, AV.one, IV.av1, Lb.app, Lb.fresh, reduceCtorEq, ptrL, appL, fillA, chunks, ivs, AV.iv, mkE, if_false, if_true, List.not_mem_nil, forall_eq, beq_self_eq_true, List.isEmpty_nil, Nat.reduceEqDiff, Nat.reduceLT, Nat.reduceLeDiff, Nat.reduceAdd, Nat.reduceMul, Int.reduceToNat, Int.reduceLE, Int.reduceLT]
      refine callT_mut (l := .par 0) (hT true r3 (bad2 || !pf1) (by omega)) (by simp [rens, ren, atL]) (by simp [upd_at]) ?_
      rintro x1 cs' ⟨t, r4, b4, rfl, rfl, hl4, hb4, hs4⟩ _ _ _
      simp only [↓aX, evp, evq, evl, boxK, stillV, binV, AV.cells, mP, loadV, storeV, ldV, AV.stb, AV.one, IV.av1, Lb.app, Lb.fresh, reduceCtorEq, ptrL, appL, fillA, chunks, ivs, AV.iv, mkE, if_false, if_true, List.not_mem_nil, forall_eq, beq_self_eq_true, List.isEmpty_nil, Nat.reduceEqDiff, Nat.reduceLT, Nat.reduceLeDiff, Nat.reduceAdd, Nat.reduceMul, Int.reduceToNat, Int.reduceLE, Int.reduceLT]
      refine callT_mut (l := .par 0) (hTk r4 [34] b4) (by simp [rens, ren, atL]) (by simp [upd_at]) ?_
      rintro x1 cs' rfl _ _ _
      have hc2 := cutP1_le [34] r4
      have ht2 := takeF_cut [34] r4
      generalize List.isPrefixOf [34] r4 = pf2 at *
      generalize cutP1 [34] r4 = r5 at *
      simp only [↓aX, evp, evq, evl, boxK, stillV, binV, AV.cells, mP, loadV, storeV, ldV, AV.stb, AV.one, IV.av1, Lb.app, Lb.fresh, reduceCtorEq, ptrL, appL, fillA, chunks, ivs, AV.iv, mkE, if_false, if_true, List.not_mem_nil, forall_eq, beq_self_eq_true, List.isEmpty_nil, Nat.reduceEqDiff, Nat.reduceLT, Nat.reduceLeDiff, Nat.reduceAdd, Nat.reduceMul, Int.reduceToNat, Int.reduceLE, Int.reduceLT]
      rw [app_loc 2 32 50 3 (ivA l) (.agg [.str nm, .str t]) (by simp [upd_at, hL3]) (ivA_len l) rfl (by intro z hz cs; simp only [IV.cells, List.mem_cons, List.not_mem_nil, or_false] at hz; rcases hz with rfl | rfl <;> simp) (by omega) (by decide) (by decide) (by simp [upd_at, hU 50 (by decide)])]
      simp only [↓aX, evp, evq, evl, boxK, stillV, binV, AV.cells, mP, loadV, storeV, ldV, AV.stb, AV.one, IV.av1, Lb.app, Lb.fresh, reduceCtorEq, ptrL, appL, fillA, chunks, ivs, AV.iv, mkE, if_false, if_true, List.not_mem_nil, forall_eq, beq_self_eq_true, List.isEmpty_nil, Nat.reduceEqDiff, Nat.reduceLT, Nat.reduceLeDiff, Nat.reduceAdd, Nat.reduceMul, Int.reduceToNat, Int.reduceLE, Int.reduceLT]
      have hattr : if b4 || !pf2 then attr1 r1 = none else attr1 r1 = some (⟨nm, t⟩, r5) := by
        unfold attr1
        rw [hnf]
        cases bad2 with
        | true => rw [hb4 rfl]; rfl
        | false =>
          simp only [Bool.false_eq_true, if_false, Option.bind_some]
          rw [ht1]
          cases pf1 with
          | false => rw [hb4 rfl]; rfl
          | true =>
            simp only [if_true, Option.bind_some]
            have h4 := hs4 rfl
            cases htf : textF true r3 with
            | none =>
              rw [htf] at h4
              simp only at h4
              rw [h4]; rfl
            | some y =>
              rw [htf] at h4
              obtain ⟨rfl, rfl⟩ := h4
              simp only [Option.bind_some]
              rw [ht2]
              cases pf2 <;> rfl
      refine ⟨⟨(r5, l ++ [⟨nm, t⟩], b4 || !pf2), ?_, fun (h : b = true) => (by rw [hbf] at h; cases h), fun _ => ?_⟩, by simp only; omega, [(.loc 3, .loc 50)], ?_, ?_, ?_, by simp [rnF], ?_⟩
      · simp only [wtA_app, wtA, Attr.wt]; omega
      · simp only
        rw [hsem, hgoT]
        cases hbb : (b4 || !pf2) with
        | true => rw [hbb] at hattr; simp only [if_true] at hattr ⊢; rw [hattr]; rfl
        | false =>
          rw [hbb] at hattr
          simp only [Bool.false_eq_true, if_false] at hattr ⊢
          rw [hattr]
          simp only
          cases attrsF r5 with
          | none => rfl
          | some y => simp only [Option.map_some, List.append_assoc, List.singleton_append]
      · intro z hf hu
        left
        cases z <;> simp [Lb.entry] at hf
        rename_i n
        by_cases e0 : n = 0
        · subst e0; simp
        · exfalso; apply hu; simp [upd_at, e0, hUp n e0]
      · simp [EqL, ren, rnF, put]
      · refine ⟨by simp [rnF, renR, rens, ren, upd_at], by simp [rnF, renR_immE, upd_at, ivA]; rfl, trivial⟩
      · intro z hz
        simp only [List.mem_cons, List.not_mem_nil, or_false] at hz
        rcases hz with rfl | rfl
        · simp [rnF]
        · simp [rnF, Lb.fresh, Lb.entry]
end
end Go.Am

/- Reading: elements and what is in them. -/
set_option pp.deepTerms false
set_option pp.deepTerms.threshold 5
namespace Go.Am
open Go Go.RowKit
/-- What is handed back may hold nil slices. -/
theorem mut_of_goN {P : Program} {G : Nat → Option (List IV)} {f : Nat} {n : Nat} {rs : List RO} {ac : AC} {args cs : List AV} {R : AV → List AV → Prop}
    (hF : compF P G f = some (n, rs, ac.bare)) (hn : args.length ≤ n) (ha : ∀ l ∈ lbss args, l = .par 0) (hc : lbss cs = [])
    (hg : go ⟨P, G, n⟩ (RetP rs fun x H' => ∃ cs', R (norm x) cs' ∧ x.lbs = [] ∧ lbss cs' = [] ∧ cs'.length = cs.length ∧ H' (.par 0) = .live ⟨cs.length, [cs']⟩) [.code ac] (argE args) (row1 cs)) : MutC P G f args cs R := by
  have h := mut_of_go (R := fun x c => R (norm x) c) hF hn ha hc hg
  refine ⟨h.1, h.2.1, h.2.2.res.mono ?_⟩
  rintro x H ⟨y, ⟨cs', h1, h2, h3⟩, rfl⟩
  exact ⟨cs', h1, by rw [norm_lbs]; exact h2, h3⟩
theorem far_mut {S : St} {F : List Lb} {f : Nat} {args cargs : List AV} {cs : List AV} {R : AV → List AV → Prop} {H : Hp} {k : AV → Hp → Prop} {u : Tw k} {l : Lb} (h : MutC S.P S.G f cargs cs R)
    (ha : args = rens (atL l) cargs) (hl : H l = .live ⟨cs.length, [cs]⟩) (hF : l.fam ∉ F) {x0 : AV} {cs0 : List AV} (h0 : R x0 cs0) (h1 : x0.lbs = []) (h2 : lbss cs0 = []) (h3 : cs0.length = cs.length)
    (hk : ∀ x cs', R x cs' → x.lbs = [] → lbss cs' = [] → cs'.length = cs.length → k x (upd H l (.live ⟨cs.length, [cs']⟩))) : farK S F f args H k u := by
  refine ⟨fun x H' => ∃ cs', R x cs' ∧ x.lbs = [] ∧ lbss cs' = [] ∧ cs'.length = cs.length ∧ H' = upd H l (.live ⟨cs.length, [cs']⟩), ?_, ⟨x0, _, cs0, h0, h1, h2, h3, rfl⟩, ?_⟩
  · exact callT_mut (k := fun x H' => ∃ cs', R x cs' ∧ x.lbs = [] ∧ lbss cs' = [] ∧ cs'.length = cs.length ∧ H' = upd H l (.live ⟨cs.length, [cs']⟩)) (u := .mk) h ha hl (fun x cs' g1 g2 g3 g4 => ⟨cs', g1, g2, g3, g4, rfl⟩)
  · rintro x H' ⟨cs', g1, g2, g3, g4, rfl⟩
    refine ⟨fun q hq => ?_, hk x cs' g1 g2 g3 g4⟩
    rw [upd_ne _ _ (fun e => hF (by rw [e] at hq; exact hq))]
theorem insA_len (l : List Attr) (a : Attr) : (insA l a).length = l.length + 1 := by
  induction l with
  | nil => rfl
  | cons b r ih =>
    unfold insA
    split
    · rfl
    · simp [ih]
theorem sortA_len (l : List Attr) : (sortA l).length = l.length := by
  have key : ∀ (l acc : List Attr), (l.foldl insA acc).length = acc.length + l.length := by
    intro l
    induction l with
    | nil => intro acc; rfl
    | cons a r ih => intro acc; simp only [List.foldl_cons, ih, insA_len, List.length_cons]; omega
  unfold sortA
  rw [key]; simp
mutual
/-- Is there an element with more attributes than are sorted one by one? -/
def Tree.big : Tree → Bool
  | .mk _ _ as ks => decide (20 < as.length) || bigs ks
def bigs : List Tree → Bool
  | [] => false
  | x :: r => x.big || bigs r
end
theorem bigs_app : ∀ l m : List Tree, bigs (l ++ m) = (bigs l || bigs m)
  | [], m => by simp [bigs]
  | x :: r, m => by simp [bigs, bigs_app r m, Bool.or_assoc]
def ElmR (d : Nat) (s : Bs) (b : Bool) (x : AV) (cs : List AV) : Prop := ∃ (t : Tree) (r : Bs) (b' : Bool), x = t.av ∧ cs = rdC r b' ∧ t.wt ≤ 3 * s.length + 2 ∧ r.length ≤ s.length ∧
  (∀ q, s = 60 :: q → t.wt + 3 * r.length ≤ 3 * s.length ∧ r.length < s.length) ∧ (b = true → b' = true) ∧
  (b = false → match elementF d s with
    | some y => b' = false ∧ r = y.2 ∧ (t = y.1 ∨ (t.big = true ∧ y.1.big = true))
    | none => b' = true)
def KidsR (d : Nat) (s : Bs) (b : Bool) (x : AV) (cs : List AV) : Prop := ∃ (l : List Tree) (r : Bs) (b' : Bool), x = .list (ivT l) ∧ cs = rdC r b' ∧ wtT l + 3 * r.length ≤ 3 * s.length + 1 ∧ (b = true → b' = true) ∧
  (b = false → match kidsF (elementF d) s with
    | some y => b' = false ∧ r = y.2 ∧ (l = y.1 ∨ (bigs l = true ∧ bigs y.1 = true))
    | none => b' = true)
section
variable {P : Program} {G : Nat → Option (List IV)}
def c_mark_reader_element (f_mark_reader_take f_mark_reader_name f_mark_reader_attrs f_mark_reader_at f_mark_reader_kids f_mark_reader_space : Nat) : AC :=
(.seq (.reg [⟨(some 4), none, (.new [(.bool false), (.str []), .nil0, .nil0])⟩]) (.seq (.reg [⟨(some 6), none, (.mov (.t 0))⟩, ⟨(some 7), none, (.call f_mark_reader_take [(.t 6), (.c (.str [60]))])⟩]) (.seq (.reg [⟨(some 8), none, (.mov (.t 0))⟩, ⟨(some 9), none, (.call f_mark_reader_name [(.t 8)])⟩, ⟨(some 10), none, (.bld [(.bool false), (.str []), .nil0, .nil0] [(1, (1, (.t 9)))])⟩, ⟨(some 5), none, (.new [(.bool false), (.str []), .nil0, .nil0])⟩, ⟨none, none, (.store 4 (.t 5) (.t 10))⟩]) (.seq (.reg [⟨(some 11), none, (.mov (.t 0))⟩, ⟨(some 12), none, (.call f_mark_reader_attrs [(.t 11)])⟩, ⟨(some 13), none, (.fld (.t 5) 2)⟩, ⟨none, none, (.store 1 (.t 13) (.t 12))⟩]) (.seq (.seq (.reg [⟨(some 14), none, (.mov (.t 0))⟩, ⟨(some 15), none, (.nchk (.t 14))⟩, ⟨(some 16), none, (.fld (.t 15) 1)⟩, ⟨(some 17), none, (.load none (.t 16))⟩, ⟨(some 18), none, (.mov (.t 17))⟩, ⟨(some 19), (some (18, false)), (.mov (.t 1))⟩, ⟨(some 20), (some (18, false)), (.bin .gtr (.t 19) (.c (.int .i64 8)))⟩, ⟨(some 21), none, (.pick (.t 18) (.c (.bool true)) (.t 20))⟩]) (.cond (.t 21) (.seq (.reg [⟨(some 22), none, (.mov (.t 0))⟩, ⟨(some 23), none, (.nchk (.t 22))⟩, ⟨(some 24), none, (.fld (.t 23) 1)⟩, ⟨none, none, (.store 1 (.t 24) (.c (.bool true)))⟩]) (.seq (.reg [⟨(some 25), none, (.load (some 4) (.t 5))⟩, ⟨none, none, (.store 4 (.t 4) (.t 25))⟩]) .ret)) .skip)) (.seq (.seq (.reg [⟨(some 26), none, (.mov (.t 0))⟩, ⟨(some 27), none, (.call f_mark_reader_at [(.t 26), (.c (.str [47, 62]))])⟩]) (.cond (.t 27) (.seq (.reg [⟨(some 28), none, (.load (some 4) (.t 5))⟩, ⟨none, none, (.store 4 (.t 4) (.t 28))⟩]) .ret) .skip)) (.seq (.reg [⟨(some 29), none, (.mov (.t 0))⟩, ⟨(some 30), none, (.call f_mark_reader_take [(.t 29), (.c (.str [62]))])⟩]) (.seq (.reg [⟨(some 31), none, (.mov (.t 0))⟩, ⟨(some 32), none, (.mov (.t 1))⟩, ⟨(some 33), none, (.bin .add (.t 32) (.c (.int .i64 1)))⟩, ⟨(some 34), none, (.call f_mark_reader_kids [(.t 31), (.t 33)])⟩, ⟨(some 35), none, (.fld (.t 5) 3)⟩, ⟨none, none, (.store 1 (.t 35) (.t 34))⟩]) (.seq (.reg [⟨(some 36), none, (.mov (.t 0))⟩, ⟨(some 37), none, (.call f_mark_reader_take [(.t 36), (.c (.str [60, 47]))])⟩]) (.seq (.seq (.dreg [⟨(some 38), none, (.mov (.t 0))⟩, ⟨(some 39), none, (.call f_mark_reader_name [(.t 38)])⟩, ⟨(some 40), none, (.fld (.t 5) 1)⟩, ⟨(some 41), none, (.load none (.t 40))⟩, ⟨(some 42), none, (.bin .neq (.t 39) (.t 41))⟩] [[], [0], [], [2], [1, 3]] [.no, (.far [(.loc 5)]), .no, .rw [.loc 5] [], .no]) (.cond (.t 42) (.reg [⟨(some 43), none, (.mov (.t 0))⟩, ⟨(some 44), none, (.nchk (.t 43))⟩, ⟨(some 45), none, (.fld (.t 44) 1)⟩, ⟨none, none, (.store 1 (.t 45) (.c (.bool true)))⟩]) .skip)) (.seq (.reg [⟨(some 46), none, (.mov (.t 0))⟩, ⟨(some 47), none, (.call f_mark_reader_space [(.t 46)])⟩]) (.seq (.reg [⟨(some 48), none, (.mov (.t 0))⟩, ⟨(some 49), none, (.call f_mark_reader_take [(.t 48), (.c (.str [62]))])⟩]) (.seq (.reg [⟨(some 50), none, (.load (some 4) (.t 5))⟩, ⟨none, none, (.store 4 (.t 4) (.t 50))⟩]) .ret)))))))))))))
theorem pRElem {f_mark_reader_element f_mark_reader_take f_mark_reader_name f_mark_reader_attrs f_mark_reader_at f_mark_reader_kids f_mark_reader_space : Nat} (hF : compF P G f_mark_reader_element = some (51, [((some (some 4)), 4)], (c_mark_reader_element f_mark_reader_take f_mark_reader_name f_mark_reader_attrs f_mark_reader_at f_mark_reader_kids f_mark_reader_space).bare))
    (hSp : ∀ (s : Bs) (b : Bool), s.length ≤ B → MutC P G f_mark_reader_space [.ptr (.par 0) 2 0 0] (rdC s b) fun x cs => x = .bool (decide ((s.dropWhile isSp).length < s.length)) ∧ cs = rdC (s.dropWhile isSp) b)
    (hN : ∀ (s : Bs) (b : Bool), s.length ≤ B → MutC P G f_mark_reader_name [.ptr (.par 0) 2 0 0] (rdC s b) fun x cs => x = .str (s.takeWhile isLow) ∧ cs = rdC (s.dropWhile isLow) (b || (decide (s.takeWhile isLow = []) || decide (8 < (s.takeWhile isLow).length))))
    (hTk : ∀ (s p : Bs) (b : Bool), MutC P G f_mark_reader_take [.ptr (.par 0) 2 0 0, .str p] (rdC s b) fun x cs => cs = rdC (cutP1 p s) (b || !p.isPrefixOf s))
    (hAt : ∀ (s p : Bs) (b : Bool), MutC P G f_mark_reader_at [.ptr (.par 0) 2 0 0, .str p] (rdC s b) fun x cs => x = .bool (p.isPrefixOf s) ∧ cs = rdC (cutP1 p s) b)
    (hA : ∀ (s : Bs) (b : Bool), s.length ≤ B → MutC P G f_mark_reader_attrs [.ptr (.par 0) 2 0 0] (rdC s b) (AttrsR s b))
    (d : Nat) (hd : d ≤ 9) (hK : ∀ d', d = d' + 1 → ∀ (s : Bs) (b : Bool), s.length ≤ B → MutC P G f_mark_reader_kids [.ptr (.par 0) 2 0 0, .int .i64 (9 - d' : Int)] (rdC s b) (KidsR d' s b))
    (s : Bs) (hs : s.length ≤ B) (b : Bool) :
    MutC P G f_mark_reader_element [.ptr (.par 0) 2 0 0, .int .i64 (9 - d : Int)] (rdC s b) (ElmR d s b) := by
  refine mut_of_goN hF (by simp) (by simp [lbss, AV.lbs]) (by simp [lbss, AV.lbs]) ?_
  have hBv : B = 1073741824 := rfl
  unfold c_mark_reader_element
  simp only [↓aX, evp, evq, evl, boxK, stillV, binV, AV.cells, mP, loadV, storeV, ldV, AV.stb, AV.one, IV.av1, Lb.app, Lb.fresh, reduceCtorEq, ptrL, appL, fillA, chunks, ivs, AV.iv, mkE, if_false, if_true, List.not_mem_nil, forall_eq, beq_self_eq_true, List.isEmpty_nil, Nat.reduceEqDiff, Nat.reduceLT, Nat.reduceLeDiff, Nat.reduceAdd, Nat.reduceMul, Int.reduceToNat, Int.reduceLE, Int.reduceLT, row1]
  refine callT_mut (l := .par 0) (hTk s [60] b) (by simp [rens, ren, atL]) (by simp [upd_at]) ?_
  rintro x1 cs' rfl _ _ _
  have hc1 := cutP1_le [60] s
  have hc1' : ∀ q, s = 60 :: q → cutP1 [60] s = q := by rintro q rfl; simp [cutP1, List.isPrefixOf]
  have ht1 := takeF_cut [60] s
  generalize List.isPrefixOf [60] s = pf1 at *
  generalize cutP1 [60] s = r1 at *
  simp only [↓aX, evp, evq, evl, boxK, stillV, binV, AV.cells, mP, loadV, storeV, ldV, AV.stb, AV.one, IV.av1, Lb.app, Lb.fresh, reduceCtorEq, ptrL, appL, fillA, chunks, ivs, AV.iv, mkE, if_false, if_true, List.not_mem_nil, forall_eq, beq_self_eq_true, List.isEmpty_nil, Nat.reduceEqDiff, Nat.reduceLT, Nat.reduceLeDiff, Nat.reduceAdd, Nat.reduceMul, Int.reduceToNat, Int.reduceLE, Int.reduceLT]
  refine callT_mut (l := .par 0) (hN r1 (b || !pf1) (by omega)) (by simp [rens, ren, atL]) (by simp [upd_at]) ?_
  rintro x1 cs' ⟨rfl, rfl⟩ _ _ _
  have hn1 := takeDrop_len isLow r1
  have hnf := nameF_eq r1
  generalize r1.takeWhile isLow = nm at *
  generalize r1.dropWhile isLow = r2 at *
  generalize (decide (nm = []) || decide (8 < nm.length)) = bn at *
  simp only [↓aX, evp, evq, evl, boxK, stillV, binV, AV.cells, mP, loadV, storeV, ldV, AV.stb, AV.one, IV.av1, Lb.app, Lb.fresh, reduceCtorEq, ptrL, appL, fillA, chunks, ivs, AV.iv, mkE, if_false, if_true, List.not_mem_nil, forall_eq, beq_self_eq_true, List.isEmpty_nil, Nat.reduceEqDiff, Nat.reduceLT, Nat.reduceLeDiff, Nat.reduceAdd, Nat.reduceMul, Int.reduceToNat, Int.reduceLE, Int.reduceLT]
  refine callT_mut (l := .par 0) (hA r2 (b || !pf1 || bn) (by omega)) (by simp [rens, ren, atL]) (by simp [upd_at]) ?_
  rintro x1 cs' ⟨as, r3, b3, rfl, rfl, hl3, hb3, hs3⟩ _ _ _
  simp only [↓aX, evp, evq, evl, boxK, stillV, binV, AV.cells, mP, loadV, storeV, ldV, AV.stb, AV.one, IV.av1, Lb.app, Lb.fresh, reduceCtorEq, ptrL, appL, fillA, chunks, ivs, AV.iv, mkE, if_false, if_true, List.not_mem_nil, forall_eq, beq_self_eq_true, List.isEmpty_nil, Nat.reduceEqDiff, Nat.reduceLT, Nat.reduceLeDiff, Nat.reduceAdd, Nat.reduceMul, Int.reduceToNat, Int.reduceLE, Int.reduceLT]
  have hopen : b = false → if b3 then openF s = none else ∃ as0, openF s = some (nm, as0, r3) ∧ as.length = as0.length ∧ (as0.length ≤ 20 → as = sortA as0) := by
    intro hb
    unfold openF
    rw [ht1]
    cases pf1 with
    | false => rw [hb3 (by simp [hb])]; simp
    | true =>
      simp only [if_true, Option.bind_some, hnf]
      cases bn with
      | true => rw [hb3 (by simp)]; simp
      | false =>
        have h3 := hs3 (by simp [hb])
        cases haf : attrsF r2 with
        | none => rw [haf] at h3; simp only at h3; rw [h3]; simp [haf]
        | some y =>
          rw [haf] at h3
          obtain ⟨rfl, rfl, e3, e4⟩ := h3
          simp [haf]
          exact ⟨e3, e4⟩
  have hbb : b = true → b3 = true := fun h => hb3 (by simp [h])
  clear hs3 hb3
  have hlt : ∀ q, s = 60 :: q → nm.length + r2.length + 1 = s.length := by
    intro q hq
    rw [← hc1' q hq] at hq
    rw [hq]; simp; omega
  have stop : (b = false → elementF d s = none) → ElmR d s b (Tree.av (.mk false nm as [])) (rdC r3 true) := by
    intro h2
    refine ⟨_, r3, true, rfl, rfl, ?_, by omega, fun q hq => ?_, fun _ => rfl, fun hb => by rw [h2 hb]⟩
    · simp only [Tree.wt, wtT]; omega
    · have := hlt q hq
      simp only [Tree.wt, wtT]; omega
  have hel0 : elementF 0 s = none := rfl
  have helS : ∀ d', elementF (d' + 1) s = (openF s).bind fun x =>
    if [47, 62].isPrefixOf x.2.2 then some (.mk false x.1 (sortA x.2.1) [], x.2.2.drop 2)
    else (takeF [62] x.2.2).bind fun r => (kidsF (elementF d') r).bind fun y => (closeF x.1 y.2).map fun q => (.mk false x.1 (sortA x.2.1) y.1, q) := fun _ => rfl
  cases b3 with
  | true =>
    simp only [↓aX, evp, evq, evl, boxK, stillV, binV, AV.cells, mP, loadV, storeV, ldV, AV.stb, AV.one, IV.av1, Lb.app, Lb.fresh, reduceCtorEq, ptrL, appL, fillA, chunks, ivs, AV.iv, mkE, if_false, if_true, List.not_mem_nil, forall_eq, beq_self_eq_true, List.isEmpty_nil, Nat.reduceEqDiff, Nat.reduceLT, Nat.reduceLeDiff, Nat.reduceAdd, Nat.reduceMul, Int.reduceToNat, Int.reduceLE, Int.reduceLT, norm, norms, ret1m_r]
    exact ⟨_, stop (fun hb => by
      have h := hopen hb
      simp only [if_true] at h
      cases d with
      | zero => rfl
      | succ d => rw [helS, h]; rfl), by simp [AV.lbs, lbss], by simp [AV.lbs, lbss], rfl, by simp [upd_at]⟩
  | false =>
    simp only [↓aX, evp, evq, evl, boxK, stillV, binV, AV.cells, mP, loadV, storeV, ldV, AV.stb, AV.one, IV.av1, Lb.app, Lb.fresh, reduceCtorEq, ptrL, appL, fillA, chunks, ivs, AV.iv, mkE, if_false, if_true, List.not_mem_nil, forall_eq, beq_self_eq_true, List.isEmpty_nil, Nat.reduceEqDiff, Nat.reduceLT, Nat.reduceLeDiff, Nat.reduceAdd, Nat.reduceMul, Int.reduceToNat, Int.reduceLE, Int.reduceLT, Bool.not_false]
    cases d with
    | zero =>
      simp only [↓aX, evp, evq, evl, boxK, stillV, binV, AV.cells, mP, loadV, storeV, ldV, AV.stb, AV.one, IV.av1, Lb.app, Lb.fresh, reduceCtorEq, ptrL, appL, fillA, chunks, ivs, AV.iv, mkE, if_false, if_true, List.not_mem_nil, forall_eq, beq_self_eq_true, List.isEmpty_nil, Nat.reduceEqDiff, Nat.reduceLT, Nat.reduceLeDiff, Nat.reduceAdd, Nat.reduceMul, Int.reduceToNat, Int.reduceLE, Int.reduceLT, norm, norms, ret1m_r, show ((9 : Int) - ((0 : Nat) : Int) > 8) = True by simp, decide_true]
      exact ⟨_, stop (fun hb => rfl), by simp [AV.lbs, lbss], by simp [AV.lbs, lbss], rfl, by simp [upd_at]⟩
    | succ d =>
      have hK := hK d rfl
      have hw : IntKind.i64.wrap ((9 : Int) - ((d + 1 : Nat) : Int) + 1) = (9 : Int) - (d : Int) := by rw [wrap64 (by omega) (by omega)]; omega
      simp only [↓aX, evp, evq, evl, boxK, stillV, binV, AV.cells, mP, loadV, storeV, ldV, AV.stb, AV.one, IV.av1, Lb.app, Lb.fresh, reduceCtorEq, ptrL, appL, fillA, chunks, ivs, AV.iv, mkE, if_false, if_true, List.not_mem_nil, forall_eq, beq_self_eq_true, List.isEmpty_nil, Nat.reduceEqDiff, Nat.reduceLT, Nat.reduceLeDiff, Nat.reduceAdd, Nat.reduceMul, Int.reduceToNat, Int.reduceLE, Int.reduceLT, show ((9 : Int) - ((d + 1 : Nat) : Int) > 8) = False by simp; omega, decide_false]
      refine callT_mut (l := .par 0) (hAt r3 [47, 62] false) (by simp [rens, ren, atL]) (by simp [upd_at]) ?_
      rintro x1 cs' ⟨rfl, rfl⟩ _ _ _
      have hsem : ∀ as0, openF s = some (nm, as0, r3) → elementF (d + 1) s = if [47, 62].isPrefixOf r3 then some (.mk false nm (sortA as0) [], r3.drop 2)
          else (takeF [62] r3).bind fun r => (kidsF (elementF d) r).bind fun y => (closeF nm y.2).map fun q => (.mk false nm (sortA as0) y.1, q) := by
        intro as0 h; rw [helS, h]; rfl
      have hsame : ∀ as0 : List Attr, as.length = as0.length → (as0.length ≤ 20 → as = sortA as0) → ∀ ks : List Tree, (Tree.mk false nm as ks = .mk false nm (sortA as0) ks) ∨ (∀ k1 k2, (Tree.mk false nm as k1).big = true ∧ (Tree.mk false nm (sortA as0) k2).big = true) := by
        intro as0 h1 h2 ks
        by_cases h : as0.length ≤ 20
        · left; rw [h2 h]
        · right
          intro k1 k2
          have h3 : (sortA as0).length = as0.length := (sortA_len as0)
          simp only [Tree.big, Bool.or_eq_true, decide_eq_true_eq]
          omega
      cases hpf : [47, 62].isPrefixOf r3 with
      | true =>
        have hcut : cutP1 [47, 62] r3 = r3.drop 2 := by unfold cutP1; rw [hpf]; rfl
        rw [hcut]
        simp only [↓aX, evp, evq, evl, boxK, stillV, binV, AV.cells, mP, loadV, storeV, ldV, AV.stb, AV.one, IV.av1, Lb.app, Lb.fresh, reduceCtorEq, ptrL, appL, fillA, chunks, ivs, AV.iv, mkE, if_false, if_true, List.not_mem_nil, forall_eq, beq_self_eq_true, List.isEmpty_nil, Nat.reduceEqDiff, Nat.reduceLT, Nat.reduceLeDiff, Nat.reduceAdd, Nat.reduceMul, Int.reduceToNat, Int.reduceLE, Int.reduceLT, norm, norms, ret1m_r]
        refine ⟨rdC (r3.drop 2) false, ⟨.mk false nm as [], r3.drop 2, false, rfl, rfl, ?_, by simp; omega, fun q hq => ?_, hbb, fun hb => ?_⟩, by simp [AV.lbs, lbss], by simp [AV.lbs, lbss], rfl, by simp [upd_at]⟩
        · simp only [Tree.wt, wtT]; omega
        · have := hlt q hq
          simp only [Tree.wt, wtT, List.length_drop]; omega
        · have h := hopen hb
          simp only [Bool.false_eq_true, if_false] at h
          obtain ⟨as0, h1, h2, h3⟩ := h
          rw [hsem as0 h1, hpf]
          refine ⟨rfl, rfl, ?_⟩
          rcases hsame as0 h2 h3 [] with h | h
          · exact .inl h
          · exact .inr (h [] [])
      | false =>
        have hcut : cutP1 [47, 62] r3 = r3 := by unfold cutP1; rw [hpf]; rfl
        rw [hcut]
        simp only [↓aX, evp, evq, evl, boxK, stillV, binV, AV.cells, mP, loadV, storeV, ldV, AV.stb, AV.one, IV.av1, Lb.app, Lb.fresh, reduceCtorEq, ptrL, appL, fillA, chunks, ivs, AV.iv, mkE, if_false, if_true, List.not_mem_nil, forall_eq, beq_self_eq_true, List.isEmpty_nil, Nat.reduceEqDiff, Nat.reduceLT, Nat.reduceLeDiff, Nat.reduceAdd, Nat.reduceMul, Int.reduceToNat, Int.reduceLE, Int.reduceLT]
        refine callT_mut (l := .par 0) (hTk r3 [62] false) (by simp [rens, ren, atL]) (by simp [upd_at]) ?_
        rintro x1 cs' rfl _ _ _
        have hc5 := cutP1_le [62] r3
        have ht5 := takeF_cut [62] r3
        rw [Bool.false_or]
        generalize List.isPrefixOf [62] r3 = pf5 at *
        generalize cutP1 [62] r3 = r5 at *
        simp only [↓aX, evp, evq, evl, boxK, stillV, binV, AV.cells, mP, loadV, storeV, ldV, AV.stb, AV.one, IV.av1, Lb.app, Lb.fresh, reduceCtorEq, ptrL, appL, fillA, chunks, ivs, AV.iv, mkE, if_false, if_true, List.not_mem_nil, forall_eq, beq_self_eq_true, List.isEmpty_nil, Nat.reduceEqDiff, Nat.reduceLT, Nat.reduceLeDiff, Nat.reduceAdd, Nat.reduceMul, Int.reduceToNat, Int.reduceLE, Int.reduceLT, hw]
        refine callT_mut (l := .par 0) (hK r5 (!pf5) (by omega)) (by simp [rens, ren, atL]) (by simp [upd_at]) ?_
        rintro x1 cs' ⟨ks, r6, b6, rfl, rfl, hl6, hb6, hs6⟩ _ _ _
        simp only [↓aX, evp, evq, evl, boxK, stillV, binV, AV.cells, mP, loadV, storeV, ldV, AV.stb, AV.one, IV.av1, Lb.app, Lb.fresh, reduceCtorEq, ptrL, appL, fillA, chunks, ivs, AV.iv, mkE, if_false, if_true, List.not_mem_nil, forall_eq, beq_self_eq_true, List.isEmpty_nil, Nat.reduceEqDiff, Nat.reduceLT, Nat.reduceLeDiff, Nat.reduceAdd, Nat.reduceMul, Int.reduceToNat, Int.reduceLE, Int.reduceLT]
        refine callT_mut (l := .par 0) (hTk r6 [60, 47] b6) (by simp [rens, ren, atL]) (by simp [upd_at]) ?_
        rintro x1 cs' rfl _ _ _
        have hc7 := cutP1_le [60, 47] r6
        have ht7 := takeF_cut [60, 47] r6
        generalize List.isPrefixOf [60, 47] r6 = pf7 at *
        generalize cutP1 [60, 47] r6 = r7 at *
        have hr6 : r6.length ≤ r5.length := by have := wtT_len ks; omega
        simp only [↓aX, evp, evq, evl, boxK, stillV, binV, AV.cells, mP, loadV, storeV, ldV, AV.stb, AV.one, IV.av1, Lb.app, Lb.fresh, reduceCtorEq, ptrL, appL, fillA, chunks, ivs, AV.iv, mkE, if_false, if_true, List.not_mem_nil, forall_eq, beq_self_eq_true, List.isEmpty_nil, Nat.reduceEqDiff, Nat.reduceLT, Nat.reduceLeDiff, Nat.reduceAdd, Nat.reduceMul, Int.reduceToNat, Int.reduceLE, Int.reduceLT]
        refine ⟨rfl, ?_⟩
        refine far_mut (l := .par 0) (hN r7 (b6 || !pf7) (by omega)) (by simp [rens, ren, atL]) (by simp [upd_at]) (by simp [fam_par]) ⟨rfl, rfl⟩ rfl (by simp [AV.lbs, lbss]) rfl ?_
        rintro x1 cs' ⟨rfl, rfl⟩ _ _ _
        have hn8 := takeDrop_len isLow r7
        have hnf8 := nameF_eq r7
        generalize r7.takeWhile isLow = nm2 at *
        generalize r7.dropWhile isLow = r8 at *
        generalize (decide (nm2 = []) || decide (8 < nm2.length)) = bn8 at *
        simp only [↓aX, evp, evq, evl, boxK, stillV, binV, AV.cells, mP, loadV, storeV, ldV, AV.stb, AV.one, IV.av1, Lb.app, Lb.fresh, reduceCtorEq, ptrL, appL, fillA, chunks, ivs, AV.iv, mkE, if_false, if_true, List.not_mem_nil, forall_eq, beq_self_eq_true, List.isEmpty_nil, Nat.reduceEqDiff, Nat.reduceLT, Nat.reduceLeDiff, Nat.reduceAdd, Nat.reduceMul, Int.reduceToNat, Int.reduceLE, Int.reduceLT]
        -- LAST
        have last : ∀ b9 : Bool, b9 = (b6 || !pf7 || bn8 || !(nm2 == nm)) → ∀ r9 r10 : Bs, r9.length ≤ r8.length → r10.length ≤ r9.length → r9 = r8.dropWhile isSp → r10 = cutP1 [62] r9 → ElmR (d + 1) s b (Tree.av (.mk false nm as ks)) (rdC r10 (b9 || !List.isPrefixOf [62] r9)) := by
          rintro b9 h9 r9 r10 g9 g10 e9 e10
          refine ⟨_, r10, _, rfl, rfl, ?_, by omega, fun q hq => ?_, fun hb => ?_, fun hb => ?_⟩
          · simp only [Tree.wt]; omega
          · have := hlt q hq
            simp only [Tree.wt]; omega
          · have := hbb hb; cases this
          · have h := hopen hb
            simp only [Bool.false_eq_true, if_false] at h
            obtain ⟨as0, h1, h2, h3⟩ := h
            rw [hsem as0 h1, hpf]
            simp only [Bool.false_eq_true, if_false]
            rw [ht5]
            cases pf5 with
            | false =>
              have : b9 = true := by rw [h9, hb6 rfl]; rfl
              rw [this]; rfl
            | true =>
              simp only [if_true, Option.bind_some]
              have h6 := hs6 rfl
              cases hkf : kidsF (elementF d) r5 with
              | none =>
                rw [hkf] at h6
                simp only at h6
                have : b9 = true := by rw [h9, h6]; rfl
                rw [this]; rfl
              | some y =>
                rw [hkf] at h6
                obtain ⟨rfl, rfl, h7⟩ := h6
                simp only [Option.bind_some]
                unfold closeF
                rw [ht7]
                cases pf7 with
                | false =>
                  have : b9 = true := by rw [h9]; rfl
                  rw [this]; rfl
                | true =>
                  simp only [if_true, Option.bind_some, hnf8]
                  cases bn8 with
                  | true =>
                    have : b9 = true := by rw [h9]; rfl
                    rw [this]; rfl
                  | false =>
                    simp only [Bool.false_eq_true, if_false, Option.bind_some]
                    by_cases hnn : nm2 = nm
                    · rw [if_pos hnn, ← e9, takeF_cut, ← e10]
                      have : b9 = false := by rw [h9, hnn]; simp
                      rw [this]
                      cases List.isPrefixOf [62] r9 with
                      | false => rfl
                      | true =>
                        simp only [if_true, Option.map_some]
                        refine ⟨rfl, trivial, ?_⟩
                        rcases hsame as0 h2 h3 ks with g | g
                        · rcases h7 with h7 | ⟨h7, h8⟩
                          · left; rw [← h7]; exact g
                          · right
                            simp only [Tree.big, h7, h8, Bool.or_true, and_self]
                        · exact .inr (g ks y.1)
                    · rw [if_neg hnn]
                      have : b9 = true := by rw [h9]; simp [hnn]
                      rw [this]; rfl
        cases hnn : (nm2 == nm) with
        | true =>
          simp only [↓aX, evp, evq, evl, boxK, stillV, binV, AV.cells, mP, loadV, storeV, ldV, AV.stb, AV.one, IV.av1, Lb.app, Lb.fresh, reduceCtorEq, ptrL, appL, fillA, chunks, ivs, AV.iv, mkE, if_false, if_true, List.not_mem_nil, forall_eq, beq_self_eq_true, List.isEmpty_nil, Nat.reduceEqDiff, Nat.reduceLT, Nat.reduceLeDiff, Nat.reduceAdd, Nat.reduceMul, Int.reduceToNat, Int.reduceLE, Int.reduceLT]
          refine callT_mut (l := .par 0) (hSp r8 (b6 || !pf7 || bn8) (by omega)) (by simp [rens, ren, atL]) (by simp [upd_at]) ?_
          rintro x1 cs' ⟨rfl, rfl⟩ _ _ _
          have hc9 := dropW_le isSp r8
          simp only [↓aX, evp, evq, evl, boxK, stillV, binV, AV.cells, mP, loadV, storeV, ldV, AV.stb, AV.one, IV.av1, Lb.app, Lb.fresh, reduceCtorEq, ptrL, appL, fillA, chunks, ivs, AV.iv, mkE, if_false, if_true, List.not_mem_nil, forall_eq, beq_self_eq_true, List.isEmpty_nil, Nat.reduceEqDiff, Nat.reduceLT, Nat.reduceLeDiff, Nat.reduceAdd, Nat.reduceMul, Int.reduceToNat, Int.reduceLE, Int.reduceLT]
          refine callT_mut (l := .par 0) (hTk (r8.dropWhile isSp) [62] (b6 || !pf7 || bn8)) (by simp [rens, ren, atL]) (by simp [upd_at]) ?_
          rintro x1 cs' rfl _ _ _
          have hc10 := cutP1_le [62] (r8.dropWhile isSp)
          simp only [↓aX, evp, evq, evl, boxK, stillV, binV, AV.cells, mP, loadV, storeV, ldV, AV.stb, AV.one, IV.av1, Lb.app, Lb.fresh, reduceCtorEq, ptrL, appL, fillA, chunks, ivs, AV.iv, mkE, if_false, if_true, List.not_mem_nil, forall_eq, beq_self_eq_true, List.isEmpty_nil, Nat.reduceEqDiff, Nat.reduceLT, Nat.reduceLeDiff, Nat.reduceAdd, Nat.reduceMul, Int.reduceToNat, Int.reduceLE, Int.reduceLT, norm, norms, ret1m_r]
          refine ⟨_, last (b6 || !pf7 || bn8) (by rw [hnn]; simp) _ _ hc9 hc10 rfl rfl, by simp [AV.lbs, lbss], by simp [AV.lbs, lbss], rfl, by simp [upd_at]⟩
        | false =>
          simp only [↓aX, evp, evq, evl, boxK, stillV, binV, AV.cells, mP, loadV, storeV, ldV, AV.stb, AV.one, IV.av1, Lb.app, Lb.fresh, reduceCtorEq, ptrL, appL, fillA, chunks, ivs, AV.iv, mkE, if_false, if_true, List.not_mem_nil, forall_eq, beq_self_eq_true, List.isEmpty_nil, Nat.reduceEqDiff, Nat.reduceLT, Nat.reduceLeDiff, Nat.reduceAdd, Nat.reduceMul, Int.reduceToNat, Int.reduceLE, Int.reduceLT]
          refine callT_mut (l := .par 0) (hSp r8 true (by omega)) (by simp [rens, ren, atL]) (by simp [upd_at]) ?_
          rintro x1 cs' ⟨rfl, rfl⟩ _ _ _
          have hc9 := dropW_le isSp r8
          simp only [↓aX, evp, evq, evl, boxK, stillV, binV, AV.cells, mP, loadV, storeV, ldV, AV.stb, AV.one, IV.av1, Lb.app, Lb.fresh, reduceCtorEq, ptrL, appL, fillA, chunks, ivs, AV.iv, mkE, if_false, if_true, List.not_mem_nil, forall_eq, beq_self_eq_true, List.isEmpty_nil, Nat.reduceEqDiff, Nat.reduceLT, Nat.reduceLeDiff, Nat.reduceAdd, Nat.reduceMul, Int.reduceToNat, Int.reduceLE, Int.reduceLT]
          refine callT_mut (l := .par 0) (hTk (r8.dropWhile isSp) [62] true) (by simp [rens, ren, atL]) (by simp [upd_at]) ?_
          rintro x1 cs' rfl _ _ _
          have hc10 := cutP1_le [62] (r8.dropWhile isSp)
          simp only [↓aX, evp, evq, evl, boxK, stillV, binV, AV.cells, mP, loadV, storeV, ldV, AV.stb, AV.one, IV.av1, Lb.app, Lb.fresh, reduceCtorEq, ptrL, appL, fillA, chunks, ivs, AV.iv, mkE, if_false, if_true, List.not_mem_nil, forall_eq, beq_self_eq_true, List.isEmpty_nil, Nat.reduceEqDiff, Nat.reduceLT, Nat.reduceLeDiff, Nat.reduceAdd, Nat.reduceMul, Int.reduceToNat, Int.reduceLE, Int.reduceLT, norm, norms, ret1m_r]
          refine ⟨_, last true (by rw [hnn]; simp) _ _ hc9 hc10 rfl rfl, by simp [AV.lbs, lbss], by simp [AV.lbs, lbss], rfl, by simp [upd_at]⟩
end
end Go.Am
