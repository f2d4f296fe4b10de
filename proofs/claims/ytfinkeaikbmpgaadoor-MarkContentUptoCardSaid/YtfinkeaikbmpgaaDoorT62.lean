import Derived.Test.YtfinkeaikbmpgaaDoorKT61
set_option linter.unusedSimpArgs false
set_option linter.unusedVariables false
set_option linter.unnecessarySimpa false
set_option linter.defProp false
/- Reading: texts. -/
set_option pp.deepTerms false
set_option pp.deepTerms.threshold 5
namespace Go.Am
open Go Go.RowKit
section
variable {P : Program} {G : Nat → Option (List IV)}
def ents : List Bs := [bLt, bGt, bAmp, bQuot]
/-- The entity in front, if there is one. -/
def entK (s : Bs) : List Bs → Nat → Option (Nat × Bs)
  | [], _ => none
  | p :: r, i => if p.isPrefixOf s then some (i, s.drop p.length) else entK s r (i + 1)
theorem entK_skip {s : Bs} : ∀ {l : List Bs} {n i : Nat}, (∀ p ∈ l.take n, p.isPrefixOf s = false) → n ≤ l.length → entK s l i = entK s (l.drop n) (i + n)
  | l, 0, i, _, _ => by simp
  | [], n + 1, i, _, h => by simp at h
  | p :: r, n + 1, i, hp, h => by
    have h1 : p.isPrefixOf s = false := hp p (by simp)
    have := entK_skip (s := s) (l := r) (n := n) (i := i + 1) (fun q hq => hp q (by simp [hq])) (by simpa using h)
    simp only [entK, h1, Bool.false_eq_true, if_false, List.drop_succ_cons, this, Nat.add_assoc, Nat.add_comm 1 n]
def c_slices_IndexFunc_string_string : AC :=
(.seq (.reg [⟨(some 4), none, (.mov (.c (.int .i64 0)))⟩]) (.seq (.seq (.reg [⟨(some 6), none, (.mov (.t 0))⟩, ⟨(some 7), none, (.len (.t 6))⟩, ⟨(some 8), none, (.mov (.c (.int .i64 0)))⟩]) (.block 0 (.loop (.seq (.reg [⟨(some 9), none, (.bin .lss (.t 8) (.t 7))⟩]) (.seq (.cond (.t 9) .skip (.exit 0)) (.seq (.block 1 (.seq (.reg [⟨(some 10), none, (.mov (.t 8))⟩, ⟨(some 5), none, (.mov (.t 10))⟩]) (.seq (.reg [⟨(some 11), none, (.mov (.t 1))⟩, ⟨(some 12), none, (.mov (.t 0))⟩, ⟨(some 13), none, (.mov (.t 5))⟩, ⟨(some 14), none, (.ixa (.t 12) (.t 13) 1)⟩, ⟨(some 15), none, (.load none (.t 14))⟩, ⟨(some 16), none, (.callv (.t 11) [(.t 15)])⟩]) (.cond (.t 16) (.seq (.reg [⟨(some 17), none, (.mov (.t 5))⟩, ⟨(some 4), none, (.mov (.t 17))⟩]) .ret) .skip)))) (.reg [⟨(some 18), none, (.bin .add (.t 8) (.c (.int .i64 1)))⟩, ⟨(some 8), none, (.mov (.t 18))⟩]))))))) (.seq (.reg [⟨(some 4), none, (.mov (.c (.int .i64 (-1))))⟩]) .ret)))
theorem pIdxEnt {f_slices_IndexFunc_string_string f_mark_reader_at : Nat} (hF : compF P G f_slices_IndexFunc_string_string = some (19, [(none, 4)], c_slices_IndexFunc_string_string.bare)) (hB : goBody P f_mark_reader_at = true)
    (hA : ∀ (s p : Bs) (b : Bool), MutC P G f_mark_reader_at [.ptr (.par 0) 2 0 0, .str p] (rdC s b) fun x cs => x = .bool (p.isPrefixOf s) ∧ cs = rdC (cutP1 p s) b) (s : Bs) (b : Bool) :
    MutC P G f_slices_IndexFunc_string_string [.list (ents.map IV.str), .fn f_mark_reader_at [.ptr (.par 0) 2 0 0] []] (rdC s b) fun x cs =>
      match entK s ents 0 with
      | some (i, r) => x = .int .i64 (i : Nat) ∧ cs = rdC r b
      | none => x = .int .i64 (-1) ∧ cs = rdC s b := by
  refine mut_of_go hF (by simp) (by simp [lbss, AV.lbs]) (by simp [lbss, AV.lbs]) ?_
  unfold c_slices_IndexFunc_string_string
  simp only [↓aX, evp, evq, evl, boxK, stillV, binV, AV.cells, mP, loadV, storeV, ldV, AV.stb, AV.one, IV.av1, Lb.app, Lb.fresh, reduceCtorEq, ptrL, appL, fillA, chunks, ivs, AV.iv, mkE, if_false, if_true, List.not_mem_nil, forall_eq, beq_self_eq_true, List.isEmpty_nil, Nat.reduceEqDiff, Nat.reduceLT, Nat.reduceLeDiff, Nat.reduceAdd, Nat.reduceMul, Int.reduceToNat, Int.reduceLE, Int.reduceLT, row1]
  refine loop_same (σ := { i : Nat // i ≤ 4 ∧ ∀ p ∈ ents.take i, p.isPrefixOf s = false }) [.par 0] (fun q => [(0, .list (ents.map IV.str)), (1, .fn f_mark_reader_at [.ptr (.par 0) 2 0 0] []), (7, .int .i64 4), (8, .int .i64 q.1)]) (fun _ => [(.par 0, ⟨2, [rdC s b]⟩)]) (fun q => 4 - q.1) ⟨0, by simp⟩ (fun _ => rfl) (by decide) (by simp [lbss, AV.lbs]) (by simp [lbss, AV.lbs]) ?_ ?_
  · refine WS_mk ?_ (by repeat' constructor) (by repeat' constructor)
    intro l hl hu
    by_cases e : l = .par 0
    · subst e; simp
    · exfalso; apply hu; simp [upd_at, e, Hp.none]
  · rintro ⟨i, hi, hall⟩
    simp only [↓aX, evp, evq, evl, boxK, stillV, binV, AV.cells, mP, loadV, storeV, ldV, AV.stb, AV.one, IV.av1, Lb.app, Lb.fresh, reduceCtorEq, ptrL, appL, fillA, chunks, ivs, AV.iv, mkE, if_false, if_true, List.not_mem_nil, forall_eq, beq_self_eq_true, List.isEmpty_nil, Nat.reduceEqDiff, Nat.reduceLT, Nat.reduceLeDiff, Nat.reduceAdd, Nat.reduceMul, Int.reduceToNat, Int.reduceLE, Int.reduceLT, ofH_nil, ofH_cons]
    have hes : Elsz 1 (ents.map IV.str) := by
      intro x hx
      obtain ⟨c, _, rfl⟩ := List.mem_map.1 hx
      rfl
    by_cases hlt : i < 4
    · rw [show decide (((i : Nat) : Int) < (4 : Int)) = true by simp; omega]
      obtain ⟨p, hp⟩ : ∃ p, ents[i]? = some p := ⟨_, List.getElem?_eq_getElem hlt⟩
      have hw : IntKind.i64.wrap ((i : Int) + 1) = ((i + 1 : Nat) : Int) := wrap64 (by omega) (by omega)
      have hpe : (ents.map IV.str)[i]? = some (.str p) := by rw [List.getElem?_map, hp]; rfl
      have hek : entK s ents 0 = entK s (p :: ents.drop (i + 1)) i := by
        rw [entK_skip hall (by simp [ents]; omega), Nat.zero_add]
        congr 1
        rw [List.drop_eq_getElem_cons (by simpa [ents] using hlt)]
        congr 1
        exact (List.getElem?_eq_some_iff.1 hp).2
      simp only [↓aX, evp, evq, evl, boxK, stillV, binV, AV.cells, mP, loadV, storeV, ldV, AV.stb, AV.one, IV.av1, Lb.app, Lb.fresh, reduceCtorEq, ptrL, appL, fillA, chunks, ivs, AV.iv, mkE, if_false, if_true, List.not_mem_nil, forall_eq, beq_self_eq_true, List.isEmpty_nil, Nat.reduceEqDiff, Nat.reduceLT, Nat.reduceLeDiff, Nat.reduceAdd, Nat.reduceMul, Int.reduceToNat, Int.reduceLE, Int.reduceLT, Int.natCast_nonneg, Int.toNat_natCast, hpe, hes, a1_callv, cvK_fn, IV.cells]
      refine ⟨hB, callT_mut (l := .par 0) (hA s p b) (by simp [rens, ren, atL]) (by simp [upd_at]) ?_⟩
      rintro x1 cs' ⟨rfl, rfl⟩ _ _ _
      cases h : p.isPrefixOf s with
      | true =>
        simp only [↓aX, evp, evq, evl, boxK, stillV, binV, AV.cells, mP, loadV, storeV, ldV, AV.stb, AV.one, IV.av1, Lb.app, Lb.fresh, reduceCtorEq, ptrL, appL, fillA, chunks, ivs, AV.iv, mkE, if_false, if_true, List.not_mem_nil, forall_eq, beq_self_eq_true, List.isEmpty_nil, Nat.reduceEqDiff, Nat.reduceLT, Nat.reduceLeDiff, Nat.reduceAdd, Nat.reduceMul, Int.reduceToNat, Int.reduceLE, Int.reduceLT, ret1_r, hek, entK, h]
        exact ⟨rdC (s.drop p.length) b, by simp [upd_at, lbss, AV.lbs, cutP1, h]⟩
      | false =>
        simp only [↓aX, evp, evq, evl, boxK, stillV, binV, AV.cells, mP, loadV, storeV, ldV, AV.stb, AV.one, IV.av1, Lb.app, Lb.fresh, reduceCtorEq, ptrL, appL, fillA, chunks, ivs, AV.iv, mkE, if_false, if_true, List.not_mem_nil, forall_eq, beq_self_eq_true, List.isEmpty_nil, Nat.reduceEqDiff, Nat.reduceLT, Nat.reduceLeDiff, Nat.reduceAdd, Nat.reduceMul, Int.reduceToNat, Int.reduceLE, Int.reduceLT, hw]
        refine ⟨⟨i + 1, hlt, fun q hq => ?_⟩, by simp only; omega, WS_mk ?_ (by repeat' constructor) ?_⟩
        · rw [List.take_add_one, hp] at hq
          simp only [Option.toList_some, List.mem_append, List.mem_singleton] at hq
          rcases hq with hq | rfl
          · exact hall q hq
          · exact h
        · intro l hl hu
          by_cases e : l = .par 0
          · subst e; simp
          · exfalso; apply hu; simp [upd_at, e, Hp.none]
        · refine ⟨by simp [upd_at, cutP1, h], trivial⟩
    · have hi4 : i = 4 := by omega
      subst hi4
      have hek : entK s ents 0 = none := by rw [entK_skip hall (by simp [ents])]; rfl
      rw [show decide (((4 : Nat) : Int) < (4 : Int)) = false by simp]
      simp only [↓aX, evp, evq, evl, boxK, stillV, binV, AV.cells, mP, loadV, storeV, ldV, AV.stb, AV.one, IV.av1, Lb.app, Lb.fresh, reduceCtorEq, ptrL, appL, fillA, chunks, ivs, AV.iv, mkE, if_false, if_true, List.not_mem_nil, forall_eq, beq_self_eq_true, List.isEmpty_nil, Nat.reduceEqDiff, Nat.reduceLT, Nat.reduceLeDiff, Nat.reduceAdd, Nat.reduceMul, Int.reduceToNat, Int.reduceLE, Int.reduceLT, ret1_r, hek]
      exact ⟨rdC s b, by simp [upd_at, lbss, AV.lbs]⟩
theorem entF_K (s : Bs) : match entK s ents 0 with
    | some (i, r) => ∃ e : UInt8, ([60, 62, 38, 34] : Bs)[i]? = some e ∧ entF s = some (e, r)
    | none => entF s = none := by
  unfold entF
  simp only [ents, entK]
  split
  · rename_i i r h
    split at h
    · rename_i h1; cases h; exact ⟨60, rfl, by rw [if_pos h1]; rfl⟩
    · rename_i h1
      split at h
      · rename_i h2; cases h; exact ⟨62, rfl, by rw [if_neg h1, if_pos h2]; rfl⟩
      · rename_i h2
        split at h
        · rename_i h3; cases h; exact ⟨38, rfl, by rw [if_neg h1, if_neg h2, if_pos h3]; rfl⟩
        · rename_i h3
          split at h
          · rename_i h4; cases h; exact ⟨34, rfl, by rw [if_neg h1, if_neg h2, if_neg h3, if_pos h4]; rfl⟩
          · cases h
  · rename_i h
    split at h
    · cases h
    · rename_i h1
      split at h
      · cases h
      · rename_i h2
        split at h
        · cases h
        · rename_i h3
          split at h
          · cases h
          · rename_i h4
            rw [if_neg h1, if_neg h2, if_neg h3, if_neg h4]
theorem byteL_by : ∀ s : Bs, byteL (byIV s) = some s
  | [] => rfl
  | c :: s => by
    have ih := byteL_by s
    unfold byIV at ih ⊢
    simp only [List.map_cons, byteL, ih]
    simp
/-- What text hands back. -/
def TextR (v : Bool) (s : Bs) (b : Bool) (x : AV) (cs : List AV) : Prop := ∃ t r b', x = .str t ∧ cs = rdC r b' ∧ r.length + t.length ≤ s.length ∧ (b = true → b' = true) ∧
  (b = false → match textF v s with
    | some y => b' = false ∧ y = (t, r)
    | none => b' = true)
def TextI (v : Bool) (s : Bs) (b : Bool) (q : Bs × Bs × Bool) : Prop := q.1.length + q.2.1.length ≤ s.length ∧ (b = true → q.2.2 = true) ∧ (b = false → if q.2.2 then textF v s = none else textF v s = (textF v q.1).map fun y => (q.2.1 ++ y.1, y.2))
theorem cI (c : UInt8) (k : Nat) (hk : k < 256) : ((c.toNat : Int) == (k : Int)) = (c == UInt8.ofNat k) := by
  rw [Bool.eq_iff_iff]; simp only [beq_iff_eq]
  rw [← UInt8.toNat_inj]
  have : (UInt8.ofNat k).toNat = k := by simp; omega
  rw [this]; omega
theorem printC_eq (c : UInt8) : printC c = (((c.toNat : Int) == 10) || !(decide ((c.toNat : Int) < 32) || decide ((c.toNat : Int) > 126))) := by
  have h1 : ((c.toNat : Int) == 10) = (c == 10) := cI c 10 (by decide)
  unfold printC
  rw [h1]
  congr 1
  rw [Bool.eq_iff_iff]
  simp only [Bool.and_eq_true, decide_eq_true_eq, Bool.not_eq_true', Bool.or_eq_false_iff, decide_eq_false_iff_not, UInt8.le_iff_toNat_le]
  show (32 ≤ _ ∧ _ ≤ 126) ↔ _
  omega
def c_mark_reader_text (f_mark_reader_at f_slices_IndexFunc_string_string : Nat) : AC :=
(.seq (.reg [⟨(some 4), none, (.mov (.c (.str [])))⟩]) (.seq (.reg [⟨(some 5), none, (.mov (.c .nil0))⟩]) (.gh (.own 5 1) (.seq (.block 0 (.loop (.seq (.seq (.reg [⟨(some 8), none, (.mov (.t 0))⟩, ⟨(some 9), none, (.nchk (.t 8))⟩, ⟨(some 10), none, (.fld (.t 9) 0)⟩, ⟨(some 11), none, (.load none (.t 10))⟩, ⟨(some 12), none, (.bin .neq (.t 11) (.c (.str [])))⟩, ⟨(some 13), none, (.mov (.t 12))⟩, ⟨(some 14), (some (13, true)), (.mov (.t 0))⟩, ⟨(some 15), (some (13, true)), (.nchk (.t 14))⟩, ⟨(some 16), (some (13, true)), (.fld (.t 15) 1)⟩, ⟨(some 17), (some (13, true)), (.load none (.t 16))⟩, ⟨(some 18), (some (13, true)), (.not (.t 17))⟩, ⟨(some 19), none, (.pick (.t 13) (.t 18) (.c (.bool false)))⟩]) (.cond (.t 19) .skip (.exit 0))) (.block 1 (.seq (.reg [⟨(some 20), none, (.mov (.t 0))⟩, ⟨(some 21), none, (.nchk (.t 20))⟩, ⟨(some 22), none, (.fld (.t 21) 0)⟩, ⟨(some 23), none, (.load none (.t 22))⟩, ⟨(some 24), none, (.ixs (.t 23) (.c (.int .i64 0)))⟩, ⟨(some 6), none, (.mov (.t 24))⟩]) (.block 2 (.seq (.reg [⟨(some 38), none, (.mov (.t 6))⟩, ⟨(some 39), none, (.bin .eql (.t 38) (.c (.int .u8 60)))⟩, ⟨(some 40), none, (.mov (.t 39))⟩, ⟨(some 41), (some (40, false)), (.mov (.t 6))⟩, ⟨(some 42), (some (40, false)), (.bin .eql (.t 41) (.c (.int .u8 34)))⟩, ⟨(some 43), (some (40, false)), (.mov (.t 42))⟩, ⟨(some 44), (some (43, true)), (.mov (.t 1))⟩, ⟨(some 45), (some (40, false)), (.pick (.t 43) (.t 44) (.c (.bool false)))⟩, ⟨(some 46), none, (.pick (.t 40) (.c (.bool true)) (.t 45))⟩, ⟨(some 37), none, (.mov (.t 46))⟩]) (.cond (.t 37) (.gh (.frz (.loc 5) 5) (.seq (.reg [⟨(some 47), none, (.mov (.t 5))⟩, ⟨(some 48), none, (.cvt (.t 47))⟩, ⟨(some 4), none, (.mov (.t 48))⟩]) .ret)) (.seq (.reg [⟨(some 50), none, (.mov (.t 6))⟩, ⟨(some 51), none, (.bin .eql (.t 50) (.c (.int .u8 38)))⟩, ⟨(some 49), none, (.mov (.t 51))⟩]) (.cond (.t 49) (.seq (.reg [⟨(some 52), none, (.slca (.c (.lptr [(.str [38, 108, 116, 59]), (.str [38, 103, 116, 59]), (.str [38, 97, 109, 112, 59]), (.str [38, 113, 117, 111, 116, 59])])) 4 1)⟩, ⟨(some 53), none, (.mov (.t 0))⟩, ⟨(some 54), none, (.mkm f_mark_reader_at [(.t 53)] [])⟩, ⟨(some 55), none, (.call f_slices_IndexFunc_string_string [(.t 52), (.t 54)])⟩, ⟨(some 7), none, (.mov (.t 55))⟩]) (.seq (.seq (.reg [⟨(some 56), none, (.mov (.t 7))⟩, ⟨(some 57), none, (.bin .lss (.t 56) (.c (.int .i64 0)))⟩]) (.cond (.t 57) (.seq (.reg [⟨(some 58), none, (.mov (.t 0))⟩, ⟨(some 59), none, (.nchk (.t 58))⟩, ⟨(some 60), none, (.fld (.t 59) 1)⟩, ⟨none, none, (.store 1 (.t 60) (.c (.bool true)))⟩]) (.seq (.reg [⟨(some 4), none, (.mov (.c (.str [])))⟩]) .ret)) .skip)) (.reg [⟨(some 61), none, (.mov (.t 5))⟩, ⟨(some 62), none, (.mov (.t 7))⟩, ⟨(some 63), none, (.ixs (.c (.str [60, 62, 38, 34])) (.t 62))⟩, ⟨(some 64), none, (.lits 1 1 [(.int .u8 0)] [(0, (.t 63))])⟩, ⟨(some 65), none, (.app (.t 61) (.t 64) 1 1)⟩, ⟨(some 5), none, (.mov (.t 65))⟩]))) (.seq (.reg [⟨(some 67), none, (.mov (.t 6))⟩, ⟨(some 68), none, (.bin .eql (.t 67) (.c (.int .u8 62)))⟩, ⟨(some 69), none, (.mov (.t 68))⟩, ⟨(some 70), (some (69, false)), (.mov (.t 6))⟩, ⟨(some 71), (some (69, false)), (.bin .neq (.t 70) (.c (.int .u8 10)))⟩, ⟨(some 72), (some (69, false)), (.mov (.t 71))⟩, ⟨(some 73), (some (72, true)), (.mov (.t 6))⟩, ⟨(some 74), (some (72, true)), (.bin .lss (.t 73) (.c (.int .u8 32)))⟩, ⟨(some 75), (some (72, true)), (.mov (.t 74))⟩, ⟨(some 76), (some (75, false)), (.mov (.t 6))⟩, ⟨(some 77), (some (75, false)), (.bin .gtr (.t 76) (.c (.int .u8 126)))⟩, ⟨(some 78), (some (72, true)), (.pick (.t 75) (.c (.bool true)) (.t 77))⟩, ⟨(some 79), (some (69, false)), (.pick (.t 72) (.t 78) (.c (.bool false)))⟩, ⟨(some 80), none, (.pick (.t 69) (.c (.bool true)) (.t 79))⟩, ⟨(some 66), none, (.mov (.t 80))⟩]) (.cond (.t 66) (.reg [⟨(some 81), none, (.mov (.t 0))⟩, ⟨(some 82), none, (.nchk (.t 81))⟩, ⟨(some 83), none, (.fld (.t 82) 1)⟩, ⟨none, none, (.store 1 (.t 83) (.c (.bool true)))⟩]) (.seq (.reg [⟨(some 25), none, (.mov (.t 5))⟩, ⟨(some 26), none, (.mov (.t 6))⟩, ⟨(some 27), none, (.lits 1 1 [(.int .u8 0)] [(0, (.t 26))])⟩, ⟨(some 28), none, (.app (.t 25) (.t 27) 1 1)⟩, ⟨(some 5), none, (.mov (.t 28))⟩]) (.reg [⟨(some 29), none, (.mov (.t 0))⟩, ⟨(some 30), none, (.mov (.t 0))⟩, ⟨(some 31), none, (.nchk (.t 30))⟩, ⟨(some 32), none, (.fld (.t 31) 0)⟩, ⟨(some 33), none, (.load none (.t 32))⟩, ⟨(some 34), none, (.slcs (.t 33) (some (.c (.int .i64 1))) none)⟩, ⟨(some 35), none, (.nchk (.t 29))⟩, ⟨(some 36), none, (.fld (.t 35) 0)⟩, ⟨none, none, (.store 1 (.t 36) (.t 34))⟩])))))))))))))) (.gh (.frz (.loc 5) 5) (.seq (.reg [⟨(some 84), none, (.mov (.t 5))⟩, ⟨(some 85), none, (.cvt (.t 84))⟩, ⟨(some 4), none, (.mov (.t 85))⟩]) .ret))))))
theorem pRText {f_mark_reader_text f_slices_IndexFunc_string_string f_mark_reader_at : Nat} (hF : compF P G f_mark_reader_text = some (86, [(none, 4)], (c_mark_reader_text f_mark_reader_at f_slices_IndexFunc_string_string).bare)) (hI : ∀ (s : Bs) (b : Bool),
    MutC P G f_slices_IndexFunc_string_string [.list (ents.map IV.str), .fn f_mark_reader_at [.ptr (.par 0) 2 0 0] []] (rdC s b) fun x cs =>
      match entK s ents 0 with
      | some (i, r) => x = .int .i64 (i : Nat) ∧ cs = rdC r b
      | none => x = .int .i64 (-1) ∧ cs = rdC s b) (v : Bool) (s : Bs) (hs : s.length ≤ B) (b : Bool) :
    MutC P G f_mark_reader_text [.ptr (.par 0) 2 0 0, .bool v] (rdC s b) (TextR v s b) := by
  refine mut_of_go hF (by simp) (by simp [lbss, AV.lbs]) (by simp [lbss, AV.lbs]) ?_
  have hBv : B = 1073741824 := rfl
  unfold c_mark_reader_text
  simp only [↓aX, evp, evq, evl, boxK, stillV, binV, AV.cells, mP, loadV, storeV, ldV, AV.stb, AV.one, IV.av1, Lb.app, Lb.fresh, reduceCtorEq, ptrL, appL, fillA, chunks, ivs, AV.iv, mkE, if_false, if_true, List.not_mem_nil, forall_eq, beq_self_eq_true, List.isEmpty_nil, Nat.reduceEqDiff, Nat.reduceLT, Nat.reduceLeDiff, Nat.reduceAdd, Nat.reduceMul, Int.reduceToNat, Int.reduceLE, Int.reduceLT, row1]
  refine loop_entry (σ := { q : Bs × Bs × Bool // TextI v s b q }) (fun _ => [.par 0, .loc 5]) (fun _ _ => false)
    (fun q => [(0, .ptr (.par 0) 2 0 0), (1, .bool v), (5, .sl (.loc 5) 1 0 q.1.2.1.length)])
    (fun q => [(.par 0, ⟨2, [rdC q.1.1 q.1.2.2]⟩), (.loc 5, ⟨1, immE (byIV q.1.2.1)⟩)]) (fun q => 2 * q.1.1.length + (if q.1.2.2 then 0 else 1)) ⟨(s, [], b), by simp, fun h => h, fun h => ?_⟩ (fun _ => rfl) (fun q => by simp [lbss, AV.lbs]) ?_ ⟨[], ?_⟩ ?_
  · simp only [h, Bool.false_eq_true, if_false]
    cases textF v s <;> simp
  · intro q w hw cs hcs2 z hz
    simp only [List.mem_cons, List.not_mem_nil, or_false] at hw
    rcases hw with rfl | rfl
    · simp only [List.mem_singleton] at hcs2; subst hcs2; simp [lbss, AV.lbs] at hz
    · rw [lbss_immE hcs2] at hz; simp at hz
  · refine ⟨?_, ?_, ?_, by simp [rnF], by simp [rnF]⟩
    · intro l hf hu
      left
      cases l <;> simp [Lb.entry] at hf
      rename_i n
      by_cases e : n = 0
      · subst e; simp
      · exfalso; apply hu; simp [upd_at, Hp.none, e]
    · simp [EqL, rnF, ren, put, argE]
    · simp [RwL, rnF, upd_at, renR, rens, ren, byIV, immE]
  · rintro ⟨⟨r, t, bad⟩, hlen, hb1, hb2⟩
    simp only at hlen hb1 hb2
    have hU : ∀ d, d ≠ 5 → ofU (fun _ => false) [(Lb.par 0, ⟨2, [rdC r bad]⟩), (Lb.loc 5, ⟨1, immE (byIV t)⟩)] (.loc d) = .unused := fun d hd => by rw [ofU_at (by simp [hd])]; rfl
    have hUp : ∀ d, d ≠ 0 → ofU (fun _ => false) [(Lb.par 0, ⟨2, [rdC r bad]⟩), (Lb.loc 5, ⟨1, immE (byIV t)⟩)] (.par d) = .unused := fun d hd => by rw [ofU_at (by simp [hd])]; rfl
    have hL0 : ofU (fun _ => false) [(Lb.par 0, ⟨2, [rdC r bad]⟩), (Lb.loc 5, ⟨1, immE (byIV t)⟩)] (.par 0) = .live ⟨2, [rdC r bad]⟩ := ofU_live.2 (by simp [ofH, upd_at])
    have hL5 : ofU (fun _ => false) [(Lb.par 0, ⟨2, [rdC r bad]⟩), (Lb.loc 5, ⟨1, immE (byIV t)⟩)] (.loc 5) = .live ⟨1, immE (byIV t)⟩ := ofU_live.2 (by simp [ofH, upd_at])
    simp only
    generalize ofU (fun _ => false) [(Lb.par 0, ⟨2, [rdC r bad]⟩), (Lb.loc 5, ⟨1, immE (byIV t)⟩)] = H0 at *
    have ht0 : ((byIV t).drop 0).take t.length = byIV t := by rw [List.drop_zero, List.take_of_length_le (by rw [byIV_len]; exact Nat.le_refl _)]
    have hin : 0 + t.length ≤ (byIV t).length := by rw [byIV_len]; omega
    -- what is handed back
    have fin : ∀ (H1 : Hp), H1 (.par 0) = .live ⟨2, [rdC r bad]⟩ → (bad = false → ∃ y, textF v r = some y ∧ y = ([], r)) → ∃ cs', TextR v s b (.str t) cs' ∧ (AV.str t).lbs = [] ∧ lbss cs' = [] ∧ cs'.length = 2 ∧ H1 (.par 0) = .live ⟨2, [cs']⟩ := by
      intro H1 h1 h2
      refine ⟨rdC r bad, ⟨t, r, bad, rfl, rfl, hlen, hb1, fun hb => ?_⟩, rfl, by simp [lbss, AV.lbs], rfl, h1⟩
      have h3 := hb2 hb
      cases bad with
      | true => simp only [if_true] at h3; rw [h3]
      | false =>
        obtain ⟨y, hy, rfl⟩ := h2 rfl
        simp only [Bool.false_eq_true, if_false, hy, Option.map_some, List.append_nil] at h3
        rw [h3]; exact ⟨rfl, rfl⟩
    simp only [↓aX, evp, evq, evl, boxK, stillV, binV, AV.cells, mP, loadV, storeV, ldV, AV.stb, AV.one, IV.av1, Lb.app, Lb.fresh, reduceCtorEq, ptrL, appL, fillA, chunks, ivs, AV.iv, mkE, if_false, if_true, List.not_mem_nil, forall_eq, beq_self_eq_true, List.isEmpty_nil, Nat.reduceEqDiff, Nat.reduceLT, Nat.reduceLeDiff, Nat.reduceAdd, Nat.reduceMul, Int.reduceToNat, Int.reduceLE, Int.reduceLT, hL0]
    match r, hlen, hb2, hL0, fin with
    | [], hlen, hb2, hL0, fin =>
      simp only [↓aX, evp, evq, evl, boxK, stillV, binV, AV.cells, mP, loadV, storeV, ldV, AV.stb, AV.one, IV.av1, Lb.app, Lb.fresh, reduceCtorEq, ptrL, appL, fillA, chunks, ivs, AV.iv, mkE, if_false, if_true, List.not_mem_nil, forall_eq, beq_self_eq_true, List.isEmpty_nil, Nat.reduceEqDiff, Nat.reduceLT, Nat.reduceLeDiff, Nat.reduceAdd, Nat.reduceMul, Int.reduceToNat, Int.reduceLE, Int.reduceLT, show (([] : Bs) == []) = true from rfl, Bool.not_true]
      refine ⟨1, byIV t, 0, t.length, rfl, hL5, hin, byIV_flat t, ?_⟩
      rw [ht0]
      simp only [↓aX, evp, evq, evl, boxK, stillV, binV, AV.cells, mP, loadV, storeV, ldV, AV.stb, AV.one, IV.av1, Lb.app, Lb.fresh, reduceCtorEq, ptrL, appL, fillA, chunks, ivs, AV.iv, mkE, if_false, if_true, List.not_mem_nil, forall_eq, beq_self_eq_true, List.isEmpty_nil, Nat.reduceEqDiff, Nat.reduceLT, Nat.reduceLeDiff, Nat.reduceAdd, Nat.reduceMul, Int.reduceToNat, Int.reduceLE, Int.reduceLT, cvtV, byteL_by, Option.map_some, ret1_r]
      exact fin _ (by simp [upd_at, hL0]) (fun _ => ⟨_, textF_nil v, rfl⟩)
    | c :: q, hlen, hb2, hL0, fin =>
      simp only [↓aX, evp, evq, evl, boxK, stillV, binV, AV.cells, mP, loadV, storeV, ldV, AV.stb, AV.one, IV.av1, Lb.app, Lb.fresh, reduceCtorEq, ptrL, appL, fillA, chunks, ivs, AV.iv, mkE, if_false, if_true, List.not_mem_nil, forall_eq, beq_self_eq_true, List.isEmpty_nil, Nat.reduceEqDiff, Nat.reduceLT, Nat.reduceLeDiff, Nat.reduceAdd, Nat.reduceMul, Int.reduceToNat, Int.reduceLE, Int.reduceLT, show ((c :: q : Bs) == []) = false from rfl, Bool.not_false, hL0]
      cases bad with
      | true =>
        simp only [↓aX, evp, evq, evl, boxK, stillV, binV, AV.cells, mP, loadV, storeV, ldV, AV.stb, AV.one, IV.av1, Lb.app, Lb.fresh, reduceCtorEq, ptrL, appL, fillA, chunks, ivs, AV.iv, mkE, if_false, if_true, List.not_mem_nil, forall_eq, beq_self_eq_true, List.isEmpty_nil, Nat.reduceEqDiff, Nat.reduceLT, Nat.reduceLeDiff, Nat.reduceAdd, Nat.reduceMul, Int.reduceToNat, Int.reduceLE, Int.reduceLT, Bool.not_true]
        refine ⟨1, byIV t, 0, t.length, rfl, hL5, hin, byIV_flat t, ?_⟩
        rw [ht0]
        simp only [↓aX, evp, evq, evl, boxK, stillV, binV, AV.cells, mP, loadV, storeV, ldV, AV.stb, AV.one, IV.av1, Lb.app, Lb.fresh, reduceCtorEq, ptrL, appL, fillA, chunks, ivs, AV.iv, mkE, if_false, if_true, List.not_mem_nil, forall_eq, beq_self_eq_true, List.isEmpty_nil, Nat.reduceEqDiff, Nat.reduceLT, Nat.reduceLeDiff, Nat.reduceAdd, Nat.reduceMul, Int.reduceToNat, Int.reduceLE, Int.reduceLT, cvtV, byteL_by, Option.map_some, ret1_r]
        exact fin _ (by simp [upd_at, hL0]) (fun h => by cases h)
      | false =>
        have hbf : b = false := by cases b with | true => exact absurd (hb1 rfl) (by simp) | false => rfl
        have hsem := hb2 hbf
        simp only [Bool.false_eq_true, if_false] at hsem
        have c60 : ((c.toNat : Int) == 60) = (c == 60) := cI c 60 (by decide)
        have c62 : ((c.toNat : Int) == 62) = (c == 62) := cI c 62 (by decide)
        have c38 : ((c.toNat : Int) == 38) = (c == 38) := cI c 38 (by decide)
        have c34 : ((c.toNat : Int) == 34) = (c == 34) := cI c 34 (by decide)
        simp only [↓aX, evp, evq, evl, boxK, stillV, binV, AV.cells, mP, loadV, storeV, ldV, AV.stb, AV.one, IV.av1, Lb.app, Lb.fresh, reduceCtorEq, ptrL, appL, fillA, chunks, ivs, AV.iv, mkE, if_false, if_true, List.not_mem_nil, forall_eq, beq_self_eq_true, List.isEmpty_nil, Nat.reduceEqDiff, Nat.reduceLT, Nat.reduceLeDiff, Nat.reduceAdd, Nat.reduceMul, Int.reduceToNat, Int.reduceLE, Int.reduceLT, Bool.not_false, hL0, show ((0 : Int)).toNat = 0 from rfl, List.getElem?_cons_zero, c60]
        have stop : stopC v c → ∃ y, textF v (c :: q) = some y ∧ y = ([], c :: q) := fun h => ⟨_, textF_stop h q, rfl⟩
        by_cases h60 : c = 60
        · rw [show (c == 60) = true by simp [h60]]
          simp only [↓aX, evp, evq, evl, boxK, stillV, binV, AV.cells, mP, loadV, storeV, ldV, AV.stb, AV.one, IV.av1, Lb.app, Lb.fresh, reduceCtorEq, ptrL, appL, fillA, chunks, ivs, AV.iv, mkE, if_false, if_true, List.not_mem_nil, forall_eq, beq_self_eq_true, List.isEmpty_nil, Nat.reduceEqDiff, Nat.reduceLT, Nat.reduceLeDiff, Nat.reduceAdd, Nat.reduceMul, Int.reduceToNat, Int.reduceLE, Int.reduceLT]
          refine ⟨1, byIV t, 0, t.length, rfl, hL5, hin, byIV_flat t, ?_⟩
          rw [ht0]
          simp only [↓aX, evp, evq, evl, boxK, stillV, binV, AV.cells, mP, loadV, storeV, ldV, AV.stb, AV.one, IV.av1, Lb.app, Lb.fresh, reduceCtorEq, ptrL, appL, fillA, chunks, ivs, AV.iv, mkE, if_false, if_true, List.not_mem_nil, forall_eq, beq_self_eq_true, List.isEmpty_nil, Nat.reduceEqDiff, Nat.reduceLT, Nat.reduceLeDiff, Nat.reduceAdd, Nat.reduceMul, Int.reduceToNat, Int.reduceLE, Int.reduceLT, cvtV, byteL_by, Option.map_some, ret1_r]
          exact fin _ (by simp [upd_at, hL0]) (fun _ => stop (.inl h60))
        · rw [show (c == 60) = false by simp [h60]]
          simp only [↓aX, evp, evq, evl, boxK, stillV, binV, AV.cells, mP, loadV, storeV, ldV, AV.stb, AV.one, IV.av1, Lb.app, Lb.fresh, reduceCtorEq, ptrL, appL, fillA, chunks, ivs, AV.iv, mkE, if_false, if_true, List.not_mem_nil, forall_eq, beq_self_eq_true, List.isEmpty_nil, Nat.reduceEqDiff, Nat.reduceLT, Nat.reduceLeDiff, Nat.reduceAdd, Nat.reduceMul, Int.reduceToNat, Int.reduceLE, Int.reduceLT, Bool.not_false, c34]
          -- behind: no stop
          have next : ∀ (e : UInt8) (r' : Bs) (d : Nat) (env : Env), textF v (c :: q) = (textF v r').map (fun x => (e :: x.1, x.2)) → r'.length < (c :: q).length → env 0 = .ptr (.par 0) 2 0 0 → env 1 = .bool v → env 5 = .sl (.loc d) 1 0 (t.length + 1) → ∀ (H1 : Hp), H1 (.par 0) = .live ⟨2, [rdC r' false]⟩ → H1 (.loc d) = .live ⟨1, immE (byIV t ++ byIV [e])⟩ → (∀ n, n ≠ 0 → H1 (.par n) = .unused) →
              ∃ q' : { q : Bs × Bs × Bool // TextI v s b q }, 2 * q'.1.1.length + (if q'.1.2.2 then 0 else 1) < 2 * (c :: q).length + 1 ∧ ∃ m, WE [.par 0, .loc 5] (fun _ => false) [(0, .ptr (.par 0) 2 0 0), (1, .bool v), (5, .sl (.loc 5) 1 0 q'.1.2.1.length)]
                [(.par 0, ⟨2, [rdC q'.1.1 q'.1.2.2]⟩), (.loc 5, ⟨1, immE (byIV q'.1.2.1)⟩)] env H1 m := by
            intro e r' d env h1 h2 h3 h4 h5 H1 h6 h7 h8
            refine ⟨⟨(r', t ++ [e], false), ?_, hb1, fun _ => ?_⟩, ?_, [(.loc 5, .loc d)], ?_, ?_, ?_, by simp [rnF], ?_⟩
            · simp only [List.length_append, List.length_cons, List.length_nil] at hlen h2 ⊢; omega
            · simp only [Bool.false_eq_true, if_false]
              rw [hsem, h1]
              cases textF v r' <;> simp
            · simp only [Bool.false_eq_true, if_false]; omega
            · intro l hf hu
              left
              cases l <;> simp [Lb.entry] at hf
              rename_i n
              by_cases e0 : n = 0
              · subst e0; simp
              · exact absurd (h8 n e0) hu
            · simp [EqL, h3, h4, h5, ren, rnF]
            · refine ⟨by simp [rnF, renR, rens, ren, h6], by simp [rnF, renR_immE, h7, byIV_app], trivial⟩
            · intro l hl
              simp only [List.mem_cons, List.not_mem_nil, or_false] at hl
              rcases hl with rfl | rfl
              · simp [rnF]
              · simp [rnF, Lb.fresh, Lb.entry]
          have badN : ∀ (env : Env) (H1 : Hp), textF v (c :: q) = none → env 0 = .ptr (.par 0) 2 0 0 → env 1 = .bool v → env 5 = .sl (.loc 5) 1 0 t.length → H1 (.par 0) = .live ⟨2, [rdC (c :: q) true]⟩ → H1 (.loc 5) = .live ⟨1, immE (byIV t)⟩ → (∀ n, n ≠ 0 → H1 (.par n) = .unused) →
              ∃ q' : { q : Bs × Bs × Bool // TextI v s b q }, 2 * q'.1.1.length + (if q'.1.2.2 then 0 else 1) < 2 * (c :: q).length + 1 ∧ ∃ m, WE [.par 0, .loc 5] (fun _ => false) [(0, .ptr (.par 0) 2 0 0), (1, .bool v), (5, .sl (.loc 5) 1 0 q'.1.2.1.length)]
                [(.par 0, ⟨2, [rdC q'.1.1 q'.1.2.2]⟩), (.loc 5, ⟨1, immE (byIV q'.1.2.1)⟩)] env H1 m := by
            intro env H1 h1 h3 h4 h5 h6 h7 h8
            refine ⟨⟨(c :: q, t, true), hlen, fun _ => rfl, fun _ => ?_⟩, ?_, [], ?_, ?_, ?_, by simp [rnF], by simp [rnF]⟩
            · simp only [if_true]; rw [hsem, h1]; rfl
            · simp only [if_true]; omega
            · intro l hf hu
              left
              cases l <;> simp [Lb.entry] at hf
              rename_i n
              by_cases e0 : n = 0
              · subst e0; simp
              · exact absurd (h8 n e0) hu
            · simp [EqL, h3, h4, h5, ren, rnF]
            · refine ⟨by simp [rnF, renR, rens, ren, h6], by simp [rnF, renR_immE, h7], trivial⟩
          by_cases h34 : c = 34 ∧ v = true
          · rw [show (c == 34) = true by simp [h34.1]]
            simp only [↓aX, evp, evq, evl, boxK, stillV, binV, AV.cells, mP, loadV, storeV, ldV, AV.stb, AV.one, IV.av1, Lb.app, Lb.fresh, reduceCtorEq, ptrL, appL, fillA, chunks, ivs, AV.iv, mkE, if_false, if_true, List.not_mem_nil, forall_eq, beq_self_eq_true, List.isEmpty_nil, Nat.reduceEqDiff, Nat.reduceLT, Nat.reduceLeDiff, Nat.reduceAdd, Nat.reduceMul, Int.reduceToNat, Int.reduceLE, Int.reduceLT]
            refine cK_b (fun _ => ?_) (fun hv => by rw [h34.2] at hv; cases hv)
            simp only [↓aX, evp, evq, evl, boxK, stillV, binV, AV.cells, mP, loadV, storeV, ldV, AV.stb, AV.one, IV.av1, Lb.app, Lb.fresh, reduceCtorEq, ptrL, appL, fillA, chunks, ivs, AV.iv, mkE, if_false, if_true, List.not_mem_nil, forall_eq, beq_self_eq_true, List.isEmpty_nil, Nat.reduceEqDiff, Nat.reduceLT, Nat.reduceLeDiff, Nat.reduceAdd, Nat.reduceMul, Int.reduceToNat, Int.reduceLE, Int.reduceLT]
            refine ⟨1, byIV t, 0, t.length, rfl, hL5, hin, byIV_flat t, ?_⟩
            rw [ht0]
            simp only [↓aX, evp, evq, evl, boxK, stillV, binV, AV.cells, mP, loadV, storeV, ldV, AV.stb, AV.one, IV.av1, Lb.app, Lb.fresh, reduceCtorEq, ptrL, appL, fillA, chunks, ivs, AV.iv, mkE, if_false, if_true, List.not_mem_nil, forall_eq, beq_self_eq_true, List.isEmpty_nil, Nat.reduceEqDiff, Nat.reduceLT, Nat.reduceLeDiff, Nat.reduceAdd, Nat.reduceMul, Int.reduceToNat, Int.reduceLE, Int.reduceLT, cvtV, byteL_by, Option.map_some, ret1_r]
            exact fin _ (by simp [upd_at, hL0]) (fun _ => stop (.inr h34))
          · have hns : ¬ stopC v c := fun h => h.elim h60 h34
            -- TAILS
            cases h34b : (c == 34) with
            | true =>
              simp only [↓aX, evp, evq, evl, boxK, stillV, binV, AV.cells, mP, loadV, storeV, ldV, AV.stb, AV.one, IV.av1, Lb.app, Lb.fresh, reduceCtorEq, ptrL, appL, fillA, chunks, ivs, AV.iv, mkE, if_false, if_true, List.not_mem_nil, forall_eq, beq_self_eq_true, List.isEmpty_nil, Nat.reduceEqDiff, Nat.reduceLT, Nat.reduceLeDiff, Nat.reduceAdd, Nat.reduceMul, Int.reduceToNat, Int.reduceLE, Int.reduceLT]
              refine cK_b (fun hv => absurd ⟨by simpa using h34b, hv⟩ h34) (fun _ => ?_)
              simp only [↓aX, evp, evq, evl, boxK, stillV, binV, AV.cells, mP, loadV, storeV, ldV, AV.stb, AV.one, IV.av1, Lb.app, Lb.fresh, reduceCtorEq, ptrL, appL, fillA, chunks, ivs, AV.iv, mkE, if_false, if_true, List.not_mem_nil, forall_eq, beq_self_eq_true, List.isEmpty_nil, Nat.reduceEqDiff, Nat.reduceLT, Nat.reduceLeDiff, Nat.reduceAdd, Nat.reduceMul, Int.reduceToNat, Int.reduceLE, Int.reduceLT, c38]
              by_cases h38 : c = 38
              · rw [show (c == 38) = true by simp [h38]]
                simp only [↓aX, evp, evq, evl, boxK, stillV, binV, AV.cells, mP, loadV, storeV, ldV, AV.stb, AV.one, IV.av1, Lb.app, Lb.fresh, reduceCtorEq, ptrL, appL, fillA, chunks, ivs, AV.iv, mkE, if_false, if_true, List.not_mem_nil, forall_eq, beq_self_eq_true, List.isEmpty_nil, Nat.reduceEqDiff, Nat.reduceLT, Nat.reduceLeDiff, Nat.reduceAdd, Nat.reduceMul, Int.reduceToNat, Int.reduceLE, Int.reduceLT]
                rw [if_pos ⟨rfl, by decide, by intro y hy; simp only [List.mem_cons, List.not_mem_nil, or_false] at hy; rcases hy with rfl | rfl | rfl | rfl <;> rfl⟩]
                simp only [↓aX, evp, evq, evl, boxK, stillV, binV, AV.cells, mP, loadV, storeV, ldV, AV.stb, AV.one, IV.av1, Lb.app, Lb.fresh, reduceCtorEq, ptrL, appL, fillA, chunks, ivs, AV.iv, mkE, if_false, if_true, List.not_mem_nil, forall_eq, beq_self_eq_true, List.isEmpty_nil, Nat.reduceEqDiff, Nat.reduceLT, Nat.reduceLeDiff, Nat.reduceAdd, Nat.reduceMul, Int.reduceToNat, Int.reduceLE, Int.reduceLT]
                refine callT_mut (l := .par 0) (hI (c :: q) false) (by simp [rens, ren, atL, ents, bLt, bGt, bAmp, bQuot]) (by simp [hL0]) ?_
                intro x1 cs' hx _ _ _
                have hK := entF_K (c :: q)
                cases hk : entK (c :: q) ents 0 with
                | none =>
                  rw [hk] at hx hK
                  simp only at hx hK
                  obtain ⟨rfl, rfl⟩ := hx
                  have hn : textF v (c :: q) = none := by
                    rw [textF, if_neg hns, if_pos h38]
                    split
                    · rename_i e1 q1 h; rw [hK] at h; cases h
                    · rfl
                  simp only [↓aX, evp, evq, evl, boxK, stillV, binV, AV.cells, mP, loadV, storeV, ldV, AV.stb, AV.one, IV.av1, Lb.app, Lb.fresh, reduceCtorEq, ptrL, appL, fillA, chunks, ivs, AV.iv, mkE, if_false, if_true, List.not_mem_nil, forall_eq, beq_self_eq_true, List.isEmpty_nil, Nat.reduceEqDiff, Nat.reduceLT, Nat.reduceLeDiff, Nat.reduceAdd, Nat.reduceMul, Int.reduceToNat, Int.reduceLE, Int.reduceLT, show ((-1 : Int) < 0) = True by simp, decide_true, ret1_r]
                  refine ⟨rdC (c :: q) true, ⟨[], c :: q, true, rfl, rfl, by simp at hlen ⊢; omega, fun _ => rfl, fun hb => ?_⟩, rfl, by simp [lbss, AV.lbs], rfl, by simp [upd_at]⟩
                  rw [hsem, hn]; rfl
                | some y =>
                  obtain ⟨i, r'⟩ := y
                  rw [hk] at hx hK
                  simp only at hx hK
                  obtain ⟨rfl, rfl⟩ := hx
                  obtain ⟨e, he, hent⟩ := hK
                  have hn : textF v (c :: q) = (textF v r').map fun x => (e :: x.1, x.2) := by
                    rw [textF, if_neg hns, if_pos h38]
                    split
                    · rename_i e1 q1 h; rw [hent] at h; cases h; rfl
                    · rename_i h; rw [hent] at h; cases h
                  have hlt := entF_lt hent
                  simp only [↓aX, evp, evq, evl, boxK, stillV, binV, AV.cells, mP, loadV, storeV, ldV, AV.stb, AV.one, IV.av1, Lb.app, Lb.fresh, reduceCtorEq, ptrL, appL, fillA, chunks, ivs, AV.iv, mkE, if_false, if_true, List.not_mem_nil, forall_eq, beq_self_eq_true, List.isEmpty_nil, Nat.reduceEqDiff, Nat.reduceLT, Nat.reduceLeDiff, Nat.reduceAdd, Nat.reduceMul, Int.reduceToNat, Int.reduceLE, Int.reduceLT, show decide (((i : Nat) : Int) < 0) = false by simp, Int.natCast_nonneg, Int.toNat_natCast, he]
                  rw [app_byte (xs := byIV t) (by simp [upd_at, hL5]) (byIV_len t).symm (by simp at hlen; omega) (by simp [Lb.app, Lb.fresh]) (by simp [Lb.app, Lb.fresh, upd_at, hU 65 (by decide)])]
                  simp only [↓aX, evp, evq, evl, boxK, stillV, binV, AV.cells, mP, loadV, storeV, ldV, AV.stb, AV.one, IV.av1, Lb.app, Lb.fresh, reduceCtorEq, ptrL, appL, fillA, chunks, ivs, AV.iv, mkE, if_false, if_true, List.not_mem_nil, forall_eq, beq_self_eq_true, List.isEmpty_nil, Nat.reduceEqDiff, Nat.reduceLT, Nat.reduceLeDiff, Nat.reduceAdd, Nat.reduceMul, Int.reduceToNat, Int.reduceLE, Int.reduceLT, Lb.app, Lb.fresh]
                  refine next e r' 65 _ hn hlt ?_ ?_ ?_ _ ?_ ?_ ?_
                  · rfl
                  · rfl
                  · rfl
                  · simp [upd_at]
                  · simp [upd_at]
                  · intro n hn; simp [upd_at, hUp n hn, hn]
              · rw [show (c == 38) = false by simp [h38]]
                simp only [↓aX, evp, evq, evl, boxK, stillV, binV, AV.cells, mP, loadV, storeV, ldV, AV.stb, AV.one, IV.av1, Lb.app, Lb.fresh, reduceCtorEq, ptrL, appL, fillA, chunks, ivs, AV.iv, mkE, if_false, if_true, List.not_mem_nil, forall_eq, beq_self_eq_true, List.isEmpty_nil, Nat.reduceEqDiff, Nat.reduceLT, Nat.reduceLeDiff, Nat.reduceAdd, Nat.reduceMul, Int.reduceToNat, Int.reduceLE, Int.reduceLT, c62]
                cases h62 : (c == 62) with
                | true =>
                  simp only [↓aX, evp, evq, evl, boxK, stillV, binV, AV.cells, mP, loadV, storeV, ldV, AV.stb, AV.one, IV.av1, Lb.app, Lb.fresh, reduceCtorEq, ptrL, appL, fillA, chunks, ivs, AV.iv, mkE, if_false, if_true, List.not_mem_nil, forall_eq, beq_self_eq_true, List.isEmpty_nil, Nat.reduceEqDiff, Nat.reduceLT, Nat.reduceLeDiff, Nat.reduceAdd, Nat.reduceMul, Int.reduceToNat, Int.reduceLE, Int.reduceLT, hL0]
                  have hn : textF v (c :: q) = none := by rw [textF, if_neg hns, if_neg h38, if_pos (.inl (by simpa using h62))]
                  refine badN _ _ hn ?_ ?_ ?_ ?_ ?_ ?_
                  · rfl
                  · rfl
                  · rfl
                  · simp [upd_at]
                  · simp [upd_at, hL5]
                  · intro n hn; simp [upd_at, hUp n hn, hn]
                | false =>
                  simp only [↓aX, evp, evq, evl, boxK, stillV, binV, AV.cells, mP, loadV, storeV, ldV, AV.stb, AV.one, IV.av1, Lb.app, Lb.fresh, reduceCtorEq, ptrL, appL, fillA, chunks, ivs, AV.iv, mkE, if_false, if_true, List.not_mem_nil, forall_eq, beq_self_eq_true, List.isEmpty_nil, Nat.reduceEqDiff, Nat.reduceLT, Nat.reduceLeDiff, Nat.reduceAdd, Nat.reduceMul, Int.reduceToNat, Int.reduceLE, Int.reduceLT, Bool.not_false]
                  rw [show ((c.toNat : Int) != 10) = !((c.toNat : Int) == 10) from rfl]
                  cases h10 : ((c.toNat : Int) == 10) with
                  | true =>
                    have hpr : printC c = true := by rw [printC_eq, h10]; rfl
                    simp only [↓aX, evp, evq, evl, boxK, stillV, binV, AV.cells, mP, loadV, storeV, ldV, AV.stb, AV.one, IV.av1, Lb.app, Lb.fresh, reduceCtorEq, ptrL, appL, fillA, chunks, ivs, AV.iv, mkE, if_false, if_true, List.not_mem_nil, forall_eq, beq_self_eq_true, List.isEmpty_nil, Nat.reduceEqDiff, Nat.reduceLT, Nat.reduceLeDiff, Nat.reduceAdd, Nat.reduceMul, Int.reduceToNat, Int.reduceLE, Int.reduceLT, Bool.not_true]
                    have hn : textF v (c :: q) = (textF v q).map fun x => (c :: x.1, x.2) := by rw [textF, if_neg hns, if_neg h38, if_neg (by rintro (h | h); exact absurd h (by simpa using h62); rw [hpr] at h; cases h)]
                    rw [app_byte (xs := byIV t) hL5 (byIV_len t).symm (by simp at hlen; omega) (by simp [Lb.app, Lb.fresh]) (hU 28 (by decide))]
                    simp only [↓aX, evp, evq, evl, boxK, stillV, binV, AV.cells, mP, loadV, storeV, ldV, AV.stb, AV.one, IV.av1, Lb.app, Lb.fresh, reduceCtorEq, ptrL, appL, fillA, chunks, ivs, AV.iv, mkE, if_false, if_true, List.not_mem_nil, forall_eq, beq_self_eq_true, List.isEmpty_nil, Nat.reduceEqDiff, Nat.reduceLT, Nat.reduceLeDiff, Nat.reduceAdd, Nat.reduceMul, Int.reduceToNat, Int.reduceLE, Int.reduceLT, Lb.app, Lb.fresh, hL0, bnd, Int.natCast_nonneg, show (0 : Int) ≤ 1 by decide, show (1 : Int).toNat = 1 from rfl, true_and, List.length_cons, show 1 ≤ q.length + 1 by omega, if_true, Option.bind_some, Option.map_some, Nat.add_sub_cancel, List.take_length, List.drop_succ_cons, List.drop_zero, Nat.le_refl, List.take_succ_cons]
                    refine next c q 28 _ hn (by simp) ?_ ?_ ?_ _ ?_ ?_ ?_
                    · rfl
                    · rfl
                    · rfl
                    · simp [upd_at]
                    · simp [upd_at]
                    · intro n hn; simp [upd_at, hUp n hn, hn]
                  | false =>
                    simp only [↓aX, evp, evq, evl, boxK, stillV, binV, AV.cells, mP, loadV, storeV, ldV, AV.stb, AV.one, IV.av1, Lb.app, Lb.fresh, reduceCtorEq, ptrL, appL, fillA, chunks, ivs, AV.iv, mkE, if_false, if_true, List.not_mem_nil, forall_eq, beq_self_eq_true, List.isEmpty_nil, Nat.reduceEqDiff, Nat.reduceLT, Nat.reduceLeDiff, Nat.reduceAdd, Nat.reduceMul, Int.reduceToNat, Int.reduceLE, Int.reduceLT, Bool.not_false]
                    cases h32 : decide ((c.toNat : Int) < 32) with
                    | true =>
                      have hpr : printC c = false := by rw [printC_eq, h10, h32]; rfl
                      simp only [↓aX, evp, evq, evl, boxK, stillV, binV, AV.cells, mP, loadV, storeV, ldV, AV.stb, AV.one, IV.av1, Lb.app, Lb.fresh, reduceCtorEq, ptrL, appL, fillA, chunks, ivs, AV.iv, mkE, if_false, if_true, List.not_mem_nil, forall_eq, beq_self_eq_true, List.isEmpty_nil, Nat.reduceEqDiff, Nat.reduceLT, Nat.reduceLeDiff, Nat.reduceAdd, Nat.reduceMul, Int.reduceToNat, Int.reduceLE, Int.reduceLT, Bool.not_true, hL0]
                      have hn : textF v (c :: q) = none := by rw [textF, if_neg hns, if_neg h38, if_pos (.inr hpr)]
                      refine badN _ _ hn ?_ ?_ ?_ ?_ ?_ ?_
                      · rfl
                      · rfl
                      · rfl
                      · simp [upd_at]
                      · simp [upd_at, hL5]
                      · intro n hn; simp [upd_at, hUp n hn, hn]
                    | false =>
                      simp only [↓aX, evp, evq, evl, boxK, stillV, binV, AV.cells, mP, loadV, storeV, ldV, AV.stb, AV.one, IV.av1, Lb.app, Lb.fresh, reduceCtorEq, ptrL, appL, fillA, chunks, ivs, AV.iv, mkE, if_false, if_true, List.not_mem_nil, forall_eq, beq_self_eq_true, List.isEmpty_nil, Nat.reduceEqDiff, Nat.reduceLT, Nat.reduceLeDiff, Nat.reduceAdd, Nat.reduceMul, Int.reduceToNat, Int.reduceLE, Int.reduceLT, Bool.not_false]
                      cases h126 : decide ((c.toNat : Int) > 126) with
                      | true =>
                        have hpr : printC c = false := by rw [printC_eq, h10, h32, h126]; rfl
                        simp only [↓aX, evp, evq, evl, boxK, stillV, binV, AV.cells, mP, loadV, storeV, ldV, AV.stb, AV.one, IV.av1, Lb.app, Lb.fresh, reduceCtorEq, ptrL, appL, fillA, chunks, ivs, AV.iv, mkE, if_false, if_true, List.not_mem_nil, forall_eq, beq_self_eq_true, List.isEmpty_nil, Nat.reduceEqDiff, Nat.reduceLT, Nat.reduceLeDiff, Nat.reduceAdd, Nat.reduceMul, Int.reduceToNat, Int.reduceLE, Int.reduceLT, hL0]
                        have hn : textF v (c :: q) = none := by rw [textF, if_neg hns, if_neg h38, if_pos (.inr hpr)]
                        refine badN _ _ hn ?_ ?_ ?_ ?_ ?_ ?_
                        · rfl
                        · rfl
                        · rfl
                        · simp [upd_at]
                        · simp [upd_at, hL5]
                        · intro n hn; simp [upd_at, hUp n hn, hn]
                      | false =>
                        have hpr : printC c = true := by rw [printC_eq, h10, h32, h126]; rfl
                        simp only [↓aX, evp, evq, evl, boxK, stillV, binV, AV.cells, mP, loadV, storeV, ldV, AV.stb, AV.one, IV.av1, Lb.app, Lb.fresh, reduceCtorEq, ptrL, appL, fillA, chunks, ivs, AV.iv, mkE, if_false, if_true, List.not_mem_nil, forall_eq, beq_self_eq_true, List.isEmpty_nil, Nat.reduceEqDiff, Nat.reduceLT, Nat.reduceLeDiff, Nat.reduceAdd, Nat.reduceMul, Int.reduceToNat, Int.reduceLE, Int.reduceLT]
                        have hn : textF v (c :: q) = (textF v q).map fun x => (c :: x.1, x.2) := by rw [textF, if_neg hns, if_neg h38, if_neg (by rintro (h | h); exact absurd h (by simpa using h62); rw [hpr] at h; cases h)]
                        rw [app_byte (xs := byIV t) hL5 (byIV_len t).symm (by simp at hlen; omega) (by simp [Lb.app, Lb.fresh]) (hU 28 (by decide))]
                        simp only [↓aX, evp, evq, evl, boxK, stillV, binV, AV.cells, mP, loadV, storeV, ldV, AV.stb, AV.one, IV.av1, Lb.app, Lb.fresh, reduceCtorEq, ptrL, appL, fillA, chunks, ivs, AV.iv, mkE, if_false, if_true, List.not_mem_nil, forall_eq, beq_self_eq_true, List.isEmpty_nil, Nat.reduceEqDiff, Nat.reduceLT, Nat.reduceLeDiff, Nat.reduceAdd, Nat.reduceMul, Int.reduceToNat, Int.reduceLE, Int.reduceLT, Lb.app, Lb.fresh, hL0, bnd, Int.natCast_nonneg, show (0 : Int) ≤ 1 by decide, show (1 : Int).toNat = 1 from rfl, true_and, List.length_cons, show 1 ≤ q.length + 1 by omega, if_true, Option.bind_some, Option.map_some, Nat.add_sub_cancel, List.take_length, List.drop_succ_cons, List.drop_zero, Nat.le_refl, List.take_succ_cons]
                        refine next c q 28 _ hn (by simp) ?_ ?_ ?_ _ ?_ ?_ ?_
                        · rfl
                        · rfl
                        · rfl
                        · simp [upd_at]
                        · simp [upd_at]
                        · intro n hn; simp [upd_at, hUp n hn, hn]
            | false =>
              simp only [↓aX, evp, evq, evl, boxK, stillV, binV, AV.cells, mP, loadV, storeV, ldV, AV.stb, AV.one, IV.av1, Lb.app, Lb.fresh, reduceCtorEq, ptrL, appL, fillA, chunks, ivs, AV.iv, mkE, if_false, if_true, List.not_mem_nil, forall_eq, beq_self_eq_true, List.isEmpty_nil, Nat.reduceEqDiff, Nat.reduceLT, Nat.reduceLeDiff, Nat.reduceAdd, Nat.reduceMul, Int.reduceToNat, Int.reduceLE, Int.reduceLT, c38]
              by_cases h38 : c = 38
              · rw [show (c == 38) = true by simp [h38]]
                simp only [↓aX, evp, evq, evl, boxK, stillV, binV, AV.cells, mP, loadV, storeV, ldV, AV.stb, AV.one, IV.av1, Lb.app, Lb.fresh, reduceCtorEq, ptrL, appL, fillA, chunks, ivs, AV.iv, mkE, if_false, if_true, List.not_mem_nil, forall_eq, beq_self_eq_true, List.isEmpty_nil, Nat.reduceEqDiff, Nat.reduceLT, Nat.reduceLeDiff, Nat.reduceAdd, Nat.reduceMul, Int.reduceToNat, Int.reduceLE, Int.reduceLT]
                rw [if_pos ⟨rfl, by decide, by intro y hy; simp only [List.mem_cons, List.not_mem_nil, or_false] at hy; rcases hy with rfl | rfl | rfl | rfl <;> rfl⟩]
                simp only [↓aX, evp, evq, evl, boxK, stillV, binV, AV.cells, mP, loadV, storeV, ldV, AV.stb, AV.one, IV.av1, Lb.app, Lb.fresh, reduceCtorEq, ptrL, appL, fillA, chunks, ivs, AV.iv, mkE, if_false, if_true, List.not_mem_nil, forall_eq, beq_self_eq_true, List.isEmpty_nil, Nat.reduceEqDiff, Nat.reduceLT, Nat.reduceLeDiff, Nat.reduceAdd, Nat.reduceMul, Int.reduceToNat, Int.reduceLE, Int.reduceLT]
                refine callT_mut (l := .par 0) (hI (c :: q) false) (by simp [rens, ren, atL, ents, bLt, bGt, bAmp, bQuot]) (by simp [hL0]) ?_
                intro x1 cs' hx _ _ _
                have hK := entF_K (c :: q)
                cases hk : entK (c :: q) ents 0 with
                | none =>
                  rw [hk] at hx hK
                  simp only at hx hK
                  obtain ⟨rfl, rfl⟩ := hx
                  have hn : textF v (c :: q) = none := by
                    rw [textF, if_neg hns, if_pos h38]
                    split
                    · rename_i e1 q1 h; rw [hK] at h; cases h
                    · rfl
                  simp only [↓aX, evp, evq, evl, boxK, stillV, binV, AV.cells, mP, loadV, storeV, ldV, AV.stb, AV.one, IV.av1, Lb.app, Lb.fresh, reduceCtorEq, ptrL, appL, fillA, chunks, ivs, AV.iv, mkE, if_false, if_true, List.not_mem_nil, forall_eq, beq_self_eq_true, List.isEmpty_nil, Nat.reduceEqDiff, Nat.reduceLT, Nat.reduceLeDiff, Nat.reduceAdd, Nat.reduceMul, Int.reduceToNat, Int.reduceLE, Int.reduceLT, show ((-1 : Int) < 0) = True by simp, decide_true, ret1_r]
                  refine ⟨rdC (c :: q) true, ⟨[], c :: q, true, rfl, rfl, by simp at hlen ⊢; omega, fun _ => rfl, fun hb => ?_⟩, rfl, by simp [lbss, AV.lbs], rfl, by simp [upd_at]⟩
                  rw [hsem, hn]; rfl
                | some y =>
                  obtain ⟨i, r'⟩ := y
                  rw [hk] at hx hK
                  simp only at hx hK
                  obtain ⟨rfl, rfl⟩ := hx
                  obtain ⟨e, he, hent⟩ := hK
                  have hn : textF v (c :: q) = (textF v r').map fun x => (e :: x.1, x.2) := by
                    rw [textF, if_neg hns, if_pos h38]
                    split
                    · rename_i e1 q1 h; rw [hent] at h; cases h; rfl
                    · rename_i h; rw [hent] at h; cases h
                  have hlt := entF_lt hent
                  simp only [↓aX, evp, evq, evl, boxK, stillV, binV, AV.cells, mP, loadV, storeV, ldV, AV.stb, AV.one, IV.av1, Lb.app, Lb.fresh, reduceCtorEq, ptrL, appL, fillA, chunks, ivs, AV.iv, mkE, if_false, if_true, List.not_mem_nil, forall_eq, beq_self_eq_true, List.isEmpty_nil, Nat.reduceEqDiff, Nat.reduceLT, Nat.reduceLeDiff, Nat.reduceAdd, Nat.reduceMul, Int.reduceToNat, Int.reduceLE, Int.reduceLT, show decide (((i : Nat) : Int) < 0) = false by simp, Int.natCast_nonneg, Int.toNat_natCast, he]
                  rw [app_byte (xs := byIV t) (by simp [upd_at, hL5]) (byIV_len t).symm (by simp at hlen; omega) (by simp [Lb.app, Lb.fresh]) (by simp [Lb.app, Lb.fresh, upd_at, hU 65 (by decide)])]
                  simp only [↓aX, evp, evq, evl, boxK, stillV, binV, AV.cells, mP, loadV, storeV, ldV, AV.stb, AV.one, IV.av1, Lb.app, Lb.fresh, reduceCtorEq, ptrL, appL, fillA, chunks, ivs, AV.iv, mkE, if_false, if_true, List.not_mem_nil, forall_eq, beq_self_eq_true, List.isEmpty_nil, Nat.reduceEqDiff, Nat.reduceLT, Nat.reduceLeDiff, Nat.reduceAdd, Nat.reduceMul, Int.reduceToNat, Int.reduceLE, Int.reduceLT, Lb.app, Lb.fresh]
                  refine next e r' 65 _ hn hlt ?_ ?_ ?_ _ ?_ ?_ ?_
                  · rfl
                  · rfl
                  · rfl
                  · simp [upd_at]
                  · simp [upd_at]
                  · intro n hn; simp [upd_at, hUp n hn, hn]
              · rw [show (c == 38) = false by simp [h38]]
                simp only [↓aX, evp, evq, evl, boxK, stillV, binV, AV.cells, mP, loadV, storeV, ldV, AV.stb, AV.one, IV.av1, Lb.app, Lb.fresh, reduceCtorEq, ptrL, appL, fillA, chunks, ivs, AV.iv, mkE, if_false, if_true, List.not_mem_nil, forall_eq, beq_self_eq_true, List.isEmpty_nil, Nat.reduceEqDiff, Nat.reduceLT, Nat.reduceLeDiff, Nat.reduceAdd, Nat.reduceMul, Int.reduceToNat, Int.reduceLE, Int.reduceLT, c62]
                cases h62 : (c == 62) with
                | true =>
                  simp only [↓aX, evp, evq, evl, boxK, stillV, binV, AV.cells, mP, loadV, storeV, ldV, AV.stb, AV.one, IV.av1, Lb.app, Lb.fresh, reduceCtorEq, ptrL, appL, fillA, chunks, ivs, AV.iv, mkE, if_false, if_true, List.not_mem_nil, forall_eq, beq_self_eq_true, List.isEmpty_nil, Nat.reduceEqDiff, Nat.reduceLT, Nat.reduceLeDiff, Nat.reduceAdd, Nat.reduceMul, Int.reduceToNat, Int.reduceLE, Int.reduceLT, hL0]
                  have hn : textF v (c :: q) = none := by rw [textF, if_neg hns, if_neg h38, if_pos (.inl (by simpa using h62))]
                  refine badN _ _ hn ?_ ?_ ?_ ?_ ?_ ?_
                  · rfl
                  · rfl
                  · rfl
                  · simp [upd_at]
                  · simp [upd_at, hL5]
                  · intro n hn; simp [upd_at, hUp n hn, hn]
                | false =>
                  simp only [↓aX, evp, evq, evl, boxK, stillV, binV, AV.cells, mP, loadV, storeV, ldV, AV.stb, AV.one, IV.av1, Lb.app, Lb.fresh, reduceCtorEq, ptrL, appL, fillA, chunks, ivs, AV.iv, mkE, if_false, if_true, List.not_mem_nil, forall_eq, beq_self_eq_true, List.isEmpty_nil, Nat.reduceEqDiff, Nat.reduceLT, Nat.reduceLeDiff, Nat.reduceAdd, Nat.reduceMul, Int.reduceToNat, Int.reduceLE, Int.reduceLT, Bool.not_false]
                  rw [show ((c.toNat : Int) != 10) = !((c.toNat : Int) == 10) from rfl]
                  cases h10 : ((c.toNat : Int) == 10) with
                  | true =>
                    have hpr : printC c = true := by rw [printC_eq, h10]; rfl
                    simp only [↓aX, evp, evq, evl, boxK, stillV, binV, AV.cells, mP, loadV, storeV, ldV, AV.stb, AV.one, IV.av1, Lb.app, Lb.fresh, reduceCtorEq, ptrL, appL, fillA, chunks, ivs, AV.iv, mkE, if_false, if_true, List.not_mem_nil, forall_eq, beq_self_eq_true, List.isEmpty_nil, Nat.reduceEqDiff, Nat.reduceLT, Nat.reduceLeDiff, Nat.reduceAdd, Nat.reduceMul, Int.reduceToNat, Int.reduceLE, Int.reduceLT, Bool.not_true]
                    have hn : textF v (c :: q) = (textF v q).map fun x => (c :: x.1, x.2) := by rw [textF, if_neg hns, if_neg h38, if_neg (by rintro (h | h); exact absurd h (by simpa using h62); rw [hpr] at h; cases h)]
                    rw [app_byte (xs := byIV t) hL5 (byIV_len t).symm (by simp at hlen; omega) (by simp [Lb.app, Lb.fresh]) (hU 28 (by decide))]
                    simp only [↓aX, evp, evq, evl, boxK, stillV, binV, AV.cells, mP, loadV, storeV, ldV, AV.stb, AV.one, IV.av1, Lb.app, Lb.fresh, reduceCtorEq, ptrL, appL, fillA, chunks, ivs, AV.iv, mkE, if_false, if_true, List.not_mem_nil, forall_eq, beq_self_eq_true, List.isEmpty_nil, Nat.reduceEqDiff, Nat.reduceLT, Nat.reduceLeDiff, Nat.reduceAdd, Nat.reduceMul, Int.reduceToNat, Int.reduceLE, Int.reduceLT, Lb.app, Lb.fresh, hL0, bnd, Int.natCast_nonneg, show (0 : Int) ≤ 1 by decide, show (1 : Int).toNat = 1 from rfl, true_and, List.length_cons, show 1 ≤ q.length + 1 by omega, if_true, Option.bind_some, Option.map_some, Nat.add_sub_cancel, List.take_length, List.drop_succ_cons, List.drop_zero, Nat.le_refl, List.take_succ_cons]
                    refine next c q 28 _ hn (by simp) ?_ ?_ ?_ _ ?_ ?_ ?_
                    · rfl
                    · rfl
                    · rfl
                    · simp [upd_at]
                    · simp [upd_at]
                    · intro n hn; simp [upd_at, hUp n hn, hn]
                  | false =>
                    simp only [↓aX, evp, evq, evl, boxK, stillV, binV, AV.cells, mP, loadV, storeV, ldV, AV.stb, AV.one, IV.av1, Lb.app, Lb.fresh, reduceCtorEq, ptrL, appL, fillA, chunks, ivs, AV.iv, mkE, if_false, if_true, List.not_mem_nil, forall_eq, beq_self_eq_true, List.isEmpty_nil, Nat.reduceEqDiff, Nat.reduceLT, Nat.reduceLeDiff, Nat.reduceAdd, Nat.reduceMul, Int.reduceToNat, Int.reduceLE, Int.reduceLT, Bool.not_false]
                    cases h32 : decide ((c.toNat : Int) < 32) with
                    | true =>
                      have hpr : printC c = false := by rw [printC_eq, h10, h32]; rfl
                      simp only [↓aX, evp, evq, evl, boxK, stillV, binV, AV.cells, mP, loadV, storeV, ldV, AV.stb, AV.one, IV.av1, Lb.app, Lb.fresh, reduceCtorEq, ptrL, appL, fillA, chunks, ivs, AV.iv, mkE, if_false, if_true, List.not_mem_nil, forall_eq, beq_self_eq_true, List.isEmpty_nil, Nat.reduceEqDiff, Nat.reduceLT, Nat.reduceLeDiff, Nat.reduceAdd, Nat.reduceMul, Int.reduceToNat, Int.reduceLE, Int.reduceLT, Bool.not_true, hL0]
                      have hn : textF v (c :: q) = none := by rw [textF, if_neg hns, if_neg h38, if_pos (.inr hpr)]
                      refine badN _ _ hn ?_ ?_ ?_ ?_ ?_ ?_
                      · rfl
                      · rfl
                      · rfl
                      · simp [upd_at]
                      · simp [upd_at, hL5]
                      · intro n hn; simp [upd_at, hUp n hn, hn]
                    | false =>
                      simp only [↓aX, evp, evq, evl, boxK, stillV, binV, AV.cells, mP, loadV, storeV, ldV, AV.stb, AV.one, IV.av1, Lb.app, Lb.fresh, reduceCtorEq, ptrL, appL, fillA, chunks, ivs, AV.iv, mkE, if_false, if_true, List.not_mem_nil, forall_eq, beq_self_eq_true, List.isEmpty_nil, Nat.reduceEqDiff, Nat.reduceLT, Nat.reduceLeDiff, Nat.reduceAdd, Nat.reduceMul, Int.reduceToNat, Int.reduceLE, Int.reduceLT, Bool.not_false]
                      cases h126 : decide ((c.toNat : Int) > 126) with
                      | true =>
                        have hpr : printC c = false := by rw [printC_eq, h10, h32, h126]; rfl
                        simp only [↓aX, evp, evq, evl, boxK, stillV, binV, AV.cells, mP, loadV, storeV, ldV, AV.stb, AV.one, IV.av1, Lb.app, Lb.fresh, reduceCtorEq, ptrL, appL, fillA, chunks, ivs, AV.iv, mkE, if_false, if_true, List.not_mem_nil, forall_eq, beq_self_eq_true, List.isEmpty_nil, Nat.reduceEqDiff, Nat.reduceLT, Nat.reduceLeDiff, Nat.reduceAdd, Nat.reduceMul, Int.reduceToNat, Int.reduceLE, Int.reduceLT, hL0]
                        have hn : textF v (c :: q) = none := by rw [textF, if_neg hns, if_neg h38, if_pos (.inr hpr)]
                        refine badN _ _ hn ?_ ?_ ?_ ?_ ?_ ?_
                        · rfl
                        · rfl
                        · rfl
                        · simp [upd_at]
                        · simp [upd_at, hL5]
                        · intro n hn; simp [upd_at, hUp n hn, hn]
                      | false =>
                        have hpr : printC c = true := by rw [printC_eq, h10, h32, h126]; rfl
                        simp only [↓aX, evp, evq, evl, boxK, stillV, binV, AV.cells, mP, loadV, storeV, ldV, AV.stb, AV.one, IV.av1, Lb.app, Lb.fresh, reduceCtorEq, ptrL, appL, fillA, chunks, ivs, AV.iv, mkE, if_false, if_true, List.not_mem_nil, forall_eq, beq_self_eq_true, List.isEmpty_nil, Nat.reduceEqDiff, Nat.reduceLT, Nat.reduceLeDiff, Nat.reduceAdd, Nat.reduceMul, Int.reduceToNat, Int.reduceLE, Int.reduceLT]
                        have hn : textF v (c :: q) = (textF v q).map fun x => (c :: x.1, x.2) := by rw [textF, if_neg hns, if_neg h38, if_neg (by rintro (h | h); exact absurd h (by simpa using h62); rw [hpr] at h; cases h)]
                        rw [app_byte (xs := byIV t) hL5 (byIV_len t).symm (by simp at hlen; omega) (by simp [Lb.app, Lb.fresh]) (hU 28 (by decide))]
                        simp only [↓aX, evp, evq, evl, boxK, stillV, binV, AV.cells, mP, loadV, storeV, ldV, AV.stb, AV.one, IV.av1, Lb.app, Lb.fresh, reduceCtorEq, ptrL, appL, fillA, chunks, ivs, AV.iv, mkE, if_false, if_true, List.not_mem_nil, forall_eq, beq_self_eq_true, List.isEmpty_nil, Nat.reduceEqDiff, Nat.reduceLT, Nat.reduceLeDiff, Nat.reduceAdd, Nat.reduceMul, Int.reduceToNat, Int.reduceLE, Int.reduceLT, Lb.app, Lb.fresh, hL0, bnd, Int.natCast_nonneg, show (0 : Int) ≤ 1 by decide, show (1 : Int).toNat = 1 from rfl, true_and, List.length_cons, show 1 ≤ q.length + 1 by omega, if_true, Option.bind_some, Option.map_some, Nat.add_sub_cancel, List.take_length, List.drop_succ_cons, List.drop_zero, Nat.le_refl, List.take_succ_cons]
                        refine next c q 28 _ hn (by simp) ?_ ?_ ?_ _ ?_ ?_ ?_
                        · rfl
                        · rfl
                        · rfl
                        · simp [upd_at]
                        · simp [upd_at]
                        · intro n hn; simp [upd_at, hUp n hn, hn]
end
end Go.Am
