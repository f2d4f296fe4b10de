import Derived.Test.YtfinkeaikbmpgaaDoorT34
import Derived.Test.YtfinkeaikbmpgaaDoorT37
set_option linter.unusedSimpArgs false
set_option linter.unusedVariables false
set_option linter.unnecessarySimpa false
set_option linter.defProp false
/- Splitting, as strings.Split does it. -/
namespace Go.Am
open Go Go.RowKit
theorem mks_in {sz b d : Nat} {z : List AV} {m : Nat} {k k' : IntKind} {H : Hp} (h1 : m * b ≤ 140737488355328) (h2 : H (.loc d) = .unused) :
    mksV sz b d z (.int k (m : Int)) (.int k' (m : Int)) H = some (.sl (.loc d) sz 0 m, upd H (.loc d) (.live ⟨sz, List.replicate m z⟩)) := by
  unfold mksV
  simp only
  rw [if_pos ⟨rfl, by omega, by simpa using h1, h2⟩, Int.toNat_natCast]
def rowS (ws : List Bs) : List (List AV) := ws.map fun w => [AV.str w]
theorem rowS_imm (ws : List Bs) : rowS ws = immE (ws.map IV.str) := by simp [rowS, immE, IV.cells, IV.av1]
theorem rowS_lbs {ws : List Bs} {cs : List AV} (h : cs ∈ rowS ws) : lbss cs = [] := by rw [rowS_imm] at h; exact lbss_immE h
theorem rowS_set (ws : List Bs) (i : Nat) (w : Bs) : (rowS ws).set i [.str w] = rowS (ws.set i w) := by simp [rowS, List.map_set]
theorem rowS_get (ws : List Bs) (i : Nat) : (rowS ws)[i]? = ws[i]?.map fun w => [AV.str w] := by simp [rowS]
theorem flatS (ws : List Bs) : Flat (ws.map IV.str) := by
  intro y hy z hz cs
  obtain ⟨w, _, rfl⟩ := List.mem_map.1 hy
  simp only [IV.cells, List.mem_singleton] at hz
  subst hz; simp
/-- The words so far, and room for the rest. -/
def wordsTo (ws : List Bs) (n i : Nat) : List Bs := ws.take i ++ List.replicate (n - i) []
theorem wordsTo_len {ws : List Bs} {n i : Nat} (h : i ≤ ws.length) (h2 : i ≤ n) : (wordsTo ws n i).length = n := by simp [wordsTo]; omega
theorem wordsTo_set {ws : List Bs} {n i : Nat} {w : Bs} (h : ws[i]? = some w) (h2 : i < n) : (wordsTo ws n i).set i w = wordsTo ws n (i + 1) := by
  have hl := (List.getElem?_eq_some_iff.1 h).1
  have hlen : (ws.take i).length = i := by rw [List.length_take]; omega
  unfold wordsTo
  rw [List.set_append_right _ _ (by omega), hlen, Nat.sub_self, List.take_add_one, h, show n - i = (n - (i + 1)) + 1 by omega, List.replicate_succ, List.set_cons_zero]
  simp
theorem wordsTo_all {ws : List Bs} {n : Nat} (h : ws.length = n) : wordsTo ws n n = ws := by
  unfold wordsTo
  rw [Nat.sub_self, List.replicate_zero, List.append_nil, List.take_of_length_le (by omega)]
def c_strings_genSplit (f_strings_explode f_strings_Count f_strings_Index : Nat) : AC :=
(.seq (.reg [⟨(some 8), none, (.mov (.c .nil0))⟩]) (.seq (.seq (.reg [⟨(some 12), none, (.mov (.t 3))⟩, ⟨(some 13), none, (.bin .eql (.t 12) (.c (.int .i64 0)))⟩]) (.cond (.t 13) (.seq (.reg [⟨(some 8), none, (.mov (.c .nil0))⟩]) .ret) .skip)) (.seq (.seq (.reg [⟨(some 14), none, (.mov (.t 1))⟩, ⟨(some 15), none, (.bin .eql (.t 14) (.c (.str [])))⟩]) (.cond (.t 15) (.seq (.reg [⟨(some 16), none, (.mov (.t 0))⟩, ⟨(some 17), none, (.mov (.t 3))⟩, ⟨(some 18), none, (.call f_strings_explode [(.t 16), (.t 17)])⟩, ⟨(some 8), none, (.mov (.t 18))⟩]) .ret) .skip)) (.seq (.seq (.reg [⟨(some 19), none, (.mov (.t 3))⟩, ⟨(some 20), none, (.bin .lss (.t 19) (.c (.int .i64 0)))⟩]) (.cond (.t 20) (.reg [⟨(some 21), none, (.mov (.t 0))⟩, ⟨(some 22), none, (.mov (.t 1))⟩, ⟨(some 23), none, (.call f_strings_Count [(.t 21), (.t 22)])⟩, ⟨(some 24), none, (.bin .add (.t 23) (.c (.int .i64 1)))⟩, ⟨(some 3), none, (.mov (.t 24))⟩]) .skip)) (.seq (.reg [⟨(some 25), none, (.mov (.t 3))⟩, ⟨(some 26), none, (.mov (.t 0))⟩, ⟨(some 27), none, (.lens (.t 26))⟩, ⟨(some 28), none, (.bin .add (.t 27) (.c (.int .i64 1)))⟩, ⟨(some 29), none, (.min (.t 25) (.t 28))⟩, ⟨(some 3), none, (.mov (.t 29))⟩]) (.seq (.reg [⟨(some 30), none, (.mov (.t 3))⟩, ⟨(some 31), none, (.mks (.t 30) (.t 30) 1 16 [(.str [])])⟩, ⟨(some 9), none, (.mov (.t 31))⟩]) (.seq (.reg [⟨(some 32), none, (.mov (.t 3))⟩, ⟨(some 33), none, (.bin .sub (.t 32) (.c (.int .i64 1)))⟩, ⟨(some 3), none, (.mov (.t 33))⟩]) (.seq (.reg [⟨(some 10), none, (.mov (.c (.int .i64 0)))⟩]) (.seq (.block 0 (.loop (.seq (.seq (.reg [⟨(some 34), none, (.mov (.t 10))⟩, ⟨(some 35), none, (.mov (.t 3))⟩, ⟨(some 36), none, (.bin .lss (.t 34) (.t 35))⟩]) (.cond (.t 36) .skip (.exit 0))) (.block 1 (.seq (.reg [⟨(some 37), none, (.mov (.t 0))⟩, ⟨(some 38), none, (.mov (.t 1))⟩, ⟨(some 39), none, (.call f_strings_Index [(.t 37), (.t 38)])⟩, ⟨(some 11), none, (.mov (.t 39))⟩]) (.seq (.seq (.reg [⟨(some 40), none, (.mov (.t 11))⟩, ⟨(some 41), none, (.bin .lss (.t 40) (.c (.int .i64 0)))⟩]) (.cond (.t 41) (.exit 0) .skip)) (.seq (.reg [⟨(some 42), none, (.mov (.t 9))⟩, ⟨(some 43), none, (.mov (.t 10))⟩, ⟨(some 44), none, (.mov (.t 0))⟩, ⟨(some 45), none, (.mov (.t 11))⟩, ⟨(some 46), none, (.mov (.t 2))⟩, ⟨(some 47), none, (.bin .add (.t 45) (.t 46))⟩, ⟨(some 48), none, (.slcs (.t 44) none (some (.t 47)))⟩, ⟨(some 49), none, (.ixa (.t 42) (.t 43) 1)⟩, ⟨none, none, (.store 1 (.t 49) (.t 48))⟩]) (.seq (.reg [⟨(some 50), none, (.mov (.t 0))⟩, ⟨(some 51), none, (.mov (.t 11))⟩, ⟨(some 52), none, (.mov (.t 1))⟩, ⟨(some 53), none, (.lens (.t 52))⟩, ⟨(some 54), none, (.bin .add (.t 51) (.t 53))⟩, ⟨(some 55), none, (.slcs (.t 50) (some (.t 54)) none)⟩, ⟨(some 0), none, (.mov (.t 55))⟩]) (.reg [⟨(some 56), none, (.mov (.t 10))⟩, ⟨(some 57), none, (.bin .add (.t 56) (.c (.int .i64 1)))⟩, ⟨(some 10), none, (.mov (.t 57))⟩]))))))))) (.seq (.reg [⟨(some 58), none, (.mov (.t 9))⟩, ⟨(some 59), none, (.mov (.t 10))⟩, ⟨(some 60), none, (.mov (.t 0))⟩, ⟨(some 61), none, (.ixa (.t 58) (.t 59) 1)⟩, ⟨none, none, (.store 1 (.t 61) (.t 60))⟩]) (.seq (.reg [⟨(some 62), none, (.mov (.t 9))⟩, ⟨(some 63), none, (.mov (.t 10))⟩, ⟨(some 64), none, (.bin .add (.t 63) (.c (.int .i64 1)))⟩, ⟨(some 65), none, (.slc (.t 62) none (some (.t 64)) none 1)⟩, ⟨(some 8), none, (.mov (.t 65))⟩]) (.gh (.frz (.loc 31) 8) .ret))))))))))))
structure SplS (c : UInt8) (s : Bs) where
  i : Nat
  r : Bs
  hc : r.count c + i = s.count c
  hs : splitC c s = (splitC c s).take i ++ splitC c r
  hl : r.length ≤ s.length
theorem pGenSplit {P : Program} {G : Nat → Option (List IV)} {f_strings_genSplit f_strings_explode f_strings_Count f_strings_Index : Nat} (hF : compF P G f_strings_genSplit = some (66, [(none, 8)], (c_strings_genSplit f_strings_explode f_strings_Count f_strings_Index).bare)) (s : Bs) (c : UInt8) (hs : s.length ≤ B)
    (hC : PureC P G f_strings_Count [.str s, .str [c]] (.int .i64 ((s.count c : Nat) : Int))) (hX : ∀ r : Bs, PureC P G f_strings_Index [.str r, .str [c]] (.int .i64 (Lib.indexByte r c))) :
    PureC P G f_strings_genSplit [.str s, .str [c], .int .i64 0, .int .i64 (-1)] (.list ((splitC c s).map IV.str)) := by
  refine pure_of_go hF (by simp) (by simp [lbss, AV.lbs]) (by simp [AV.lbs]) ?_
  have hcl : s.count c ≤ s.length := List.count_le_length
  have hBv : B = 1073741824 := rfl
  have hsl := split_len c _ s rfl
  have hw1 : IntKind.i64.wrap (((s.count c : Nat) : Int) + 1) = ((s.count c + 1 : Nat) : Int) := wrap64 (by omega) (by omega)
  have hw2 : IntKind.i64.wrap (((s.length : Nat) : Int) + 1) = ((s.length + 1 : Nat) : Int) := wrap64 (by omega) (by omega)
  have hw3 : IntKind.i64.wrap (((s.count c + 1 : Nat) : Int) - 1) = ((s.count c : Nat) : Int) := by rw [wrap64 (by omega) (by omega)]; omega
  have hmin : ¬ (((s.length + 1 : Nat) : Int) < ((s.count c + 1 : Nat) : Int)) := by omega
  unfold c_strings_genSplit
  simp only [↓aX, evp, evq, evl, boxK, stillV, binV, AV.cells, mP, loadV, storeV, ldV, AV.stb, AV.one, IV.av1, Lb.app, Lb.fresh, reduceCtorEq, ptrL, appL, fillA, chunks, ivs, AV.iv, mkE, if_false, if_true, List.not_mem_nil, forall_eq, beq_self_eq_true, List.isEmpty_nil, Nat.reduceEqDiff, Nat.reduceLT, Nat.reduceLeDiff, Nat.reduceAdd, Nat.reduceMul, Int.reduceToNat, Int.reduceLE, Int.reduceLT, show ((-1 : Int) == 0) = false from rfl, show (([c] : Bs) == []) = false from rfl, decide_true]
  refine callT_pure hC ?_
  simp only [↓aX, evp, evq, evl, boxK, stillV, binV, AV.cells, mP, loadV, storeV, ldV, AV.stb, AV.one, IV.av1, Lb.app, Lb.fresh, reduceCtorEq, ptrL, appL, fillA, chunks, ivs, AV.iv, mkE, if_false, if_true, List.not_mem_nil, forall_eq, beq_self_eq_true, List.isEmpty_nil, Nat.reduceEqDiff, Nat.reduceLT, Nat.reduceLeDiff, Nat.reduceAdd, Nat.reduceMul, Int.reduceToNat, Int.reduceLE, Int.reduceLT, hw1, hw2, hmin]
  rw [mks_in (by omega) (by simp [Hp.none])]
  simp only [↓aX, evp, evq, evl, boxK, stillV, binV, AV.cells, mP, loadV, storeV, ldV, AV.stb, AV.one, IV.av1, Lb.app, Lb.fresh, reduceCtorEq, ptrL, appL, fillA, chunks, ivs, AV.iv, mkE, if_false, if_true, List.not_mem_nil, forall_eq, beq_self_eq_true, List.isEmpty_nil, Nat.reduceEqDiff, Nat.reduceLT, Nat.reduceLeDiff, Nat.reduceAdd, Nat.reduceMul, Int.reduceToNat, Int.reduceLE, Int.reduceLT, hw3]
  refine loop_same (σ := SplS c s) [.loc 31] (fun q => [(0, .str q.r), (1, .str [c]), (2, .int .i64 0), (3, .int .i64 ((s.count c : Nat) : Int)), (9, .sl (.loc 31) 1 0 (s.count c + 1)), (10, .int .i64 q.i)])
    (fun q => [(.loc 31, ⟨1, rowS (wordsTo (splitC c s) (s.count c + 1) q.i)⟩)]) (fun q => s.count c - q.i) ⟨0, s, rfl, by simp, Nat.le_refl _⟩ (fun _ => rfl) (by decide) (by simp [lbss, AV.lbs]) (by
      intro q r hr cs hcs l hl
      simp only [List.mem_singleton] at hr
      subst hr
      rw [rowS_lbs hcs] at hl; simp at hl) ?_ ?_
  · refine WS_mk (by simp only [NFx_loc, NFx_none]) (by repeat' constructor) ⟨?_, trivial⟩
    simp [wordsTo, rowS, upd_at]
  · rintro ⟨i, r, hc, hsp, hl⟩
    have hlen : (wordsTo (splitC c s) (s.count c + 1) i).length = s.count c + 1 := wordsTo_len (by omega) (by omega)
    simp only [↓aX, evp, evq, evl, boxK, stillV, binV, AV.cells, mP, loadV, storeV, ldV, AV.stb, AV.one, IV.av1, Lb.app, Lb.fresh, reduceCtorEq, ptrL, appL, fillA, chunks, ivs, AV.iv, mkE, if_false, if_true, List.not_mem_nil, forall_eq, beq_self_eq_true, List.isEmpty_nil, Nat.reduceEqDiff, Nat.reduceLT, Nat.reduceLeDiff, Nat.reduceAdd, Nat.reduceMul, Int.reduceToNat, Int.reduceLE, Int.reduceLT, ofH_nil, ofH_cons]
    by_cases hlt : i < s.count c
    · rw [show decide (((i : Nat) : Int) < ((s.count c : Nat) : Int)) = true by simpa using hlt]
      simp only [↓aX, evp, evq, evl, boxK, stillV, binV, AV.cells, mP, loadV, storeV, ldV, AV.stb, AV.one, IV.av1, Lb.app, Lb.fresh, reduceCtorEq, ptrL, appL, fillA, chunks, ivs, AV.iv, mkE, if_false, if_true, List.not_mem_nil, forall_eq, beq_self_eq_true, List.isEmpty_nil, Nat.reduceEqDiff, Nat.reduceLT, Nat.reduceLeDiff, Nat.reduceAdd, Nat.reduceMul, Int.reduceToNat, Int.reduceLE, Int.reduceLT]
      refine callT_pure (hX r) ?_
      rcases idx_cases c r with ⟨_, h2, _⟩ | ⟨m, h1, h2, h3, h4⟩
      · omega
      rw [h1]
      have hget : (splitC c s)[i]? = some (r.take m) := by
        rw [hsp, List.getElem?_append_right (by rw [List.length_take]; omega), h4, List.length_take, Nat.min_eq_left (by omega), Nat.sub_self]; rfl
      obtain ⟨w0, hw0⟩ : ∃ w0, (wordsTo (splitC c s) (s.count c + 1) i)[i]? = some w0 := ⟨_, List.getElem?_eq_getElem (by omega)⟩
      have hset := wordsTo_set (n := s.count c + 1) hget (by omega)
      have hwa : IntKind.i64.wrap (((m : Nat) : Int) + 0) = ((m : Nat) : Int) := by rw [wrap64 (by omega) (by omega)]; omega
      have hwb : IntKind.i64.wrap (((m : Nat) : Int) + 1) = ((m + 1 : Nat) : Int) := wrap64 (by omega) (by omega)
      have hwc : IntKind.i64.wrap (((i : Nat) : Int) + 1) = ((i + 1 : Nat) : Int) := wrap64 (by omega) (by omega)
      simp only [↓aX, evp, evq, evl, boxK, stillV, binV, AV.cells, mP, loadV, storeV, ldV, AV.stb, AV.one, IV.av1, Lb.app, Lb.fresh, reduceCtorEq, ptrL, appL, fillA, chunks, ivs, AV.iv, mkE, if_false, if_true, List.not_mem_nil, forall_eq, beq_self_eq_true, List.isEmpty_nil, Nat.reduceEqDiff, Nat.reduceLT, Nat.reduceLeDiff, Nat.reduceAdd, Nat.reduceMul, Int.reduceToNat, Int.reduceLE, Int.reduceLT, show ¬ (((m : Nat) : Int) < 0) by omega, decide_false, hwa, bnd, evq, Int.natCast_nonneg, Int.toNat_natCast, true_and, show m ≤ r.length by omega, List.drop_zero, rowS_set, rowS_get, hlen, hw0, Option.map_some, Option.bind_some, List.drop_succ_cons, List.drop_nil, hset, show i < s.count c + 1 by omega, Nat.zero_add,
        List.length_cons, List.length_nil, show ((1 : Nat) : Int) = 1 from rfl, hwb, show m + 1 ≤ r.length by omega, List.take_length, hwc]
      exact ⟨⟨i + 1, r.drop (m + 1), by omega, by
          have h5 : (splitC c s).take (i + 1) = (splitC c s).take i ++ [r.take m] := by rw [List.take_add_one, hget]; rfl
          rw [h5, List.append_assoc]
          rw [h4] at hsp
          exact hsp, by rw [List.length_drop]; omega⟩, by simp only; omega, WS_mk (by simp only [NFx_loc, NFx_none]) (by repeat' constructor) ⟨by simp [upd_at], trivial⟩⟩
    · have hi : i = s.count c := by omega
      subst hi
      have hz : r.count c = 0 := by omega
      have hr : splitC c r = [r] := by
        rcases idx_cases c r with ⟨_, _, h3⟩ | ⟨m, _, _, h3, _⟩
        · exact h3
        · omega
      have hget : (splitC c s)[s.count c]? = some r := by
        rw [hsp, hr, List.getElem?_append_right (by rw [List.length_take]; omega), List.length_take, Nat.min_eq_left (by omega), Nat.sub_self]; rfl
      obtain ⟨w0, hw0⟩ : ∃ w0, (wordsTo (splitC c s) (s.count c + 1) (s.count c))[s.count c]? = some w0 := ⟨_, List.getElem?_eq_getElem (by omega)⟩
      have hset := wordsTo_set (n := s.count c + 1) hget (by omega)
      rw [wordsTo_all hsl] at hset
      rw [show decide (((s.count c : Nat) : Int) < ((s.count c : Nat) : Int)) = false by simp]
      simp only [↓aX, evp, evq, evl, boxK, stillV, binV, AV.cells, mP, loadV, storeV, ldV, AV.stb, AV.one, IV.av1, Lb.app, Lb.fresh, reduceCtorEq, ptrL, appL, fillA, chunks, ivs, AV.iv, mkE, if_false, if_true, List.not_mem_nil, forall_eq, beq_self_eq_true, List.isEmpty_nil, Nat.reduceEqDiff, Nat.reduceLT, Nat.reduceLeDiff, Nat.reduceAdd, Nat.reduceMul, Int.reduceToNat, Int.reduceLE, Int.reduceLT, bnd, evq, Int.natCast_nonneg, Int.toNat_natCast, true_and, rowS_get, hw0, Option.map_some, Option.bind_some, List.length_cons, List.length_nil, List.drop_succ_cons, List.drop_zero, List.drop_nil, Nat.zero_add, rowS_set, hset, hw1,
        show s.count c < s.count c + 1 by omega, Nat.le_refl]
      simp only [↓aX, evp, evq, evl, boxK, stillV, binV, AV.cells, mP, loadV, storeV, ldV, AV.stb, AV.one, IV.av1, Lb.app, Lb.fresh, reduceCtorEq, ptrL, appL, fillA, chunks, ivs, AV.iv, mkE, if_false, if_true, List.not_mem_nil, forall_eq, beq_self_eq_true, List.isEmpty_nil, Nat.reduceEqDiff, Nat.reduceLT, Nat.reduceLeDiff, Nat.reduceAdd, Nat.reduceMul, Int.reduceToNat, Int.reduceLE, Int.reduceLT, slcV, cutB, bnd, evq, Int.natCast_nonneg, Int.toNat_natCast, true_and, Nat.le_refl, Nat.zero_le, Option.bind_some, Option.map_some, Option.isSome_none, Nat.sub_zero, Nat.add_zero, Nat.zero_add]
      refine ⟨1, (splitC c s).map IV.str, 0, s.count c + 1, rfl, ?_, by simp [hsl], flatS _, ?_⟩
      · rw [← rowS_imm]; try simp [upd_at]
      · simp only [↓aX, evp, evq, evl, boxK, stillV, binV, AV.cells, mP, loadV, storeV, ldV, AV.stb, AV.one, IV.av1, Lb.app, Lb.fresh, reduceCtorEq, ptrL, appL, fillA, chunks, ivs, AV.iv, mkE, if_false, if_true, List.not_mem_nil, forall_eq, beq_self_eq_true, List.isEmpty_nil, Nat.reduceEqDiff, Nat.reduceLT, Nat.reduceLeDiff, Nat.reduceAdd, Nat.reduceMul, Int.reduceToNat, Int.reduceLE, Int.reduceLT, List.drop_zero, List.take_of_length_le (show ((splitC c s).map IV.str).length ≤ s.count c + 1 by rw [List.length_map]; omega)]
def c_strings_Split (f_strings_genSplit : Nat) : AC :=
(.seq (.reg [⟨(some 4), none, (.mov (.c .nil0))⟩]) (.seq (.reg [⟨(some 5), none, (.mov (.t 0))⟩, ⟨(some 6), none, (.mov (.t 1))⟩, ⟨(some 7), none, (.call f_strings_genSplit [(.t 5), (.t 6), (.c (.int .i64 0)), (.c (.int .i64 (-1)))])⟩, ⟨(some 4), none, (.mov (.t 7))⟩]) .ret))
theorem pSplit {P : Program} {G : Nat → Option (List IV)} {f_strings_Split f_strings_genSplit : Nat} (hF : compF P G f_strings_Split = some (8, [(none, 4)], (c_strings_Split f_strings_genSplit).bare)) (s : Bs) (c : UInt8)
    (hX : PureC P G f_strings_genSplit [.str s, .str [c], .int .i64 0, .int .i64 (-1)] (.list ((splitC c s).map IV.str))) : PureC P G f_strings_Split [.str s, .str [c]] (.list ((splitC c s).map IV.str)) := by
  refine pure_of_go hF (by simp) (by simp [lbss, AV.lbs]) (by simp [AV.lbs]) ?_
  unfold c_strings_Split
  simp only [↓aX, evp, evq, evl, boxK, stillV, binV, AV.cells, mP, loadV, storeV, ldV, AV.stb, AV.one, IV.av1, Lb.app, Lb.fresh, reduceCtorEq, ptrL, appL, fillA, chunks, ivs, AV.iv, mkE, if_false, if_true, List.not_mem_nil, forall_eq, beq_self_eq_true, List.isEmpty_nil, Nat.reduceEqDiff, Nat.reduceLT, Nat.reduceLeDiff, Nat.reduceAdd, Nat.reduceMul, Int.reduceToNat, Int.reduceLE, Int.reduceLT]
  refine callT_pure hX ?_
  simp only [↓aX, evp, evq, evl, boxK, stillV, binV, AV.cells, mP, loadV, storeV, ldV, AV.stb, AV.one, IV.av1, Lb.app, Lb.fresh, reduceCtorEq, ptrL, appL, fillA, chunks, ivs, AV.iv, mkE, if_false, if_true, List.not_mem_nil, forall_eq, beq_self_eq_true, List.isEmpty_nil, Nat.reduceEqDiff, Nat.reduceLT, Nat.reduceLeDiff, Nat.reduceAdd, Nat.reduceMul, Int.reduceToNat, Int.reduceLE, Int.reduceLT]
end Go.Am

/- Paths: the text of a path, read (one text); pick. -/
namespace Go.Am
open Go Go.RowKit
section
variable {P : Program} {G : Nat → Option (List IV)}
def c_internal_strconv_Atoi (f_internal_strconv_ParseInt : Nat) : AC :=
(.seq (.reg [⟨(some 2), none, (.mov (.c (.int .i64 0)))⟩, ⟨(some 3), none, (.mov (.c .nilif))⟩]) (.seq (.reg [⟨(some 11), none, (.mov (.t 0))⟩, ⟨(some 12), none, (.lens (.t 11))⟩, ⟨(some 4), none, (.mov (.t 12))⟩]) (.seq (.seq (.reg [⟨(some 13), none, (.mov (.c (.bool false)))⟩, ⟨(some 14), (some (13, true)), (.mov (.t 4))⟩, ⟨(some 15), (some (13, true)), (.bin .lss (.c (.int .i64 0)) (.t 14))⟩, ⟨(some 16), (some (13, true)), (.mov (.t 15))⟩, ⟨(some 17), (some (16, true)), (.mov (.t 4))⟩, ⟨(some 18), (some (16, true)), (.bin .lss (.t 17) (.c (.int .i64 10)))⟩, ⟨(some 19), (some (13, true)), (.pick (.t 16) (.t 18) (.c (.bool false)))⟩, ⟨(some 20), none, (.pick (.t 13) (.t 19) (.c (.bool false)))⟩, ⟨(some 21), none, (.mov (.t 20))⟩, ⟨(some 22), (some (21, false)), (.mov (.c (.bool true)))⟩, ⟨(some 23), (some (22, true)), (.mov (.t 4))⟩, ⟨(some 24), (some (22, true)), (.bin .lss (.c (.int .i64 0)) (.t 23))⟩, ⟨(some 25), (some (22, true)), (.mov (.t 24))⟩, ⟨(some 26), (some (25, true)), (.mov (.t 4))⟩, ⟨(some 27), (some (25, true)), (.bin .lss (.t 26) (.c (.int .i64 19)))⟩, ⟨(some 28), (some (22, true)), (.pick (.t 25) (.t 27) (.c (.bool false)))⟩, ⟨(some 29), (some (21, false)), (.pick (.t 22) (.t 28) (.c (.bool false)))⟩, ⟨(some 30), none, (.pick (.t 21) (.c (.bool true)) (.t 29))⟩]) (.cond (.t 30) (.seq (.reg [⟨(some 31), none, (.mov (.t 0))⟩, ⟨(some 5), none, (.mov (.t 31))⟩]) (.seq (.seq (.reg [⟨(some 32), none, (.mov (.t 0))⟩, ⟨(some 33), none, (.ixs (.t 32) (.c (.int .i64 0)))⟩, ⟨(some 34), none, (.bin .eql (.t 33) (.c (.int .u8 45)))⟩, ⟨(some 35), none, (.mov (.t 34))⟩, ⟨(some 36), (some (35, false)), (.mov (.t 0))⟩, ⟨(some 37), (some (35, false)), (.ixs (.t 36) (.c (.int .i64 0)))⟩, ⟨(some 38), (some (35, false)), (.bin .eql (.t 37) (.c (.int .u8 43)))⟩, ⟨(some 39), none, (.pick (.t 35) (.c (.bool true)) (.t 38))⟩]) (.cond (.t 39) (.seq (.reg [⟨(some 40), none, (.mov (.t 0))⟩, ⟨(some 41), none, (.slcs (.t 40) (some (.c (.int .i64 1))) none)⟩, ⟨(some 0), none, (.mov (.t 41))⟩]) (.seq (.reg [⟨(some 42), none, (.mov (.t 0))⟩, ⟨(some 43), none, (.lens (.t 42))⟩, ⟨(some 44), none, (.bin .lss (.t 43) (.c (.int .i64 1)))⟩]) (.cond (.t 44) (.seq (.reg [⟨(some 45), none, (.mkif 169 (.c (.int .i64 2)))⟩, ⟨(some 2), none, (.mov (.c (.int .i64 0)))⟩, ⟨(some 3), none, (.mov (.t 45))⟩]) .ret) .skip))) .skip)) (.seq (.reg [⟨(some 6), none, (.mov (.c (.int .i64 0)))⟩]) (.seq (.seq (.reg [⟨(some 46), none, (.mov (.t 0))⟩, ⟨(some 47), none, (.cvb (.t 46))⟩, ⟨(some 48), none, (.len (.t 47))⟩, ⟨(some 49), none, (.mov (.c (.int .i64 0)))⟩]) (.block 0 (.loop (.seq (.reg [⟨(some 50), none, (.bin .lss (.t 49) (.t 48))⟩]) (.seq (.cond (.t 50) .skip (.exit 0)) (.seq (.block 1 (.seq (.reg [⟨(some 51), none, (.ixa (.t 47) (.t 49) 1)⟩, ⟨(some 52), none, (.load none (.t 51))⟩, ⟨(some 8), none, (.mov (.t 52))⟩]) (.seq (.reg [⟨(some 53), none, (.mov (.t 8))⟩, ⟨(some 54), none, (.bin .sub (.t 53) (.c (.int .u8 48)))⟩, ⟨(some 8), none, (.mov (.t 54))⟩]) (.seq (.seq (.reg [⟨(some 55), none, (.mov (.t 8))⟩, ⟨(some 56), none, (.bin .gtr (.t 55) (.c (.int .u8 9)))⟩]) (.cond (.t 56) (.seq (.reg [⟨(some 57), none, (.mkif 169 (.c (.int .i64 2)))⟩, ⟨(some 2), none, (.mov (.c (.int .i64 0)))⟩, ⟨(some 3), none, (.mov (.t 57))⟩]) .ret) .skip)) (.reg [⟨(some 58), none, (.mov (.t 6))⟩, ⟨(some 59), none, (.bin .mul (.t 58) (.c (.int .i64 10)))⟩, ⟨(some 60), none, (.mov (.t 8))⟩, ⟨(some 61), none, (.cvi .i64 (.t 60))⟩, ⟨(some 62), none, (.bin .add (.t 59) (.t 61))⟩, ⟨(some 6), none, (.mov (.t 62))⟩]))))) (.reg [⟨(some 63), none, (.bin .add (.t 49) (.c (.int .i64 1)))⟩, ⟨(some 49), none, (.mov (.t 63))⟩]))))))) (.seq (.seq (.reg [⟨(some 64), none, (.mov (.t 5))⟩, ⟨(some 65), none, (.ixs (.t 64) (.c (.int .i64 0)))⟩, ⟨(some 66), none, (.bin .eql (.t 65) (.c (.int .u8 45)))⟩]) (.cond (.t 66) (.reg [⟨(some 67), none, (.mov (.t 6))⟩, ⟨(some 68), none, (.neg (.t 67))⟩, ⟨(some 6), none, (.mov (.t 68))⟩]) .skip)) (.seq (.reg [⟨(some 69), none, (.mov (.t 6))⟩, ⟨(some 2), none, (.mov (.t 69))⟩, ⟨(some 3), none, (.mov (.c .nilif))⟩]) .ret)))))) .skip)) (.seq (.reg [⟨(some 71), none, (.mov (.t 0))⟩, ⟨(some 72), none, (.call f_internal_strconv_ParseInt [(.t 71), (.c (.int .i64 10)), (.c (.int .i64 0))])⟩, ⟨(some 70), none, (.mov (.t 72))⟩, ⟨(some 73), none, (.ext (.t 70) 0)⟩, ⟨(some 74), none, (.ext (.t 70) 1)⟩, ⟨(some 9), none, (.mov (.t 73))⟩, ⟨(some 10), none, (.mov (.t 74))⟩]) (.seq (.reg [⟨(some 75), none, (.mov (.t 9))⟩, ⟨(some 76), none, (.mov (.t 10))⟩, ⟨(some 2), none, (.mov (.t 75))⟩, ⟨(some 3), none, (.mov (.t 76))⟩]) .ret)))))
theorem pSlAtoi2 {f_internal_strconv_Atoi f_internal_strconv_ParseInt : Nat} (hF : compF P G f_internal_strconv_Atoi = some (77, [(none, 2), (none, 3)], (c_internal_strconv_Atoi f_internal_strconv_ParseInt).bare)) : PureC P G f_internal_strconv_Atoi [.str [50]] (.tup [.int .i64 2, .nilif]) := by
  refine pure_of_go hF (by simp) (by simp [lbss, AV.lbs]) (by simp [AV.lbs, lbss]) ?_
  unfold c_internal_strconv_Atoi
  simp only [↓aX, evp, evq, evl, boxK, stillV, binV, AV.cells, mP, loadV, storeV, ldV, AV.stb, AV.one, IV.av1, Lb.app, Lb.fresh, reduceCtorEq, ptrL, appL, fillA, chunks, ivs, AV.iv, mkE, if_false, if_true, List.not_mem_nil, forall_eq, beq_self_eq_true, List.isEmpty_nil, Nat.reduceEqDiff, Nat.reduceLT, Nat.reduceLeDiff, Nat.reduceAdd, Nat.reduceMul, Int.reduceToNat, Int.reduceLE, Int.reduceLT, List.length_cons, List.length_nil, Nat.zero_add, show ((1 : Nat) : Int) = 1 from rfl, decide_true, List.getElem?_cons_zero, show (((50 : UInt8).toNat : Int) == 45) = false from rfl, show (((50 : UInt8).toNat : Int) == 43) = false from rfl]
  refine loop_data (σ := Bool) (fun b => [(5, .str [50]), (6, .int .i64 (if b then 2 else 0)), (47, .list [.int .u8 50]), (48, .int .i64 1), (49, .int .i64 (if b then 1 else 0))]) (fun b => if b then 0 else 1) false (fun _ => rfl) ?_ ?_
  · exact ⟨by simp only [↓aX, evp, evq, evl, boxK, stillV, binV, AV.cells, mP, loadV, storeV, ldV, AV.stb, AV.one, IV.av1, Lb.app, Lb.fresh, reduceCtorEq, ptrL, appL, fillA, chunks, ivs, AV.iv, mkE, if_false, if_true, List.not_mem_nil, forall_eq, beq_self_eq_true, List.isEmpty_nil, Nat.reduceEqDiff, Nat.reduceLT, Nat.reduceLeDiff, Nat.reduceAdd, Nat.reduceMul, Int.reduceToNat, Int.reduceLE, Int.reduceLT], by repeat' constructor⟩
  · intro b
    have e8 : IntKind.u8.wrap (50 - 48) = 2 := by decide
    have e9 : IntKind.i64.wrap (0 * 10) = 0 := by decide
    have e10 : IntKind.i64.wrap 2 = 2 := by decide
    have e11 : IntKind.i64.wrap (0 + 2) = 2 := by decide
    have e12 : IntKind.i64.wrap (0 + 1) = 1 := by decide
    cases b with
    | false =>
      simp only [↓aX, evp, evq, evl, boxK, stillV, binV, AV.cells, mP, loadV, storeV, ldV, AV.stb, AV.one, IV.av1, Lb.app, Lb.fresh, reduceCtorEq, ptrL, appL, fillA, chunks, ivs, AV.iv, mkE, if_false, if_true, List.not_mem_nil, forall_eq, beq_self_eq_true, List.isEmpty_nil, Nat.reduceEqDiff, Nat.reduceLT, Nat.reduceLeDiff, Nat.reduceAdd, Nat.reduceMul, Int.reduceToNat, Int.reduceLE, Int.reduceLT, decide_true, decide_false, show decide ((2 : Int) > 9) = false from rfl, List.getElem?_cons_zero, IV.cells, e8, e9, e10, e11, e12, show Elsz 1 [IV.int .u8 50] from by intro y hy; simp only [List.mem_singleton] at hy; subst hy; rfl]
      exact ⟨true, by decide, by repeat' constructor⟩
    | true =>
      simp only [↓aX, evp, evq, evl, boxK, stillV, binV, AV.cells, mP, loadV, storeV, ldV, AV.stb, AV.one, IV.av1, Lb.app, Lb.fresh, reduceCtorEq, ptrL, appL, fillA, chunks, ivs, AV.iv, mkE, if_false, if_true, List.not_mem_nil, forall_eq, beq_self_eq_true, List.isEmpty_nil, Nat.reduceEqDiff, Nat.reduceLT, Nat.reduceLeDiff, Nat.reduceAdd, Nat.reduceMul, Int.reduceToNat, Int.reduceLE, Int.reduceLT, decide_true, decide_false, List.getElem?_cons_zero, show (((50 : UInt8).toNat : Int) == 45) = false from rfl, ↓ret2_r]
def c_strconv_Atoi (f_internal_strconv_Atoi f_strconv_toError : Nat) : AC :=
(.seq (.reg [⟨(some 2), none, (.mov (.c (.int .i64 0)))⟩, ⟨(some 3), none, (.mov (.c .nilif))⟩]) (.seq (.reg [⟨(some 7), none, (.mov (.t 0))⟩, ⟨(some 8), none, (.call f_internal_strconv_Atoi [(.t 7)])⟩, ⟨(some 6), none, (.mov (.t 8))⟩, ⟨(some 9), none, (.ext (.t 6) 0)⟩, ⟨(some 10), none, (.ext (.t 6) 1)⟩, ⟨(some 4), none, (.mov (.t 9))⟩, ⟨(some 5), none, (.mov (.t 10))⟩]) (.seq (.seq (.reg [⟨(some 11), none, (.mov (.t 5))⟩, ⟨(some 12), none, (.eqi true (.t 11) (.c .nilif))⟩]) (.cond (.t 12) (.seq (.reg [⟨(some 13), none, (.mov (.t 4))⟩, ⟨(some 14), none, (.mov (.t 0))⟩, ⟨(some 15), none, (.mov (.t 5))⟩, ⟨(some 16), none, (.call f_strconv_toError [(.c (.str [65, 116, 111, 105])), (.t 14), (.c (.int .i64 0)), (.c (.int .i64 0)), (.t 15)])⟩, ⟨(some 2), none, (.mov (.t 13))⟩, ⟨(some 3), none, (.mov (.t 16))⟩]) .ret) .skip)) (.seq (.reg [⟨(some 17), none, (.mov (.t 4))⟩, ⟨(some 2), none, (.mov (.t 17))⟩, ⟨(some 3), none, (.mov (.c .nilif))⟩]) .ret))))
theorem pAtoi2 {f_strconv_Atoi f_internal_strconv_Atoi f_strconv_toError : Nat} (hF : compF P G f_strconv_Atoi = some (18, [(none, 2), (none, 3)], (c_strconv_Atoi f_internal_strconv_Atoi f_strconv_toError).bare)) (hX : PureC P G f_internal_strconv_Atoi [.str [50]] (.tup [.int .i64 2, .nilif])) :
    PureC P G f_strconv_Atoi [.str [50]] (.tup [.int .i64 2, .nilif]) := by
  refine pure_of_go hF (by simp) (by simp [lbss, AV.lbs]) (by simp [AV.lbs, lbss]) ?_
  unfold c_strconv_Atoi
  simp only [↓aX, evp, evq, evl, boxK, stillV, binV, AV.cells, mP, loadV, storeV, ldV, AV.stb, AV.one, IV.av1, Lb.app, Lb.fresh, reduceCtorEq, ptrL, appL, fillA, chunks, ivs, AV.iv, mkE, if_false, if_true, List.not_mem_nil, forall_eq, beq_self_eq_true, List.isEmpty_nil, Nat.reduceEqDiff, Nat.reduceLT, Nat.reduceLeDiff, Nat.reduceAdd, Nat.reduceMul, Int.reduceToNat, Int.reduceLE, Int.reduceLT]
  refine callT_pure hX ?_
  simp only [↓aX, evp, evq, evl, boxK, stillV, binV, AV.cells, mP, loadV, storeV, ldV, AV.stb, AV.one, IV.av1, Lb.app, Lb.fresh, reduceCtorEq, ptrL, appL, fillA, chunks, ivs, AV.iv, mkE, if_false, if_true, List.not_mem_nil, forall_eq, beq_self_eq_true, List.isEmpty_nil, Nat.reduceEqDiff, Nat.reduceLT, Nat.reduceLeDiff, Nat.reduceAdd, Nat.reduceMul, Int.reduceToNat, Int.reduceLE, Int.reduceLT, ↓ret2_r]
def c_internal_strconv_small : AC :=
(.seq (.reg [⟨(some 2), none, (.mov (.c (.str [])))⟩]) (.seq (.seq (.reg [⟨(some 3), none, (.mov (.t 0))⟩, ⟨(some 4), none, (.bin .lss (.t 3) (.c (.int .i64 10)))⟩]) (.cond (.t 4) (.seq (.reg [⟨(some 5), none, (.mov (.t 0))⟩, ⟨(some 6), none, (.mov (.t 0))⟩, ⟨(some 7), none, (.bin .add (.t 6) (.c (.int .i64 1)))⟩, ⟨(some 8), none, (.slcs (.c (.str [48, 49, 50, 51, 52, 53, 54, 55, 56, 57, 97, 98, 99, 100, 101, 102, 103, 104, 105, 106, 107, 108, 109, 110, 111, 112, 113, 114, 115, 116, 117, 118, 119, 120, 121, 122])) (some (.t 5)) (some (.t 7)))⟩, ⟨(some 2), none, (.mov (.t 8))⟩]) .ret) .skip)) (.seq (.reg [⟨(some 9), none, (.mov (.t 0))⟩, ⟨(some 10), none, (.bin .mul (.t 9) (.c (.int .i64 2)))⟩, ⟨(some 11), none, (.mov (.t 0))⟩, ⟨(some 12), none, (.bin .mul (.t 11) (.c (.int .i64 2)))⟩, ⟨(some 13), none, (.bin .add (.t 12) (.c (.int .i64 2)))⟩, ⟨(some 14), none, (.slcs (.c (.str [48, 48, 48, 49, 48, 50, 48, 51, 48, 52, 48, 53, 48, 54, 48, 55, 48, 56, 48, 57, 49, 48, 49, 49, 49, 50, 49, 51, 49, 52, 49, 53, 49, 54, 49, 55, 49, 56, 49, 57, 50, 48, 50, 49, 50, 50, 50, 51, 50, 52, 50, 53, 50, 54, 50, 55, 50, 56, 50, 57, 51, 48, 51, 49, 51, 50, 51, 51, 51, 52, 51, 53, 51, 54, 51, 55, 51, 56, 51, 57, 52, 48, 52, 49, 52, 50, 52, 51, 52, 52, 52, 53, 52, 54, 52, 55, 52, 56, 52, 57, 53, 48, 53, 49, 53, 50, 53, 51, 53, 52, 53, 53, 53, 54, 53, 55, 53, 56, 53, 57, 54, 48, 54, 49, 54, 50, 54, 51, 54, 52, 54, 53, 54, 54, 54, 55, 54, 56, 54, 57, 55, 48, 55, 49, 55, 50, 55, 51, 55, 52, 55, 53, 55, 54, 55, 55, 55, 56, 55, 57, 56, 48, 56, 49, 56, 50, 56, 51, 56, 52, 56, 53, 56, 54, 56, 55, 56, 56, 56, 57, 57, 48, 57, 49, 57, 50, 57, 51, 57, 52, 57, 53, 57, 54, 57, 55, 57, 56, 57, 57])) (some (.t 10)) (some (.t 13)))⟩, ⟨(some 2), none, (.mov (.t 14))⟩]) .ret)))
theorem pSmall2 {f_internal_strconv_small : Nat} (hF : compF P G f_internal_strconv_small = some (15, [(none, 2)], c_internal_strconv_small.bare)) : PureC P G f_internal_strconv_small [.int .i64 2] (.str [50]) := by
  refine pure_of_go hF (by simp) (by simp [lbss, AV.lbs]) (by simp [AV.lbs]) ?_
  unfold c_internal_strconv_small
  simp only [↓aX, evp, evq, evl, boxK, stillV, binV, AV.cells, mP, loadV, storeV, ldV, AV.stb, AV.one, IV.av1, Lb.app, Lb.fresh, reduceCtorEq, ptrL, appL, fillA, chunks, ivs, AV.iv, mkE, if_false, if_true, List.not_mem_nil, forall_eq, beq_self_eq_true, List.isEmpty_nil, Nat.reduceEqDiff, Nat.reduceLT, Nat.reduceLeDiff, Nat.reduceAdd, Nat.reduceMul, Int.reduceToNat, Int.reduceLE, Int.reduceLT, decide_true, show IntKind.i64.wrap (2 + 1) = 3 from by rw [wrap64 (by omega) (by omega)]; rfl, bnd, evq, show (0 : Int) ≤ 3 by decide, show (0 : Int) ≤ 2 by decide, show (3 : Int).toNat = 3 from rfl, show (2 : Int).toNat = 2 from rfl,
    List.length_cons, List.length_nil, Nat.reduceAdd, true_and, List.take_succ_cons, List.take_zero, List.drop_succ_cons, List.drop_zero]
def c_internal_strconv_FormatInt (f_internal_strconv_small f_internal_strconv_numDigits f_internal_strconv_formatBase10 f_internal_strconv_formatBits : Nat) : AC :=
(.seq (.reg [⟨(some 4), none, (.mov (.c (.str [])))⟩]) (.seq (.seq (.reg [⟨(some 10), none, (.mov (.t 1))⟩, ⟨(some 11), none, (.bin .eql (.t 10) (.c (.int .i64 10)))⟩]) (.cond (.t 11) (.seq (.seq (.reg [⟨(some 12), none, (.mov (.t 0))⟩, ⟨(some 13), none, (.bin .leq (.c (.int .i64 0)) (.t 12))⟩, ⟨(some 14), none, (.mov (.t 13))⟩, ⟨(some 15), (some (14, true)), (.mov (.t 0))⟩, ⟨(some 16), (some (14, true)), (.bin .lss (.t 15) (.c (.int .i64 100)))⟩, ⟨(some 17), none, (.pick (.t 14) (.t 16) (.c (.bool false)))⟩]) (.cond (.t 17) (.seq (.reg [⟨(some 18), none, (.mov (.t 0))⟩, ⟨(some 19), none, (.call f_internal_strconv_small [(.t 18)])⟩, ⟨(some 4), none, (.mov (.t 19))⟩]) .ret) .skip)) (.seq (.reg [⟨(some 5), none, (.new (List.replicate 24 (.int .u8 0)))⟩]) (.seq (.reg [⟨(some 20), none, (.mov (.t 0))⟩, ⟨(some 21), none, (.cvi .u64 (.t 20))⟩, ⟨(some 6), none, (.mov (.t 21))⟩]) (.seq (.seq (.reg [⟨(some 22), none, (.mov (.t 0))⟩, ⟨(some 23), none, (.bin .lss (.t 22) (.c (.int .i64 0)))⟩]) (.cond (.t 23) (.reg [⟨(some 24), none, (.mov (.t 6))⟩, ⟨(some 25), none, (.neg (.t 24))⟩, ⟨(some 6), none, (.mov (.t 25))⟩]) .skip)) (.seq (.reg [⟨(some 26), none, (.mov (.t 6))⟩, ⟨(some 27), none, (.call f_internal_strconv_numDigits [(.t 26)])⟩, ⟨(some 7), none, (.mov (.t 27))⟩]) (.seq (.reg [⟨(some 28), none, (.mov (.t 7))⟩, ⟨(some 29), none, (.bin .add (.c (.int .i64 1)) (.t 28))⟩, ⟨(some 30), none, .stuck⟩, ⟨(some 31), none, (.mov (.t 6))⟩, ⟨(some 32), none, (.call f_internal_strconv_formatBase10 [(.t 30), (.t 31)])⟩]) (.seq (.seq (.reg [⟨(some 33), none, (.mov (.t 0))⟩, ⟨(some 34), none, (.bin .lss (.t 33) (.c (.int .i64 0)))⟩]) (.cond (.t 34) (.seq (.reg [⟨(some 35), none, (.ixp (.t 5) (.c (.int .i64 0)) 24 1)⟩, ⟨none, none, (.store 1 (.t 35) (.c (.int .u8 45)))⟩]) (.seq (.reg [⟨(some 36), none, (.mov (.t 7))⟩, ⟨(some 37), none, (.bin .add (.c (.int .i64 1)) (.t 36))⟩, ⟨(some 38), none, .stuck⟩, ⟨(some 39), none, (.cvt (.t 38))⟩, ⟨(some 4), none, (.mov (.t 39))⟩]) .ret)) .skip)) (.seq (.reg [⟨(some 40), none, (.mov (.t 7))⟩, ⟨(some 41), none, (.bin .add (.c (.int .i64 1)) (.t 40))⟩, ⟨(some 42), none, .stuck⟩, ⟨(some 43), none, (.cvt (.t 42))⟩, ⟨(some 4), none, (.mov (.t 43))⟩]) .ret)))))))) .skip)) (.seq (.reg [⟨(some 45), none, (.mov (.t 0))⟩, ⟨(some 46), none, (.cvi .u64 (.t 45))⟩, ⟨(some 47), none, (.mov (.t 1))⟩, ⟨(some 48), none, (.mov (.t 0))⟩, ⟨(some 49), none, (.bin .lss (.t 48) (.c (.int .i64 0)))⟩, ⟨(some 50), none, (.call f_internal_strconv_formatBits [(.c .nil0), (.t 46), (.t 47), (.t 49), (.c (.bool false))])⟩, ⟨(some 44), none, (.mov (.t 50))⟩, ⟨(some 51), none, (.ext (.t 44) 0)⟩, ⟨(some 52), none, (.ext (.t 44) 1)⟩, ⟨(some 8), none, (.mov (.t 51))⟩, ⟨(some 9), none, (.mov (.t 52))⟩]) (.seq (.reg [⟨(some 53), none, (.mov (.t 9))⟩, ⟨(some 4), none, (.mov (.t 53))⟩]) .ret))))
theorem pFormat2 {f_internal_strconv_FormatInt f_internal_strconv_small f_internal_strconv_numDigits f_internal_strconv_formatBase10 f_internal_strconv_formatBits : Nat} (hF : compF P G f_internal_strconv_FormatInt = some (54, [(none, 4)], (c_internal_strconv_FormatInt f_internal_strconv_small f_internal_strconv_numDigits f_internal_strconv_formatBase10 f_internal_strconv_formatBits).bare))
    (hX : PureC P G f_internal_strconv_small [.int .i64 2] (.str [50])) : PureC P G f_internal_strconv_FormatInt [.int .i64 2, .int .i64 10] (.str [50]) := by
  refine pure_of_go hF (by simp) (by simp [lbss, AV.lbs]) (by simp [AV.lbs]) ?_
  unfold c_internal_strconv_FormatInt
  simp only [↓aX, evp, evq, evl, boxK, stillV, binV, AV.cells, mP, loadV, storeV, ldV, AV.stb, AV.one, IV.av1, Lb.app, Lb.fresh, reduceCtorEq, ptrL, appL, fillA, chunks, ivs, AV.iv, mkE, if_false, if_true, List.not_mem_nil, forall_eq, beq_self_eq_true, List.isEmpty_nil, Nat.reduceEqDiff, Nat.reduceLT, Nat.reduceLeDiff, Nat.reduceAdd, Nat.reduceMul, Int.reduceToNat, Int.reduceLE, Int.reduceLT, decide_true]
  refine callT_pure hX ?_
  simp only [↓aX, evp, evq, evl, boxK, stillV, binV, AV.cells, mP, loadV, storeV, ldV, AV.stb, AV.one, IV.av1, Lb.app, Lb.fresh, reduceCtorEq, ptrL, appL, fillA, chunks, ivs, AV.iv, mkE, if_false, if_true, List.not_mem_nil, forall_eq, beq_self_eq_true, List.isEmpty_nil, Nat.reduceEqDiff, Nat.reduceLT, Nat.reduceLeDiff, Nat.reduceAdd, Nat.reduceMul, Int.reduceToNat, Int.reduceLE, Int.reduceLT]
def c_internal_strconv_Itoa (f_internal_strconv_FormatInt : Nat) : AC :=
(.seq (.reg [⟨(some 2), none, (.mov (.c (.str [])))⟩]) (.seq (.reg [⟨(some 3), none, (.mov (.t 0))⟩, ⟨(some 4), none, (.call f_internal_strconv_FormatInt [(.t 3), (.c (.int .i64 10))])⟩, ⟨(some 2), none, (.mov (.t 4))⟩]) .ret))
theorem pSlItoa2 {f_internal_strconv_Itoa f_internal_strconv_FormatInt : Nat} (hF : compF P G f_internal_strconv_Itoa = some (5, [(none, 2)], (c_internal_strconv_Itoa f_internal_strconv_FormatInt).bare)) (hX : PureC P G f_internal_strconv_FormatInt [.int .i64 2, .int .i64 10] (.str [50])) :
    PureC P G f_internal_strconv_Itoa [.int .i64 2] (.str [50]) := by
  refine pure_of_go hF (by simp) (by simp [lbss, AV.lbs]) (by simp [AV.lbs]) ?_
  unfold c_internal_strconv_Itoa
  simp only [↓aX, evp, evq, evl, boxK, stillV, binV, AV.cells, mP, loadV, storeV, ldV, AV.stb, AV.one, IV.av1, Lb.app, Lb.fresh, reduceCtorEq, ptrL, appL, fillA, chunks, ivs, AV.iv, mkE, if_false, if_true, List.not_mem_nil, forall_eq, beq_self_eq_true, List.isEmpty_nil, Nat.reduceEqDiff, Nat.reduceLT, Nat.reduceLeDiff, Nat.reduceAdd, Nat.reduceMul, Int.reduceToNat, Int.reduceLE, Int.reduceLT]
  refine callT_pure hX ?_
  simp only [↓aX, evp, evq, evl, boxK, stillV, binV, AV.cells, mP, loadV, storeV, ldV, AV.stb, AV.one, IV.av1, Lb.app, Lb.fresh, reduceCtorEq, ptrL, appL, fillA, chunks, ivs, AV.iv, mkE, if_false, if_true, List.not_mem_nil, forall_eq, beq_self_eq_true, List.isEmpty_nil, Nat.reduceEqDiff, Nat.reduceLT, Nat.reduceLeDiff, Nat.reduceAdd, Nat.reduceMul, Int.reduceToNat, Int.reduceLE, Int.reduceLT]
def c_strconv_Itoa (f_internal_strconv_Itoa : Nat) : AC :=
(.seq (.reg [⟨(some 2), none, (.mov (.c (.str [])))⟩]) (.seq (.reg [⟨(some 3), none, (.mov (.t 0))⟩, ⟨(some 4), none, (.call f_internal_strconv_Itoa [(.t 3)])⟩, ⟨(some 2), none, (.mov (.t 4))⟩]) .ret))
theorem pItoa2 {f_strconv_Itoa f_internal_strconv_Itoa : Nat} (hF : compF P G f_strconv_Itoa = some (5, [(none, 2)], (c_strconv_Itoa f_internal_strconv_Itoa).bare)) (hX : PureC P G f_internal_strconv_Itoa [.int .i64 2] (.str [50])) : PureC P G f_strconv_Itoa [.int .i64 2] (.str [50]) := by
  refine pure_of_go hF (by simp) (by simp [lbss, AV.lbs]) (by simp [AV.lbs]) ?_
  unfold c_strconv_Itoa
  simp only [↓aX, evp, evq, evl, boxK, stillV, binV, AV.cells, mP, loadV, storeV, ldV, AV.stb, AV.one, IV.av1, Lb.app, Lb.fresh, reduceCtorEq, ptrL, appL, fillA, chunks, ivs, AV.iv, mkE, if_false, if_true, List.not_mem_nil, forall_eq, beq_self_eq_true, List.isEmpty_nil, Nat.reduceEqDiff, Nat.reduceLT, Nat.reduceLeDiff, Nat.reduceAdd, Nat.reduceMul, Int.reduceToNat, Int.reduceLE, Int.reduceLT]
  refine callT_pure hX ?_
  simp only [↓aX, evp, evq, evl, boxK, stillV, binV, AV.cells, mP, loadV, storeV, ldV, AV.stb, AV.one, IV.av1, Lb.app, Lb.fresh, reduceCtorEq, ptrL, appL, fillA, chunks, ivs, AV.iv, mkE, if_false, if_true, List.not_mem_nil, forall_eq, beq_self_eq_true, List.isEmpty_nil, Nat.reduceEqDiff, Nat.reduceLT, Nat.reduceLeDiff, Nat.reduceAdd, Nat.reduceMul, Int.reduceToNat, Int.reduceLE, Int.reduceLT]
def c_topiarykeep_pick : AC :=
(.seq (.reg [⟨(some 4), none, (.mov (.c (.int .i64 0)))⟩]) (.seq (.reg [⟨(some 5), none, (.mov (.t 0))⟩, ⟨(some 6), none, (.mov (.t 1))⟩, ⟨(some 7), none, (.bin .rem (.t 5) (.t 6))⟩, ⟨(some 0), none, (.mov (.t 7))⟩]) (.seq (.seq (.reg [⟨(some 8), none, (.mov (.t 0))⟩, ⟨(some 9), none, (.bin .lss (.t 8) (.c (.int .i64 0)))⟩]) (.cond (.t 9) (.reg [⟨(some 10), none, (.mov (.t 0))⟩, ⟨(some 11), none, (.mov (.t 1))⟩, ⟨(some 12), none, (.bin .add (.t 10) (.t 11))⟩, ⟨(some 0), none, (.mov (.t 12))⟩]) .skip)) (.seq (.reg [⟨(some 13), none, (.mov (.t 0))⟩, ⟨(some 4), none, (.mov (.t 13))⟩]) .ret))))
/-- A number below n. -/
def pickF (k n : Int) : Int := if k.tmod n < 0 then k.tmod n + n else k.tmod n
theorem pPick {f_topiarykeep_pick : Nat} (hF : compF P G f_topiarykeep_pick = some (14, [(none, 4)], c_topiarykeep_pick.bare)) (k n : Int) (h0 : 0 < n) (hn : n ≤ B) : PureC P G f_topiarykeep_pick [.int .i64 k, .int .i64 n] (.int .i64 (pickF k n)) := by
  refine pure_of_go hF (by simp) (by simp [lbss, AV.lbs]) (by simp [AV.lbs]) ?_
  have hBv : B = 1073741824 := rfl
  have hm : -n < k.tmod n ∧ k.tmod n < n := by
    have h1 := Int.tmod_lt_of_pos k h0
    have h2 := Int.lt_tmod_of_pos k h0
    omega
  have hw : IntKind.i64.wrap (k.tmod n + n) = k.tmod n + n := wrap64 (by omega) (by omega)
  unfold c_topiarykeep_pick pickF
  simp only [↓aX, evp, evq, evl, boxK, stillV, binV, AV.cells, mP, loadV, storeV, ldV, AV.stb, AV.one, IV.av1, Lb.app, Lb.fresh, reduceCtorEq, ptrL, appL, fillA, chunks, ivs, AV.iv, mkE, if_false, if_true, List.not_mem_nil, forall_eq, beq_self_eq_true, List.isEmpty_nil, Nat.reduceEqDiff, Nat.reduceLT, Nat.reduceLeDiff, Nat.reduceAdd, Nat.reduceMul, Int.reduceToNat, Int.reduceLE, Int.reduceLT, show ¬ n = 0 by omega]
  by_cases h : k.tmod n < 0
  · simp only [↓aX, evp, evq, evl, boxK, stillV, binV, AV.cells, mP, loadV, storeV, ldV, AV.stb, AV.one, IV.av1, Lb.app, Lb.fresh, reduceCtorEq, ptrL, appL, fillA, chunks, ivs, AV.iv, mkE, if_false, if_true, List.not_mem_nil, forall_eq, beq_self_eq_true, List.isEmpty_nil, Nat.reduceEqDiff, Nat.reduceLT, Nat.reduceLeDiff, Nat.reduceAdd, Nat.reduceMul, Int.reduceToNat, Int.reduceLE, Int.reduceLT, h, decide_true, hw]
  · simp only [↓aX, evp, evq, evl, boxK, stillV, binV, AV.cells, mP, loadV, storeV, ldV, AV.stb, AV.one, IV.av1, Lb.app, Lb.fresh, reduceCtorEq, ptrL, appL, fillA, chunks, ivs, AV.iv, mkE, if_false, if_true, List.not_mem_nil, forall_eq, beq_self_eq_true, List.isEmpty_nil, Nat.reduceEqDiff, Nat.reduceLT, Nat.reduceLeDiff, Nat.reduceAdd, Nat.reduceMul, Int.reduceToNat, Int.reduceLE, Int.reduceLT, h, decide_false]
theorem pickF_rng {k n : Int} (h0 : 0 < n) : 0 ≤ pickF k n ∧ pickF k n < n := by
  have h1 := Int.tmod_lt_of_pos k h0
  have h2 := Int.lt_tmod_of_pos k h0
  unfold pickF
  split <;> omega
end
end Go.Am
