import Derived.Test.YtfinkeaikbmpgaaDoorKT21
import Derived.Test.YtfinkeaikbmpgaaDoorKT4
import Derived.Test.YtfinkeaikbmpgaaDoorKT10
import Derived.Test.YtfinkeaikbmpgaaDoorKD3
import Derived.Test.YtfinkeaikbmpgaaDoorKT16
set_option linter.unusedSimpArgs false
set_option linter.unusedVariables false
set_option linter.unnecessarySimpa false
set_option linter.defProp false
/- Attributes, as the document says them. -/
namespace Go.Am
open Go Go.RowKit
def c_topiaryref_IsAttrs (f_topiaryref_IsName f_topiaryref_IsPlain : Nat) : AC :=
(.seq (.reg [⟨(some 2), none, (.mov (.c (.bool false)))⟩]) (.seq (.reg [⟨(some 3), none, (.mov (.c (.str [])))⟩]) (.seq (.seq (.reg [⟨(some 6), none, (.mov (.t 0))⟩, ⟨(some 7), none, (.len (.t 6))⟩, ⟨(some 8), none, (.mov (.c (.int .i64 0)))⟩]) (.block 0 (.loop (.seq (.reg [⟨(some 9), none, (.bin .lss (.t 8) (.t 7))⟩]) (.seq (.cond (.t 9) .skip (.exit 0)) (.seq (.block 1 (.seq (.reg [⟨(some 10), none, (.ixa (.t 6) (.t 8) 2)⟩, ⟨(some 11), none, (.load (some 2) (.t 10))⟩, ⟨(some 5), none, (.new [(.str []), (.str [])])⟩, ⟨none, none, (.store 2 (.t 5) (.t 11))⟩]) (.seq (.seq (.reg [⟨(some 12), none, (.fld (.t 5) 0)⟩, ⟨(some 13), none, (.load none (.t 12))⟩, ⟨(some 14), none, (.call f_topiaryref_IsName [(.t 13)])⟩, ⟨(some 15), none, (.not (.t 14))⟩, ⟨(some 16), none, (.mov (.t 15))⟩, ⟨(some 17), (some (16, false)), (.fld (.t 5) 1)⟩, ⟨(some 18), (some (16, false)), (.load none (.t 17))⟩, ⟨(some 19), (some (16, false)), (.call f_topiaryref_IsPlain [(.t 18)])⟩, ⟨(some 20), (some (16, false)), (.not (.t 19))⟩, ⟨(some 21), none, (.pick (.t 16) (.c (.bool true)) (.t 20))⟩, ⟨(some 22), none, (.mov (.t 21))⟩, ⟨(some 23), (some (22, false)), (.fld (.t 5) 0)⟩, ⟨(some 24), (some (22, false)), (.load none (.t 23))⟩, ⟨(some 25), (some (22, false)), (.mov (.t 3))⟩, ⟨(some 26), (some (22, false)), (.bin .leq (.t 24) (.t 25))⟩, ⟨(some 27), none, (.pick (.t 22) (.c (.bool true)) (.t 26))⟩]) (.cond (.t 27) (.seq (.reg [⟨(some 2), none, (.mov (.c (.bool false)))⟩]) .ret) .skip)) (.reg [⟨(some 28), none, (.fld (.t 5) 0)⟩, ⟨(some 29), none, (.load none (.t 28))⟩, ⟨(some 3), none, (.mov (.t 29))⟩])))) (.reg [⟨(some 30), none, (.bin .add (.t 8) (.c (.int .i64 1)))⟩, ⟨(some 8), none, (.mov (.t 30))⟩]))))))) (.seq (.reg [⟨(some 31), none, (.mov (.t 0))⟩, ⟨(some 32), none, (.len (.t 31))⟩, ⟨(some 33), none, (.bin .leq (.t 32) (.c (.int .i64 4)))⟩, ⟨(some 2), none, (.mov (.t 33))⟩]) .ret))))
def lastN (as : List Attr) : Nat → Bs
  | 0 => []
  | i + 1 => match as[i]? with
    | some p => p.name
    | none => []
theorem bl_leq (x y : Bs) : (Op.bytesLess x y || x == y) = !Op.bytesLess y x := by
  rcases bl_tri x y with h | h | h
  · rw [h, bl_asym h]; rfl
  · subst h; rw [bl_irr]; simp
  · rw [h, bl_asym h]
    have : (x == y) = false := by rw [beq_eq_false_iff_ne]; rintro rfl; rw [bl_irr] at h; cases h
    rw [this]; rfl
theorem bl_nil {x : Bs} (h : named x = true) : Op.bytesLess [] x = true := by
  cases x with
  | nil => simp [named] at h
  | cons c r => rfl
theorem pIsAttrs {P : Program} {G : Nat → Option (List IV)} {f_topiaryref_IsAttrs f_topiaryref_IsName f_topiaryref_IsPlain : Nat} (hF : compF P G f_topiaryref_IsAttrs = some (34, [(none, 2)], (c_topiaryref_IsAttrs f_topiaryref_IsName f_topiaryref_IsPlain).bare)) (as : List Attr) (hx : as.length ≤ B)
    (hN : ∀ a ∈ as, PureC P G f_topiaryref_IsName [.str a.name] (.bool (named a.name))) (hP : ∀ a ∈ as, PureC P G f_topiaryref_IsPlain [.str a.val] (.bool (plain a.val))) :
    PureC P G f_topiaryref_IsAttrs [.list (ivA as)] (.bool (goodAttrs as)) := by
  refine pure_of_go hF (by simp) (by simp [lbss, AV.lbs]) (by simp [AV.lbs]) ?_
  unfold c_topiaryref_IsAttrs
  simp only [↓aX, evp, evq, evl, boxK, stillV, binV, AV.cells, mP, loadV, storeV, ldV, AV.stb, AV.one, IV.av1, Lb.app, Lb.fresh, reduceCtorEq, ptrL, appL, fillA, chunks, ivs, AV.iv, mkE, if_false, if_true, List.not_mem_nil, forall_eq, beq_self_eq_true, List.isEmpty_nil, Nat.reduceEqDiff, Nat.reduceLT, Nat.reduceLeDiff, Nat.reduceAdd, Nat.reduceMul, Int.reduceToNat, Int.reduceLE, Int.reduceLT, ivA_len]
  refine loop_data (σ := { i : Nat // i ≤ as.length ∧ ∀ j, j < i → okAttr as j = true }) (fun q => [(0, .list (ivA as)), (3, .str (lastN as q.1)), (6, .list (ivA as)), (7, .int .i64 as.length), (8, .int .i64 q.1)]) (fun q => as.length - q.1) ⟨0, by simp⟩ (fun _ => rfl) ?_ ?_
  · exact ⟨by simp only [↓aX, evp, evq, evl, boxK, stillV, binV, AV.cells, mP, loadV, storeV, ldV, AV.stb, AV.one, IV.av1, Lb.app, Lb.fresh, reduceCtorEq, ptrL, appL, fillA, chunks, ivs, AV.iv, mkE, if_false, if_true, List.not_mem_nil, forall_eq, beq_self_eq_true, List.isEmpty_nil, Nat.reduceEqDiff, Nat.reduceLT, Nat.reduceLeDiff, Nat.reduceAdd, Nat.reduceMul, Int.reduceToNat, Int.reduceLE, Int.reduceLT], by repeat' constructor⟩
  · rintro ⟨i, hi, hs⟩
    simp only [↓aX, evp, evq, evl, boxK, stillV, binV, AV.cells, mP, loadV, storeV, ldV, AV.stb, AV.one, IV.av1, Lb.app, Lb.fresh, reduceCtorEq, ptrL, appL, fillA, chunks, ivs, AV.iv, mkE, if_false, if_true, List.not_mem_nil, forall_eq, beq_self_eq_true, List.isEmpty_nil, Nat.reduceEqDiff, Nat.reduceLT, Nat.reduceLeDiff, Nat.reduceAdd, Nat.reduceMul, Int.reduceToNat, Int.reduceLE, Int.reduceLT, ivA_len]
    by_cases hlt : i < as.length
    · rw [show decide ((i : Int) < (as.length : Int)) = true by simpa using hlt]
      obtain ⟨a, ha⟩ : ∃ a, as[i]? = some a := ⟨_, List.getElem?_eq_getElem hlt⟩
      have hw : IntKind.i64.wrap ((i : Int) + 1) = ((i + 1 : Nat) : Int) := wrap64 (by omega) (by unfold B at hx; omega)
      simp only [↓aX, evp, evq, evl, boxK, stillV, binV, AV.cells, mP, loadV, storeV, ldV, AV.stb, AV.one, IV.av1, Lb.app, Lb.fresh, reduceCtorEq, ptrL, appL, fillA, chunks, ivs, AV.iv, mkE, if_false, if_true, List.not_mem_nil, forall_eq, beq_self_eq_true, List.isEmpty_nil, Nat.reduceEqDiff, Nat.reduceLT, Nat.reduceLeDiff, Nat.reduceAdd, Nat.reduceMul, Int.reduceToNat, Int.reduceLE, Int.reduceLT, ivA_get, ha, elszA, Attr.cells_eq, Attr.cs]
      refine callT_pure (hN a (List.mem_of_getElem? ha)) ?_
      have stop : okAttr as i = false → goodAttrs as = false := fun hp => by rw [goodAttrs, range_not hlt hp]; rfl
      have hok : okAttr as i = (named a.name && (plain a.val && (i == 0 || match as[i - 1]? with | some p => Op.bytesLess p.name a.name | none => true))) := by unfold okAttr; rw [ha]; rfl
      cases h1 : named a.name with
      | false =>
        simp only [↓aX, evp, evq, evl, boxK, stillV, binV, AV.cells, mP, loadV, storeV, ldV, AV.stb, AV.one, IV.av1, Lb.app, Lb.fresh, reduceCtorEq, ptrL, appL, fillA, chunks, ivs, AV.iv, mkE, if_false, if_true, List.not_mem_nil, forall_eq, beq_self_eq_true, List.isEmpty_nil, Nat.reduceEqDiff, Nat.reduceLT, Nat.reduceLeDiff, Nat.reduceAdd, Nat.reduceMul, Int.reduceToNat, Int.reduceLE, Int.reduceLT, Bool.not_false]
        rw [stop (by rw [hok, h1]; rfl)]
      | true =>
        simp only [↓aX, evp, evq, evl, boxK, stillV, binV, AV.cells, mP, loadV, storeV, ldV, AV.stb, AV.one, IV.av1, Lb.app, Lb.fresh, reduceCtorEq, ptrL, appL, fillA, chunks, ivs, AV.iv, mkE, if_false, if_true, List.not_mem_nil, forall_eq, beq_self_eq_true, List.isEmpty_nil, Nat.reduceEqDiff, Nat.reduceLT, Nat.reduceLeDiff, Nat.reduceAdd, Nat.reduceMul, Int.reduceToNat, Int.reduceLE, Int.reduceLT, Bool.not_true]
        refine callT_pure (hP a (List.mem_of_getElem? ha)) ?_
        cases h2 : plain a.val with
        | false =>
          simp only [↓aX, evp, evq, evl, boxK, stillV, binV, AV.cells, mP, loadV, storeV, ldV, AV.stb, AV.one, IV.av1, Lb.app, Lb.fresh, reduceCtorEq, ptrL, appL, fillA, chunks, ivs, AV.iv, mkE, if_false, if_true, List.not_mem_nil, forall_eq, beq_self_eq_true, List.isEmpty_nil, Nat.reduceEqDiff, Nat.reduceLT, Nat.reduceLeDiff, Nat.reduceAdd, Nat.reduceMul, Int.reduceToNat, Int.reduceLE, Int.reduceLT, Bool.not_false]
          rw [stop (by rw [hok, h1, h2]; rfl)]
        | true =>
          simp only [↓aX, evp, evq, evl, boxK, stillV, binV, AV.cells, mP, loadV, storeV, ldV, AV.stb, AV.one, IV.av1, Lb.app, Lb.fresh, reduceCtorEq, ptrL, appL, fillA, chunks, ivs, AV.iv, mkE, if_false, if_true, List.not_mem_nil, forall_eq, beq_self_eq_true, List.isEmpty_nil, Nat.reduceEqDiff, Nat.reduceLT, Nat.reduceLeDiff, Nat.reduceAdd, Nat.reduceMul, Int.reduceToNat, Int.reduceLE, Int.reduceLT, Bool.not_true]
          have hb : okAttr as i = Op.bytesLess (lastN as i) a.name := by
            rw [hok, h1, h2]
            cases i with
            | zero => rw [show lastN as 0 = [] from rfl, bl_nil h1]; rfl
            | succ i =>
              obtain ⟨p, hp⟩ : ∃ p, as[i]? = some p := ⟨_, List.getElem?_eq_getElem (by omega)⟩
              simp [lastN, hp]
          rw [bl_leq, ← hb]
          cases h4 : okAttr as i with
          | false =>
            simp only [↓aX, evp, evq, evl, boxK, stillV, binV, AV.cells, mP, loadV, storeV, ldV, AV.stb, AV.one, IV.av1, Lb.app, Lb.fresh, reduceCtorEq, ptrL, appL, fillA, chunks, ivs, AV.iv, mkE, if_false, if_true, List.not_mem_nil, forall_eq, beq_self_eq_true, List.isEmpty_nil, Nat.reduceEqDiff, Nat.reduceLT, Nat.reduceLeDiff, Nat.reduceAdd, Nat.reduceMul, Int.reduceToNat, Int.reduceLE, Int.reduceLT, Bool.not_false]
            rw [stop h4]
          | true =>
            simp only [↓aX, evp, evq, evl, boxK, stillV, binV, AV.cells, mP, loadV, storeV, ldV, AV.stb, AV.one, IV.av1, Lb.app, Lb.fresh, reduceCtorEq, ptrL, appL, fillA, chunks, ivs, AV.iv, mkE, if_false, if_true, List.not_mem_nil, forall_eq, beq_self_eq_true, List.isEmpty_nil, Nat.reduceEqDiff, Nat.reduceLT, Nat.reduceLeDiff, Nat.reduceAdd, Nat.reduceMul, Int.reduceToNat, Int.reduceLE, Int.reduceLT, Bool.not_true, hw]
            refine ⟨⟨i + 1, hlt, fun j hj => ?_⟩, by simp only; omega, ?_⟩
            · by_cases e : j = i
              · rw [e]; exact h4
              · exact hs j (by omega)
            · refine ⟨?_, rfl⟩
              show AV.str a.name = AV.str (lastN as (i + 1))
              simp only [lastN, ha]
    · have hil : i = as.length := by omega
      rw [show decide ((i : Int) < (as.length : Int)) = false by simpa using hlt]
      simp only [↓aX, evp, evq, evl, boxK, stillV, binV, AV.cells, mP, loadV, storeV, ldV, AV.stb, AV.one, IV.av1, Lb.app, Lb.fresh, reduceCtorEq, ptrL, appL, fillA, chunks, ivs, AV.iv, mkE, if_false, if_true, List.not_mem_nil, forall_eq, beq_self_eq_true, List.isEmpty_nil, Nat.reduceEqDiff, Nat.reduceLT, Nat.reduceLeDiff, Nat.reduceAdd, Nat.reduceMul, Int.reduceToNat, Int.reduceLE, Int.reduceLT, ivA_len]
      have : (List.range as.length).all (okAttr as) = true := by
        rw [List.all_eq_true]
        intro j hj
        exact hs j (by simp at hj; omega)
      rw [goodAttrs, this]; rfl
end Go.Am

/- What is right, as the document says it. -/
namespace Go.Am
open Go Go.RowKit
def c_topiaryref_right (f_topiaryref_IsPlain f_topiaryref_IsName f_topiaryref_IsAttrs f_topiaryref_right : Nat) : AC :=
(.seq (.reg [⟨(some 2), none, (.mov (.c (.bool false)))⟩]) (.seq (.reg [⟨(some 3), none, (.mov (.c (.bool false)))⟩]) (.seq (.seq (.reg [⟨(some 6), none, (.mov (.t 0))⟩, ⟨(some 7), none, (.len (.t 6))⟩, ⟨(some 8), none, (.mov (.c (.int .i64 0)))⟩]) (.block 0 (.loop (.seq (.reg [⟨(some 9), none, (.bin .lss (.t 8) (.t 7))⟩]) (.seq (.cond (.t 9) .skip (.exit 0)) (.seq (.block 1 (.seq (.reg [⟨(some 10), none, (.ixa (.t 6) (.t 8) 4)⟩, ⟨(some 11), none, (.load (some 4) (.t 10))⟩, ⟨(some 5), none, (.new [(.bool false), (.str []), .nil0, .nil0])⟩, ⟨none, none, (.store 4 (.t 5) (.t 11))⟩]) (.seq (.seq (.reg [⟨(some 12), none, (.fld (.t 5) 0)⟩, ⟨(some 13), none, (.load none (.t 12))⟩, ⟨(some 14), none, (.mov (.t 13))⟩, ⟨(some 15), (some (14, true)), (.mov (.t 3))⟩, ⟨(some 16), (some (14, true)), (.mov (.t 15))⟩, ⟨(some 17), (some (16, false)), (.fld (.t 5) 1)⟩, ⟨(some 18), (some (16, false)), (.load none (.t 17))⟩, ⟨(some 19), (some (16, false)), (.bin .eql (.t 18) (.c (.str [])))⟩, ⟨(some 20), (some (14, true)), (.pick (.t 16) (.c (.bool true)) (.t 19))⟩, ⟨(some 21), (some (14, true)), (.mov (.t 20))⟩, ⟨(some 22), (some (21, false)), (.fld (.t 5) 1)⟩, ⟨(some 23), (some (21, false)), (.load none (.t 22))⟩, ⟨(some 24), (some (21, false)), (.call f_topiaryref_IsPlain [(.t 23)])⟩, ⟨(some 25), (some (21, false)), (.not (.t 24))⟩, ⟨(some 26), (some (14, true)), (.pick (.t 21) (.c (.bool true)) (.t 25))⟩, ⟨(some 27), (some (14, true)), (.mov (.t 26))⟩, ⟨(some 28), (some (27, false)), (.fld (.t 5) 2)⟩, ⟨(some 29), (some (27, false)), (.load none (.t 28))⟩, ⟨(some 30), (some (27, false)), (.len (.t 29))⟩, ⟨(some 31), (some (27, false)), (.bin .neq (.t 30) (.c (.int .i64 0)))⟩, ⟨(some 32), (some (14, true)), (.pick (.t 27) (.c (.bool true)) (.t 31))⟩, ⟨(some 33), (some (14, true)), (.mov (.t 32))⟩, ⟨(some 34), (some (33, false)), (.fld (.t 5) 3)⟩, ⟨(some 35), (some (33, false)), (.load none (.t 34))⟩, ⟨(some 36), (some (33, false)), (.len (.t 35))⟩, ⟨(some 37), (some (33, false)), (.bin .neq (.t 36) (.c (.int .i64 0)))⟩, ⟨(some 38), (some (14, true)), (.pick (.t 33) (.c (.bool true)) (.t 37))⟩, ⟨(some 39), none, (.pick (.t 14) (.t 38) (.c (.bool false)))⟩]) (.cond (.t 39) (.seq (.reg [⟨(some 2), none, (.mov (.c (.bool false)))⟩]) .ret) .skip)) (.seq (.seq (.reg [⟨(some 40), none, (.fld (.t 5) 0)⟩, ⟨(some 41), none, (.load none (.t 40))⟩, ⟨(some 42), none, (.not (.t 41))⟩, ⟨(some 43), none, (.mov (.t 42))⟩, ⟨(some 44), (some (43, true)), (.fld (.t 5) 1)⟩, ⟨(some 45), (some (43, true)), (.load none (.t 44))⟩, ⟨(some 46), (some (43, true)), (.call f_topiaryref_IsName [(.t 45)])⟩, ⟨(some 47), (some (43, true)), (.not (.t 46))⟩, ⟨(some 48), (some (43, true)), (.mov (.t 47))⟩, ⟨(some 49), (some (48, false)), (.fld (.t 5) 2)⟩, ⟨(some 50), (some (48, false)), (.load none (.t 49))⟩, ⟨(some 51), (some (48, false)), (.call f_topiaryref_IsAttrs [(.t 50)])⟩, ⟨(some 52), (some (48, false)), (.not (.t 51))⟩, ⟨(some 53), (some (43, true)), (.pick (.t 48) (.c (.bool true)) (.t 52))⟩, ⟨(some 54), (some (43, true)), (.mov (.t 53))⟩, ⟨(some 55), (some (54, false)), (.fld (.t 5) 3)⟩, ⟨(some 56), (some (54, false)), (.load none (.t 55))⟩, ⟨(some 57), (some (54, false)), (.call f_topiaryref_right [(.t 56)])⟩, ⟨(some 58), (some (54, false)), (.not (.t 57))⟩, ⟨(some 59), (some (43, true)), (.pick (.t 54) (.c (.bool true)) (.t 58))⟩, ⟨(some 60), none, (.pick (.t 43) (.t 59) (.c (.bool false)))⟩]) (.cond (.t 60) (.seq (.reg [⟨(some 2), none, (.mov (.c (.bool false)))⟩]) .ret) .skip)) (.reg [⟨(some 61), none, (.fld (.t 5) 0)⟩, ⟨(some 62), none, (.load none (.t 61))⟩, ⟨(some 3), none, (.mov (.t 62))⟩]))))) (.reg [⟨(some 63), none, (.bin .add (.t 8) (.c (.int .i64 1)))⟩, ⟨(some 8), none, (.mov (.t 63))⟩]))))))) (.seq (.reg [⟨(some 2), none, (.mov (.c (.bool true)))⟩]) .ret))))
theorem pRight {P : Program} {G : Nat → Option (List IV)} {f_topiaryref_right f_topiaryref_IsPlain f_topiaryref_IsName f_topiaryref_IsAttrs : Nat} (hF : compF P G f_topiaryref_right = some (64, [(none, 2)], (c_topiaryref_right f_topiaryref_IsPlain f_topiaryref_IsName f_topiaryref_IsAttrs f_topiaryref_right).bare)) (l : List Tree) (hx : wtT l ≤ B)
    (hP : ∀ x ∈ l, PureC P G f_topiaryref_IsPlain [.str x.s] (.bool (plain x.s))) (hN : ∀ x ∈ l, PureC P G f_topiaryref_IsName [.str x.s] (.bool (named x.s)))
    (hA : ∀ x ∈ l, PureC P G f_topiaryref_IsAttrs [.list (ivA x.attrs)] (.bool (goodAttrs x.attrs))) (hK : ∀ x ∈ l, PureC P G f_topiaryref_right [.list (ivT x.kids)] (.bool (fines none x.kids))) :
    PureC P G f_topiaryref_right [.list (ivT l)] (.bool (fines none l)) := by
  refine pure_of_go hF (by simp) (by simp [lbss, AV.lbs]) (by simp [AV.lbs]) ?_
  have hl := wtT_len l
  unfold c_topiaryref_right
  simp only [↓aX, evp, evq, evl, boxK, stillV, binV, AV.cells, mP, loadV, storeV, ldV, AV.stb, AV.one, IV.av1, Lb.app, Lb.fresh, reduceCtorEq, ptrL, appL, fillA, chunks, ivs, AV.iv, mkE, if_false, if_true, List.not_mem_nil, forall_eq, beq_self_eq_true, List.isEmpty_nil, Nat.reduceEqDiff, Nat.reduceLT, Nat.reduceLeDiff, Nat.reduceAdd, Nat.reduceMul, Int.reduceToNat, Int.reduceLE, Int.reduceLT, ivT_len]
  refine loop_data (σ := { q : Nat × Option Bool // q.1 ≤ l.length ∧ fines none l = fines q.2 (l.drop q.1) }) (fun q => [(0, .list (ivT l)), (3, .bool (q.1.2 == some true)), (6, .list (ivT l)), (7, .int .i64 l.length), (8, .int .i64 q.1.1)]) (fun q => l.length - q.1.1) ⟨(0, none), by simp, rfl⟩ (fun _ => rfl) ?_ ?_
  · exact ⟨by simp only [↓aX, evp, evq, evl, boxK, stillV, binV, AV.cells, mP, loadV, storeV, ldV, AV.stb, AV.one, IV.av1, Lb.app, Lb.fresh, reduceCtorEq, ptrL, appL, fillA, chunks, ivs, AV.iv, mkE, if_false, if_true, List.not_mem_nil, forall_eq, beq_self_eq_true, List.isEmpty_nil, Nat.reduceEqDiff, Nat.reduceLT, Nat.reduceLeDiff, Nat.reduceAdd, Nat.reduceMul, Int.reduceToNat, Int.reduceLE, Int.reduceLT], by repeat' constructor⟩
  · rintro ⟨⟨i, p⟩, hi, hs⟩
    simp only at hi hs
    simp only [↓aX, evp, evq, evl, boxK, stillV, binV, AV.cells, mP, loadV, storeV, ldV, AV.stb, AV.one, IV.av1, Lb.app, Lb.fresh, reduceCtorEq, ptrL, appL, fillA, chunks, ivs, AV.iv, mkE, if_false, if_true, List.not_mem_nil, forall_eq, beq_self_eq_true, List.isEmpty_nil, Nat.reduceEqDiff, Nat.reduceLT, Nat.reduceLeDiff, Nat.reduceAdd, Nat.reduceMul, Int.reduceToNat, Int.reduceLE, Int.reduceLT, ivT_len]
    by_cases hlt : i < l.length
    · rw [show decide ((i : Int) < (l.length : Int)) = true by simpa using hlt]
      obtain ⟨x, hxi⟩ : ∃ x, l[i]? = some x := ⟨_, List.getElem?_eq_getElem hlt⟩
      have hm := List.mem_of_getElem? hxi
      have hw : IntKind.i64.wrap ((i : Int) + 1) = ((i + 1 : Nat) : Int) := wrap64 (by omega) (by unfold B at hx; omega)
      have hstep : fines none l = (x.fine && (!(p == some true && x.text) && fines (some x.text) (l.drop (i + 1)))) := by rw [hs, List.drop_eq_getElem_cons hlt, List.getElem?_eq_getElem hlt |>.symm.trans hxi |> Option.some.inj]; rfl
      have stop : x.fine = false → fines none l = false := fun h => by rw [hstep, h]; rfl
      simp only [↓aX, evp, evq, evl, boxK, stillV, binV, AV.cells, mP, loadV, storeV, ldV, AV.stb, AV.one, IV.av1, Lb.app, Lb.fresh, reduceCtorEq, ptrL, appL, fillA, chunks, ivs, AV.iv, mkE, if_false, if_true, List.not_mem_nil, forall_eq, beq_self_eq_true, List.isEmpty_nil, Nat.reduceEqDiff, Nat.reduceLT, Nat.reduceLeDiff, Nat.reduceAdd, Nat.reduceMul, Int.reduceToNat, Int.reduceLE, Int.reduceLT, ivT_get, hxi, elszT, Tree.cells_eq, Tree.cs]
      cases ht : x.text with
      | true =>
        have hfi := x.fine_t ht
        simp only [↓aX, evp, evq, evl, boxK, stillV, binV, AV.cells, mP, loadV, storeV, ldV, AV.stb, AV.one, IV.av1, Lb.app, Lb.fresh, reduceCtorEq, ptrL, appL, fillA, chunks, ivs, AV.iv, mkE, if_false, if_true, List.not_mem_nil, forall_eq, beq_self_eq_true, List.isEmpty_nil, Nat.reduceEqDiff, Nat.reduceLT, Nat.reduceLeDiff, Nat.reduceAdd, Nat.reduceMul, Int.reduceToNat, Int.reduceLE, Int.reduceLT]
        cases hp : (p == some true) with
        | true =>
          have : fines none l = false := by rw [hstep, hp, ht]; simp
          simp only [↓aX, evp, evq, evl, boxK, stillV, binV, AV.cells, mP, loadV, storeV, ldV, AV.stb, AV.one, IV.av1, Lb.app, Lb.fresh, reduceCtorEq, ptrL, appL, fillA, chunks, ivs, AV.iv, mkE, if_false, if_true, List.not_mem_nil, forall_eq, beq_self_eq_true, List.isEmpty_nil, Nat.reduceEqDiff, Nat.reduceLT, Nat.reduceLeDiff, Nat.reduceAdd, Nat.reduceMul, Int.reduceToNat, Int.reduceLE, Int.reduceLT, this]
        | false =>
          simp only [↓aX, evp, evq, evl, boxK, stillV, binV, AV.cells, mP, loadV, storeV, ldV, AV.stb, AV.one, IV.av1, Lb.app, Lb.fresh, reduceCtorEq, ptrL, appL, fillA, chunks, ivs, AV.iv, mkE, if_false, if_true, List.not_mem_nil, forall_eq, beq_self_eq_true, List.isEmpty_nil, Nat.reduceEqDiff, Nat.reduceLT, Nat.reduceLeDiff, Nat.reduceAdd, Nat.reduceMul, Int.reduceToNat, Int.reduceLE, Int.reduceLT]
          cases h1 : (x.s == []) with
          | true =>
            have h9 : (x.s != []) = false := by simpa using h1
            have : fines none l = false := stop (by rw [hfi, h9]; simp)
            simp only [↓aX, evp, evq, evl, boxK, stillV, binV, AV.cells, mP, loadV, storeV, ldV, AV.stb, AV.one, IV.av1, Lb.app, Lb.fresh, reduceCtorEq, ptrL, appL, fillA, chunks, ivs, AV.iv, mkE, if_false, if_true, List.not_mem_nil, forall_eq, beq_self_eq_true, List.isEmpty_nil, Nat.reduceEqDiff, Nat.reduceLT, Nat.reduceLeDiff, Nat.reduceAdd, Nat.reduceMul, Int.reduceToNat, Int.reduceLE, Int.reduceLT, this]
          | false =>
            simp only [↓aX, evp, evq, evl, boxK, stillV, binV, AV.cells, mP, loadV, storeV, ldV, AV.stb, AV.one, IV.av1, Lb.app, Lb.fresh, reduceCtorEq, ptrL, appL, fillA, chunks, ivs, AV.iv, mkE, if_false, if_true, List.not_mem_nil, forall_eq, beq_self_eq_true, List.isEmpty_nil, Nat.reduceEqDiff, Nat.reduceLT, Nat.reduceLeDiff, Nat.reduceAdd, Nat.reduceMul, Int.reduceToNat, Int.reduceLE, Int.reduceLT]
            refine callT_pure (hP x hm) ?_
            cases h2 : plain x.s with
            | false =>
              have : fines none l = false := stop (by rw [hfi, h2]; rfl)
              simp only [↓aX, evp, evq, evl, boxK, stillV, binV, AV.cells, mP, loadV, storeV, ldV, AV.stb, AV.one, IV.av1, Lb.app, Lb.fresh, reduceCtorEq, ptrL, appL, fillA, chunks, ivs, AV.iv, mkE, if_false, if_true, List.not_mem_nil, forall_eq, beq_self_eq_true, List.isEmpty_nil, Nat.reduceEqDiff, Nat.reduceLT, Nat.reduceLeDiff, Nat.reduceAdd, Nat.reduceMul, Int.reduceToNat, Int.reduceLE, Int.reduceLT, Bool.not_false, this]
            | true =>
              simp only [↓aX, evp, evq, evl, boxK, stillV, binV, AV.cells, mP, loadV, storeV, ldV, AV.stb, AV.one, IV.av1, Lb.app, Lb.fresh, reduceCtorEq, ptrL, appL, fillA, chunks, ivs, AV.iv, mkE, if_false, if_true, List.not_mem_nil, forall_eq, beq_self_eq_true, List.isEmpty_nil, Nat.reduceEqDiff, Nat.reduceLT, Nat.reduceLeDiff, Nat.reduceAdd, Nat.reduceMul, Int.reduceToNat, Int.reduceLE, Int.reduceLT, Bool.not_true, ivA_len]
              have h9 : (x.s != []) = true := by simpa using h1
              cases h5 : ((x.attrs.length : Int) != 0) with
              | true =>
                have : fines none l = false := stop (by
                  have : (x.attrs.length == 0) = false := by simp at h5 ⊢; exact h5
                  rw [hfi, this]; simp)
                simp only [↓aX, evp, evq, evl, boxK, stillV, binV, AV.cells, mP, loadV, storeV, ldV, AV.stb, AV.one, IV.av1, Lb.app, Lb.fresh, reduceCtorEq, ptrL, appL, fillA, chunks, ivs, AV.iv, mkE, if_false, if_true, List.not_mem_nil, forall_eq, beq_self_eq_true, List.isEmpty_nil, Nat.reduceEqDiff, Nat.reduceLT, Nat.reduceLeDiff, Nat.reduceAdd, Nat.reduceMul, Int.reduceToNat, Int.reduceLE, Int.reduceLT, this]
              | false =>
                simp only [↓aX, evp, evq, evl, boxK, stillV, binV, AV.cells, mP, loadV, storeV, ldV, AV.stb, AV.one, IV.av1, Lb.app, Lb.fresh, reduceCtorEq, ptrL, appL, fillA, chunks, ivs, AV.iv, mkE, if_false, if_true, List.not_mem_nil, forall_eq, beq_self_eq_true, List.isEmpty_nil, Nat.reduceEqDiff, Nat.reduceLT, Nat.reduceLeDiff, Nat.reduceAdd, Nat.reduceMul, Int.reduceToNat, Int.reduceLE, Int.reduceLT, ivT_len]
                cases h6 : ((x.kids.length : Int) != 0) with
                | true =>
                  have : fines none l = false := stop (by
                    have : (x.kids.length == 0) = false := by simp at h6 ⊢; exact h6
                    rw [hfi, this]; simp)
                  simp only [↓aX, evp, evq, evl, boxK, stillV, binV, AV.cells, mP, loadV, storeV, ldV, AV.stb, AV.one, IV.av1, Lb.app, Lb.fresh, reduceCtorEq, ptrL, appL, fillA, chunks, ivs, AV.iv, mkE, if_false, if_true, List.not_mem_nil, forall_eq, beq_self_eq_true, List.isEmpty_nil, Nat.reduceEqDiff, Nat.reduceLT, Nat.reduceLeDiff, Nat.reduceAdd, Nat.reduceMul, Int.reduceToNat, Int.reduceLE, Int.reduceLT, this]
                | false =>
                  have hf1 : x.fine = true := by
                    have e5 : (x.attrs.length == 0) = true := by simp at h5 ⊢; exact h5
                    have e6 : (x.kids.length == 0) = true := by simp at h6 ⊢; exact h6
                    rw [hfi, h2, h9, e5, e6]; rfl
                  simp only [↓aX, evp, evq, evl, boxK, stillV, binV, AV.cells, mP, loadV, storeV, ldV, AV.stb, AV.one, IV.av1, Lb.app, Lb.fresh, reduceCtorEq, ptrL, appL, fillA, chunks, ivs, AV.iv, mkE, if_false, if_true, List.not_mem_nil, forall_eq, beq_self_eq_true, List.isEmpty_nil, Nat.reduceEqDiff, Nat.reduceLT, Nat.reduceLeDiff, Nat.reduceAdd, Nat.reduceMul, Int.reduceToNat, Int.reduceLE, Int.reduceLT, Bool.not_true, hw]
                  refine ⟨⟨(i + 1, some true), hlt, by rw [hstep, hf1, hp, ht]; rfl⟩, by simp only; omega, rfl, rfl⟩
      | false =>
        have hfi := x.fine_e ht
        simp only [↓aX, evp, evq, evl, boxK, stillV, binV, AV.cells, mP, loadV, storeV, ldV, AV.stb, AV.one, IV.av1, Lb.app, Lb.fresh, reduceCtorEq, ptrL, appL, fillA, chunks, ivs, AV.iv, mkE, if_false, if_true, List.not_mem_nil, forall_eq, beq_self_eq_true, List.isEmpty_nil, Nat.reduceEqDiff, Nat.reduceLT, Nat.reduceLeDiff, Nat.reduceAdd, Nat.reduceMul, Int.reduceToNat, Int.reduceLE, Int.reduceLT, Bool.not_false]
        refine callT_pure (hN x hm) ?_
        cases h2 : named x.s with
        | false =>
          have : fines none l = false := stop (by rw [hfi, h2]; rfl)
          simp only [↓aX, evp, evq, evl, boxK, stillV, binV, AV.cells, mP, loadV, storeV, ldV, AV.stb, AV.one, IV.av1, Lb.app, Lb.fresh, reduceCtorEq, ptrL, appL, fillA, chunks, ivs, AV.iv, mkE, if_false, if_true, List.not_mem_nil, forall_eq, beq_self_eq_true, List.isEmpty_nil, Nat.reduceEqDiff, Nat.reduceLT, Nat.reduceLeDiff, Nat.reduceAdd, Nat.reduceMul, Int.reduceToNat, Int.reduceLE, Int.reduceLT, Bool.not_false, this]
        | true =>
          simp only [↓aX, evp, evq, evl, boxK, stillV, binV, AV.cells, mP, loadV, storeV, ldV, AV.stb, AV.one, IV.av1, Lb.app, Lb.fresh, reduceCtorEq, ptrL, appL, fillA, chunks, ivs, AV.iv, mkE, if_false, if_true, List.not_mem_nil, forall_eq, beq_self_eq_true, List.isEmpty_nil, Nat.reduceEqDiff, Nat.reduceLT, Nat.reduceLeDiff, Nat.reduceAdd, Nat.reduceMul, Int.reduceToNat, Int.reduceLE, Int.reduceLT, Bool.not_true]
          refine callT_pure (hA x hm) ?_
          cases h3 : goodAttrs x.attrs with
          | false =>
            have : fines none l = false := stop (by rw [hfi, h2, h3]; rfl)
            simp only [↓aX, evp, evq, evl, boxK, stillV, binV, AV.cells, mP, loadV, storeV, ldV, AV.stb, AV.one, IV.av1, Lb.app, Lb.fresh, reduceCtorEq, ptrL, appL, fillA, chunks, ivs, AV.iv, mkE, if_false, if_true, List.not_mem_nil, forall_eq, beq_self_eq_true, List.isEmpty_nil, Nat.reduceEqDiff, Nat.reduceLT, Nat.reduceLeDiff, Nat.reduceAdd, Nat.reduceMul, Int.reduceToNat, Int.reduceLE, Int.reduceLT, Bool.not_false, this]
          | true =>
            simp only [↓aX, evp, evq, evl, boxK, stillV, binV, AV.cells, mP, loadV, storeV, ldV, AV.stb, AV.one, IV.av1, Lb.app, Lb.fresh, reduceCtorEq, ptrL, appL, fillA, chunks, ivs, AV.iv, mkE, if_false, if_true, List.not_mem_nil, forall_eq, beq_self_eq_true, List.isEmpty_nil, Nat.reduceEqDiff, Nat.reduceLT, Nat.reduceLeDiff, Nat.reduceAdd, Nat.reduceMul, Int.reduceToNat, Int.reduceLE, Int.reduceLT, Bool.not_true]
            refine callT_pure (hK x hm) ?_
            cases h4 : fines none x.kids with
            | false =>
              have : fines none l = false := stop (by rw [hfi, h2, h3, h4]; rfl)
              simp only [↓aX, evp, evq, evl, boxK, stillV, binV, AV.cells, mP, loadV, storeV, ldV, AV.stb, AV.one, IV.av1, Lb.app, Lb.fresh, reduceCtorEq, ptrL, appL, fillA, chunks, ivs, AV.iv, mkE, if_false, if_true, List.not_mem_nil, forall_eq, beq_self_eq_true, List.isEmpty_nil, Nat.reduceEqDiff, Nat.reduceLT, Nat.reduceLeDiff, Nat.reduceAdd, Nat.reduceMul, Int.reduceToNat, Int.reduceLE, Int.reduceLT, Bool.not_false, this]
            | true =>
              simp only [↓aX, evp, evq, evl, boxK, stillV, binV, AV.cells, mP, loadV, storeV, ldV, AV.stb, AV.one, IV.av1, Lb.app, Lb.fresh, reduceCtorEq, ptrL, appL, fillA, chunks, ivs, AV.iv, mkE, if_false, if_true, List.not_mem_nil, forall_eq, beq_self_eq_true, List.isEmpty_nil, Nat.reduceEqDiff, Nat.reduceLT, Nat.reduceLeDiff, Nat.reduceAdd, Nat.reduceMul, Int.reduceToNat, Int.reduceLE, Int.reduceLT, Bool.not_true, hw]
              have hf1 : x.fine = true := by rw [hfi, h2, h3, h4]; rfl
              refine ⟨⟨(i + 1, some false), hlt, by rw [hstep, hf1, ht]; simp⟩, by simp only; omega, rfl, rfl⟩
    · have hil : i = l.length := by omega
      subst hil
      rw [show decide ((l.length : Int) < (l.length : Int)) = false by simp]
      simp only [↓aX, evp, evq, evl, boxK, stillV, binV, AV.cells, mP, loadV, storeV, ldV, AV.stb, AV.one, IV.av1, Lb.app, Lb.fresh, reduceCtorEq, ptrL, appL, fillA, chunks, ivs, AV.iv, mkE, if_false, if_true, List.not_mem_nil, forall_eq, beq_self_eq_true, List.isEmpty_nil, Nat.reduceEqDiff, Nat.reduceLT, Nat.reduceLeDiff, Nat.reduceAdd, Nat.reduceMul, Int.reduceToNat, Int.reduceLE, Int.reduceLT]
      rw [hs, List.drop_length]; rfl
end Go.Am

/- The size of a tree, level by level; what is a tree, what is content. -/
namespace Go.Am
open Go Go.RowKit
/-- Many elements more. -/
theorem app_locs (sz b d k : Nat) (xs ys : List IV) {n : Nat} {H : Hp} (hl : H (.loc k) = .live ⟨sz, immE xs⟩) (hn : xs.length = n) (he : Elsz sz ys) (hf : Flat ys) (hb : (n + ys.length) * b ≤ 140737488355328) (h0 : 0 < b)
    (hne : k ≠ d) (hu : H (.loc d) = .unused) :
    appV sz b d (.sl (.loc k) sz 0 n) (.list ys) H = some (.sl (.loc d) sz 0 (n + ys.length), upd (upd H (.loc k) .dead) (.loc d) (.live ⟨sz, immE (xs ++ ys)⟩)) := by
  have h1 : (immE xs).length = n := by rw [immE_len, hn]
  rw [app_sl (l := .loc k) (els := immE xs) hl (by omega) he hf hb h0 (by simpa [Lb.app, Lb.fresh] using hne) (by simpa [Lb.app, Lb.fresh] using hu)]
  simp only [Lb.app, Lb.fresh, if_true]
  rw [List.take_of_length_le (by omega), immE_app]
def c_topiaryref_SizeOf : AC :=
(.seq (.reg [⟨(some 1), none, (.box (.t 0))⟩, ⟨(some 2), none, (.mov (.c (.int .i64 0)))⟩, ⟨(some 3), none, (.mov (.c (.int .i64 0)))⟩]) (.seq (.reg [⟨(some 4), none, (.mov (.c (.int .i64 0)))⟩, ⟨(some 5), none, (.mov (.c (.int .i64 0)))⟩]) (.seq (.seq (.reg [⟨(some 10), none, (.load (some 4) (.t 1))⟩, ⟨(some 11), none, (.lits 1 4 [(.bool false), (.str []), .nil0, .nil0] [(0, (.t 10))])⟩, ⟨(some 6), none, (.mov (.t 11))⟩]) (.block 0 (.loop (.seq (.seq (.reg [⟨(some 12), none, (.mov (.t 6))⟩, ⟨(some 13), none, (.len (.t 12))⟩, ⟨(some 14), none, (.bin .gtr (.t 13) (.c (.int .i64 0)))⟩]) (.cond (.t 14) .skip (.exit 0))) (.block 1 (.seq (.reg [⟨(some 15), none, (.mov (.t 4))⟩, ⟨(some 16), none, (.bin .add (.t 15) (.c (.int .i64 1)))⟩, ⟨(some 4), none, (.mov (.t 16))⟩]) (.seq (.reg [⟨(some 17), none, (.mov (.t 5))⟩, ⟨(some 18), none, (.mov (.t 6))⟩, ⟨(some 19), none, (.len (.t 18))⟩, ⟨(some 20), none, (.bin .add (.t 17) (.t 19))⟩, ⟨(some 5), none, (.mov (.t 20))⟩]) (.seq (.reg [⟨(some 7), none, (.mov (.c .nil0))⟩]) (.gh (.own 7 4) (.seq (.seq (.reg [⟨(some 21), none, (.mov (.t 6))⟩, ⟨(some 22), none, (.len (.t 21))⟩, ⟨(some 23), none, (.mov (.c (.int .i64 0)))⟩]) (.block 2 (.loop (.seq (.reg [⟨(some 24), none, (.bin .lss (.t 23) (.t 22))⟩]) (.seq (.cond (.t 24) .skip (.exit 2)) (.seq (.block 3 (.seq (.reg [⟨(some 25), none, (.ixa (.t 21) (.t 23) 4)⟩, ⟨(some 26), none, (.load (some 4) (.t 25))⟩, ⟨(some 9), none, (.new [(.bool false), (.str []), .nil0, .nil0])⟩, ⟨none, none, (.store 4 (.t 9) (.t 26))⟩]) (.reg [⟨(some 27), none, (.mov (.t 7))⟩, ⟨(some 28), none, (.fld (.t 9) 3)⟩, ⟨(some 29), none, (.load none (.t 28))⟩, ⟨(some 30), none, (.app (.t 27) (.t 29) 4 72)⟩, ⟨(some 7), none, (.mov (.t 30))⟩]))) (.reg [⟨(some 31), none, (.bin .add (.t 23) (.c (.int .i64 1)))⟩, ⟨(some 23), none, (.mov (.t 31))⟩]))))))) (.gh (.frz (.loc 7) 7) (.reg [⟨(some 32), none, (.mov (.t 7))⟩, ⟨(some 6), none, (.mov (.t 32))⟩])))))))))))) (.seq (.reg [⟨(some 33), none, (.mov (.t 4))⟩, ⟨(some 34), none, (.mov (.t 5))⟩, ⟨(some 2), none, (.mov (.t 33))⟩, ⟨(some 3), none, (.mov (.t 34))⟩]) .ret))))
theorem pSizeOf {P : Program} {G : Nat → Option (List IV)} {f_topiaryref_SizeOf : Nat} (hF : compF P G f_topiaryref_SizeOf = some (35, [(none, 2), (none, 3)], c_topiaryref_SizeOf.bare)) (x : Tree) (hx : x.wt ≤ B) :
    PureC P G f_topiaryref_SizeOf [x.av] (.tup [.int .i64 x.dep, .int .i64 x.cnt]) := by
  refine pure_of_go hF (by simp) (by simp [lbss, AV.lbs, Tree.av]) (by simp [AV.lbs, lbss]) ?_
  unfold c_topiaryref_SizeOf
  have hx1 : [x.iv] = ivT [x] := by simp [ivT]
  have hxv : [IV.agg [.bool x.text, .str x.s, .list (ivA x.attrs), .list (ivT x.kids)]] = ivT [x] := by rw [← hx1, x.iv_eq]; rfl
  simp only [↓aX, evp, evq, evl, boxK, stillV, binV, AV.cells, mP, loadV, storeV, ldV, AV.stb, AV.one, IV.av1, Lb.app, Lb.fresh, reduceCtorEq, ptrL, appL, fillA, chunks, ivs, AV.iv, mkE, if_false, if_true, List.not_mem_nil, forall_eq, beq_self_eq_true, List.isEmpty_nil, Nat.reduceEqDiff, Nat.reduceLT, Nat.reduceLeDiff, Nat.reduceAdd, Nat.reduceMul, Int.reduceToNat, Int.reduceLE, Int.reduceLT, Tree.av, hxv]
  have hBv : B = 1073741824 := rfl
  have hd := x.cnt_le
  have hdw := x.dep_le
  refine loop_data (σ := { q : Nat × Nat × List Tree // q.1 + depT q.2.2 = x.dep ∧ q.2.1 + cntT q.2.2 = x.cnt ∧ wtT q.2.2 ≤ B }) (fun q => [(4, .int .i64 q.1.1), (5, .int .i64 q.1.2.1), (6, .list (ivT q.1.2.2))]) (fun q => cntT q.1.2.2) ⟨(0, 0, [x]), by simp [depT, cntT, wtT, hx]⟩ (fun _ => rfl) ?_ ?_
  · exact ⟨by simp only [↓aX, evp, evq, evl, boxK, stillV, binV, AV.cells, mP, loadV, storeV, ldV, AV.stb, AV.one, IV.av1, Lb.app, Lb.fresh, reduceCtorEq, ptrL, appL, fillA, chunks, ivs, AV.iv, mkE, if_false, if_true, List.not_mem_nil, forall_eq, beq_self_eq_true, List.isEmpty_nil, Nat.reduceEqDiff, Nat.reduceLT, Nat.reduceLeDiff, Nat.reduceAdd, Nat.reduceMul, Int.reduceToNat, Int.reduceLE, Int.reduceLT], by repeat' constructor⟩
  · rintro ⟨⟨d, c, xs⟩, h1, h2, h3⟩
    simp only at h1 h2 h3
    simp only [↓aX, evp, evq, evl, boxK, stillV, binV, AV.cells, mP, loadV, storeV, ldV, AV.stb, AV.one, IV.av1, Lb.app, Lb.fresh, reduceCtorEq, ptrL, appL, fillA, chunks, ivs, AV.iv, mkE, if_false, if_true, List.not_mem_nil, forall_eq, beq_self_eq_true, List.isEmpty_nil, Nat.reduceEqDiff, Nat.reduceLT, Nat.reduceLeDiff, Nat.reduceAdd, Nat.reduceMul, Int.reduceToNat, Int.reduceLE, Int.reduceLT, ivT_len]
    by_cases hn : xs = []
    · subst hn
      simp only [depT, cntT, Nat.add_zero] at h1 h2
      simp only [List.length_nil, show decide (((0 : Nat) : Int) > 0) = false from rfl, ↓aX, evp, evq, evl, boxK, stillV, binV, AV.cells, mP, loadV, storeV, ldV, AV.stb, AV.one, IV.av1, Lb.app, Lb.fresh, reduceCtorEq, ptrL, appL, fillA, chunks, ivs, AV.iv, mkE, if_false, if_true, List.not_mem_nil, forall_eq, beq_self_eq_true, List.isEmpty_nil, Nat.reduceEqDiff, Nat.reduceLT, Nat.reduceLeDiff, Nat.reduceAdd, Nat.reduceMul, Int.reduceToNat, Int.reduceLE, Int.reduceLT, h1, h2, ↓ret2_r]
    · have hpos : 0 < xs.length := List.length_pos_iff.2 hn
      have hlx := wtT_len xs
      have hw1 : IntKind.i64.wrap ((d : Int) + 1) = ((d + 1 : Nat) : Int) := wrap64 (by omega) (by omega)
      have hw2 : IntKind.i64.wrap ((c : Int) + (xs.length : Int)) = ((c + xs.length : Nat) : Int) := by
        have := nextT_cnt xs
        exact wrap64 (by omega) (by omega)
      simp only [show decide ((xs.length : Int) > 0) = true by simpa using hpos, ↓aX, evp, evq, evl, boxK, stillV, binV, AV.cells, mP, loadV, storeV, ldV, AV.stb, AV.one, IV.av1, Lb.app, Lb.fresh, reduceCtorEq, ptrL, appL, fillA, chunks, ivs, AV.iv, mkE, if_false, if_true, List.not_mem_nil, forall_eq, beq_self_eq_true, List.isEmpty_nil, Nat.reduceEqDiff, Nat.reduceLT, Nat.reduceLeDiff, Nat.reduceAdd, Nat.reduceMul, Int.reduceToNat, Int.reduceLE, Int.reduceLT, ivT_len, hw1, hw2]
      refine loop_row (σ := { i : Nat // i ≤ xs.length }) 7 4 (fun q => [(4, .int .i64 ((d + 1 : Nat) : Int)), (5, .int .i64 ((c + xs.length : Nat) : Int)), (21, .list (ivT xs)), (22, .int .i64 xs.length), (23, .int .i64 q.1)]) (fun q => ivT (nextT (xs.take q.1))) (fun q => xs.length - q.1) ⟨0, by simp⟩ (fun _ => rfl) ?_ ?_
      · simp only [WR_at, ↓aX, evp, evq, evl, boxK, stillV, binV, AV.cells, mP, loadV, storeV, ldV, AV.stb, AV.one, IV.av1, Lb.app, Lb.fresh, reduceCtorEq, ptrL, appL, fillA, chunks, ivs, AV.iv, mkE, if_false, if_true, List.not_mem_nil, forall_eq, beq_self_eq_true, List.isEmpty_nil, Nat.reduceEqDiff, Nat.reduceLT, Nat.reduceLeDiff, Nat.reduceAdd, Nat.reduceMul, Int.reduceToNat, Int.reduceLE, Int.reduceLT]
        exact ⟨rfl, 7, [], rfl, rfl, rfl⟩
      · rintro ⟨i, hi⟩
        have hnw := nextT_wt xs
        have hnt : wtT (nextT (xs.take i)) ≤ wtT xs := Nat.le_trans (by have := nextT_wt (xs.take i); omega) (wtT_take xs i)
        have hnl := wtT_len (nextT (xs.take i))
        simp only [↓aX, evp, evq, evl, boxK, stillV, binV, AV.cells, mP, loadV, storeV, ldV, AV.stb, AV.one, IV.av1, Lb.app, Lb.fresh, reduceCtorEq, ptrL, appL, fillA, chunks, ivs, AV.iv, mkE, if_false, if_true, List.not_mem_nil, forall_eq, beq_self_eq_true, List.isEmpty_nil, Nat.reduceEqDiff, Nat.reduceLT, Nat.reduceLeDiff, Nat.reduceAdd, Nat.reduceMul, Int.reduceToNat, Int.reduceLE, Int.reduceLT, ivT_len]
        by_cases hlt : i < xs.length
        · obtain ⟨y, hy⟩ : ∃ y, xs[i]? = some y := ⟨_, List.getElem?_eq_getElem hlt⟩
          have hw : IntKind.i64.wrap ((i : Int) + 1) = ((i + 1 : Nat) : Int) := wrap64 (by omega) (by omega)
          have hnext : nextT (xs.take (i + 1)) = nextT (xs.take i) ++ y.kids := by rw [List.take_add_one, hy]; simp [nextT]
          have hnt2 : wtT (nextT (xs.take (i + 1))) ≤ wtT xs := Nat.le_trans (by have := nextT_wt (xs.take (i + 1)); omega) (wtT_take xs (i + 1))
          rw [hnext, wtT_app] at hnt2
          have hkl := wtT_len y.kids
          simp only [show decide ((i : Int) < (xs.length : Int)) = true by simpa using hlt, ↓aX, evp, evq, evl, boxK, stillV, binV, AV.cells, mP, loadV, storeV, ldV, AV.stb, AV.one, IV.av1, Lb.app, Lb.fresh, reduceCtorEq, ptrL, appL, fillA, chunks, ivs, AV.iv, mkE, if_false, if_true, List.not_mem_nil, forall_eq, beq_self_eq_true, List.isEmpty_nil, Nat.reduceEqDiff, Nat.reduceLT, Nat.reduceLeDiff, Nat.reduceAdd, Nat.reduceMul, Int.reduceToNat, Int.reduceLE, Int.reduceLT, ivT_get, hy, elszT, Tree.cells_eq, Tree.cs]
          rw [app_locs 4 72 30 7 (ivT (nextT (xs.take i))) (ivT y.kids) (by simp [upd_at]) (by rw [ivT_len]) (elszT _) (flatT _) (by have := ivT_len y.kids; have := ivT_len (nextT (xs.take i)); omega) (by decide) (by decide) (by simp [upd_at, Hp.none])]
          simp only [↓aX, evp, evq, evl, boxK, stillV, binV, AV.cells, mP, loadV, storeV, ldV, AV.stb, AV.one, IV.av1, Lb.app, Lb.fresh, reduceCtorEq, ptrL, appL, fillA, chunks, ivs, AV.iv, mkE, if_false, if_true, List.not_mem_nil, forall_eq, beq_self_eq_true, List.isEmpty_nil, Nat.reduceEqDiff, Nat.reduceLT, Nat.reduceLeDiff, Nat.reduceAdd, Nat.reduceMul, Int.reduceToNat, Int.reduceLE, Int.reduceLT, hw]
          refine ⟨⟨i + 1, hlt⟩, by simp only; omega, ?_⟩
          refine WR_mk 30 (by simp only [↓aX, evp, evq, evl, boxK, stillV, binV, AV.cells, mP, loadV, storeV, ldV, AV.stb, AV.one, IV.av1, Lb.app, Lb.fresh, reduceCtorEq, ptrL, appL, fillA, chunks, ivs, AV.iv, mkE, if_false, if_true, List.not_mem_nil, forall_eq, beq_self_eq_true, List.isEmpty_nil, Nat.reduceEqDiff, Nat.reduceLT, Nat.reduceLeDiff, Nat.reduceAdd, Nat.reduceMul, Int.reduceToNat, Int.reduceLE, Int.reduceLT]) ⟨rfl, rfl, rfl, rfl, rfl, trivial⟩ ?_ ?_
          · simp only [↓aX, evp, evq, evl, boxK, stillV, binV, AV.cells, mP, loadV, storeV, ldV, AV.stb, AV.one, IV.av1, Lb.app, Lb.fresh, reduceCtorEq, ptrL, appL, fillA, chunks, ivs, AV.iv, mkE, if_false, if_true, List.not_mem_nil, forall_eq, beq_self_eq_true, List.isEmpty_nil, Nat.reduceEqDiff, Nat.reduceLT, Nat.reduceLeDiff, Nat.reduceAdd, Nat.reduceMul, Int.reduceToNat, Int.reduceLE, Int.reduceLT, hnext, ivT_app, List.length_append, ivT_len]
          · simp only [↓aX, evp, evq, evl, boxK, stillV, binV, AV.cells, mP, loadV, storeV, ldV, AV.stb, AV.one, IV.av1, Lb.app, Lb.fresh, reduceCtorEq, ptrL, appL, fillA, chunks, ivs, AV.iv, mkE, if_false, if_true, List.not_mem_nil, forall_eq, beq_self_eq_true, List.isEmpty_nil, Nat.reduceEqDiff, Nat.reduceLT, Nat.reduceLeDiff, Nat.reduceAdd, Nat.reduceMul, Int.reduceToNat, Int.reduceLE, Int.reduceLT, hnext, ivT_app]
        · have hil : i = xs.length := by omega
          subst hil
          simp only [show decide ((xs.length : Int) < (xs.length : Int)) = false by simp, ↓aX, evp, evq, evl, boxK, stillV, binV, AV.cells, mP, loadV, storeV, ldV, AV.stb, AV.one, IV.av1, Lb.app, Lb.fresh, reduceCtorEq, ptrL, appL, fillA, chunks, ivs, AV.iv, mkE, if_false, if_true, List.not_mem_nil, forall_eq, beq_self_eq_true, List.isEmpty_nil, Nat.reduceEqDiff, Nat.reduceLT, Nat.reduceLeDiff, Nat.reduceAdd, Nat.reduceMul, Int.reduceToNat, Int.reduceLE, Int.reduceLT]
          refine ⟨4, ivT (nextT (xs.take xs.length)), 0, _, rfl, rfl, by simp, flatT _, ?_⟩
          simp only [↓aX, evp, evq, evl, boxK, stillV, binV, AV.cells, mP, loadV, storeV, ldV, AV.stb, AV.one, IV.av1, Lb.app, Lb.fresh, reduceCtorEq, ptrL, appL, fillA, chunks, ivs, AV.iv, mkE, if_false, if_true, List.not_mem_nil, forall_eq, beq_self_eq_true, List.isEmpty_nil, Nat.reduceEqDiff, Nat.reduceLT, Nat.reduceLeDiff, Nat.reduceAdd, Nat.reduceMul, Int.reduceToNat, Int.reduceLE, Int.reduceLT, List.take_length, List.drop_zero]
          refine ⟨⟨(d + 1, c + xs.length, nextT xs), ?_, ?_, ?_⟩, ?_, ?_⟩
          · have := nextT_dep xs hn; simp only; omega
          · have := nextT_cnt xs; simp only; omega
          · simp only; omega
          · have := nextT_cnt xs; simp only; omega
          · exact ⟨by simp only [↓aX, evp, evq, evl, boxK, stillV, binV, AV.cells, mP, loadV, storeV, ldV, AV.stb, AV.one, IV.av1, Lb.app, Lb.fresh, reduceCtorEq, ptrL, appL, fillA, chunks, ivs, AV.iv, mkE, if_false, if_true, List.not_mem_nil, forall_eq, beq_self_eq_true, List.isEmpty_nil, Nat.reduceEqDiff, Nat.reduceLT, Nat.reduceLeDiff, Nat.reduceAdd, Nat.reduceMul, Int.reduceToNat, Int.reduceLE, Int.reduceLT], by repeat' constructor⟩
def c_topiaryref_IsTree (f_topiaryref_SizeOf f_topiaryref_right : Nat) : AC :=
(.seq (.reg [⟨(some 1), none, (.box (.t 0))⟩, ⟨(some 2), none, (.mov (.c (.bool false)))⟩]) (.seq (.reg [⟨(some 6), none, (.load (some 4) (.t 1))⟩, ⟨(some 7), none, (.call f_topiaryref_SizeOf [(.t 6)])⟩, ⟨(some 5), none, (.mov (.t 7))⟩, ⟨(some 8), none, (.ext (.t 5) 0)⟩, ⟨(some 9), none, (.ext (.t 5) 1)⟩, ⟨(some 3), none, (.mov (.t 8))⟩, ⟨(some 4), none, (.mov (.t 9))⟩]) (.seq (.reg [⟨(some 10), none, (.fld (.t 1) 0)⟩, ⟨(some 11), none, (.load none (.t 10))⟩, ⟨(some 12), none, (.not (.t 11))⟩, ⟨(some 13), none, (.mov (.t 12))⟩, ⟨(some 14), (some (13, true)), (.mov (.t 3))⟩, ⟨(some 15), (some (13, true)), (.bin .lss (.t 14) (.c (.int .i64 9)))⟩, ⟨(some 16), none, (.pick (.t 13) (.t 15) (.c (.bool false)))⟩, ⟨(some 17), none, (.mov (.t 16))⟩, ⟨(some 18), (some (17, true)), (.mov (.t 4))⟩, ⟨(some 19), (some (17, true)), (.bin .lss (.t 18) (.c (.int .i64 81)))⟩, ⟨(some 20), none, (.pick (.t 17) (.t 19) (.c (.bool false)))⟩, ⟨(some 21), none, (.mov (.t 20))⟩, ⟨(some 22), (some (21, true)), (.load (some 4) (.t 1))⟩, ⟨(some 23), (some (21, true)), (.lits 1 4 [(.bool false), (.str []), .nil0, .nil0] [(0, (.t 22))])⟩, ⟨(some 24), (some (21, true)), (.call f_topiaryref_right [(.t 23)])⟩, ⟨(some 25), none, (.pick (.t 21) (.t 24) (.c (.bool false)))⟩, ⟨(some 2), none, (.mov (.t 25))⟩]) .ret)))
theorem pIsTree {P : Program} {G : Nat → Option (List IV)} {f_topiaryref_IsTree f_topiaryref_SizeOf f_topiaryref_right : Nat} (hF : compF P G f_topiaryref_IsTree = some (26, [(none, 2)], (c_topiaryref_IsTree f_topiaryref_SizeOf f_topiaryref_right).bare)) (x : Tree)
    (hS : PureC P G f_topiaryref_SizeOf [x.av] (.tup [.int .i64 x.dep, .int .i64 x.cnt])) (hR : PureC P G f_topiaryref_right [.list (ivT [x])] (.bool (fines none [x]))) :
    PureC P G f_topiaryref_IsTree [x.av] (.bool x.good) := by
  refine pure_of_go hF (by simp) (by simp [lbss, AV.lbs, Tree.av]) (by simp [AV.lbs]) ?_
  unfold c_topiaryref_IsTree
  have hxv : [IV.agg [.bool x.text, .str x.s, .list (ivA x.attrs), .list (ivT x.kids)]] = ivT [x] := by simp only [ivT, x.iv_eq]; rfl
  have hf : fines none [x] = x.fine := by simp [fines]
  simp only [↓aX, evp, evq, evl, boxK, stillV, binV, AV.cells, mP, loadV, storeV, ldV, AV.stb, AV.one, IV.av1, Lb.app, Lb.fresh, reduceCtorEq, ptrL, appL, fillA, chunks, ivs, AV.iv, mkE, if_false, if_true, List.not_mem_nil, forall_eq, beq_self_eq_true, List.isEmpty_nil, Nat.reduceEqDiff, Nat.reduceLT, Nat.reduceLeDiff, Nat.reduceAdd, Nat.reduceMul, Int.reduceToNat, Int.reduceLE, Int.reduceLT, Tree.av]
  refine callT_pure hS ?_
  simp only [↓aX, evp, evq, evl, boxK, stillV, binV, AV.cells, mP, loadV, storeV, ldV, AV.stb, AV.one, IV.av1, Lb.app, Lb.fresh, reduceCtorEq, ptrL, appL, fillA, chunks, ivs, AV.iv, mkE, if_false, if_true, List.not_mem_nil, forall_eq, beq_self_eq_true, List.isEmpty_nil, Nat.reduceEqDiff, Nat.reduceLT, Nat.reduceLeDiff, Nat.reduceAdd, Nat.reduceMul, Int.reduceToNat, Int.reduceLE, Int.reduceLT]
  cases ht : x.text with
  | true =>
    have : x.good = false := by
      cases hg : x.good with
      | false => rfl
      | true => have := (good_iff x).1 hg; rw [ht] at this; simp at this
    simp only [↓aX, evp, evq, evl, boxK, stillV, binV, AV.cells, mP, loadV, storeV, ldV, AV.stb, AV.one, IV.av1, Lb.app, Lb.fresh, reduceCtorEq, ptrL, appL, fillA, chunks, ivs, AV.iv, mkE, if_false, if_true, List.not_mem_nil, forall_eq, beq_self_eq_true, List.isEmpty_nil, Nat.reduceEqDiff, Nat.reduceLT, Nat.reduceLeDiff, Nat.reduceAdd, Nat.reduceMul, Int.reduceToNat, Int.reduceLE, Int.reduceLT, Bool.not_true, this]
  | false =>
    simp only [↓aX, evp, evq, evl, boxK, stillV, binV, AV.cells, mP, loadV, storeV, ldV, AV.stb, AV.one, IV.av1, Lb.app, Lb.fresh, reduceCtorEq, ptrL, appL, fillA, chunks, ivs, AV.iv, mkE, if_false, if_true, List.not_mem_nil, forall_eq, beq_self_eq_true, List.isEmpty_nil, Nat.reduceEqDiff, Nat.reduceLT, Nat.reduceLeDiff, Nat.reduceAdd, Nat.reduceMul, Int.reduceToNat, Int.reduceLE, Int.reduceLT, Bool.not_false]
    cases h1 : decide ((x.dep : Int) < 9) with
    | false =>
      have : x.good = false := by
        cases hg : x.good with
        | false => rfl
        | true => have := (good_iff x).1 hg; have := of_decide_eq_false h1; omega
      simp only [↓aX, evp, evq, evl, boxK, stillV, binV, AV.cells, mP, loadV, storeV, ldV, AV.stb, AV.one, IV.av1, Lb.app, Lb.fresh, reduceCtorEq, ptrL, appL, fillA, chunks, ivs, AV.iv, mkE, if_false, if_true, List.not_mem_nil, forall_eq, beq_self_eq_true, List.isEmpty_nil, Nat.reduceEqDiff, Nat.reduceLT, Nat.reduceLeDiff, Nat.reduceAdd, Nat.reduceMul, Int.reduceToNat, Int.reduceLE, Int.reduceLT, this]
    | true =>
      simp only [↓aX, evp, evq, evl, boxK, stillV, binV, AV.cells, mP, loadV, storeV, ldV, AV.stb, AV.one, IV.av1, Lb.app, Lb.fresh, reduceCtorEq, ptrL, appL, fillA, chunks, ivs, AV.iv, mkE, if_false, if_true, List.not_mem_nil, forall_eq, beq_self_eq_true, List.isEmpty_nil, Nat.reduceEqDiff, Nat.reduceLT, Nat.reduceLeDiff, Nat.reduceAdd, Nat.reduceMul, Int.reduceToNat, Int.reduceLE, Int.reduceLT]
      cases h2 : decide ((x.cnt : Int) < 81) with
      | false =>
        have : x.good = false := by
          cases hg : x.good with
          | false => rfl
          | true => have := (good_iff x).1 hg; have := of_decide_eq_false h2; omega
        simp only [↓aX, evp, evq, evl, boxK, stillV, binV, AV.cells, mP, loadV, storeV, ldV, AV.stb, AV.one, IV.av1, Lb.app, Lb.fresh, reduceCtorEq, ptrL, appL, fillA, chunks, ivs, AV.iv, mkE, if_false, if_true, List.not_mem_nil, forall_eq, beq_self_eq_true, List.isEmpty_nil, Nat.reduceEqDiff, Nat.reduceLT, Nat.reduceLeDiff, Nat.reduceAdd, Nat.reduceMul, Int.reduceToNat, Int.reduceLE, Int.reduceLT, this]
      | true =>
        simp only [↓aX, evp, evq, evl, boxK, stillV, binV, AV.cells, mP, loadV, storeV, ldV, AV.stb, AV.one, IV.av1, Lb.app, Lb.fresh, reduceCtorEq, ptrL, appL, fillA, chunks, ivs, AV.iv, mkE, if_false, if_true, List.not_mem_nil, forall_eq, beq_self_eq_true, List.isEmpty_nil, Nat.reduceEqDiff, Nat.reduceLT, Nat.reduceLeDiff, Nat.reduceAdd, Nat.reduceMul, Int.reduceToNat, Int.reduceLE, Int.reduceLT]
        rw [← ht, hxv]
        refine callT_pure hR ?_
        have hd1 := of_decide_eq_true h1
        have hd2 := of_decide_eq_true h2
        have : x.good = x.fine := by
          rw [Bool.eq_iff_iff, good_iff]
          constructor
          · exact fun h => h.2.2.2
          · exact fun h => ⟨ht, by omega, by omega, h⟩
        simp only [↓aX, evp, evq, evl, boxK, stillV, binV, AV.cells, mP, loadV, storeV, ldV, AV.stb, AV.one, IV.av1, Lb.app, Lb.fresh, reduceCtorEq, ptrL, appL, fillA, chunks, ivs, AV.iv, mkE, if_false, if_true, List.not_mem_nil, forall_eq, beq_self_eq_true, List.isEmpty_nil, Nat.reduceEqDiff, Nat.reduceLT, Nat.reduceLeDiff, Nat.reduceAdd, Nat.reduceMul, Int.reduceToNat, Int.reduceLE, Int.reduceLT, hf, this]
def c_topiaryref_IsContent (f_topiaryref_SizeOf f_topiaryref_right : Nat) : AC :=
(.seq (.reg [⟨(some 2), none, (.mov (.c (.bool false)))⟩]) (.seq (.reg [⟨(some 3), none, (.mov (.c (.int .i64 0)))⟩]) (.seq (.seq (.reg [⟨(some 8), none, (.mov (.t 0))⟩, ⟨(some 9), none, (.len (.t 8))⟩, ⟨(some 10), none, (.mov (.c (.int .i64 0)))⟩]) (.block 0 (.loop (.seq (.reg [⟨(some 11), none, (.bin .lss (.t 10) (.t 9))⟩]) (.seq (.cond (.t 11) .skip (.exit 0)) (.seq (.block 1 (.seq (.reg [⟨(some 12), none, (.ixa (.t 8) (.t 10) 4)⟩, ⟨(some 13), none, (.load (some 4) (.t 12))⟩, ⟨(some 5), none, (.new [(.bool false), (.str []), .nil0, .nil0])⟩, ⟨none, none, (.store 4 (.t 5) (.t 13))⟩]) (.seq (.reg [⟨(some 15), none, (.load (some 4) (.t 5))⟩, ⟨(some 16), none, (.call f_topiaryref_SizeOf [(.t 15)])⟩, ⟨(some 14), none, (.mov (.t 16))⟩, ⟨(some 17), none, (.ext (.t 14) 0)⟩, ⟨(some 18), none, (.ext (.t 14) 1)⟩, ⟨(some 6), none, (.mov (.t 17))⟩, ⟨(some 7), none, (.mov (.t 18))⟩]) (.seq (.reg [⟨(some 19), none, (.mov (.t 3))⟩, ⟨(some 20), none, (.mov (.t 7))⟩, ⟨(some 21), none, (.bin .add (.t 19) (.t 20))⟩, ⟨(some 3), none, (.mov (.t 21))⟩]) (.seq (.reg [⟨(some 22), none, (.mov (.t 6))⟩, ⟨(some 23), none, (.bin .gtr (.t 22) (.c (.int .i64 8)))⟩]) (.cond (.t 23) (.seq (.reg [⟨(some 2), none, (.mov (.c (.bool false)))⟩]) .ret) .skip)))))) (.reg [⟨(some 24), none, (.bin .add (.t 10) (.c (.int .i64 1)))⟩, ⟨(some 10), none, (.mov (.t 24))⟩]))))))) (.seq (.reg [⟨(some 25), none, (.mov (.t 3))⟩, ⟨(some 26), none, (.bin .leq (.t 25) (.c (.int .i64 80)))⟩, ⟨(some 27), none, (.mov (.t 26))⟩, ⟨(some 28), (some (27, true)), (.mov (.t 0))⟩, ⟨(some 29), (some (27, true)), (.call f_topiaryref_right [(.t 28)])⟩, ⟨(some 30), none, (.pick (.t 27) (.t 29) (.c (.bool false)))⟩, ⟨(some 2), none, (.mov (.t 30))⟩]) .ret))))
theorem pIsContent {P : Program} {G : Nat → Option (List IV)} {f_topiaryref_IsContent f_topiaryref_SizeOf f_topiaryref_right : Nat} (hF : compF P G f_topiaryref_IsContent = some (31, [(none, 2)], (c_topiaryref_IsContent f_topiaryref_SizeOf f_topiaryref_right).bare)) (l : List Tree) (hx : wtT l ≤ B)
    (hS : ∀ x ∈ l, PureC P G f_topiaryref_SizeOf [x.av] (.tup [.int .i64 x.dep, .int .i64 x.cnt])) (hR : PureC P G f_topiaryref_right [.list (ivT l)] (.bool (fines none l))) :
    PureC P G f_topiaryref_IsContent [.list (ivT l)] (.bool (content l)) := by
  refine pure_of_go hF (by simp) (by simp [lbss, AV.lbs]) (by simp [AV.lbs]) ?_
  unfold c_topiaryref_IsContent
  have hBv : B = 1073741824 := rfl
  have hl := wtT_len l
  simp only [↓aX, evp, evq, evl, boxK, stillV, binV, AV.cells, mP, loadV, storeV, ldV, AV.stb, AV.one, IV.av1, Lb.app, Lb.fresh, reduceCtorEq, ptrL, appL, fillA, chunks, ivs, AV.iv, mkE, if_false, if_true, List.not_mem_nil, forall_eq, beq_self_eq_true, List.isEmpty_nil, Nat.reduceEqDiff, Nat.reduceLT, Nat.reduceLeDiff, Nat.reduceAdd, Nat.reduceMul, Int.reduceToNat, Int.reduceLE, Int.reduceLT, ivT_len]
  refine loop_data (σ := { i : Nat // i ≤ l.length ∧ (l.take i).all (fun x => decide (x.dep ≤ 8)) = true }) (fun q => [(0, .list (ivT l)), (3, .int .i64 (cntT (l.take q.1))), (8, .list (ivT l)), (9, .int .i64 l.length), (10, .int .i64 q.1)]) (fun q => l.length - q.1) ⟨0, by simp⟩ (fun _ => rfl) ?_ ?_
  · exact ⟨by simp only [↓aX, evp, evq, evl, boxK, stillV, binV, AV.cells, mP, loadV, storeV, ldV, AV.stb, AV.one, IV.av1, Lb.app, Lb.fresh, reduceCtorEq, ptrL, appL, fillA, chunks, ivs, AV.iv, mkE, if_false, if_true, List.not_mem_nil, forall_eq, beq_self_eq_true, List.isEmpty_nil, Nat.reduceEqDiff, Nat.reduceLT, Nat.reduceLeDiff, Nat.reduceAdd, Nat.reduceMul, Int.reduceToNat, Int.reduceLE, Int.reduceLT], by repeat' constructor⟩
  · rintro ⟨i, hi, hs⟩
    simp only [↓aX, evp, evq, evl, boxK, stillV, binV, AV.cells, mP, loadV, storeV, ldV, AV.stb, AV.one, IV.av1, Lb.app, Lb.fresh, reduceCtorEq, ptrL, appL, fillA, chunks, ivs, AV.iv, mkE, if_false, if_true, List.not_mem_nil, forall_eq, beq_self_eq_true, List.isEmpty_nil, Nat.reduceEqDiff, Nat.reduceLT, Nat.reduceLeDiff, Nat.reduceAdd, Nat.reduceMul, Int.reduceToNat, Int.reduceLE, Int.reduceLT, ivT_len]
    refine cK_b (fun h => ?_) (fun h => ?_)
    · have hlt : i < l.length := by simpa using h
      obtain ⟨x, hxi⟩ : ∃ x, l[i]? = some x := ⟨_, List.getElem?_eq_getElem hlt⟩
      have hw : IntKind.i64.wrap ((i : Int) + 1) = ((i + 1 : Nat) : Int) := wrap64 (by omega) (by unfold B at hx; omega)
      have h2 := wtT_take l i
      have h3 := cntT_le (l.take i)
      have h5 := wtT_get _ _ _ hxi
      have h6 := x.cnt_le
      have h1 : l.take (i + 1) = l.take i ++ [x] := by rw [List.take_add_one, hxi]; rfl
      have hc : IntKind.i64.wrap ((cntT (l.take i) : Int) + (x.cnt : Int)) = ((cntT (l.take (i + 1)) : Nat) : Int) := by
        rw [wrap64 (by omega) (by unfold B at hx; omega), h1, cntT_app]; simp [cntT]
      simp only [↓aX, evp, evq, evl, boxK, stillV, binV, AV.cells, mP, loadV, storeV, ldV, AV.stb, AV.one, IV.av1, Lb.app, Lb.fresh, reduceCtorEq, ptrL, appL, fillA, chunks, ivs, AV.iv, mkE, if_false, if_true, List.not_mem_nil, forall_eq, beq_self_eq_true, List.isEmpty_nil, Nat.reduceEqDiff, Nat.reduceLT, Nat.reduceLeDiff, Nat.reduceAdd, Nat.reduceMul, Int.reduceToNat, Int.reduceLE, Int.reduceLT, ivT_get, hxi, elszT, Tree.cells_eq, Tree.cs]

      refine callT_pure (hS x (List.mem_of_getElem? hxi)) ?_
      simp only [↓aX, evp, evq, evl, boxK, stillV, binV, AV.cells, mP, loadV, storeV, ldV, AV.stb, AV.one, IV.av1, Lb.app, Lb.fresh, reduceCtorEq, ptrL, appL, fillA, chunks, ivs, AV.iv, mkE, if_false, if_true, List.not_mem_nil, forall_eq, beq_self_eq_true, List.isEmpty_nil, Nat.reduceEqDiff, Nat.reduceLT, Nat.reduceLeDiff, Nat.reduceAdd, Nat.reduceMul, Int.reduceToNat, Int.reduceLE, Int.reduceLT]
      refine cK_b (fun h9 => ?_) (fun h9 => ?_)
      · simp only [↓aX, evp, evq, evl, boxK, stillV, binV, AV.cells, mP, loadV, storeV, ldV, AV.stb, AV.one, IV.av1, Lb.app, Lb.fresh, reduceCtorEq, ptrL, appL, fillA, chunks, ivs, AV.iv, mkE, if_false, if_true, List.not_mem_nil, forall_eq, beq_self_eq_true, List.isEmpty_nil, Nat.reduceEqDiff, Nat.reduceLT, Nat.reduceLeDiff, Nat.reduceAdd, Nat.reduceMul, Int.reduceToNat, Int.reduceLE, Int.reduceLT]
        have : l.all (fun x => decide (x.dep ≤ 8)) = false := by
          rw [Bool.eq_false_iff]
          intro hall
          have := List.all_eq_true.1 hall x (List.mem_of_getElem? hxi)
          simp at this h9; omega
        rw [content, this]; rfl
      · simp only [↓aX, evp, evq, evl, boxK, stillV, binV, AV.cells, mP, loadV, storeV, ldV, AV.stb, AV.one, IV.av1, Lb.app, Lb.fresh, reduceCtorEq, ptrL, appL, fillA, chunks, ivs, AV.iv, mkE, if_false, if_true, List.not_mem_nil, forall_eq, beq_self_eq_true, List.isEmpty_nil, Nat.reduceEqDiff, Nat.reduceLT, Nat.reduceLeDiff, Nat.reduceAdd, Nat.reduceMul, Int.reduceToNat, Int.reduceLE, Int.reduceLT, hw, hc]
        refine ⟨⟨i + 1, hlt, ?_⟩, by simp only; omega, by simp only [↓aX, evp, evq, evl, boxK, stillV, binV, AV.cells, mP, loadV, storeV, ldV, AV.stb, AV.one, IV.av1, Lb.app, Lb.fresh, reduceCtorEq, ptrL, appL, fillA, chunks, ivs, AV.iv, mkE, if_false, if_true, List.not_mem_nil, forall_eq, beq_self_eq_true, List.isEmpty_nil, Nat.reduceEqDiff, Nat.reduceLT, Nat.reduceLeDiff, Nat.reduceAdd, Nat.reduceMul, Int.reduceToNat, Int.reduceLE, Int.reduceLT], by repeat' constructor⟩
        rw [h1, List.all_append, hs]
        simp at h9 ⊢; omega
    · have hil : i = l.length := by simp at h; omega
      subst hil
      rw [List.take_length] at hs
      simp only [↓aX, evp, evq, evl, boxK, stillV, binV, AV.cells, mP, loadV, storeV, ldV, AV.stb, AV.one, IV.av1, Lb.app, Lb.fresh, reduceCtorEq, ptrL, appL, fillA, chunks, ivs, AV.iv, mkE, if_false, if_true, List.not_mem_nil, forall_eq, beq_self_eq_true, List.isEmpty_nil, Nat.reduceEqDiff, Nat.reduceLT, Nat.reduceLeDiff, Nat.reduceAdd, Nat.reduceMul, Int.reduceToNat, Int.reduceLE, Int.reduceLT, List.take_length]
      cases h9 : decide ((cntT l : Int) ≤ 80) with
      | true =>
        simp only [↓aX, evp, evq, evl, boxK, stillV, binV, AV.cells, mP, loadV, storeV, ldV, AV.stb, AV.one, IV.av1, Lb.app, Lb.fresh, reduceCtorEq, ptrL, appL, fillA, chunks, ivs, AV.iv, mkE, if_false, if_true, List.not_mem_nil, forall_eq, beq_self_eq_true, List.isEmpty_nil, Nat.reduceEqDiff, Nat.reduceLT, Nat.reduceLeDiff, Nat.reduceAdd, Nat.reduceMul, Int.reduceToNat, Int.reduceLE, Int.reduceLT]
        refine callT_pure hR ?_
        simp only [↓aX, evp, evq, evl, boxK, stillV, binV, AV.cells, mP, loadV, storeV, ldV, AV.stb, AV.one, IV.av1, Lb.app, Lb.fresh, reduceCtorEq, ptrL, appL, fillA, chunks, ivs, AV.iv, mkE, if_false, if_true, List.not_mem_nil, forall_eq, beq_self_eq_true, List.isEmpty_nil, Nat.reduceEqDiff, Nat.reduceLT, Nat.reduceLeDiff, Nat.reduceAdd, Nat.reduceMul, Int.reduceToNat, Int.reduceLE, Int.reduceLT]
        have : decide (cntT l ≤ 80) = true := by simp at h9 ⊢; omega
        rw [content, hs, this]; rfl
      | false =>
        simp only [↓aX, evp, evq, evl, boxK, stillV, binV, AV.cells, mP, loadV, storeV, ldV, AV.stb, AV.one, IV.av1, Lb.app, Lb.fresh, reduceCtorEq, ptrL, appL, fillA, chunks, ivs, AV.iv, mkE, if_false, if_true, List.not_mem_nil, forall_eq, beq_self_eq_true, List.isEmpty_nil, Nat.reduceEqDiff, Nat.reduceLT, Nat.reduceLeDiff, Nat.reduceAdd, Nat.reduceMul, Int.reduceToNat, Int.reduceLE, Int.reduceLT]
        have : decide (cntT l ≤ 80) = false := by simp at h9 ⊢; omega
        rw [content, hs, this]; rfl
end Go.Am
