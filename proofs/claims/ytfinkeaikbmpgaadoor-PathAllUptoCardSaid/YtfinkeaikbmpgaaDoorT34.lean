import Derived.Test.YtfinkeaikbmpgaaDoorKT16
import Derived.Test.YtfinkeaikbmpgaaDoorKT26
import Derived.Lib.Bytealg
set_option linter.unusedSimpArgs false
set_option linter.unusedVariables false
set_option linter.unnecessarySimpa false
set_option linter.defProp false
/- Strings cut and split. -/
namespace Go.Am
open Go Go.RowKit
theorem ext_of {S : St} {f : Nat} {fn : Func} {e : Array Value → Sem Value} {args : List AV} {H : Hp} {res : AV} (hf : S.P.funcs[f]? = some fn) (hname : (fn.name == "runtime.NumGoroutine") = false) (hb : fn.body.isNone = true)
    (hn : Extern.findNext fn = none) (he : Extern.find fn = some e) (hr : ∀ (w : World) (β : Lb → Option Nat) (I : Nat → Prop) (vs : List Value), RVs w β H I args vs → ∃ v, (e vs.toArray).run S.P w = .ok v w ∧ RV w β H I res v) (hl : res.lbs = []) :
    ExtC S f args H res := by
  intro K β env a w vs hS hrel hv
  subst hS
  obtain ⟨v, h1, h2⟩ := hr w β _ vs hv
  refine ⟨v, w, ?_, Below.refl _ _, h2, by simp [hl]⟩
  rw [run_callFunc_extern hf hname hb hn he, h1]
  rfl
theorem rvs2 {w : World} {β : Lb → Option Nat} {H : Hp} {I : Nat → Prop} {x y : AV} {vs : List Value} (h : RVs w β H I [x, y] vs) : ∃ u v, vs = [u, v] ∧ RV w β H I x u ∧ RV w β H I y v := by
  match vs, h with
  | [u, v], h =>
    simp only [RVs] at h
    obtain ⟨_, _, h0, h1, _, _, h2, h3, h4⟩ := h
    cases h0; cases h2; cases h4
    exact ⟨u, v, rfl, h1, h3⟩
theorem ext_index {S : St} {f : Nat} {fn : Func} (hf : S.P.funcs[f]? = some fn) (hname : (fn.name == "runtime.NumGoroutine") = false) (hb : fn.body.isNone = true)
    (hn : Extern.findNext fn = none) (he : Extern.find fn = some Extern.BytealgIndexByte.indexByte) (s : Bs) (c : UInt8) (H : Hp) : ExtC S f [.str s, .int .u8 (c.toNat : Int)] H (.int .i64 (Lib.indexByte s c)) := by
  refine ext_of hf hname hb hn he (fun w β I vs hv => ?_) rfl
  obtain ⟨u, v, rfl, h1, h2⟩ := rvs2 hv
  simp only [RV] at h1 h2
  subst h1; subst h2
  exact ⟨_, Lib.run_indexByteString _ _ _, by simp [RV]⟩
theorem ext_count {S : St} {f : Nat} {fn : Func} (hf : S.P.funcs[f]? = some fn) (hname : (fn.name == "runtime.NumGoroutine") = false) (hb : fn.body.isNone = true)
    (hn : Extern.findNext fn = none) (he : Extern.find fn = some Extern.BytealgCount.count) (s : Bs) (c : UInt8) (H : Hp) : ExtC S f [.str s, .int .u8 (c.toNat : Int)] H (.int .i64 ((s.count c : Nat) : Int)) := by
  refine ext_of hf hname hb hn he (fun w β I vs hv => ?_) rfl
  obtain ⟨u, v, rfl, h1, h2⟩ := rvs2 hv
  simp only [RV] at h1 h2
  subst h1; subst h2
  exact ⟨_, Lib.run_countString _ _ _, by simp [RV, Lib.countByte]⟩
def splitC (c : UInt8) : Bs → List Bs
  | [] => [[]]
  | b :: r => if b = c then [] :: splitC c r else match splitC c r with
    | w :: ws => (b :: w) :: ws
    | [] => [[b]]
theorem idx_cases (c : UInt8) : ∀ s : Bs, (Lib.indexByte s c = -1 ∧ s.count c = 0 ∧ splitC c s = [s]) ∨
    ∃ m : Nat, Lib.indexByte s c = (m : Int) ∧ m < s.length ∧ s.count c = (s.drop (m + 1)).count c + 1 ∧ splitC c s = s.take m :: splitC c (s.drop (m + 1))
  | [] => .inl ⟨rfl, rfl, rfl⟩
  | b :: r => by
    by_cases h : b = c
    · subst h
      refine .inr ⟨0, ?_, by simp, by simp, ?_⟩
      · unfold Lib.indexByte; simp
      · simp [splitC]
    · have hb : (b == c) = false := by simpa using h
      rcases idx_cases c r with ⟨h1, h2, h3⟩ | ⟨m, h1, h2, h3, h4⟩
      · refine .inl ⟨?_, ?_, ?_⟩
        · unfold Lib.indexByte; rw [hb, h1]; rfl
        · rw [List.count_cons, h2, hb]; rfl
        · simp [splitC, h, h3]
      · refine .inr ⟨m + 1, ?_, by simp; omega, ?_, ?_⟩
        · unfold Lib.indexByte
          rw [hb, h1]
          have : ((m : Int) == -1) = false := by rw [beq_eq_false_iff_ne]; omega
          rw [this]
          simp
        · rw [List.count_cons, hb]; simpa using h3
        · simp [splitC, h, h4]
theorem split_len (c : UInt8) : ∀ (n : Nat) (s : Bs), s.count c = n → (splitC c s).length = n + 1
  | 0, s, h => by
    rcases idx_cases c s with ⟨_, _, h3⟩ | ⟨m, _, _, h3, _⟩
    · rw [h3]; rfl
    · omega
  | n + 1, s, h => by
    rcases idx_cases c s with ⟨_, h2, _⟩ | ⟨m, _, _, h3, h4⟩
    · omega
    · rw [h4, List.length_cons, split_len c n _ (by omega)]
theorem pre_take (c s : Bs) : (decide (c.length ≤ s.length) && s.take c.length == c) = c.isPrefixOf s := by
  rw [Bool.eq_iff_iff]
  simp only [Bool.and_eq_true, decide_eq_true_eq, beq_iff_eq, List.isPrefixOf_iff_prefix]
  constructor
  · rintro ⟨_, h⟩
    have := List.take_append_drop c.length s
    rw [h] at this
    exact ⟨s.drop c.length, this⟩
  · rintro ⟨t, rfl⟩; simp
section
variable {P : Program} {G : Nat → Option (List IV)}
def c_internal_stringslite_IndexByte (f_internal_bytealg_IndexByteString : Nat) : AC :=
(.seq (.reg [⟨(some 4), none, (.mov (.c (.int .i64 0)))⟩]) (.seq (.reg [⟨(some 5), none, (.mov (.t 0))⟩, ⟨(some 6), none, (.mov (.t 1))⟩, ⟨(some 7), none, (.callx f_internal_bytealg_IndexByteString [(.t 5), (.t 6)])⟩, ⟨(some 4), none, (.mov (.t 7))⟩]) .ret))
theorem pIndexByte {f_internal_stringslite_IndexByte f_internal_bytealg_IndexByteString : Nat} (hF : compF P G f_internal_stringslite_IndexByte = some (8, [(none, 4)], (c_internal_stringslite_IndexByte f_internal_bytealg_IndexByteString).bare))
    (hX : ∀ (N : Nat) (s : Bs) (c : UInt8) (H : Hp), ExtC ⟨P, G, N⟩ f_internal_bytealg_IndexByteString [.str s, .int .u8 (c.toNat : Int)] H (.int .i64 (Lib.indexByte s c))) (s : Bs) (c : UInt8) :
    PureC P G f_internal_stringslite_IndexByte [.str s, .int .u8 (c.toNat : Int)] (.int .i64 (Lib.indexByte s c)) := by
  refine pure_of_go hF (by simp) (by simp [lbss, AV.lbs]) (by simp [AV.lbs]) ?_
  unfold c_internal_stringslite_IndexByte
  simp only [↓aX, evp, evq, evl, boxK, stillV, binV, AV.cells, mP, loadV, storeV, ldV, AV.stb, AV.one, IV.av1, Lb.app, Lb.fresh, reduceCtorEq, ptrL, appL, fillA, chunks, ivs, AV.iv, mkE, if_false, if_true, List.not_mem_nil, forall_eq, beq_self_eq_true, List.isEmpty_nil, Nat.reduceEqDiff, Nat.reduceLT, Nat.reduceLeDiff, Nat.reduceAdd, Nat.reduceMul, Int.reduceToNat, Int.reduceLE, Int.reduceLT]
  refine exK_in (hX _ _ _ _) ?_
  simp only [↓aX, evp, evq, evl, boxK, stillV, binV, AV.cells, mP, loadV, storeV, ldV, AV.stb, AV.one, IV.av1, Lb.app, Lb.fresh, reduceCtorEq, ptrL, appL, fillA, chunks, ivs, AV.iv, mkE, if_false, if_true, List.not_mem_nil, forall_eq, beq_self_eq_true, List.isEmpty_nil, Nat.reduceEqDiff, Nat.reduceLT, Nat.reduceLeDiff, Nat.reduceAdd, Nat.reduceMul, Int.reduceToNat, Int.reduceLE, Int.reduceLT]
def c_internal_stringslite_Index (f_internal_stringslite_IndexByte f_internal_bytealg_IndexString f_internal_bytealg_Cutover f_internal_bytealg_IndexRabinKarp_string : Nat) : AC :=
(.seq (.reg [⟨(some 4), none, (.mov (.c (.int .i64 0)))⟩]) (.seq (.reg [⟨(some 14), none, (.mov (.t 1))⟩, ⟨(some 15), none, (.lens (.t 14))⟩, ⟨(some 5), none, (.mov (.t 15))⟩]) (.seq (.block 0 (.seq (.reg [⟨(some 17), none, (.mov (.t 5))⟩, ⟨(some 18), none, (.bin .eql (.t 17) (.c (.int .i64 0)))⟩, ⟨(some 19), none, (.mov (.t 18))⟩, ⟨(some 20), (some (19, false)), (.mov (.t 1))⟩, ⟨(some 21), (some (19, false)), (.mov (.t 0))⟩, ⟨(some 22), (some (19, false)), (.bin .eql (.t 20) (.t 21))⟩, ⟨(some 23), none, (.pick (.t 19) (.c (.bool true)) (.t 22))⟩, ⟨(some 16), none, (.mov (.t 23))⟩]) (.cond (.t 16) (.seq (.reg [⟨(some 4), none, (.mov (.c (.int .i64 0)))⟩]) .ret) (.seq (.reg [⟨(some 25), none, (.mov (.t 5))⟩, ⟨(some 26), none, (.bin .eql (.t 25) (.c (.int .i64 1)))⟩, ⟨(some 24), none, (.mov (.t 26))⟩]) (.cond (.t 24) (.seq (.reg [⟨(some 27), none, (.mov (.t 0))⟩, ⟨(some 28), none, (.mov (.t 1))⟩, ⟨(some 29), none, (.ixs (.t 28) (.c (.int .i64 0)))⟩, ⟨(some 30), none, (.call f_internal_stringslite_IndexByte [(.t 27), (.t 29)])⟩, ⟨(some 4), none, (.mov (.t 30))⟩]) .ret) (.seq (.reg [⟨(some 32), none, (.mov (.t 5))⟩, ⟨(some 33), none, (.mov (.t 0))⟩, ⟨(some 34), none, (.lens (.t 33))⟩, ⟨(some 35), none, (.bin .geq (.t 32) (.t 34))⟩, ⟨(some 31), none, (.mov (.t 35))⟩]) (.cond (.t 31) (.seq (.reg [⟨(some 4), none, (.mov (.c (.int .i64 (-1))))⟩]) .ret) (.seq (.reg [⟨(some 37), none, (.mov (.t 5))⟩, ⟨(some 38), none, .stuck⟩, ⟨(some 39), none, (.bin .leq (.t 37) (.t 38))⟩, ⟨(some 40), none, (.mov (.t 39))⟩, ⟨(some 41), (some (40, true)), (.mov (.t 0))⟩, ⟨(some 42), (some (40, true)), (.lens (.t 41))⟩, ⟨(some 43), (some (40, true)), (.bin .leq (.t 42) (.c (.int .i64 64)))⟩, ⟨(some 44), none, (.pick (.t 40) (.t 43) (.c (.bool false)))⟩, ⟨(some 36), none, (.mov (.t 44))⟩]) (.cond (.t 36) (.seq (.reg [⟨(some 45), none, (.mov (.t 0))⟩, ⟨(some 46), none, (.mov (.t 1))⟩, ⟨(some 47), none, (.callx f_internal_bytealg_IndexString [(.t 45), (.t 46)])⟩, ⟨(some 4), none, (.mov (.t 47))⟩]) .ret) .skip))))))))) (.seq (.reg [⟨(some 48), none, (.mov (.t 1))⟩, ⟨(some 49), none, (.ixs (.t 48) (.c (.int .i64 0)))⟩, ⟨(some 6), none, (.mov (.t 49))⟩]) (.seq (.reg [⟨(some 50), none, (.mov (.t 1))⟩, ⟨(some 51), none, (.ixs (.t 50) (.c (.int .i64 1)))⟩, ⟨(some 7), none, (.mov (.t 51))⟩]) (.seq (.reg [⟨(some 8), none, (.mov (.c (.int .i64 0)))⟩]) (.seq (.reg [⟨(some 52), none, (.mov (.t 0))⟩, ⟨(some 53), none, (.lens (.t 52))⟩, ⟨(some 54), none, (.mov (.t 5))⟩, ⟨(some 55), none, (.bin .sub (.t 53) (.t 54))⟩, ⟨(some 56), none, (.bin .add (.t 55) (.c (.int .i64 1)))⟩, ⟨(some 9), none, (.mov (.t 56))⟩]) (.seq (.reg [⟨(some 10), none, (.mov (.c (.int .i64 0)))⟩]) (.seq (.block 1 (.loop (.seq (.seq (.reg [⟨(some 57), none, (.mov (.t 8))⟩, ⟨(some 58), none, (.mov (.t 9))⟩, ⟨(some 59), none, (.bin .lss (.t 57) (.t 58))⟩]) (.cond (.t 59) .skip (.exit 1))) (.block 2 (.seq (.seq (.reg [⟨(some 60), none, (.mov (.t 0))⟩, ⟨(some 61), none, (.mov (.t 8))⟩, ⟨(some 62), none, (.ixs (.t 60) (.t 61))⟩, ⟨(some 63), none, (.mov (.t 6))⟩, ⟨(some 64), none, (.bin .neq (.t 62) (.t 63))⟩]) (.cond (.t 64) (.seq (.reg [⟨(some 65), none, (.mov (.t 0))⟩, ⟨(some 66), none, (.mov (.t 8))⟩, ⟨(some 67), none, (.bin .add (.t 66) (.c (.int .i64 1)))⟩, ⟨(some 68), none, (.mov (.t 9))⟩, ⟨(some 69), none, (.slcs (.t 65) (some (.t 67)) (some (.t 68)))⟩, ⟨(some 70), none, (.mov (.t 6))⟩, ⟨(some 71), none, (.call f_internal_stringslite_IndexByte [(.t 69), (.t 70)])⟩, ⟨(some 11), none, (.mov (.t 71))⟩]) (.seq (.seq (.reg [⟨(some 72), none, (.mov (.t 11))⟩, ⟨(some 73), none, (.bin .lss (.t 72) (.c (.int .i64 0)))⟩]) (.cond (.t 73) (.seq (.reg [⟨(some 4), none, (.mov (.c (.int .i64 (-1))))⟩]) .ret) .skip)) (.reg [⟨(some 74), none, (.mov (.t 8))⟩, ⟨(some 75), none, (.mov (.t 11))⟩, ⟨(some 76), none, (.bin .add (.t 75) (.c (.int .i64 1)))⟩, ⟨(some 77), none, (.bin .add (.t 74) (.t 76))⟩, ⟨(some 8), none, (.mov (.t 77))⟩]))) .skip)) (.seq (.seq (.reg [⟨(some 78), none, (.mov (.t 0))⟩, ⟨(some 79), none, (.mov (.t 8))⟩, ⟨(some 80), none, (.bin .add (.t 79) (.c (.int .i64 1)))⟩, ⟨(some 81), none, (.ixs (.t 78) (.t 80))⟩, ⟨(some 82), none, (.mov (.t 7))⟩, ⟨(some 83), none, (.bin .eql (.t 81) (.t 82))⟩, ⟨(some 84), none, (.mov (.t 83))⟩, ⟨(some 85), (some (84, true)), (.mov (.t 0))⟩, ⟨(some 86), (some (84, true)), (.mov (.t 8))⟩, ⟨(some 87), (some (84, true)), (.mov (.t 8))⟩, ⟨(some 88), (some (84, true)), (.mov (.t 5))⟩, ⟨(some 89), (some (84, true)), (.bin .add (.t 87) (.t 88))⟩, ⟨(some 90), (some (84, true)), (.slcs (.t 85) (some (.t 86)) (some (.t 89)))⟩, ⟨(some 91), (some (84, true)), (.mov (.t 1))⟩, ⟨(some 92), (some (84, true)), (.bin .eql (.t 90) (.t 91))⟩, ⟨(some 93), none, (.pick (.t 84) (.t 92) (.c (.bool false)))⟩]) (.cond (.t 93) (.seq (.reg [⟨(some 94), none, (.mov (.t 8))⟩, ⟨(some 4), none, (.mov (.t 94))⟩]) .ret) .skip)) (.seq (.reg [⟨(some 95), none, (.mov (.t 8))⟩, ⟨(some 96), none, (.bin .add (.t 95) (.c (.int .i64 1)))⟩, ⟨(some 8), none, (.mov (.t 96))⟩]) (.seq (.reg [⟨(some 97), none, (.mov (.t 10))⟩, ⟨(some 98), none, (.bin .add (.t 97) (.c (.int .i64 1)))⟩, ⟨(some 10), none, (.mov (.t 98))⟩]) (.seq (.reg [⟨(some 99), none, (.mov (.t 5))⟩, ⟨(some 100), none, .stuck⟩, ⟨(some 101), none, (.bin .leq (.t 99) (.t 100))⟩, ⟨(some 102), none, (.mov (.t 101))⟩, ⟨(some 103), (some (102, true)), (.mov (.t 10))⟩, ⟨(some 104), (some (102, true)), (.mov (.t 8))⟩, ⟨(some 105), (some (102, true)), (.call f_internal_bytealg_Cutover [(.t 104)])⟩, ⟨(some 106), (some (102, true)), (.bin .gtr (.t 103) (.t 105))⟩, ⟨(some 107), none, (.pick (.t 102) (.t 106) (.c (.bool false)))⟩]) (.cond (.t 107) (.seq (.reg [⟨(some 108), none, (.mov (.t 0))⟩, ⟨(some 109), none, (.mov (.t 8))⟩, ⟨(some 110), none, (.slcs (.t 108) (some (.t 109)) none)⟩, ⟨(some 111), none, (.mov (.t 1))⟩, ⟨(some 112), none, (.callx f_internal_bytealg_IndexString [(.t 110), (.t 111)])⟩, ⟨(some 12), none, (.mov (.t 112))⟩]) (.seq (.seq (.reg [⟨(some 113), none, (.mov (.t 12))⟩, ⟨(some 114), none, (.bin .geq (.t 113) (.c (.int .i64 0)))⟩]) (.cond (.t 114) (.seq (.reg [⟨(some 115), none, (.mov (.t 12))⟩, ⟨(some 116), none, (.mov (.t 8))⟩, ⟨(some 117), none, (.bin .add (.t 115) (.t 116))⟩, ⟨(some 4), none, (.mov (.t 117))⟩]) .ret) .skip)) (.seq (.reg [⟨(some 4), none, (.mov (.c (.int .i64 (-1))))⟩]) .ret))) (.seq (.reg [⟨(some 118), none, (.mov (.t 5))⟩, ⟨(some 119), none, .stuck⟩, ⟨(some 120), none, (.bin .gtr (.t 118) (.t 119))⟩, ⟨(some 121), none, (.mov (.t 120))⟩, ⟨(some 122), (some (121, true)), (.mov (.t 10))⟩, ⟨(some 123), (some (121, true)), (.mov (.t 8))⟩, ⟨(some 124), (some (121, true)), (.bin .shr (.t 123) (.c (.int .u64 4)))⟩, ⟨(some 125), (some (121, true)), (.bin .add (.c (.int .i64 4)) (.t 124))⟩, ⟨(some 126), (some (121, true)), (.bin .geq (.t 122) (.t 125))⟩, ⟨(some 127), none, (.pick (.t 121) (.t 126) (.c (.bool false)))⟩, ⟨(some 128), none, (.mov (.t 127))⟩, ⟨(some 129), (some (128, true)), (.mov (.t 8))⟩, ⟨(some 130), (some (128, true)), (.mov (.t 9))⟩, ⟨(some 131), (some (128, true)), (.bin .lss (.t 129) (.t 130))⟩, ⟨(some 132), none, (.pick (.t 128) (.t 131) (.c (.bool false)))⟩]) (.cond (.t 132) (.seq (.reg [⟨(some 133), none, (.mov (.t 0))⟩, ⟨(some 134), none, (.mov (.t 8))⟩, ⟨(some 135), none, (.slcs (.t 133) (some (.t 134)) none)⟩, ⟨(some 136), none, (.mov (.t 1))⟩, ⟨(some 137), none, (.call f_internal_bytealg_IndexRabinKarp_string [(.t 135), (.t 136)])⟩, ⟨(some 13), none, (.mov (.t 137))⟩]) (.seq (.seq (.reg [⟨(some 138), none, (.mov (.t 13))⟩, ⟨(some 139), none, (.bin .lss (.t 138) (.c (.int .i64 0)))⟩]) (.cond (.t 139) (.seq (.reg [⟨(some 4), none, (.mov (.c (.int .i64 (-1))))⟩]) .ret) .skip)) (.seq (.reg [⟨(some 140), none, (.mov (.t 8))⟩, ⟨(some 141), none, (.mov (.t 13))⟩, ⟨(some 142), none, (.bin .add (.t 140) (.t 141))⟩, ⟨(some 4), none, (.mov (.t 142))⟩]) .ret))) .skip)))))))))))) (.seq (.reg [⟨(some 4), none, (.mov (.c (.int .i64 (-1))))⟩]) .ret))))))))))
theorem pSlIndex {f_internal_stringslite_Index f_internal_stringslite_IndexByte f_internal_bytealg_IndexString f_internal_bytealg_Cutover f_internal_bytealg_IndexRabinKarp_string : Nat} (hF : compF P G f_internal_stringslite_Index = some (143, [(none, 4)], (c_internal_stringslite_Index f_internal_stringslite_IndexByte f_internal_bytealg_IndexString f_internal_bytealg_Cutover f_internal_bytealg_IndexRabinKarp_string).bare))
    (hX : ∀ (s : Bs) (c : UInt8), PureC P G f_internal_stringslite_IndexByte [.str s, .int .u8 (c.toNat : Int)] (.int .i64 (Lib.indexByte s c))) (s : Bs) (c : UInt8) :
    PureC P G f_internal_stringslite_Index [.str s, .str [c]] (.int .i64 (Lib.indexByte s c)) := by
  refine pure_of_go hF (by simp) (by simp [lbss, AV.lbs]) (by simp [AV.lbs]) ?_
  unfold c_internal_stringslite_Index
  simp only [↓aX, evp, evq, evl, boxK, stillV, binV, AV.cells, mP, loadV, storeV, ldV, AV.stb, AV.one, IV.av1, Lb.app, Lb.fresh, reduceCtorEq, ptrL, appL, fillA, chunks, ivs, AV.iv, mkE, if_false, if_true, List.not_mem_nil, forall_eq, beq_self_eq_true, List.isEmpty_nil, Nat.reduceEqDiff, Nat.reduceLT, Nat.reduceLeDiff, Nat.reduceAdd, Nat.reduceMul, Int.reduceToNat, Int.reduceLE, Int.reduceLT, List.length_cons, List.length_nil, show (((1 : Nat) : Int) == 0) = false from rfl]
  cases h : (([c] : Bs) == s) with
  | true =>
    have : s = [c] := by simpa using (eq_comm.1 (eq_of_beq h))
    subst this
    have : Lib.indexByte [c] c = 0 := by unfold Lib.indexByte; simp
    simp only [↓aX, evp, evq, evl, boxK, stillV, binV, AV.cells, mP, loadV, storeV, ldV, AV.stb, AV.one, IV.av1, Lb.app, Lb.fresh, reduceCtorEq, ptrL, appL, fillA, chunks, ivs, AV.iv, mkE, if_false, if_true, List.not_mem_nil, forall_eq, beq_self_eq_true, List.isEmpty_nil, Nat.reduceEqDiff, Nat.reduceLT, Nat.reduceLeDiff, Nat.reduceAdd, Nat.reduceMul, Int.reduceToNat, Int.reduceLE, Int.reduceLT, this]
  | false =>
    simp only [↓aX, evp, evq, evl, boxK, stillV, binV, AV.cells, mP, loadV, storeV, ldV, AV.stb, AV.one, IV.av1, Lb.app, Lb.fresh, reduceCtorEq, ptrL, appL, fillA, chunks, ivs, AV.iv, mkE, if_false, if_true, List.not_mem_nil, forall_eq, beq_self_eq_true, List.isEmpty_nil, Nat.reduceEqDiff, Nat.reduceLT, Nat.reduceLeDiff, Nat.reduceAdd, Nat.reduceMul, Int.reduceToNat, Int.reduceLE, Int.reduceLT, show (((1 : Nat) : Int) == 1) = true from rfl, List.getElem?_cons_zero]
    refine callT_pure (hX s c) ?_
    simp only [↓aX, evp, evq, evl, boxK, stillV, binV, AV.cells, mP, loadV, storeV, ldV, AV.stb, AV.one, IV.av1, Lb.app, Lb.fresh, reduceCtorEq, ptrL, appL, fillA, chunks, ivs, AV.iv, mkE, if_false, if_true, List.not_mem_nil, forall_eq, beq_self_eq_true, List.isEmpty_nil, Nat.reduceEqDiff, Nat.reduceLT, Nat.reduceLeDiff, Nat.reduceAdd, Nat.reduceMul, Int.reduceToNat, Int.reduceLE, Int.reduceLT]
def c_strings_Index (f_internal_stringslite_Index : Nat) : AC :=
(.seq (.reg [⟨(some 4), none, (.mov (.c (.int .i64 0)))⟩]) (.seq (.reg [⟨(some 5), none, (.mov (.t 0))⟩, ⟨(some 6), none, (.mov (.t 1))⟩, ⟨(some 7), none, (.call f_internal_stringslite_Index [(.t 5), (.t 6)])⟩, ⟨(some 4), none, (.mov (.t 7))⟩]) .ret))
theorem pIndex {f_strings_Index f_internal_stringslite_Index : Nat} (hF : compF P G f_strings_Index = some (8, [(none, 4)], (c_strings_Index f_internal_stringslite_Index).bare)) (s : Bs) (c : UInt8)
    (hX : PureC P G f_internal_stringslite_Index [.str s, .str [c]] (.int .i64 (Lib.indexByte s c))) : PureC P G f_strings_Index [.str s, .str [c]] (.int .i64 (Lib.indexByte s c)) := by
  refine pure_of_go hF (by simp) (by simp [lbss, AV.lbs]) (by simp [AV.lbs]) ?_
  unfold c_strings_Index
  simp only [↓aX, evp, evq, evl, boxK, stillV, binV, AV.cells, mP, loadV, storeV, ldV, AV.stb, AV.one, IV.av1, Lb.app, Lb.fresh, reduceCtorEq, ptrL, appL, fillA, chunks, ivs, AV.iv, mkE, if_false, if_true, List.not_mem_nil, forall_eq, beq_self_eq_true, List.isEmpty_nil, Nat.reduceEqDiff, Nat.reduceLT, Nat.reduceLeDiff, Nat.reduceAdd, Nat.reduceMul, Int.reduceToNat, Int.reduceLE, Int.reduceLT]
  refine callT_pure hX ?_
  simp only [↓aX, evp, evq, evl, boxK, stillV, binV, AV.cells, mP, loadV, storeV, ldV, AV.stb, AV.one, IV.av1, Lb.app, Lb.fresh, reduceCtorEq, ptrL, appL, fillA, chunks, ivs, AV.iv, mkE, if_false, if_true, List.not_mem_nil, forall_eq, beq_self_eq_true, List.isEmpty_nil, Nat.reduceEqDiff, Nat.reduceLT, Nat.reduceLeDiff, Nat.reduceAdd, Nat.reduceMul, Int.reduceToNat, Int.reduceLE, Int.reduceLT]
def c_strings_Count (f_unicode_utf8_RuneCountInString f_internal_bytealg_CountString f_strings_Index : Nat) : AC :=
(.seq (.reg [⟨(some 4), none, (.mov (.c (.int .i64 0)))⟩]) (.seq (.seq (.reg [⟨(some 7), none, (.mov (.t 1))⟩, ⟨(some 8), none, (.lens (.t 7))⟩, ⟨(some 9), none, (.bin .eql (.t 8) (.c (.int .i64 0)))⟩]) (.cond (.t 9) (.seq (.reg [⟨(some 10), none, (.mov (.t 0))⟩, ⟨(some 11), none, (.call f_unicode_utf8_RuneCountInString [(.t 10)])⟩, ⟨(some 12), none, (.bin .add (.t 11) (.c (.int .i64 1)))⟩, ⟨(some 4), none, (.mov (.t 12))⟩]) .ret) .skip)) (.seq (.seq (.reg [⟨(some 13), none, (.mov (.t 1))⟩, ⟨(some 14), none, (.lens (.t 13))⟩, ⟨(some 15), none, (.bin .eql (.t 14) (.c (.int .i64 1)))⟩]) (.cond (.t 15) (.seq (.reg [⟨(some 16), none, (.mov (.t 0))⟩, ⟨(some 17), none, (.mov (.t 1))⟩, ⟨(some 18), none, (.ixs (.t 17) (.c (.int .i64 0)))⟩, ⟨(some 19), none, (.callx f_internal_bytealg_CountString [(.t 16), (.t 18)])⟩, ⟨(some 4), none, (.mov (.t 19))⟩]) .ret) .skip)) (.seq (.reg [⟨(some 5), none, (.mov (.c (.int .i64 0)))⟩]) (.block 0 (.loop (.block 1 (.seq (.reg [⟨(some 20), none, (.mov (.t 0))⟩, ⟨(some 21), none, (.mov (.t 1))⟩, ⟨(some 22), none, (.call f_strings_Index [(.t 20), (.t 21)])⟩, ⟨(some 6), none, (.mov (.t 22))⟩]) (.seq (.seq (.reg [⟨(some 23), none, (.mov (.t 6))⟩, ⟨(some 24), none, (.bin .eql (.t 23) (.c (.int .i64 (-1))))⟩]) (.cond (.t 24) (.seq (.reg [⟨(some 25), none, (.mov (.t 5))⟩, ⟨(some 4), none, (.mov (.t 25))⟩]) .ret) .skip)) (.seq (.reg [⟨(some 26), none, (.mov (.t 5))⟩, ⟨(some 27), none, (.bin .add (.t 26) (.c (.int .i64 1)))⟩, ⟨(some 5), none, (.mov (.t 27))⟩]) (.reg [⟨(some 28), none, (.mov (.t 0))⟩, ⟨(some 29), none, (.mov (.t 6))⟩, ⟨(some 30), none, (.mov (.t 1))⟩, ⟨(some 31), none, (.lens (.t 30))⟩, ⟨(some 32), none, (.bin .add (.t 29) (.t 31))⟩, ⟨(some 33), none, (.slcs (.t 28) (some (.t 32)) none)⟩, ⟨(some 0), none, (.mov (.t 33))⟩])))))))))))
theorem pCount {f_strings_Count f_unicode_utf8_RuneCountInString f_internal_bytealg_CountString f_strings_Index : Nat} (hF : compF P G f_strings_Count = some (34, [(none, 4)], (c_strings_Count f_unicode_utf8_RuneCountInString f_internal_bytealg_CountString f_strings_Index).bare)) (s : Bs) (c : UInt8)
    (hX : ∀ (N : Nat) (H : Hp), ExtC ⟨P, G, N⟩ f_internal_bytealg_CountString [.str s, .int .u8 (c.toNat : Int)] H (.int .i64 ((s.count c : Nat) : Int))) :
    PureC P G f_strings_Count [.str s, .str [c]] (.int .i64 ((s.count c : Nat) : Int)) := by
  refine pure_of_go hF (by simp) (by simp [lbss, AV.lbs]) (by simp [AV.lbs]) ?_
  unfold c_strings_Count
  simp only [↓aX, evp, evq, evl, boxK, stillV, binV, AV.cells, mP, loadV, storeV, ldV, AV.stb, AV.one, IV.av1, Lb.app, Lb.fresh, reduceCtorEq, ptrL, appL, fillA, chunks, ivs, AV.iv, mkE, if_false, if_true, List.not_mem_nil, forall_eq, beq_self_eq_true, List.isEmpty_nil, Nat.reduceEqDiff, Nat.reduceLT, Nat.reduceLeDiff, Nat.reduceAdd, Nat.reduceMul, Int.reduceToNat, Int.reduceLE, Int.reduceLT, List.length_cons, List.length_nil, show (((1 : Nat) : Int) == 0) = false from rfl, show (((1 : Nat) : Int) == 1) = true from rfl, List.getElem?_cons_zero]
  refine exK_in (hX _ _) ?_
  simp only [↓aX, evp, evq, evl, boxK, stillV, binV, AV.cells, mP, loadV, storeV, ldV, AV.stb, AV.one, IV.av1, Lb.app, Lb.fresh, reduceCtorEq, ptrL, appL, fillA, chunks, ivs, AV.iv, mkE, if_false, if_true, List.not_mem_nil, forall_eq, beq_self_eq_true, List.isEmpty_nil, Nat.reduceEqDiff, Nat.reduceLT, Nat.reduceLeDiff, Nat.reduceAdd, Nat.reduceMul, Int.reduceToNat, Int.reduceLE, Int.reduceLT]
def c_internal_stringslite_HasPrefix : AC :=
(.seq (.reg [⟨(some 4), none, (.mov (.c (.bool false)))⟩]) (.seq (.reg [⟨(some 5), none, (.mov (.t 0))⟩, ⟨(some 6), none, (.lens (.t 5))⟩, ⟨(some 7), none, (.mov (.t 1))⟩, ⟨(some 8), none, (.lens (.t 7))⟩, ⟨(some 9), none, (.bin .geq (.t 6) (.t 8))⟩, ⟨(some 10), none, (.mov (.t 9))⟩, ⟨(some 11), (some (10, true)), (.mov (.t 0))⟩, ⟨(some 12), (some (10, true)), (.mov (.t 1))⟩, ⟨(some 13), (some (10, true)), (.lens (.t 12))⟩, ⟨(some 14), (some (10, true)), (.slcs (.t 11) none (some (.t 13)))⟩, ⟨(some 15), (some (10, true)), (.mov (.t 1))⟩, ⟨(some 16), (some (10, true)), (.bin .eql (.t 14) (.t 15))⟩, ⟨(some 17), none, (.pick (.t 10) (.t 16) (.c (.bool false)))⟩, ⟨(some 4), none, (.mov (.t 17))⟩]) .ret))
theorem pHasPrefix {f_internal_stringslite_HasPrefix : Nat} (hF : compF P G f_internal_stringslite_HasPrefix = some (18, [(none, 4)], c_internal_stringslite_HasPrefix.bare)) (s t : Bs) : PureC P G f_internal_stringslite_HasPrefix [.str s, .str t] (.bool (t.isPrefixOf s)) := by
  refine pure_of_go hF (by simp) (by simp [lbss, AV.lbs]) (by simp [AV.lbs]) ?_
  unfold c_internal_stringslite_HasPrefix
  rw [← pre_take]
  simp only [↓aX, evp, evq, evl, boxK, stillV, binV, AV.cells, mP, loadV, storeV, ldV, AV.stb, AV.one, IV.av1, Lb.app, Lb.fresh, reduceCtorEq, ptrL, appL, fillA, chunks, ivs, AV.iv, mkE, if_false, if_true, List.not_mem_nil, forall_eq, beq_self_eq_true, List.isEmpty_nil, Nat.reduceEqDiff, Nat.reduceLT, Nat.reduceLeDiff, Nat.reduceAdd, Nat.reduceMul, Int.reduceToNat, Int.reduceLE, Int.reduceLT]
  by_cases h : t.length ≤ s.length
  · rw [show decide (((s.length : Nat) : Int) ≥ ((t.length : Nat) : Int)) = true by simpa using h, decide_eq_true h]
    simp only [↓aX, evp, evq, evl, boxK, stillV, binV, AV.cells, mP, loadV, storeV, ldV, AV.stb, AV.one, IV.av1, Lb.app, Lb.fresh, reduceCtorEq, ptrL, appL, fillA, chunks, ivs, AV.iv, mkE, if_false, if_true, List.not_mem_nil, forall_eq, beq_self_eq_true, List.isEmpty_nil, Nat.reduceEqDiff, Nat.reduceLT, Nat.reduceLeDiff, Nat.reduceAdd, Nat.reduceMul, Int.reduceToNat, Int.reduceLE, Int.reduceLT, bnd, Int.natCast_nonneg, Int.toNat_natCast, true_and, h]
  · rw [show decide (((s.length : Nat) : Int) ≥ ((t.length : Nat) : Int)) = false by simpa using h, decide_eq_false h]
    simp only [↓aX, evp, evq, evl, boxK, stillV, binV, AV.cells, mP, loadV, storeV, ldV, AV.stb, AV.one, IV.av1, Lb.app, Lb.fresh, reduceCtorEq, ptrL, appL, fillA, chunks, ivs, AV.iv, mkE, if_false, if_true, List.not_mem_nil, forall_eq, beq_self_eq_true, List.isEmpty_nil, Nat.reduceEqDiff, Nat.reduceLT, Nat.reduceLeDiff, Nat.reduceAdd, Nat.reduceMul, Int.reduceToNat, Int.reduceLE, Int.reduceLT, Bool.false_and]
def c_internal_stringslite_CutPrefix (f_internal_stringslite_HasPrefix : Nat) : AC :=
(.seq (.reg [⟨(some 4), none, (.mov (.c (.str [])))⟩, ⟨(some 5), none, (.mov (.c (.bool false)))⟩]) (.seq (.seq (.reg [⟨(some 6), none, (.mov (.t 0))⟩, ⟨(some 7), none, (.mov (.t 1))⟩, ⟨(some 8), none, (.call f_internal_stringslite_HasPrefix [(.t 6), (.t 7)])⟩, ⟨(some 9), none, (.not (.t 8))⟩]) (.cond (.t 9) (.seq (.reg [⟨(some 10), none, (.mov (.t 0))⟩, ⟨(some 4), none, (.mov (.t 10))⟩, ⟨(some 5), none, (.mov (.c (.bool false)))⟩]) .ret) .skip)) (.seq (.reg [⟨(some 11), none, (.mov (.t 0))⟩, ⟨(some 12), none, (.mov (.t 1))⟩, ⟨(some 13), none, (.lens (.t 12))⟩, ⟨(some 14), none, (.slcs (.t 11) (some (.t 13)) none)⟩, ⟨(some 4), none, (.mov (.t 14))⟩, ⟨(some 5), none, (.mov (.c (.bool true)))⟩]) .ret)))
theorem pSlCutPrefix {f_internal_stringslite_CutPrefix f_internal_stringslite_HasPrefix : Nat} (hF : compF P G f_internal_stringslite_CutPrefix = some (15, [(none, 4), (none, 5)], (c_internal_stringslite_CutPrefix f_internal_stringslite_HasPrefix).bare)) (s t : Bs)
    (hX : PureC P G f_internal_stringslite_HasPrefix [.str s, .str t] (.bool (t.isPrefixOf s))) :
    PureC P G f_internal_stringslite_CutPrefix [.str s, .str t] (.tup [.str (if t.isPrefixOf s then s.drop t.length else s), .bool (t.isPrefixOf s)]) := by
  refine pure_of_go hF (by simp) (by simp [lbss, AV.lbs]) (by simp [AV.lbs, lbss]) ?_
  unfold c_internal_stringslite_CutPrefix
  simp only [↓aX, evp, evq, evl, boxK, stillV, binV, AV.cells, mP, loadV, storeV, ldV, AV.stb, AV.one, IV.av1, Lb.app, Lb.fresh, reduceCtorEq, ptrL, appL, fillA, chunks, ivs, AV.iv, mkE, if_false, if_true, List.not_mem_nil, forall_eq, beq_self_eq_true, List.isEmpty_nil, Nat.reduceEqDiff, Nat.reduceLT, Nat.reduceLeDiff, Nat.reduceAdd, Nat.reduceMul, Int.reduceToNat, Int.reduceLE, Int.reduceLT]
  refine callT_pure hX ?_
  cases h : t.isPrefixOf s with
  | false => simp only [↓aX, evp, evq, evl, boxK, stillV, binV, AV.cells, mP, loadV, storeV, ldV, AV.stb, AV.one, IV.av1, Lb.app, Lb.fresh, reduceCtorEq, ptrL, appL, fillA, chunks, ivs, AV.iv, mkE, if_false, if_true, List.not_mem_nil, forall_eq, beq_self_eq_true, List.isEmpty_nil, Nat.reduceEqDiff, Nat.reduceLT, Nat.reduceLeDiff, Nat.reduceAdd, Nat.reduceMul, Int.reduceToNat, Int.reduceLE, Int.reduceLT, Bool.not_false, ↓ret2_r]
  | true =>
    have : t.length ≤ s.length := by rw [List.isPrefixOf_iff_prefix] at h; exact h.length_le
    simp only [↓aX, evp, evq, evl, boxK, stillV, binV, AV.cells, mP, loadV, storeV, ldV, AV.stb, AV.one, IV.av1, Lb.app, Lb.fresh, reduceCtorEq, ptrL, appL, fillA, chunks, ivs, AV.iv, mkE, if_false, if_true, List.not_mem_nil, forall_eq, beq_self_eq_true, List.isEmpty_nil, Nat.reduceEqDiff, Nat.reduceLT, Nat.reduceLeDiff, Nat.reduceAdd, Nat.reduceMul, Int.reduceToNat, Int.reduceLE, Int.reduceLT, Bool.not_true, bnd, Int.natCast_nonneg, Int.toNat_natCast, true_and, this, List.take_length, ↓ret2_r]
def c_strings_CutPrefix (f_internal_stringslite_CutPrefix : Nat) : AC :=
(.seq (.reg [⟨(some 4), none, (.mov (.c (.str [])))⟩, ⟨(some 5), none, (.mov (.c (.bool false)))⟩]) (.seq (.reg [⟨(some 6), none, (.mov (.t 0))⟩, ⟨(some 7), none, (.mov (.t 1))⟩, ⟨(some 8), none, (.call f_internal_stringslite_CutPrefix [(.t 6), (.t 7)])⟩, ⟨(some 9), none, (.ext (.t 8) 0)⟩, ⟨(some 10), none, (.ext (.t 8) 1)⟩, ⟨(some 4), none, (.mov (.t 9))⟩, ⟨(some 5), none, (.mov (.t 10))⟩]) .ret))
theorem pCutPrefix {f_strings_CutPrefix f_internal_stringslite_CutPrefix : Nat} (hF : compF P G f_strings_CutPrefix = some (11, [(none, 4), (none, 5)], (c_strings_CutPrefix f_internal_stringslite_CutPrefix).bare)) (s t : Bs)
    (hX : PureC P G f_internal_stringslite_CutPrefix [.str s, .str t] (.tup [.str (if t.isPrefixOf s then s.drop t.length else s), .bool (t.isPrefixOf s)])) :
    PureC P G f_strings_CutPrefix [.str s, .str t] (.tup [.str (if t.isPrefixOf s then s.drop t.length else s), .bool (t.isPrefixOf s)]) := by
  refine pure_of_go hF (by simp) (by simp [lbss, AV.lbs]) (by simp [AV.lbs, lbss]) ?_
  unfold c_strings_CutPrefix
  simp only [↓aX, evp, evq, evl, boxK, stillV, binV, AV.cells, mP, loadV, storeV, ldV, AV.stb, AV.one, IV.av1, Lb.app, Lb.fresh, reduceCtorEq, ptrL, appL, fillA, chunks, ivs, AV.iv, mkE, if_false, if_true, List.not_mem_nil, forall_eq, beq_self_eq_true, List.isEmpty_nil, Nat.reduceEqDiff, Nat.reduceLT, Nat.reduceLeDiff, Nat.reduceAdd, Nat.reduceMul, Int.reduceToNat, Int.reduceLE, Int.reduceLT]
  refine callT_pure hX ?_
  simp only [↓aX, evp, evq, evl, boxK, stillV, binV, AV.cells, mP, loadV, storeV, ldV, AV.stb, AV.one, IV.av1, Lb.app, Lb.fresh, reduceCtorEq, ptrL, appL, fillA, chunks, ivs, AV.iv, mkE, if_false, if_true, List.not_mem_nil, forall_eq, beq_self_eq_true, List.isEmpty_nil, Nat.reduceEqDiff, Nat.reduceLT, Nat.reduceLeDiff, Nat.reduceAdd, Nat.reduceMul, Int.reduceToNat, Int.reduceLE, Int.reduceLT, ↓ret2_r]
theorem suf_drop (c s : Bs) : (decide (c.length ≤ s.length) && s.drop (s.length - c.length) == c) = c.isSuffixOf s := by
  rw [Bool.eq_iff_iff]
  simp only [Bool.and_eq_true, decide_eq_true_eq, beq_iff_eq, List.isSuffixOf_iff_suffix]
  constructor
  · rintro ⟨_, h⟩
    have := List.take_append_drop (s.length - c.length) s
    rw [h] at this
    exact ⟨_, this⟩
  · rintro ⟨t, rfl⟩; simp
def c_internal_stringslite_HasSuffix : AC :=
(.seq (.reg [⟨(some 4), none, (.mov (.c (.bool false)))⟩]) (.seq (.reg [⟨(some 5), none, (.mov (.t 0))⟩, ⟨(some 6), none, (.lens (.t 5))⟩, ⟨(some 7), none, (.mov (.t 1))⟩, ⟨(some 8), none, (.lens (.t 7))⟩, ⟨(some 9), none, (.bin .geq (.t 6) (.t 8))⟩, ⟨(some 10), none, (.mov (.t 9))⟩, ⟨(some 11), (some (10, true)), (.mov (.t 0))⟩, ⟨(some 12), (some (10, true)), (.mov (.t 0))⟩, ⟨(some 13), (some (10, true)), (.lens (.t 12))⟩, ⟨(some 14), (some (10, true)), (.mov (.t 1))⟩, ⟨(some 15), (some (10, true)), (.lens (.t 14))⟩, ⟨(some 16), (some (10, true)), (.bin .sub (.t 13) (.t 15))⟩, ⟨(some 17), (some (10, true)), (.slcs (.t 11) (some (.t 16)) none)⟩, ⟨(some 18), (some (10, true)), (.mov (.t 1))⟩, ⟨(some 19), (some (10, true)), (.bin .eql (.t 17) (.t 18))⟩, ⟨(some 20), none, (.pick (.t 10) (.t 19) (.c (.bool false)))⟩, ⟨(some 4), none, (.mov (.t 20))⟩]) .ret))
theorem pHasSuffix {f_internal_stringslite_HasSuffix : Nat} (hF : compF P G f_internal_stringslite_HasSuffix = some (21, [(none, 4)], c_internal_stringslite_HasSuffix.bare)) (s t : Bs) (hs : s.length ≤ B) (ht : t.length ≤ B) : PureC P G f_internal_stringslite_HasSuffix [.str s, .str t] (.bool (t.isSuffixOf s)) := by
  refine pure_of_go hF (by simp) (by simp [lbss, AV.lbs]) (by simp [AV.lbs]) ?_
  unfold c_internal_stringslite_HasSuffix
  rw [← suf_drop]
  simp only [↓aX, evp, evq, evl, boxK, stillV, binV, AV.cells, mP, loadV, storeV, ldV, AV.stb, AV.one, IV.av1, Lb.app, Lb.fresh, reduceCtorEq, ptrL, appL, fillA, chunks, ivs, AV.iv, mkE, if_false, if_true, List.not_mem_nil, forall_eq, beq_self_eq_true, List.isEmpty_nil, Nat.reduceEqDiff, Nat.reduceLT, Nat.reduceLeDiff, Nat.reduceAdd, Nat.reduceMul, Int.reduceToNat, Int.reduceLE, Int.reduceLT]
  by_cases h : t.length ≤ s.length
  · have hw : IntKind.i64.wrap ((s.length : Int) - (t.length : Int)) = ((s.length - t.length : Nat) : Int) := by rw [wrap64 (by unfold B at hs ht; omega) (by unfold B at hs ht; omega)]; omega
    rw [show decide (((s.length : Nat) : Int) ≥ ((t.length : Nat) : Int)) = true by simpa using h, decide_eq_true h]
    simp only [↓aX, evp, evq, evl, boxK, stillV, binV, AV.cells, mP, loadV, storeV, ldV, AV.stb, AV.one, IV.av1, Lb.app, Lb.fresh, reduceCtorEq, ptrL, appL, fillA, chunks, ivs, AV.iv, mkE, if_false, if_true, List.not_mem_nil, forall_eq, beq_self_eq_true, List.isEmpty_nil, Nat.reduceEqDiff, Nat.reduceLT, Nat.reduceLeDiff, Nat.reduceAdd, Nat.reduceMul, Int.reduceToNat, Int.reduceLE, Int.reduceLT, hw, bnd, Int.natCast_nonneg, Int.toNat_natCast, true_and, show s.length - t.length ≤ s.length by omega, List.take_length]
  · rw [show decide (((s.length : Nat) : Int) ≥ ((t.length : Nat) : Int)) = false by simpa using h, decide_eq_false h]
    simp only [↓aX, evp, evq, evl, boxK, stillV, binV, AV.cells, mP, loadV, storeV, ldV, AV.stb, AV.one, IV.av1, Lb.app, Lb.fresh, reduceCtorEq, ptrL, appL, fillA, chunks, ivs, AV.iv, mkE, if_false, if_true, List.not_mem_nil, forall_eq, beq_self_eq_true, List.isEmpty_nil, Nat.reduceEqDiff, Nat.reduceLT, Nat.reduceLeDiff, Nat.reduceAdd, Nat.reduceMul, Int.reduceToNat, Int.reduceLE, Int.reduceLT, Bool.false_and]
def c_internal_stringslite_CutSuffix (f_internal_stringslite_HasSuffix : Nat) : AC :=
(.seq (.reg [⟨(some 4), none, (.mov (.c (.str [])))⟩, ⟨(some 5), none, (.mov (.c (.bool false)))⟩]) (.seq (.seq (.reg [⟨(some 6), none, (.mov (.t 0))⟩, ⟨(some 7), none, (.mov (.t 1))⟩, ⟨(some 8), none, (.call f_internal_stringslite_HasSuffix [(.t 6), (.t 7)])⟩, ⟨(some 9), none, (.not (.t 8))⟩]) (.cond (.t 9) (.seq (.reg [⟨(some 10), none, (.mov (.t 0))⟩, ⟨(some 4), none, (.mov (.t 10))⟩, ⟨(some 5), none, (.mov (.c (.bool false)))⟩]) .ret) .skip)) (.seq (.reg [⟨(some 11), none, (.mov (.t 0))⟩, ⟨(some 12), none, (.mov (.t 0))⟩, ⟨(some 13), none, (.lens (.t 12))⟩, ⟨(some 14), none, (.mov (.t 1))⟩, ⟨(some 15), none, (.lens (.t 14))⟩, ⟨(some 16), none, (.bin .sub (.t 13) (.t 15))⟩, ⟨(some 17), none, (.slcs (.t 11) none (some (.t 16)))⟩, ⟨(some 4), none, (.mov (.t 17))⟩, ⟨(some 5), none, (.mov (.c (.bool true)))⟩]) .ret)))
theorem pSlCutSuffix {f_internal_stringslite_CutSuffix f_internal_stringslite_HasSuffix : Nat} (hF : compF P G f_internal_stringslite_CutSuffix = some (18, [(none, 4), (none, 5)], (c_internal_stringslite_CutSuffix f_internal_stringslite_HasSuffix).bare)) (s t : Bs) (hs : s.length ≤ B) (ht : t.length ≤ B)
    (hX : PureC P G f_internal_stringslite_HasSuffix [.str s, .str t] (.bool (t.isSuffixOf s))) :
    PureC P G f_internal_stringslite_CutSuffix [.str s, .str t] (.tup [.str (if t.isSuffixOf s then s.take (s.length - t.length) else s), .bool (t.isSuffixOf s)]) := by
  refine pure_of_go hF (by simp) (by simp [lbss, AV.lbs]) (by simp [AV.lbs, lbss]) ?_
  unfold c_internal_stringslite_CutSuffix
  simp only [↓aX, evp, evq, evl, boxK, stillV, binV, AV.cells, mP, loadV, storeV, ldV, AV.stb, AV.one, IV.av1, Lb.app, Lb.fresh, reduceCtorEq, ptrL, appL, fillA, chunks, ivs, AV.iv, mkE, if_false, if_true, List.not_mem_nil, forall_eq, beq_self_eq_true, List.isEmpty_nil, Nat.reduceEqDiff, Nat.reduceLT, Nat.reduceLeDiff, Nat.reduceAdd, Nat.reduceMul, Int.reduceToNat, Int.reduceLE, Int.reduceLT]
  refine callT_pure hX ?_
  cases h : t.isSuffixOf s with
  | false => simp only [↓aX, evp, evq, evl, boxK, stillV, binV, AV.cells, mP, loadV, storeV, ldV, AV.stb, AV.one, IV.av1, Lb.app, Lb.fresh, reduceCtorEq, ptrL, appL, fillA, chunks, ivs, AV.iv, mkE, if_false, if_true, List.not_mem_nil, forall_eq, beq_self_eq_true, List.isEmpty_nil, Nat.reduceEqDiff, Nat.reduceLT, Nat.reduceLeDiff, Nat.reduceAdd, Nat.reduceMul, Int.reduceToNat, Int.reduceLE, Int.reduceLT, Bool.not_false, ↓ret2_r]
  | true =>
    have hl : t.length ≤ s.length := by rw [List.isSuffixOf_iff_suffix] at h; exact h.length_le
    have hw : IntKind.i64.wrap ((s.length : Int) - (t.length : Int)) = ((s.length - t.length : Nat) : Int) := by rw [wrap64 (by unfold B at hs ht; omega) (by unfold B at hs ht; omega)]; omega
    simp only [↓aX, evp, evq, evl, boxK, stillV, binV, AV.cells, mP, loadV, storeV, ldV, AV.stb, AV.one, IV.av1, Lb.app, Lb.fresh, reduceCtorEq, ptrL, appL, fillA, chunks, ivs, AV.iv, mkE, if_false, if_true, List.not_mem_nil, forall_eq, beq_self_eq_true, List.isEmpty_nil, Nat.reduceEqDiff, Nat.reduceLT, Nat.reduceLeDiff, Nat.reduceAdd, Nat.reduceMul, Int.reduceToNat, Int.reduceLE, Int.reduceLT, Bool.not_true, hw, bnd, Int.natCast_nonneg, Int.toNat_natCast, true_and, show s.length - t.length ≤ s.length by omega, ↓ret2_r]
    try simp
def c_strings_CutSuffix (f_internal_stringslite_CutSuffix : Nat) : AC :=
(.seq (.reg [⟨(some 4), none, (.mov (.c (.str [])))⟩, ⟨(some 5), none, (.mov (.c (.bool false)))⟩]) (.seq (.reg [⟨(some 6), none, (.mov (.t 0))⟩, ⟨(some 7), none, (.mov (.t 1))⟩, ⟨(some 8), none, (.call f_internal_stringslite_CutSuffix [(.t 6), (.t 7)])⟩, ⟨(some 9), none, (.ext (.t 8) 0)⟩, ⟨(some 10), none, (.ext (.t 8) 1)⟩, ⟨(some 4), none, (.mov (.t 9))⟩, ⟨(some 5), none, (.mov (.t 10))⟩]) .ret))
theorem pCutSuffix {f_strings_CutSuffix f_internal_stringslite_CutSuffix : Nat} (hF : compF P G f_strings_CutSuffix = some (11, [(none, 4), (none, 5)], (c_strings_CutSuffix f_internal_stringslite_CutSuffix).bare)) (s t : Bs)
    (hX : PureC P G f_internal_stringslite_CutSuffix [.str s, .str t] (.tup [.str (if t.isSuffixOf s then s.take (s.length - t.length) else s), .bool (t.isSuffixOf s)])) :
    PureC P G f_strings_CutSuffix [.str s, .str t] (.tup [.str (if t.isSuffixOf s then s.take (s.length - t.length) else s), .bool (t.isSuffixOf s)]) := by
  refine pure_of_go hF (by simp) (by simp [lbss, AV.lbs]) (by simp [AV.lbs, lbss]) ?_
  unfold c_strings_CutSuffix
  simp only [↓aX, evp, evq, evl, boxK, stillV, binV, AV.cells, mP, loadV, storeV, ldV, AV.stb, AV.one, IV.av1, Lb.app, Lb.fresh, reduceCtorEq, ptrL, appL, fillA, chunks, ivs, AV.iv, mkE, if_false, if_true, List.not_mem_nil, forall_eq, beq_self_eq_true, List.isEmpty_nil, Nat.reduceEqDiff, Nat.reduceLT, Nat.reduceLeDiff, Nat.reduceAdd, Nat.reduceMul, Int.reduceToNat, Int.reduceLE, Int.reduceLT]
  refine callT_pure hX ?_
  simp only [↓aX, evp, evq, evl, boxK, stillV, binV, AV.cells, mP, loadV, storeV, ldV, AV.stb, AV.one, IV.av1, Lb.app, Lb.fresh, reduceCtorEq, ptrL, appL, fillA, chunks, ivs, AV.iv, mkE, if_false, if_true, List.not_mem_nil, forall_eq, beq_self_eq_true, List.isEmpty_nil, Nat.reduceEqDiff, Nat.reduceLT, Nat.reduceLeDiff, Nat.reduceAdd, Nat.reduceMul, Int.reduceToNat, Int.reduceLE, Int.reduceLT, ↓ret2_r]
/-- What stands ahead of a byte, and behind it. -/
def cutC (c : UInt8) (s : Bs) : Bs × Bs × Bool := if 0 ≤ Lib.indexByte s c then (s.take (Lib.indexByte s c).toNat, s.drop ((Lib.indexByte s c).toNat + 1), true) else (s, [], false)
def c_internal_stringslite_Cut (f_internal_stringslite_Index : Nat) : AC :=
(.seq (.reg [⟨(some 4), none, (.mov (.c (.str [])))⟩, ⟨(some 5), none, (.mov (.c (.str [])))⟩, ⟨(some 6), none, (.mov (.c (.bool false)))⟩]) (.seq (.seq (.reg [⟨(some 8), none, (.mov (.t 0))⟩, ⟨(some 9), none, (.mov (.t 1))⟩, ⟨(some 10), none, (.call f_internal_stringslite_Index [(.t 8), (.t 9)])⟩, ⟨(some 7), none, (.mov (.t 10))⟩]) (.seq (.reg [⟨(some 11), none, (.mov (.t 7))⟩, ⟨(some 12), none, (.bin .geq (.t 11) (.c (.int .i64 0)))⟩]) (.cond (.t 12) (.seq (.dreg [⟨(some 13), none, (.mov (.t 0))⟩, ⟨(some 14), none, (.mov (.t 7))⟩, ⟨(some 15), none, (.slcs (.t 13) none (some (.t 14)))⟩, ⟨(some 16), none, (.mov (.t 0))⟩, ⟨(some 17), none, (.mov (.t 7))⟩, ⟨(some 18), none, (.mov (.t 1))⟩, ⟨(some 19), none, (.lens (.t 18))⟩, ⟨(some 20), none, (.bin .add (.t 17) (.t 19))⟩, ⟨(some 21), none, (.slcs (.t 16) (some (.t 20)) none)⟩, ⟨(some 4), none, (.mov (.t 15))⟩, ⟨(some 5), none, (.mov (.t 21))⟩, ⟨(some 6), none, (.mov (.c (.bool true)))⟩] [[], [], [0, 1], [], [], [], [5], [4, 6], [3, 7], [2, 0, 1, 2], [8, 9, 0, 1, 2, 3, 4, 5, 6, 7, 8, 9], [10, 0, 1, 2, 3, 4, 5, 6, 7, 8, 9, 10]] [.no, .no, .no, .no, .no, .no, .no, .no, .no, .no, .no, .no]) .ret) .skip))) (.seq (.reg [⟨(some 22), none, (.mov (.t 0))⟩, ⟨(some 4), none, (.mov (.t 22))⟩, ⟨(some 5), none, (.mov (.c (.str [])))⟩, ⟨(some 6), none, (.mov (.c (.bool false)))⟩]) .ret)))
theorem ret3_r {env : Env} {H : Hp} (t u v : Nat) (R : AV → Hp → Prop) : RetP [(none, t), (none, u), (none, v)] R .ret env H = R (.tup [env t, env u, env v]) H := by simp [RetP, resVs, resV, oneV]
theorem pSlCut {f_internal_stringslite_Cut f_internal_stringslite_Index : Nat} (hF : compF P G f_internal_stringslite_Cut = some (23, [(none, 4), (none, 5), (none, 6)], (c_internal_stringslite_Cut f_internal_stringslite_Index).bare)) (s : Bs) (c : UInt8) (hs : s.length ≤ B)
    (hX : PureC P G f_internal_stringslite_Index [.str s, .str [c]] (.int .i64 (Lib.indexByte s c))) :
    PureC P G f_internal_stringslite_Cut [.str s, .str [c]] (.tup [.str (cutC c s).1, .str (cutC c s).2.1, .bool (cutC c s).2.2]) := by
  refine pure_of_go hF (by simp) (by simp [lbss, AV.lbs]) (by simp [AV.lbs, lbss]) ?_
  unfold c_internal_stringslite_Cut cutC
  simp only [↓aX, evp, evq, evl, boxK, stillV, binV, AV.cells, mP, loadV, storeV, ldV, AV.stb, AV.one, IV.av1, Lb.app, Lb.fresh, reduceCtorEq, ptrL, appL, fillA, chunks, ivs, AV.iv, mkE, if_false, if_true, List.not_mem_nil, forall_eq, beq_self_eq_true, List.isEmpty_nil, Nat.reduceEqDiff, Nat.reduceLT, Nat.reduceLeDiff, Nat.reduceAdd, Nat.reduceMul, Int.reduceToNat, Int.reduceLE, Int.reduceLT]
  refine callT_pure hX ?_
  rcases idx_cases c s with ⟨h1, _, _⟩ | ⟨m, h1, h2, _, _⟩
  · rw [h1, if_neg (by decide)]
    simp only [↓aX, evp, evq, evl, boxK, stillV, binV, AV.cells, mP, loadV, storeV, ldV, AV.stb, AV.one, IV.av1, Lb.app, Lb.fresh, reduceCtorEq, ptrL, appL, fillA, chunks, ivs, AV.iv, mkE, if_false, if_true, List.not_mem_nil, forall_eq, beq_self_eq_true, List.isEmpty_nil, Nat.reduceEqDiff, Nat.reduceLT, Nat.reduceLeDiff, Nat.reduceAdd, Nat.reduceMul, Int.reduceToNat, Int.reduceLE, Int.reduceLT, show decide ((-1 : Int) ≥ 0) = false from rfl, ↓ret3_r]
  · rw [h1, if_pos (by omega)]
    have hw : IntKind.i64.wrap ((m : Int) + 1) = ((m + 1 : Nat) : Int) := wrap64 (by omega) (by unfold B at hs; omega)
    simp only [↓aX, evp, evq, evl, boxK, stillV, binV, AV.cells, mP, loadV, storeV, ldV, AV.stb, AV.one, IV.av1, Lb.app, Lb.fresh, reduceCtorEq, ptrL, appL, fillA, chunks, ivs, AV.iv, mkE, if_false, if_true, List.not_mem_nil, forall_eq, beq_self_eq_true, List.isEmpty_nil, Nat.reduceEqDiff, Nat.reduceLT, Nat.reduceLeDiff, Nat.reduceAdd, Nat.reduceMul, Int.reduceToNat, Int.reduceLE, Int.reduceLT, ge_iff_le, Int.natCast_nonneg, decide_true]
    refine ⟨rfl, ?_⟩
    simp only [↓aX, evp, evq, evl, boxK, stillV, binV, AV.cells, mP, loadV, storeV, ldV, AV.stb, AV.one, IV.av1, Lb.app, Lb.fresh, reduceCtorEq, ptrL, appL, fillA, chunks, ivs, AV.iv, mkE, if_false, if_true, List.not_mem_nil, forall_eq, beq_self_eq_true, List.isEmpty_nil, Nat.reduceEqDiff, Nat.reduceLT, Nat.reduceLeDiff, Nat.reduceAdd, Nat.reduceMul, Int.reduceToNat, Int.reduceLE, Int.reduceLT, List.length_cons, List.length_nil, show ((1 : Nat) : Int) = 1 from rfl, hw, bnd, evq, Int.natCast_nonneg, Int.toNat_natCast, true_and,
      show m ≤ s.length by omega, show m + 1 ≤ s.length by omega, List.take_length, ↓ret3_r]
def c_strings_Cut (f_internal_stringslite_Cut : Nat) : AC :=
(.seq (.reg [⟨(some 4), none, (.mov (.c (.str [])))⟩, ⟨(some 5), none, (.mov (.c (.str [])))⟩, ⟨(some 6), none, (.mov (.c (.bool false)))⟩]) (.seq (.reg [⟨(some 7), none, (.mov (.t 0))⟩, ⟨(some 8), none, (.mov (.t 1))⟩, ⟨(some 9), none, (.call f_internal_stringslite_Cut [(.t 7), (.t 8)])⟩, ⟨(some 10), none, (.ext (.t 9) 0)⟩, ⟨(some 11), none, (.ext (.t 9) 1)⟩, ⟨(some 12), none, (.ext (.t 9) 2)⟩, ⟨(some 4), none, (.mov (.t 10))⟩, ⟨(some 5), none, (.mov (.t 11))⟩, ⟨(some 6), none, (.mov (.t 12))⟩]) .ret))
theorem pCut {f_strings_Cut f_internal_stringslite_Cut : Nat} (hF : compF P G f_strings_Cut = some (13, [(none, 4), (none, 5), (none, 6)], (c_strings_Cut f_internal_stringslite_Cut).bare)) (s : Bs) (c : UInt8)
    (hX : PureC P G f_internal_stringslite_Cut [.str s, .str [c]] (.tup [.str (cutC c s).1, .str (cutC c s).2.1, .bool (cutC c s).2.2])) :
    PureC P G f_strings_Cut [.str s, .str [c]] (.tup [.str (cutC c s).1, .str (cutC c s).2.1, .bool (cutC c s).2.2]) := by
  refine pure_of_go hF (by simp) (by simp [lbss, AV.lbs]) (by simp [AV.lbs, lbss]) ?_
  unfold c_strings_Cut
  simp only [↓aX, evp, evq, evl, boxK, stillV, binV, AV.cells, mP, loadV, storeV, ldV, AV.stb, AV.one, IV.av1, Lb.app, Lb.fresh, reduceCtorEq, ptrL, appL, fillA, chunks, ivs, AV.iv, mkE, if_false, if_true, List.not_mem_nil, forall_eq, beq_self_eq_true, List.isEmpty_nil, Nat.reduceEqDiff, Nat.reduceLT, Nat.reduceLeDiff, Nat.reduceAdd, Nat.reduceMul, Int.reduceToNat, Int.reduceLE, Int.reduceLT]
  refine callT_pure hX ?_
  simp only [↓aX, evp, evq, evl, boxK, stillV, binV, AV.cells, mP, loadV, storeV, ldV, AV.stb, AV.one, IV.av1, Lb.app, Lb.fresh, reduceCtorEq, ptrL, appL, fillA, chunks, ivs, AV.iv, mkE, if_false, if_true, List.not_mem_nil, forall_eq, beq_self_eq_true, List.isEmpty_nil, Nat.reduceEqDiff, Nat.reduceLT, Nat.reduceLeDiff, Nat.reduceAdd, Nat.reduceMul, Int.reduceToNat, Int.reduceLE, Int.reduceLT, ↓ret3_r]
end
end Go.Am
