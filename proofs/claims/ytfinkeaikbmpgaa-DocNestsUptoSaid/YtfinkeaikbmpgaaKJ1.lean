import Derived.Test.YtfinkeaikbmpgaaT7
import Derived.Test.YtfinkeaikbmpgaaKAm27
set_option linter.unusedSimpArgs false
set_option linter.unusedVariables false
set_option linter.unnecessarySimpa false
set_option linter.defProp false
/- Trees that are joined. -/
namespace Go.Am
open Go Go.RowKit

def Tree.withS (x : Tree) (s : Bs) : Tree := .mk x.text s x.attrs x.kids

/-- Is the last of some a text? -/
def lastT (p : Bool) : List Tree → Bool
  | [] => p
  | x :: r => lastT x.text r

/-- The last one is longer. -/
def grow (s : Bs) : List Tree → List Tree
  | [] => []
  | [x] => [x.withS (x.s ++ s)]
  | x :: y :: r => x :: grow s (y :: r)

/-- One more, joined to what is there. -/
def push (out : List Tree) (x : Tree) : List Tree :=
  if x.text && x.s == [] then out else if x.text && lastT false out then grow x.s out else out ++ [x]

mutual
def Tree.jn : Tree → Tree
  | .mk t s as ks => .mk t s as (joinA [] ks)
def joinA (out : List Tree) : List Tree → List Tree
  | [] => out
  | x :: r => joinA (push out x.jn) r
end
def joined (l : List Tree) : List Tree := joinA [] l

theorem Tree.jn_eq (x : Tree) : x.jn = .mk x.text x.s x.attrs (joined x.kids) := by cases x; simp [Tree.jn, joined, Tree.text, Tree.s, Tree.attrs, Tree.kids]
theorem Tree.jn_text (x : Tree) : x.jn.text = x.text := by rw [x.jn_eq]; rfl
theorem Tree.jn_s (x : Tree) : x.jn.s = x.s := by rw [x.jn_eq]; rfl
theorem Tree.jn_attrs (x : Tree) : x.jn.attrs = x.attrs := by rw [x.jn_eq]; rfl
theorem Tree.jn_kids (x : Tree) : x.jn.kids = joined x.kids := by rw [x.jn_eq]; rfl
theorem joinA_app : ∀ (xs ys out : List Tree), joinA out (xs ++ ys) = joinA (joinA out xs) ys
  | [], ys, out => by simp [joinA]
  | x :: r, ys, out => by simp [joinA, joinA_app r ys]

theorem lastT_snoc (x : Tree) : ∀ (p : Bool) (xs : List Tree), lastT p (xs ++ [x]) = x.text
  | _, [] => rfl
  | p, y :: r => lastT_snoc x y.text r
theorem lastT_grow (s : Bs) : ∀ (p : Bool) (xs : List Tree), lastT p (grow s xs) = lastT p xs
  | _, [] => rfl
  | _, [x] => rfl
  | p, x :: y :: r => by simp only [grow, lastT]; exact lastT_grow s _ (y :: r)
theorem lastT_get (p : Bool) : ∀ (xs : List Tree), xs ≠ [] → ∃ y, xs[xs.length - 1]? = some y ∧ lastT p xs = y.text
  | [], h => absurd rfl h
  | [x], _ => ⟨x, rfl, rfl⟩
  | x :: y :: r, _ => by
    obtain ⟨z, h1, h2⟩ := lastT_get x.text (y :: r) (by simp)
    exact ⟨z, by simpa using h1, by simpa [lastT] using h2⟩
theorem grow_len (s : Bs) : ∀ (xs : List Tree), (grow s xs).length = xs.length
  | [] => rfl
  | [x] => rfl
  | x :: y :: r => by simp only [grow, List.length_cons, grow_len s (y :: r)]
theorem grow_eq (s : Bs) : ∀ (xs : List Tree) (y : Tree), xs[xs.length - 1]? = some y → grow s xs = xs.set (xs.length - 1) (y.withS (y.s ++ s))
  | [], y, h => by simp at h
  | [x], y, h => by simp at h; subst h; rfl
  | x :: z :: r, y, h => by
    have := grow_eq s (z :: r) y (by simpa using h)
    simp only [grow, this]; simp
theorem grow_snoc (s : Bs) (x : Tree) : ∀ (xs : List Tree), grow s (xs ++ [x]) = xs ++ [x.withS (x.s ++ s)]
  | [] => rfl
  | [y] => rfl
  | y :: z :: r => by simp only [List.cons_append, grow, List.cons.injEq, true_and]; exact grow_snoc s x (z :: r)

/-! What is joined: no texts beside one another, none empty, and so below. -/
mutual
def Tree.jd : Tree → Bool
  | .mk _ _ _ ks => jds false ks
def jds (p : Bool) : List Tree → Bool
  | [] => true
  | x :: r => !(x.text && (p || x.s == [])) && (x.jd && jds x.text r)
end
theorem Tree.jd_eq (x : Tree) : x.jd = jds false x.kids := by cases x; simp [Tree.jd, Tree.kids]
theorem jds_snoc (x : Tree) : ∀ (p : Bool) (xs : List Tree), jds p (xs ++ [x]) = (jds p xs && (!(x.text && (lastT p xs || x.s == [])) && x.jd))
  | p, [] => by simp [jds, lastT]
  | p, y :: r => by simp only [List.cons_append, jds, lastT, jds_snoc x _ r, Bool.and_assoc]
theorem jds_grow (s : Bs) : ∀ (p : Bool) (xs : List Tree), jds p xs = true → lastT p xs = true ∨ xs = [] → jds p (grow s xs) = true
  | p, [], _, _ => rfl
  | p, [x], h, hl => by
    simp only [jds, lastT, grow, Tree.withS, Bool.and_eq_true, and_true, Bool.and_true] at h ⊢
    obtain ⟨h1, h2⟩ := h
    refine ⟨?_, by rw [Tree.jd_eq] at h2 ⊢; exact h2⟩
    simp only [Tree.text, Tree.s] at h1 ⊢
    cases x with
    | mk t c as ks =>
      simp only [Bool.not_eq_true', Bool.and_eq_false_iff, Bool.or_eq_false_iff, beq_eq_false_iff_ne] at h1 ⊢
      rcases h1 with h1 | ⟨h1, h3⟩
      · exact .inl h1
      · exact .inr ⟨h1, fun e => h3 (List.append_eq_nil_iff.1 e).1⟩
  | p, x :: y :: r, h, hl => by
    simp only [grow]
    have h' : (!(x.text && (p || x.s == [])) && (x.jd && jds x.text (y :: r))) = true := by simpa only [jds] using h
    show (!(x.text && (p || x.s == [])) && (x.jd && jds x.text (grow s (y :: r)))) = true
    simp only [Bool.and_eq_true] at h' ⊢
    refine ⟨h'.1, h'.2.1, jds_grow s _ (y :: r) h'.2.2 (.inl ?_)⟩
    rcases hl with hl | hl
    · simpa [lastT] using hl
    · simp at hl
theorem jds_push (out : List Tree) (x : Tree) (h : jds false out = true) (hx : x.jd = true) : jds false (push out x) = true := by
  unfold push
  split
  · exact h
  · rename_i h1
    split
    · rename_i h2
      simp only [Bool.and_eq_true] at h2
      exact jds_grow _ _ _ h (.inl h2.2)
    · rename_i h2
      rw [jds_snoc, h, hx]
      cases hx1 : x.text <;> simp_all
mutual
theorem Tree.jd_jn : ∀ x : Tree, x.jn.jd = true
  | .mk t s as ks => by simp only [Tree.jn, Tree.jd]; exact jds_joinA [] ks rfl
theorem jds_joinA : ∀ (out l : List Tree), jds false out = true → jds false (joinA out l) = true
  | out, [], h => h
  | out, x :: r, h => by simp only [joinA]; exact jds_joinA _ r (jds_push _ _ h x.jd_jn)
end
theorem jds_joined (l : List Tree) : jds false (joined l) = true := jds_joinA [] l rfl

mutual
theorem Tree.jn_id : ∀ x : Tree, x.jd = true → x.jn = x
  | .mk t s as ks, h => by simp only [Tree.jn]; rw [joinA_id [] ks (by simpa [Tree.jd, lastT] using h)]; rfl
theorem joinA_id : ∀ (out l : List Tree), jds (lastT false out) l = true → joinA out l = out ++ l
  | out, [], _ => by simp [joinA]
  | out, x :: r, h => by
    simp only [jds, Bool.and_eq_true] at h
    have hp : push out x = out ++ [x] := by
      unfold push
      cases hx : x.text with
      | false => simp
      | true =>
        have := h.1
        simp only [hx, Bool.true_and, Bool.not_eq_true', Bool.or_eq_false_iff, beq_eq_false_iff_ne] at this
        simp [this.1, this.2]
    simp only [joinA, x.jn_id h.2.1, hp]
    rw [joinA_id _ r (by rw [lastT_snoc]; exact h.2.2)]; simp
end
theorem joined_id {l : List Tree} (h : jds false l = true) : joined l = l := by have := joinA_id [] l (by simpa [lastT] using h); simpa [joined] using this
theorem joined_idem (l : List Tree) : joined (joined l) = joined l := joined_id (jds_joined l)

mutual
theorem Tree.fine_jd : ∀ x : Tree, x.fine = true → x.jd = true ∧ (x.text = true → x.s ≠ [])
  | .mk t s as ks, h => by
    simp only [Tree.fine] at h
    simp only [Tree.jd, Tree.text, Tree.s]
    cases t with
    | true =>
      simp only [if_true, Bool.and_eq_true, bne_iff_ne, beq_iff_eq, List.length_eq_zero_iff] at h
      exact ⟨by rw [h.2.2.2]; rfl, fun _ => h.2.1⟩
    | false =>
      simp only [Bool.false_eq_true, if_false, Bool.and_eq_true] at h
      exact ⟨fines_jds none ks h.2.2, by simp⟩
theorem fines_jds : ∀ (p : Option Bool) (l : List Tree), fines p l = true → jds (p == some true) l = true
  | _, [], _ => rfl
  | p, x :: r, h => by
    simp only [fines, Bool.and_eq_true] at h
    obtain ⟨h1, h2, h3⟩ := h
    obtain ⟨k1, k2⟩ := x.fine_jd h1
    have k3 := fines_jds _ r h3
    have e : (some x.text == some true) = x.text := by cases x.text <;> rfl
    rw [e] at k3
    simp only [jds, Bool.and_eq_true]
    refine ⟨?_, k1, k3⟩
    cases hx : x.text with
    | false => simp
    | true =>
      have := k2 hx
      rw [hx] at h2
      simp at h2
      simp [this]
      cases p <;> simp_all
end

/-! Sizes. -/
theorem wtT_grow (s : Bs) : ∀ (xs : List Tree), wtT (grow s xs) ≤ wtT xs + s.length
  | [] => by simp [grow, wtT]
  | [x] => by cases x; simp [grow, wtT, Tree.withS, Tree.wt, Tree.text, Tree.s, Tree.attrs, Tree.kids]; omega
  | x :: y :: r => by have := wtT_grow s (y :: r); simp only [grow, wtT] at this ⊢; omega
theorem wtT_push (out : List Tree) (x : Tree) : wtT (push out x) ≤ wtT out + x.wt := by
  unfold push
  split
  · omega
  · split
    · have := wtT_grow x.s out; have := x.wt_eq; omega
    · rw [wtT_app]; simp [wtT]
mutual
theorem Tree.wt_jn : ∀ x : Tree, x.jn.wt ≤ x.wt
  | .mk t s as ks => by have := wtT_joinA [] ks; simp only [Tree.jn, Tree.wt, wtT] at this ⊢; omega
theorem wtT_joinA : ∀ (out l : List Tree), wtT (joinA out l) ≤ wtT out + wtT l
  | out, [] => by simp [joinA, wtT]
  | out, x :: r => by
    have := wtT_joinA (push out x.jn) r
    have := wtT_push out x.jn
    have := x.wt_jn
    simp only [joinA, wtT]; omega
end
theorem wtT_joined (l : List Tree) : wtT (joined l) ≤ wtT l := by have := wtT_joinA [] l; simp only [wtT] at this; unfold joined; omega

/-! A run of texts becomes one. -/
def catS (xs : List Tree) : Bs := xs.flatMap Tree.s
def firstS (xs : List Tree) : Option Tree := xs.find? fun x => !(x.s == [])

theorem catS_snoc (xs : List Tree) (x : Tree) : catS (xs ++ [x]) = catS xs ++ x.s := by simp [catS]
theorem firstS_snoc (xs : List Tree) (x : Tree) : firstS (xs ++ [x]) = (firstS xs).or (if x.s == [] then none else some x) := by
  simp only [firstS, List.find?_append, List.find?_cons, List.find?_nil]
  congr 1
  cases x.s == [] <;> rfl
theorem firstS_none {xs : List Tree} (h : firstS xs = none) : catS xs = [] := by
  simp only [firstS, List.find?_eq_none] at h
  simp only [catS, List.flatMap_eq_nil_iff]
  intro x hx
  simpa using h x hx

theorem withS_withS (x : Tree) (a b : Bs) : (x.withS a).withS b = x.withS b := rfl
theorem withS_s (x : Tree) (a : Bs) : (x.withS a).s = a := rfl
theorem withS_text (x : Tree) (a : Bs) : (x.withS a).text = x.text := rfl
theorem withS_self (x : Tree) : x.withS x.s = x := by cases x; rfl

theorem joinA_grow : ∀ (xs : List Tree) (out : List Tree) (y : Tree), (∀ x ∈ xs, x.text = true) → y.text = true → joinA (out ++ [y]) xs = out ++ [y.withS (y.s ++ catS xs)]
  | [], out, y, _, _ => by simp [joinA, catS, withS_self]
  | x :: r, out, y, h, hy => by
    have hx := h x (by simp)
    have hp : push (out ++ [y]) x.jn = out ++ [y.withS (y.s ++ x.s)] := by
      unfold push
      rw [x.jn_text, hx, x.jn_s, lastT_snoc, hy]
      by_cases e : x.s = []
      · simp [e, withS_self]
      · simp [e, grow_snoc]
    simp only [joinA, hp]
    rw [joinA_grow r out _ (fun z hz => h z (by simp [hz])) (by rw [withS_text]; exact hy)]
    simp [catS, withS_s, withS_withS]

theorem joinA_run : ∀ (xs : List Tree) (out : List Tree), (∀ x ∈ xs, x.text = true) → lastT false out = false →
    joinA out xs = match firstS xs with
      | none => out
      | some f => out ++ [f.jn.withS (catS xs)]
  | [], out, _, _ => by simp [joinA, firstS]
  | x :: r, out, h, ho => by
    have hx := h x (by simp)
    by_cases e : x.s = []
    · have hp : push out x.jn = out := by unfold push; rw [x.jn_text, hx, x.jn_s, e]; simp
      have := joinA_run r out (fun z hz => h z (by simp [hz])) ho
      simp only [joinA, hp, this]
      simp [firstS, e, catS]
    · have hp : push out x.jn = out ++ [x.jn] := by unfold push; rw [x.jn_text, hx, x.jn_s, ho]; simp [e]
      simp only [joinA, hp]
      rw [joinA_grow r out _ (fun z hz => h z (by simp [hz])) (by rw [x.jn_text]; exact hx)]
      simp [firstS, e, catS, x.jn_s]

theorem joinA_elem (out : List Tree) (x : Tree) (h : x.text = false) : joinA out [x] = out ++ [x.jn] := by
  simp only [joinA, push]; rw [x.jn_text, h]; simp

end Go.Am

/- Joined. -/
namespace Go.Am
open Go Go.RowKit

def c_tree_Joined (f_tree_Joined : Nat) : AC :=
(.seq (.reg [⟨(some 2), none, (.mov (.c .nil0))⟩]) (.seq (.reg [⟨(some 3), none, (.mov (.c .nil0))⟩]) (.gh (.own 3 4) (.seq (.seq (.reg [⟨(some 7), none, (.mov (.t 0))⟩, ⟨(some 8), none, (.len (.t 7))⟩, ⟨(some 9), none, (.mov (.c (.int .i64 0)))⟩]) (.block 0 (.loop (.seq (.reg [⟨(some 10), none, (.bin .lss (.t 9) (.t 8))⟩]) (.seq (.cond (.t 10) .skip (.exit 0)) (.seq (.block 1 (.seq (.reg [⟨(some 11), none, (.ixa (.t 7) (.t 9) 4)⟩, ⟨(some 12), none, (.load (some 4) (.t 11))⟩, ⟨(some 5), none, (.new [(.bool false), (.str []), .nil0, .nil0])⟩, ⟨none, none, (.store 4 (.t 5) (.t 12))⟩]) (.seq (.reg [⟨(some 13), none, (.fld (.t 5) 3)⟩, ⟨(some 14), none, (.load none (.t 13))⟩, ⟨(some 15), none, (.call f_tree_Joined [(.t 14)])⟩, ⟨(some 16), none, (.fld (.t 5) 3)⟩, ⟨none, none, (.store 1 (.t 16) (.t 15))⟩]) (.seq (.reg [⟨(some 17), none, (.mov (.t 3))⟩, ⟨(some 18), none, (.len (.t 17))⟩, ⟨(some 6), none, (.mov (.t 18))⟩]) (.block 2 (.seq (.reg [⟨(some 24), none, (.fld (.t 5) 0)⟩, ⟨(some 25), none, (.load none (.t 24))⟩, ⟨(some 26), none, (.mov (.t 25))⟩, ⟨(some 27), (some (26, true)), (.fld (.t 5) 1)⟩, ⟨(some 28), (some (26, true)), (.load none (.t 27))⟩, ⟨(some 29), (some (26, true)), (.bin .eql (.t 28) (.c (.str [])))⟩, ⟨(some 30), none, (.pick (.t 26) (.t 29) (.c (.bool false)))⟩, ⟨(some 23), none, (.mov (.t 30))⟩]) (.cond (.t 23) .skip (.seq (.reg [⟨(some 32), none, (.fld (.t 5) 0)⟩, ⟨(some 33), none, (.load none (.t 32))⟩, ⟨(some 34), none, (.mov (.t 33))⟩, ⟨(some 35), (some (34, true)), (.mov (.t 6))⟩, ⟨(some 36), (some (34, true)), (.bin .gtr (.t 35) (.c (.int .i64 0)))⟩, ⟨(some 37), none, (.pick (.t 34) (.t 36) (.c (.bool false)))⟩, ⟨(some 38), none, (.mov (.t 37))⟩, ⟨(some 39), (some (38, true)), (.mov (.t 3))⟩, ⟨(some 40), (some (38, true)), (.mov (.t 6))⟩, ⟨(some 41), (some (38, true)), (.bin .sub (.t 40) (.c (.int .i64 1)))⟩, ⟨(some 42), (some (38, true)), (.ixa (.t 39) (.t 41) 4)⟩, ⟨(some 43), (some (38, true)), (.fld (.t 42) 0)⟩, ⟨(some 44), (some (38, true)), (.load none (.t 43))⟩, ⟨(some 45), none, (.pick (.t 38) (.t 44) (.c (.bool false)))⟩, ⟨(some 31), none, (.mov (.t 45))⟩]) (.cond (.t 31) (.dreg [⟨(some 46), none, (.mov (.t 3))⟩, ⟨(some 47), none, (.mov (.t 6))⟩, ⟨(some 48), none, (.bin .sub (.t 47) (.c (.int .i64 1)))⟩, ⟨(some 49), none, (.ixa (.t 46) (.t 48) 4)⟩, ⟨(some 50), none, (.fld (.t 49) 1)⟩, ⟨(some 51), none, (.load none (.t 50))⟩, ⟨(some 52), none, (.fld (.t 5) 1)⟩, ⟨(some 53), none, (.load none (.t 52))⟩, ⟨(some 54), none, (.bin .add (.t 51) (.t 53))⟩, ⟨(some 55), none, (.ixa (.t 46) (.t 48) 4)⟩, ⟨(some 56), none, (.fld (.t 55) 1)⟩, ⟨none, none, (.store 1 (.t 56) (.t 54))⟩] [[], [], [1], [0, 2], [3], [4], [], [6], [5, 7], [0, 2, 0, 1, 2, 3, 4, 5, 6, 7, 8], [9, 0, 1, 2, 3, 4, 5, 6, 7, 8], [10, 8, 0, 1, 2, 3, 4, 5, 6, 7, 8]] [.no, .no, .no, .no, .no, (.rw [.loc 3] []), .no, .rw [.loc 5] [], .no, .no, .no, (.rw [] [.loc 3])]) (.reg [⟨(some 19), none, (.mov (.t 3))⟩, ⟨(some 20), none, (.load (some 4) (.t 5))⟩, ⟨(some 21), none, (.lits 1 4 [(.bool false), (.str []), .nil0, .nil0] [(0, (.t 20))])⟩, ⟨(some 22), none, (.app (.t 19) (.t 21) 4 72)⟩, ⟨(some 3), none, (.mov (.t 22))⟩])))))))))) (.reg [⟨(some 57), none, (.bin .add (.t 9) (.c (.int .i64 1)))⟩, ⟨(some 9), none, (.mov (.t 57))⟩]))))))) (.seq (.reg [⟨(some 58), none, (.mov (.t 3))⟩, ⟨(some 2), none, (.mov (.t 58))⟩]) (.gh (.frz (.loc 3) 2) .ret))))))

theorem Tree.cs_av (x : Tree) : x.cs.map IV.av1 = [.bool x.text, .str x.s, .list (ivA x.attrs), .list (ivT x.kids)] := rfl

theorem pJoined {P : Program} {G : Nat → Option (List IV)} {f_tree_Joined : Nat} (hF : compF P G f_tree_Joined = some (59, [(none, 2)], (c_tree_Joined f_tree_Joined).bare)) (l : List Tree) (hx : wtT l ≤ B)
    (hJ : ∀ x ∈ l, PureC P G f_tree_Joined [.list (ivT x.kids)] (.list (ivT (joined x.kids)))) : PureC P G f_tree_Joined [.list (ivT l)] (.list (ivT (joined l))) := by
  refine pure_of_go hF (by simp) (by simp [lbss, AV.lbs]) (by simp [AV.lbs]) ?_
  have hl := wtT_len l
  unfold c_tree_Joined
  simp only [↓evs, evp, evq, evl, boxK, ↓a1_still, stillV, ↓af_still, ↓af_load, ↓af_store, ↓af_app, ↓af_new, ↓af_box, binV, AV.cells, Lb.loc.injEq, loadV, storeV, ldV, AV.stb, AV.one, IV.av1, Lb.app, Lb.fresh, reduceCtorEq, Bool.false_eq_true, ptrL, appL, fillA, chunks, ivs, AV.iv, mkE, if_false, if_true, List.not_mem_nil, forall_eq, Nat.reduceEqDiff, Nat.reduceLT, Nat.reduceLeDiff, Nat.reduceAdd, Nat.reduceMul, Int.reduceToNat, Int.reduceLE, Int.reduceLT, Int.le_refl, Int.toNat_zero, beq_self_eq_true, ivT_len]
  refine loop_row (σ := { i : Nat // i ≤ l.length }) 3 4 (fun q => [(7, .list (ivT l)), (8, .int .i64 l.length), (9, .int .i64 q.1)]) (fun q => ivT (joinA [] (l.take q.1))) (fun q => l.length - q.1) ⟨0, by simp⟩ (fun _ => rfl) ?_ ?_
  · simp only [WR_at, ↓evs, evp, evq, evl, boxK, ↓a1_still, stillV, ↓af_still, ↓af_load, ↓af_store, ↓af_app, ↓af_new, ↓af_box, binV, AV.cells, Lb.loc.injEq, loadV, storeV, ldV, AV.stb, AV.one, IV.av1, Lb.app, Lb.fresh, reduceCtorEq, Bool.false_eq_true, ptrL, appL, fillA, chunks, ivs, AV.iv, mkE, if_false, if_true, List.not_mem_nil, forall_eq, Nat.reduceEqDiff, Nat.reduceLT, Nat.reduceLeDiff, Nat.reduceAdd, Nat.reduceMul, Int.reduceToNat, Int.reduceLE, Int.reduceLT, Int.le_refl, Int.toNat_zero, beq_self_eq_true]
    exact ⟨rfl, 3, [], rfl, rfl, rfl⟩
  · rintro ⟨i, hi⟩
    have hw0 := wtT_joinA [] (l.take i)
    have hw1 := wtT_take l i
    have hw2 := wtT_len (joinA [] (l.take i))
    simp only [wtT] at hw0
    simp only [↓evs, evp, evq, evl, boxK, ↓a1_still, stillV, ↓af_still, ↓af_load, ↓af_store, ↓af_app, ↓af_new, ↓af_box, binV, AV.cells, Lb.loc.injEq, loadV, storeV, ldV, AV.stb, AV.one, IV.av1, Lb.app, Lb.fresh, reduceCtorEq, Bool.false_eq_true, ptrL, appL, fillA, chunks, ivs, AV.iv, mkE, if_false, if_true, List.not_mem_nil, forall_eq, Nat.reduceEqDiff, Nat.reduceLT, Nat.reduceLeDiff, Nat.reduceAdd, Nat.reduceMul, Int.reduceToNat, Int.reduceLE, Int.reduceLT, Int.le_refl, Int.toNat_zero, beq_self_eq_true, ivT_len]
    refine cK_b (fun h => ?_) (fun h => ?_)
    · have hlt : i < l.length := by simpa using h
      obtain ⟨x, hxi⟩ : ∃ x, l[i]? = some x := ⟨_, List.getElem?_eq_getElem hlt⟩
      have hw : IntKind.i64.wrap ((i : Int) + 1) = ((i + 1 : Nat) : Int) := wrap64 (by omega) (by unfold B at hx; omega)
      have hnext : joinA [] (l.take (i + 1)) = push (joinA [] (l.take i)) x.jn := by rw [List.take_add_one, hxi, joinA_app]; rfl
      simp only [↓evs, evp, evq, evl, boxK, ↓a1_still, stillV, ↓af_still, ↓af_load, ↓af_store, ↓af_app, ↓af_new, ↓af_box, binV, AV.cells, Lb.loc.injEq, loadV, storeV, ldV, AV.stb, AV.one, IV.av1, Lb.app, Lb.fresh, reduceCtorEq, Bool.false_eq_true, ptrL, appL, fillA, chunks, ivs, AV.iv, mkE, if_false, if_true, List.not_mem_nil, forall_eq, Nat.reduceEqDiff, Nat.reduceLT, Nat.reduceLeDiff, Nat.reduceAdd, Nat.reduceMul, Int.reduceToNat, Int.reduceLE, Int.reduceLT, Int.le_refl, Int.toNat_zero, beq_self_eq_true, h, hw, ivT_get, hxi, elszT, Tree.cells_eq, Tree.cs]
      generalize hout : joinA [] (l.take i) = out at *
      refine callT_pure (hJ x (List.mem_of_getElem? hxi)) ?_
      have hlen : (ivT out).length = out.length := ivT_len _
      have hivj : ivT (out ++ [x.jn]) = ivT out ++ [.agg [.bool x.text, .str x.s, .list (ivA x.attrs), .list (ivT (joined x.kids))]] := by
        rw [ivT_app]; simp [ivT, Tree.iv_eq, Tree.cs, x.jn_text, x.jn_s, x.jn_attrs, x.jn_kids]
      have next : ∀ (out' : List Tree) (env : Env) (H : Hp) (n : Nat), push out x.jn = out' → NF H → env 7 = .list (ivT l) → env 8 = .int .i64 l.length → env 9 = .int .i64 ((i + 1 : Nat) : Int) → env 3 = .sl (.loc n) 4 0 out'.length → H (.loc n) = .live ⟨4, immE (ivT out')⟩ →
          ∃ s : { i : Nat // i ≤ l.length }, l.length - s.1 < l.length - i ∧ WR 3 4 (fun q : { i : Nat // i ≤ l.length } => [(7, .list (ivT l)), (8, .int .i64 l.length), (9, .int .i64 q.1)]) (fun q => ivT (joinA [] (l.take q.1))) env H s := by
        intro out' env H n h1 h2 h3 h4 h5 h6 h7
        refine ⟨⟨i + 1, hlt⟩, by simp only; omega, ?_⟩
        rw [WR_at]
        simp only [EqI_cons, EqI_nil, and_true, hnext, h1, ivT_len]
        exact ⟨h2, ⟨h3, h4, h5⟩, n, _, h6, h7, rfl⟩
      simp only [↓evs, evp, evq, evl, boxK, ↓a1_still, stillV, ↓af_still, ↓af_load, ↓af_store, ↓af_app, ↓af_new, ↓af_box, binV, AV.cells, Lb.loc.injEq, loadV, storeV, ldV, AV.stb, AV.one, IV.av1, Lb.app, Lb.fresh, reduceCtorEq, Bool.false_eq_true, ptrL, appL, fillA, chunks, ivs, AV.iv, mkE, if_false, if_true, List.not_mem_nil, forall_eq, Nat.reduceEqDiff, Nat.reduceLT, Nat.reduceLeDiff, Nat.reduceAdd, Nat.reduceMul, Int.reduceToNat, Int.reduceLE, Int.reduceLT, Int.le_refl, Int.toNat_zero, beq_self_eq_true, ivT_len]
      cases ht : x.text with
      | false =>
        have hp : push out x.jn = out ++ [x.jn] := by unfold push; rw [x.jn_text, ht]; simp
        simp only [↓evs, evp, evq, evl, boxK, ↓a1_still, stillV, ↓af_still, ↓af_load, ↓af_store, ↓af_app, ↓af_new, ↓af_box, binV, AV.cells, Lb.loc.injEq, loadV, storeV, ldV, AV.stb, AV.one, IV.av1, Lb.app, Lb.fresh, reduceCtorEq, Bool.false_eq_true, ptrL, appL, fillA, chunks, ivs, AV.iv, mkE, if_false, if_true, List.not_mem_nil, forall_eq, Nat.reduceEqDiff, Nat.reduceLT, Nat.reduceLeDiff, Nat.reduceAdd, Nat.reduceMul, Int.reduceToNat, Int.reduceLE, Int.reduceLT, Int.le_refl, Int.toNat_zero, beq_self_eq_true, ivT_len]
        rw [app_loc 4 72 22 3 (ivT out) (.agg [.bool false, .str x.s, .list (ivA x.attrs), .list (ivT (joined x.kids))]) (by simp [upd_at]) hlen rfl (by simp [IV.cells]) (by unfold B at hx; omega) (by decide) (by decide) (by simp [upd_at, Hp.none])]
        simp only [↓evs, evp, evq, evl, boxK, ↓a1_still, stillV, ↓af_still, ↓af_load, ↓af_store, ↓af_app, ↓af_new, ↓af_box, binV, AV.cells, Lb.loc.injEq, loadV, storeV, ldV, AV.stb, AV.one, IV.av1, Lb.app, Lb.fresh, reduceCtorEq, Bool.false_eq_true, ptrL, appL, fillA, chunks, ivs, AV.iv, mkE, if_false, if_true, List.not_mem_nil, forall_eq, Nat.reduceEqDiff, Nat.reduceLT, Nat.reduceLeDiff, Nat.reduceAdd, Nat.reduceMul, Int.reduceToNat, Int.reduceLE, Int.reduceLT, Int.le_refl, Int.toNat_zero, beq_self_eq_true, hw]
        refine next _ _ _ 22 hp (by simp only [↓evs, evp, evq, evl, boxK, ↓a1_still, stillV, ↓af_still, ↓af_load, ↓af_store, ↓af_app, ↓af_new, ↓af_box, binV, AV.cells, Lb.loc.injEq, loadV, storeV, ldV, AV.stb, AV.one, IV.av1, Lb.app, Lb.fresh, reduceCtorEq, Bool.false_eq_true, ptrL, appL, fillA, chunks, ivs, AV.iv, mkE, if_false, if_true, List.not_mem_nil, forall_eq, Nat.reduceEqDiff, Nat.reduceLT, Nat.reduceLeDiff, Nat.reduceAdd, Nat.reduceMul, Int.reduceToNat, Int.reduceLE, Int.reduceLT, Int.le_refl, Int.toNat_zero, beq_self_eq_true]) rfl rfl rfl (by simp only [↓evs, evp, evq, evl, boxK, ↓a1_still, stillV, ↓af_still, ↓af_load, ↓af_store, ↓af_app, ↓af_new, ↓af_box, binV, AV.cells, Lb.loc.injEq, loadV, storeV, ldV, AV.stb, AV.one, IV.av1, Lb.app, Lb.fresh, reduceCtorEq, Bool.false_eq_true, ptrL, appL, fillA, chunks, ivs, AV.iv, mkE, if_false, if_true, List.not_mem_nil, forall_eq, Nat.reduceEqDiff, Nat.reduceLT, Nat.reduceLeDiff, Nat.reduceAdd, Nat.reduceMul, Int.reduceToNat, Int.reduceLE, Int.reduceLT, Int.le_refl, Int.toNat_zero, beq_self_eq_true]; simp) ?_
        rw [hivj, ht]; simp only [↓evs, evp, evq, evl, boxK, ↓a1_still, stillV, ↓af_still, ↓af_load, ↓af_store, ↓af_app, ↓af_new, ↓af_box, binV, AV.cells, Lb.loc.injEq, loadV, storeV, ldV, AV.stb, AV.one, IV.av1, Lb.app, Lb.fresh, reduceCtorEq, Bool.false_eq_true, ptrL, appL, fillA, chunks, ivs, AV.iv, mkE, if_false, if_true, List.not_mem_nil, forall_eq, Nat.reduceEqDiff, Nat.reduceLT, Nat.reduceLeDiff, Nat.reduceAdd, Nat.reduceMul, Int.reduceToNat, Int.reduceLE, Int.reduceLT, Int.le_refl, Int.toNat_zero, beq_self_eq_true]
      | true =>
        simp only [↓evs, evp, evq, evl, boxK, ↓a1_still, stillV, ↓af_still, ↓af_load, ↓af_store, ↓af_app, ↓af_new, ↓af_box, binV, AV.cells, Lb.loc.injEq, loadV, storeV, ldV, AV.stb, AV.one, IV.av1, Lb.app, Lb.fresh, reduceCtorEq, Bool.false_eq_true, ptrL, appL, fillA, chunks, ivs, AV.iv, mkE, if_false, if_true, List.not_mem_nil, forall_eq, Nat.reduceEqDiff, Nat.reduceLT, Nat.reduceLeDiff, Nat.reduceAdd, Nat.reduceMul, Int.reduceToNat, Int.reduceLE, Int.reduceLT, Int.le_refl, Int.toNat_zero, beq_self_eq_true, ivT_len]
        cases hs : (x.s == []) with
        | true =>
          have hp : push out x.jn = out := by unfold push; rw [x.jn_text, ht, x.jn_s, hs]; rfl
          simp only [↓evs, evp, evq, evl, boxK, ↓a1_still, stillV, ↓af_still, ↓af_load, ↓af_store, ↓af_app, ↓af_new, ↓af_box, binV, AV.cells, Lb.loc.injEq, loadV, storeV, ldV, AV.stb, AV.one, IV.av1, Lb.app, Lb.fresh, reduceCtorEq, Bool.false_eq_true, ptrL, appL, fillA, chunks, ivs, AV.iv, mkE, if_false, if_true, List.not_mem_nil, forall_eq, Nat.reduceEqDiff, Nat.reduceLT, Nat.reduceLeDiff, Nat.reduceAdd, Nat.reduceMul, Int.reduceToNat, Int.reduceLE, Int.reduceLT, Int.le_refl, Int.toNat_zero, beq_self_eq_true, hw]
          exact next _ _ _ 3 hp (by simp only [↓evs, evp, evq, evl, boxK, ↓a1_still, stillV, ↓af_still, ↓af_load, ↓af_store, ↓af_app, ↓af_new, ↓af_box, binV, AV.cells, Lb.loc.injEq, loadV, storeV, ldV, AV.stb, AV.one, IV.av1, Lb.app, Lb.fresh, reduceCtorEq, Bool.false_eq_true, ptrL, appL, fillA, chunks, ivs, AV.iv, mkE, if_false, if_true, List.not_mem_nil, forall_eq, Nat.reduceEqDiff, Nat.reduceLT, Nat.reduceLeDiff, Nat.reduceAdd, Nat.reduceMul, Int.reduceToNat, Int.reduceLE, Int.reduceLT, Int.le_refl, Int.toNat_zero, beq_self_eq_true]) rfl rfl rfl (by simp only [↓evs, evp, evq, evl, boxK, ↓a1_still, stillV, ↓af_still, ↓af_load, ↓af_store, ↓af_app, ↓af_new, ↓af_box, binV, AV.cells, Lb.loc.injEq, loadV, storeV, ldV, AV.stb, AV.one, IV.av1, Lb.app, Lb.fresh, reduceCtorEq, Bool.false_eq_true, ptrL, appL, fillA, chunks, ivs, AV.iv, mkE, if_false, if_true, List.not_mem_nil, forall_eq, Nat.reduceEqDiff, Nat.reduceLT, Nat.reduceLeDiff, Nat.reduceAdd, Nat.reduceMul, Int.reduceToNat, Int.reduceLE, Int.reduceLT, Int.le_refl, Int.toNat_zero, beq_self_eq_true, ivT_len]) rfl
        | false =>
          simp only [↓evs, evp, evq, evl, boxK, ↓a1_still, stillV, ↓af_still, ↓af_load, ↓af_store, ↓af_app, ↓af_new, ↓af_box, binV, AV.cells, Lb.loc.injEq, loadV, storeV, ldV, AV.stb, AV.one, IV.av1, Lb.app, Lb.fresh, reduceCtorEq, Bool.false_eq_true, ptrL, appL, fillA, chunks, ivs, AV.iv, mkE, if_false, if_true, List.not_mem_nil, forall_eq, Nat.reduceEqDiff, Nat.reduceLT, Nat.reduceLeDiff, Nat.reduceAdd, Nat.reduceMul, Int.reduceToNat, Int.reduceLE, Int.reduceLT, Int.le_refl, Int.toNat_zero, beq_self_eq_true]
          by_cases h0 : out = []
          · have hp : push out x.jn = out ++ [x.jn] := by unfold push; rw [x.jn_text, ht, x.jn_s, hs, h0]; rfl
            rw [show decide ((out.length : Int) > 0) = false by rw [h0]; rfl]
            simp only [↓evs, evp, evq, evl, boxK, ↓a1_still, stillV, ↓af_still, ↓af_load, ↓af_store, ↓af_app, ↓af_new, ↓af_box, binV, AV.cells, Lb.loc.injEq, loadV, storeV, ldV, AV.stb, AV.one, IV.av1, Lb.app, Lb.fresh, reduceCtorEq, Bool.false_eq_true, ptrL, appL, fillA, chunks, ivs, AV.iv, mkE, if_false, if_true, List.not_mem_nil, forall_eq, Nat.reduceEqDiff, Nat.reduceLT, Nat.reduceLeDiff, Nat.reduceAdd, Nat.reduceMul, Int.reduceToNat, Int.reduceLE, Int.reduceLT, Int.le_refl, Int.toNat_zero, beq_self_eq_true, ivT_len]
            rw [app_loc 4 72 22 3 (ivT out) (.agg [.bool true, .str x.s, .list (ivA x.attrs), .list (ivT (joined x.kids))]) (by simp [upd_at]) hlen rfl (by simp [IV.cells]) (by unfold B at hx; omega) (by decide) (by decide) (by simp [upd_at, Hp.none])]
            simp only [↓evs, evp, evq, evl, boxK, ↓a1_still, stillV, ↓af_still, ↓af_load, ↓af_store, ↓af_app, ↓af_new, ↓af_box, binV, AV.cells, Lb.loc.injEq, loadV, storeV, ldV, AV.stb, AV.one, IV.av1, Lb.app, Lb.fresh, reduceCtorEq, Bool.false_eq_true, ptrL, appL, fillA, chunks, ivs, AV.iv, mkE, if_false, if_true, List.not_mem_nil, forall_eq, Nat.reduceEqDiff, Nat.reduceLT, Nat.reduceLeDiff, Nat.reduceAdd, Nat.reduceMul, Int.reduceToNat, Int.reduceLE, Int.reduceLT, Int.le_refl, Int.toNat_zero, beq_self_eq_true, hw]
            refine next _ _ _ 22 hp (by simp only [↓evs, evp, evq, evl, boxK, ↓a1_still, stillV, ↓af_still, ↓af_load, ↓af_store, ↓af_app, ↓af_new, ↓af_box, binV, AV.cells, Lb.loc.injEq, loadV, storeV, ldV, AV.stb, AV.one, IV.av1, Lb.app, Lb.fresh, reduceCtorEq, Bool.false_eq_true, ptrL, appL, fillA, chunks, ivs, AV.iv, mkE, if_false, if_true, List.not_mem_nil, forall_eq, Nat.reduceEqDiff, Nat.reduceLT, Nat.reduceLeDiff, Nat.reduceAdd, Nat.reduceMul, Int.reduceToNat, Int.reduceLE, Int.reduceLT, Int.le_refl, Int.toNat_zero, beq_self_eq_true]) rfl rfl rfl (by simp only [↓evs, evp, evq, evl, boxK, ↓a1_still, stillV, ↓af_still, ↓af_load, ↓af_store, ↓af_app, ↓af_new, ↓af_box, binV, AV.cells, Lb.loc.injEq, loadV, storeV, ldV, AV.stb, AV.one, IV.av1, Lb.app, Lb.fresh, reduceCtorEq, Bool.false_eq_true, ptrL, appL, fillA, chunks, ivs, AV.iv, mkE, if_false, if_true, List.not_mem_nil, forall_eq, Nat.reduceEqDiff, Nat.reduceLT, Nat.reduceLeDiff, Nat.reduceAdd, Nat.reduceMul, Int.reduceToNat, Int.reduceLE, Int.reduceLT, Int.le_refl, Int.toNat_zero, beq_self_eq_true]; simp) ?_
            rw [hivj, ht]; simp only [↓evs, evp, evq, evl, boxK, ↓a1_still, stillV, ↓af_still, ↓af_load, ↓af_store, ↓af_app, ↓af_new, ↓af_box, binV, AV.cells, Lb.loc.injEq, loadV, storeV, ldV, AV.stb, AV.one, IV.av1, Lb.app, Lb.fresh, reduceCtorEq, Bool.false_eq_true, ptrL, appL, fillA, chunks, ivs, AV.iv, mkE, if_false, if_true, List.not_mem_nil, forall_eq, Nat.reduceEqDiff, Nat.reduceLT, Nat.reduceLeDiff, Nat.reduceAdd, Nat.reduceMul, Int.reduceToNat, Int.reduceLE, Int.reduceLT, Int.le_refl, Int.toNat_zero, beq_self_eq_true]
          · have hpos : 0 < out.length := List.length_pos_iff.2 h0
            obtain ⟨y, hy, hlast⟩ := lastT_get false out h0
            have hw3 : IntKind.i64.wrap ((out.length : Int) - 1) = ((out.length - 1 : Nat) : Int) := by rw [wrap64 (by omega) (by unfold B at hx; omega)]; omega
            have hget : (immE (ivT out))[out.length - 1]? = some [.bool y.text, .str y.s, .list (ivA y.attrs), .list (ivT y.kids)] := by rw [immE_get, ivT_get, hy]; simp [Tree.cells_eq, Tree.cs, IV.av1]
            have hlt2 : out.length - 1 < out.length := by omega
            rw [show decide ((out.length : Int) > 0) = true by simp; exact hpos]
            simp only [↓evs, evp, evq, evl, boxK, ↓a1_still, stillV, ↓af_still, ↓af_load, ↓af_store, ↓af_app, ↓af_new, ↓af_box, binV, AV.cells, Lb.loc.injEq, loadV, storeV, ldV, AV.stb, AV.one, IV.av1, Lb.app, Lb.fresh, reduceCtorEq, Bool.false_eq_true, ptrL, appL, fillA, chunks, ivs, AV.iv, mkE, if_false, if_true, List.not_mem_nil, forall_eq, Nat.reduceEqDiff, Nat.reduceLT, Nat.reduceLeDiff, Nat.reduceAdd, Nat.reduceMul, Int.reduceToNat, Int.reduceLE, Int.reduceLT, Int.le_refl, Int.toNat_zero, beq_self_eq_true, hw3, hlt2, hget, ivT_len]
            cases hyt : y.text with
            | false =>
              have hp : push out x.jn = out ++ [x.jn] := by unfold push; rw [x.jn_text, ht, x.jn_s, hs, hlast, hyt]; rfl
              simp only [↓evs, evp, evq, evl, boxK, ↓a1_still, stillV, ↓af_still, ↓af_load, ↓af_store, ↓af_app, ↓af_new, ↓af_box, binV, AV.cells, Lb.loc.injEq, loadV, storeV, ldV, AV.stb, AV.one, IV.av1, Lb.app, Lb.fresh, reduceCtorEq, Bool.false_eq_true, ptrL, appL, fillA, chunks, ivs, AV.iv, mkE, if_false, if_true, List.not_mem_nil, forall_eq, Nat.reduceEqDiff, Nat.reduceLT, Nat.reduceLeDiff, Nat.reduceAdd, Nat.reduceMul, Int.reduceToNat, Int.reduceLE, Int.reduceLT, Int.le_refl, Int.toNat_zero, beq_self_eq_true, ivT_len]
              rw [app_loc 4 72 22 3 (ivT out) (.agg [.bool true, .str x.s, .list (ivA x.attrs), .list (ivT (joined x.kids))]) (by simp [upd_at]) hlen rfl (by simp [IV.cells]) (by unfold B at hx; omega) (by decide) (by decide) (by simp [upd_at, Hp.none])]
              simp only [↓evs, evp, evq, evl, boxK, ↓a1_still, stillV, ↓af_still, ↓af_load, ↓af_store, ↓af_app, ↓af_new, ↓af_box, binV, AV.cells, Lb.loc.injEq, loadV, storeV, ldV, AV.stb, AV.one, IV.av1, Lb.app, Lb.fresh, reduceCtorEq, Bool.false_eq_true, ptrL, appL, fillA, chunks, ivs, AV.iv, mkE, if_false, if_true, List.not_mem_nil, forall_eq, Nat.reduceEqDiff, Nat.reduceLT, Nat.reduceLeDiff, Nat.reduceAdd, Nat.reduceMul, Int.reduceToNat, Int.reduceLE, Int.reduceLT, Int.le_refl, Int.toNat_zero, beq_self_eq_true, hw]
              refine next _ _ _ 22 hp (by simp only [↓evs, evp, evq, evl, boxK, ↓a1_still, stillV, ↓af_still, ↓af_load, ↓af_store, ↓af_app, ↓af_new, ↓af_box, binV, AV.cells, Lb.loc.injEq, loadV, storeV, ldV, AV.stb, AV.one, IV.av1, Lb.app, Lb.fresh, reduceCtorEq, Bool.false_eq_true, ptrL, appL, fillA, chunks, ivs, AV.iv, mkE, if_false, if_true, List.not_mem_nil, forall_eq, Nat.reduceEqDiff, Nat.reduceLT, Nat.reduceLeDiff, Nat.reduceAdd, Nat.reduceMul, Int.reduceToNat, Int.reduceLE, Int.reduceLT, Int.le_refl, Int.toNat_zero, beq_self_eq_true]) rfl rfl rfl (by simp only [↓evs, evp, evq, evl, boxK, ↓a1_still, stillV, ↓af_still, ↓af_load, ↓af_store, ↓af_app, ↓af_new, ↓af_box, binV, AV.cells, Lb.loc.injEq, loadV, storeV, ldV, AV.stb, AV.one, IV.av1, Lb.app, Lb.fresh, reduceCtorEq, Bool.false_eq_true, ptrL, appL, fillA, chunks, ivs, AV.iv, mkE, if_false, if_true, List.not_mem_nil, forall_eq, Nat.reduceEqDiff, Nat.reduceLT, Nat.reduceLeDiff, Nat.reduceAdd, Nat.reduceMul, Int.reduceToNat, Int.reduceLE, Int.reduceLT, Int.le_refl, Int.toNat_zero, beq_self_eq_true]; simp) ?_
              rw [hivj, ht]; simp only [↓evs, evp, evq, evl, boxK, ↓a1_still, stillV, ↓af_still, ↓af_load, ↓af_store, ↓af_app, ↓af_new, ↓af_box, binV, AV.cells, Lb.loc.injEq, loadV, storeV, ldV, AV.stb, AV.one, IV.av1, Lb.app, Lb.fresh, reduceCtorEq, Bool.false_eq_true, ptrL, appL, fillA, chunks, ivs, AV.iv, mkE, if_false, if_true, List.not_mem_nil, forall_eq, Nat.reduceEqDiff, Nat.reduceLT, Nat.reduceLeDiff, Nat.reduceAdd, Nat.reduceMul, Int.reduceToNat, Int.reduceLE, Int.reduceLT, Int.le_refl, Int.toNat_zero, beq_self_eq_true]
            | true =>
              have hp : push out x.jn = grow x.s out := by unfold push; rw [x.jn_text, ht, x.jn_s, hs, hlast, hyt]; rfl
              have hg := grow_eq x.s out y hy
              simp only [↓evs, evp, evq, evl, boxK, ↓a1_still, stillV, ↓af_still, ↓af_load, ↓af_store, ↓af_app, ↓af_new, ↓af_box, binV, AV.cells, Lb.loc.injEq, loadV, storeV, ldV, AV.stb, AV.one, IV.av1, Lb.app, Lb.fresh, reduceCtorEq, Bool.false_eq_true, ptrL, appL, fillA, chunks, ivs, AV.iv, mkE, if_false, if_true, List.not_mem_nil, forall_eq, Nat.reduceEqDiff, Nat.reduceLT, Nat.reduceLeDiff, Nat.reduceAdd, Nat.reduceMul, Int.reduceToNat, Int.reduceLE, Int.reduceLT, Int.le_refl, Int.toNat_zero, beq_self_eq_true, hw3, hlt2, hget, ivT_len, hyt]
              refine ⟨rfl, ?_⟩
              have hadd : y.s.length + x.s.length ≤ 9223372036854775807 := by
                have h1 := wtT_get _ _ _ hy
                have h2 := y.wt_eq
                have h3 := wtT_get _ _ _ hxi
                have h4 := x.wt_eq
                unfold B at hx; omega
              simp only [↓evs, evp, evq, evl, boxK, ↓a1_still, stillV, ↓af_still, ↓af_load, ↓af_store, ↓af_app, ↓af_new, ↓af_box, binV, AV.cells, Lb.loc.injEq, loadV, storeV, ldV, AV.stb, AV.one, IV.av1, Lb.app, Lb.fresh, reduceCtorEq, Bool.false_eq_true, ptrL, appL, fillA, chunks, ivs, AV.iv, mkE, if_false, if_true, List.not_mem_nil, forall_eq, Nat.reduceEqDiff, Nat.reduceLT, Nat.reduceLeDiff, Nat.reduceAdd, Nat.reduceMul, Int.reduceToNat, Int.reduceLE, Int.reduceLT, Int.le_refl, Int.toNat_zero, beq_self_eq_true, hadd, hw3, hlt2, hget, ivT_len, hyt, immE_len, hw]
              refine next (grow x.s out) _ _ 3 hp (by simp only [↓evs, evp, evq, evl, boxK, ↓a1_still, stillV, ↓af_still, ↓af_load, ↓af_store, ↓af_app, ↓af_new, ↓af_box, binV, AV.cells, Lb.loc.injEq, loadV, storeV, ldV, AV.stb, AV.one, IV.av1, Lb.app, Lb.fresh, reduceCtorEq, Bool.false_eq_true, ptrL, appL, fillA, chunks, ivs, AV.iv, mkE, if_false, if_true, List.not_mem_nil, forall_eq, Nat.reduceEqDiff, Nat.reduceLT, Nat.reduceLeDiff, Nat.reduceAdd, Nat.reduceMul, Int.reduceToNat, Int.reduceLE, Int.reduceLT, Int.le_refl, Int.toNat_zero, beq_self_eq_true]) rfl rfl rfl (by simp only [↓evs, evp, evq, evl, boxK, ↓a1_still, stillV, ↓af_still, ↓af_load, ↓af_store, ↓af_app, ↓af_new, ↓af_box, binV, AV.cells, Lb.loc.injEq, loadV, storeV, ldV, AV.stb, AV.one, IV.av1, Lb.app, Lb.fresh, reduceCtorEq, Bool.false_eq_true, ptrL, appL, fillA, chunks, ivs, AV.iv, mkE, if_false, if_true, List.not_mem_nil, forall_eq, Nat.reduceEqDiff, Nat.reduceLT, Nat.reduceLeDiff, Nat.reduceAdd, Nat.reduceMul, Int.reduceToNat, Int.reduceLE, Int.reduceLT, Int.le_refl, Int.toNat_zero, beq_self_eq_true, ivT_len, grow_len]) ?_
              have hiv : (y.withS (y.s ++ x.s)).iv.cells.map IV.av1 = [.bool true, .str (y.s ++ x.s), .list (ivA y.attrs), .list (ivT y.kids)] := by
                rw [Tree.cells_eq, Tree.cs_av]; simp [Tree.withS, Tree.text, Tree.s, Tree.attrs, Tree.kids]; rw [← hyt]; rfl
              simp only [↓evs, evp, evq, evl, boxK, ↓a1_still, stillV, ↓af_still, ↓af_load, ↓af_store, ↓af_app, ↓af_new, ↓af_box, binV, AV.cells, Lb.loc.injEq, loadV, storeV, ldV, AV.stb, AV.one, IV.av1, Lb.app, Lb.fresh, reduceCtorEq, Bool.false_eq_true, ptrL, appL, fillA, chunks, ivs, AV.iv, mkE, if_false, if_true, List.not_mem_nil, forall_eq, Nat.reduceEqDiff, Nat.reduceLT, Nat.reduceLeDiff, Nat.reduceAdd, Nat.reduceMul, Int.reduceToNat, Int.reduceLE, Int.reduceLT, Int.le_refl, Int.toNat_zero, beq_self_eq_true]
              have hset : ivT (out.set (out.length - 1) (y.withS (y.s ++ x.s))) = (ivT out).set (out.length - 1) (y.withS (y.s ++ x.s)).iv := by rw [ivT_map, ivT_map, List.map_set]
              rw [hg, hset, ← immE_set, hiv]
    · simp only [↓evs, evp, evq, evl, boxK, ↓a1_still, stillV, ↓af_still, ↓af_load, ↓af_store, ↓af_app, ↓af_new, ↓af_box, binV, AV.cells, Lb.loc.injEq, loadV, storeV, ldV, AV.stb, AV.one, IV.av1, Lb.app, Lb.fresh, reduceCtorEq, Bool.false_eq_true, ptrL, appL, fillA, chunks, ivs, AV.iv, mkE, if_false, if_true, List.not_mem_nil, forall_eq, Nat.reduceEqDiff, Nat.reduceLT, Nat.reduceLeDiff, Nat.reduceAdd, Nat.reduceMul, Int.reduceToNat, Int.reduceLE, Int.reduceLT, Int.le_refl, Int.toNat_zero, beq_self_eq_true, h]
      refine ⟨4, ivT (joinA [] (l.take i)), 0, _, rfl, rfl, by rw [ivT_len]; omega, flatT _, ?_⟩
      have hil : i = l.length := by simp at h; omega
      subst hil
      simp only [joined, List.take_length, List.drop_zero, ivT_len]
      congr 1
      exact List.take_of_length_le (by rw [ivT_len]; exact Nat.le_refl _)

end Go.Am
