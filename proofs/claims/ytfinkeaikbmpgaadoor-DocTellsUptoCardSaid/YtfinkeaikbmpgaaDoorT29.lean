import Derived.Test.YtfinkeaikbmpgaaDoorKAm37
set_option linter.unusedSimpArgs false
set_option linter.unusedVariables false
set_option linter.unnecessarySimpa false
set_option linter.defProp false
/- The tree at a place, by parents. -/
namespace Go.Am
open Go Go.RowKit
theorem parPos_bound (m : Int) (j : Nat) (a : List Node) (k : Nat) (h : k ∈ parPos m j a) : j ≤ k ∧ k < j + a.length := by
  obtain ⟨h1, x, h2, _⟩ := (parPos_mem m j a k).1 h
  have := (List.getElem?_eq_some_iff.1 h2).1
  omega
theorem parPos_len (m : Int) : ∀ (j : Nat) (a : List Node), (parPos m j a).length ≤ a.length
  | j, [] => by simp [parPos]
  | j, x :: r => by
    have := parPos_len m (j + 1) r
    simp only [parPos, List.length_append, List.length_cons]
    split <;> simp <;> omega
theorem treeOfN_fuel (d : Doc) : ∀ (f g n : Nat), d.length - n ≤ f → d.length - n ≤ g → treeOfN d f n = treeOfN d g n
  | 0, 0, n, _, _ => rfl
  | 0, g + 1, n, h, _ => by
    have : d[n]? = none := List.getElem?_eq_none (by omega)
    simp [treeOfN, this]
  | f + 1, 0, n, _, h => by
    have : d[n]? = none := List.getElem?_eq_none (by omega)
    simp [treeOfN, this]
  | f + 1, g + 1, n, h1, h2 => by
    simp only [treeOfN]
    cases hx : d[n]? with
    | none => rfl
    | some x =>
      simp only
      congr 1
      refine List.map_congr_left fun k hk => ?_
      have := parPos_bound _ _ _ _ hk
      exact treeOfN_fuel d f g k (by omega) (by omega)
/-- The tree at a node. -/
def treeN (d : Doc) (n : Nat) : Tree := treeOfN d d.length n
theorem treeN_eq {d : Doc} {n : Nat} {x : Node} (hx : d[n]? = some x) : treeN d n = .mk x.text x.s x.attrs ((parPos n (n + 1) (d.drop (n + 1))).map (treeN d)) := by
  have hlt := (List.getElem?_eq_some_iff.1 hx).1
  obtain ⟨f, hf⟩ : ∃ f, d.length = f + 1 := ⟨d.length - 1, by omega⟩
  unfold treeN
  rw [hf, treeOfN, hx]
  simp only
  congr 1
  refine List.map_congr_left fun k hk => ?_
  have := parPos_bound _ _ _ _ hk
  rw [List.length_drop] at this
  exact treeOfN_fuel d f (f + 1) k (by omega) (by omega)
def sumP (T : Nat → Nat) (p : Int → Bool) : Nat → List Node → Nat
  | _, [] => 0
  | j, x :: r => (if p x.parent then T j else 0) + sumP T p (j + 1) r
def Node.wt0 (x : Node) : Nat := 1 + x.s.length + wtA x.attrs
def wtN0 : List Node → Nat
  | [] => 0
  | x :: r => x.wt0 + wtN0 r
theorem sumP_split (T : Nat → Nat) (j : Nat) : ∀ (i : Nat) (l : List Node), sumP T (fun p => decide (p < ((j + 1 : Nat) : Int))) i l = sumP T (fun p => decide (p < (j : Int))) i l + sumP T (fun p => decide (p = (j : Int))) i l
  | i, [] => rfl
  | i, x :: r => by
    have ih := sumP_split T j (i + 1) r
    simp only [sumP, ih]
    by_cases h1 : x.parent < (j : Int)
    · rw [if_pos (by simp; omega), if_pos (by simpa using h1), if_neg (by simp; omega)]; omega
    · by_cases h2 : x.parent = (j : Int)
      · rw [if_pos (by simp; omega), if_neg (by simpa using h1), if_pos (by simpa using h2)]; omega
      · rw [if_neg (by simp; omega), if_neg (by simpa using h1), if_neg (by simpa using h2)]; omega
theorem sumP_all (T : Nat → Nat) : ∀ (l : List Node) (j : Nat), (∀ k x, l[k]? = some x → x.parent < ((j + k : Nat) : Int)) →
    (∀ k x, l[k]? = some x → T (j + k) = x.wt0 + sumP T (fun p => decide (p = ((j + k : Nat) : Int))) (j + k + 1) (l.drop (k + 1))) → sumP T (fun p => decide (p < (j : Int))) j l = wtN0 l
  | [], j, _, _ => rfl
  | x :: r, j, h1, h2 => by
    have a1 := h1 0 x rfl
    have a2 := h2 0 x rfl
    have ih := sumP_all T r (j + 1) (fun k y hk => by have := h1 (k + 1) y (by simpa using hk); rw [show j + 1 + k = j + (k + 1) by omega]; exact this)
      (fun k y hk => by have := h2 (k + 1) y (by simpa using hk); rw [show j + 1 + k = j + (k + 1) by omega]; simpa using this)
    rw [sumP_split] at ih
    simp only [sumP, wtN0, Nat.add_zero, List.drop_succ_cons, List.drop_zero] at a1 a2 ⊢
    rw [if_pos (by simpa using a1), a2]
    omega
theorem sumP_map (T : Nat → Tree) (m : Int) : ∀ (j : Nat) (l : List Node), sumP (fun k => (T k).wt) (fun p => decide (p = m)) j l = wtT ((parPos m j l).map T)
  | j, [] => by simp [sumP, parPos, wtT]
  | j, x :: r => by
    have ih := sumP_map T m (j + 1) r
    simp only [sumP, parPos, List.map_append, wtT_app, ih]
    by_cases h : x.parent = m
    · rw [if_pos (by simpa using h), if_pos h]; simp [wtT]
    · rw [if_neg (by simpa using h), if_neg h]; simp [wtT]
theorem wtN0_le : ∀ d : List Node, wtN0 d ≤ wtN d
  | [] => Nat.le_refl _
  | x :: r => by have := wtN0_le r; simp only [wtN0, wtN, Node.wt0, Node.wt]; omega
theorem treeN_wt {d : Doc} (hp : ∀ (k : Nat) (x : Node), d[k]? = some x → x.parent < (k : Int)) (h : 0 < d.length) : (treeN d 0).wt ≤ wtN d := by
  have hall := sumP_all (fun k => (treeN d k).wt) d 0 (fun k x hk => by simpa using hp k x hk) (fun k x hk => by
    simp only [Nat.zero_add]
    rw [treeN_eq hk, Tree.wt_eq, sumP_map]
    rfl)
  have hle := wtN0_le d
  cases d with
  | nil => simp at h
  | cons x r =>
    simp only [sumP] at hall
    have := hp 0 x rfl
    rw [if_pos (by simpa using this)] at hall
    omega
def c_topiaryref_treeOf (f_topiaryref_treeOf : Nat) : AC :=
(.seq (.reg [⟨(some 2), none, (.box (.t 0))⟩, ⟨(some 4), none, (.new [(.bool false), (.str []), .nil0, .nil0])⟩]) (.seq (.reg [⟨(some 8), none, (.fld (.t 2) 0)⟩, ⟨(some 9), none, (.load none (.t 8))⟩, ⟨(some 10), none, (.mov (.t 1))⟩, ⟨(some 11), none, (.ixa (.t 9) (.t 10) 5)⟩, ⟨(some 12), none, (.load (some 5) (.t 11))⟩, ⟨(some 5), none, (.new [(.bool false), (.str []), .nil0, (.int .i64 0), .nil0])⟩, ⟨none, none, (.store 5 (.t 5) (.t 12))⟩]) (.seq (.dreg [⟨(some 13), none, (.fld (.t 5) 0)⟩, ⟨(some 14), none, (.load none (.t 13))⟩, ⟨(some 15), none, (.fld (.t 5) 1)⟩, ⟨(some 16), none, (.load none (.t 15))⟩, ⟨(some 17), none, (.fld (.t 5) 2)⟩, ⟨(some 18), none, (.load none (.t 17))⟩, ⟨(some 19), none, (.app (.c .nil0) (.t 18) 2 32)⟩, ⟨(some 20), none, (.bld [(.bool false), (.str []), .nil0, .nil0] [(0, (1, (.t 14))), (1, (1, (.t 16))), (2, (1, (.t 19)))])⟩, ⟨(some 6), none, (.new [(.bool false), (.str []), .nil0, .nil0])⟩, ⟨none, none, (.store 4 (.t 6) (.t 20))⟩] [[], [0], [], [2], [], [4], [5], [1, 3, 6], [], [8, 7, 6, 0, 1, 2, 3, 4, 5, 6, 7, 8]] [.no, .rw [.loc 5] [], .no, .rw [.loc 5] [], .no, .rw [.loc 5] [], .rw [] [.loc 19], .no, .rw [] [.loc 6], .rw [] [.loc 6]]) (.seq (.gh .weak (.seq (.reg [⟨(some 21), none, (.mov (.t 1))⟩, ⟨(some 22), none, (.bin .add (.t 21) (.c (.int .i64 1)))⟩, ⟨(some 7), none, (.mov (.t 22))⟩]) (.block 0 (.loop (.seq (.seq (.reg [⟨(some 23), none, (.mov (.t 7))⟩, ⟨(some 24), none, (.fld (.t 2) 0)⟩, ⟨(some 25), none, (.load none (.t 24))⟩, ⟨(some 26), none, (.len (.t 25))⟩, ⟨(some 27), none, (.bin .lss (.t 23) (.t 26))⟩]) (.cond (.t 27) .skip (.exit 0))) (.seq (.block 1 (.seq (.reg [⟨(some 30), none, (.fld (.t 2) 0)⟩, ⟨(some 31), none, (.load none (.t 30))⟩, ⟨(some 32), none, (.mov (.t 7))⟩, ⟨(some 33), none, (.ixa (.t 31) (.t 32) 5)⟩, ⟨(some 34), none, (.fld (.t 33) 3)⟩, ⟨(some 35), none, (.load none (.t 34))⟩, ⟨(some 36), none, (.mov (.t 1))⟩, ⟨(some 37), none, (.bin .eql (.t 35) (.t 36))⟩]) (.cond (.t 37) (.dreg [⟨(some 38), none, (.fld (.t 6) 3)⟩, ⟨(some 39), none, (.load none (.t 38))⟩, ⟨(some 40), none, (.load (some 1) (.t 2))⟩, ⟨(some 41), none, (.mov (.t 7))⟩, ⟨(some 42), none, (.call f_topiaryref_treeOf [(.t 40), (.t 41)])⟩, ⟨(some 43), none, (.lits 1 4 [(.bool false), (.str []), .nil0, .nil0] [(0, (.t 42))])⟩, ⟨(some 44), none, (.app (.t 39) (.t 43) 4 72)⟩, ⟨(some 45), none, (.fld (.t 6) 3)⟩, ⟨none, none, (.store 1 (.t 45) (.t 44))⟩] [[], [0], [], [], [2, 3], [4], [1, 5, 4], [0, 1, 2, 3, 4, 5, 6], [7, 6, 6, 0, 1, 2, 3, 4, 5, 6]] [.no, .rw [.loc 6] [], .rw [.loc 2] [], .no, .no, .no, (.rw [] [.loc 1000, .loc 44]), .no, .rw [] [.loc 6]]) .skip))) (.reg [⟨(some 28), none, (.mov (.t 7))⟩, ⟨(some 29), none, (.bin .add (.t 28) (.c (.int .i64 1)))⟩, ⟨(some 7), none, (.mov (.t 29))⟩]))))))) (.gh (.frzc (.loc 1000) (.loc 6) 3) (.seq (.reg [⟨(some 46), none, (.load (some 4) (.t 6))⟩, ⟨none, none, (.store 4 (.t 4) (.t 46))⟩]) .ret))))))
theorem frz1_spec {l : Lb} {sz : Nat} {xs : List IV} {H : Hp} (h1 : H l = .live ⟨sz, immE xs⟩) (h2 : l.fresh = true) (h3 : Flat xs) :
    ∀ q s ys, (fun p : Lb => if p = l then some (sz, xs) else none) q = some (s, ys) → H q = .live ⟨s, immE ys⟩ ∧ q.fresh = true ∧ Flat ys := by
  intro q s ys hq
  simp only at hq
  split at hq
  · rename_i e; subst e
    simp only [Option.some.injEq, Prod.mk.injEq] at hq
    obtain ⟨rfl, rfl⟩ := hq
    exact ⟨h1, h2, h3⟩
  · cases hq
theorem parPos_take (m : Int) (j : Nat) (l : List Node) (i : Nat) (x : Node) (h : l[i]? = some x) : parPos m j (l.take (i + 1)) = parPos m j (l.take i) ++ (if x.parent = m then [j + i] else []) := by
  have hlt := (List.getElem?_eq_some_iff.1 h).1
  rw [List.take_add_one, h, parPos_app]
  simp only [Option.toList_some, parPos, List.append_nil, List.length_take]
  rw [Nat.min_eq_left (by omega)]
theorem pTreeOf {P : Program} {G : Nat → Option (List IV)} {f_topiaryref_treeOf : Nat} (hF : compF P G f_topiaryref_treeOf = some (47, [((some (some 4)), 4)], (c_topiaryref_treeOf f_topiaryref_treeOf).bare)) (d : Doc) (hd : wtN d ≤ B) (n : Nat) (hn : n < d.length)
    (hK : ∀ k, n < k → k < d.length → PureC P G f_topiaryref_treeOf [Doc.av d, .int .i64 (k : Int)] (treeN d k).av) : PureC P G f_topiaryref_treeOf [Doc.av d, .int .i64 (n : Int)] (treeN d n).av := by
  refine pure_of_goN hF (by simp) (by simp [lbss, AV.lbs, Doc.av]) (by simp [AV.lbs, lbss, Tree.av]) ?_
  have hBv : B = 1073741824 := rfl
  have hdl := wtN_len d
  obtain ⟨x, hx⟩ : ∃ x, d[n]? = some x := ⟨_, List.getElem?_eq_getElem hn⟩
  have hxw := wtN_mem (List.mem_of_getElem? hx)
  have hal := wtA_len x.attrs
  simp only [Node.wt] at hxw
  unfold c_topiaryref_treeOf
  have hw1 : IntKind.i64.wrap ((n : Int) + 1) = ((n + 1 : Nat) : Int) := wrap64 (by omega) (by omega)
  simp only [↓aX, evp, evq, evl, boxK, stillV, binV, AV.cells, mP, loadV, storeV, ldV, AV.stb, AV.one, IV.av1, Lb.app, Lb.fresh, reduceCtorEq, ptrL, appL, fillA, chunks, ivs, AV.iv, mkE, if_false, if_true, List.not_mem_nil, forall_eq, beq_self_eq_true, List.isEmpty_nil, Nat.reduceEqDiff, Nat.reduceLT, Nat.reduceLeDiff, Nat.reduceAdd, Nat.reduceMul, Int.reduceToNat, Int.reduceLE, Int.reduceLT, Doc.av, List.length_map, Doc.get_iv hx, elszN, Node.cells_eq, Node.cs]
  rw [app_nil' 2 32 19 (ivA x.attrs) (elszA _) (flatA _) (by rw [ivA_len]; omega) (by decide) (by simp [upd_at, Hp.none])]
  simp only [↓aX, evp, evq, evl, boxK, stillV, binV, AV.cells, mP, loadV, storeV, ldV, AV.stb, AV.one, IV.av1, Lb.app, Lb.fresh, reduceCtorEq, ptrL, appL, fillA, chunks, ivs, AV.iv, mkE, if_false, if_true, List.not_mem_nil, forall_eq, beq_self_eq_true, List.isEmpty_nil, Nat.reduceEqDiff, Nat.reduceLT, Nat.reduceLeDiff, Nat.reduceAdd, Nat.reduceMul, Int.reduceToNat, Int.reduceLE, Int.reduceLT]
  refine ⟨rfl, ?_⟩
  rw [go_weak]
  refine ⟨_, _, (weaker_fzU (fun p : Lb => if p = .loc 19 then some (2, ivA x.attrs) else none)
        [(1, .int .i64 n), (2, .ptr (.loc 2) 1 0 0), (4, .ptr (.loc 4) 4 0 0), (6, .ptr (.loc 6) 4 0 0)]
        [(.loc 2, ⟨1, [[.list (d.map Node.iv)]]⟩), (.loc 4, ⟨4, [[.bool false, .str [], .nil0, .nil0]]⟩), (.loc 6, ⟨4, [[.bool x.text, .str x.s, .list (ivA x.attrs), .nil0]]⟩)] []
        (frz1_spec (by simp [upd_at]) rfl (flatA _)) ?_ ?_ ?_).trans (weaker_ownc (q := .loc 6) (cs := [.bool x.text, .str x.s, .list (ivA x.attrs), .nil0]) (j := 3) (d := 1000) (sz := 4) rfl rfl rfl (by decide)), ?_⟩
  · simp [lbss, AV.lbs]
  · rintro r hr cs hcs l hl
    simp only [List.mem_cons, List.not_mem_nil, or_false] at hr
    rcases hr with rfl | rfl | rfl <;> (simp only [List.mem_singleton] at hcs; subst hcs; simp [lbss, AV.lbs] at hl)
  · refine ⟨?_, ?_, ?_, by simp [rnF], fun l hl => ⟨id, fun _ => rfl⟩⟩
    · intro l hf hu
      exfalso; apply hu
      cases l <;> simp_all [Lb.fresh, upd_at, Hp.none, fzH]
    · simp [EqL, rnF, ren, put, fzV, argE]
    · simp [RwL, rnF, fzH, upd_at, renR, rens, ren, fzVs, fzV, ivA_len]
      exact List.take_of_length_le (by simp [ivA_len])
  · rw [ofU_f]
    simp only [↓aX, evp, evq, evl, boxK, stillV, binV, AV.cells, mP, loadV, storeV, ldV, AV.stb, AV.one, IV.av1, Lb.app, Lb.fresh, reduceCtorEq, ptrL, appL, fillA, chunks, ivs, AV.iv, mkE, if_false, if_true, List.not_mem_nil, forall_eq, beq_self_eq_true, List.isEmpty_nil, Nat.reduceEqDiff, Nat.reduceLT, Nat.reduceLeDiff, Nat.reduceAdd, Nat.reduceMul, Int.reduceToNat, Int.reduceLE, Int.reduceLT, ofH_nil, ofH_cons, hw1]
    have hkl : ∀ i, i ≤ d.length - (n + 1) → ((parPos n (n + 1) ((d.drop (n + 1)).take i)).map (treeN d)).length ≤ i := fun i hi => by
      rw [List.length_map]
      refine Nat.le_trans (parPos_len _ _ _) ?_
      rw [List.length_take]; omega
    refine loop_used (σ := { i : Nat // i ≤ d.length - (n + 1) }) (fun _ => [.loc 2, .loc 4, .loc 6, .loc 1000]) (fun _ _ => false)
      (fun q => [(1, .int .i64 n), (2, .ptr (.loc 2) 1 0 0), (4, .ptr (.loc 4) 4 0 0), (6, .ptr (.loc 6) 4 0 0), (7, .int .i64 ((n + 1 + q.1 : Nat) : Int))])
      (fun q => [(.loc 2, ⟨1, [[.list (d.map Node.iv)]]⟩), (.loc 4, ⟨4, [[.bool false, .str [], .nil0, .nil0]]⟩), (.loc 6, ⟨4, [[.bool x.text, .str x.s, .list (ivA x.attrs), .sl (.loc 1000) 4 0 ((parPos n (n + 1) ((d.drop (n + 1)).take q.1)).map (treeN d)).length]]⟩),
        (.loc 1000, ⟨4, immE (ivT ((parPos n (n + 1) ((d.drop (n + 1)).take q.1)).map (treeN d)))⟩)])
      (fun q => d.length - q.1) ⟨0, Nat.zero_le _⟩ (fun _ => rfl) (fun q => by simp [lbss, AV.lbs]) ?_ ⟨[], ?_⟩ ?_
    · rintro q r hr cs hcs l hl
      simp only [List.mem_cons, List.not_mem_nil, or_false] at hr
      rcases hr with rfl | rfl | rfl | rfl
      · simp only [List.mem_singleton] at hcs; subst hcs; simp [lbss, AV.lbs] at hl
      · simp only [List.mem_singleton] at hcs; subst hcs; simp [lbss, AV.lbs] at hl
      · simp only [List.mem_singleton] at hcs; subst hcs; simp [lbss, AV.lbs] at hl; subst hl; simp
      · rw [lbss_immE hcs] at hl; simp at hl
    · refine ⟨?_, ?_, ?_, by simp [rnF], fun l _ => ⟨id, fun _ => rfl⟩⟩
      · intro l hf hu
        exfalso; apply hu
        cases l <;> simp_all [Lb.fresh, upd_at, Hp.none]
      · simp [EqL, rnF, ren, put]
      · simp [RwL, rnF, upd_at, renR, rens, ren, immE, parPos, ivT]
    · rintro ⟨i, hi⟩
      rw [ofU_f]
      simp only [↓aX, evp, evq, evl, boxK, stillV, binV, AV.cells, mP, loadV, storeV, ldV, AV.stb, AV.one, IV.av1, Lb.app, Lb.fresh, reduceCtorEq, ptrL, appL, fillA, chunks, ivs, AV.iv, mkE, if_false, if_true, List.not_mem_nil, forall_eq, beq_self_eq_true, List.isEmpty_nil, Nat.reduceEqDiff, Nat.reduceLT, Nat.reduceLeDiff, Nat.reduceAdd, Nat.reduceMul, Int.reduceToNat, Int.reduceLE, Int.reduceLT, ofH_nil, ofH_cons, List.length_map]
      have hbl := hkl i hi
      by_cases hlt : n + 1 + i < d.length
      · rw [show decide (((n + 1 + i : Nat) : Int) < (d.length : Int)) = true by rw [decide_eq_true_eq]; omega]
        obtain ⟨y, hy⟩ : ∃ y, d[n + 1 + i]? = some y := ⟨_, List.getElem?_eq_getElem hlt⟩
        have hyd : (d.drop (n + 1))[i]? = some y := by rw [List.getElem?_drop]; exact hy
        have hw : IntKind.i64.wrap (((n + 1 + i : Nat) : Int) + 1) = ((n + 1 + (i + 1) : Nat) : Int) := by rw [wrap64 (by omega) (by omega)]; omega
        have hnext := parPos_take n (n + 1) (d.drop (n + 1)) i y hyd
        have hr : ∀ (ρ : Lb → Lb) (xs : List IV), renR ρ ⟨4, immE xs⟩ = ⟨4, immE xs⟩ := fun ρ xs => renR_immE _ _ _
        simp only [↓aX, evp, evq, evl, boxK, stillV, binV, AV.cells, mP, loadV, storeV, ldV, AV.stb, AV.one, IV.av1, Lb.app, Lb.fresh, reduceCtorEq, ptrL, appL, fillA, chunks, ivs, AV.iv, mkE, if_false, if_true, List.not_mem_nil, forall_eq, beq_self_eq_true, List.isEmpty_nil, Nat.reduceEqDiff, Nat.reduceLT, Nat.reduceLeDiff, Nat.reduceAdd, Nat.reduceMul, Int.reduceToNat, Int.reduceLE, Int.reduceLT, Doc.get_iv hy, elszN, Node.cells_eq, Node.cs]
        cases hpn : (y.parent == (n : Int)) with
        | false =>
          have hne : ¬ y.parent = (n : Int) := by simpa using hpn
          rw [if_neg hne, List.append_nil] at hnext
          simp only [↓aX, evp, evq, evl, boxK, stillV, binV, AV.cells, mP, loadV, storeV, ldV, AV.stb, AV.one, IV.av1, Lb.app, Lb.fresh, reduceCtorEq, ptrL, appL, fillA, chunks, ivs, AV.iv, mkE, if_false, if_true, List.not_mem_nil, forall_eq, beq_self_eq_true, List.isEmpty_nil, Nat.reduceEqDiff, Nat.reduceLT, Nat.reduceLeDiff, Nat.reduceAdd, Nat.reduceMul, Int.reduceToNat, Int.reduceLE, Int.reduceLT, hw]
          refine ⟨⟨i + 1, by omega⟩, by simp only; omega, [], ?_⟩
          refine ⟨?_, ?_, ?_, by simp [rnF], fun l _ => ⟨id, fun _ => rfl⟩⟩
          · intro l hf hu
            exfalso; apply hu
            cases l <;> simp_all [Lb.fresh, upd_at, Hp.none]
          · simp [EqL, rnF, ren, put]
          · simp only [RwL, hr, hnext]
            simp [rnF, upd_at, renR, rens, ren]
        | true =>
          have he : y.parent = (n : Int) := by simpa using hpn
          rw [if_pos he] at hnext
          simp only [↓aX, evp, evq, evl, boxK, stillV, binV, AV.cells, mP, loadV, storeV, ldV, AV.stb, AV.one, IV.av1, Lb.app, Lb.fresh, reduceCtorEq, ptrL, appL, fillA, chunks, ivs, AV.iv, mkE, if_false, if_true, List.not_mem_nil, forall_eq, beq_self_eq_true, List.isEmpty_nil, Nat.reduceEqDiff, Nat.reduceLT, Nat.reduceLeDiff, Nat.reduceAdd, Nat.reduceMul, Int.reduceToNat, Int.reduceLE, Int.reduceLT]
          refine ⟨rfl, puK_in (hK (n + 1 + i) (by omega) hlt) ?_⟩
          simp only [↓aX, evp, evq, evl, boxK, stillV, binV, AV.cells, mP, loadV, storeV, ldV, AV.stb, AV.one, IV.av1, Lb.app, Lb.fresh, reduceCtorEq, ptrL, appL, fillA, chunks, ivs, AV.iv, mkE, if_false, if_true, List.not_mem_nil, forall_eq, beq_self_eq_true, List.isEmpty_nil, Nat.reduceEqDiff, Nat.reduceLT, Nat.reduceLeDiff, Nat.reduceAdd, Nat.reduceMul, Int.reduceToNat, Int.reduceLE, Int.reduceLT, Tree.av]
          rw [app_loc 4 72 44 1000 (ivT ((parPos n (n + 1) ((d.drop (n + 1)).take i)).map (treeN d))) (.agg [.bool (treeN d (n + 1 + i)).text, .str (treeN d (n + 1 + i)).s, .list (ivA (treeN d (n + 1 + i)).attrs), .list (ivT (treeN d (n + 1 + i)).kids)]) (by simp [upd_at]) (by rw [ivT_len, List.length_map]) rfl (by simp [IV.cells])
            (by rw [List.length_map] at hbl; omega) (by decide) (by decide) (by simp [upd_at, Hp.none])]
          simp only [↓aX, evp, evq, evl, boxK, stillV, binV, AV.cells, mP, loadV, storeV, ldV, AV.stb, AV.one, IV.av1, Lb.app, Lb.fresh, reduceCtorEq, ptrL, appL, fillA, chunks, ivs, AV.iv, mkE, if_false, if_true, List.not_mem_nil, forall_eq, beq_self_eq_true, List.isEmpty_nil, Nat.reduceEqDiff, Nat.reduceLT, Nat.reduceLeDiff, Nat.reduceAdd, Nat.reduceMul, Int.reduceToNat, Int.reduceLE, Int.reduceLT, hw]
          refine ⟨by rintro l (rfl | rfl) <;> simp [Lb.fam], ⟨i + 1, by omega⟩, by simp only; omega, [(.loc 1000, .loc 44)], ?_⟩
          refine ⟨?_, ?_, ?_, by simp [rnF], ?_⟩
          · intro l hf hu
            exfalso; apply hu
            cases l <;> simp_all [Lb.fresh, upd_at, Hp.none]
          · simp [EqL, rnF, ren, put]
          · simp only [RwL, hr, hnext, List.map_append, ivT_app]
            simp [rnF, upd_at, renR, rens, ren, ivT, Tree.iv_eq, Tree.cs, immE_app]
          · intro l hl
            simp only [List.mem_cons, List.not_mem_nil, or_false] at hl
            rcases hl with rfl | rfl | rfl | rfl
            · exact ⟨fun _ => rfl, fun _ => rfl⟩
            · exact ⟨fun _ => rfl, fun _ => rfl⟩
            · exact ⟨fun _ => rfl, fun _ => rfl⟩
            · exact ⟨fun _ => rfl, fun h => by simp [Lb.fresh] at h⟩
      · rw [show decide (((n + 1 + i : Nat) : Int) < (d.length : Int)) = false by rw [decide_eq_false_iff_not]; omega]
        have hil : (d.drop (n + 1)).take i = d.drop (n + 1) := List.take_of_length_le (by rw [List.length_drop]; omega)
        rw [hil]
        simp only [↓aX, evp, evq, evl, boxK, stillV, binV, AV.cells, mP, loadV, storeV, ldV, AV.stb, AV.one, IV.av1, Lb.app, Lb.fresh, reduceCtorEq, ptrL, appL, fillA, chunks, ivs, AV.iv, mkE, if_false, if_true, List.not_mem_nil, forall_eq, beq_self_eq_true, List.isEmpty_nil, Nat.reduceEqDiff, Nat.reduceLT, Nat.reduceLeDiff, Nat.reduceAdd, Nat.reduceMul, Int.reduceToNat, Int.reduceLE, Int.reduceLT]
        refine ⟨4, ivT ((parPos n (n + 1) (d.drop (n + 1))).map (treeN d)), 0, _, [.bool x.text, .str x.s, .list (ivA x.attrs), .sl (.loc 1000) 4 0 _], rfl, rfl, rfl, by simp, by rw [ivT_len, List.length_map, Nat.zero_add]; exact Nat.le_refl _, flatT _, ?_⟩
        simp only [↓aX, evp, evq, evl, boxK, stillV, binV, AV.cells, mP, loadV, storeV, ldV, AV.stb, AV.one, IV.av1, Lb.app, Lb.fresh, reduceCtorEq, ptrL, appL, fillA, chunks, ivs, AV.iv, mkE, if_false, if_true, List.not_mem_nil, forall_eq, beq_self_eq_true, List.isEmpty_nil, Nat.reduceEqDiff, Nat.reduceLT, Nat.reduceLeDiff, Nat.reduceAdd, Nat.reduceMul, Int.reduceToNat, Int.reduceLE, Int.reduceLT, List.drop_zero, List.take_of_length_le (show (ivT ((parPos n (n + 1) (d.drop (n + 1))).map (treeN d))).length ≤ (parPos n (n + 1) (d.drop (n + 1))).length by rw [ivT_len, List.length_map]; exact Nat.le_refl _)]
        rw [treeN_eq hx]
        rfl
end Go.Am
