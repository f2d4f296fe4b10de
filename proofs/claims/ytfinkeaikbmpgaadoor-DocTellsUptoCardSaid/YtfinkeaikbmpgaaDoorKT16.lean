import Derived.Test.YtfinkeaikbmpgaaDoorKD3
import Derived.Test.YtfinkeaikbmpgaaDoorKT10
import Derived.Test.YtfinkeaikbmpgaaDoorKAm32
set_option linter.unusedSimpArgs false
set_option linter.unusedVariables false
set_option linter.unnecessarySimpa false
set_option linter.defProp false
/- Documents: the tree at a place. -/
namespace Go.Am
open Go Go.RowKit
theorem ofU_f (rs : List (Lb × Row)) : ofU (fun _ => false) rs = ofH rs := by
  funext q
  unfold ofU
  cases ofH rs q <;> rfl
theorem kidsAt_get : ∀ (off : Nat) (xs : List Tree) (i : Nat), i < xs.length → (kidsAt off xs)[i]? = some ((off + cntT (xs.take i) : Nat) : Int)
  | _, [], i, h => by simp at h
  | off, x :: r, 0, _ => by simp [kidsAt, cntT]
  | off, x :: r, i + 1, h => by
    simp only [kidsAt, List.getElem?_cons_succ, List.take_succ_cons, cntT]
    rw [kidsAt_get (off + x.cnt) r i (by simpa using h), Nat.add_assoc]
def c_doc_at (f_slices_Clone_Attr_Attr f_doc_at : Nat) : AC :=
(.seq (.reg [⟨(some 2), none, (.box (.t 0))⟩, ⟨(some 4), none, (.new [(.bool false), (.str []), .nil0, .nil0])⟩]) (.seq (.reg [⟨(some 9), none, (.fld (.t 2) 0)⟩, ⟨(some 10), none, (.load none (.t 9))⟩, ⟨(some 11), none, (.mov (.t 1))⟩, ⟨(some 12), none, (.ixa (.t 10) (.t 11) 5)⟩, ⟨(some 13), none, (.load (some 5) (.t 12))⟩, ⟨(some 5), none, (.new [(.bool false), (.str []), .nil0, (.int .i64 0), .nil0])⟩, ⟨none, none, (.store 5 (.t 5) (.t 13))⟩]) (.seq (.dreg [⟨(some 14), none, (.fld (.t 5) 0)⟩, ⟨(some 15), none, (.load none (.t 14))⟩, ⟨(some 16), none, (.fld (.t 5) 1)⟩, ⟨(some 17), none, (.load none (.t 16))⟩, ⟨(some 18), none, (.fld (.t 5) 2)⟩, ⟨(some 19), none, (.load none (.t 18))⟩, ⟨(some 20), none, (.call f_slices_Clone_Attr_Attr [(.t 19)])⟩, ⟨(some 21), none, (.bld [(.bool false), (.str []), .nil0, .nil0] [(0, (1, (.t 15))), (1, (1, (.t 17))), (2, (1, (.t 20)))])⟩, ⟨(some 6), none, (.new [(.bool false), (.str []), .nil0, .nil0])⟩, ⟨none, none, (.store 4 (.t 6) (.t 21))⟩] [[], [0], [], [2], [], [4], [5], [1, 3, 6], [], [8, 7, 6, 0, 1, 2, 3, 4, 5, 6, 7, 8]] [.no, .rw [.loc 5] [], .no, .rw [.loc 5] [], .no, .rw [.loc 5] [], .no, .no, .rw [] [.loc 6], .rw [] [.loc 6]]) (.seq (.gh .weak (.seq (.reg [⟨(some 22), none, (.fld (.t 5) 4)⟩, ⟨(some 23), none, (.load none (.t 22))⟩, ⟨(some 24), none, (.len (.t 23))⟩, ⟨(some 25), none, (.mov (.c (.int .i64 0)))⟩]) (.block 0 (.loop (.seq (.reg [⟨(some 26), none, (.bin .lss (.t 25) (.t 24))⟩]) (.seq (.cond (.t 26) .skip (.exit 0)) (.seq (.block 1 (.seq (.reg [⟨(some 27), none, (.ixa (.t 23) (.t 25) 1)⟩, ⟨(some 28), none, (.load none (.t 27))⟩, ⟨(some 8), none, (.mov (.t 28))⟩]) (.dreg [⟨(some 29), none, (.fld (.t 6) 3)⟩, ⟨(some 30), none, (.load none (.t 29))⟩, ⟨(some 31), none, (.load (some 1) (.t 2))⟩, ⟨(some 32), none, (.mov (.t 8))⟩, ⟨(some 33), none, (.call f_doc_at [(.t 31), (.t 32)])⟩, ⟨(some 34), none, (.lits 1 4 [(.bool false), (.str []), .nil0, .nil0] [(0, (.t 33))])⟩, ⟨(some 35), none, (.app (.t 30) (.t 34) 4 72)⟩, ⟨(some 36), none, (.fld (.t 6) 3)⟩, ⟨none, none, (.store 1 (.t 36) (.t 35))⟩] [[], [0], [], [], [2, 3], [4], [1, 5, 4], [0, 1, 2, 3, 4, 5, 6], [7, 6, 6, 0, 1, 2, 3, 4, 5, 6]] [.no, .rw [.loc 6] [], .rw [.loc 2] [], .no, .no, .no, (.rw [] [.loc 50, .loc 35]), .no, .rw [] [.loc 6]]))) (.reg [⟨(some 37), none, (.bin .add (.t 25) (.c (.int .i64 1)))⟩, ⟨(some 25), none, (.mov (.t 37))⟩])))))))) (.gh (.frzc (.loc 50) (.loc 6) 3) (.seq (.reg [⟨(some 38), none, (.load (some 4) (.t 6))⟩, ⟨none, none, (.store 4 (.t 4) (.t 38))⟩]) .ret))))))
theorem pAt {P : Program} {G : Nat → Option (List IV)} {f_doc_at f_slices_Clone_Attr_Attr : Nat} (hF : compF P G f_doc_at = some (39, [((some (some 4)), 4)], (c_doc_at f_slices_Clone_Attr_Attr f_doc_at).bare)) (d : Doc) (hd : d.length ≤ B) (n : Nat) (q : Int) (x : Tree) (hL : Lies d n q x) (hx : x.wt ≤ B)
    (hC : PureC P G f_slices_Clone_Attr_Attr [.list (ivA x.attrs)] (.list (ivA x.attrs)))
    (hK : ∀ k ∈ x.kids, ∀ (m : Nat) (p : Int), Lies d m p k → PureC P G f_doc_at [Doc.av d, .int .i64 m] k.av) : PureC P G f_doc_at [Doc.av d, .int .i64 n] x.av := by
  refine pure_of_goN hF (by simp) (by simp [lbss, AV.lbs, Doc.av]) (by simp [AV.lbs, Tree.av, lbss]) ?_
  have hnode := hL.node
  have hlen := hL.len
  have hlt := (List.getElem?_eq_some_iff.1 hnode).1
  have hwx := x.wt_eq
  have hkl := wtT_len x.kids
  have hkn : (kidsAt (n + 1) x.kids).length = x.kids.length := kidsAt_len _ _
  unfold c_doc_at
  simp only [↓aX, evp, evq, evl, boxK, stillV, binV, AV.cells, mP, loadV, storeV, ldV, AV.stb, AV.one, IV.av1, Lb.app, Lb.fresh, reduceCtorEq, ptrL, appL, fillA, chunks, ivs, AV.iv, mkE, if_false, if_true, List.not_mem_nil, forall_eq, beq_self_eq_true, List.isEmpty_nil, Nat.reduceEqDiff, Nat.reduceLT, Nat.reduceLeDiff, Nat.reduceAdd, Nat.reduceMul, Int.reduceToNat, Int.reduceLE, Int.reduceLT, Doc.av, List.length_map, Doc.get_iv hnode, elszN, Node.cells_eq, Node.cs, Tree.node]
  refine ⟨rfl, puK_in hC ?_⟩
  simp only [↓aX, evp, evq, evl, boxK, stillV, binV, AV.cells, mP, loadV, storeV, ldV, AV.stb, AV.one, IV.av1, Lb.app, Lb.fresh, reduceCtorEq, ptrL, appL, fillA, chunks, ivs, AV.iv, mkE, if_false, if_true, List.not_mem_nil, forall_eq, beq_self_eq_true, List.isEmpty_nil, Nat.reduceEqDiff, Nat.reduceLT, Nat.reduceLeDiff, Nat.reduceAdd, Nat.reduceMul, Int.reduceToNat, Int.reduceLE, Int.reduceLT, List.length_map]
  rw [go_weak]
  refine ⟨_, _, weaker_ownc (q := .loc 6) (cs := [.bool x.text, .str x.s, .list (ivA x.attrs), .nil0]) (j := 3) (d := 50) (sz := 4) rfl rfl (by simp [upd_at, Hp.none]) (by decide), ?_⟩
  simp only [↓aX, evp, evq, evl, boxK, stillV, binV, AV.cells, mP, loadV, storeV, ldV, AV.stb, AV.one, IV.av1, Lb.app, Lb.fresh, reduceCtorEq, ptrL, appL, fillA, chunks, ivs, AV.iv, mkE, if_false, if_true, List.not_mem_nil, forall_eq, beq_self_eq_true, List.isEmpty_nil, Nat.reduceEqDiff, Nat.reduceLT, Nat.reduceLeDiff, Nat.reduceAdd, Nat.reduceMul, Int.reduceToNat, Int.reduceLE, Int.reduceLT]
  refine loop_used (σ := { i : Nat // i ≤ x.kids.length }) (fun _ => [.loc 2, .loc 4, .loc 6, .loc 50]) (fun _ _ => false)
    (fun q => [(2, .ptr (.loc 2) 1 0 0), (4, .ptr (.loc 4) 4 0 0), (6, .ptr (.loc 6) 4 0 0), (23, .list ((kidsAt (n + 1) x.kids).map intIV)), (24, .int .i64 x.kids.length), (25, .int .i64 q.1)])
    (fun q => [(.loc 2, ⟨1, [[.list (d.map Node.iv)]]⟩), (.loc 4, ⟨4, [[.bool false, .str [], .nil0, .nil0]]⟩), (.loc 6, ⟨4, [[.bool x.text, .str x.s, .list (ivA x.attrs), .sl (.loc 50) 4 0 q.1]]⟩), (.loc 50, ⟨4, immE (ivT (x.kids.take q.1))⟩)])
    (fun q => x.kids.length - q.1) ⟨0, Nat.zero_le _⟩ (fun _ => rfl) (fun q => by simp [lbss, AV.lbs]) ?_ ⟨[], ?_⟩ ?_
  · rintro q r hr cs hcs l hl
    simp only [List.mem_cons, List.not_mem_nil, or_false] at hr
    rcases hr with rfl | rfl | rfl | rfl
    · simp only [List.mem_singleton] at hcs; subst hcs; simp [lbss, AV.lbs] at hl
    · simp only [List.mem_singleton] at hcs; subst hcs; simp [lbss, AV.lbs] at hl
    · simp only [List.mem_singleton] at hcs; subst hcs; simp [lbss, AV.lbs] at hl; subst hl; simp
    · rw [lbss_immE hcs] at hl; simp at hl
  · refine ⟨?_, ?_, ?_, by simp [rnF], fun l _ => ⟨id, fun _ => rfl⟩⟩
    · intro l hf hu
      exfalso; apply hu
      cases l <;> simp_all [Lb.fresh, upd_at, Hp.none]
    · simp [EqL, rnF, ren, put, hkn]
    · simp [RwL, rnF, upd_at, renR, rens, ren, immE, ivT]
  · rintro ⟨i, hi⟩
    rw [ofU_f]
    simp only [↓aX, evp, evq, evl, boxK, stillV, binV, AV.cells, mP, loadV, storeV, ldV, AV.stb, AV.one, IV.av1, Lb.app, Lb.fresh, reduceCtorEq, ptrL, appL, fillA, chunks, ivs, AV.iv, mkE, if_false, if_true, List.not_mem_nil, forall_eq, beq_self_eq_true, List.isEmpty_nil, Nat.reduceEqDiff, Nat.reduceLT, Nat.reduceLeDiff, Nat.reduceAdd, Nat.reduceMul, Int.reduceToNat, Int.reduceLE, Int.reduceLT, ofH_nil, ofH_cons]
    by_cases hlt : i < x.kids.length
    · rw [show decide ((i : Int) < (x.kids.length : Int)) = true by simpa using hlt]
      obtain ⟨k, hki⟩ : ∃ k, x.kids[i]? = some k := ⟨_, List.getElem?_eq_getElem hlt⟩
      have hw : IntKind.i64.wrap ((i : Int) + 1) = ((i + 1 : Nat) : Int) := wrap64 (by omega) (by unfold B at hx; omega)
      have hg := kidsAt_get (n + 1) x.kids i hlt
      simp only [↓aX, evp, evq, evl, boxK, stillV, binV, AV.cells, mP, loadV, storeV, ldV, AV.stb, AV.one, IV.av1, Lb.app, Lb.fresh, reduceCtorEq, ptrL, appL, fillA, chunks, ivs, AV.iv, mkE, if_false, if_true, List.not_mem_nil, forall_eq, beq_self_eq_true, List.isEmpty_nil, Nat.reduceEqDiff, Nat.reduceLT, Nat.reduceLeDiff, Nat.reduceAdd, Nat.reduceMul, Int.reduceToNat, Int.reduceLE, Int.reduceLT, intGet, hg, elszI, List.length_map, Option.map_some, intIV, IV.cells]
      have hkm := List.mem_of_getElem? hki
      have hkL : Lies d (n + 1 + cntT (x.kids.take i)) n k := hL.kid (x.kids.take i) (x.kids.drop (i + 1)) k (by rw [← drop_eq hki, List.take_append_drop])
      have hl4 : (ivT (x.kids.take i)).length = i := by rw [ivT_len, List.length_take]; omega
      have hsn : ivT (x.kids.take (i + 1)) = ivT (x.kids.take i) ++ [.agg [.bool k.text, .str k.s, .list (ivA k.attrs), .list (ivT k.kids)]] := by rw [take_snoc' hki, ivT_app]; simp [ivT, Tree.iv_eq, Tree.cs]
      refine ⟨rfl, puK_in (hK k hkm _ _ hkL) ?_⟩
      simp only [↓aX, evp, evq, evl, boxK, stillV, binV, AV.cells, mP, loadV, storeV, ldV, AV.stb, AV.one, IV.av1, Lb.app, Lb.fresh, reduceCtorEq, ptrL, appL, fillA, chunks, ivs, AV.iv, mkE, if_false, if_true, List.not_mem_nil, forall_eq, beq_self_eq_true, List.isEmpty_nil, Nat.reduceEqDiff, Nat.reduceLT, Nat.reduceLeDiff, Nat.reduceAdd, Nat.reduceMul, Int.reduceToNat, Int.reduceLE, Int.reduceLT, Tree.av]
      rw [app_loc 4 72 35 50 (ivT (x.kids.take i)) (.agg [.bool k.text, .str k.s, .list (ivA k.attrs), .list (ivT k.kids)]) (by simp [upd_at]) hl4 rfl (by simp [IV.cells]) (by unfold B at hx; omega) (by decide) (by decide) (by simp [upd_at, Hp.none])]
      simp only [↓aX, evp, evq, evl, boxK, stillV, binV, AV.cells, mP, loadV, storeV, ldV, AV.stb, AV.one, IV.av1, Lb.app, Lb.fresh, reduceCtorEq, ptrL, appL, fillA, chunks, ivs, AV.iv, mkE, if_false, if_true, List.not_mem_nil, forall_eq, beq_self_eq_true, List.isEmpty_nil, Nat.reduceEqDiff, Nat.reduceLT, Nat.reduceLeDiff, Nat.reduceAdd, Nat.reduceMul, Int.reduceToNat, Int.reduceLE, Int.reduceLT, hw]
      refine ⟨by rintro l (rfl | rfl) <;> simp [Lb.fam], ?_⟩
      refine ⟨⟨i + 1, hlt⟩, by simp only; omega, [(.loc 50, .loc 35)], ?_⟩
      refine ⟨?_, ?_, ?_, by simp [rnF], ?_⟩
      · intro l hf hu
        exfalso; apply hu
        cases l <;> simp_all [Lb.fresh, upd_at, Hp.none]
      · simp [EqL, rnF, ren, put]
      · have hr : ∀ xs : List IV, renR (rnF [(.loc 50, .loc 35)]) ⟨4, immE xs⟩ = ⟨4, immE xs⟩ := fun xs => renR_immE _ _ _
        simp [RwL, rnF, upd_at, renR, rens, ren, hsn]
        simp [immE, rens_imm]
      · intro l hl
        simp only [List.mem_cons, List.not_mem_nil, or_false] at hl
        rcases hl with rfl | rfl | rfl | rfl
        · exact ⟨fun _ => rfl, fun _ => rfl⟩
        · exact ⟨fun _ => rfl, fun _ => rfl⟩
        · exact ⟨fun _ => rfl, fun _ => rfl⟩
        · exact ⟨fun _ => rfl, fun h => by simp [Lb.fresh] at h⟩
    · have hil : i = x.kids.length := by omega
      subst hil
      rw [show decide ((x.kids.length : Int) < (x.kids.length : Int)) = false by simp]
      simp only [↓aX, evp, evq, evl, boxK, stillV, binV, AV.cells, mP, loadV, storeV, ldV, AV.stb, AV.one, IV.av1, Lb.app, Lb.fresh, reduceCtorEq, ptrL, appL, fillA, chunks, ivs, AV.iv, mkE, if_false, if_true, List.not_mem_nil, forall_eq, beq_self_eq_true, List.isEmpty_nil, Nat.reduceEqDiff, Nat.reduceLT, Nat.reduceLeDiff, Nat.reduceAdd, Nat.reduceMul, Int.reduceToNat, Int.reduceLE, Int.reduceLT, List.take_length]
      refine ⟨4, ivT x.kids, 0, x.kids.length, [.bool x.text, .str x.s, .list (ivA x.attrs), .sl (.loc 50) 4 0 x.kids.length], rfl, rfl, rfl, by simp, by rw [ivT_len]; omega, flatT _, ?_⟩
      simp only [↓aX, evp, evq, evl, boxK, stillV, binV, AV.cells, mP, loadV, storeV, ldV, AV.stb, AV.one, IV.av1, Lb.app, Lb.fresh, reduceCtorEq, ptrL, appL, fillA, chunks, ivs, AV.iv, mkE, if_false, if_true, List.not_mem_nil, forall_eq, beq_self_eq_true, List.isEmpty_nil, Nat.reduceEqDiff, Nat.reduceLT, Nat.reduceLeDiff, Nat.reduceAdd, Nat.reduceMul, Int.reduceToNat, Int.reduceLE, Int.reduceLT, List.drop_zero, List.take_of_length_le (show (ivT x.kids).length ≤ x.kids.length by rw [ivT_len]; exact Nat.le_refl _)]
      rfl
end Go.Am

/- Documents: which are good; what is told of them. -/
namespace Go.Am
open Go Go.RowKit
def Node.wt (x : Node) : Nat := 1 + x.s.length + wtA x.attrs + x.kids.length
def wtN : Doc → Nat
  | [] => 0
  | x :: r => x.wt + wtN r
theorem wtN_app : ∀ a b : Doc, wtN (a ++ b) = wtN a + wtN b
  | [], b => by simp [wtN]
  | x :: r, b => by simp [wtN, wtN_app r b, Nat.add_assoc]
theorem wtN_len : ∀ d : Doc, d.length ≤ wtN d
  | [] => by simp
  | x :: r => by have := wtN_len r; simp only [wtN, Node.wt, List.length_cons]; omega
theorem wtN_mem : ∀ {d : Doc} {x : Node}, x ∈ d → x.wt ≤ wtN d
  | [], x, h => by simp at h
  | y :: r, x, h => by
    simp only [List.mem_cons] at h
    rcases h with rfl | h
    · simp [wtN]
    · have := wtN_mem h; simp only [wtN]; omega
mutual
theorem Tree.wt_flat (off : Nat) (p : Int) : ∀ x : Tree, x.wt ≤ wtN (x.flat off p)
  | .mk t s as ks => by
    have := wt_flats (off + 1) off ks
    simp only [Tree.flat, wtN, Node.wt, Tree.wt]; omega
theorem wt_flats (off p : Nat) : ∀ xs : List Tree, wtT xs ≤ wtN (flats off p xs)
  | [] => by simp [wtT]
  | k :: r => by
    have := k.wt_flat off p
    have := wt_flats (off + k.cnt) p r
    simp only [flats, wtN_app, wtT]; omega
end
theorem Lies.wt {d : Doc} {n : Nat} {q : Int} {y : Tree} (h : Lies d n q y) : y.wt ≤ wtN d := by
  obtain ⟨post, h⟩ := h
  have h1 := y.wt_flat n q
  have h2 := wtN_app (d.take n) (d.drop n)
  rw [List.take_append_drop, h, wtN_app] at h2
  omega
section
variable {P : Program} {G : Nat → Option (List IV)}
theorem wAt {f_doc_at f_slices_Clone_Attr_Attr : Nat} (hF : compF P G f_doc_at = some (39, [((some (some 4)), 4)], (c_doc_at f_slices_Clone_Attr_Attr f_doc_at).bare)) (hC : ∀ xs : List Attr, xs.length ≤ B → PureC P G f_slices_Clone_Attr_Attr [.list (ivA xs)] (.list (ivA xs))) (d : Doc) (hd : wtN d ≤ B) (n : Nat) (q : Int) (x : Tree) (hL : Lies d n q x) :
    PureC P G f_doc_at [Doc.av d, .int .i64 n] x.av := by
  have key := byWt (M := fun l => ∀ x ∈ l, ∀ (n : Nat) (q : Int), Lies d n q x → PureC P G f_doc_at [Doc.av d, .int .i64 n] x.av)
    (fun l h x hx n q hL => pAt hF d (by have := wtN_len d; omega) n q x hL (by have := hL.wt; omega) (hC _ (by have := hL.wt; have := wt_attrs x; have := wtA_len x.attrs; omega)) fun k hk m p hL' => h x hx k hk m p hL')
  exact key [x] x (by simp) n q hL
end
theorem isDoc_docOf (x : Tree) : isDoc (docOf x) = x.good := by
  cases h : x.good with
  | true => exact isDoc_of h
  | false => exact isDoc_not fun ⟨y, h1, h2⟩ => by rw [docOf_inj h2, h1] at h; cases h
theorem IsDoc.len {d : Doc} (h : IsDoc d) : 1 ≤ d.length ∧ d.length ≤ 80 := by
  obtain ⟨x, hx, rfl⟩ := h
  have := (good_iff x).1 hx
  have := x.cnt_pos
  rw [docOf_len]; omega
theorem IsDoc.wk {d : Doc} (h : IsDoc d) : wk d 8 0 (-1) 0 = some (d.length : Int) := by
  obtain ⟨x, hx, rfl⟩ := h
  exact wk_doc' ((good_iff x).1 hx).2.1
def c_doc_Good (f_doc_walk f_doc_at f_tree_Good : Nat) : AC :=
(.seq (.reg [⟨(some 1), none, (.box (.t 0))⟩, ⟨(some 2), none, (.mov (.c (.bool false)))⟩]) (.seq (.seq (.reg [⟨(some 4), none, (.fld (.t 1) 0)⟩, ⟨(some 5), none, (.load none (.t 4))⟩, ⟨(some 6), none, (.len (.t 5))⟩, ⟨(some 7), none, (.bin .lss (.t 6) (.c (.int .i64 1)))⟩, ⟨(some 8), none, (.mov (.t 7))⟩, ⟨(some 9), (some (8, false)), (.fld (.t 1) 0)⟩, ⟨(some 10), (some (8, false)), (.load none (.t 9))⟩, ⟨(some 11), (some (8, false)), (.len (.t 10))⟩, ⟨(some 12), (some (8, false)), (.bin .gtr (.t 11) (.c (.int .i64 80)))⟩, ⟨(some 13), none, (.pick (.t 8) (.c (.bool true)) (.t 12))⟩]) (.cond (.t 13) (.seq (.reg [⟨(some 2), none, (.mov (.c (.bool false)))⟩]) .ret) .skip)) (.seq (.reg [⟨(some 3), none, (.new [(.int .i64 0)])⟩, ⟨none, none, (.store 1 (.t 3) (.c (.int .i64 0)))⟩]) (.seq (.seq (.reg [⟨(some 14), none, (.load (some 1) (.t 1))⟩, ⟨(some 15), none, (.call f_doc_walk [(.t 14), (.c (.int .i64 0)), (.c (.int .i64 (-1))), (.c (.int .i64 1)), (.t 3)])⟩, ⟨(some 16), none, (.not (.t 15))⟩, ⟨(some 17), none, (.mov (.t 16))⟩, ⟨(some 18), (some (17, false)), (.load none (.t 3))⟩, ⟨(some 19), (some (17, false)), (.fld (.t 1) 0)⟩, ⟨(some 20), (some (17, false)), (.load none (.t 19))⟩, ⟨(some 21), (some (17, false)), (.len (.t 20))⟩, ⟨(some 22), (some (17, false)), (.bin .neq (.t 18) (.t 21))⟩, ⟨(some 23), none, (.pick (.t 17) (.c (.bool true)) (.t 22))⟩]) (.cond (.t 23) (.seq (.reg [⟨(some 2), none, (.mov (.c (.bool false)))⟩]) .ret) .skip)) (.seq (.reg [⟨(some 24), none, (.load (some 1) (.t 1))⟩, ⟨(some 25), none, (.call f_doc_at [(.t 24), (.c (.int .i64 0))])⟩, ⟨(some 26), none, (.call f_tree_Good [(.t 25)])⟩, ⟨(some 2), none, (.mov (.t 26))⟩]) .ret)))))
theorem pDocGood {P : Program} {G : Nat → Option (List IV)} {f_doc_Good f_doc_walk f_doc_at f_tree_Good : Nat} (hF : compF P G f_doc_Good = some (27, [(none, 2)], (c_doc_Good f_doc_walk f_doc_at f_tree_Good).bare)) (d : Doc) (hd : wtN d ≤ B)
    (hW : MutC P G f_doc_walk [Doc.av d, .int .i64 0, .int .i64 (-1), .int .i64 (9 - ((8 : Nat) : Int)), .ptr (.par 0) 1 0 0] [.int .i64 0] fun x cs => ∃ v, x = .bool (wk d 8 0 (-1) 0).isSome ∧ cs = [.int .i64 v] ∧ ∀ r, wk d 8 0 (-1) 0 = some r → v = r)
    (hA : ∀ x, d = docOf x → PureC P G f_doc_at [Doc.av d, .int .i64 0] x.av) (hG : ∀ x, d = docOf x → PureC P G f_tree_Good [x.av] (.bool x.good)) : PureC P G f_doc_Good [Doc.av d] (.bool (isDoc d)) := by
  refine pure_of_go hF (by simp) (by simp [lbss, AV.lbs, Doc.av]) (by simp [AV.lbs]) ?_
  have hlen := wtN_len d
  unfold c_doc_Good
  simp only [↓aX, evp, evq, evl, boxK, stillV, binV, AV.cells, mP, loadV, storeV, ldV, AV.stb, AV.one, IV.av1, Lb.app, Lb.fresh, reduceCtorEq, ptrL, appL, fillA, chunks, ivs, AV.iv, mkE, if_false, if_true, List.not_mem_nil, forall_eq, beq_self_eq_true, List.isEmpty_nil, Nat.reduceEqDiff, Nat.reduceLT, Nat.reduceLeDiff, Nat.reduceAdd, Nat.reduceMul, Int.reduceToNat, Int.reduceLE, Int.reduceLT, Doc.av, List.length_map]
  cases h1 : decide ((d.length : Int) < 1) with
  | true =>
    have : isDoc d = false := isDoc_not fun h => by have := h.len; simp at h1; omega
    simp only [↓aX, evp, evq, evl, boxK, stillV, binV, AV.cells, mP, loadV, storeV, ldV, AV.stb, AV.one, IV.av1, Lb.app, Lb.fresh, reduceCtorEq, ptrL, appL, fillA, chunks, ivs, AV.iv, mkE, if_false, if_true, List.not_mem_nil, forall_eq, beq_self_eq_true, List.isEmpty_nil, Nat.reduceEqDiff, Nat.reduceLT, Nat.reduceLeDiff, Nat.reduceAdd, Nat.reduceMul, Int.reduceToNat, Int.reduceLE, Int.reduceLT, this]
  | false =>
    cases h2 : decide ((d.length : Int) > 80) with
    | true =>
      have : isDoc d = false := isDoc_not fun h => by have := h.len; simp at h2; omega
      simp only [↓aX, evp, evq, evl, boxK, stillV, binV, AV.cells, mP, loadV, storeV, ldV, AV.stb, AV.one, IV.av1, Lb.app, Lb.fresh, reduceCtorEq, ptrL, appL, fillA, chunks, ivs, AV.iv, mkE, if_false, if_true, List.not_mem_nil, forall_eq, beq_self_eq_true, List.isEmpty_nil, Nat.reduceEqDiff, Nat.reduceLT, Nat.reduceLeDiff, Nat.reduceAdd, Nat.reduceMul, Int.reduceToNat, Int.reduceLE, Int.reduceLT, List.length_map, h2, this]
    | false =>
      simp only [↓aX, evp, evq, evl, boxK, stillV, binV, AV.cells, mP, loadV, storeV, ldV, AV.stb, AV.one, IV.av1, Lb.app, Lb.fresh, reduceCtorEq, ptrL, appL, fillA, chunks, ivs, AV.iv, mkE, if_false, if_true, List.not_mem_nil, forall_eq, beq_self_eq_true, List.isEmpty_nil, Nat.reduceEqDiff, Nat.reduceLT, Nat.reduceLeDiff, Nat.reduceAdd, Nat.reduceMul, Int.reduceToNat, Int.reduceLE, Int.reduceLT, List.length_map, h2]
      refine callT_mut (l := .loc 3) hW rfl (by simp only [↓aX, evp, evq, evl, boxK, stillV, binV, AV.cells, mP, loadV, storeV, ldV, AV.stb, AV.one, IV.av1, Lb.app, Lb.fresh, reduceCtorEq, ptrL, appL, fillA, chunks, ivs, AV.iv, mkE, if_false, if_true, List.not_mem_nil, forall_eq, beq_self_eq_true, List.isEmpty_nil, Nat.reduceEqDiff, Nat.reduceLT, Nat.reduceLeDiff, Nat.reduceAdd, Nat.reduceMul, Int.reduceToNat, Int.reduceLE, Int.reduceLT]; try rfl) ?_
      rintro x1 cs' ⟨v, rfl, rfl, hv⟩ _ _ _
      cases hr : wk d 8 0 (-1) 0 with
      | none =>
        have : isDoc d = false := isDoc_not fun h => by have := h.wk; rw [hr] at this; cases this
        simp only [↓aX, evp, evq, evl, boxK, stillV, binV, AV.cells, mP, loadV, storeV, ldV, AV.stb, AV.one, IV.av1, Lb.app, Lb.fresh, reduceCtorEq, ptrL, appL, fillA, chunks, ivs, AV.iv, mkE, if_false, if_true, List.not_mem_nil, forall_eq, beq_self_eq_true, List.isEmpty_nil, Nat.reduceEqDiff, Nat.reduceLT, Nat.reduceLeDiff, Nat.reduceAdd, Nat.reduceMul, Int.reduceToNat, Int.reduceLE, Int.reduceLT, Option.isSome_none, Bool.not_false, this]
      | some r =>
        have := hv r hr
        subst this
        simp only [↓aX, evp, evq, evl, boxK, stillV, binV, AV.cells, mP, loadV, storeV, ldV, AV.stb, AV.one, IV.av1, Lb.app, Lb.fresh, reduceCtorEq, ptrL, appL, fillA, chunks, ivs, AV.iv, mkE, if_false, if_true, List.not_mem_nil, forall_eq, beq_self_eq_true, List.isEmpty_nil, Nat.reduceEqDiff, Nat.reduceLT, Nat.reduceLeDiff, Nat.reduceAdd, Nat.reduceMul, Int.reduceToNat, Int.reduceLE, Int.reduceLT, Option.isSome_some, Bool.not_true, List.length_map]
        cases h3 : (v != (d.length : Int)) with
        | true =>
          have : isDoc d = false := isDoc_not fun h => by have := h.wk; rw [hr] at this; cases this; simp at h3
          simp only [↓aX, evp, evq, evl, boxK, stillV, binV, AV.cells, mP, loadV, storeV, ldV, AV.stb, AV.one, IV.av1, Lb.app, Lb.fresh, reduceCtorEq, ptrL, appL, fillA, chunks, ivs, AV.iv, mkE, if_false, if_true, List.not_mem_nil, forall_eq, beq_self_eq_true, List.isEmpty_nil, Nat.reduceEqDiff, Nat.reduceLT, Nat.reduceLeDiff, Nat.reduceAdd, Nat.reduceMul, Int.reduceToNat, Int.reduceLE, Int.reduceLT, this]
        | false =>
          have hvl : v = d.length := by simpa using h3
          rw [hvl] at hr
          obtain ⟨x, hx1, hx2⟩ := wk_doc hr
          simp only [↓aX, evp, evq, evl, boxK, stillV, binV, AV.cells, mP, loadV, storeV, ldV, AV.stb, AV.one, IV.av1, Lb.app, Lb.fresh, reduceCtorEq, ptrL, appL, fillA, chunks, ivs, AV.iv, mkE, if_false, if_true, List.not_mem_nil, forall_eq, beq_self_eq_true, List.isEmpty_nil, Nat.reduceEqDiff, Nat.reduceLT, Nat.reduceLeDiff, Nat.reduceAdd, Nat.reduceMul, Int.reduceToNat, Int.reduceLE, Int.reduceLT]
          refine callT_pure (hA x hx2) ?_
          simp only [↓aX, evp, evq, evl, boxK, stillV, binV, AV.cells, mP, loadV, storeV, ldV, AV.stb, AV.one, IV.av1, Lb.app, Lb.fresh, reduceCtorEq, ptrL, appL, fillA, chunks, ivs, AV.iv, mkE, if_false, if_true, List.not_mem_nil, forall_eq, beq_self_eq_true, List.isEmpty_nil, Nat.reduceEqDiff, Nat.reduceLT, Nat.reduceLeDiff, Nat.reduceAdd, Nat.reduceMul, Int.reduceToNat, Int.reduceLE, Int.reduceLT]
          refine callT_pure (hG x hx2) ?_
          simp only [↓aX, evp, evq, evl, boxK, stillV, binV, AV.cells, mP, loadV, storeV, ldV, AV.stb, AV.one, IV.av1, Lb.app, Lb.fresh, reduceCtorEq, ptrL, appL, fillA, chunks, ivs, AV.iv, mkE, if_false, if_true, List.not_mem_nil, forall_eq, beq_self_eq_true, List.isEmpty_nil, Nat.reduceEqDiff, Nat.reduceLT, Nat.reduceLeDiff, Nat.reduceAdd, Nat.reduceMul, Int.reduceToNat, Int.reduceLE, Int.reduceLT]
          rw [hx2, isDoc_docOf]
def c_doc_Tree (f_doc_Good f_doc_at : Nat) : AC :=
(.seq (.reg [⟨(some 2), none, (.box (.t 0))⟩, ⟨(some 4), none, (.new [(.bool false), (.str []), .nil0, .nil0])⟩, ⟨(some 5), none, (.mov (.c (.int .i64 0)))⟩]) (.seq (.seq (.reg [⟨(some 6), none, (.load (some 1) (.t 2))⟩, ⟨(some 7), none, (.call f_doc_Good [(.t 6)])⟩, ⟨(some 8), none, (.not (.t 7))⟩]) (.cond (.t 8) (.seq (.reg [⟨(some 9), none, (.bld [(.bool false), (.str []), .nil0, .nil0] [])⟩, ⟨none, none, (.store 4 (.t 4) (.t 9))⟩, ⟨(some 5), none, (.mov (.c (.int .i64 1)))⟩]) .ret) .skip)) (.seq (.seq (.reg [⟨(some 10), none, (.mov (.t 1))⟩, ⟨(some 11), none, (.bin .lss (.t 10) (.c (.int .i64 0)))⟩, ⟨(some 12), none, (.mov (.t 11))⟩, ⟨(some 13), (some (12, false)), (.mov (.t 1))⟩, ⟨(some 14), (some (12, false)), (.fld (.t 2) 0)⟩, ⟨(some 15), (some (12, false)), (.load none (.t 14))⟩, ⟨(some 16), (some (12, false)), (.len (.t 15))⟩, ⟨(some 17), (some (12, false)), (.bin .geq (.t 13) (.t 16))⟩, ⟨(some 18), none, (.pick (.t 12) (.c (.bool true)) (.t 17))⟩]) (.cond (.t 18) (.seq (.reg [⟨(some 19), none, (.bld [(.bool false), (.str []), .nil0, .nil0] [])⟩, ⟨none, none, (.store 4 (.t 4) (.t 19))⟩, ⟨(some 5), none, (.mov (.c (.int .i64 3)))⟩]) .ret) .skip)) (.seq (.reg [⟨(some 20), none, (.load (some 1) (.t 2))⟩, ⟨(some 21), none, (.mov (.t 1))⟩, ⟨(some 22), none, (.call f_doc_at [(.t 20), (.t 21)])⟩, ⟨none, none, (.store 4 (.t 4) (.t 22))⟩, ⟨(some 5), none, (.mov (.c (.int .i64 0)))⟩]) .ret))))
theorem pDocTree {P : Program} {G : Nat → Option (List IV)} {f_doc_Tree f_doc_Good f_doc_at : Nat} (hF : compF P G f_doc_Tree = some (23, [((some (some 4)), 4), (none, 5)], (c_doc_Tree f_doc_Good f_doc_at).bare)) (d : Doc) (hd : wtN d ≤ B) (n : Int)
    (hG : PureC P G f_doc_Good [Doc.av d] (.bool (isDoc d))) (hA : ∀ (m : Nat) (q : Int) (x : Tree), Lies d m q x → PureC P G f_doc_at [Doc.av d, .int .i64 m] x.av) :
    PureC P G f_doc_Tree [Doc.av d, .int .i64 n] (.tup [(treeD d n).1.av, .int .i64 (treeD d n).2]) := by
  refine pure_of_goN hF (by simp) (by simp [lbss, AV.lbs, Doc.av]) (by simp [AV.lbs, lbss, Tree.av]) ?_
  unfold c_doc_Tree
  simp only [↓aX, evp, evq, evl, boxK, stillV, binV, AV.cells, mP, loadV, storeV, ldV, AV.stb, AV.one, IV.av1, Lb.app, Lb.fresh, reduceCtorEq, ptrL, appL, fillA, chunks, ivs, AV.iv, mkE, if_false, if_true, List.not_mem_nil, forall_eq, beq_self_eq_true, List.isEmpty_nil, Nat.reduceEqDiff, Nat.reduceLT, Nat.reduceLeDiff, Nat.reduceAdd, Nat.reduceMul, Int.reduceToNat, Int.reduceLE, Int.reduceLT, Doc.av, List.length_map]
  refine callT_pure hG ?_
  cases hg : isDoc d with
  | false =>
    simp only [↓aX, evp, evq, evl, boxK, stillV, binV, AV.cells, mP, loadV, storeV, ldV, AV.stb, AV.one, IV.av1, Lb.app, Lb.fresh, reduceCtorEq, ptrL, appL, fillA, chunks, ivs, AV.iv, mkE, if_false, if_true, List.not_mem_nil, forall_eq, beq_self_eq_true, List.isEmpty_nil, Nat.reduceEqDiff, Nat.reduceLT, Nat.reduceLeDiff, Nat.reduceAdd, Nat.reduceMul, Int.reduceToNat, Int.reduceLE, Int.reduceLT, retm2_r]
    simp [norm, norms, treeD, hg, Tree.av, Tree.text, Tree.s, Tree.attrs, Tree.kids]
    exact ⟨rfl, rfl⟩
  | true =>
    obtain ⟨t, ht, rfl⟩ := isDoc_iff.1 hg
    simp only [↓aX, evp, evq, evl, boxK, stillV, binV, AV.cells, mP, loadV, storeV, ldV, AV.stb, AV.one, IV.av1, Lb.app, Lb.fresh, reduceCtorEq, ptrL, appL, fillA, chunks, ivs, AV.iv, mkE, if_false, if_true, List.not_mem_nil, forall_eq, beq_self_eq_true, List.isEmpty_nil, Nat.reduceEqDiff, Nat.reduceLT, Nat.reduceLeDiff, Nat.reduceAdd, Nat.reduceMul, Int.reduceToNat, Int.reduceLE, Int.reduceLT, List.length_map]
    cases h1 : decide (n < 0) with
    | true =>
      have : treeD (docOf t) n = (.mk false [] [] [], 3) := by unfold treeD; rw [if_pos hg, if_neg (by simp at h1; omega)]
      simp only [↓aX, evp, evq, evl, boxK, stillV, binV, AV.cells, mP, loadV, storeV, ldV, AV.stb, AV.one, IV.av1, Lb.app, Lb.fresh, reduceCtorEq, ptrL, appL, fillA, chunks, ivs, AV.iv, mkE, if_false, if_true, List.not_mem_nil, forall_eq, beq_self_eq_true, List.isEmpty_nil, Nat.reduceEqDiff, Nat.reduceLT, Nat.reduceLeDiff, Nat.reduceAdd, Nat.reduceMul, Int.reduceToNat, Int.reduceLE, Int.reduceLT, retm2_r]
      rw [this]
      rfl
    | false =>
      obtain ⟨m, rfl⟩ : ∃ m : Nat, n = m := ⟨n.toNat, by simp at h1; omega⟩
      simp only [↓aX, evp, evq, evl, boxK, stillV, binV, AV.cells, mP, loadV, storeV, ldV, AV.stb, AV.one, IV.av1, Lb.app, Lb.fresh, reduceCtorEq, ptrL, appL, fillA, chunks, ivs, AV.iv, mkE, if_false, if_true, List.not_mem_nil, forall_eq, beq_self_eq_true, List.isEmpty_nil, Nat.reduceEqDiff, Nat.reduceLT, Nat.reduceLeDiff, Nat.reduceAdd, Nat.reduceMul, Int.reduceToNat, Int.reduceLE, Int.reduceLT, List.length_map]
      cases h2 : decide ((m : Int) ≥ ((docOf t).length : Int)) with
      | true =>
        have : treeD (docOf t) m = (.mk false [] [] [], 3) := by unfold treeD; rw [if_pos hg, if_neg (by simp at h2; omega)]
        simp only [↓aX, evp, evq, evl, boxK, stillV, binV, AV.cells, mP, loadV, storeV, ldV, AV.stb, AV.one, IV.av1, Lb.app, Lb.fresh, reduceCtorEq, ptrL, appL, fillA, chunks, ivs, AV.iv, mkE, if_false, if_true, List.not_mem_nil, forall_eq, beq_self_eq_true, List.isEmpty_nil, Nat.reduceEqDiff, Nat.reduceLT, Nat.reduceLeDiff, Nat.reduceAdd, Nat.reduceMul, Int.reduceToNat, Int.reduceLE, Int.reduceLT, retm2_r]
        rw [this]
        rfl
      | false =>
        obtain ⟨q, y, l, s⟩ := lies_doc (t := t) (n := m) (by simp at h2; omega)
        simp only [↓aX, evp, evq, evl, boxK, stillV, binV, AV.cells, mP, loadV, storeV, ldV, AV.stb, AV.one, IV.av1, Lb.app, Lb.fresh, reduceCtorEq, ptrL, appL, fillA, chunks, ivs, AV.iv, mkE, if_false, if_true, List.not_mem_nil, forall_eq, beq_self_eq_true, List.isEmpty_nil, Nat.reduceEqDiff, Nat.reduceLT, Nat.reduceLeDiff, Nat.reduceAdd, Nat.reduceMul, Int.reduceToNat, Int.reduceLE, Int.reduceLT]
        refine callT_pure (hA m q y l) ?_
        simp only [↓aX, evp, evq, evl, boxK, stillV, binV, AV.cells, mP, loadV, storeV, ldV, AV.stb, AV.one, IV.av1, Lb.app, Lb.fresh, reduceCtorEq, ptrL, appL, fillA, chunks, ivs, AV.iv, mkE, if_false, if_true, List.not_mem_nil, forall_eq, beq_self_eq_true, List.isEmpty_nil, Nat.reduceEqDiff, Nat.reduceLT, Nat.reduceLeDiff, Nat.reduceAdd, Nat.reduceMul, Int.reduceToNat, Int.reduceLE, Int.reduceLT, retm2_r, Tree.av]
        rw [treeD_of ht s]
        rfl
def c_doc_End (f_doc_Good : Nat) : AC :=
(.seq (.reg [⟨(some 2), none, (.box (.t 0))⟩, ⟨(some 4), none, (.mov (.c (.int .i64 0)))⟩]) (.seq (.seq (.reg [⟨(some 5), none, (.load (some 1) (.t 2))⟩, ⟨(some 6), none, (.call f_doc_Good [(.t 5)])⟩, ⟨(some 7), none, (.not (.t 6))⟩, ⟨(some 8), none, (.mov (.t 7))⟩, ⟨(some 9), (some (8, false)), (.mov (.t 1))⟩, ⟨(some 10), (some (8, false)), (.bin .lss (.t 9) (.c (.int .i64 0)))⟩, ⟨(some 11), none, (.pick (.t 8) (.c (.bool true)) (.t 10))⟩, ⟨(some 12), none, (.mov (.t 11))⟩, ⟨(some 13), (some (12, false)), (.mov (.t 1))⟩, ⟨(some 14), (some (12, false)), (.fld (.t 2) 0)⟩, ⟨(some 15), (some (12, false)), (.load none (.t 14))⟩, ⟨(some 16), (some (12, false)), (.len (.t 15))⟩, ⟨(some 17), (some (12, false)), (.bin .geq (.t 13) (.t 16))⟩, ⟨(some 18), none, (.pick (.t 12) (.c (.bool true)) (.t 17))⟩]) (.cond (.t 18) (.seq (.reg [⟨(some 4), none, (.mov (.c (.int .i64 0)))⟩]) .ret) .skip)) (.seq (.block 0 (.loop (.seq (.seq (.reg [⟨(some 19), none, (.fld (.t 2) 0)⟩, ⟨(some 20), none, (.load none (.t 19))⟩, ⟨(some 21), none, (.mov (.t 1))⟩, ⟨(some 22), none, (.ixa (.t 20) (.t 21) 5)⟩, ⟨(some 23), none, (.fld (.t 22) 4)⟩, ⟨(some 24), none, (.load none (.t 23))⟩, ⟨(some 25), none, (.len (.t 24))⟩, ⟨(some 26), none, (.bin .gtr (.t 25) (.c (.int .i64 0)))⟩]) (.cond (.t 26) .skip (.exit 0))) (.block 1 (.dreg [⟨(some 27), none, (.fld (.t 2) 0)⟩, ⟨(some 28), none, (.load none (.t 27))⟩, ⟨(some 29), none, (.mov (.t 1))⟩, ⟨(some 30), none, (.ixa (.t 28) (.t 29) 5)⟩, ⟨(some 31), none, (.fld (.t 30) 4)⟩, ⟨(some 32), none, (.load none (.t 31))⟩, ⟨(some 33), none, (.fld (.t 2) 0)⟩, ⟨(some 34), none, (.load none (.t 33))⟩, ⟨(some 35), none, (.mov (.t 1))⟩, ⟨(some 36), none, (.ixa (.t 34) (.t 35) 5)⟩, ⟨(some 37), none, (.fld (.t 36) 4)⟩, ⟨(some 38), none, (.load none (.t 37))⟩, ⟨(some 39), none, (.len (.t 38))⟩, ⟨(some 40), none, (.bin .sub (.t 39) (.c (.int .i64 1)))⟩, ⟨(some 41), none, (.ixa (.t 32) (.t 40) 1)⟩, ⟨(some 42), none, (.load none (.t 41))⟩, ⟨(some 1), none, (.mov (.t 42))⟩] [[], [0], [], [1, 2], [3], [4], [], [6], [], [7, 8], [9], [10], [11], [12], [5, 13], [14], [15, 0, 1, 2, 3, 4, 5, 6, 7, 8, 9, 10, 11, 12, 13, 14, 15]] [.no, .rw [.loc 2] [], .no, .no, .no, .no, .no, .rw [.loc 2] [], .no, .no, .no, .no, .no, .no, .no, .no, .no]))))) (.seq (.reg [⟨(some 43), none, (.mov (.t 1))⟩, ⟨(some 44), none, (.bin .add (.t 43) (.c (.int .i64 1)))⟩, ⟨(some 4), none, (.mov (.t 44))⟩]) .ret))))
theorem intCells (n : Int) : (intIV n).cells = [.int .i64 n] := rfl
theorem kids_last {d : Doc} {n : Nat} {q : Int} {y : Tree} (h : Lies d n q y) (h0 : 0 < y.kids.length) : ∃ (k : Tree) (m : Nat), (kidsAt (n + 1) y.kids)[y.kids.length - 1]? = some (m : Int) ∧ Lies d m n k ∧ m + k.cnt = n + y.cnt ∧ n < m := by
  have hlt : y.kids.length - 1 < y.kids.length := by omega
  obtain ⟨k, hk⟩ : ∃ k, y.kids[y.kids.length - 1]? = some k := ⟨_, List.getElem?_eq_getElem hlt⟩
  have hsp : y.kids = y.kids.take (y.kids.length - 1) ++ k :: y.kids.drop (y.kids.length - 1 + 1) := by rw [← drop_eq hk, List.take_append_drop]
  have hL := h.kid _ _ k hsp
  refine ⟨k, n + 1 + cntT (y.kids.take (y.kids.length - 1)), kidsAt_get _ _ _ hlt, hL, ?_, by omega⟩
  have hc := y.cnt_eq
  have hd : y.kids.drop (y.kids.length - 1 + 1) = [] := List.drop_eq_nil_of_le (by omega)
  rw [hd] at hsp
  have : cntT y.kids = cntT (y.kids.take (y.kids.length - 1)) + k.cnt := by
    have := congrArg cntT hsp
    rw [cntT_app] at this
    simpa [cntT] using this
  omega
theorem pDocEnd {P : Program} {G : Nat → Option (List IV)} {f_doc_End f_doc_Good : Nat} (hF : compF P G f_doc_End = some (45, [(none, 4)], (c_doc_End f_doc_Good).bare)) (d : Doc) (hd : wtN d ≤ B) (n : Int)
    (hG : PureC P G f_doc_Good [Doc.av d] (.bool (isDoc d))) : PureC P G f_doc_End [Doc.av d, .int .i64 n] (.int .i64 (endD d n)) := by
  refine pure_of_go hF (by simp) (by simp [lbss, AV.lbs, Doc.av]) (by simp [AV.lbs]) ?_
  have hlen := wtN_len d
  unfold c_doc_End
  simp only [↓aX, evp, evq, evl, boxK, stillV, binV, AV.cells, mP, loadV, storeV, ldV, AV.stb, AV.one, IV.av1, Lb.app, Lb.fresh, reduceCtorEq, ptrL, appL, fillA, chunks, ivs, AV.iv, mkE, if_false, if_true, List.not_mem_nil, forall_eq, beq_self_eq_true, List.isEmpty_nil, Nat.reduceEqDiff, Nat.reduceLT, Nat.reduceLeDiff, Nat.reduceAdd, Nat.reduceMul, Int.reduceToNat, Int.reduceLE, Int.reduceLT, Doc.av, List.length_map]
  refine callT_pure hG ?_
  cases hg : isDoc d with
  | false =>
    have : endD d n = 0 := endD_out (by rw [hg]; simp)
    simp only [↓aX, evp, evq, evl, boxK, stillV, binV, AV.cells, mP, loadV, storeV, ldV, AV.stb, AV.one, IV.av1, Lb.app, Lb.fresh, reduceCtorEq, ptrL, appL, fillA, chunks, ivs, AV.iv, mkE, if_false, if_true, List.not_mem_nil, forall_eq, beq_self_eq_true, List.isEmpty_nil, Nat.reduceEqDiff, Nat.reduceLT, Nat.reduceLeDiff, Nat.reduceAdd, Nat.reduceMul, Int.reduceToNat, Int.reduceLE, Int.reduceLT, this]
  | true =>
    obtain ⟨t, ht, rfl⟩ := isDoc_iff.1 hg
    simp only [↓aX, evp, evq, evl, boxK, stillV, binV, AV.cells, mP, loadV, storeV, ldV, AV.stb, AV.one, IV.av1, Lb.app, Lb.fresh, reduceCtorEq, ptrL, appL, fillA, chunks, ivs, AV.iv, mkE, if_false, if_true, List.not_mem_nil, forall_eq, beq_self_eq_true, List.isEmpty_nil, Nat.reduceEqDiff, Nat.reduceLT, Nat.reduceLeDiff, Nat.reduceAdd, Nat.reduceMul, Int.reduceToNat, Int.reduceLE, Int.reduceLT, List.length_map]
    cases h1 : decide (n < 0) with
    | true =>
      have : endD (docOf t) n = 0 := endD_out (by simp at h1; omega)
      simp only [↓aX, evp, evq, evl, boxK, stillV, binV, AV.cells, mP, loadV, storeV, ldV, AV.stb, AV.one, IV.av1, Lb.app, Lb.fresh, reduceCtorEq, ptrL, appL, fillA, chunks, ivs, AV.iv, mkE, if_false, if_true, List.not_mem_nil, forall_eq, beq_self_eq_true, List.isEmpty_nil, Nat.reduceEqDiff, Nat.reduceLT, Nat.reduceLeDiff, Nat.reduceAdd, Nat.reduceMul, Int.reduceToNat, Int.reduceLE, Int.reduceLT, this]
    | false =>
      obtain ⟨m, rfl⟩ : ∃ m : Nat, n = m := ⟨n.toNat, by simp at h1; omega⟩
      simp only [↓aX, evp, evq, evl, boxK, stillV, binV, AV.cells, mP, loadV, storeV, ldV, AV.stb, AV.one, IV.av1, Lb.app, Lb.fresh, reduceCtorEq, ptrL, appL, fillA, chunks, ivs, AV.iv, mkE, if_false, if_true, List.not_mem_nil, forall_eq, beq_self_eq_true, List.isEmpty_nil, Nat.reduceEqDiff, Nat.reduceLT, Nat.reduceLeDiff, Nat.reduceAdd, Nat.reduceMul, Int.reduceToNat, Int.reduceLE, Int.reduceLT, List.length_map]
      cases h2 : decide ((m : Int) ≥ ((docOf t).length : Int)) with
      | true =>
        have : endD (docOf t) m = 0 := endD_out (by simp at h2; omega)
        simp only [↓aX, evp, evq, evl, boxK, stillV, binV, AV.cells, mP, loadV, storeV, ldV, AV.stb, AV.one, IV.av1, Lb.app, Lb.fresh, reduceCtorEq, ptrL, appL, fillA, chunks, ivs, AV.iv, mkE, if_false, if_true, List.not_mem_nil, forall_eq, beq_self_eq_true, List.isEmpty_nil, Nat.reduceEqDiff, Nat.reduceLT, Nat.reduceLeDiff, Nat.reduceAdd, Nat.reduceMul, Int.reduceToNat, Int.reduceLE, Int.reduceLT, this]
      | false =>
        obtain ⟨q, y, l, s⟩ := lies_doc (t := t) (n := m) (by simp at h2; omega)
        simp only [↓aX, evp, evq, evl, boxK, stillV, binV, AV.cells, mP, loadV, storeV, ldV, AV.stb, AV.one, IV.av1, Lb.app, Lb.fresh, reduceCtorEq, ptrL, appL, fillA, chunks, ivs, AV.iv, mkE, if_false, if_true, List.not_mem_nil, forall_eq, beq_self_eq_true, List.isEmpty_nil, Nat.reduceEqDiff, Nat.reduceLT, Nat.reduceLeDiff, Nat.reduceAdd, Nat.reduceMul, Int.reduceToNat, Int.reduceLE, Int.reduceLT, List.length_map]
        refine loop_same (σ := { z : Nat × Tree // (∃ q, Lies (docOf t) z.1 q z.2) ∧ z.1 + z.2.cnt = m + y.cnt }) [.loc 2]
          (fun z => [(1, .int .i64 z.1.1), (2, .ptr (.loc 2) 1 0 0)]) (fun _ => [(.loc 2, ⟨1, [[.list ((docOf t).map Node.iv)]]⟩)]) (fun z => z.1.2.cnt) ⟨(m, y), ⟨q, l⟩, rfl⟩
          (fun _ => rfl) (by decide) (by simp [lbss, AV.lbs]) (by simp [lbss, AV.lbs]) ?_ ?_
        · exact WS_mk (by simp only [NFx_loc, NFx_none]) (by repeat' constructor) (by repeat' constructor)
        · rintro ⟨⟨i, z⟩, ⟨r, hL⟩, hc⟩
          simp only at hL hc
          have hnode := hL.node
          have hlt := (List.getElem?_eq_some_iff.1 hnode).1
          have hll := hL.len
          have hkn : (kidsAt (i + 1) z.kids).length = z.kids.length := kidsAt_len _ _
          simp only [↓aX, evp, evq, evl, boxK, stillV, binV, AV.cells, mP, loadV, storeV, ldV, AV.stb, AV.one, IV.av1, Lb.app, Lb.fresh, reduceCtorEq, ptrL, appL, fillA, chunks, ivs, AV.iv, mkE, if_false, if_true, List.not_mem_nil, forall_eq, beq_self_eq_true, List.isEmpty_nil, Nat.reduceEqDiff, Nat.reduceLT, Nat.reduceLeDiff, Nat.reduceAdd, Nat.reduceMul, Int.reduceToNat, Int.reduceLE, Int.reduceLT, ofH_nil, ofH_cons, List.length_map, Doc.get_iv hnode, elszN, Node.cells_eq, Node.cs, Tree.node, hkn]
          cases h3 : decide ((z.kids.length : Int) > 0) with
          | false =>
            have hk0 : z.kids = [] := by have := of_decide_eq_false h3; exact List.length_eq_zero_iff.1 (by omega)
            have hcz := z.cnt_eq
            rw [hk0] at hcz
            simp only [cntT] at hcz
            have hw : IntKind.i64.wrap ((i : Int) + 1) = ((i + 1 : Nat) : Int) := wrap64 (by omega) (by unfold B at hd; omega)
            simp only [↓aX, evp, evq, evl, boxK, stillV, binV, AV.cells, mP, loadV, storeV, ldV, AV.stb, AV.one, IV.av1, Lb.app, Lb.fresh, reduceCtorEq, ptrL, appL, fillA, chunks, ivs, AV.iv, mkE, if_false, if_true, List.not_mem_nil, forall_eq, beq_self_eq_true, List.isEmpty_nil, Nat.reduceEqDiff, Nat.reduceLT, Nat.reduceLeDiff, Nat.reduceAdd, Nat.reduceMul, Int.reduceToNat, Int.reduceLE, Int.reduceLT, hw]
            rw [endD_of ht l, ← hc, hcz]
          | true =>
            have h3' := of_decide_eq_true h3
            obtain ⟨k, j, hj, hLk, hck, hij⟩ := kids_last hL (by omega)
            have hwk := hL.wt
            have hkl := wtT_len z.kids
            have hwz := z.wt_eq
            have hw : IntKind.i64.wrap ((z.kids.length : Int) - 1) = ((z.kids.length - 1 : Nat) : Int) := by rw [wrap64 (by omega) (by unfold B at hd; omega)]; omega
            have hcz := z.cnt_eq
            have hll2 := hLk.len
            simp only [↓aX, evp, evq, evl, boxK, stillV, binV, AV.cells, mP, loadV, storeV, ldV, AV.stb, AV.one, IV.av1, Lb.app, Lb.fresh, reduceCtorEq, ptrL, appL, fillA, chunks, ivs, AV.iv, mkE, if_false, if_true, List.not_mem_nil, forall_eq, beq_self_eq_true, List.isEmpty_nil, Nat.reduceEqDiff, Nat.reduceLT, Nat.reduceLeDiff, Nat.reduceAdd, Nat.reduceMul, Int.reduceToNat, Int.reduceLE, Int.reduceLT, List.length_map, Doc.get_iv hnode, elszN, Node.cells_eq, Node.cs, Tree.node, hkn, hw, intGet, hj, elszI, Option.map_some, intCells]
            refine ⟨rfl, ?_⟩
            refine ⟨⟨(j, k), ⟨_, hLk⟩, by simp only; omega⟩, by simp only; omega, WS_mk (by simp only [NFx_loc, NFx_none]) (by repeat' constructor) (by repeat' constructor)⟩
end Go.Am

/- Content; what is told; sameness, once more. -/
namespace Go.Am
open Go Go.RowKit
def c_tree_Content (f_tree_Size f_tree_fines : Nat) : AC :=
(.seq (.reg [⟨(some 2), none, (.mov (.c (.bool false)))⟩]) (.seq (.reg [⟨(some 3), none, (.mov (.c (.int .i64 0)))⟩]) (.seq (.seq (.reg [⟨(some 8), none, (.mov (.t 0))⟩, ⟨(some 9), none, (.len (.t 8))⟩, ⟨(some 10), none, (.mov (.c (.int .i64 0)))⟩]) (.block 0 (.loop (.seq (.reg [⟨(some 11), none, (.bin .lss (.t 10) (.t 9))⟩]) (.seq (.cond (.t 11) .skip (.exit 0)) (.seq (.block 1 (.seq (.reg [⟨(some 12), none, (.ixa (.t 8) (.t 10) 4)⟩, ⟨(some 13), none, (.load (some 4) (.t 12))⟩, ⟨(some 5), none, (.new [(.bool false), (.str []), .nil0, .nil0])⟩, ⟨none, none, (.store 4 (.t 5) (.t 13))⟩]) (.seq (.reg [⟨(some 15), none, (.load (some 4) (.t 5))⟩, ⟨(some 16), none, (.call f_tree_Size [(.t 15)])⟩, ⟨(some 14), none, (.mov (.t 16))⟩, ⟨(some 17), none, (.ext (.t 14) 0)⟩, ⟨(some 18), none, (.ext (.t 14) 1)⟩, ⟨(some 6), none, (.mov (.t 17))⟩, ⟨(some 7), none, (.mov (.t 18))⟩]) (.seq (.seq (.reg [⟨(some 19), none, (.mov (.t 6))⟩, ⟨(some 20), none, (.bin .gtr (.t 19) (.c (.int .i64 8)))⟩]) (.cond (.t 20) (.seq (.reg [⟨(some 2), none, (.mov (.c (.bool false)))⟩]) .ret) .skip)) (.reg [⟨(some 21), none, (.mov (.t 3))⟩, ⟨(some 22), none, (.mov (.t 7))⟩, ⟨(some 23), none, (.bin .add (.t 21) (.t 22))⟩, ⟨(some 3), none, (.mov (.t 23))⟩]))))) (.reg [⟨(some 24), none, (.bin .add (.t 10) (.c (.int .i64 1)))⟩, ⟨(some 10), none, (.mov (.t 24))⟩]))))))) (.seq (.reg [⟨(some 25), none, (.mov (.t 3))⟩, ⟨(some 26), none, (.bin .leq (.t 25) (.c (.int .i64 80)))⟩, ⟨(some 27), none, (.mov (.t 26))⟩, ⟨(some 28), (some (27, true)), (.mov (.t 0))⟩, ⟨(some 29), (some (27, true)), (.call f_tree_fines [(.t 28)])⟩, ⟨(some 30), none, (.pick (.t 27) (.t 29) (.c (.bool false)))⟩, ⟨(some 2), none, (.mov (.t 30))⟩]) .ret))))
/-- May trees be put in? -/
def content (l : List Tree) : Bool := l.all (fun x => decide (x.dep ≤ 8)) && (decide (cntT l ≤ 80) && fines none l)
theorem pContent {P : Program} {G : Nat → Option (List IV)} {f_tree_Content f_tree_Size f_tree_fines : Nat} (hF : compF P G f_tree_Content = some (31, [(none, 2)], (c_tree_Content f_tree_Size f_tree_fines).bare)) (l : List Tree) (hx : wtT l ≤ B)
    (hS : ∀ x ∈ l, PureC P G f_tree_Size [x.av] (.tup [.int .i64 x.dep, .int .i64 x.cnt])) (hFs : PureC P G f_tree_fines [.list (ivT l)] (.bool (fines none l))) : PureC P G f_tree_Content [.list (ivT l)] (.bool (content l)) := by
  refine pure_of_go hF (by simp) (by simp [lbss, AV.lbs]) (by simp [AV.lbs]) ?_
  have hl := wtT_len l
  unfold c_tree_Content
  simp only [↓aX, evp, evq, evl, boxK, stillV, binV, AV.cells, mP, loadV, storeV, ldV, AV.stb, AV.one, IV.av1, Lb.app, Lb.fresh, reduceCtorEq, ptrL, appL, fillA, chunks, ivs, AV.iv, mkE, if_false, if_true, List.not_mem_nil, forall_eq, beq_self_eq_true, List.isEmpty_nil, Nat.reduceEqDiff, Nat.reduceLT, Nat.reduceLeDiff, Nat.reduceAdd, Nat.reduceMul, Int.reduceToNat, Int.reduceLE, Int.reduceLT, ivT_len]
  refine loop_data (σ := { i : Nat // i ≤ l.length ∧ (l.take i).all (fun x => decide (x.dep ≤ 8)) = true }) (fun q => [(0, .list (ivT l)), (3, .int .i64 (cntT (l.take q.1))), (8, .list (ivT l)), (9, .int .i64 l.length), (10, .int .i64 q.1)]) (fun q => l.length - q.1) ⟨0, by simp⟩ (fun _ => rfl) ?_ ?_
  · exact ⟨by simp only [↓aX, evp, evq, evl, boxK, stillV, binV, AV.cells, mP, loadV, storeV, ldV, AV.stb, AV.one, IV.av1, Lb.app, Lb.fresh, reduceCtorEq, ptrL, appL, fillA, chunks, ivs, AV.iv, mkE, if_false, if_true, List.not_mem_nil, forall_eq, beq_self_eq_true, List.isEmpty_nil, Nat.reduceEqDiff, Nat.reduceLT, Nat.reduceLeDiff, Nat.reduceAdd, Nat.reduceMul, Int.reduceToNat, Int.reduceLE, Int.reduceLT], by repeat' constructor⟩
  · rintro ⟨i, hi, hs⟩
    simp only [↓aX, evp, evq, evl, boxK, stillV, binV, AV.cells, mP, loadV, storeV, ldV, AV.stb, AV.one, IV.av1, Lb.app, Lb.fresh, reduceCtorEq, ptrL, appL, fillA, chunks, ivs, AV.iv, mkE, if_false, if_true, List.not_mem_nil, forall_eq, beq_self_eq_true, List.isEmpty_nil, Nat.reduceEqDiff, Nat.reduceLT, Nat.reduceLeDiff, Nat.reduceAdd, Nat.reduceMul, Int.reduceToNat, Int.reduceLE, Int.reduceLT, ivT_len]
    refine cK_b (fun h => ?_) (fun h => ?_)
    · have hlt : i < l.length := by simpa using h
      obtain ⟨x, hxi⟩ : ∃ x, l[i]? = some x := ⟨_, List.getElem?_eq_getElem hlt⟩
      have hw : IntKind.i64.wrap ((i : Int) + 1) = ((i + 1 : Nat) : Int) := wrap64 (by omega) (by unfold B at hx; omega)
      have h2 := wtT_take l i
      have h3 := cntT_le (l.take i)
      have h5 := wtT_get _ _ _ hxi
      have h6 := x.cnt_le
      have h1 : l.take (i + 1) = l.take i ++ [x] := by rw [List.take_add_one, hxi]; rfl
      have hc : IntKind.i64.wrap ((cntT (l.take i) : Int) + (x.cnt : Int)) = ((cntT (l.take (i + 1)) : Nat) : Int) := by
        rw [wrap64 (by omega) (by unfold B at hx; omega), h1, cntT_app]; simp [cntT]
      simp only [↓aX, evp, evq, evl, boxK, stillV, binV, AV.cells, mP, loadV, storeV, ldV, AV.stb, AV.one, IV.av1, Lb.app, Lb.fresh, reduceCtorEq, ptrL, appL, fillA, chunks, ivs, AV.iv, mkE, if_false, if_true, List.not_mem_nil, forall_eq, beq_self_eq_true, List.isEmpty_nil, Nat.reduceEqDiff, Nat.reduceLT, Nat.reduceLeDiff, Nat.reduceAdd, Nat.reduceMul, Int.reduceToNat, Int.reduceLE, Int.reduceLT, ivT_get, hxi, elszT, Tree.cells_eq, Tree.cs]

      refine callT_pure (hS x (List.mem_of_getElem? hxi)) ?_
      simp only [↓aX, evp, evq, evl, boxK, stillV, binV, AV.cells, mP, loadV, storeV, ldV, AV.stb, AV.one, IV.av1, Lb.app, Lb.fresh, reduceCtorEq, ptrL, appL, fillA, chunks, ivs, AV.iv, mkE, if_false, if_true, List.not_mem_nil, forall_eq, beq_self_eq_true, List.isEmpty_nil, Nat.reduceEqDiff, Nat.reduceLT, Nat.reduceLeDiff, Nat.reduceAdd, Nat.reduceMul, Int.reduceToNat, Int.reduceLE, Int.reduceLT]
      refine cK_b (fun h9 => ?_) (fun h9 => ?_)
      · simp only [↓aX, evp, evq, evl, boxK, stillV, binV, AV.cells, mP, loadV, storeV, ldV, AV.stb, AV.one, IV.av1, Lb.app, Lb.fresh, reduceCtorEq, ptrL, appL, fillA, chunks, ivs, AV.iv, mkE, if_false, if_true, List.not_mem_nil, forall_eq, beq_self_eq_true, List.isEmpty_nil, Nat.reduceEqDiff, Nat.reduceLT, Nat.reduceLeDiff, Nat.reduceAdd, Nat.reduceMul, Int.reduceToNat, Int.reduceLE, Int.reduceLT]
        have : l.all (fun x => decide (x.dep ≤ 8)) = false := by
          rw [Bool.eq_false_iff]
          intro hall
          have := List.all_eq_true.1 hall x (List.mem_of_getElem? hxi)
          simp at this h9; omega
        rw [content, this]; rfl
      · simp only [↓aX, evp, evq, evl, boxK, stillV, binV, AV.cells, mP, loadV, storeV, ldV, AV.stb, AV.one, IV.av1, Lb.app, Lb.fresh, reduceCtorEq, ptrL, appL, fillA, chunks, ivs, AV.iv, mkE, if_false, if_true, List.not_mem_nil, forall_eq, beq_self_eq_true, List.isEmpty_nil, Nat.reduceEqDiff, Nat.reduceLT, Nat.reduceLeDiff, Nat.reduceAdd, Nat.reduceMul, Int.reduceToNat, Int.reduceLE, Int.reduceLT, hw, hc]
        refine ⟨⟨i + 1, hlt, ?_⟩, by simp only; omega, by simp only [↓aX, evp, evq, evl, boxK, stillV, binV, AV.cells, mP, loadV, storeV, ldV, AV.stb, AV.one, IV.av1, Lb.app, Lb.fresh, reduceCtorEq, ptrL, appL, fillA, chunks, ivs, AV.iv, mkE, if_false, if_true, List.not_mem_nil, forall_eq, beq_self_eq_true, List.isEmpty_nil, Nat.reduceEqDiff, Nat.reduceLT, Nat.reduceLeDiff, Nat.reduceAdd, Nat.reduceMul, Int.reduceToNat, Int.reduceLE, Int.reduceLT], by repeat' constructor⟩
        rw [h1, List.all_append, hs]
        simp at h9 ⊢; omega
    · have hil : i = l.length := by simp at h; omega
      subst hil
      rw [List.take_length] at hs
      simp only [↓aX, evp, evq, evl, boxK, stillV, binV, AV.cells, mP, loadV, storeV, ldV, AV.stb, AV.one, IV.av1, Lb.app, Lb.fresh, reduceCtorEq, ptrL, appL, fillA, chunks, ivs, AV.iv, mkE, if_false, if_true, List.not_mem_nil, forall_eq, beq_self_eq_true, List.isEmpty_nil, Nat.reduceEqDiff, Nat.reduceLT, Nat.reduceLeDiff, Nat.reduceAdd, Nat.reduceMul, Int.reduceToNat, Int.reduceLE, Int.reduceLT, List.take_length]
      cases h9 : decide ((cntT l : Int) ≤ 80) with
      | true =>
        simp only [↓aX, evp, evq, evl, boxK, stillV, binV, AV.cells, mP, loadV, storeV, ldV, AV.stb, AV.one, IV.av1, Lb.app, Lb.fresh, reduceCtorEq, ptrL, appL, fillA, chunks, ivs, AV.iv, mkE, if_false, if_true, List.not_mem_nil, forall_eq, beq_self_eq_true, List.isEmpty_nil, Nat.reduceEqDiff, Nat.reduceLT, Nat.reduceLeDiff, Nat.reduceAdd, Nat.reduceMul, Int.reduceToNat, Int.reduceLE, Int.reduceLT]
        refine callT_pure hFs ?_
        simp only [↓aX, evp, evq, evl, boxK, stillV, binV, AV.cells, mP, loadV, storeV, ldV, AV.stb, AV.one, IV.av1, Lb.app, Lb.fresh, reduceCtorEq, ptrL, appL, fillA, chunks, ivs, AV.iv, mkE, if_false, if_true, List.not_mem_nil, forall_eq, beq_self_eq_true, List.isEmpty_nil, Nat.reduceEqDiff, Nat.reduceLT, Nat.reduceLeDiff, Nat.reduceAdd, Nat.reduceMul, Int.reduceToNat, Int.reduceLE, Int.reduceLT]
        have : decide (cntT l ≤ 80) = true := by simp at h9 ⊢; omega
        rw [content, hs, this]; rfl
      | false =>
        simp only [↓aX, evp, evq, evl, boxK, stillV, binV, AV.cells, mP, loadV, storeV, ldV, AV.stb, AV.one, IV.av1, Lb.app, Lb.fresh, reduceCtorEq, ptrL, appL, fillA, chunks, ivs, AV.iv, mkE, if_false, if_true, List.not_mem_nil, forall_eq, beq_self_eq_true, List.isEmpty_nil, Nat.reduceEqDiff, Nat.reduceLT, Nat.reduceLeDiff, Nat.reduceAdd, Nat.reduceMul, Int.reduceToNat, Int.reduceLE, Int.reduceLT]
        have : decide (cntT l ≤ 80) = false := by simp at h9 ⊢; omega
        rw [content, hs, this]; rfl
end Go.Am
