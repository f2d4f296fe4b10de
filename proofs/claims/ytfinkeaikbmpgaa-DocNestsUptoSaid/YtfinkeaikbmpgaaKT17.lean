import Derived.Test.YtfinkeaikbmpgaaKS2
import Derived.Test.YtfinkeaikbmpgaaT12
set_option linter.unusedSimpArgs false
set_option linter.unusedVariables false
set_option linter.unnecessarySimpa false
set_option linter.defProp false
/- Documents: which are good; what is told of them. -/
namespace Go.Am
open Go Go.RowKit

def Node.wt (x : Node) : Nat := 1 + x.s.length + wtA x.attrs + x.kids.length
def wtN : Doc → Nat
  | [] => 0
  | x :: r => x.wt + wtN r
theorem wtN_app : ∀ a b : Doc, wtN (a ++ b) = wtN a + wtN b
  | [], b => by simp [wtN]
  | x :: r, b => by simp [wtN, wtN_app r b, Nat.add_assoc]
theorem wtN_len : ∀ d : Doc, d.length ≤ wtN d
  | [] => by simp
  | x :: r => by have := wtN_len r; simp only [wtN, Node.wt, List.length_cons]; omega
theorem wtN_mem : ∀ {d : Doc} {x : Node}, x ∈ d → x.wt ≤ wtN d
  | [], x, h => by simp at h
  | y :: r, x, h => by
    simp only [List.mem_cons] at h
    rcases h with rfl | h
    · simp [wtN]
    · have := wtN_mem h; simp only [wtN]; omega
mutual
theorem Tree.wt_flat (off : Nat) (p : Int) : ∀ x : Tree, x.wt ≤ wtN (x.flat off p)
  | .mk t s as ks => by
    have := wt_flats (off + 1) off ks
    simp only [Tree.flat, wtN, Node.wt, Tree.wt]; omega
theorem wt_flats (off p : Nat) : ∀ xs : List Tree, wtT xs ≤ wtN (flats off p xs)
  | [] => by simp [wtT]
  | k :: r => by
    have := k.wt_flat off p
    have := wt_flats (off + k.cnt) p r
    simp only [flats, wtN_app, wtT]; omega
end
theorem Lies.wt {d : Doc} {n : Nat} {q : Int} {y : Tree} (h : Lies d n q y) : y.wt ≤ wtN d := by
  obtain ⟨post, h⟩ := h
  have h1 := y.wt_flat n q
  have h2 := wtN_app (d.take n) (d.drop n)
  rw [List.take_append_drop, h, wtN_app] at h2
  omega

section
variable {P : Program} {G : Nat → Option (List IV)}
theorem wAt {f_doc_at f_slices_Clone_Attr_Attr : Nat} (hF : compF P G f_doc_at = some (39, [((some (some 4)), 4)], (c_doc_at f_slices_Clone_Attr_Attr f_doc_at).bare)) (hC : ∀ xs : List Attr, xs.length ≤ B → PureC P G f_slices_Clone_Attr_Attr [.list (ivA xs)] (.list (ivA xs))) (d : Doc) (hd : wtN d ≤ B) (n : Nat) (q : Int) (x : Tree) (hL : Lies d n q x) :
    PureC P G f_doc_at [Doc.av d, .int .i64 n] x.av := by
  have key := byWt (M := fun l => ∀ x ∈ l, ∀ (n : Nat) (q : Int), Lies d n q x → PureC P G f_doc_at [Doc.av d, .int .i64 n] x.av)
    (fun l h x hx n q hL => pAt hF d (by have := wtN_len d; omega) n q x hL (by have := hL.wt; omega) (hC _ (by have := hL.wt; have := wt_attrs x; have := wtA_len x.attrs; omega)) fun k hk m p hL' => h x hx k hk m p hL')
  exact key [x] x (by simp) n q hL
end

theorem isDoc_docOf (x : Tree) : isDoc (docOf x) = x.good := by
  cases h : x.good with
  | true => exact isDoc_of h
  | false => exact isDoc_not fun ⟨y, h1, h2⟩ => by rw [docOf_inj h2, h1] at h; cases h
theorem IsDoc.len {d : Doc} (h : IsDoc d) : 1 ≤ d.length ∧ d.length ≤ 80 := by
  obtain ⟨x, hx, rfl⟩ := h
  have := (good_iff x).1 hx
  have := x.cnt_pos
  rw [docOf_len]; omega
theorem IsDoc.wk {d : Doc} (h : IsDoc d) : wk d 8 0 (-1) 0 = some (d.length : Int) := by
  obtain ⟨x, hx, rfl⟩ := h
  exact wk_doc' ((good_iff x).1 hx).2.1

def c_doc_Good (f_doc_walk f_doc_at f_tree_Good : Nat) : AC :=
(.seq (.reg [⟨(some 1), none, (.box (.t 0))⟩, ⟨(some 2), none, (.mov (.c (.bool false)))⟩]) (.seq (.seq (.reg [⟨(some 4), none, (.fld (.t 1) 0)⟩, ⟨(some 5), none, (.load none (.t 4))⟩, ⟨(some 6), none, (.len (.t 5))⟩, ⟨(some 7), none, (.bin .lss (.t 6) (.c (.int .i64 1)))⟩, ⟨(some 8), none, (.mov (.t 7))⟩, ⟨(some 9), (some (8, false)), (.fld (.t 1) 0)⟩, ⟨(some 10), (some (8, false)), (.load none (.t 9))⟩, ⟨(some 11), (some (8, false)), (.len (.t 10))⟩, ⟨(some 12), (some (8, false)), (.bin .gtr (.t 11) (.c (.int .i64 80)))⟩, ⟨(some 13), none, (.pick (.t 8) (.c (.bool true)) (.t 12))⟩]) (.cond (.t 13) (.seq (.reg [⟨(some 2), none, (.mov (.c (.bool false)))⟩]) .ret) .skip)) (.seq (.reg [⟨(some 3), none, (.new [(.int .i64 0)])⟩, ⟨none, none, (.store 1 (.t 3) (.c (.int .i64 0)))⟩]) (.seq (.seq (.reg [⟨(some 14), none, (.load (some 1) (.t 1))⟩, ⟨(some 15), none, (.call f_doc_walk [(.t 14), (.c (.int .i64 0)), (.c (.int .i64 (-1))), (.c (.int .i64 1)), (.t 3)])⟩, ⟨(some 16), none, (.not (.t 15))⟩, ⟨(some 17), none, (.mov (.t 16))⟩, ⟨(some 18), (some (17, false)), (.load none (.t 3))⟩, ⟨(some 19), (some (17, false)), (.fld (.t 1) 0)⟩, ⟨(some 20), (some (17, false)), (.load none (.t 19))⟩, ⟨(some 21), (some (17, false)), (.len (.t 20))⟩, ⟨(some 22), (some (17, false)), (.bin .neq (.t 18) (.t 21))⟩, ⟨(some 23), none, (.pick (.t 17) (.c (.bool true)) (.t 22))⟩]) (.cond (.t 23) (.seq (.reg [⟨(some 2), none, (.mov (.c (.bool false)))⟩]) .ret) .skip)) (.seq (.reg [⟨(some 24), none, (.load (some 1) (.t 1))⟩, ⟨(some 25), none, (.call f_doc_at [(.t 24), (.c (.int .i64 0))])⟩, ⟨(some 26), none, (.call f_tree_Good [(.t 25)])⟩, ⟨(some 2), none, (.mov (.t 26))⟩]) .ret)))))

theorem pDocGood {P : Program} {G : Nat → Option (List IV)} {f_doc_Good f_doc_walk f_doc_at f_tree_Good : Nat} (hF : compF P G f_doc_Good = some (27, [(none, 2)], (c_doc_Good f_doc_walk f_doc_at f_tree_Good).bare)) (d : Doc) (hd : wtN d ≤ B)
    (hW : MutC P G f_doc_walk [Doc.av d, .int .i64 0, .int .i64 (-1), .int .i64 (9 - ((8 : Nat) : Int)), .ptr (.par 0) 1 0 0] [.int .i64 0] fun x cs => ∃ v, x = .bool (wk d 8 0 (-1) 0).isSome ∧ cs = [.int .i64 v] ∧ ∀ r, wk d 8 0 (-1) 0 = some r → v = r)
    (hA : ∀ x, d = docOf x → PureC P G f_doc_at [Doc.av d, .int .i64 0] x.av) (hG : ∀ x, d = docOf x → PureC P G f_tree_Good [x.av] (.bool x.good)) : PureC P G f_doc_Good [Doc.av d] (.bool (isDoc d)) := by
  refine pure_of_go hF (by simp) (by simp [lbss, AV.lbs, Doc.av]) (by simp [AV.lbs]) ?_
  have hlen := wtN_len d
  unfold c_doc_Good
  simp only [↓evs, evp, evq, evl, boxK, ↓a1_still, stillV, ↓af_still, ↓af_load, ↓af_store, ↓af_app, ↓af_new, ↓af_box, binV, AV.cells, Lb.loc.injEq, Lb.par.injEq, Lb.gen.injEq, loadV, storeV, ldV, AV.stb, AV.one, IV.av1, Lb.app, Lb.fresh, reduceCtorEq, Bool.false_eq_true, ptrL, appL, fillA, chunks, ivs, AV.iv, mkE, if_false, if_true, List.not_mem_nil, forall_eq, Nat.reduceEqDiff, Nat.reduceLT, Nat.reduceLeDiff, Nat.reduceAdd, Nat.reduceMul, Int.reduceToNat, Int.reduceLE, Int.reduceLT, Int.le_refl, Int.toNat_zero, beq_self_eq_true, List.isEmpty_nil, Doc.av, List.length_map]
  cases h1 : decide ((d.length : Int) < 1) with
  | true =>
    have : isDoc d = false := isDoc_not fun h => by have := h.len; simp at h1; omega
    simp only [↓evs, evp, evq, evl, boxK, ↓a1_still, stillV, ↓af_still, ↓af_load, ↓af_store, ↓af_app, ↓af_new, ↓af_box, binV, AV.cells, Lb.loc.injEq, Lb.par.injEq, Lb.gen.injEq, loadV, storeV, ldV, AV.stb, AV.one, IV.av1, Lb.app, Lb.fresh, reduceCtorEq, Bool.false_eq_true, ptrL, appL, fillA, chunks, ivs, AV.iv, mkE, if_false, if_true, List.not_mem_nil, forall_eq, Nat.reduceEqDiff, Nat.reduceLT, Nat.reduceLeDiff, Nat.reduceAdd, Nat.reduceMul, Int.reduceToNat, Int.reduceLE, Int.reduceLT, Int.le_refl, Int.toNat_zero, beq_self_eq_true, List.isEmpty_nil, this]
  | false =>
    cases h2 : decide ((d.length : Int) > 80) with
    | true =>
      have : isDoc d = false := isDoc_not fun h => by have := h.len; simp at h2; omega
      simp only [↓evs, evp, evq, evl, boxK, ↓a1_still, stillV, ↓af_still, ↓af_load, ↓af_store, ↓af_app, ↓af_new, ↓af_box, binV, AV.cells, Lb.loc.injEq, Lb.par.injEq, Lb.gen.injEq, loadV, storeV, ldV, AV.stb, AV.one, IV.av1, Lb.app, Lb.fresh, reduceCtorEq, Bool.false_eq_true, ptrL, appL, fillA, chunks, ivs, AV.iv, mkE, if_false, if_true, List.not_mem_nil, forall_eq, Nat.reduceEqDiff, Nat.reduceLT, Nat.reduceLeDiff, Nat.reduceAdd, Nat.reduceMul, Int.reduceToNat, Int.reduceLE, Int.reduceLT, Int.le_refl, Int.toNat_zero, beq_self_eq_true, List.isEmpty_nil, List.length_map, h2, this]
    | false =>
      simp only [↓evs, evp, evq, evl, boxK, ↓a1_still, stillV, ↓af_still, ↓af_load, ↓af_store, ↓af_app, ↓af_new, ↓af_box, binV, AV.cells, Lb.loc.injEq, Lb.par.injEq, Lb.gen.injEq, loadV, storeV, ldV, AV.stb, AV.one, IV.av1, Lb.app, Lb.fresh, reduceCtorEq, Bool.false_eq_true, ptrL, appL, fillA, chunks, ivs, AV.iv, mkE, if_false, if_true, List.not_mem_nil, forall_eq, Nat.reduceEqDiff, Nat.reduceLT, Nat.reduceLeDiff, Nat.reduceAdd, Nat.reduceMul, Int.reduceToNat, Int.reduceLE, Int.reduceLT, Int.le_refl, Int.toNat_zero, beq_self_eq_true, List.isEmpty_nil, List.length_map, h2]
      refine callT_mut (l := .loc 3) hW rfl (by simp only [↓evs, evp, evq, evl, boxK, ↓a1_still, stillV, ↓af_still, ↓af_load, ↓af_store, ↓af_app, ↓af_new, ↓af_box, binV, AV.cells, Lb.loc.injEq, Lb.par.injEq, Lb.gen.injEq, loadV, storeV, ldV, AV.stb, AV.one, IV.av1, Lb.app, Lb.fresh, reduceCtorEq, Bool.false_eq_true, ptrL, appL, fillA, chunks, ivs, AV.iv, mkE, if_false, if_true, List.not_mem_nil, forall_eq, Nat.reduceEqDiff, Nat.reduceLT, Nat.reduceLeDiff, Nat.reduceAdd, Nat.reduceMul, Int.reduceToNat, Int.reduceLE, Int.reduceLT, Int.le_refl, Int.toNat_zero, beq_self_eq_true, List.isEmpty_nil]; try rfl) ?_
      rintro x1 cs' ⟨v, rfl, rfl, hv⟩ _ _ _
      cases hr : wk d 8 0 (-1) 0 with
      | none =>
        have : isDoc d = false := isDoc_not fun h => by have := h.wk; rw [hr] at this; cases this
        simp only [↓evs, evp, evq, evl, boxK, ↓a1_still, stillV, ↓af_still, ↓af_load, ↓af_store, ↓af_app, ↓af_new, ↓af_box, binV, AV.cells, Lb.loc.injEq, Lb.par.injEq, Lb.gen.injEq, loadV, storeV, ldV, AV.stb, AV.one, IV.av1, Lb.app, Lb.fresh, reduceCtorEq, Bool.false_eq_true, ptrL, appL, fillA, chunks, ivs, AV.iv, mkE, if_false, if_true, List.not_mem_nil, forall_eq, Nat.reduceEqDiff, Nat.reduceLT, Nat.reduceLeDiff, Nat.reduceAdd, Nat.reduceMul, Int.reduceToNat, Int.reduceLE, Int.reduceLT, Int.le_refl, Int.toNat_zero, beq_self_eq_true, List.isEmpty_nil, Option.isSome_none, Bool.not_false, this]
      | some r =>
        have := hv r hr
        subst this
        simp only [↓evs, evp, evq, evl, boxK, ↓a1_still, stillV, ↓af_still, ↓af_load, ↓af_store, ↓af_app, ↓af_new, ↓af_box, binV, AV.cells, Lb.loc.injEq, Lb.par.injEq, Lb.gen.injEq, loadV, storeV, ldV, AV.stb, AV.one, IV.av1, Lb.app, Lb.fresh, reduceCtorEq, Bool.false_eq_true, ptrL, appL, fillA, chunks, ivs, AV.iv, mkE, if_false, if_true, List.not_mem_nil, forall_eq, Nat.reduceEqDiff, Nat.reduceLT, Nat.reduceLeDiff, Nat.reduceAdd, Nat.reduceMul, Int.reduceToNat, Int.reduceLE, Int.reduceLT, Int.le_refl, Int.toNat_zero, beq_self_eq_true, List.isEmpty_nil, Option.isSome_some, Bool.not_true, List.length_map]
        cases h3 : (v != (d.length : Int)) with
        | true =>
          have : isDoc d = false := isDoc_not fun h => by have := h.wk; rw [hr] at this; cases this; simp at h3
          simp only [↓evs, evp, evq, evl, boxK, ↓a1_still, stillV, ↓af_still, ↓af_load, ↓af_store, ↓af_app, ↓af_new, ↓af_box, binV, AV.cells, Lb.loc.injEq, Lb.par.injEq, Lb.gen.injEq, loadV, storeV, ldV, AV.stb, AV.one, IV.av1, Lb.app, Lb.fresh, reduceCtorEq, Bool.false_eq_true, ptrL, appL, fillA, chunks, ivs, AV.iv, mkE, if_false, if_true, List.not_mem_nil, forall_eq, Nat.reduceEqDiff, Nat.reduceLT, Nat.reduceLeDiff, Nat.reduceAdd, Nat.reduceMul, Int.reduceToNat, Int.reduceLE, Int.reduceLT, Int.le_refl, Int.toNat_zero, beq_self_eq_true, List.isEmpty_nil, this]
        | false =>
          have hvl : v = d.length := by simpa using h3
          rw [hvl] at hr
          obtain ⟨x, hx1, hx2⟩ := wk_doc hr
          simp only [↓evs, evp, evq, evl, boxK, ↓a1_still, stillV, ↓af_still, ↓af_load, ↓af_store, ↓af_app, ↓af_new, ↓af_box, binV, AV.cells, Lb.loc.injEq, Lb.par.injEq, Lb.gen.injEq, loadV, storeV, ldV, AV.stb, AV.one, IV.av1, Lb.app, Lb.fresh, reduceCtorEq, Bool.false_eq_true, ptrL, appL, fillA, chunks, ivs, AV.iv, mkE, if_false, if_true, List.not_mem_nil, forall_eq, Nat.reduceEqDiff, Nat.reduceLT, Nat.reduceLeDiff, Nat.reduceAdd, Nat.reduceMul, Int.reduceToNat, Int.reduceLE, Int.reduceLT, Int.le_refl, Int.toNat_zero, beq_self_eq_true, List.isEmpty_nil]
          refine callT_pure (hA x hx2) ?_
          simp only [↓evs, evp, evq, evl, boxK, ↓a1_still, stillV, ↓af_still, ↓af_load, ↓af_store, ↓af_app, ↓af_new, ↓af_box, binV, AV.cells, Lb.loc.injEq, Lb.par.injEq, Lb.gen.injEq, loadV, storeV, ldV, AV.stb, AV.one, IV.av1, Lb.app, Lb.fresh, reduceCtorEq, Bool.false_eq_true, ptrL, appL, fillA, chunks, ivs, AV.iv, mkE, if_false, if_true, List.not_mem_nil, forall_eq, Nat.reduceEqDiff, Nat.reduceLT, Nat.reduceLeDiff, Nat.reduceAdd, Nat.reduceMul, Int.reduceToNat, Int.reduceLE, Int.reduceLT, Int.le_refl, Int.toNat_zero, beq_self_eq_true, List.isEmpty_nil]
          refine callT_pure (hG x hx2) ?_
          simp only [↓evs, evp, evq, evl, boxK, ↓a1_still, stillV, ↓af_still, ↓af_load, ↓af_store, ↓af_app, ↓af_new, ↓af_box, binV, AV.cells, Lb.loc.injEq, Lb.par.injEq, Lb.gen.injEq, loadV, storeV, ldV, AV.stb, AV.one, IV.av1, Lb.app, Lb.fresh, reduceCtorEq, Bool.false_eq_true, ptrL, appL, fillA, chunks, ivs, AV.iv, mkE, if_false, if_true, List.not_mem_nil, forall_eq, Nat.reduceEqDiff, Nat.reduceLT, Nat.reduceLeDiff, Nat.reduceAdd, Nat.reduceMul, Int.reduceToNat, Int.reduceLE, Int.reduceLT, Int.le_refl, Int.toNat_zero, beq_self_eq_true, List.isEmpty_nil]
          rw [hx2, isDoc_docOf]

def c_doc_Tree (f_doc_Good f_doc_at : Nat) : AC :=
(.seq (.reg [⟨(some 2), none, (.box (.t 0))⟩, ⟨(some 4), none, (.new [(.bool false), (.str []), .nil0, .nil0])⟩, ⟨(some 5), none, (.mov (.c (.int .i64 0)))⟩]) (.seq (.seq (.reg [⟨(some 6), none, (.load (some 1) (.t 2))⟩, ⟨(some 7), none, (.call f_doc_Good [(.t 6)])⟩, ⟨(some 8), none, (.not (.t 7))⟩]) (.cond (.t 8) (.seq (.reg [⟨(some 9), none, (.bld [(.bool false), (.str []), .nil0, .nil0] [])⟩, ⟨none, none, (.store 4 (.t 4) (.t 9))⟩, ⟨(some 5), none, (.mov (.c (.int .i64 1)))⟩]) .ret) .skip)) (.seq (.seq (.reg [⟨(some 10), none, (.mov (.t 1))⟩, ⟨(some 11), none, (.bin .lss (.t 10) (.c (.int .i64 0)))⟩, ⟨(some 12), none, (.mov (.t 11))⟩, ⟨(some 13), (some (12, false)), (.mov (.t 1))⟩, ⟨(some 14), (some (12, false)), (.fld (.t 2) 0)⟩, ⟨(some 15), (some (12, false)), (.load none (.t 14))⟩, ⟨(some 16), (some (12, false)), (.len (.t 15))⟩, ⟨(some 17), (some (12, false)), (.bin .geq (.t 13) (.t 16))⟩, ⟨(some 18), none, (.pick (.t 12) (.c (.bool true)) (.t 17))⟩]) (.cond (.t 18) (.seq (.reg [⟨(some 19), none, (.bld [(.bool false), (.str []), .nil0, .nil0] [])⟩, ⟨none, none, (.store 4 (.t 4) (.t 19))⟩, ⟨(some 5), none, (.mov (.c (.int .i64 3)))⟩]) .ret) .skip)) (.seq (.reg [⟨(some 20), none, (.load (some 1) (.t 2))⟩, ⟨(some 21), none, (.mov (.t 1))⟩, ⟨(some 22), none, (.call f_doc_at [(.t 20), (.t 21)])⟩, ⟨none, none, (.store 4 (.t 4) (.t 22))⟩, ⟨(some 5), none, (.mov (.c (.int .i64 0)))⟩]) .ret))))

theorem pDocTree {P : Program} {G : Nat → Option (List IV)} {f_doc_Tree f_doc_Good f_doc_at : Nat} (hF : compF P G f_doc_Tree = some (23, [((some (some 4)), 4), (none, 5)], (c_doc_Tree f_doc_Good f_doc_at).bare)) (d : Doc) (hd : wtN d ≤ B) (n : Int)
    (hG : PureC P G f_doc_Good [Doc.av d] (.bool (isDoc d))) (hA : ∀ (m : Nat) (q : Int) (x : Tree), Lies d m q x → PureC P G f_doc_at [Doc.av d, .int .i64 m] x.av) :
    PureC P G f_doc_Tree [Doc.av d, .int .i64 n] (.tup [(treeD d n).1.av, .int .i64 (treeD d n).2]) := by
  refine pure_of_goN hF (by simp) (by simp [lbss, AV.lbs, Doc.av]) (by simp [AV.lbs, lbss, Tree.av]) ?_
  unfold c_doc_Tree
  simp only [↓evs, evp, evq, evl, boxK, ↓a1_still, stillV, ↓af_still, ↓af_load, ↓af_store, ↓af_app, ↓af_new, ↓af_box, binV, AV.cells, Lb.loc.injEq, Lb.par.injEq, Lb.gen.injEq, loadV, storeV, ldV, AV.stb, AV.one, IV.av1, Lb.app, Lb.fresh, reduceCtorEq, Bool.false_eq_true, ptrL, appL, fillA, chunks, ivs, AV.iv, mkE, if_false, if_true, List.not_mem_nil, forall_eq, Nat.reduceEqDiff, Nat.reduceLT, Nat.reduceLeDiff, Nat.reduceAdd, Nat.reduceMul, Int.reduceToNat, Int.reduceLE, Int.reduceLT, Int.le_refl, Int.toNat_zero, beq_self_eq_true, List.isEmpty_nil, Doc.av, List.length_map]
  refine callT_pure hG ?_
  cases hg : isDoc d with
  | false =>
    simp only [↓evs, evp, evq, evl, boxK, ↓a1_still, stillV, ↓af_still, ↓af_load, ↓af_store, ↓af_app, ↓af_new, ↓af_box, binV, AV.cells, Lb.loc.injEq, Lb.par.injEq, Lb.gen.injEq, loadV, storeV, ldV, AV.stb, AV.one, IV.av1, Lb.app, Lb.fresh, reduceCtorEq, Bool.false_eq_true, ptrL, appL, fillA, chunks, ivs, AV.iv, mkE, if_false, if_true, List.not_mem_nil, forall_eq, Nat.reduceEqDiff, Nat.reduceLT, Nat.reduceLeDiff, Nat.reduceAdd, Nat.reduceMul, Int.reduceToNat, Int.reduceLE, Int.reduceLT, Int.le_refl, Int.toNat_zero, beq_self_eq_true, List.isEmpty_nil, retm2_r]
    simp [norm, norms, treeD, hg, Tree.av, Tree.text, Tree.s, Tree.attrs, Tree.kids]
    exact ⟨rfl, rfl⟩
  | true =>
    obtain ⟨t, ht, rfl⟩ := isDoc_iff.1 hg
    simp only [↓evs, evp, evq, evl, boxK, ↓a1_still, stillV, ↓af_still, ↓af_load, ↓af_store, ↓af_app, ↓af_new, ↓af_box, binV, AV.cells, Lb.loc.injEq, Lb.par.injEq, Lb.gen.injEq, loadV, storeV, ldV, AV.stb, AV.one, IV.av1, Lb.app, Lb.fresh, reduceCtorEq, Bool.false_eq_true, ptrL, appL, fillA, chunks, ivs, AV.iv, mkE, if_false, if_true, List.not_mem_nil, forall_eq, Nat.reduceEqDiff, Nat.reduceLT, Nat.reduceLeDiff, Nat.reduceAdd, Nat.reduceMul, Int.reduceToNat, Int.reduceLE, Int.reduceLT, Int.le_refl, Int.toNat_zero, beq_self_eq_true, List.isEmpty_nil, List.length_map]
    cases h1 : decide (n < 0) with
    | true =>
      have : treeD (docOf t) n = (.mk false [] [] [], 3) := by unfold treeD; rw [if_pos hg, if_neg (by simp at h1; omega)]
      simp only [↓evs, evp, evq, evl, boxK, ↓a1_still, stillV, ↓af_still, ↓af_load, ↓af_store, ↓af_app, ↓af_new, ↓af_box, binV, AV.cells, Lb.loc.injEq, Lb.par.injEq, Lb.gen.injEq, loadV, storeV, ldV, AV.stb, AV.one, IV.av1, Lb.app, Lb.fresh, reduceCtorEq, Bool.false_eq_true, ptrL, appL, fillA, chunks, ivs, AV.iv, mkE, if_false, if_true, List.not_mem_nil, forall_eq, Nat.reduceEqDiff, Nat.reduceLT, Nat.reduceLeDiff, Nat.reduceAdd, Nat.reduceMul, Int.reduceToNat, Int.reduceLE, Int.reduceLT, Int.le_refl, Int.toNat_zero, beq_self_eq_true, List.isEmpty_nil, retm2_r]
      rw [this]
      rfl
    | false =>
      obtain ⟨m, rfl⟩ : ∃ m : Nat, n = m := ⟨n.toNat, by simp at h1; omega⟩
      simp only [↓evs, evp, evq, evl, boxK, ↓a1_still, stillV, ↓af_still, ↓af_load, ↓af_store, ↓af_app, ↓af_new, ↓af_box, binV, AV.cells, Lb.loc.injEq, Lb.par.injEq, Lb.gen.injEq, loadV, storeV, ldV, AV.stb, AV.one, IV.av1, Lb.app, Lb.fresh, reduceCtorEq, Bool.false_eq_true, ptrL, appL, fillA, chunks, ivs, AV.iv, mkE, if_false, if_true, List.not_mem_nil, forall_eq, Nat.reduceEqDiff, Nat.reduceLT, Nat.reduceLeDiff, Nat.reduceAdd, Nat.reduceMul, Int.reduceToNat, Int.reduceLE, Int.reduceLT, Int.le_refl, Int.toNat_zero, beq_self_eq_true, List.isEmpty_nil, List.length_map]
      cases h2 : decide ((m : Int) ≥ ((docOf t).length : Int)) with
      | true =>
        have : treeD (docOf t) m = (.mk false [] [] [], 3) := by unfold treeD; rw [if_pos hg, if_neg (by simp at h2; omega)]
        simp only [↓evs, evp, evq, evl, boxK, ↓a1_still, stillV, ↓af_still, ↓af_load, ↓af_store, ↓af_app, ↓af_new, ↓af_box, binV, AV.cells, Lb.loc.injEq, Lb.par.injEq, Lb.gen.injEq, loadV, storeV, ldV, AV.stb, AV.one, IV.av1, Lb.app, Lb.fresh, reduceCtorEq, Bool.false_eq_true, ptrL, appL, fillA, chunks, ivs, AV.iv, mkE, if_false, if_true, List.not_mem_nil, forall_eq, Nat.reduceEqDiff, Nat.reduceLT, Nat.reduceLeDiff, Nat.reduceAdd, Nat.reduceMul, Int.reduceToNat, Int.reduceLE, Int.reduceLT, Int.le_refl, Int.toNat_zero, beq_self_eq_true, List.isEmpty_nil, retm2_r]
        rw [this]
        rfl
      | false =>
        obtain ⟨q, y, l, s⟩ := lies_doc (t := t) (n := m) (by simp at h2; omega)
        simp only [↓evs, evp, evq, evl, boxK, ↓a1_still, stillV, ↓af_still, ↓af_load, ↓af_store, ↓af_app, ↓af_new, ↓af_box, binV, AV.cells, Lb.loc.injEq, Lb.par.injEq, Lb.gen.injEq, loadV, storeV, ldV, AV.stb, AV.one, IV.av1, Lb.app, Lb.fresh, reduceCtorEq, Bool.false_eq_true, ptrL, appL, fillA, chunks, ivs, AV.iv, mkE, if_false, if_true, List.not_mem_nil, forall_eq, Nat.reduceEqDiff, Nat.reduceLT, Nat.reduceLeDiff, Nat.reduceAdd, Nat.reduceMul, Int.reduceToNat, Int.reduceLE, Int.reduceLT, Int.le_refl, Int.toNat_zero, beq_self_eq_true, List.isEmpty_nil]
        refine callT_pure (hA m q y l) ?_
        simp only [↓evs, evp, evq, evl, boxK, ↓a1_still, stillV, ↓af_still, ↓af_load, ↓af_store, ↓af_app, ↓af_new, ↓af_box, binV, AV.cells, Lb.loc.injEq, Lb.par.injEq, Lb.gen.injEq, loadV, storeV, ldV, AV.stb, AV.one, IV.av1, Lb.app, Lb.fresh, reduceCtorEq, Bool.false_eq_true, ptrL, appL, fillA, chunks, ivs, AV.iv, mkE, if_false, if_true, List.not_mem_nil, forall_eq, Nat.reduceEqDiff, Nat.reduceLT, Nat.reduceLeDiff, Nat.reduceAdd, Nat.reduceMul, Int.reduceToNat, Int.reduceLE, Int.reduceLT, Int.le_refl, Int.toNat_zero, beq_self_eq_true, List.isEmpty_nil, retm2_r, Tree.av]
        rw [treeD_of ht s]
        rfl

def c_doc_End (f_doc_Good : Nat) : AC :=
(.seq (.reg [⟨(some 2), none, (.box (.t 0))⟩, ⟨(some 4), none, (.mov (.c (.int .i64 0)))⟩]) (.seq (.seq (.reg [⟨(some 5), none, (.load (some 1) (.t 2))⟩, ⟨(some 6), none, (.call f_doc_Good [(.t 5)])⟩, ⟨(some 7), none, (.not (.t 6))⟩, ⟨(some 8), none, (.mov (.t 7))⟩, ⟨(some 9), (some (8, false)), (.mov (.t 1))⟩, ⟨(some 10), (some (8, false)), (.bin .lss (.t 9) (.c (.int .i64 0)))⟩, ⟨(some 11), none, (.pick (.t 8) (.c (.bool true)) (.t 10))⟩, ⟨(some 12), none, (.mov (.t 11))⟩, ⟨(some 13), (some (12, false)), (.mov (.t 1))⟩, ⟨(some 14), (some (12, false)), (.fld (.t 2) 0)⟩, ⟨(some 15), (some (12, false)), (.load none (.t 14))⟩, ⟨(some 16), (some (12, false)), (.len (.t 15))⟩, ⟨(some 17), (some (12, false)), (.bin .geq (.t 13) (.t 16))⟩, ⟨(some 18), none, (.pick (.t 12) (.c (.bool true)) (.t 17))⟩]) (.cond (.t 18) (.seq (.reg [⟨(some 4), none, (.mov (.c (.int .i64 0)))⟩]) .ret) .skip)) (.seq (.block 0 (.loop (.seq (.seq (.reg [⟨(some 19), none, (.fld (.t 2) 0)⟩, ⟨(some 20), none, (.load none (.t 19))⟩, ⟨(some 21), none, (.mov (.t 1))⟩, ⟨(some 22), none, (.ixa (.t 20) (.t 21) 5)⟩, ⟨(some 23), none, (.fld (.t 22) 4)⟩, ⟨(some 24), none, (.load none (.t 23))⟩, ⟨(some 25), none, (.len (.t 24))⟩, ⟨(some 26), none, (.bin .gtr (.t 25) (.c (.int .i64 0)))⟩]) (.cond (.t 26) .skip (.exit 0))) (.block 1 (.dreg [⟨(some 27), none, (.fld (.t 2) 0)⟩, ⟨(some 28), none, (.load none (.t 27))⟩, ⟨(some 29), none, (.mov (.t 1))⟩, ⟨(some 30), none, (.ixa (.t 28) (.t 29) 5)⟩, ⟨(some 31), none, (.fld (.t 30) 4)⟩, ⟨(some 32), none, (.load none (.t 31))⟩, ⟨(some 33), none, (.fld (.t 2) 0)⟩, ⟨(some 34), none, (.load none (.t 33))⟩, ⟨(some 35), none, (.mov (.t 1))⟩, ⟨(some 36), none, (.ixa (.t 34) (.t 35) 5)⟩, ⟨(some 37), none, (.fld (.t 36) 4)⟩, ⟨(some 38), none, (.load none (.t 37))⟩, ⟨(some 39), none, (.len (.t 38))⟩, ⟨(some 40), none, (.bin .sub (.t 39) (.c (.int .i64 1)))⟩, ⟨(some 41), none, (.ixa (.t 32) (.t 40) 1)⟩, ⟨(some 42), none, (.load none (.t 41))⟩, ⟨(some 1), none, (.mov (.t 42))⟩] [[], [0], [], [1, 2], [3], [4], [], [6], [], [7, 8], [9], [10], [11], [12], [5, 13], [14], [15, 0, 1, 2, 3, 4, 5, 6, 7, 8, 9, 10, 11, 12, 13, 14, 15]] [.no, .rw [.loc 2] [], .no, .no, .no, .no, .no, .rw [.loc 2] [], .no, .no, .no, .no, .no, .no, .no, .no, .no]))))) (.seq (.reg [⟨(some 43), none, (.mov (.t 1))⟩, ⟨(some 44), none, (.bin .add (.t 43) (.c (.int .i64 1)))⟩, ⟨(some 4), none, (.mov (.t 44))⟩]) .ret))))

theorem intCells (n : Int) : (intIV n).cells = [.int .i64 n] := rfl

theorem kids_last {d : Doc} {n : Nat} {q : Int} {y : Tree} (h : Lies d n q y) (h0 : 0 < y.kids.length) : ∃ (k : Tree) (m : Nat), (kidsAt (n + 1) y.kids)[y.kids.length - 1]? = some (m : Int) ∧ Lies d m n k ∧ m + k.cnt = n + y.cnt ∧ n < m := by
  have hlt : y.kids.length - 1 < y.kids.length := by omega
  obtain ⟨k, hk⟩ : ∃ k, y.kids[y.kids.length - 1]? = some k := ⟨_, List.getElem?_eq_getElem hlt⟩
  have hsp : y.kids = y.kids.take (y.kids.length - 1) ++ k :: y.kids.drop (y.kids.length - 1 + 1) := by rw [← drop_eq hk, List.take_append_drop]
  have hL := h.kid _ _ k hsp
  refine ⟨k, n + 1 + cntT (y.kids.take (y.kids.length - 1)), kidsAt_get _ _ _ hlt, hL, ?_, by omega⟩
  have hc := y.cnt_eq
  have hd : y.kids.drop (y.kids.length - 1 + 1) = [] := List.drop_eq_nil_of_le (by omega)
  rw [hd] at hsp
  have : cntT y.kids = cntT (y.kids.take (y.kids.length - 1)) + k.cnt := by
    have := congrArg cntT hsp
    rw [cntT_app] at this
    simpa [cntT] using this
  omega

theorem pDocEnd {P : Program} {G : Nat → Option (List IV)} {f_doc_End f_doc_Good : Nat} (hF : compF P G f_doc_End = some (45, [(none, 4)], (c_doc_End f_doc_Good).bare)) (d : Doc) (hd : wtN d ≤ B) (n : Int)
    (hG : PureC P G f_doc_Good [Doc.av d] (.bool (isDoc d))) : PureC P G f_doc_End [Doc.av d, .int .i64 n] (.int .i64 (endD d n)) := by
  refine pure_of_go hF (by simp) (by simp [lbss, AV.lbs, Doc.av]) (by simp [AV.lbs]) ?_
  have hlen := wtN_len d
  unfold c_doc_End
  simp only [↓evs, evp, evq, evl, boxK, ↓a1_still, stillV, ↓af_still, ↓af_load, ↓af_store, ↓af_app, ↓af_new, ↓af_box, binV, AV.cells, Lb.loc.injEq, Lb.par.injEq, Lb.gen.injEq, loadV, storeV, ldV, AV.stb, AV.one, IV.av1, Lb.app, Lb.fresh, reduceCtorEq, Bool.false_eq_true, ptrL, appL, fillA, chunks, ivs, AV.iv, mkE, if_false, if_true, List.not_mem_nil, forall_eq, Nat.reduceEqDiff, Nat.reduceLT, Nat.reduceLeDiff, Nat.reduceAdd, Nat.reduceMul, Int.reduceToNat, Int.reduceLE, Int.reduceLT, Int.le_refl, Int.toNat_zero, beq_self_eq_true, List.isEmpty_nil, Doc.av, List.length_map]
  refine callT_pure hG ?_
  cases hg : isDoc d with
  | false =>
    have : endD d n = 0 := endD_out (by rw [hg]; simp)
    simp only [↓evs, evp, evq, evl, boxK, ↓a1_still, stillV, ↓af_still, ↓af_load, ↓af_store, ↓af_app, ↓af_new, ↓af_box, binV, AV.cells, Lb.loc.injEq, Lb.par.injEq, Lb.gen.injEq, loadV, storeV, ldV, AV.stb, AV.one, IV.av1, Lb.app, Lb.fresh, reduceCtorEq, Bool.false_eq_true, ptrL, appL, fillA, chunks, ivs, AV.iv, mkE, if_false, if_true, List.not_mem_nil, forall_eq, Nat.reduceEqDiff, Nat.reduceLT, Nat.reduceLeDiff, Nat.reduceAdd, Nat.reduceMul, Int.reduceToNat, Int.reduceLE, Int.reduceLT, Int.le_refl, Int.toNat_zero, beq_self_eq_true, List.isEmpty_nil, this]
  | true =>
    obtain ⟨t, ht, rfl⟩ := isDoc_iff.1 hg
    simp only [↓evs, evp, evq, evl, boxK, ↓a1_still, stillV, ↓af_still, ↓af_load, ↓af_store, ↓af_app, ↓af_new, ↓af_box, binV, AV.cells, Lb.loc.injEq, Lb.par.injEq, Lb.gen.injEq, loadV, storeV, ldV, AV.stb, AV.one, IV.av1, Lb.app, Lb.fresh, reduceCtorEq, Bool.false_eq_true, ptrL, appL, fillA, chunks, ivs, AV.iv, mkE, if_false, if_true, List.not_mem_nil, forall_eq, Nat.reduceEqDiff, Nat.reduceLT, Nat.reduceLeDiff, Nat.reduceAdd, Nat.reduceMul, Int.reduceToNat, Int.reduceLE, Int.reduceLT, Int.le_refl, Int.toNat_zero, beq_self_eq_true, List.isEmpty_nil, List.length_map]
    cases h1 : decide (n < 0) with
    | true =>
      have : endD (docOf t) n = 0 := endD_out (by simp at h1; omega)
      simp only [↓evs, evp, evq, evl, boxK, ↓a1_still, stillV, ↓af_still, ↓af_load, ↓af_store, ↓af_app, ↓af_new, ↓af_box, binV, AV.cells, Lb.loc.injEq, Lb.par.injEq, Lb.gen.injEq, loadV, storeV, ldV, AV.stb, AV.one, IV.av1, Lb.app, Lb.fresh, reduceCtorEq, Bool.false_eq_true, ptrL, appL, fillA, chunks, ivs, AV.iv, mkE, if_false, if_true, List.not_mem_nil, forall_eq, Nat.reduceEqDiff, Nat.reduceLT, Nat.reduceLeDiff, Nat.reduceAdd, Nat.reduceMul, Int.reduceToNat, Int.reduceLE, Int.reduceLT, Int.le_refl, Int.toNat_zero, beq_self_eq_true, List.isEmpty_nil, this]
    | false =>
      obtain ⟨m, rfl⟩ : ∃ m : Nat, n = m := ⟨n.toNat, by simp at h1; omega⟩
      simp only [↓evs, evp, evq, evl, boxK, ↓a1_still, stillV, ↓af_still, ↓af_load, ↓af_store, ↓af_app, ↓af_new, ↓af_box, binV, AV.cells, Lb.loc.injEq, Lb.par.injEq, Lb.gen.injEq, loadV, storeV, ldV, AV.stb, AV.one, IV.av1, Lb.app, Lb.fresh, reduceCtorEq, Bool.false_eq_true, ptrL, appL, fillA, chunks, ivs, AV.iv, mkE, if_false, if_true, List.not_mem_nil, forall_eq, Nat.reduceEqDiff, Nat.reduceLT, Nat.reduceLeDiff, Nat.reduceAdd, Nat.reduceMul, Int.reduceToNat, Int.reduceLE, Int.reduceLT, Int.le_refl, Int.toNat_zero, beq_self_eq_true, List.isEmpty_nil, List.length_map]
      cases h2 : decide ((m : Int) ≥ ((docOf t).length : Int)) with
      | true =>
        have : endD (docOf t) m = 0 := endD_out (by simp at h2; omega)
        simp only [↓evs, evp, evq, evl, boxK, ↓a1_still, stillV, ↓af_still, ↓af_load, ↓af_store, ↓af_app, ↓af_new, ↓af_box, binV, AV.cells, Lb.loc.injEq, Lb.par.injEq, Lb.gen.injEq, loadV, storeV, ldV, AV.stb, AV.one, IV.av1, Lb.app, Lb.fresh, reduceCtorEq, Bool.false_eq_true, ptrL, appL, fillA, chunks, ivs, AV.iv, mkE, if_false, if_true, List.not_mem_nil, forall_eq, Nat.reduceEqDiff, Nat.reduceLT, Nat.reduceLeDiff, Nat.reduceAdd, Nat.reduceMul, Int.reduceToNat, Int.reduceLE, Int.reduceLT, Int.le_refl, Int.toNat_zero, beq_self_eq_true, List.isEmpty_nil, this]
      | false =>
        obtain ⟨q, y, l, s⟩ := lies_doc (t := t) (n := m) (by simp at h2; omega)
        simp only [↓evs, evp, evq, evl, boxK, ↓a1_still, stillV, ↓af_still, ↓af_load, ↓af_store, ↓af_app, ↓af_new, ↓af_box, binV, AV.cells, Lb.loc.injEq, Lb.par.injEq, Lb.gen.injEq, loadV, storeV, ldV, AV.stb, AV.one, IV.av1, Lb.app, Lb.fresh, reduceCtorEq, Bool.false_eq_true, ptrL, appL, fillA, chunks, ivs, AV.iv, mkE, if_false, if_true, List.not_mem_nil, forall_eq, Nat.reduceEqDiff, Nat.reduceLT, Nat.reduceLeDiff, Nat.reduceAdd, Nat.reduceMul, Int.reduceToNat, Int.reduceLE, Int.reduceLT, Int.le_refl, Int.toNat_zero, beq_self_eq_true, List.isEmpty_nil, List.length_map]
        refine loop_same (σ := { z : Nat × Tree // (∃ q, Lies (docOf t) z.1 q z.2) ∧ z.1 + z.2.cnt = m + y.cnt }) [.loc 2]
          (fun z => [(1, .int .i64 z.1.1), (2, .ptr (.loc 2) 1 0 0)]) (fun _ => [(.loc 2, ⟨1, [[.list ((docOf t).map Node.iv)]]⟩)]) (fun z => z.1.2.cnt) ⟨(m, y), ⟨q, l⟩, rfl⟩
          (fun _ => rfl) (by decide) (by simp [lbss, AV.lbs]) (by simp [lbss, AV.lbs]) ?_ ?_
        · exact WS_mk (by simp only [NFx_loc, NFx_none]) (by repeat' constructor) (by repeat' constructor)
        · rintro ⟨⟨i, z⟩, ⟨r, hL⟩, hc⟩
          simp only at hL hc
          have hnode := hL.node
          have hlt := (List.getElem?_eq_some_iff.1 hnode).1
          have hll := hL.len
          have hkn : (kidsAt (i + 1) z.kids).length = z.kids.length := kidsAt_len _ _
          simp only [↓evs, evp, evq, evl, boxK, ↓a1_still, stillV, ↓af_still, ↓af_load, ↓af_store, ↓af_app, ↓af_new, ↓af_box, binV, AV.cells, Lb.loc.injEq, Lb.par.injEq, Lb.gen.injEq, loadV, storeV, ldV, AV.stb, AV.one, IV.av1, Lb.app, Lb.fresh, reduceCtorEq, Bool.false_eq_true, ptrL, appL, fillA, chunks, ivs, AV.iv, mkE, if_false, if_true, List.not_mem_nil, forall_eq, Nat.reduceEqDiff, Nat.reduceLT, Nat.reduceLeDiff, Nat.reduceAdd, Nat.reduceMul, Int.reduceToNat, Int.reduceLE, Int.reduceLT, Int.le_refl, Int.toNat_zero, beq_self_eq_true, List.isEmpty_nil, ofH_nil, ofH_cons, List.length_map, Doc.get_iv hnode, elszN, Node.cells_eq, Node.cs, Tree.node, hkn]
          cases h3 : decide ((z.kids.length : Int) > 0) with
          | false =>
            have hk0 : z.kids = [] := by have := of_decide_eq_false h3; exact List.length_eq_zero_iff.1 (by omega)
            have hcz := z.cnt_eq
            rw [hk0] at hcz
            simp only [cntT] at hcz
            have hw : IntKind.i64.wrap ((i : Int) + 1) = ((i + 1 : Nat) : Int) := wrap64 (by omega) (by unfold B at hd; omega)
            simp only [↓evs, evp, evq, evl, boxK, ↓a1_still, stillV, ↓af_still, ↓af_load, ↓af_store, ↓af_app, ↓af_new, ↓af_box, binV, AV.cells, Lb.loc.injEq, Lb.par.injEq, Lb.gen.injEq, loadV, storeV, ldV, AV.stb, AV.one, IV.av1, Lb.app, Lb.fresh, reduceCtorEq, Bool.false_eq_true, ptrL, appL, fillA, chunks, ivs, AV.iv, mkE, if_false, if_true, List.not_mem_nil, forall_eq, Nat.reduceEqDiff, Nat.reduceLT, Nat.reduceLeDiff, Nat.reduceAdd, Nat.reduceMul, Int.reduceToNat, Int.reduceLE, Int.reduceLT, Int.le_refl, Int.toNat_zero, beq_self_eq_true, List.isEmpty_nil, hw]
            rw [endD_of ht l, ← hc, hcz]
          | true =>
            have h3' := of_decide_eq_true h3
            obtain ⟨k, j, hj, hLk, hck, hij⟩ := kids_last hL (by omega)
            have hwk := hL.wt
            have hkl := wtT_len z.kids
            have hwz := z.wt_eq
            have hw : IntKind.i64.wrap ((z.kids.length : Int) - 1) = ((z.kids.length - 1 : Nat) : Int) := by rw [wrap64 (by omega) (by unfold B at hd; omega)]; omega
            have hcz := z.cnt_eq
            have hll2 := hLk.len
            simp only [↓evs, evp, evq, evl, boxK, ↓a1_still, stillV, ↓af_still, ↓af_load, ↓af_store, ↓af_app, ↓af_new, ↓af_box, binV, AV.cells, Lb.loc.injEq, Lb.par.injEq, Lb.gen.injEq, loadV, storeV, ldV, AV.stb, AV.one, IV.av1, Lb.app, Lb.fresh, reduceCtorEq, Bool.false_eq_true, ptrL, appL, fillA, chunks, ivs, AV.iv, mkE, if_false, if_true, List.not_mem_nil, forall_eq, Nat.reduceEqDiff, Nat.reduceLT, Nat.reduceLeDiff, Nat.reduceAdd, Nat.reduceMul, Int.reduceToNat, Int.reduceLE, Int.reduceLT, Int.le_refl, Int.toNat_zero, beq_self_eq_true, List.isEmpty_nil, List.length_map, Doc.get_iv hnode, elszN, Node.cells_eq, Node.cs, Tree.node, hkn, hw, intGet, hj, elszI, Option.map_some, intCells]
            refine ⟨rfl, ?_⟩
            refine ⟨⟨(j, k), ⟨_, hLk⟩, by simp only; omega⟩, by simp only; omega, WS_mk (by simp only [NFx_loc, NFx_none]) (by repeat' constructor) (by repeat' constructor)⟩


end Go.Am

/- Documents: within; what is said; the laws DocBack and DocNests. -/
namespace Go.Am
open Go Go.RowKit

def c_doc_In (f_doc_End : Nat) : AC :=
(.seq (.reg [⟨(some 3), none, (.box (.t 0))⟩, ⟨(some 6), none, (.mov (.c (.bool false)))⟩]) (.seq (.reg [⟨(some 7), none, (.mov (.t 1))⟩, ⟨(some 8), none, (.mov (.t 2))⟩, ⟨(some 9), none, (.bin .geq (.t 7) (.t 8))⟩, ⟨(some 10), none, (.mov (.t 9))⟩, ⟨(some 11), (some (10, true)), (.mov (.t 1))⟩, ⟨(some 12), (some (10, true)), (.load (some 1) (.t 3))⟩, ⟨(some 13), (some (10, true)), (.mov (.t 2))⟩, ⟨(some 14), (some (10, true)), (.call f_doc_End [(.t 12), (.t 13)])⟩, ⟨(some 15), (some (10, true)), (.bin .lss (.t 11) (.t 14))⟩, ⟨(some 16), none, (.pick (.t 10) (.t 15) (.c (.bool false)))⟩, ⟨(some 17), none, (.mov (.t 16))⟩, ⟨(some 18), (some (17, true)), (.mov (.t 2))⟩, ⟨(some 19), (some (17, true)), (.bin .geq (.t 18) (.c (.int .i64 0)))⟩, ⟨(some 20), none, (.pick (.t 17) (.t 19) (.c (.bool false)))⟩, ⟨(some 6), none, (.mov (.t 20))⟩]) .ret))

theorem pDocIn {P : Program} {G : Nat → Option (List IV)} {f_doc_In f_doc_End : Nat} (hF : compF P G f_doc_In = some (21, [(none, 6)], (c_doc_In f_doc_End).bare)) (d : Doc) (n m : Int)
    (hE : ∀ n : Int, PureC P G f_doc_End [Doc.av d, .int .i64 n] (.int .i64 (endD d n))) : PureC P G f_doc_In [Doc.av d, .int .i64 n, .int .i64 m] (.bool (inD d n m)) := by
  refine pure_of_go hF (by simp) (by simp [lbss, AV.lbs, Doc.av]) (by simp [AV.lbs]) ?_
  unfold c_doc_In
  simp only [↓evs, evp, evq, evl, boxK, ↓a1_still, stillV, ↓af_still, ↓af_load, ↓af_store, ↓af_app, ↓af_new, ↓af_box, binV, AV.cells, Lb.loc.injEq, Lb.par.injEq, Lb.gen.injEq, loadV, storeV, ldV, AV.stb, AV.one, IV.av1, Lb.app, Lb.fresh, reduceCtorEq, Bool.false_eq_true, ptrL, appL, fillA, chunks, ivs, AV.iv, mkE, if_false, if_true, List.not_mem_nil, forall_eq, Nat.reduceEqDiff, Nat.reduceLT, Nat.reduceLeDiff, Nat.reduceAdd, Nat.reduceMul, Int.reduceToNat, Int.reduceLE, Int.reduceLT, Int.le_refl, Int.toNat_zero, beq_self_eq_true, List.isEmpty_nil, Doc.av, List.length_map]
  cases h1 : decide (n ≥ m) with
  | false =>
    have h1' : decide (m ≤ n) = false := h1
    simp only [↓evs, evp, evq, evl, boxK, ↓a1_still, stillV, ↓af_still, ↓af_load, ↓af_store, ↓af_app, ↓af_new, ↓af_box, binV, AV.cells, Lb.loc.injEq, Lb.par.injEq, Lb.gen.injEq, loadV, storeV, ldV, AV.stb, AV.one, IV.av1, Lb.app, Lb.fresh, reduceCtorEq, Bool.false_eq_true, ptrL, appL, fillA, chunks, ivs, AV.iv, mkE, if_false, if_true, List.not_mem_nil, forall_eq, Nat.reduceEqDiff, Nat.reduceLT, Nat.reduceLeDiff, Nat.reduceAdd, Nat.reduceMul, Int.reduceToNat, Int.reduceLE, Int.reduceLT, Int.le_refl, Int.toNat_zero, beq_self_eq_true, List.isEmpty_nil, inD, h1', Bool.false_and]
  | true =>
    have h1' : decide (m ≤ n) = true := h1
    simp only [↓evs, evp, evq, evl, boxK, ↓a1_still, stillV, ↓af_still, ↓af_load, ↓af_store, ↓af_app, ↓af_new, ↓af_box, binV, AV.cells, Lb.loc.injEq, Lb.par.injEq, Lb.gen.injEq, loadV, storeV, ldV, AV.stb, AV.one, IV.av1, Lb.app, Lb.fresh, reduceCtorEq, Bool.false_eq_true, ptrL, appL, fillA, chunks, ivs, AV.iv, mkE, if_false, if_true, List.not_mem_nil, forall_eq, Nat.reduceEqDiff, Nat.reduceLT, Nat.reduceLeDiff, Nat.reduceAdd, Nat.reduceMul, Int.reduceToNat, Int.reduceLE, Int.reduceLT, Int.le_refl, Int.toNat_zero, beq_self_eq_true, List.isEmpty_nil]
    refine callT_pure (hE m) ?_
    cases h2 : decide (n < endD d m) with
    | false => simp only [↓evs, evp, evq, evl, boxK, ↓a1_still, stillV, ↓af_still, ↓af_load, ↓af_store, ↓af_app, ↓af_new, ↓af_box, binV, AV.cells, Lb.loc.injEq, Lb.par.injEq, Lb.gen.injEq, loadV, storeV, ldV, AV.stb, AV.one, IV.av1, Lb.app, Lb.fresh, reduceCtorEq, Bool.false_eq_true, ptrL, appL, fillA, chunks, ivs, AV.iv, mkE, if_false, if_true, List.not_mem_nil, forall_eq, Nat.reduceEqDiff, Nat.reduceLT, Nat.reduceLeDiff, Nat.reduceAdd, Nat.reduceMul, Int.reduceToNat, Int.reduceLE, Int.reduceLT, Int.le_refl, Int.toNat_zero, beq_self_eq_true, List.isEmpty_nil, inD, h1', h2, Bool.false_and, Bool.true_and]
    | true =>
      have h3 : decide (m ≥ 0) = decide (0 ≤ m) := rfl
      simp only [↓evs, evp, evq, evl, boxK, ↓a1_still, stillV, ↓af_still, ↓af_load, ↓af_store, ↓af_app, ↓af_new, ↓af_box, binV, AV.cells, Lb.loc.injEq, Lb.par.injEq, Lb.gen.injEq, loadV, storeV, ldV, AV.stb, AV.one, IV.av1, Lb.app, Lb.fresh, reduceCtorEq, Bool.false_eq_true, ptrL, appL, fillA, chunks, ivs, AV.iv, mkE, if_false, if_true, List.not_mem_nil, forall_eq, Nat.reduceEqDiff, Nat.reduceLT, Nat.reduceLeDiff, Nat.reduceAdd, Nat.reduceMul, Int.reduceToNat, Int.reduceLE, Int.reduceLT, Int.le_refl, Int.toNat_zero, beq_self_eq_true, List.isEmpty_nil, inD, h1', h2, h3, Bool.true_and]

def c_doc_String (f_doc_End : Nat) : AC :=
(.seq (.reg [⟨(some 2), none, (.box (.t 0))⟩, ⟨(some 4), none, (.mov (.c (.str [])))⟩]) (.seq (.reg [⟨(some 5), none, (.mov (.c (.str [])))⟩]) (.seq (.seq (.reg [⟨(some 7), none, (.mov (.t 1))⟩, ⟨(some 8), none, (.max (.c (.int .i64 0)) (.t 7))⟩, ⟨(some 6), none, (.mov (.t 8))⟩]) (.block 0 (.loop (.seq (.seq (.reg [⟨(some 9), none, (.mov (.t 6))⟩, ⟨(some 10), none, (.load (some 1) (.t 2))⟩, ⟨(some 11), none, (.mov (.t 1))⟩, ⟨(some 12), none, (.call f_doc_End [(.t 10), (.t 11)])⟩, ⟨(some 13), none, (.bin .lss (.t 9) (.t 12))⟩]) (.cond (.t 13) .skip (.exit 0))) (.seq (.block 1 (.seq (.reg [⟨(some 16), none, (.fld (.t 2) 0)⟩, ⟨(some 17), none, (.load none (.t 16))⟩, ⟨(some 18), none, (.mov (.t 6))⟩, ⟨(some 19), none, (.ixa (.t 17) (.t 18) 5)⟩, ⟨(some 20), none, (.fld (.t 19) 0)⟩, ⟨(some 21), none, (.load none (.t 20))⟩]) (.cond (.t 21) (.reg [⟨(some 22), none, (.mov (.t 5))⟩, ⟨(some 23), none, (.fld (.t 2) 0)⟩, ⟨(some 24), none, (.load none (.t 23))⟩, ⟨(some 25), none, (.mov (.t 6))⟩, ⟨(some 26), none, (.ixa (.t 24) (.t 25) 5)⟩, ⟨(some 27), none, (.fld (.t 26) 1)⟩, ⟨(some 28), none, (.load none (.t 27))⟩, ⟨(some 29), none, (.bin .add (.t 22) (.t 28))⟩, ⟨(some 5), none, (.mov (.t 29))⟩]) .skip))) (.reg [⟨(some 14), none, (.mov (.t 6))⟩, ⟨(some 15), none, (.bin .add (.t 14) (.c (.int .i64 1)))⟩, ⟨(some 6), none, (.mov (.t 15))⟩])))))) (.seq (.reg [⟨(some 30), none, (.mov (.t 5))⟩, ⟨(some 4), none, (.mov (.t 30))⟩]) .ret))))

theorem endD_le (d : Doc) (n : Int) : 0 ≤ endD d n ∧ endD d n ≤ d.length := by
  by_cases h : isDoc d = true ∧ 0 ≤ n ∧ n < d.length
  · obtain ⟨h1, h2, h3⟩ := h
    obtain ⟨t, ht, rfl⟩ := isDoc_iff.1 h1
    obtain ⟨m, rfl⟩ : ∃ m : Nat, n = m := ⟨n.toNat, by omega⟩
    obtain ⟨q, y, l, s⟩ := lies_doc (t := t) (n := m) (by omega)
    have := l.len
    rw [endD_of ht l]; omega
  · rw [endD_out h]; omega

theorem told_wt : ∀ d : Doc, (d.flatMap Node.told).length ≤ wtN d
  | [] => by simp
  | x :: r => by
    have := told_wt r
    simp only [List.flatMap_cons, List.length_append, wtN, Node.wt, Node.told]
    by_cases h : x.text = true
    · rw [if_pos h]; omega
    · rw [if_neg h]; simp only [List.length_nil]; omega
theorem wtN_sub (d : Doc) (a n : Nat) : wtN ((d.drop a).take n) ≤ wtN d := by
  have h1 := wtN_app (d.take a) (d.drop a)
  have h2 := wtN_app ((d.drop a).take n) ((d.drop a).drop n)
  rw [List.take_append_drop] at h1 h2
  omega

theorem pDocString {P : Program} {G : Nat → Option (List IV)} {f_doc_String f_doc_End : Nat} (hF : compF P G f_doc_String = some (31, [(none, 4)], (c_doc_String f_doc_End).bare)) (d : Doc) (hd : wtN d ≤ B) (n : Int)
    (hE : PureC P G f_doc_End [Doc.av d, .int .i64 n] (.int .i64 (endD d n))) : PureC P G f_doc_String [Doc.av d, .int .i64 n] (.str (strD d n)) := by
  refine pure_of_go hF (by simp) (by simp [lbss, AV.lbs, Doc.av]) (by simp [AV.lbs]) ?_
  have hlen := wtN_len d
  obtain ⟨he0, hel⟩ := endD_le d n
  have hmax : (if n > 0 then n else 0) = ((n.toNat : Nat) : Int) := by split <;> omega
  unfold c_doc_String
  simp only [↓evs, evp, evq, evl, boxK, ↓a1_still, stillV, ↓af_still, ↓af_load, ↓af_store, ↓af_app, ↓af_new, ↓af_box, binV, AV.cells, Lb.loc.injEq, Lb.par.injEq, Lb.gen.injEq, loadV, storeV, ldV, AV.stb, AV.one, IV.av1, Lb.app, Lb.fresh, reduceCtorEq, Bool.false_eq_true, ptrL, appL, fillA, chunks, ivs, AV.iv, mkE, if_false, if_true, List.not_mem_nil, forall_eq, Nat.reduceEqDiff, Nat.reduceLT, Nat.reduceLeDiff, Nat.reduceAdd, Nat.reduceMul, Int.reduceToNat, Int.reduceLE, Int.reduceLT, Int.le_refl, Int.toNat_zero, beq_self_eq_true, List.isEmpty_nil, Doc.av, List.length_map, hmax]
  refine loop_same (σ := { i : Nat // n.toNat ≤ i ∧ (i ≤ (endD d n).toNat ∨ i = n.toNat) }) [.loc 2]
    (fun i => [(1, .int .i64 n), (2, .ptr (.loc 2) 1 0 0), (5, .str (((d.drop n.toNat).take (i.1 - n.toNat)).flatMap Node.told)), (6, .int .i64 i.1)])
    (fun _ => [(.loc 2, ⟨1, [[.list (d.map Node.iv)]]⟩)]) (fun i => d.length - i.1) ⟨n.toNat, Nat.le_refl _, .inr rfl⟩
    (fun _ => rfl) (by decide) (by simp [lbss, AV.lbs]) (by simp [lbss, AV.lbs]) ?_ ?_
  · refine WS_mk (by simp only [NFx_loc, NFx_none]) ?_ (by repeat' constructor)
    simp only [Nat.sub_self, List.take_zero, List.flatMap_nil]
    repeat' constructor
  · rintro ⟨i, hni, hi⟩
    simp only [↓evs, evp, evq, evl, boxK, ↓a1_still, stillV, ↓af_still, ↓af_load, ↓af_store, ↓af_app, ↓af_new, ↓af_box, binV, AV.cells, Lb.loc.injEq, Lb.par.injEq, Lb.gen.injEq, loadV, storeV, ldV, AV.stb, AV.one, IV.av1, Lb.app, Lb.fresh, reduceCtorEq, Bool.false_eq_true, ptrL, appL, fillA, chunks, ivs, AV.iv, mkE, if_false, if_true, List.not_mem_nil, forall_eq, Nat.reduceEqDiff, Nat.reduceLT, Nat.reduceLeDiff, Nat.reduceAdd, Nat.reduceMul, Int.reduceToNat, Int.reduceLE, Int.reduceLT, Int.le_refl, Int.toNat_zero, beq_self_eq_true, List.isEmpty_nil, ofH_nil, ofH_cons]
    refine callT_pure hE ?_
    simp only [↓evs, evp, evq, evl, boxK, ↓a1_still, stillV, ↓af_still, ↓af_load, ↓af_store, ↓af_app, ↓af_new, ↓af_box, binV, AV.cells, Lb.loc.injEq, Lb.par.injEq, Lb.gen.injEq, loadV, storeV, ldV, AV.stb, AV.one, IV.av1, Lb.app, Lb.fresh, reduceCtorEq, Bool.false_eq_true, ptrL, appL, fillA, chunks, ivs, AV.iv, mkE, if_false, if_true, List.not_mem_nil, forall_eq, Nat.reduceEqDiff, Nat.reduceLT, Nat.reduceLeDiff, Nat.reduceAdd, Nat.reduceMul, Int.reduceToNat, Int.reduceLE, Int.reduceLT, Int.le_refl, Int.toNat_zero, beq_self_eq_true, List.isEmpty_nil]
    cases h1 : decide ((i : Int) < endD d n) with
    | false =>
      have h1' := of_decide_eq_false h1
      have : i - n.toNat = (endD d n).toNat - n.toNat := by rcases hi with h | h <;> omega
      simp only [↓evs, evp, evq, evl, boxK, ↓a1_still, stillV, ↓af_still, ↓af_load, ↓af_store, ↓af_app, ↓af_new, ↓af_box, binV, AV.cells, Lb.loc.injEq, Lb.par.injEq, Lb.gen.injEq, loadV, storeV, ldV, AV.stb, AV.one, IV.av1, Lb.app, Lb.fresh, reduceCtorEq, Bool.false_eq_true, ptrL, appL, fillA, chunks, ivs, AV.iv, mkE, if_false, if_true, List.not_mem_nil, forall_eq, Nat.reduceEqDiff, Nat.reduceLT, Nat.reduceLeDiff, Nat.reduceAdd, Nat.reduceMul, Int.reduceToNat, Int.reduceLE, Int.reduceLT, Int.le_refl, Int.toNat_zero, beq_self_eq_true, List.isEmpty_nil, strD, this]
    | true =>
      have h1' := of_decide_eq_true h1
      have hlt : i < d.length := by omega
      obtain ⟨x, hx⟩ : ∃ x, d[i]? = some x := ⟨_, List.getElem?_eq_getElem hlt⟩
      have hw : IntKind.i64.wrap ((i : Int) + 1) = ((i + 1 : Nat) : Int) := wrap64 (by omega) (by unfold B at hd; omega)
      have hsn : (d.drop n.toNat).take (i + 1 - n.toNat) = (d.drop n.toNat).take (i - n.toNat) ++ [x] := drop_take_snoc hni hx
      have hb : (((d.drop n.toNat).take (i - n.toNat)).flatMap Node.told).length + x.s.length ≤ 9223372036854775807 := by
        have h2 := told_wt ((d.drop n.toNat).take (i - n.toNat))
        have h3 := wtN_sub d n.toNat (i - n.toNat)
        have h4 := wtN_mem (List.mem_of_getElem? hx)
        simp only [Node.wt] at h4
        unfold B at hd; omega
      simp only [↓evs, evp, evq, evl, boxK, ↓a1_still, stillV, ↓af_still, ↓af_load, ↓af_store, ↓af_app, ↓af_new, ↓af_box, binV, AV.cells, Lb.loc.injEq, Lb.par.injEq, Lb.gen.injEq, loadV, storeV, ldV, AV.stb, AV.one, IV.av1, Lb.app, Lb.fresh, reduceCtorEq, Bool.false_eq_true, ptrL, appL, fillA, chunks, ivs, AV.iv, mkE, if_false, if_true, List.not_mem_nil, forall_eq, Nat.reduceEqDiff, Nat.reduceLT, Nat.reduceLeDiff, Nat.reduceAdd, Nat.reduceMul, Int.reduceToNat, Int.reduceLE, Int.reduceLT, Int.le_refl, Int.toNat_zero, beq_self_eq_true, List.isEmpty_nil, List.length_map, Doc.get_iv hx, elszN, Node.cells_eq, Node.cs]
      cases ht : x.text with
      | true =>
        simp only [↓evs, evp, evq, evl, boxK, ↓a1_still, stillV, ↓af_still, ↓af_load, ↓af_store, ↓af_app, ↓af_new, ↓af_box, binV, AV.cells, Lb.loc.injEq, Lb.par.injEq, Lb.gen.injEq, loadV, storeV, ldV, AV.stb, AV.one, IV.av1, Lb.app, Lb.fresh, reduceCtorEq, Bool.false_eq_true, ptrL, appL, fillA, chunks, ivs, AV.iv, mkE, if_false, if_true, List.not_mem_nil, forall_eq, Nat.reduceEqDiff, Nat.reduceLT, Nat.reduceLeDiff, Nat.reduceAdd, Nat.reduceMul, Int.reduceToNat, Int.reduceLE, Int.reduceLT, Int.le_refl, Int.toNat_zero, beq_self_eq_true, List.isEmpty_nil, List.length_map, Doc.get_iv hx, elszN, Node.cells_eq, Node.cs, hb, hw]
        refine ⟨⟨i + 1, by omega, by omega⟩, by simp only; omega, WS_mk (by simp only [NFx_loc, NFx_none]) ?_ (by repeat' constructor)⟩
        simp only [hsn, List.flatMap_append, List.flatMap_cons, List.flatMap_nil, List.append_nil, Node.told, ht, if_true]
        repeat' constructor
      | false =>
        simp only [↓evs, evp, evq, evl, boxK, ↓a1_still, stillV, ↓af_still, ↓af_load, ↓af_store, ↓af_app, ↓af_new, ↓af_box, binV, AV.cells, Lb.loc.injEq, Lb.par.injEq, Lb.gen.injEq, loadV, storeV, ldV, AV.stb, AV.one, IV.av1, Lb.app, Lb.fresh, reduceCtorEq, Bool.false_eq_true, ptrL, appL, fillA, chunks, ivs, AV.iv, mkE, if_false, if_true, List.not_mem_nil, forall_eq, Nat.reduceEqDiff, Nat.reduceLT, Nat.reduceLeDiff, Nat.reduceAdd, Nat.reduceMul, Int.reduceToNat, Int.reduceLE, Int.reduceLT, Int.le_refl, Int.toNat_zero, beq_self_eq_true, List.isEmpty_nil, hw]
        refine ⟨⟨i + 1, by omega, by omega⟩, by simp only; omega, WS_mk (by simp only [NFx_loc, NFx_none]) ?_ (by repeat' constructor)⟩
        simp only [hsn, List.flatMap_append, List.flatMap_cons, List.flatMap_nil, List.append_nil, Node.told, ht, if_false, Bool.false_eq_true]
        repeat' constructor

def c_topiarykeep_docs (f_doc_Make f_doc_End f_doc_String f_doc_In : Nat) : AC :=
(.seq (.reg [⟨(some 0), none, (.mov (.c (.bool false)))⟩]) (.seq (.reg [⟨(some 4), none, (.bld [(.bool false), (.str []), .nil0, .nil0] [(0, (1, (.c (.bool true)))), (1, (1, (.c (.str [120]))))])⟩, ⟨(some 5), none, (.lits 1 4 [(.bool false), (.str []), .nil0, .nil0] [(0, (.t 4))])⟩, ⟨(some 6), none, (.bld [(.bool false), (.str []), .nil0, .nil0] [(1, (1, (.c (.str [98])))), (3, (1, (.t 5)))])⟩, ⟨(some 7), none, (.bld [(.bool false), (.str []), .nil0, .nil0] [(1, (1, (.c (.str [99]))))])⟩, ⟨(some 8), none, (.lits 2 4 [(.bool false), (.str []), .nil0, .nil0] [(0, (.t 6)), (1, (.t 7))])⟩, ⟨(some 9), none, (.bld [(.bool false), (.str []), .nil0, .nil0] [(1, (1, (.c (.str [97])))), (3, (1, (.t 8)))])⟩, ⟨(some 10), none, (.call f_doc_Make [(.t 9)])⟩, ⟨(some 3), none, (.mov (.t 10))⟩, ⟨(some 11), none, (.ext (.t 3) 0)⟩, ⟨(some 12), none, (.ext (.t 3) 1)⟩, ⟨(some 1), none, (.new [.nil0])⟩, ⟨none, none, (.store 1 (.t 1) (.t 11))⟩, ⟨(some 2), none, (.mov (.t 12))⟩]) (.seq (.reg [⟨(some 13), none, (.mov (.t 2))⟩, ⟨(some 14), none, (.bin .eql (.t 13) (.c (.int .i64 0)))⟩, ⟨(some 15), none, (.mov (.t 14))⟩, ⟨(some 16), (some (15, true)), (.fld (.t 1) 0)⟩, ⟨(some 17), (some (15, true)), (.load none (.t 16))⟩, ⟨(some 18), (some (15, true)), (.len (.t 17))⟩, ⟨(some 19), (some (15, true)), (.bin .eql (.t 18) (.c (.int .i64 4)))⟩, ⟨(some 20), none, (.pick (.t 15) (.t 19) (.c (.bool false)))⟩, ⟨(some 21), none, (.mov (.t 20))⟩, ⟨(some 22), (some (21, true)), (.load (some 1) (.t 1))⟩, ⟨(some 23), (some (21, true)), (.call f_doc_End [(.t 22), (.c (.int .i64 1))])⟩, ⟨(some 24), (some (21, true)), (.bin .eql (.t 23) (.c (.int .i64 3)))⟩, ⟨(some 25), none, (.pick (.t 21) (.t 24) (.c (.bool false)))⟩, ⟨(some 26), none, (.mov (.t 25))⟩, ⟨(some 27), (some (26, true)), (.load (some 1) (.t 1))⟩, ⟨(some 28), (some (26, true)), (.call f_doc_String [(.t 27), (.c (.int .i64 0))])⟩, ⟨(some 29), (some (26, true)), (.bin .eql (.t 28) (.c (.str [120])))⟩, ⟨(some 30), none, (.pick (.t 26) (.t 29) (.c (.bool false)))⟩, ⟨(some 31), none, (.mov (.t 30))⟩, ⟨(some 32), (some (31, true)), (.load (some 1) (.t 1))⟩, ⟨(some 33), (some (31, true)), (.call f_doc_In [(.t 32), (.c (.int .i64 2)), (.c (.int .i64 1))])⟩, ⟨(some 34), none, (.pick (.t 31) (.t 33) (.c (.bool false)))⟩, ⟨(some 0), none, (.mov (.t 34))⟩]) .ret)))

def treeK : Tree := .mk false [97] [] [.mk false [98] [] [.mk true [120] [] []], .mk false [99] [] []]
theorem treeK_good : treeK.good = true := by decide

theorem pDocs {P : Program} {G : Nat → Option (List IV)} {f_topiarykeep_docs f_doc_Make f_doc_End f_doc_String f_doc_In : Nat} (hF : compF P G f_topiarykeep_docs = some (35, [(none, 0)], (c_topiarykeep_docs f_doc_Make f_doc_End f_doc_String f_doc_In).bare))
    (hM : PureC P G f_doc_Make [treeK.av] (.tup [Doc.av (makeD treeK).1, .int .i64 (makeD treeK).2])) (hE : PureC P G f_doc_End [Doc.av (docOf treeK), .int .i64 1] (.int .i64 (endD (docOf treeK) 1)))
    (hS : PureC P G f_doc_String [Doc.av (docOf treeK), .int .i64 0] (.str (strD (docOf treeK) 0))) (hI : PureC P G f_doc_In [Doc.av (docOf treeK), .int .i64 2, .int .i64 1] (.bool (inD (docOf treeK) 2 1))) :
    PureC P G f_topiarykeep_docs [] (.bool true) := by
  refine pure_of_go hF (by simp) (by simp [lbss]) (by simp [AV.lbs]) ?_
  have hm : makeD treeK = (docOf treeK, 0) := by unfold makeD; rw [if_pos treeK_good]
  have e1 : endD (docOf treeK) 1 = 3 := by
    have := endD_of treeK_good (n := 1) (q := 0) (y := .mk false [98] [] [.mk true [120] [] []]) ⟨(docOf treeK).drop 3, rfl⟩
    exact this
  have e2 : strD (docOf treeK) 0 = [120] := by
    have := strD_of treeK_good (n := 0) (q := -1) (y := treeK) ⟨[], rfl⟩
    exact this
  have e3 : inD (docOf treeK) 2 1 = true := by unfold inD; rw [e1]; rfl
  rw [hm] at hM
  rw [e1] at hE
  rw [e2] at hS
  rw [e3] at hI
  unfold c_topiarykeep_docs
  simp only [↓evs, evp, evq, evl, boxK, ↓a1_still, stillV, ↓af_still, ↓af_load, ↓af_store, ↓af_app, ↓af_new, ↓af_box, binV, AV.cells, Lb.loc.injEq, Lb.par.injEq, Lb.gen.injEq, loadV, storeV, ldV, AV.stb, AV.one, IV.av1, Lb.app, Lb.fresh, reduceCtorEq, Bool.false_eq_true, ptrL, appL, fillA, chunks, ivs, AV.iv, mkE, if_false, if_true, List.not_mem_nil, forall_eq, Nat.reduceEqDiff, Nat.reduceLT, Nat.reduceLeDiff, Nat.reduceAdd, Nat.reduceMul, Int.reduceToNat, Int.reduceLE, Int.reduceLT, Int.le_refl, Int.toNat_zero, beq_self_eq_true, List.isEmpty_nil, List.replicate_succ, List.replicate_zero]
  refine callT_pure (hM.of rfl) ?_
  simp only [↓evs, evp, evq, evl, boxK, ↓a1_still, stillV, ↓af_still, ↓af_load, ↓af_store, ↓af_app, ↓af_new, ↓af_box, binV, AV.cells, Lb.loc.injEq, Lb.par.injEq, Lb.gen.injEq, loadV, storeV, ldV, AV.stb, AV.one, IV.av1, Lb.app, Lb.fresh, reduceCtorEq, Bool.false_eq_true, ptrL, appL, fillA, chunks, ivs, AV.iv, mkE, if_false, if_true, List.not_mem_nil, forall_eq, Nat.reduceEqDiff, Nat.reduceLT, Nat.reduceLeDiff, Nat.reduceAdd, Nat.reduceMul, Int.reduceToNat, Int.reduceLE, Int.reduceLT, Int.le_refl, Int.toNat_zero, beq_self_eq_true, List.isEmpty_nil, Doc.av, List.length_map]
  rw [show (((docOf treeK).length : Int) == 4) = true from rfl]
  simp only [↓evs, evp, evq, evl, boxK, ↓a1_still, stillV, ↓af_still, ↓af_load, ↓af_store, ↓af_app, ↓af_new, ↓af_box, binV, AV.cells, Lb.loc.injEq, Lb.par.injEq, Lb.gen.injEq, loadV, storeV, ldV, AV.stb, AV.one, IV.av1, Lb.app, Lb.fresh, reduceCtorEq, Bool.false_eq_true, ptrL, appL, fillA, chunks, ivs, AV.iv, mkE, if_false, if_true, List.not_mem_nil, forall_eq, Nat.reduceEqDiff, Nat.reduceLT, Nat.reduceLeDiff, Nat.reduceAdd, Nat.reduceMul, Int.reduceToNat, Int.reduceLE, Int.reduceLT, Int.le_refl, Int.toNat_zero, beq_self_eq_true, List.isEmpty_nil]
  refine callT_pure hE ?_
  simp only [↓evs, evp, evq, evl, boxK, ↓a1_still, stillV, ↓af_still, ↓af_load, ↓af_store, ↓af_app, ↓af_new, ↓af_box, binV, AV.cells, Lb.loc.injEq, Lb.par.injEq, Lb.gen.injEq, loadV, storeV, ldV, AV.stb, AV.one, IV.av1, Lb.app, Lb.fresh, reduceCtorEq, Bool.false_eq_true, ptrL, appL, fillA, chunks, ivs, AV.iv, mkE, if_false, if_true, List.not_mem_nil, forall_eq, Nat.reduceEqDiff, Nat.reduceLT, Nat.reduceLeDiff, Nat.reduceAdd, Nat.reduceMul, Int.reduceToNat, Int.reduceLE, Int.reduceLT, Int.le_refl, Int.toNat_zero, beq_self_eq_true, List.isEmpty_nil, show ((3 : Int) == 3) = true from rfl]
  refine callT_pure hS ?_
  simp only [↓evs, evp, evq, evl, boxK, ↓a1_still, stillV, ↓af_still, ↓af_load, ↓af_store, ↓af_app, ↓af_new, ↓af_box, binV, AV.cells, Lb.loc.injEq, Lb.par.injEq, Lb.gen.injEq, loadV, storeV, ldV, AV.stb, AV.one, IV.av1, Lb.app, Lb.fresh, reduceCtorEq, Bool.false_eq_true, ptrL, appL, fillA, chunks, ivs, AV.iv, mkE, if_false, if_true, List.not_mem_nil, forall_eq, Nat.reduceEqDiff, Nat.reduceLT, Nat.reduceLeDiff, Nat.reduceAdd, Nat.reduceMul, Int.reduceToNat, Int.reduceLE, Int.reduceLT, Int.le_refl, Int.toNat_zero, beq_self_eq_true, List.isEmpty_nil, show (([120] : Bs) == [120]) = true from rfl]
  refine callT_pure hI ?_
  simp only [↓evs, evp, evq, evl, boxK, ↓a1_still, stillV, ↓af_still, ↓af_load, ↓af_store, ↓af_app, ↓af_new, ↓af_box, binV, AV.cells, Lb.loc.injEq, Lb.par.injEq, Lb.gen.injEq, loadV, storeV, ldV, AV.stb, AV.one, IV.av1, Lb.app, Lb.fresh, reduceCtorEq, Bool.false_eq_true, ptrL, appL, fillA, chunks, ivs, AV.iv, mkE, if_false, if_true, List.not_mem_nil, forall_eq, Nat.reduceEqDiff, Nat.reduceLT, Nat.reduceLeDiff, Nat.reduceAdd, Nat.reduceMul, Int.reduceToNat, Int.reduceLE, Int.reduceLT, Int.le_refl, Int.toNat_zero, beq_self_eq_true, List.isEmpty_nil]

end Go.Am
