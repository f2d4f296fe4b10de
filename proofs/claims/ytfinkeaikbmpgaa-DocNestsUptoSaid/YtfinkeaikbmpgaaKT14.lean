import Derived.Test.YtfinkeaikbmpgaaKAm33
import Derived.Test.YtfinkeaikbmpgaaKD1
import Derived.Test.YtfinkeaikbmpgaaKT9
set_option linter.unusedSimpArgs false
set_option linter.unusedVariables false
set_option linter.unnecessarySimpa false
set_option linter.defProp false
/- A tree is put behind a document's nodes. -/
namespace Go.Am
open Go Go.RowKit

def c_doc_put (f_slices_Clone_Attr_Attr f_doc_put : Nat) : AC :=
(.seq (.reg [⟨(some 4), none, (.box (.t 1))⟩, ⟨(some 6), none, (.mov (.c (.int .i64 0)))⟩]) (.seq (.reg [⟨(some 11), none, (.mov (.t 0))⟩, ⟨(some 12), none, (.nchk (.t 11))⟩, ⟨(some 13), none, (.fld (.t 12) 0)⟩, ⟨(some 14), none, (.load none (.t 13))⟩, ⟨(some 15), none, (.len (.t 14))⟩, ⟨(some 7), none, (.mov (.t 15))⟩]) (.seq (.dreg [⟨(some 16), none, (.mov (.t 0))⟩, ⟨(some 17), none, (.mov (.t 0))⟩, ⟨(some 18), none, (.nchk (.t 17))⟩, ⟨(some 19), none, (.fld (.t 18) 0)⟩, ⟨(some 20), none, (.load none (.t 19))⟩, ⟨(some 21), none, (.fld (.t 4) 0)⟩, ⟨(some 22), none, (.load none (.t 21))⟩, ⟨(some 23), none, (.fld (.t 4) 1)⟩, ⟨(some 24), none, (.load none (.t 23))⟩, ⟨(some 25), none, (.fld (.t 4) 2)⟩, ⟨(some 26), none, (.load none (.t 25))⟩, ⟨(some 27), none, (.call f_slices_Clone_Attr_Attr [(.t 26)])⟩, ⟨(some 28), none, (.mov (.t 2))⟩, ⟨(some 29), none, (.bld [(.bool false), (.str []), .nil0, (.int .i64 0), .nil0] [(0, (1, (.t 22))), (1, (1, (.t 24))), (2, (1, (.t 27))), (3, (1, (.t 28)))])⟩, ⟨(some 30), none, (.lits 1 5 [(.bool false), (.str []), .nil0, (.int .i64 0), .nil0] [(0, (.t 29))])⟩, ⟨(some 31), none, (.app (.t 20) (.t 30) 5 80)⟩, ⟨(some 32), none, (.nchk (.t 16))⟩, ⟨(some 33), none, (.fld (.t 32) 0)⟩, ⟨none, none, (.store 1 (.t 33) (.t 31))⟩] [[], [], [1], [2], [3], [], [5], [], [7], [], [9], [10], [], [6, 8, 11, 12], [13], [4, 14, 11], [0, 0, 1, 2, 3, 4, 5, 6, 7, 8, 9, 10, 11, 12, 13, 14, 15], [16, 0, 1, 2, 3, 4, 5, 6, 7, 8, 9, 10, 11, 12, 13, 14, 15], [17, 15, 15, 0, 1, 2, 3, 4, 5, 6, 7, 8, 9, 10, 11, 12, 13, 14, 15]] [.no, .no, .no, .no, (.rw [.par 0] []), .no, .rw [.loc 4] [], .no, .rw [.loc 4] [], .no, .rw [.loc 4] [], .no, .no, .no, .no, (.rw [] [.par 1, .gen 31, .loc 31]), .no, .no, (.rw [] [.par 0])]) (.seq (.reg [⟨(some 8), none, (.mov (.c .nil0))⟩]) (.gh (.own 8 1) (.seq (.seq (.reg [⟨(some 34), none, (.fld (.t 4) 3)⟩, ⟨(some 35), none, (.load none (.t 34))⟩, ⟨(some 36), none, (.len (.t 35))⟩, ⟨(some 37), none, (.mov (.c (.int .i64 0)))⟩]) (.block 0 (.loop (.seq (.reg [⟨(some 38), none, (.bin .lss (.t 37) (.t 36))⟩]) (.seq (.cond (.t 38) .skip (.exit 0)) (.seq (.block 1 (.seq (.reg [⟨(some 39), none, (.ixa (.t 35) (.t 37) 4)⟩, ⟨(some 40), none, (.load (some 4) (.t 39))⟩, ⟨(some 10), none, (.new [(.bool false), (.str []), .nil0, .nil0])⟩, ⟨none, none, (.store 4 (.t 10) (.t 40))⟩]) (.reg [⟨(some 41), none, (.mov (.t 8))⟩, ⟨(some 42), none, (.mov (.t 0))⟩, ⟨(some 43), none, (.load (some 4) (.t 10))⟩, ⟨(some 44), none, (.mov (.t 7))⟩, ⟨(some 45), none, (.call f_doc_put [(.t 42), (.t 43), (.t 44)])⟩, ⟨(some 46), none, (.lits 1 1 [(.int .i64 0)] [(0, (.t 45))])⟩, ⟨(some 47), none, (.app (.t 41) (.t 46) 1 8)⟩, ⟨(some 8), none, (.mov (.t 47))⟩]))) (.reg [⟨(some 48), none, (.bin .add (.t 37) (.c (.int .i64 1)))⟩, ⟨(some 37), none, (.mov (.t 48))⟩]))))))) (.gh (.frz (.loc 8) 8) (.seq (.reg [⟨(some 49), none, (.mov (.t 0))⟩, ⟨(some 50), none, (.nchk (.t 49))⟩, ⟨(some 51), none, (.fld (.t 50) 0)⟩, ⟨(some 52), none, (.load none (.t 51))⟩, ⟨(some 53), none, (.mov (.t 7))⟩, ⟨(some 54), none, (.mov (.t 8))⟩, ⟨(some 55), none, (.ixa (.t 52) (.t 53) 5)⟩, ⟨(some 56), none, (.fld (.t 55) 4)⟩, ⟨none, none, (.store 1 (.t 56) (.t 54))⟩]) (.seq (.reg [⟨(some 57), none, (.mov (.t 7))⟩, ⟨(some 6), none, (.mov (.t 57))⟩]) .ret)))))))))

def Tree.node0 (x : Tree) (p : Int) : Node := ⟨x.text, x.s, x.attrs, p, []⟩

/-- The nodes, when some of the kids are there. -/
def putN (d : Doc) (x : Tree) (p : Int) (i : Nat) : Doc := d ++ [x.node0 p] ++ flats (d.length + 1) d.length (x.kids.take i)

theorem putN_len (d : Doc) (x : Tree) (p : Int) (i : Nat) : (putN d x p i).length = d.length + 1 + cntT (x.kids.take i) := by simp [putN, flats_len]; omega
theorem putN_succ {d : Doc} {x : Tree} {p : Int} {i : Nat} {k : Tree} (h : x.kids[i]? = some k) : putN d x p (i + 1) = putN d x p i ++ k.flat (putN d x p i).length d.length := by
  rw [putN_len]
  unfold putN
  rw [List.take_add_one, h, flats_app]
  simp [flats]

/-- The loop over the kids. -/
structure PutS (x : Tree) where
  i : Nat
  L : Lb
  u : Lb → Bool
  hi : i ≤ x.kids.length
  l0 : L ≠ .par 0
  l8 : L ≠ .loc 8
  l10 : L ≠ .loc 10
  l47 : L ≠ .loc 47
  lg : ∀ j, i ≤ j → L ≠ .gen (1000 + j)
  u10 : u (.loc 10) = false
  u47 : u (.loc 47) = false
  ug : ∀ j, i ≤ j → u (.gen (1000 + j)) = false

def putLs {x : Tree} (q : PutS x) : List Lb := [.par 0, q.L, .loc 8]
def putPs (d : Doc) {x : Tree} (q : PutS x) : List (Nat × AV) :=
  [(0, .ptr (.par 0) 1 0 0), (7, .int .i64 d.length), (8, .sl (.loc 8) 1 0 (kidsAt (d.length + 1) (x.kids.take q.i)).length), (35, .list (ivT x.kids)), (36, .int .i64 x.kids.length), (37, .int .i64 q.i)]
def putRs (d : Doc) (p : Int) {x : Tree} (q : PutS x) : List (Lb × Row) :=
  [(.par 0, ⟨1, [[.sl q.L 5 0 (putN d x p q.i).length]]⟩), (q.L, ⟨5, immE ((putN d x p q.i).map Node.iv)⟩), (.loc 8, ⟨1, immE ((kidsAt (d.length + 1) (x.kids.take q.i)).map intIV)⟩)]

theorem lbss_rows {x : Tree} (d : Doc) (p : Int) (q : PutS x) : ∀ r ∈ putRs d p q, ∀ cs ∈ r.2.els, ∀ l ∈ lbss cs, l ∈ putLs q := by
  intro r hr cs hcs l hl
  simp only [putRs, List.mem_cons, List.not_mem_nil, or_false] at hr
  rcases hr with rfl | rfl | rfl
  · simp only [List.mem_singleton] at hcs
    subst hcs
    simp only [lbss, AV.lbs, List.append_nil, List.mem_singleton] at hl
    subst hl; simp [putLs]
  · rw [lbss_immE hcs] at hl; simp at hl
  · rw [lbss_immE hcs] at hl; simp at hl

theorem pPut {P : Program} {G : Nat → Option (List IV)} {f_doc_put f_slices_Clone_Attr_Attr : Nat} (hF : compF P G f_doc_put = some (58, [(none, 6)], (c_doc_put f_slices_Clone_Attr_Attr f_doc_put).bare)) (x : Tree) (d : Doc) (p : Int) (hx : d.length + x.wt ≤ B)
    (hC : PureC P G f_slices_Clone_Attr_Attr [.list (ivA x.attrs)] (.list (ivA x.attrs)))
    (hK : ∀ k ∈ x.kids, ∀ (d' : Doc), d'.length + k.wt ≤ d.length + x.wt → LstC P G 5 f_doc_put [.ptr (.par 0) 1 0 0, k.av, .int .i64 d.length] (d'.map Node.iv) (.int .i64 d'.length) ((d' ++ k.flat d'.length d.length).map Node.iv)) :
    LstC P G 5 f_doc_put [.ptr (.par 0) 1 0 0, x.av, .int .i64 p] (d.map Node.iv) (.int .i64 d.length) ((d ++ x.flat d.length p).map Node.iv) := by
  refine ⟨by simp [lbss, AV.lbs, Tree.av], rfl, fun b hb => ?_⟩
  refine spec_of_go hF (by simp) ?_ ?_ ?_
  · rintro l ⟨r, h⟩
    rcases lstIn_live h with ⟨rfl, _⟩ | ⟨_, rfl, _⟩ <;> rfl
  · intro l hl
    simp [lbss, AV.lbs, Tree.av] at hl
    subst hl
    cases b <;> simp [lstIn]
  have hlB : d.length ≤ B := by omega
  have hwx := x.wt_eq
  have hkl := wtT_len x.kids
  unfold c_doc_put
  have hnode : (x.node0 p).iv = .agg [.bool x.text, .str x.s, .list (ivA x.attrs), .int .i64 p, .list []] := rfl
  cases b with
  | true =>
    simp only [↓evs, evp, evq, evl, boxK, ↓a1_still, stillV, ↓af_still, ↓af_load, ↓af_store, ↓af_app, ↓af_new, ↓af_box, binV, AV.cells, Lb.loc.injEq, Lb.par.injEq, Lb.gen.injEq, loadV, storeV, ldV, AV.stb, AV.one, IV.av1, Lb.app, Lb.fresh, reduceCtorEq, Bool.false_eq_true, ptrL, appL, fillA, chunks, ivs, AV.iv, mkE, if_false, if_true, List.not_mem_nil, forall_eq, Nat.reduceEqDiff, Nat.reduceLT, Nat.reduceLeDiff, Nat.reduceAdd, Nat.reduceMul, Int.reduceToNat, Int.reduceLE, Int.reduceLT, Int.le_refl, Int.toNat_zero, beq_self_eq_true, List.isEmpty_nil, lstIn, Tree.av, List.length_map]
    refine ⟨rfl, puK_in hC ?_⟩
    simp only [↓evs, evp, evq, evl, boxK, ↓a1_still, stillV, ↓af_still, ↓af_load, ↓af_store, ↓af_app, ↓af_new, ↓af_box, binV, AV.cells, Lb.loc.injEq, Lb.par.injEq, Lb.gen.injEq, loadV, storeV, ldV, AV.stb, AV.one, IV.av1, Lb.app, Lb.fresh, reduceCtorEq, Bool.false_eq_true, ptrL, appL, fillA, chunks, ivs, AV.iv, mkE, if_false, if_true, List.not_mem_nil, forall_eq, Nat.reduceEqDiff, Nat.reduceLT, Nat.reduceLeDiff, Nat.reduceAdd, Nat.reduceMul, Int.reduceToNat, Int.reduceLE, Int.reduceLT, Int.le_refl, Int.toNat_zero, beq_self_eq_true, List.isEmpty_nil]
    rw [app_far 5 80 31 (.par 1) (d.map Node.iv) (.agg [.bool x.text, .str x.s, .list (ivA x.attrs), .int .i64 p, .list []]) rfl (by simp [upd_at]) (by simp) rfl (by simp [IV.cells]) (by unfold B at hlB; omega) (by decide) (by simp) (by simp [upd_at, Hp.none])]
    simp only [↓evs, evp, evq, evl, boxK, ↓a1_still, stillV, ↓af_still, ↓af_load, ↓af_store, ↓af_app, ↓af_new, ↓af_box, binV, AV.cells, Lb.loc.injEq, Lb.par.injEq, Lb.gen.injEq, loadV, storeV, ldV, AV.stb, AV.one, IV.av1, Lb.app, Lb.fresh, reduceCtorEq, Bool.false_eq_true, ptrL, appL, fillA, chunks, ivs, AV.iv, mkE, if_false, if_true, List.not_mem_nil, forall_eq, Nat.reduceEqDiff, Nat.reduceLT, Nat.reduceLeDiff, Nat.reduceAdd, Nat.reduceMul, Int.reduceToNat, Int.reduceLE, Int.reduceLT, Int.le_refl, Int.toNat_zero, beq_self_eq_true, List.isEmpty_nil, ivT_len]
    refine ⟨by rintro l (rfl | rfl) <;> simp, ?_⟩
    refine loop_used (σ := PutS x) putLs (fun q => q.u) (putPs d) (putRs d p) (fun q => x.kids.length - q.i)
      { i := 0, L := .gen 31, u := fun q => decide (q = .par 1), hi := Nat.zero_le _, l0 := by simp, l8 := by simp, l10 := by simp, l47 := by simp, lg := fun j _ => by simp; omega, u10 := by simp, u47 := by simp, ug := fun j _ => by simp }
      (fun _ => rfl) (fun q => by simp [lbss, AV.lbs, putPs, putLs]) (lbss_rows d p) ⟨[], ?_⟩ ?_
    · refine ⟨?_, ?_, ?_, by simp [putLs, rnF], fun l _ => ⟨id, fun _ => rfl⟩⟩
      · intro l hf hu
        by_cases e0 : l = .par 0
        · subst e0; simp [putLs]
        · by_cases e1 : l = .gen 31
          · subst e1; simp [putLs]
          · by_cases e2 : l = .par 1
            · subst e2; simp
            · exfalso; apply hu
              cases l <;> simp_all [Lb.fresh, upd_at, Hp.none]
      · simp [putPs, EqL, rnF, ren, kidsAt, put, argE]
      · simp [putRs, RwL, rnF, upd_at, renR, rens, ren, putN, flats, kidsAt, immE, Node.iv, Node.cs, Tree.node0, IV.cells, IV.av1, rens_imm]
    · intro q
      have a0 : ofU q.u (putRs d p q) (.par 0) = .live ⟨1, [[.sl q.L 5 0 (putN d x p q.i).length]]⟩ := by simp [ofU, putRs, ofH, upd]
      have aL : ofU q.u (putRs d p q) q.L = .live ⟨5, immE ((putN d x p q.i).map Node.iv)⟩ := by simp [ofU, putRs, ofH, upd, q.l0]
      have a8 : ofU q.u (putRs d p q) (.loc 8) = .live ⟨1, immE ((kidsAt (d.length + 1) (x.kids.take q.i)).map intIV)⟩ := by simp [ofU, putRs, ofH, upd, Ne.symm q.l8]
      have a10 : ofU q.u (putRs d p q) (.loc 10) = .unused := by simp [ofU, putRs, ofH, upd, Ne.symm q.l10, q.u10, Hp.none]
      have a47 : ofU q.u (putRs d p q) (.loc 47) = .unused := by simp [ofU, putRs, ofH, upd, Ne.symm q.l47, q.u47, Hp.none]
      have ag : ofU q.u (putRs d p q) (.gen (1000 + q.i)) = .unused := by simp [ofU, putRs, ofH, upd, Ne.symm (q.lg q.i (Nat.le_refl _)), q.ug q.i (Nat.le_refl _), Hp.none]
      have anf : ∀ l : Lb, l.fresh = false → ofU q.u (putRs d p q) l ≠ .unused → l = .par 0 ∨ l = q.L ∨ q.u l = true := by
        intro l hf hu
        by_cases e0 : l = .par 0
        · exact .inl e0
        · by_cases e1 : l = q.L
          · exact .inr (.inl e1)
          · by_cases e2 : q.u l = true
            · exact .inr (.inr e2)
            · exfalso; apply hu
              have e3 : l ≠ .loc 8 := by rintro rfl; simp [Lb.fresh] at hf
              simp [ofU, putRs, ofH, upd, e0, e1, e2, e3, Hp.none]
      have hls : lbss ((putPs d q).map Prod.snd) = [.par 0, .loc 8] := by simp [lbss, AV.lbs, putPs]
      generalize ofU q.u (putRs d p q) = H0 at *
      have hn10 := q.l10
      have hn8 := q.l8
      have hn47 := q.l47
      have hi := q.hi
      have hkn : (kidsAt (d.length + 1) (x.kids.take q.i)).length = q.i := by rw [kidsAt_len, List.length_take]; omega
      have hct := cntT_le (x.kids.take q.i)
      have hwt := wtT_take x.kids q.i
      simp only [↓evs, evp, evq, evl, boxK, ↓a1_still, stillV, ↓af_still, ↓af_load, ↓af_store, ↓af_app, ↓af_new, ↓af_box, binV, AV.cells, Lb.loc.injEq, Lb.par.injEq, Lb.gen.injEq, loadV, storeV, ldV, AV.stb, AV.one, IV.av1, Lb.app, Lb.fresh, reduceCtorEq, Bool.false_eq_true, ptrL, appL, fillA, chunks, ivs, AV.iv, mkE, if_false, if_true, List.not_mem_nil, forall_eq, Nat.reduceEqDiff, Nat.reduceLT, Nat.reduceLeDiff, Nat.reduceAdd, Nat.reduceMul, Int.reduceToNat, Int.reduceLE, Int.reduceLT, Int.le_refl, Int.toNat_zero, beq_self_eq_true, List.isEmpty_nil, putPs]
      refine cK_b (fun h => ?_) (fun h => ?_)
      · have hlt : q.i < x.kids.length := by simpa using h
        obtain ⟨k, hki⟩ : ∃ k, x.kids[q.i]? = some k := ⟨_, List.getElem?_eq_getElem hlt⟩
        have hw : IntKind.i64.wrap ((q.i : Int) + 1) = ((q.i + 1 : Nat) : Int) := wrap64 (by omega) (by unfold B at hx; omega)
        have htk : x.kids.take (q.i + 1) = x.kids.take q.i ++ [k] := take_snoc' hki
        have hwk : wtT (x.kids.take q.i) + k.wt ≤ wtT x.kids := by
          have := wtT_take x.kids (q.i + 1)
          rw [htk, wtT_app] at this
          simp only [wtT] at this; omega
        simp only [↓evs, evp, evq, evl, boxK, ↓a1_still, stillV, ↓af_still, ↓af_load, ↓af_store, ↓af_app, ↓af_new, ↓af_box, binV, AV.cells, Lb.loc.injEq, Lb.par.injEq, Lb.gen.injEq, loadV, storeV, ldV, AV.stb, AV.one, IV.av1, Lb.app, Lb.fresh, reduceCtorEq, Bool.false_eq_true, ptrL, appL, fillA, chunks, ivs, AV.iv, mkE, if_false, if_true, List.not_mem_nil, forall_eq, Nat.reduceEqDiff, Nat.reduceLT, Nat.reduceLeDiff, Nat.reduceAdd, Nat.reduceMul, Int.reduceToNat, Int.reduceLE, Int.reduceLT, Int.le_refl, Int.toNat_zero, beq_self_eq_true, List.isEmpty_nil, ivT_get, hki, elszT, Tree.cells_eq, Tree.cs, a10]
        refine callT_lst (l := .par 0) (N := .gen (1000 + q.i)) (o := some q.L) (hK k (List.mem_of_getElem? hki) (putN d x p q.i) (by rw [putN_len]; omega)) rfl ⟨q.l0, by simp only [↓evs, evp, evq, evl, boxK, ↓a1_still, stillV, ↓af_still, ↓af_load, ↓af_store, ↓af_app, ↓af_new, ↓af_box, binV, AV.cells, Lb.loc.injEq, Lb.par.injEq, Lb.gen.injEq, loadV, storeV, ldV, AV.stb, AV.one, IV.av1, Lb.app, Lb.fresh, reduceCtorEq, Bool.false_eq_true, ptrL, appL, fillA, chunks, ivs, AV.iv, mkE, if_false, if_true, List.not_mem_nil, forall_eq, Nat.reduceEqDiff, Nat.reduceLT, Nat.reduceLeDiff, Nat.reduceAdd, Nat.reduceMul, Int.reduceToNat, Int.reduceLE, Int.reduceLT, Int.le_refl, Int.toNat_zero, beq_self_eq_true, List.isEmpty_nil, a0, List.length_map], by simp only [↓evs, evp, evq, evl, boxK, ↓a1_still, stillV, ↓af_still, ↓af_load, ↓af_store, ↓af_app, ↓af_new, ↓af_box, binV, AV.cells, Lb.loc.injEq, Lb.par.injEq, Lb.gen.injEq, loadV, storeV, ldV, AV.stb, AV.one, IV.av1, Lb.app, Lb.fresh, reduceCtorEq, Bool.false_eq_true, ptrL, appL, fillA, chunks, ivs, AV.iv, mkE, if_false, if_true, List.not_mem_nil, forall_eq, Nat.reduceEqDiff, Nat.reduceLT, Nat.reduceLeDiff, Nat.reduceAdd, Nat.reduceMul, Int.reduceToNat, Int.reduceLE, Int.reduceLT, Int.le_refl, Int.toNat_zero, beq_self_eq_true, List.isEmpty_nil, aL, if_neg hn10]⟩ (by simp only [↓evs, evp, evq, evl, boxK, ↓a1_still, stillV, ↓af_still, ↓af_load, ↓af_store, ↓af_app, ↓af_new, ↓af_box, binV, AV.cells, Lb.loc.injEq, Lb.par.injEq, Lb.gen.injEq, loadV, storeV, ldV, AV.stb, AV.one, IV.av1, Lb.app, Lb.fresh, reduceCtorEq, Bool.false_eq_true, ptrL, appL, fillA, chunks, ivs, AV.iv, mkE, if_false, if_true, List.not_mem_nil, forall_eq, Nat.reduceEqDiff, Nat.reduceLT, Nat.reduceLeDiff, Nat.reduceAdd, Nat.reduceMul, Int.reduceToNat, Int.reduceLE, Int.reduceLT, Int.le_refl, Int.toNat_zero, beq_self_eq_true, List.isEmpty_nil, ag]) (by intro h; simp [Lb.fresh] at h) ?_
        rintro L' H'' hL' ⟨b1, b2, b3⟩ hsame hused
        have c8 : H'' (.loc 8) = .live ⟨1, immE ((kidsAt (d.length + 1) (x.kids.take q.i)).map intIV)⟩ := by
          rw [hsame _ (by simp) (by simp) (by simpa using hn8)]; simp only [↓evs, evp, evq, evl, boxK, ↓a1_still, stillV, ↓af_still, ↓af_load, ↓af_store, ↓af_app, ↓af_new, ↓af_box, binV, AV.cells, Lb.loc.injEq, Lb.par.injEq, Lb.gen.injEq, loadV, storeV, ldV, AV.stb, AV.one, IV.av1, Lb.app, Lb.fresh, reduceCtorEq, Bool.false_eq_true, ptrL, appL, fillA, chunks, ivs, AV.iv, mkE, if_false, if_true, List.not_mem_nil, forall_eq, Nat.reduceEqDiff, Nat.reduceLT, Nat.reduceLeDiff, Nat.reduceAdd, Nat.reduceMul, Int.reduceToNat, Int.reduceLE, Int.reduceLT, Int.le_refl, Int.toNat_zero, beq_self_eq_true, List.isEmpty_nil, a8]
        have c47 : H'' (.loc 47) = .unused := by
          rw [hsame _ (by simp) (by simp) (by simpa using hn47)]; simp only [↓evs, evp, evq, evl, boxK, ↓a1_still, stillV, ↓af_still, ↓af_load, ↓af_store, ↓af_app, ↓af_new, ↓af_box, binV, AV.cells, Lb.loc.injEq, Lb.par.injEq, Lb.gen.injEq, loadV, storeV, ldV, AV.stb, AV.one, IV.av1, Lb.app, Lb.fresh, reduceCtorEq, Bool.false_eq_true, ptrL, appL, fillA, chunks, ivs, AV.iv, mkE, if_false, if_true, List.not_mem_nil, forall_eq, Nat.reduceEqDiff, Nat.reduceLT, Nat.reduceLeDiff, Nat.reduceAdd, Nat.reduceMul, Int.reduceToNat, Int.reduceLE, Int.reduceLT, Int.le_refl, Int.toNat_zero, beq_self_eq_true, List.isEmpty_nil, a47]
        simp only [↓evs, evp, evq, evl, boxK, ↓a1_still, stillV, ↓af_still, ↓af_load, ↓af_store, ↓af_app, ↓af_new, ↓af_box, binV, AV.cells, Lb.loc.injEq, Lb.par.injEq, Lb.gen.injEq, loadV, storeV, ldV, AV.stb, AV.one, IV.av1, Lb.app, Lb.fresh, reduceCtorEq, Bool.false_eq_true, ptrL, appL, fillA, chunks, ivs, AV.iv, mkE, if_false, if_true, List.not_mem_nil, forall_eq, Nat.reduceEqDiff, Nat.reduceLT, Nat.reduceLeDiff, Nat.reduceAdd, Nat.reduceMul, Int.reduceToNat, Int.reduceLE, Int.reduceLT, Int.le_refl, Int.toNat_zero, beq_self_eq_true, List.isEmpty_nil]
        rw [app_loc 1 8 47 8 ((kidsAt (d.length + 1) (x.kids.take q.i)).map intIV) (.int .i64 (putN d x p q.i).length) c8 (by rw [List.length_map]) rfl (by simp [IV.cells]) (by rw [hkn]; unfold B at hx; omega) (by decide) (by decide) c47]
        simp only [↓evs, evp, evq, evl, boxK, ↓a1_still, stillV, ↓af_still, ↓af_load, ↓af_store, ↓af_app, ↓af_new, ↓af_box, binV, AV.cells, Lb.loc.injEq, Lb.par.injEq, Lb.gen.injEq, loadV, storeV, ldV, AV.stb, AV.one, IV.av1, Lb.app, Lb.fresh, reduceCtorEq, Bool.false_eq_true, ptrL, appL, fillA, chunks, ivs, AV.iv, mkE, if_false, if_true, List.not_mem_nil, forall_eq, Nat.reduceEqDiff, Nat.reduceLT, Nat.reduceLeDiff, Nat.reduceAdd, Nat.reduceMul, Int.reduceToNat, Int.reduceLE, Int.reduceLT, Int.le_refl, Int.toNat_zero, beq_self_eq_true, List.isEmpty_nil, hw]
        have hL8 : L' ≠ .loc 8 := by rcases hL' with rfl | e; simp; simp only [Option.some.injEq] at e; rw [← e]; exact hn8
        have hL10 : L' ≠ .loc 10 := by rcases hL' with rfl | e; simp; simp only [Option.some.injEq] at e; rw [← e]; exact hn10
        have hL47 : L' ≠ .loc 47 := by rcases hL' with rfl | e; simp; simp only [Option.some.injEq] at e; rw [← e]; exact hn47
        refine ⟨{ i := q.i + 1, L := L', u := fun l => q.u l || (decide (l = q.L) || decide (l = .gen (1000 + q.i))), hi := hlt, l0 := b1, l8 := hL8, l10 := hL10, l47 := hL47, lg := ?_, u10 := ?_, u47 := ?_, ug := ?_ }, by simp only; omega, [(.loc 8, .loc 47)], ?_⟩
        · intro j hj
          rcases hL' with rfl | e
          · simp; omega
          · simp only [Option.some.injEq] at e; rw [← e]; exact q.lg j (by omega)
        · simp [q.u10, Ne.symm hn10]
        · simp [q.u47, Ne.symm hn47]
        · intro j hj
          have := Ne.symm (q.lg j (by omega))
          simp [q.ug j (by omega), this]; omega
        have hP := putN_succ (d := d) (p := p) hki
        have hkid : kidsAt (d.length + 1) (x.kids.take (q.i + 1)) = kidsAt (d.length + 1) (x.kids.take q.i) ++ [((putN d x p q.i).length : Int)] := by
          rw [htk, kidsAt_app, putN_len]; simp [kidsAt]
        refine ⟨?_, ?_, ?_, ?_, ?_⟩
        · intro l hf hu
          by_cases e0 : l = .par 0
          · subst e0; simp [putLs]
          · by_cases e1 : l = q.L
            · right; simp [e1]
            · by_cases e2 : l = .gen (1000 + q.i)
              · right; simp [e2]
              · have e3 : l ≠ .loc 47 := by rintro rfl; simp [Lb.fresh] at hf
                have e4 : l ≠ .loc 8 := by rintro rfl; simp [Lb.fresh] at hf
                have e5 : l ≠ .loc 10 := by rintro rfl; simp [Lb.fresh] at hf
                rw [upd_ne _ _ e3, upd_ne _ _ e4, hsame l e0 e2 (by simpa using Ne.symm e1), upd_ne _ _ e5, upd_ne _ _ e5] at hu
                rcases anf l hf hu with h | h | h
                · exact absurd h e0
                · exact absurd h e1
                · right; simp [h]
        · simp [putPs, EqL, rnF, ren, put, hkn, htk, kidsAt_app, kidsAt]
        · have r0 : rnF [(.loc 8, .loc 47)] (.par 0) = .par 0 := rfl
          have rL : rnF [(.loc 8, .loc 47)] L' = L' := by simp [rnF, hL8]
          have r8 : rnF [(.loc 8, .loc 47)] (.loc 8) = .loc 47 := rfl
          refine ⟨?_, ?_, ?_, trivial⟩
          · show upd (upd H'' (.loc 8) .dead) (.loc 47) _ (.par 0) = .live (renR (rnF [(.loc 8, .loc 47)]) ⟨1, [[.sl L' 5 0 (putN d x p (q.i + 1)).length]]⟩)
            rw [upd_ne _ _ (by simp), upd_ne _ _ (by simp), b2, hP]
            simp [renR, rens, ren, rL]
          · show upd (upd H'' (.loc 8) .dead) (.loc 47) _ (rnF [(.loc 8, .loc 47)] L') = .live (renR (rnF [(.loc 8, .loc 47)]) ⟨5, immE ((putN d x p (q.i + 1)).map Node.iv)⟩)
            rw [rL, upd_ne _ _ hL47, upd_ne _ _ hL8, b3, renR_immE, hP]
          · show upd (upd H'' (.loc 8) .dead) (.loc 47) _ (.loc 47) = .live (renR (rnF [(.loc 8, .loc 47)]) ⟨1, immE ((kidsAt (d.length + 1) (x.kids.take (q.i + 1))).map intIV)⟩)
            rw [renR_immE, hkid, List.map_append]
            simp only [↓evs, evp, evq, evl, boxK, ↓a1_still, stillV, ↓af_still, ↓af_load, ↓af_store, ↓af_app, ↓af_new, ↓af_box, binV, AV.cells, Lb.loc.injEq, Lb.par.injEq, Lb.gen.injEq, loadV, storeV, ldV, AV.stb, AV.one, IV.av1, Lb.app, Lb.fresh, reduceCtorEq, Bool.false_eq_true, ptrL, appL, fillA, chunks, ivs, AV.iv, mkE, if_false, if_true, List.not_mem_nil, forall_eq, Nat.reduceEqDiff, Nat.reduceLT, Nat.reduceLeDiff, Nat.reduceAdd, Nat.reduceMul, Int.reduceToNat, Int.reduceLE, Int.reduceLT, Int.le_refl, Int.toNat_zero, beq_self_eq_true, List.isEmpty_nil]
            rfl
        · simp [putLs, rnF, hL8, Ne.symm b1, hL47]
        · intro l hl
          simp only [putLs, List.mem_cons, List.not_mem_nil, or_false] at hl
          rcases hl with rfl | rfl | rfl
          · exact ⟨id, fun _ => rfl⟩
          · have rL : rnF [(.loc 8, .loc 47)] l = l := by simp [rnF, hL8]
            rw [rL]; exact ⟨id, fun _ => rfl⟩
          · exact ⟨fun _ => rfl, fun h => by simp [Lb.fresh] at h⟩
      · have hil : q.i = x.kids.length := by simp at h; omega
        have htl : x.kids.take q.i = x.kids := by rw [hil, List.take_length]
        rw [htl] at a8
        have hnl := putN_len d x p q.i
        have hlt : d.length < (putN d x p q.i).length := by omega
        have hget : (immE ((putN d x p q.i).map Node.iv))[d.length]? = some [.bool x.text, .str x.s, .list (ivA x.attrs), .int .i64 p, .list []] := by
          rw [immE_get, List.getElem?_map, putN, List.append_assoc, List.getElem?_append_right (Nat.le_refl _), Nat.sub_self]
          rfl
        simp only [↓evs, evp, evq, evl, boxK, ↓a1_still, stillV, ↓af_still, ↓af_load, ↓af_store, ↓af_app, ↓af_new, ↓af_box, binV, AV.cells, Lb.loc.injEq, Lb.par.injEq, Lb.gen.injEq, loadV, storeV, ldV, AV.stb, AV.one, IV.av1, Lb.app, Lb.fresh, reduceCtorEq, Bool.false_eq_true, ptrL, appL, fillA, chunks, ivs, AV.iv, mkE, if_false, if_true, List.not_mem_nil, forall_eq, Nat.reduceEqDiff, Nat.reduceLT, Nat.reduceLeDiff, Nat.reduceAdd, Nat.reduceMul, Int.reduceToNat, Int.reduceLE, Int.reduceLT, Int.le_refl, Int.toNat_zero, beq_self_eq_true, List.isEmpty_nil, h, htl]
        refine ⟨1, (kidsAt (d.length + 1) x.kids).map intIV, 0, _, rfl, a8, by simp, flatI _, ?_⟩
        simp only [↓evs, evp, evq, evl, boxK, ↓a1_still, stillV, ↓af_still, ↓af_load, ↓af_store, ↓af_app, ↓af_new, ↓af_box, binV, AV.cells, Lb.loc.injEq, Lb.par.injEq, Lb.gen.injEq, loadV, storeV, ldV, AV.stb, AV.one, IV.av1, Lb.app, Lb.fresh, reduceCtorEq, Bool.false_eq_true, ptrL, appL, fillA, chunks, ivs, AV.iv, mkE, if_false, if_true, List.not_mem_nil, forall_eq, Nat.reduceEqDiff, Nat.reduceLT, Nat.reduceLeDiff, Nat.reduceAdd, Nat.reduceMul, Int.reduceToNat, Int.reduceLE, Int.reduceLT, Int.le_refl, Int.toNat_zero, beq_self_eq_true, List.isEmpty_nil, a0, aL, hlt, hn8, hget, immE_len, List.length_map]
        have hfin : (immE ((putN d x p q.i).map Node.iv)).set d.length ((x.node d.length p).iv.cells.map IV.av1) = immE ((d ++ x.flat d.length p).map Node.iv) := by
          rw [x.flat_eq, immE_set, putN, htl]
          congr 1
          simp [List.set_append]
        have hlen2 : (d ++ x.flat d.length p).length = (putN d x p q.i).length := by
          rw [List.length_append, x.flat_len, hnl, htl, x.cnt_eq]; omega
        refine ⟨q.L, q.l0, ?_, ?_⟩
        · rw [upd_ne _ _ (Ne.symm q.l0), upd_ne _ _ (by simp), a0, List.length_map, hlen2]
        · rw [← hfin]
          have : (List.take (kidsAt (d.length + 1) x.kids).length ((kidsAt (d.length + 1) x.kids).map intIV)) = (kidsAt (d.length + 1) x.kids).map intIV := List.take_of_length_le (by simp)
          rw [this]
          simp only [↓evs, evp, evq, evl, boxK, ↓a1_still, stillV, ↓af_still, ↓af_load, ↓af_store, ↓af_app, ↓af_new, ↓af_box, binV, AV.cells, Lb.loc.injEq, Lb.par.injEq, Lb.gen.injEq, loadV, storeV, ldV, AV.stb, AV.one, IV.av1, Lb.app, Lb.fresh, reduceCtorEq, Bool.false_eq_true, ptrL, appL, fillA, chunks, ivs, AV.iv, mkE, if_false, if_true, List.not_mem_nil, forall_eq, Nat.reduceEqDiff, Nat.reduceLT, Nat.reduceLeDiff, Nat.reduceAdd, Nat.reduceMul, Int.reduceToNat, Int.reduceLE, Int.reduceLT, Int.le_refl, Int.toNat_zero, beq_self_eq_true, List.isEmpty_nil]
          rfl
  | false =>
    have hd : d = [] := by simpa using hb rfl
    have hd0 : d.length = 0 := by rw [hd]; rfl
    simp only [↓evs, evp, evq, evl, boxK, ↓a1_still, stillV, ↓af_still, ↓af_load, ↓af_store, ↓af_app, ↓af_new, ↓af_box, binV, AV.cells, Lb.loc.injEq, Lb.par.injEq, Lb.gen.injEq, loadV, storeV, ldV, AV.stb, AV.one, IV.av1, Lb.app, Lb.fresh, reduceCtorEq, Bool.false_eq_true, ptrL, appL, fillA, chunks, ivs, AV.iv, mkE, if_false, if_true, List.not_mem_nil, forall_eq, Nat.reduceEqDiff, Nat.reduceLT, Nat.reduceLeDiff, Nat.reduceAdd, Nat.reduceMul, Int.reduceToNat, Int.reduceLE, Int.reduceLT, Int.le_refl, Int.toNat_zero, beq_self_eq_true, List.isEmpty_nil, lstIn, Tree.av]
    refine ⟨rfl, puK_in hC ?_⟩
    simp only [↓evs, evp, evq, evl, boxK, ↓a1_still, stillV, ↓af_still, ↓af_load, ↓af_store, ↓af_app, ↓af_new, ↓af_box, binV, AV.cells, Lb.loc.injEq, Lb.par.injEq, Lb.gen.injEq, loadV, storeV, ldV, AV.stb, AV.one, IV.av1, Lb.app, Lb.fresh, reduceCtorEq, Bool.false_eq_true, ptrL, appL, fillA, chunks, ivs, AV.iv, mkE, if_false, if_true, List.not_mem_nil, forall_eq, Nat.reduceEqDiff, Nat.reduceLT, Nat.reduceLeDiff, Nat.reduceAdd, Nat.reduceMul, Int.reduceToNat, Int.reduceLE, Int.reduceLT, Int.le_refl, Int.toNat_zero, beq_self_eq_true, List.isEmpty_nil]
    rw [app_nil' 5 80 31 [.agg [.bool x.text, .str x.s, .list (ivA x.attrs), .int .i64 p, .list []]] (by simp [Elsz, IV.cells]) (by simp [Flat, IV.cells]) (by simp) (by decide) (by simp [upd_at, Hp.none])]
    simp only [↓evs, evp, evq, evl, boxK, ↓a1_still, stillV, ↓af_still, ↓af_load, ↓af_store, ↓af_app, ↓af_new, ↓af_box, binV, AV.cells, Lb.loc.injEq, Lb.par.injEq, Lb.gen.injEq, loadV, storeV, ldV, AV.stb, AV.one, IV.av1, Lb.app, Lb.fresh, reduceCtorEq, Bool.false_eq_true, ptrL, appL, fillA, chunks, ivs, AV.iv, mkE, if_false, if_true, List.not_mem_nil, forall_eq, Nat.reduceEqDiff, Nat.reduceLT, Nat.reduceLeDiff, Nat.reduceAdd, Nat.reduceMul, Int.reduceToNat, Int.reduceLE, Int.reduceLT, Int.le_refl, Int.toNat_zero, beq_self_eq_true, List.isEmpty_nil, ivT_len]
    refine ⟨by simp, ?_⟩
    refine loop_used (σ := PutS x) putLs (fun q => q.u) (putPs d) (putRs d p) (fun q => x.kids.length - q.i)
      { i := 0, L := .loc 31, u := fun q => false, hi := Nat.zero_le _, l0 := by simp, l8 := by simp, l10 := by simp, l47 := by simp, lg := fun j _ => by simp, u10 := rfl, u47 := rfl, ug := fun j _ => rfl }
      (fun _ => rfl) (fun q => by simp [lbss, AV.lbs, putPs, putLs]) (lbss_rows d p) ⟨[], ?_⟩ ?_
    · refine ⟨?_, ?_, ?_, by simp [putLs, rnF], fun l _ => ⟨id, fun _ => rfl⟩⟩
      · intro l hf hu
        by_cases e0 : l = .par 0
        · subst e0; simp [putLs]
        · exfalso; apply hu
          cases l <;> simp_all [Lb.fresh, upd_at, Hp.none]
      · simp [putPs, EqL, rnF, ren, kidsAt, put, argE, hd]
      · simp [putRs, RwL, rnF, upd_at, renR, rens, ren, putN, flats, kidsAt, immE, Node.iv, Node.cs, Tree.node0, IV.cells, IV.av1, rens_imm, hd]
    · intro q
      have a0 : ofU q.u (putRs d p q) (.par 0) = .live ⟨1, [[.sl q.L 5 0 (putN d x p q.i).length]]⟩ := by simp [ofU, putRs, ofH, upd]
      have aL : ofU q.u (putRs d p q) q.L = .live ⟨5, immE ((putN d x p q.i).map Node.iv)⟩ := by simp [ofU, putRs, ofH, upd, q.l0]
      have a8 : ofU q.u (putRs d p q) (.loc 8) = .live ⟨1, immE ((kidsAt (d.length + 1) (x.kids.take q.i)).map intIV)⟩ := by simp [ofU, putRs, ofH, upd, Ne.symm q.l8]
      have a10 : ofU q.u (putRs d p q) (.loc 10) = .unused := by simp [ofU, putRs, ofH, upd, Ne.symm q.l10, q.u10, Hp.none]
      have a47 : ofU q.u (putRs d p q) (.loc 47) = .unused := by simp [ofU, putRs, ofH, upd, Ne.symm q.l47, q.u47, Hp.none]
      have ag : ofU q.u (putRs d p q) (.gen (1000 + q.i)) = .unused := by simp [ofU, putRs, ofH, upd, Ne.symm (q.lg q.i (Nat.le_refl _)), q.ug q.i (Nat.le_refl _), Hp.none]
      have anf : ∀ l : Lb, l.fresh = false → ofU q.u (putRs d p q) l ≠ .unused → l = .par 0 ∨ l = q.L ∨ q.u l = true := by
        intro l hf hu
        by_cases e0 : l = .par 0
        · exact .inl e0
        · by_cases e1 : l = q.L
          · exact .inr (.inl e1)
          · by_cases e2 : q.u l = true
            · exact .inr (.inr e2)
            · exfalso; apply hu
              have e3 : l ≠ .loc 8 := by rintro rfl; simp [Lb.fresh] at hf
              simp [ofU, putRs, ofH, upd, e0, e1, e2, e3, Hp.none]
      have hls : lbss ((putPs d q).map Prod.snd) = [.par 0, .loc 8] := by simp [lbss, AV.lbs, putPs]
      generalize ofU q.u (putRs d p q) = H0 at *
      have hn10 := q.l10
      have hn8 := q.l8
      have hn47 := q.l47
      have hi := q.hi
      have hkn : (kidsAt (d.length + 1) (x.kids.take q.i)).length = q.i := by rw [kidsAt_len, List.length_take]; omega
      have hct := cntT_le (x.kids.take q.i)
      have hwt := wtT_take x.kids q.i
      simp only [↓evs, evp, evq, evl, boxK, ↓a1_still, stillV, ↓af_still, ↓af_load, ↓af_store, ↓af_app, ↓af_new, ↓af_box, binV, AV.cells, Lb.loc.injEq, Lb.par.injEq, Lb.gen.injEq, loadV, storeV, ldV, AV.stb, AV.one, IV.av1, Lb.app, Lb.fresh, reduceCtorEq, Bool.false_eq_true, ptrL, appL, fillA, chunks, ivs, AV.iv, mkE, if_false, if_true, List.not_mem_nil, forall_eq, Nat.reduceEqDiff, Nat.reduceLT, Nat.reduceLeDiff, Nat.reduceAdd, Nat.reduceMul, Int.reduceToNat, Int.reduceLE, Int.reduceLT, Int.le_refl, Int.toNat_zero, beq_self_eq_true, List.isEmpty_nil, putPs]
      refine cK_b (fun h => ?_) (fun h => ?_)
      · have hlt : q.i < x.kids.length := by simpa using h
        obtain ⟨k, hki⟩ : ∃ k, x.kids[q.i]? = some k := ⟨_, List.getElem?_eq_getElem hlt⟩
        have hw : IntKind.i64.wrap ((q.i : Int) + 1) = ((q.i + 1 : Nat) : Int) := wrap64 (by omega) (by unfold B at hx; omega)
        have htk : x.kids.take (q.i + 1) = x.kids.take q.i ++ [k] := take_snoc' hki
        have hwk : wtT (x.kids.take q.i) + k.wt ≤ wtT x.kids := by
          have := wtT_take x.kids (q.i + 1)
          rw [htk, wtT_app] at this
          simp only [wtT] at this; omega
        simp only [↓evs, evp, evq, evl, boxK, ↓a1_still, stillV, ↓af_still, ↓af_load, ↓af_store, ↓af_app, ↓af_new, ↓af_box, binV, AV.cells, Lb.loc.injEq, Lb.par.injEq, Lb.gen.injEq, loadV, storeV, ldV, AV.stb, AV.one, IV.av1, Lb.app, Lb.fresh, reduceCtorEq, Bool.false_eq_true, ptrL, appL, fillA, chunks, ivs, AV.iv, mkE, if_false, if_true, List.not_mem_nil, forall_eq, Nat.reduceEqDiff, Nat.reduceLT, Nat.reduceLeDiff, Nat.reduceAdd, Nat.reduceMul, Int.reduceToNat, Int.reduceLE, Int.reduceLT, Int.le_refl, Int.toNat_zero, beq_self_eq_true, List.isEmpty_nil, ivT_get, hki, elszT, Tree.cells_eq, Tree.cs, a10]
        refine callT_lst (l := .par 0) (N := .gen (1000 + q.i)) (o := some q.L) (hK k (List.mem_of_getElem? hki) (putN d x p q.i) (by rw [putN_len]; omega)) rfl ⟨q.l0, by simp only [↓evs, evp, evq, evl, boxK, ↓a1_still, stillV, ↓af_still, ↓af_load, ↓af_store, ↓af_app, ↓af_new, ↓af_box, binV, AV.cells, Lb.loc.injEq, Lb.par.injEq, Lb.gen.injEq, loadV, storeV, ldV, AV.stb, AV.one, IV.av1, Lb.app, Lb.fresh, reduceCtorEq, Bool.false_eq_true, ptrL, appL, fillA, chunks, ivs, AV.iv, mkE, if_false, if_true, List.not_mem_nil, forall_eq, Nat.reduceEqDiff, Nat.reduceLT, Nat.reduceLeDiff, Nat.reduceAdd, Nat.reduceMul, Int.reduceToNat, Int.reduceLE, Int.reduceLT, Int.le_refl, Int.toNat_zero, beq_self_eq_true, List.isEmpty_nil, a0, List.length_map], by simp only [↓evs, evp, evq, evl, boxK, ↓a1_still, stillV, ↓af_still, ↓af_load, ↓af_store, ↓af_app, ↓af_new, ↓af_box, binV, AV.cells, Lb.loc.injEq, Lb.par.injEq, Lb.gen.injEq, loadV, storeV, ldV, AV.stb, AV.one, IV.av1, Lb.app, Lb.fresh, reduceCtorEq, Bool.false_eq_true, ptrL, appL, fillA, chunks, ivs, AV.iv, mkE, if_false, if_true, List.not_mem_nil, forall_eq, Nat.reduceEqDiff, Nat.reduceLT, Nat.reduceLeDiff, Nat.reduceAdd, Nat.reduceMul, Int.reduceToNat, Int.reduceLE, Int.reduceLT, Int.le_refl, Int.toNat_zero, beq_self_eq_true, List.isEmpty_nil, aL, if_neg hn10]⟩ (by simp only [↓evs, evp, evq, evl, boxK, ↓a1_still, stillV, ↓af_still, ↓af_load, ↓af_store, ↓af_app, ↓af_new, ↓af_box, binV, AV.cells, Lb.loc.injEq, Lb.par.injEq, Lb.gen.injEq, loadV, storeV, ldV, AV.stb, AV.one, IV.av1, Lb.app, Lb.fresh, reduceCtorEq, Bool.false_eq_true, ptrL, appL, fillA, chunks, ivs, AV.iv, mkE, if_false, if_true, List.not_mem_nil, forall_eq, Nat.reduceEqDiff, Nat.reduceLT, Nat.reduceLeDiff, Nat.reduceAdd, Nat.reduceMul, Int.reduceToNat, Int.reduceLE, Int.reduceLT, Int.le_refl, Int.toNat_zero, beq_self_eq_true, List.isEmpty_nil, ag]) (by intro h; simp [Lb.fresh] at h) ?_
        rintro L' H'' hL' ⟨b1, b2, b3⟩ hsame hused
        have c8 : H'' (.loc 8) = .live ⟨1, immE ((kidsAt (d.length + 1) (x.kids.take q.i)).map intIV)⟩ := by
          rw [hsame _ (by simp) (by simp) (by simpa using hn8)]; simp only [↓evs, evp, evq, evl, boxK, ↓a1_still, stillV, ↓af_still, ↓af_load, ↓af_store, ↓af_app, ↓af_new, ↓af_box, binV, AV.cells, Lb.loc.injEq, Lb.par.injEq, Lb.gen.injEq, loadV, storeV, ldV, AV.stb, AV.one, IV.av1, Lb.app, Lb.fresh, reduceCtorEq, Bool.false_eq_true, ptrL, appL, fillA, chunks, ivs, AV.iv, mkE, if_false, if_true, List.not_mem_nil, forall_eq, Nat.reduceEqDiff, Nat.reduceLT, Nat.reduceLeDiff, Nat.reduceAdd, Nat.reduceMul, Int.reduceToNat, Int.reduceLE, Int.reduceLT, Int.le_refl, Int.toNat_zero, beq_self_eq_true, List.isEmpty_nil, a8]
        have c47 : H'' (.loc 47) = .unused := by
          rw [hsame _ (by simp) (by simp) (by simpa using hn47)]; simp only [↓evs, evp, evq, evl, boxK, ↓a1_still, stillV, ↓af_still, ↓af_load, ↓af_store, ↓af_app, ↓af_new, ↓af_box, binV, AV.cells, Lb.loc.injEq, Lb.par.injEq, Lb.gen.injEq, loadV, storeV, ldV, AV.stb, AV.one, IV.av1, Lb.app, Lb.fresh, reduceCtorEq, Bool.false_eq_true, ptrL, appL, fillA, chunks, ivs, AV.iv, mkE, if_false, if_true, List.not_mem_nil, forall_eq, Nat.reduceEqDiff, Nat.reduceLT, Nat.reduceLeDiff, Nat.reduceAdd, Nat.reduceMul, Int.reduceToNat, Int.reduceLE, Int.reduceLT, Int.le_refl, Int.toNat_zero, beq_self_eq_true, List.isEmpty_nil, a47]
        simp only [↓evs, evp, evq, evl, boxK, ↓a1_still, stillV, ↓af_still, ↓af_load, ↓af_store, ↓af_app, ↓af_new, ↓af_box, binV, AV.cells, Lb.loc.injEq, Lb.par.injEq, Lb.gen.injEq, loadV, storeV, ldV, AV.stb, AV.one, IV.av1, Lb.app, Lb.fresh, reduceCtorEq, Bool.false_eq_true, ptrL, appL, fillA, chunks, ivs, AV.iv, mkE, if_false, if_true, List.not_mem_nil, forall_eq, Nat.reduceEqDiff, Nat.reduceLT, Nat.reduceLeDiff, Nat.reduceAdd, Nat.reduceMul, Int.reduceToNat, Int.reduceLE, Int.reduceLT, Int.le_refl, Int.toNat_zero, beq_self_eq_true, List.isEmpty_nil]
        rw [app_loc 1 8 47 8 ((kidsAt (d.length + 1) (x.kids.take q.i)).map intIV) (.int .i64 (putN d x p q.i).length) c8 (by rw [List.length_map]) rfl (by simp [IV.cells]) (by rw [hkn]; unfold B at hx; omega) (by decide) (by decide) c47]
        simp only [↓evs, evp, evq, evl, boxK, ↓a1_still, stillV, ↓af_still, ↓af_load, ↓af_store, ↓af_app, ↓af_new, ↓af_box, binV, AV.cells, Lb.loc.injEq, Lb.par.injEq, Lb.gen.injEq, loadV, storeV, ldV, AV.stb, AV.one, IV.av1, Lb.app, Lb.fresh, reduceCtorEq, Bool.false_eq_true, ptrL, appL, fillA, chunks, ivs, AV.iv, mkE, if_false, if_true, List.not_mem_nil, forall_eq, Nat.reduceEqDiff, Nat.reduceLT, Nat.reduceLeDiff, Nat.reduceAdd, Nat.reduceMul, Int.reduceToNat, Int.reduceLE, Int.reduceLT, Int.le_refl, Int.toNat_zero, beq_self_eq_true, List.isEmpty_nil, hw]
        have hL8 : L' ≠ .loc 8 := by rcases hL' with rfl | e; simp; simp only [Option.some.injEq] at e; rw [← e]; exact hn8
        have hL10 : L' ≠ .loc 10 := by rcases hL' with rfl | e; simp; simp only [Option.some.injEq] at e; rw [← e]; exact hn10
        have hL47 : L' ≠ .loc 47 := by rcases hL' with rfl | e; simp; simp only [Option.some.injEq] at e; rw [← e]; exact hn47
        refine ⟨{ i := q.i + 1, L := L', u := fun l => q.u l || (decide (l = q.L) || decide (l = .gen (1000 + q.i))), hi := hlt, l0 := b1, l8 := hL8, l10 := hL10, l47 := hL47, lg := ?_, u10 := ?_, u47 := ?_, ug := ?_ }, by simp only; omega, [(.loc 8, .loc 47)], ?_⟩
        · intro j hj
          rcases hL' with rfl | e
          · simp; omega
          · simp only [Option.some.injEq] at e; rw [← e]; exact q.lg j (by omega)
        · simp [q.u10, Ne.symm hn10]
        · simp [q.u47, Ne.symm hn47]
        · intro j hj
          have := Ne.symm (q.lg j (by omega))
          simp [q.ug j (by omega), this]; omega
        have hP := putN_succ (d := d) (p := p) hki
        have hkid : kidsAt (d.length + 1) (x.kids.take (q.i + 1)) = kidsAt (d.length + 1) (x.kids.take q.i) ++ [((putN d x p q.i).length : Int)] := by
          rw [htk, kidsAt_app, putN_len]; simp [kidsAt]
        refine ⟨?_, ?_, ?_, ?_, ?_⟩
        · intro l hf hu
          by_cases e0 : l = .par 0
          · subst e0; simp [putLs]
          · by_cases e1 : l = q.L
            · right; simp [e1]
            · by_cases e2 : l = .gen (1000 + q.i)
              · right; simp [e2]
              · have e3 : l ≠ .loc 47 := by rintro rfl; simp [Lb.fresh] at hf
                have e4 : l ≠ .loc 8 := by rintro rfl; simp [Lb.fresh] at hf
                have e5 : l ≠ .loc 10 := by rintro rfl; simp [Lb.fresh] at hf
                rw [upd_ne _ _ e3, upd_ne _ _ e4, hsame l e0 e2 (by simpa using Ne.symm e1), upd_ne _ _ e5, upd_ne _ _ e5] at hu
                rcases anf l hf hu with h | h | h
                · exact absurd h e0
                · exact absurd h e1
                · right; simp [h]
        · simp [putPs, EqL, rnF, ren, put, hkn, htk, kidsAt_app, kidsAt]
        · have r0 : rnF [(.loc 8, .loc 47)] (.par 0) = .par 0 := rfl
          have rL : rnF [(.loc 8, .loc 47)] L' = L' := by simp [rnF, hL8]
          have r8 : rnF [(.loc 8, .loc 47)] (.loc 8) = .loc 47 := rfl
          refine ⟨?_, ?_, ?_, trivial⟩
          · show upd (upd H'' (.loc 8) .dead) (.loc 47) _ (.par 0) = .live (renR (rnF [(.loc 8, .loc 47)]) ⟨1, [[.sl L' 5 0 (putN d x p (q.i + 1)).length]]⟩)
            rw [upd_ne _ _ (by simp), upd_ne _ _ (by simp), b2, hP]
            simp [renR, rens, ren, rL]
          · show upd (upd H'' (.loc 8) .dead) (.loc 47) _ (rnF [(.loc 8, .loc 47)] L') = .live (renR (rnF [(.loc 8, .loc 47)]) ⟨5, immE ((putN d x p (q.i + 1)).map Node.iv)⟩)
            rw [rL, upd_ne _ _ hL47, upd_ne _ _ hL8, b3, renR_immE, hP]
          · show upd (upd H'' (.loc 8) .dead) (.loc 47) _ (.loc 47) = .live (renR (rnF [(.loc 8, .loc 47)]) ⟨1, immE ((kidsAt (d.length + 1) (x.kids.take (q.i + 1))).map intIV)⟩)
            rw [renR_immE, hkid, List.map_append]
            simp only [↓evs, evp, evq, evl, boxK, ↓a1_still, stillV, ↓af_still, ↓af_load, ↓af_store, ↓af_app, ↓af_new, ↓af_box, binV, AV.cells, Lb.loc.injEq, Lb.par.injEq, Lb.gen.injEq, loadV, storeV, ldV, AV.stb, AV.one, IV.av1, Lb.app, Lb.fresh, reduceCtorEq, Bool.false_eq_true, ptrL, appL, fillA, chunks, ivs, AV.iv, mkE, if_false, if_true, List.not_mem_nil, forall_eq, Nat.reduceEqDiff, Nat.reduceLT, Nat.reduceLeDiff, Nat.reduceAdd, Nat.reduceMul, Int.reduceToNat, Int.reduceLE, Int.reduceLT, Int.le_refl, Int.toNat_zero, beq_self_eq_true, List.isEmpty_nil]
            rfl
        · simp [putLs, rnF, hL8, Ne.symm b1, hL47]
        · intro l hl
          simp only [putLs, List.mem_cons, List.not_mem_nil, or_false] at hl
          rcases hl with rfl | rfl | rfl
          · exact ⟨id, fun _ => rfl⟩
          · have rL : rnF [(.loc 8, .loc 47)] l = l := by simp [rnF, hL8]
            rw [rL]; exact ⟨id, fun _ => rfl⟩
          · exact ⟨fun _ => rfl, fun h => by simp [Lb.fresh] at h⟩
      · have hil : q.i = x.kids.length := by simp at h; omega
        have htl : x.kids.take q.i = x.kids := by rw [hil, List.take_length]
        rw [htl] at a8
        have hnl := putN_len d x p q.i
        have hlt : d.length < (putN d x p q.i).length := by omega
        have hget : (immE ((putN d x p q.i).map Node.iv))[d.length]? = some [.bool x.text, .str x.s, .list (ivA x.attrs), .int .i64 p, .list []] := by
          rw [immE_get, List.getElem?_map, putN, List.append_assoc, List.getElem?_append_right (Nat.le_refl _), Nat.sub_self]
          rfl
        simp only [↓evs, evp, evq, evl, boxK, ↓a1_still, stillV, ↓af_still, ↓af_load, ↓af_store, ↓af_app, ↓af_new, ↓af_box, binV, AV.cells, Lb.loc.injEq, Lb.par.injEq, Lb.gen.injEq, loadV, storeV, ldV, AV.stb, AV.one, IV.av1, Lb.app, Lb.fresh, reduceCtorEq, Bool.false_eq_true, ptrL, appL, fillA, chunks, ivs, AV.iv, mkE, if_false, if_true, List.not_mem_nil, forall_eq, Nat.reduceEqDiff, Nat.reduceLT, Nat.reduceLeDiff, Nat.reduceAdd, Nat.reduceMul, Int.reduceToNat, Int.reduceLE, Int.reduceLT, Int.le_refl, Int.toNat_zero, beq_self_eq_true, List.isEmpty_nil, h, htl]
        refine ⟨1, (kidsAt (d.length + 1) x.kids).map intIV, 0, _, rfl, a8, by simp, flatI _, ?_⟩
        simp only [↓evs, evp, evq, evl, boxK, ↓a1_still, stillV, ↓af_still, ↓af_load, ↓af_store, ↓af_app, ↓af_new, ↓af_box, binV, AV.cells, Lb.loc.injEq, Lb.par.injEq, Lb.gen.injEq, loadV, storeV, ldV, AV.stb, AV.one, IV.av1, Lb.app, Lb.fresh, reduceCtorEq, Bool.false_eq_true, ptrL, appL, fillA, chunks, ivs, AV.iv, mkE, if_false, if_true, List.not_mem_nil, forall_eq, Nat.reduceEqDiff, Nat.reduceLT, Nat.reduceLeDiff, Nat.reduceAdd, Nat.reduceMul, Int.reduceToNat, Int.reduceLE, Int.reduceLT, Int.le_refl, Int.toNat_zero, beq_self_eq_true, List.isEmpty_nil, a0, aL, hlt, hn8, hget, immE_len, List.length_map]
        have hfin : (immE ((putN d x p q.i).map Node.iv)).set d.length ((x.node d.length p).iv.cells.map IV.av1) = immE ((d ++ x.flat d.length p).map Node.iv) := by
          rw [x.flat_eq, immE_set, putN, htl]
          congr 1
          simp [List.set_append]
        have hlen2 : (d ++ x.flat d.length p).length = (putN d x p q.i).length := by
          rw [List.length_append, x.flat_len, hnl, htl, x.cnt_eq]; omega
        refine ⟨q.L, q.l0, ?_, ?_⟩
        · rw [upd_ne _ _ (Ne.symm q.l0), upd_ne _ _ (by simp), a0, List.length_map, hlen2]
        · rw [← hfin]
          have : (List.take (kidsAt (d.length + 1) x.kids).length ((kidsAt (d.length + 1) x.kids).map intIV)) = (kidsAt (d.length + 1) x.kids).map intIV := List.take_of_length_le (by simp)
          rw [this]
          simp only [↓evs, evp, evq, evl, boxK, ↓a1_still, stillV, ↓af_still, ↓af_load, ↓af_store, ↓af_app, ↓af_new, ↓af_box, binV, AV.cells, Lb.loc.injEq, Lb.par.injEq, Lb.gen.injEq, loadV, storeV, ldV, AV.stb, AV.one, IV.av1, Lb.app, Lb.fresh, reduceCtorEq, Bool.false_eq_true, ptrL, appL, fillA, chunks, ivs, AV.iv, mkE, if_false, if_true, List.not_mem_nil, forall_eq, Nat.reduceEqDiff, Nat.reduceLT, Nat.reduceLeDiff, Nat.reduceAdd, Nat.reduceMul, Int.reduceToNat, Int.reduceLE, Int.reduceLT, Int.le_refl, Int.toNat_zero, beq_self_eq_true, List.isEmpty_nil]
          rfl

end Go.Am

/- THE ABSTRACT MACHINE, part 35: an empty slice in a cell, owned. -/
namespace Go.Am
open Go Go.RowKit

theorem mem_lbss {p : Lb} : ∀ {ds : List AV}, p ∈ lbss ds → ∃ y ∈ ds, p ∈ y.lbs
  | [], h => by simp [lbss] at h
  | y :: r, h => by
    simp only [lbss, List.mem_append] at h
    rcases h with h | h
    · exact ⟨y, by simp, h⟩
    · obtain ⟨z, hz, hp⟩ := mem_lbss h
      exact ⟨z, by simp [hz], hp⟩

/-- A cell that holds an empty slice: it may be seen as a list of one's own. -/
theorem weaker_ownc {S : St} {env : Env} {H : Hp} {q : Lb} {cs : List AV} {j d sz : Nat} (g1 : H q = .live ⟨cs.length, [cs]⟩) (g2 : cs[j]? = some .nil0) (g3 : H (.loc d) = .unused) (g4 : 0 < sz) :
    Weaker S env H env (upd (upd H (.loc d) (.live ⟨sz, []⟩)) q (.live ⟨cs.length, [cs.set j (.sl (.loc d) sz 0 0)]⟩)) := by
  intro K β a w hKS hS hr
  have hk := hr.addRow (.loc d) g3 (r := ⟨sz, []⟩) (Below.refl _ _) none (by simp) (by simp) ⟨g4, by simp, by simp⟩
  have hqd : q ≠ .loc d := by rintro rfl; rw [g1] at g3; cases g3
  have hq : upd H (.loc d) (.live ⟨sz, []⟩) q = .live ⟨cs.length, [cs]⟩ := by rw [upd_ne _ _ hqd]; exact g1
  have hsz : 0 < cs.length := (hr.rows q _ g1).1
  have hbq : upd β (.loc d) none q = β q := upd_ne _ _ hqd
  cases hb : β q with
  | none =>
    have := (hr.rows q _ g1).2.2
    simp [hb] at this
  | some g =>
    obtain ⟨cur, e0, cap, k1, k2, k3, k4, k5⟩ := (hk.rows q _ hq).block (hbq.trans hb)
    have hjl : j < cs.length := (List.getElem?_eq_some_iff.1 g2).1
    have hset := hk.setRow q (r' := ⟨cs.length, [cs.set j (.sl (.loc d) sz 0 0)]⟩) (cur' := cur) (cap := cap) hq (hbq.trans hb) k1 rfl rfl k2 k3 (by simpa using k4) (by simp)
      (by
        intro ds hds p hp
        simp at hds; subst hds
        obtain ⟨y, hy, hpy⟩ := mem_lbss hp
        rcases List.mem_or_eq_of_mem_set hy with hy | rfl
        · obtain ⟨m, hm⟩ := List.getElem?_of_mem hy
          exact hk.rment q _ hq cs (by simp) p (lbss_get _ _ _ hm p hpy)
        · simp only [AV.lbs, List.mem_singleton] at hpy
          subst hpy; simp)
      (by
        intro i' j' ds x0 hi' hj'
        cases i' with
        | succ i' => simp at hi'
        | zero =>
          simp at hi'; subst hi'
          by_cases e : j' = j
          · subst e
            rw [List.getElem?_set_self hjl] at hj'
            cases hj'
            obtain ⟨v, q1, q2⟩ := k5 0 j' cs _ (by simp) g2
            simp only [RV] at q2
            obtain ⟨ad, rfl⟩ := q2
            refine ⟨_, q1, ?_⟩
            simp only [RV]
            exact ⟨ad, 0, rfl, Nat.le_refl _, by simp [maxLen], by simp, fun _ => .inl rfl⟩
          · rw [List.getElem?_set_ne (Ne.symm e)] at hj'
            exact k5 0 j' cs x0 (by simp) hj')
    have hsame : w.setRow g cur = w := setRow_self w g cur e0 (0, 0) k1
    rw [hsame] at hset
    exact ⟨_, hset⟩

theorem weaker_refl {S : St} {env : Env} {H : Hp} : Weaker S env H env H := fun _ β _ _ _ _ hr => ⟨β, hr⟩

section
variable {env : Env} {H : Hp}
theorem retm2_r (m : Option Nat) (t u : Nat) (R : AV → Hp → Prop) : RetP [(some m, t), (none, u)] R .ret env H = stK (loadV m (env t) H) (fun x => R (.tup [x, env u]) H) .mk := by
  simp only [RetP, resVs, resV, stK]
  cases loadV m (env t) H <;> simp [oneV]
end

end Go.Am

/- Trees, level by level; how a document is made by a stack. -/
namespace Go.Am
open Go Go.RowKit

def nextT (xs : List Tree) : List Tree := xs.flatMap Tree.kids
theorem nextT_cons (x : Tree) (r : List Tree) : nextT (x :: r) = x.kids ++ nextT r := by simp [nextT]
theorem nextT_dep : ∀ (xs : List Tree), xs ≠ [] → depT xs = depT (nextT xs) + 1
  | [], h => absurd rfl h
  | [x], _ => by simp [nextT, depT, x.dep_eq]
  | x :: y :: r, _ => by
    have := nextT_dep (y :: r) (by simp)
    rw [nextT_cons, depT_app]
    simp only [depT, x.dep_eq] at this ⊢
    omega
theorem nextT_cnt : ∀ (xs : List Tree), cntT xs = xs.length + cntT (nextT xs)
  | [] => by simp [nextT, cntT]
  | x :: r => by rw [nextT_cons, cntT_app]; simp only [cntT, x.cnt_eq, nextT_cnt r, List.length_cons]; omega
theorem nextT_wt : ∀ (xs : List Tree), wtT (nextT xs) + xs.length ≤ wtT xs
  | [] => by simp [nextT, wtT]
  | x :: r => by
    have := nextT_wt r
    have := x.wt_eq
    rw [nextT_cons, wtT_app]; simp only [wtT, List.length_cons]; omega

/-! Trees that wait, each with its parent; where they will lie. -/
def posits : Nat → List (Tree × Int) → List (Nat × Int)
  | _, [] => []
  | n, (t, p) :: r => (n, p) :: posits (n + t.cnt) r
def kidsOf (j : Int) (ps : List (Nat × Int)) : List Int := (ps.filter fun x => x.2 == j).map fun x => (x.1 : Int)
def flatsI : Nat → List (Tree × Int) → List Node
  | _, [] => []
  | n, (t, p) :: r => t.flat n p ++ flatsI (n + t.cnt) r

/-- Nodes that stand there already, with the kids that are still to come. -/
def fill (ps : List (Nat × Int)) : Nat → List Node → List Node
  | _, [] => []
  | j, x :: r => { x with kids := x.kids ++ kidsOf j ps } :: fill ps (j + 1) r

def whole (d : List Node) (l : List (Tree × Int)) : List Node := fill (posits d.length l) 0 d ++ flatsI d.length l

theorem posits_app : ∀ (n : Nat) (a b : List (Tree × Int)), posits n (a ++ b) = posits n a ++ posits (n + cntT (a.map Prod.fst)) b
  | n, [], b => by simp [posits, cntT]
  | n, (t, p) :: a, b => by simp only [List.cons_append, posits, posits_app _ a b, List.map_cons, cntT, Nat.add_assoc]
theorem flatsI_app : ∀ (n : Nat) (a b : List (Tree × Int)), flatsI n (a ++ b) = flatsI n a ++ flatsI (n + cntT (a.map Prod.fst)) b
  | n, [], b => by simp [flatsI, cntT]
  | n, (t, p) :: a, b => by simp only [List.cons_append, flatsI, flatsI_app _ a b, List.map_cons, cntT, Nat.add_assoc, List.append_assoc]
theorem posits_kids : ∀ (n m : Nat) (ks : List Tree), kidsOf m (posits n (ks.map fun k => (k, (m : Int)))) = kidsAt n ks
  | n, m, [] => rfl
  | n, m, k :: r => by
    have := posits_kids (n + k.cnt) m r
    simp only [List.map_cons, posits, kidsOf] at this ⊢
    rw [List.filter_cons_of_pos (by simp)]
    simp only [List.map_cons, kidsAt, this]
theorem posits_other : ∀ (n m : Nat) (j : Int) (ks : List Tree), j ≠ m → kidsOf j (posits n (ks.map fun k => (k, (m : Int)))) = []
  | n, m, j, [], _ => rfl
  | n, m, j, k :: r, h => by
    have := posits_other (n + k.cnt) m j r h
    simp only [List.map_cons, posits, kidsOf] at this ⊢
    rw [List.filter_cons_of_neg (by simpa using Ne.symm h)]
    exact this
theorem flatsI_kids : ∀ (n m : Nat) (ks : List Tree), flatsI n (ks.map fun k => (k, (m : Int))) = flats n m ks
  | n, m, [] => rfl
  | n, m, k :: r => by simp only [List.map_cons, flatsI, flats, flatsI_kids _ m r]
theorem kidsOf_app (j : Int) (a b : List (Nat × Int)) : kidsOf j (a ++ b) = kidsOf j a ++ kidsOf j b := by simp [kidsOf]
theorem kidsOf_cons (j : Int) (n : Nat) (p : Int) (b : List (Nat × Int)) : kidsOf j ((n, p) :: b) = (if p = j then [(n : Int)] else []) ++ kidsOf j b := by
  simp only [kidsOf, List.filter_cons]
  by_cases h : p = j <;> simp [h]

theorem fill_get (ps : List (Nat × Int)) : ∀ (d : List Node) (j i : Nat), (fill ps j d)[i]? = d[i]?.map fun x => { x with kids := x.kids ++ kidsOf ((j + i : Nat) : Int) ps }
  | [], j, i => by simp [fill]
  | x :: r, j, 0 => by simp [fill]
  | x :: r, j, i + 1 => by simp only [fill, List.getElem?_cons_succ, fill_get ps r (j + 1) i, show j + 1 + i = j + (i + 1) by omega]
theorem fill_len (ps : List (Nat × Int)) : ∀ (d : List Node) (j : Nat), (fill ps j d).length = d.length
  | [], j => rfl
  | x :: r, j => by simp [fill, fill_len ps r]
theorem fill_nil : ∀ (d : List Node) (j : Nat), fill [] j d = d
  | [], j => rfl
  | x :: r, j => by simp [fill, kidsOf, fill_nil r]

/-- The parent has one kid more. -/
def addKid (d : List Node) (p n : Int) : List Node :=
  if 0 ≤ p then match d[p.toNat]? with
    | some x => d.set p.toNat { x with kids := x.kids ++ [n] }
    | none => d
  else d
theorem addKid_len (d : List Node) (p n : Int) : (addKid d p n).length = d.length := by
  unfold addKid; split
  · split <;> simp
  · rfl

theorem whole_step (d : List Node) (t : Tree) (p : Int) (r : List (Tree × Int)) (hp : p < d.length) (hr : ∀ x ∈ r, x.2 < (d.length : Int)) :
    whole d ((t, p) :: r) = whole (addKid (d ++ [⟨t.text, t.s, t.attrs, p, []⟩]) p d.length) (t.kids.map (fun k => (k, (d.length : Int))) ++ r) := by
  have hlen : (addKid (d ++ [⟨t.text, t.s, t.attrs, p, []⟩]) p d.length).length = d.length + 1 := by rw [addKid_len]; simp
  have hc : d.length + t.cnt = d.length + 1 + cntT ((t.kids.map fun k => (k, (d.length : Int))).map Prod.fst) := by
    rw [t.cnt_eq, List.map_map, show (Prod.fst ∘ fun k : Tree => (k, (d.length : Int))) = id from rfl, List.map_id]; omega
  unfold whole
  rw [hlen, posits_app, flatsI_app, flatsI_kids, ← hc]
  simp only [posits, flatsI, t.flat_eq]
  have hdl : ((d.length : Int)) ≠ p := by omega
  -- the nodes that stand there, one by one
  have key : fill (posits (d.length + 1) (t.kids.map fun k => (k, (d.length : Int))) ++ posits (d.length + t.cnt) r) 0 (addKid (d ++ [⟨t.text, t.s, t.attrs, p, []⟩]) p d.length) =
      fill ((d.length, p) :: posits (d.length + t.cnt) r) 0 d ++ [{ t.node d.length p with kids := kidsAt (d.length + 1) t.kids ++ kidsOf d.length (posits (d.length + t.cnt) r) }] := by
    apply List.ext_getElem?
    intro i
    rw [fill_get]
    simp only [Nat.zero_add]
    have hadd : (addKid (d ++ [⟨t.text, t.s, t.attrs, p, []⟩]) p d.length)[i]? = (d ++ [⟨t.text, t.s, t.attrs, p, []⟩])[i]?.map fun x => if (i : Int) = p then { x with kids := x.kids ++ [(d.length : Int)] } else x := by
      unfold addKid
      by_cases h0 : 0 ≤ p
      · rw [if_pos h0]
        obtain ⟨q, rfl⟩ := Int.eq_ofNat_of_zero_le h0
        have hq : q < d.length := by omega
        rw [Int.toNat_natCast, List.getElem?_append_left hq, List.getElem?_eq_getElem hq]
        simp only
        rw [List.getElem?_set]
        by_cases e : q = i
        · subst e
          rw [if_pos rfl, if_pos (by simp; omega), List.getElem?_append_left hq, List.getElem?_eq_getElem hq]
          simp
        · rw [if_neg e]
          have : ¬ (i : Int) = (q : Int) := by omega
          cases (d ++ [(⟨t.text, t.s, t.attrs, (q : Int), []⟩ : Node)])[i]? <;> simp [this]
      · rw [if_neg h0]
        have : ¬ (i : Int) = p := by omega
        cases (d ++ [(⟨t.text, t.s, t.attrs, p, []⟩ : Node)])[i]? <;> simp [this]
    rw [hadd]
    by_cases hi : i < d.length
    · rw [List.getElem?_append_left hi, List.getElem?_append_left (by rw [fill_len]; exact hi), fill_get, List.getElem?_eq_getElem hi]
      simp only [Option.map_some, Nat.zero_add]
      congr 1
      rw [kidsOf_app, kidsOf_cons, posits_other _ _ _ _ (by omega)]
      by_cases e : (i : Int) = p
      · rw [if_pos e, if_pos e.symm]; simp
      · rw [if_neg e, if_neg (Ne.symm e)]
    · by_cases e : i = d.length
      · subst e
        rw [List.getElem?_append_right (Nat.le_refl _), List.getElem?_append_right (by rw [fill_len]; exact Nat.le_refl _), fill_len, Nat.sub_self]
        simp only [List.getElem?_cons_zero, Option.map_some]
        rw [if_neg hdl]
        congr 1
        rw [kidsOf_app, posits_kids]
        rfl
      · rw [List.getElem?_eq_none (by simp; omega), List.getElem?_eq_none (by rw [List.length_append, fill_len]; simp; omega)]; rfl
  rw [key]
  -- nobody else waits for the new node
  have hno : ∀ (n : Nat) (r : List (Tree × Int)), (∀ x ∈ r, x.2 < (d.length : Int)) → kidsOf d.length (posits n r) = [] := by
    intro n r
    induction r generalizing n with
    | nil => intro _; rfl
    | cons x r ih =>
      obtain ⟨t', p'⟩ := x
      intro h
      have h1 := h (t', p') (by simp)
      simp only [posits, kidsOf_cons]
      rw [if_neg (by simp only at h1; omega), ih _ (fun y hy => h y (by simp [hy]))]; rfl
  rw [hno _ r hr]
  simp [Tree.node]

theorem whole_nil (d : List Node) : whole d [] = d := by simp [whole, posits, flatsI, fill_nil]
theorem whole_start (t : Tree) : whole [] [(t, -1)] = docOf t := by simp [whole, posits, flatsI, fill, docOf]

end Go.Am
