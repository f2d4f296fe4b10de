import Derived.Test.YtfinkeaikbmpgaaDoorKT13
set_option linter.unusedSimpArgs false
set_option linter.unusedVariables false
set_option linter.unnecessarySimpa false
set_option linter.defProp false
/- Trees: the contracts, for all trees. -/
namespace Go.Am
open Go Go.RowKit
theorem byWt {M : List Tree → Prop} (step : ∀ l, (∀ x ∈ l, M x.kids) → M l) : ∀ l, M l := by
  have key : ∀ (n : Nat) (l : List Tree), wtT l ≤ n → M l := by
    intro n
    induction n with
    | zero =>
      intro l hn
      refine step l fun x hx => ?_
      obtain ⟨i, hi⟩ := List.getElem?_of_mem hx
      have := wtT_get l i x hi
      have := x.wt_eq
      omega
    | succ n ih =>
      intro l hn
      refine step l fun x hx => ih _ ?_
      obtain ⟨i, hi⟩ := List.getElem?_of_mem hx
      have := wtT_get l i x hi
      have := x.wt_eq
      omega
  exact fun l => key _ l (Nat.le_refl _)
theorem wt_mem {l : List Tree} {x : Tree} (h : x ∈ l) : x.wt ≤ wtT l := by
  obtain ⟨i, hi⟩ := List.getElem?_of_mem h
  exact wtT_get l i x hi
theorem wt_kids (x : Tree) : wtT x.kids ≤ x.wt := by have := x.wt_eq; omega
theorem wt_s (x : Tree) : x.s.length ≤ x.wt := by have := x.wt_eq; omega
theorem wt_attrs (x : Tree) : wtA x.attrs ≤ x.wt := by have := x.wt_eq; omega
theorem wtA_mem : ∀ {l : List Attr} {a : Attr}, a ∈ l → a.wt ≤ wtA l
  | [], a, h => by simp at h
  | b :: r, a, h => by
    simp only [List.mem_cons] at h
    rcases h with rfl | h
    · simp [wtA]
    · have := wtA_mem h; simp only [wtA]; omega
section
variable {P : Program} {G : Nat → Option (List IV)}
theorem wJoined {f_tree_Joined : Nat} (hF : compF P G f_tree_Joined = some (59, [(none, 2)], (c_tree_Joined f_tree_Joined).bare)) (l : List Tree) : wtT l ≤ B → PureC P G f_tree_Joined [.list (ivT l)] (.list (ivT (joined l))) :=
  byWt (M := fun l => wtT l ≤ B → PureC P G f_tree_Joined [.list (ivT l)] (.list (ivT (joined l)))) (fun l h hB => pJoined hF l hB fun x hx => h x hx (by have := wt_mem hx; have := wt_kids x; omega)) l
theorem wSize {g : Nat} (hF : compF P G g = some (32, [(none, 2), (none, 3)], (cSize g).bare)) : ∀ x : Tree, x.wt ≤ B → PureC P G g [x.av] (.tup [.int .i64 x.dep, .int .i64 x.cnt]) := by
  have key := byWt (M := fun l => ∀ x ∈ l, x.wt ≤ B → PureC P G g [x.av] (.tup [.int .i64 x.dep, .int .i64 x.cnt])) (fun l h x hx hB => pSize hF x hB fun k hk => h x hx k hk (by have := wt_mem hk; have := wt_kids x; omega))
  exact fun x => key [x] x (by simp)
theorem wFines {fP fN fGA fF fFs : Nat} (hP : compF P G fP = some (29, [(none, 2)], cPlain.bare)) (hN : compF P G fN = some (28, [(none, 2)], cNamed.bare)) (hA : compF P G fGA = some (41, [(none, 2)], (cGoodAttrs fN fP).bare))
    (hF : compF P G fF = some (38, [(none, 2)], (cFine fP fN fGA fFs).bare)) (hFs : compF P G fFs = some (32, [(none, 2)], (cFines fF).bare)) (l : List Tree) : wtT l ≤ B → PureC P G fFs [.list (ivT l)] (.bool (fines none l)) := by
  refine byWt (M := fun l => wtT l ≤ B → PureC P G fFs [.list (ivT l)] (.bool (fines none l))) (fun l h hB => pFines hFs l (by have := wtT_len l; omega) fun x hx => ?_) l
  have h1 := wt_mem hx
  have h2 := wt_kids x
  have h3 := wt_s x
  have h4 := wt_attrs x
  have h5 := wtA_len x.attrs
  refine pFine hF x (pPlain hP _ (by omega)) (pNamed hN _ (by omega)) (pGoodAttrs hA _ (by omega) (fun a ha => pNamed hN _ ?_) (fun a ha => pPlain hP _ ?_)) (h x hx (by omega))
  · have := wtA_mem ha; unfold Attr.wt at this; omega
  · have := wtA_mem ha; unfold Attr.wt at this; omega
theorem wFine {fP fN fGA fF fFs : Nat} (hP : compF P G fP = some (29, [(none, 2)], cPlain.bare)) (hN : compF P G fN = some (28, [(none, 2)], cNamed.bare)) (hA : compF P G fGA = some (41, [(none, 2)], (cGoodAttrs fN fP).bare))
    (hF : compF P G fF = some (38, [(none, 2)], (cFine fP fN fGA fFs).bare)) (hFs : compF P G fFs = some (32, [(none, 2)], (cFines fF).bare)) (x : Tree) (hB : x.wt ≤ B) : PureC P G fF [x.av] (.bool x.fine) := by
  have h2 := wt_kids x
  have h3 := wt_s x
  have h4 := wt_attrs x
  have h5 := wtA_len x.attrs
  refine pFine hF x (pPlain hP _ (by omega)) (pNamed hN _ (by omega)) (pGoodAttrs hA _ (by omega) (fun a ha => pNamed hN _ ?_) (fun a ha => pPlain hP _ ?_)) (wFines hP hN hA hF hFs _ (by omega))
  · have := wtA_mem ha; unfold Attr.wt at this; omega
  · have := wtA_mem ha; unfold Attr.wt at this; omega
end
def c_topiarylaw_trees (f_tree_Joined f_tree_Good : Nat) : AC :=
(.seq (.reg [⟨(some 0), none, (.mov (.c (.bool false)))⟩]) (.seq (.reg [⟨(some 2), none, (.bld [(.bool false), (.str []), .nil0, .nil0] [(0, (1, (.c (.bool true)))), (1, (1, (.c (.str [97]))))])⟩, ⟨(some 3), none, (.bld [(.bool false), (.str []), .nil0, .nil0] [(0, (1, (.c (.bool true))))])⟩, ⟨(some 4), none, (.bld [(.bool false), (.str []), .nil0, .nil0] [(0, (1, (.c (.bool true)))), (1, (1, (.c (.str [98]))))])⟩, ⟨(some 5), none, (.bld [(.bool false), (.str []), .nil0, .nil0] [(1, (1, (.c (.str [99]))))])⟩, ⟨(some 6), none, (.lits 4 4 [(.bool false), (.str []), .nil0, .nil0] [(0, (.t 2)), (1, (.t 3)), (2, (.t 4)), (3, (.t 5))])⟩, ⟨(some 7), none, (.call f_tree_Joined [(.t 6)])⟩, ⟨(some 1), none, (.mov (.t 7))⟩]) (.seq (.reg [⟨(some 8), none, (.bld [(.bool false), (.str []), .nil0, .nil0] [(1, (1, (.c (.str [97]))))])⟩, ⟨(some 9), none, (.call f_tree_Good [(.t 8)])⟩, ⟨(some 10), none, (.mov (.t 9))⟩, ⟨(some 11), (some (10, true)), (.bld [(.bool false), (.str []), .nil0, .nil0] [])⟩, ⟨(some 12), (some (10, true)), (.call f_tree_Good [(.t 11)])⟩, ⟨(some 13), (some (10, true)), (.not (.t 12))⟩, ⟨(some 14), none, (.pick (.t 10) (.t 13) (.c (.bool false)))⟩, ⟨(some 15), none, (.mov (.t 14))⟩, ⟨(some 16), (some (15, true)), (.mov (.t 1))⟩, ⟨(some 17), (some (15, true)), (.len (.t 16))⟩, ⟨(some 18), (some (15, true)), (.bin .eql (.t 17) (.c (.int .i64 2)))⟩, ⟨(some 19), none, (.pick (.t 15) (.t 18) (.c (.bool false)))⟩, ⟨(some 20), none, (.mov (.t 19))⟩, ⟨(some 21), (some (20, true)), (.mov (.t 1))⟩, ⟨(some 22), (some (20, true)), (.ixa (.t 21) (.c (.int .i64 0)) 4)⟩, ⟨(some 23), (some (20, true)), (.fld (.t 22) 1)⟩, ⟨(some 24), (some (20, true)), (.load none (.t 23))⟩, ⟨(some 25), (some (20, true)), (.bin .eql (.t 24) (.c (.str [97, 98])))⟩, ⟨(some 26), none, (.pick (.t 20) (.t 25) (.c (.bool false)))⟩, ⟨(some 0), none, (.mov (.t 26))⟩]) .ret)))
theorem pTrees {P : Program} {G : Nat → Option (List IV)} {f_topiarylaw_trees f_tree_Joined f_tree_Good : Nat} (hF : compF P G f_topiarylaw_trees = some (27, [(none, 0)], (c_topiarylaw_trees f_tree_Joined f_tree_Good).bare))
    (hJ : ∀ l : List Tree, wtT l ≤ B → PureC P G f_tree_Joined [.list (ivT l)] (.list (ivT (joined l)))) (hG : ∀ x : Tree, x.wt ≤ B → PureC P G f_tree_Good [x.av] (.bool x.good)) : PureC P G f_topiarylaw_trees [] (.bool true) := by
  refine pure_of_go hF (by simp) (by simp [lbss]) (by simp [AV.lbs]) ?_
  unfold c_topiarylaw_trees
  simp only [↓aX, evp, evq, evl, boxK, stillV, binV, AV.cells, mP, loadV, storeV, ldV, AV.stb, AV.one, IV.av1, Lb.app, Lb.fresh, reduceCtorEq, ptrL, appL, fillA, chunks, ivs, AV.iv, mkE, if_false, if_true, List.not_mem_nil, forall_eq, beq_self_eq_true, List.isEmpty_nil, Nat.reduceEqDiff, Nat.reduceLT, Nat.reduceLeDiff, Nat.reduceAdd, Nat.reduceMul, Int.reduceToNat, Int.reduceLE, Int.reduceLT, List.replicate_succ, List.replicate_zero]
  refine callT_pure (hJ [.mk true [97] [] [], .mk true [] [] [], .mk true [98] [] [], .mk false [99] [] []] (by decide)) ?_
  simp only [↓aX, evp, evq, evl, boxK, stillV, binV, AV.cells, mP, loadV, storeV, ldV, AV.stb, AV.one, IV.av1, Lb.app, Lb.fresh, reduceCtorEq, ptrL, appL, fillA, chunks, ivs, AV.iv, mkE, if_false, if_true, List.not_mem_nil, forall_eq, beq_self_eq_true, List.isEmpty_nil, Nat.reduceEqDiff, Nat.reduceLT, Nat.reduceLeDiff, Nat.reduceAdd, Nat.reduceMul, Int.reduceToNat, Int.reduceLE, Int.reduceLT]
  refine callT_pure ((hG (.mk false [97] [] []) (by decide)).of rfl) ?_
  rw [show (Tree.mk false [97] [] []).good = true from rfl]
  simp only [↓aX, evp, evq, evl, boxK, stillV, binV, AV.cells, mP, loadV, storeV, ldV, AV.stb, AV.one, IV.av1, Lb.app, Lb.fresh, reduceCtorEq, ptrL, appL, fillA, chunks, ivs, AV.iv, mkE, if_false, if_true, List.not_mem_nil, forall_eq, beq_self_eq_true, List.isEmpty_nil, Nat.reduceEqDiff, Nat.reduceLT, Nat.reduceLeDiff, Nat.reduceAdd, Nat.reduceMul, Int.reduceToNat, Int.reduceLE, Int.reduceLT]
  refine callT_pure ((hG (.mk false [] [] []) (by decide)).of rfl) ?_
  rw [show (Tree.mk false [] [] []).good = false from rfl]
  have e : ivT (joined [.mk true [97] [] [], .mk true [] [] [], .mk true [98] [] [], .mk false [99] [] []]) = [.agg [.bool true, .str [97, 98], .list [], .list []], .agg [.bool false, .str [99], .list [], .list []]] := rfl
  have he : Elsz 4 [IV.agg [.bool true, .str [97, 98], .list [], .list []], .agg [.bool false, .str [99], .list [], .list []]] := by simp [Elsz, IV.cells]
  rw [e]
  simp only [↓aX, evp, evq, evl, boxK, stillV, binV, AV.cells, mP, loadV, storeV, ldV, AV.stb, AV.one, IV.av1, Lb.app, Lb.fresh, reduceCtorEq, ptrL, appL, fillA, chunks, ivs, AV.iv, mkE, if_false, if_true, List.not_mem_nil, forall_eq, beq_self_eq_true, List.isEmpty_nil, Nat.reduceEqDiff, Nat.reduceLT, Nat.reduceLeDiff, Nat.reduceAdd, Nat.reduceMul, Int.reduceToNat, Int.reduceLE, Int.reduceLT, he]
  rw [show (((2 : Nat) : Int) == 2) = true from rfl]
  simp only [↓aX, evp, evq, evl, boxK, stillV, binV, AV.cells, mP, loadV, storeV, ldV, AV.stb, AV.one, IV.av1, Lb.app, Lb.fresh, reduceCtorEq, ptrL, appL, fillA, chunks, ivs, AV.iv, mkE, if_false, if_true, List.not_mem_nil, forall_eq, beq_self_eq_true, List.isEmpty_nil, Nat.reduceEqDiff, Nat.reduceLT, Nat.reduceLeDiff, Nat.reduceAdd, Nat.reduceMul, Int.reduceToNat, Int.reduceLE, Int.reduceLT, he]
end Go.Am

/- A tree is put behind a document's nodes. -/
namespace Go.Am
open Go Go.RowKit
def c_doc_put (f_slices_Clone_Attr_Attr f_doc_put : Nat) : AC :=
(.seq (.reg [⟨(some 4), none, (.box (.t 1))⟩, ⟨(some 6), none, (.mov (.c (.int .i64 0)))⟩]) (.seq (.reg [⟨(some 11), none, (.mov (.t 0))⟩, ⟨(some 12), none, (.nchk (.t 11))⟩, ⟨(some 13), none, (.fld (.t 12) 0)⟩, ⟨(some 14), none, (.load none (.t 13))⟩, ⟨(some 15), none, (.len (.t 14))⟩, ⟨(some 7), none, (.mov (.t 15))⟩]) (.seq (.dreg [⟨(some 16), none, (.mov (.t 0))⟩, ⟨(some 17), none, (.mov (.t 0))⟩, ⟨(some 18), none, (.nchk (.t 17))⟩, ⟨(some 19), none, (.fld (.t 18) 0)⟩, ⟨(some 20), none, (.load none (.t 19))⟩, ⟨(some 21), none, (.fld (.t 4) 0)⟩, ⟨(some 22), none, (.load none (.t 21))⟩, ⟨(some 23), none, (.fld (.t 4) 1)⟩, ⟨(some 24), none, (.load none (.t 23))⟩, ⟨(some 25), none, (.fld (.t 4) 2)⟩, ⟨(some 26), none, (.load none (.t 25))⟩, ⟨(some 27), none, (.call f_slices_Clone_Attr_Attr [(.t 26)])⟩, ⟨(some 28), none, (.mov (.t 2))⟩, ⟨(some 29), none, (.bld [(.bool false), (.str []), .nil0, (.int .i64 0), .nil0] [(0, (1, (.t 22))), (1, (1, (.t 24))), (2, (1, (.t 27))), (3, (1, (.t 28)))])⟩, ⟨(some 30), none, (.lits 1 5 [(.bool false), (.str []), .nil0, (.int .i64 0), .nil0] [(0, (.t 29))])⟩, ⟨(some 31), none, (.app (.t 20) (.t 30) 5 80)⟩, ⟨(some 32), none, (.nchk (.t 16))⟩, ⟨(some 33), none, (.fld (.t 32) 0)⟩, ⟨none, none, (.store 1 (.t 33) (.t 31))⟩] [[], [], [1], [2], [3], [], [5], [], [7], [], [9], [10], [], [6, 8, 11, 12], [13], [4, 14, 11], [0, 0, 1, 2, 3, 4, 5, 6, 7, 8, 9, 10, 11, 12, 13, 14, 15], [16, 0, 1, 2, 3, 4, 5, 6, 7, 8, 9, 10, 11, 12, 13, 14, 15], [17, 15, 15, 0, 1, 2, 3, 4, 5, 6, 7, 8, 9, 10, 11, 12, 13, 14, 15]] [.no, .no, .no, .no, (.rw [.par 0] []), .no, .rw [.loc 4] [], .no, .rw [.loc 4] [], .no, .rw [.loc 4] [], .no, .no, .no, .no, (.rw [] [.par 1, .gen 31, .loc 31]), .no, .no, (.rw [] [.par 0])]) (.seq (.reg [⟨(some 8), none, (.mov (.c .nil0))⟩]) (.gh (.own 8 1) (.seq (.seq (.reg [⟨(some 34), none, (.fld (.t 4) 3)⟩, ⟨(some 35), none, (.load none (.t 34))⟩, ⟨(some 36), none, (.len (.t 35))⟩, ⟨(some 37), none, (.mov (.c (.int .i64 0)))⟩]) (.block 0 (.loop (.seq (.reg [⟨(some 38), none, (.bin .lss (.t 37) (.t 36))⟩]) (.seq (.cond (.t 38) .skip (.exit 0)) (.seq (.block 1 (.seq (.reg [⟨(some 39), none, (.ixa (.t 35) (.t 37) 4)⟩, ⟨(some 40), none, (.load (some 4) (.t 39))⟩, ⟨(some 10), none, (.new [(.bool false), (.str []), .nil0, .nil0])⟩, ⟨none, none, (.store 4 (.t 10) (.t 40))⟩]) (.reg [⟨(some 41), none, (.mov (.t 8))⟩, ⟨(some 42), none, (.mov (.t 0))⟩, ⟨(some 43), none, (.load (some 4) (.t 10))⟩, ⟨(some 44), none, (.mov (.t 7))⟩, ⟨(some 45), none, (.call f_doc_put [(.t 42), (.t 43), (.t 44)])⟩, ⟨(some 46), none, (.lits 1 1 [(.int .i64 0)] [(0, (.t 45))])⟩, ⟨(some 47), none, (.app (.t 41) (.t 46) 1 8)⟩, ⟨(some 8), none, (.mov (.t 47))⟩]))) (.reg [⟨(some 48), none, (.bin .add (.t 37) (.c (.int .i64 1)))⟩, ⟨(some 37), none, (.mov (.t 48))⟩]))))))) (.gh (.frz (.loc 8) 8) (.seq (.reg [⟨(some 49), none, (.mov (.t 0))⟩, ⟨(some 50), none, (.nchk (.t 49))⟩, ⟨(some 51), none, (.fld (.t 50) 0)⟩, ⟨(some 52), none, (.load none (.t 51))⟩, ⟨(some 53), none, (.mov (.t 7))⟩, ⟨(some 54), none, (.mov (.t 8))⟩, ⟨(some 55), none, (.ixa (.t 52) (.t 53) 5)⟩, ⟨(some 56), none, (.fld (.t 55) 4)⟩, ⟨none, none, (.store 1 (.t 56) (.t 54))⟩]) (.seq (.reg [⟨(some 57), none, (.mov (.t 7))⟩, ⟨(some 6), none, (.mov (.t 57))⟩]) .ret)))))))))
def Tree.node0 (x : Tree) (p : Int) : Node := ⟨x.text, x.s, x.attrs, p, []⟩
/-- The nodes, when some of the kids are there. -/
def putN (d : Doc) (x : Tree) (p : Int) (i : Nat) : Doc := d ++ [x.node0 p] ++ flats (d.length + 1) d.length (x.kids.take i)
theorem putN_len (d : Doc) (x : Tree) (p : Int) (i : Nat) : (putN d x p i).length = d.length + 1 + cntT (x.kids.take i) := by simp [putN, flats_len]; omega
theorem putN_succ {d : Doc} {x : Tree} {p : Int} {i : Nat} {k : Tree} (h : x.kids[i]? = some k) : putN d x p (i + 1) = putN d x p i ++ k.flat (putN d x p i).length d.length := by
  rw [putN_len]
  unfold putN
  rw [List.take_add_one, h, flats_app]
  simp [flats]
/-- The loop over the kids. -/
structure PutS (x : Tree) where
  i : Nat
  L : Lb
  u : Lb → Bool
  hi : i ≤ x.kids.length
  l0 : L ≠ .par 0
  l8 : L ≠ .loc 8
  l10 : L ≠ .loc 10
  l47 : L ≠ .loc 47
  lg : ∀ j, i ≤ j → L ≠ .gen (1000 + j)
  u10 : u (.loc 10) = false
  u47 : u (.loc 47) = false
  ug : ∀ j, i ≤ j → u (.gen (1000 + j)) = false
def putLs {x : Tree} (q : PutS x) : List Lb := [.par 0, q.L, .loc 8]
def putPs (d : Doc) {x : Tree} (q : PutS x) : List (Nat × AV) :=
  [(0, .ptr (.par 0) 1 0 0), (7, .int .i64 d.length), (8, .sl (.loc 8) 1 0 (kidsAt (d.length + 1) (x.kids.take q.i)).length), (35, .list (ivT x.kids)), (36, .int .i64 x.kids.length), (37, .int .i64 q.i)]
def putRs (d : Doc) (p : Int) {x : Tree} (q : PutS x) : List (Lb × Row) :=
  [(.par 0, ⟨1, [[.sl q.L 5 0 (putN d x p q.i).length]]⟩), (q.L, ⟨5, immE ((putN d x p q.i).map Node.iv)⟩), (.loc 8, ⟨1, immE ((kidsAt (d.length + 1) (x.kids.take q.i)).map intIV)⟩)]
theorem lbss_rows {x : Tree} (d : Doc) (p : Int) (q : PutS x) : ∀ r ∈ putRs d p q, ∀ cs ∈ r.2.els, ∀ l ∈ lbss cs, l ∈ putLs q := by
  intro r hr cs hcs l hl
  simp only [putRs, List.mem_cons, List.not_mem_nil, or_false] at hr
  rcases hr with rfl | rfl | rfl
  · simp only [List.mem_singleton] at hcs
    subst hcs
    simp only [lbss, AV.lbs, List.append_nil, List.mem_singleton] at hl
    subst hl; simp [putLs]
  · rw [lbss_immE hcs] at hl; simp at hl
  · rw [lbss_immE hcs] at hl; simp at hl
theorem pPut {P : Program} {G : Nat → Option (List IV)} {f_doc_put f_slices_Clone_Attr_Attr : Nat} (hF : compF P G f_doc_put = some (58, [(none, 6)], (c_doc_put f_slices_Clone_Attr_Attr f_doc_put).bare)) (x : Tree) (d : Doc) (p : Int) (hx : d.length + x.wt ≤ B)
    (hC : PureC P G f_slices_Clone_Attr_Attr [.list (ivA x.attrs)] (.list (ivA x.attrs)))
    (hK : ∀ k ∈ x.kids, ∀ (d' : Doc), d'.length + k.wt ≤ d.length + x.wt → LstC P G 5 f_doc_put [.ptr (.par 0) 1 0 0, k.av, .int .i64 d.length] (d'.map Node.iv) (.int .i64 d'.length) ((d' ++ k.flat d'.length d.length).map Node.iv)) :
    LstC P G 5 f_doc_put [.ptr (.par 0) 1 0 0, x.av, .int .i64 p] (d.map Node.iv) (.int .i64 d.length) ((d ++ x.flat d.length p).map Node.iv) := by
  refine ⟨by simp [lbss, AV.lbs, Tree.av], rfl, fun b hb => ?_⟩
  refine spec_of_go hF (by simp) ?_ ?_ ?_
  · rintro l ⟨r, h⟩
    rcases lstIn_live h with ⟨rfl, _⟩ | ⟨_, rfl, _⟩ <;> rfl
  · intro l hl
    simp [lbss, AV.lbs, Tree.av] at hl
    subst hl
    cases b <;> simp [lstIn]
  have hlB : d.length ≤ B := by omega
  have hwx := x.wt_eq
  have hkl := wtT_len x.kids
  unfold c_doc_put
  have hnode : (x.node0 p).iv = .agg [.bool x.text, .str x.s, .list (ivA x.attrs), .int .i64 p, .list []] := rfl
  cases b with
  | true =>
    simp only [↓aX, evp, evq, evl, boxK, stillV, binV, AV.cells, mP, loadV, storeV, ldV, AV.stb, AV.one, IV.av1, Lb.app, Lb.fresh, reduceCtorEq, ptrL, appL, fillA, chunks, ivs, AV.iv, mkE, if_false, if_true, List.not_mem_nil, forall_eq, beq_self_eq_true, List.isEmpty_nil, Nat.reduceEqDiff, Nat.reduceLT, Nat.reduceLeDiff, Nat.reduceAdd, Nat.reduceMul, Int.reduceToNat, Int.reduceLE, Int.reduceLT, lstIn, Tree.av, List.length_map]
    refine ⟨rfl, puK_in hC ?_⟩
    simp only [↓aX, evp, evq, evl, boxK, stillV, binV, AV.cells, mP, loadV, storeV, ldV, AV.stb, AV.one, IV.av1, Lb.app, Lb.fresh, reduceCtorEq, ptrL, appL, fillA, chunks, ivs, AV.iv, mkE, if_false, if_true, List.not_mem_nil, forall_eq, beq_self_eq_true, List.isEmpty_nil, Nat.reduceEqDiff, Nat.reduceLT, Nat.reduceLeDiff, Nat.reduceAdd, Nat.reduceMul, Int.reduceToNat, Int.reduceLE, Int.reduceLT]
    rw [app_far 5 80 31 (.par 1) (d.map Node.iv) (.agg [.bool x.text, .str x.s, .list (ivA x.attrs), .int .i64 p, .list []]) rfl (by simp [upd_at]) (by simp) rfl (by simp [IV.cells]) (by unfold B at hlB; omega) (by decide) (by simp) (by simp [upd_at, Hp.none])]
    simp only [↓aX, evp, evq, evl, boxK, stillV, binV, AV.cells, mP, loadV, storeV, ldV, AV.stb, AV.one, IV.av1, Lb.app, Lb.fresh, reduceCtorEq, ptrL, appL, fillA, chunks, ivs, AV.iv, mkE, if_false, if_true, List.not_mem_nil, forall_eq, beq_self_eq_true, List.isEmpty_nil, Nat.reduceEqDiff, Nat.reduceLT, Nat.reduceLeDiff, Nat.reduceAdd, Nat.reduceMul, Int.reduceToNat, Int.reduceLE, Int.reduceLT, ivT_len]
    refine ⟨by rintro l (rfl | rfl) <;> simp [Lb.fam], ?_⟩
    refine loop_used (σ := PutS x) putLs (fun q => q.u) (putPs d) (putRs d p) (fun q => x.kids.length - q.i)
      { i := 0, L := .gen 31, u := fun q => decide (q = .par 1), hi := Nat.zero_le _, l0 := by simp, l8 := by simp, l10 := by simp, l47 := by simp, lg := fun j _ => by simp; omega, u10 := by simp, u47 := by simp, ug := fun j _ => by simp }
      (fun _ => rfl) (fun q => by simp [lbss, AV.lbs, putPs, putLs]) (lbss_rows d p) ⟨[], ?_⟩ ?_
    · refine ⟨?_, ?_, ?_, by simp [putLs, rnF], fun l _ => ⟨id, fun _ => rfl⟩⟩
      · intro l hf hu
        by_cases e0 : l = .par 0
        · subst e0; simp [putLs]
        · by_cases e1 : l = .gen 31
          · subst e1; simp [putLs]
          · by_cases e2 : l = .par 1
            · subst e2; simp
            · exfalso; apply hu
              cases l <;> simp_all [Lb.fresh, upd_at, Hp.none]
      · simp [putPs, EqL, rnF, ren, kidsAt, put, argE]
      · simp [putRs, RwL, rnF, upd_at, renR, rens, ren, putN, flats, kidsAt, immE, Node.iv, Node.cs, Tree.node0, IV.cells, IV.av1, rens_imm]
    · intro q
      have a0 : ofU q.u (putRs d p q) (.par 0) = .live ⟨1, [[.sl q.L 5 0 (putN d x p q.i).length]]⟩ := by simp [ofU, putRs, ofH, upd]
      have aL : ofU q.u (putRs d p q) q.L = .live ⟨5, immE ((putN d x p q.i).map Node.iv)⟩ := by simp [ofU, putRs, ofH, upd, q.l0]
      have a8 : ofU q.u (putRs d p q) (.loc 8) = .live ⟨1, immE ((kidsAt (d.length + 1) (x.kids.take q.i)).map intIV)⟩ := by simp [ofU, putRs, ofH, upd, Ne.symm q.l8]
      have a10 : ofU q.u (putRs d p q) (.loc 10) = .unused := by simp [ofU, putRs, ofH, upd, Ne.symm q.l10, q.u10, Hp.none]
      have a47 : ofU q.u (putRs d p q) (.loc 47) = .unused := by simp [ofU, putRs, ofH, upd, Ne.symm q.l47, q.u47, Hp.none]
      have ag : ofU q.u (putRs d p q) (.gen (1000 + q.i)) = .unused := by simp [ofU, putRs, ofH, upd, Ne.symm (q.lg q.i (Nat.le_refl _)), q.ug q.i (Nat.le_refl _), Hp.none]
      have anf : ∀ l : Lb, l.fresh = false → ofU q.u (putRs d p q) l ≠ .unused → l = .par 0 ∨ l = q.L ∨ q.u l = true := by
        intro l hf hu
        by_cases e0 : l = .par 0
        · exact .inl e0
        · by_cases e1 : l = q.L
          · exact .inr (.inl e1)
          · by_cases e2 : q.u l = true
            · exact .inr (.inr e2)
            · exfalso; apply hu
              have e3 : l ≠ .loc 8 := by rintro rfl; simp [Lb.fresh] at hf
              simp [ofU, putRs, ofH, upd, e0, e1, e2, e3, Hp.none]
      have hls : lbss ((putPs d q).map Prod.snd) = [.par 0, .loc 8] := by simp [lbss, AV.lbs, putPs]
      generalize ofU q.u (putRs d p q) = H0 at *
      have hn10 := q.l10
      have hn8 := q.l8
      have hn47 := q.l47
      have hi := q.hi
      have hkn : (kidsAt (d.length + 1) (x.kids.take q.i)).length = q.i := by rw [kidsAt_len, List.length_take]; omega
      have hct := cntT_le (x.kids.take q.i)
      have hwt := wtT_take x.kids q.i
      simp only [↓aX, evp, evq, evl, boxK, stillV, binV, AV.cells, mP, loadV, storeV, ldV, AV.stb, AV.one, IV.av1, Lb.app, Lb.fresh, reduceCtorEq, ptrL, appL, fillA, chunks, ivs, AV.iv, mkE, if_false, if_true, List.not_mem_nil, forall_eq, beq_self_eq_true, List.isEmpty_nil, Nat.reduceEqDiff, Nat.reduceLT, Nat.reduceLeDiff, Nat.reduceAdd, Nat.reduceMul, Int.reduceToNat, Int.reduceLE, Int.reduceLT, putPs]
      refine cK_b (fun h => ?_) (fun h => ?_)
      · have hlt : q.i < x.kids.length := by simpa using h
        obtain ⟨k, hki⟩ : ∃ k, x.kids[q.i]? = some k := ⟨_, List.getElem?_eq_getElem hlt⟩
        have hw : IntKind.i64.wrap ((q.i : Int) + 1) = ((q.i + 1 : Nat) : Int) := wrap64 (by omega) (by unfold B at hx; omega)
        have htk : x.kids.take (q.i + 1) = x.kids.take q.i ++ [k] := take_snoc' hki
        have hwk : wtT (x.kids.take q.i) + k.wt ≤ wtT x.kids := by
          have := wtT_take x.kids (q.i + 1)
          rw [htk, wtT_app] at this
          simp only [wtT] at this; omega
        simp only [↓aX, evp, evq, evl, boxK, stillV, binV, AV.cells, mP, loadV, storeV, ldV, AV.stb, AV.one, IV.av1, Lb.app, Lb.fresh, reduceCtorEq, ptrL, appL, fillA, chunks, ivs, AV.iv, mkE, if_false, if_true, List.not_mem_nil, forall_eq, beq_self_eq_true, List.isEmpty_nil, Nat.reduceEqDiff, Nat.reduceLT, Nat.reduceLeDiff, Nat.reduceAdd, Nat.reduceMul, Int.reduceToNat, Int.reduceLE, Int.reduceLT, ivT_get, hki, elszT, Tree.cells_eq, Tree.cs, a10]
        refine callT_lst (l := .par 0) (N := .gen (1000 + q.i)) (o := some q.L) (hK k (List.mem_of_getElem? hki) (putN d x p q.i) (by rw [putN_len]; omega)) rfl ⟨q.l0, by simp only [↓aX, evp, evq, evl, boxK, stillV, binV, AV.cells, mP, loadV, storeV, ldV, AV.stb, AV.one, IV.av1, Lb.app, Lb.fresh, reduceCtorEq, ptrL, appL, fillA, chunks, ivs, AV.iv, mkE, if_false, if_true, List.not_mem_nil, forall_eq, beq_self_eq_true, List.isEmpty_nil, Nat.reduceEqDiff, Nat.reduceLT, Nat.reduceLeDiff, Nat.reduceAdd, Nat.reduceMul, Int.reduceToNat, Int.reduceLE, Int.reduceLT, a0, List.length_map], by simp only [↓aX, evp, evq, evl, boxK, stillV, binV, AV.cells, mP, loadV, storeV, ldV, AV.stb, AV.one, IV.av1, Lb.app, Lb.fresh, reduceCtorEq, ptrL, appL, fillA, chunks, ivs, AV.iv, mkE, if_false, if_true, List.not_mem_nil, forall_eq, beq_self_eq_true, List.isEmpty_nil, Nat.reduceEqDiff, Nat.reduceLT, Nat.reduceLeDiff, Nat.reduceAdd, Nat.reduceMul, Int.reduceToNat, Int.reduceLE, Int.reduceLT, aL, if_neg hn10]⟩ (by simp only [↓aX, evp, evq, evl, boxK, stillV, binV, AV.cells, mP, loadV, storeV, ldV, AV.stb, AV.one, IV.av1, Lb.app, Lb.fresh, reduceCtorEq, ptrL, appL, fillA, chunks, ivs, AV.iv, mkE, if_false, if_true, List.not_mem_nil, forall_eq, beq_self_eq_true, List.isEmpty_nil, Nat.reduceEqDiff, Nat.reduceLT, Nat.reduceLeDiff, Nat.reduceAdd, Nat.reduceMul, Int.reduceToNat, Int.reduceLE, Int.reduceLT, ag]) (by intro h; simp [Lb.fresh] at h) ?_
        rintro L' H'' hL' ⟨b1, b2, b3⟩ hsame hused
        have c8 : H'' (.loc 8) = .live ⟨1, immE ((kidsAt (d.length + 1) (x.kids.take q.i)).map intIV)⟩ := by
          rw [hsame _ (by simp) (by simp) (by simpa using hn8)]; simp only [↓aX, evp, evq, evl, boxK, stillV, binV, AV.cells, mP, loadV, storeV, ldV, AV.stb, AV.one, IV.av1, Lb.app, Lb.fresh, reduceCtorEq, ptrL, appL, fillA, chunks, ivs, AV.iv, mkE, if_false, if_true, List.not_mem_nil, forall_eq, beq_self_eq_true, List.isEmpty_nil, Nat.reduceEqDiff, Nat.reduceLT, Nat.reduceLeDiff, Nat.reduceAdd, Nat.reduceMul, Int.reduceToNat, Int.reduceLE, Int.reduceLT, a8]
        have c47 : H'' (.loc 47) = .unused := by
          rw [hsame _ (by simp) (by simp) (by simpa using hn47)]; simp only [↓aX, evp, evq, evl, boxK, stillV, binV, AV.cells, mP, loadV, storeV, ldV, AV.stb, AV.one, IV.av1, Lb.app, Lb.fresh, reduceCtorEq, ptrL, appL, fillA, chunks, ivs, AV.iv, mkE, if_false, if_true, List.not_mem_nil, forall_eq, beq_self_eq_true, List.isEmpty_nil, Nat.reduceEqDiff, Nat.reduceLT, Nat.reduceLeDiff, Nat.reduceAdd, Nat.reduceMul, Int.reduceToNat, Int.reduceLE, Int.reduceLT, a47]
        simp only [↓aX, evp, evq, evl, boxK, stillV, binV, AV.cells, mP, loadV, storeV, ldV, AV.stb, AV.one, IV.av1, Lb.app, Lb.fresh, reduceCtorEq, ptrL, appL, fillA, chunks, ivs, AV.iv, mkE, if_false, if_true, List.not_mem_nil, forall_eq, beq_self_eq_true, List.isEmpty_nil, Nat.reduceEqDiff, Nat.reduceLT, Nat.reduceLeDiff, Nat.reduceAdd, Nat.reduceMul, Int.reduceToNat, Int.reduceLE, Int.reduceLT]
        rw [app_loc 1 8 47 8 ((kidsAt (d.length + 1) (x.kids.take q.i)).map intIV) (.int .i64 (putN d x p q.i).length) c8 (by rw [List.length_map]) rfl (by simp [IV.cells]) (by rw [hkn]; unfold B at hx; omega) (by decide) (by decide) c47]
        simp only [↓aX, evp, evq, evl, boxK, stillV, binV, AV.cells, mP, loadV, storeV, ldV, AV.stb, AV.one, IV.av1, Lb.app, Lb.fresh, reduceCtorEq, ptrL, appL, fillA, chunks, ivs, AV.iv, mkE, if_false, if_true, List.not_mem_nil, forall_eq, beq_self_eq_true, List.isEmpty_nil, Nat.reduceEqDiff, Nat.reduceLT, Nat.reduceLeDiff, Nat.reduceAdd, Nat.reduceMul, Int.reduceToNat, Int.reduceLE, Int.reduceLT, hw]
        have hL8 : L' ≠ .loc 8 := by rcases hL' with rfl | e; simp; simp only [Option.some.injEq] at e; rw [← e]; exact hn8
        have hL10 : L' ≠ .loc 10 := by rcases hL' with rfl | e; simp; simp only [Option.some.injEq] at e; rw [← e]; exact hn10
        have hL47 : L' ≠ .loc 47 := by rcases hL' with rfl | e; simp; simp only [Option.some.injEq] at e; rw [← e]; exact hn47
        refine ⟨{ i := q.i + 1, L := L', u := fun l => q.u l || (decide (l = q.L) || decide (l = .gen (1000 + q.i))), hi := hlt, l0 := b1, l8 := hL8, l10 := hL10, l47 := hL47, lg := ?_, u10 := ?_, u47 := ?_, ug := ?_ }, by simp only; omega, [(.loc 8, .loc 47)], ?_⟩
        · intro j hj
          rcases hL' with rfl | e
          · simp; omega
          · simp only [Option.some.injEq] at e; rw [← e]; exact q.lg j (by omega)
        · simp [q.u10, Ne.symm hn10]
        · simp [q.u47, Ne.symm hn47]
        · intro j hj
          have := Ne.symm (q.lg j (by omega))
          simp [q.ug j (by omega), this]; omega
        have hP := putN_succ (d := d) (p := p) hki
        have hkid : kidsAt (d.length + 1) (x.kids.take (q.i + 1)) = kidsAt (d.length + 1) (x.kids.take q.i) ++ [((putN d x p q.i).length : Int)] := by
          rw [htk, kidsAt_app, putN_len]; simp [kidsAt]
        refine ⟨?_, ?_, ?_, ?_, ?_⟩
        · intro l hf hu
          by_cases e0 : l = .par 0
          · subst e0; simp [putLs]
          · by_cases e1 : l = q.L
            · right; simp [e1]
            · by_cases e2 : l = .gen (1000 + q.i)
              · right; simp [e2]
              · have e3 : l ≠ .loc 47 := by rintro rfl; simp [Lb.fresh] at hf
                have e4 : l ≠ .loc 8 := by rintro rfl; simp [Lb.fresh] at hf
                have e5 : l ≠ .loc 10 := by rintro rfl; simp [Lb.fresh] at hf
                rw [upd_ne _ _ e3, upd_ne _ _ e4, hsame l e0 e2 (by simpa using Ne.symm e1), upd_ne _ _ e5, upd_ne _ _ e5] at hu
                rcases anf l hf hu with h | h | h
                · exact absurd h e0
                · exact absurd h e1
                · right; simp [h]
        · simp [putPs, EqL, rnF, ren, put, hkn, htk, kidsAt_app, kidsAt]
        · have r0 : rnF [(.loc 8, .loc 47)] (.par 0) = .par 0 := rfl
          have rL : rnF [(.loc 8, .loc 47)] L' = L' := by simp [rnF, hL8]
          have r8 : rnF [(.loc 8, .loc 47)] (.loc 8) = .loc 47 := rfl
          refine ⟨?_, ?_, ?_, trivial⟩
          · show upd (upd H'' (.loc 8) .dead) (.loc 47) _ (.par 0) = .live (renR (rnF [(.loc 8, .loc 47)]) ⟨1, [[.sl L' 5 0 (putN d x p (q.i + 1)).length]]⟩)
            rw [upd_ne _ _ (by simp), upd_ne _ _ (by simp), b2, hP]
            simp [renR, rens, ren, rL]
          · show upd (upd H'' (.loc 8) .dead) (.loc 47) _ (rnF [(.loc 8, .loc 47)] L') = .live (renR (rnF [(.loc 8, .loc 47)]) ⟨5, immE ((putN d x p (q.i + 1)).map Node.iv)⟩)
            rw [rL, upd_ne _ _ hL47, upd_ne _ _ hL8, b3, renR_immE, hP]
          · show upd (upd H'' (.loc 8) .dead) (.loc 47) _ (.loc 47) = .live (renR (rnF [(.loc 8, .loc 47)]) ⟨1, immE ((kidsAt (d.length + 1) (x.kids.take (q.i + 1))).map intIV)⟩)
            rw [renR_immE, hkid, List.map_append]
            simp only [↓aX, evp, evq, evl, boxK, stillV, binV, AV.cells, mP, loadV, storeV, ldV, AV.stb, AV.one, IV.av1, Lb.app, Lb.fresh, reduceCtorEq, ptrL, appL, fillA, chunks, ivs, AV.iv, mkE, if_false, if_true, List.not_mem_nil, forall_eq, beq_self_eq_true, List.isEmpty_nil, Nat.reduceEqDiff, Nat.reduceLT, Nat.reduceLeDiff, Nat.reduceAdd, Nat.reduceMul, Int.reduceToNat, Int.reduceLE, Int.reduceLT]
            rfl
        · simp [putLs, rnF, hL8, Ne.symm b1, hL47]
        · intro l hl
          simp only [putLs, List.mem_cons, List.not_mem_nil, or_false] at hl
          rcases hl with rfl | rfl | rfl
          · exact ⟨id, fun _ => rfl⟩
          · have rL : rnF [(.loc 8, .loc 47)] l = l := by simp [rnF, hL8]
            rw [rL]; exact ⟨id, fun _ => rfl⟩
          · exact ⟨fun _ => rfl, fun h => by simp [Lb.fresh] at h⟩
      · have hil : q.i = x.kids.length := by simp at h; omega
        have htl : x.kids.take q.i = x.kids := by rw [hil, List.take_length]
        rw [htl] at a8
        have hnl := putN_len d x p q.i
        have hlt : d.length < (putN d x p q.i).length := by omega
        have hget : (immE ((putN d x p q.i).map Node.iv))[d.length]? = some [.bool x.text, .str x.s, .list (ivA x.attrs), .int .i64 p, .list []] := by
          rw [immE_get, List.getElem?_map, putN, List.append_assoc, List.getElem?_append_right (Nat.le_refl _), Nat.sub_self]
          rfl
        simp only [↓aX, evp, evq, evl, boxK, stillV, binV, AV.cells, mP, loadV, storeV, ldV, AV.stb, AV.one, IV.av1, Lb.app, Lb.fresh, reduceCtorEq, ptrL, appL, fillA, chunks, ivs, AV.iv, mkE, if_false, if_true, List.not_mem_nil, forall_eq, beq_self_eq_true, List.isEmpty_nil, Nat.reduceEqDiff, Nat.reduceLT, Nat.reduceLeDiff, Nat.reduceAdd, Nat.reduceMul, Int.reduceToNat, Int.reduceLE, Int.reduceLT, h, htl]
        refine ⟨1, (kidsAt (d.length + 1) x.kids).map intIV, 0, _, rfl, a8, by simp, flatI _, ?_⟩
        simp only [↓aX, evp, evq, evl, boxK, stillV, binV, AV.cells, mP, loadV, storeV, ldV, AV.stb, AV.one, IV.av1, Lb.app, Lb.fresh, reduceCtorEq, ptrL, appL, fillA, chunks, ivs, AV.iv, mkE, if_false, if_true, List.not_mem_nil, forall_eq, beq_self_eq_true, List.isEmpty_nil, Nat.reduceEqDiff, Nat.reduceLT, Nat.reduceLeDiff, Nat.reduceAdd, Nat.reduceMul, Int.reduceToNat, Int.reduceLE, Int.reduceLT, a0, aL, hlt, hn8, hget, immE_len, List.length_map]
        have hfin : (immE ((putN d x p q.i).map Node.iv)).set d.length ((x.node d.length p).iv.cells.map IV.av1) = immE ((d ++ x.flat d.length p).map Node.iv) := by
          rw [x.flat_eq, immE_set, putN, htl]
          congr 1
          simp [List.set_append]
        have hlen2 : (d ++ x.flat d.length p).length = (putN d x p q.i).length := by
          rw [List.length_append, x.flat_len, hnl, htl, x.cnt_eq]; omega
        refine ⟨q.L, q.l0, ?_, ?_⟩
        · rw [upd_ne _ _ (Ne.symm q.l0), upd_ne _ _ (by simp), a0, List.length_map, hlen2]
        · rw [← hfin]
          have : (List.take (kidsAt (d.length + 1) x.kids).length ((kidsAt (d.length + 1) x.kids).map intIV)) = (kidsAt (d.length + 1) x.kids).map intIV := List.take_of_length_le (by simp)
          rw [this]
          simp only [↓aX, evp, evq, evl, boxK, stillV, binV, AV.cells, mP, loadV, storeV, ldV, AV.stb, AV.one, IV.av1, Lb.app, Lb.fresh, reduceCtorEq, ptrL, appL, fillA, chunks, ivs, AV.iv, mkE, if_false, if_true, List.not_mem_nil, forall_eq, beq_self_eq_true, List.isEmpty_nil, Nat.reduceEqDiff, Nat.reduceLT, Nat.reduceLeDiff, Nat.reduceAdd, Nat.reduceMul, Int.reduceToNat, Int.reduceLE, Int.reduceLT]
          rfl
  | false =>
    have hd : d = [] := by simpa using hb rfl
    have hd0 : d.length = 0 := by rw [hd]; rfl
    simp only [↓aX, evp, evq, evl, boxK, stillV, binV, AV.cells, mP, loadV, storeV, ldV, AV.stb, AV.one, IV.av1, Lb.app, Lb.fresh, reduceCtorEq, ptrL, appL, fillA, chunks, ivs, AV.iv, mkE, if_false, if_true, List.not_mem_nil, forall_eq, beq_self_eq_true, List.isEmpty_nil, Nat.reduceEqDiff, Nat.reduceLT, Nat.reduceLeDiff, Nat.reduceAdd, Nat.reduceMul, Int.reduceToNat, Int.reduceLE, Int.reduceLT, lstIn, Tree.av]
    refine ⟨rfl, puK_in hC ?_⟩
    simp only [↓aX, evp, evq, evl, boxK, stillV, binV, AV.cells, mP, loadV, storeV, ldV, AV.stb, AV.one, IV.av1, Lb.app, Lb.fresh, reduceCtorEq, ptrL, appL, fillA, chunks, ivs, AV.iv, mkE, if_false, if_true, List.not_mem_nil, forall_eq, beq_self_eq_true, List.isEmpty_nil, Nat.reduceEqDiff, Nat.reduceLT, Nat.reduceLeDiff, Nat.reduceAdd, Nat.reduceMul, Int.reduceToNat, Int.reduceLE, Int.reduceLT]
    rw [app_nil' 5 80 31 [.agg [.bool x.text, .str x.s, .list (ivA x.attrs), .int .i64 p, .list []]] (by simp [Elsz, IV.cells]) (by simp [Flat, IV.cells]) (by simp) (by decide) (by simp [upd_at, Hp.none])]
    simp only [↓aX, evp, evq, evl, boxK, stillV, binV, AV.cells, mP, loadV, storeV, ldV, AV.stb, AV.one, IV.av1, Lb.app, Lb.fresh, reduceCtorEq, ptrL, appL, fillA, chunks, ivs, AV.iv, mkE, if_false, if_true, List.not_mem_nil, forall_eq, beq_self_eq_true, List.isEmpty_nil, Nat.reduceEqDiff, Nat.reduceLT, Nat.reduceLeDiff, Nat.reduceAdd, Nat.reduceMul, Int.reduceToNat, Int.reduceLE, Int.reduceLT, ivT_len]
    refine ⟨by simp, ?_⟩
    refine loop_used (σ := PutS x) putLs (fun q => q.u) (putPs d) (putRs d p) (fun q => x.kids.length - q.i)
      { i := 0, L := .loc 31, u := fun q => false, hi := Nat.zero_le _, l0 := by simp, l8 := by simp, l10 := by simp, l47 := by simp, lg := fun j _ => by simp, u10 := rfl, u47 := rfl, ug := fun j _ => rfl }
      (fun _ => rfl) (fun q => by simp [lbss, AV.lbs, putPs, putLs]) (lbss_rows d p) ⟨[], ?_⟩ ?_
    · refine ⟨?_, ?_, ?_, by simp [putLs, rnF], fun l _ => ⟨id, fun _ => rfl⟩⟩
      · intro l hf hu
        by_cases e0 : l = .par 0
        · subst e0; simp [putLs]
        · exfalso; apply hu
          cases l <;> simp_all [Lb.fresh, upd_at, Hp.none]
      · simp [putPs, EqL, rnF, ren, kidsAt, put, argE, hd]
      · simp [putRs, RwL, rnF, upd_at, renR, rens, ren, putN, flats, kidsAt, immE, Node.iv, Node.cs, Tree.node0, IV.cells, IV.av1, rens_imm, hd]
    · intro q
      have a0 : ofU q.u (putRs d p q) (.par 0) = .live ⟨1, [[.sl q.L 5 0 (putN d x p q.i).length]]⟩ := by simp [ofU, putRs, ofH, upd]
      have aL : ofU q.u (putRs d p q) q.L = .live ⟨5, immE ((putN d x p q.i).map Node.iv)⟩ := by simp [ofU, putRs, ofH, upd, q.l0]
      have a8 : ofU q.u (putRs d p q) (.loc 8) = .live ⟨1, immE ((kidsAt (d.length + 1) (x.kids.take q.i)).map intIV)⟩ := by simp [ofU, putRs, ofH, upd, Ne.symm q.l8]
      have a10 : ofU q.u (putRs d p q) (.loc 10) = .unused := by simp [ofU, putRs, ofH, upd, Ne.symm q.l10, q.u10, Hp.none]
      have a47 : ofU q.u (putRs d p q) (.loc 47) = .unused := by simp [ofU, putRs, ofH, upd, Ne.symm q.l47, q.u47, Hp.none]
      have ag : ofU q.u (putRs d p q) (.gen (1000 + q.i)) = .unused := by simp [ofU, putRs, ofH, upd, Ne.symm (q.lg q.i (Nat.le_refl _)), q.ug q.i (Nat.le_refl _), Hp.none]
      have anf : ∀ l : Lb, l.fresh = false → ofU q.u (putRs d p q) l ≠ .unused → l = .par 0 ∨ l = q.L ∨ q.u l = true := by
        intro l hf hu
        by_cases e0 : l = .par 0
        · exact .inl e0
        · by_cases e1 : l = q.L
          · exact .inr (.inl e1)
          · by_cases e2 : q.u l = true
            · exact .inr (.inr e2)
            · exfalso; apply hu
              have e3 : l ≠ .loc 8 := by rintro rfl; simp [Lb.fresh] at hf
              simp [ofU, putRs, ofH, upd, e0, e1, e2, e3, Hp.none]
      have hls : lbss ((putPs d q).map Prod.snd) = [.par 0, .loc 8] := by simp [lbss, AV.lbs, putPs]
      generalize ofU q.u (putRs d p q) = H0 at *
      have hn10 := q.l10
      have hn8 := q.l8
      have hn47 := q.l47
      have hi := q.hi
      have hkn : (kidsAt (d.length + 1) (x.kids.take q.i)).length = q.i := by rw [kidsAt_len, List.length_take]; omega
      have hct := cntT_le (x.kids.take q.i)
      have hwt := wtT_take x.kids q.i
      simp only [↓aX, evp, evq, evl, boxK, stillV, binV, AV.cells, mP, loadV, storeV, ldV, AV.stb, AV.one, IV.av1, Lb.app, Lb.fresh, reduceCtorEq, ptrL, appL, fillA, chunks, ivs, AV.iv, mkE, if_false, if_true, List.not_mem_nil, forall_eq, beq_self_eq_true, List.isEmpty_nil, Nat.reduceEqDiff, Nat.reduceLT, Nat.reduceLeDiff, Nat.reduceAdd, Nat.reduceMul, Int.reduceToNat, Int.reduceLE, Int.reduceLT, putPs]
      refine cK_b (fun h => ?_) (fun h => ?_)
      · have hlt : q.i < x.kids.length := by simpa using h
        obtain ⟨k, hki⟩ : ∃ k, x.kids[q.i]? = some k := ⟨_, List.getElem?_eq_getElem hlt⟩
        have hw : IntKind.i64.wrap ((q.i : Int) + 1) = ((q.i + 1 : Nat) : Int) := wrap64 (by omega) (by unfold B at hx; omega)
        have htk : x.kids.take (q.i + 1) = x.kids.take q.i ++ [k] := take_snoc' hki
        have hwk : wtT (x.kids.take q.i) + k.wt ≤ wtT x.kids := by
          have := wtT_take x.kids (q.i + 1)
          rw [htk, wtT_app] at this
          simp only [wtT] at this; omega
        simp only [↓aX, evp, evq, evl, boxK, stillV, binV, AV.cells, mP, loadV, storeV, ldV, AV.stb, AV.one, IV.av1, Lb.app, Lb.fresh, reduceCtorEq, ptrL, appL, fillA, chunks, ivs, AV.iv, mkE, if_false, if_true, List.not_mem_nil, forall_eq, beq_self_eq_true, List.isEmpty_nil, Nat.reduceEqDiff, Nat.reduceLT, Nat.reduceLeDiff, Nat.reduceAdd, Nat.reduceMul, Int.reduceToNat, Int.reduceLE, Int.reduceLT, ivT_get, hki, elszT, Tree.cells_eq, Tree.cs, a10]
        refine callT_lst (l := .par 0) (N := .gen (1000 + q.i)) (o := some q.L) (hK k (List.mem_of_getElem? hki) (putN d x p q.i) (by rw [putN_len]; omega)) rfl ⟨q.l0, by simp only [↓aX, evp, evq, evl, boxK, stillV, binV, AV.cells, mP, loadV, storeV, ldV, AV.stb, AV.one, IV.av1, Lb.app, Lb.fresh, reduceCtorEq, ptrL, appL, fillA, chunks, ivs, AV.iv, mkE, if_false, if_true, List.not_mem_nil, forall_eq, beq_self_eq_true, List.isEmpty_nil, Nat.reduceEqDiff, Nat.reduceLT, Nat.reduceLeDiff, Nat.reduceAdd, Nat.reduceMul, Int.reduceToNat, Int.reduceLE, Int.reduceLT, a0, List.length_map], by simp only [↓aX, evp, evq, evl, boxK, stillV, binV, AV.cells, mP, loadV, storeV, ldV, AV.stb, AV.one, IV.av1, Lb.app, Lb.fresh, reduceCtorEq, ptrL, appL, fillA, chunks, ivs, AV.iv, mkE, if_false, if_true, List.not_mem_nil, forall_eq, beq_self_eq_true, List.isEmpty_nil, Nat.reduceEqDiff, Nat.reduceLT, Nat.reduceLeDiff, Nat.reduceAdd, Nat.reduceMul, Int.reduceToNat, Int.reduceLE, Int.reduceLT, aL, if_neg hn10]⟩ (by simp only [↓aX, evp, evq, evl, boxK, stillV, binV, AV.cells, mP, loadV, storeV, ldV, AV.stb, AV.one, IV.av1, Lb.app, Lb.fresh, reduceCtorEq, ptrL, appL, fillA, chunks, ivs, AV.iv, mkE, if_false, if_true, List.not_mem_nil, forall_eq, beq_self_eq_true, List.isEmpty_nil, Nat.reduceEqDiff, Nat.reduceLT, Nat.reduceLeDiff, Nat.reduceAdd, Nat.reduceMul, Int.reduceToNat, Int.reduceLE, Int.reduceLT, ag]) (by intro h; simp [Lb.fresh] at h) ?_
        rintro L' H'' hL' ⟨b1, b2, b3⟩ hsame hused
        have c8 : H'' (.loc 8) = .live ⟨1, immE ((kidsAt (d.length + 1) (x.kids.take q.i)).map intIV)⟩ := by
          rw [hsame _ (by simp) (by simp) (by simpa using hn8)]; simp only [↓aX, evp, evq, evl, boxK, stillV, binV, AV.cells, mP, loadV, storeV, ldV, AV.stb, AV.one, IV.av1, Lb.app, Lb.fresh, reduceCtorEq, ptrL, appL, fillA, chunks, ivs, AV.iv, mkE, if_false, if_true, List.not_mem_nil, forall_eq, beq_self_eq_true, List.isEmpty_nil, Nat.reduceEqDiff, Nat.reduceLT, Nat.reduceLeDiff, Nat.reduceAdd, Nat.reduceMul, Int.reduceToNat, Int.reduceLE, Int.reduceLT, a8]
        have c47 : H'' (.loc 47) = .unused := by
          rw [hsame _ (by simp) (by simp) (by simpa using hn47)]; simp only [↓aX, evp, evq, evl, boxK, stillV, binV, AV.cells, mP, loadV, storeV, ldV, AV.stb, AV.one, IV.av1, Lb.app, Lb.fresh, reduceCtorEq, ptrL, appL, fillA, chunks, ivs, AV.iv, mkE, if_false, if_true, List.not_mem_nil, forall_eq, beq_self_eq_true, List.isEmpty_nil, Nat.reduceEqDiff, Nat.reduceLT, Nat.reduceLeDiff, Nat.reduceAdd, Nat.reduceMul, Int.reduceToNat, Int.reduceLE, Int.reduceLT, a47]
        simp only [↓aX, evp, evq, evl, boxK, stillV, binV, AV.cells, mP, loadV, storeV, ldV, AV.stb, AV.one, IV.av1, Lb.app, Lb.fresh, reduceCtorEq, ptrL, appL, fillA, chunks, ivs, AV.iv, mkE, if_false, if_true, List.not_mem_nil, forall_eq, beq_self_eq_true, List.isEmpty_nil, Nat.reduceEqDiff, Nat.reduceLT, Nat.reduceLeDiff, Nat.reduceAdd, Nat.reduceMul, Int.reduceToNat, Int.reduceLE, Int.reduceLT]
        rw [app_loc 1 8 47 8 ((kidsAt (d.length + 1) (x.kids.take q.i)).map intIV) (.int .i64 (putN d x p q.i).length) c8 (by rw [List.length_map]) rfl (by simp [IV.cells]) (by rw [hkn]; unfold B at hx; omega) (by decide) (by decide) c47]
        simp only [↓aX, evp, evq, evl, boxK, stillV, binV, AV.cells, mP, loadV, storeV, ldV, AV.stb, AV.one, IV.av1, Lb.app, Lb.fresh, reduceCtorEq, ptrL, appL, fillA, chunks, ivs, AV.iv, mkE, if_false, if_true, List.not_mem_nil, forall_eq, beq_self_eq_true, List.isEmpty_nil, Nat.reduceEqDiff, Nat.reduceLT, Nat.reduceLeDiff, Nat.reduceAdd, Nat.reduceMul, Int.reduceToNat, Int.reduceLE, Int.reduceLT, hw]
        have hL8 : L' ≠ .loc 8 := by rcases hL' with rfl | e; simp; simp only [Option.some.injEq] at e; rw [← e]; exact hn8
        have hL10 : L' ≠ .loc 10 := by rcases hL' with rfl | e; simp; simp only [Option.some.injEq] at e; rw [← e]; exact hn10
        have hL47 : L' ≠ .loc 47 := by rcases hL' with rfl | e; simp; simp only [Option.some.injEq] at e; rw [← e]; exact hn47
        refine ⟨{ i := q.i + 1, L := L', u := fun l => q.u l || (decide (l = q.L) || decide (l = .gen (1000 + q.i))), hi := hlt, l0 := b1, l8 := hL8, l10 := hL10, l47 := hL47, lg := ?_, u10 := ?_, u47 := ?_, ug := ?_ }, by simp only; omega, [(.loc 8, .loc 47)], ?_⟩
        · intro j hj
          rcases hL' with rfl | e
          · simp; omega
          · simp only [Option.some.injEq] at e; rw [← e]; exact q.lg j (by omega)
        · simp [q.u10, Ne.symm hn10]
        · simp [q.u47, Ne.symm hn47]
        · intro j hj
          have := Ne.symm (q.lg j (by omega))
          simp [q.ug j (by omega), this]; omega
        have hP := putN_succ (d := d) (p := p) hki
        have hkid : kidsAt (d.length + 1) (x.kids.take (q.i + 1)) = kidsAt (d.length + 1) (x.kids.take q.i) ++ [((putN d x p q.i).length : Int)] := by
          rw [htk, kidsAt_app, putN_len]; simp [kidsAt]
        refine ⟨?_, ?_, ?_, ?_, ?_⟩
        · intro l hf hu
          by_cases e0 : l = .par 0
          · subst e0; simp [putLs]
          · by_cases e1 : l = q.L
            · right; simp [e1]
            · by_cases e2 : l = .gen (1000 + q.i)
              · right; simp [e2]
              · have e3 : l ≠ .loc 47 := by rintro rfl; simp [Lb.fresh] at hf
                have e4 : l ≠ .loc 8 := by rintro rfl; simp [Lb.fresh] at hf
                have e5 : l ≠ .loc 10 := by rintro rfl; simp [Lb.fresh] at hf
                rw [upd_ne _ _ e3, upd_ne _ _ e4, hsame l e0 e2 (by simpa using Ne.symm e1), upd_ne _ _ e5, upd_ne _ _ e5] at hu
                rcases anf l hf hu with h | h | h
                · exact absurd h e0
                · exact absurd h e1
                · right; simp [h]
        · simp [putPs, EqL, rnF, ren, put, hkn, htk, kidsAt_app, kidsAt]
        · have r0 : rnF [(.loc 8, .loc 47)] (.par 0) = .par 0 := rfl
          have rL : rnF [(.loc 8, .loc 47)] L' = L' := by simp [rnF, hL8]
          have r8 : rnF [(.loc 8, .loc 47)] (.loc 8) = .loc 47 := rfl
          refine ⟨?_, ?_, ?_, trivial⟩
          · show upd (upd H'' (.loc 8) .dead) (.loc 47) _ (.par 0) = .live (renR (rnF [(.loc 8, .loc 47)]) ⟨1, [[.sl L' 5 0 (putN d x p (q.i + 1)).length]]⟩)
            rw [upd_ne _ _ (by simp), upd_ne _ _ (by simp), b2, hP]
            simp [renR, rens, ren, rL]
          · show upd (upd H'' (.loc 8) .dead) (.loc 47) _ (rnF [(.loc 8, .loc 47)] L') = .live (renR (rnF [(.loc 8, .loc 47)]) ⟨5, immE ((putN d x p (q.i + 1)).map Node.iv)⟩)
            rw [rL, upd_ne _ _ hL47, upd_ne _ _ hL8, b3, renR_immE, hP]
          · show upd (upd H'' (.loc 8) .dead) (.loc 47) _ (.loc 47) = .live (renR (rnF [(.loc 8, .loc 47)]) ⟨1, immE ((kidsAt (d.length + 1) (x.kids.take (q.i + 1))).map intIV)⟩)
            rw [renR_immE, hkid, List.map_append]
            simp only [↓aX, evp, evq, evl, boxK, stillV, binV, AV.cells, mP, loadV, storeV, ldV, AV.stb, AV.one, IV.av1, Lb.app, Lb.fresh, reduceCtorEq, ptrL, appL, fillA, chunks, ivs, AV.iv, mkE, if_false, if_true, List.not_mem_nil, forall_eq, beq_self_eq_true, List.isEmpty_nil, Nat.reduceEqDiff, Nat.reduceLT, Nat.reduceLeDiff, Nat.reduceAdd, Nat.reduceMul, Int.reduceToNat, Int.reduceLE, Int.reduceLT]
            rfl
        · simp [putLs, rnF, hL8, Ne.symm b1, hL47]
        · intro l hl
          simp only [putLs, List.mem_cons, List.not_mem_nil, or_false] at hl
          rcases hl with rfl | rfl | rfl
          · exact ⟨id, fun _ => rfl⟩
          · have rL : rnF [(.loc 8, .loc 47)] l = l := by simp [rnF, hL8]
            rw [rL]; exact ⟨id, fun _ => rfl⟩
          · exact ⟨fun _ => rfl, fun h => by simp [Lb.fresh] at h⟩
      · have hil : q.i = x.kids.length := by simp at h; omega
        have htl : x.kids.take q.i = x.kids := by rw [hil, List.take_length]
        rw [htl] at a8
        have hnl := putN_len d x p q.i
        have hlt : d.length < (putN d x p q.i).length := by omega
        have hget : (immE ((putN d x p q.i).map Node.iv))[d.length]? = some [.bool x.text, .str x.s, .list (ivA x.attrs), .int .i64 p, .list []] := by
          rw [immE_get, List.getElem?_map, putN, List.append_assoc, List.getElem?_append_right (Nat.le_refl _), Nat.sub_self]
          rfl
        simp only [↓aX, evp, evq, evl, boxK, stillV, binV, AV.cells, mP, loadV, storeV, ldV, AV.stb, AV.one, IV.av1, Lb.app, Lb.fresh, reduceCtorEq, ptrL, appL, fillA, chunks, ivs, AV.iv, mkE, if_false, if_true, List.not_mem_nil, forall_eq, beq_self_eq_true, List.isEmpty_nil, Nat.reduceEqDiff, Nat.reduceLT, Nat.reduceLeDiff, Nat.reduceAdd, Nat.reduceMul, Int.reduceToNat, Int.reduceLE, Int.reduceLT, h, htl]
        refine ⟨1, (kidsAt (d.length + 1) x.kids).map intIV, 0, _, rfl, a8, by simp, flatI _, ?_⟩
        simp only [↓aX, evp, evq, evl, boxK, stillV, binV, AV.cells, mP, loadV, storeV, ldV, AV.stb, AV.one, IV.av1, Lb.app, Lb.fresh, reduceCtorEq, ptrL, appL, fillA, chunks, ivs, AV.iv, mkE, if_false, if_true, List.not_mem_nil, forall_eq, beq_self_eq_true, List.isEmpty_nil, Nat.reduceEqDiff, Nat.reduceLT, Nat.reduceLeDiff, Nat.reduceAdd, Nat.reduceMul, Int.reduceToNat, Int.reduceLE, Int.reduceLT, a0, aL, hlt, hn8, hget, immE_len, List.length_map]
        have hfin : (immE ((putN d x p q.i).map Node.iv)).set d.length ((x.node d.length p).iv.cells.map IV.av1) = immE ((d ++ x.flat d.length p).map Node.iv) := by
          rw [x.flat_eq, immE_set, putN, htl]
          congr 1
          simp [List.set_append]
        have hlen2 : (d ++ x.flat d.length p).length = (putN d x p q.i).length := by
          rw [List.length_append, x.flat_len, hnl, htl, x.cnt_eq]; omega
        refine ⟨q.L, q.l0, ?_, ?_⟩
        · rw [upd_ne _ _ (Ne.symm q.l0), upd_ne _ _ (by simp), a0, List.length_map, hlen2]
        · rw [← hfin]
          have : (List.take (kidsAt (d.length + 1) x.kids).length ((kidsAt (d.length + 1) x.kids).map intIV)) = (kidsAt (d.length + 1) x.kids).map intIV := List.take_of_length_le (by simp)
          rw [this]
          simp only [↓aX, evp, evq, evl, boxK, stillV, binV, AV.cells, mP, loadV, storeV, ldV, AV.stb, AV.one, IV.av1, Lb.app, Lb.fresh, reduceCtorEq, ptrL, appL, fillA, chunks, ivs, AV.iv, mkE, if_false, if_true, List.not_mem_nil, forall_eq, beq_self_eq_true, List.isEmpty_nil, Nat.reduceEqDiff, Nat.reduceLT, Nat.reduceLeDiff, Nat.reduceAdd, Nat.reduceMul, Int.reduceToNat, Int.reduceLE, Int.reduceLT]
          rfl
end Go.Am

/- THE ABSTRACT MACHINE, part 35: an empty slice in a cell, owned. -/
namespace Go.Am
open Go Go.RowKit
theorem mem_lbss {p : Lb} : ∀ {ds : List AV}, p ∈ lbss ds → ∃ y ∈ ds, p ∈ y.lbs
  | [], h => by simp [lbss] at h
  | y :: r, h => by
    simp only [lbss, List.mem_append] at h
    rcases h with h | h
    · exact ⟨y, by simp, h⟩
    · obtain ⟨z, hz, hp⟩ := mem_lbss h
      exact ⟨z, by simp [hz], hp⟩
/-- A cell that holds an empty slice: it may be seen as a list of one's own. -/
theorem weaker_ownc {S : St} {env : Env} {H : Hp} {q : Lb} {cs : List AV} {j d sz : Nat} (g1 : H q = .live ⟨cs.length, [cs]⟩) (g2 : cs[j]? = some .nil0) (g3 : H (.loc d) = .unused) (g4 : 0 < sz) :
    Weaker S env H env (upd (upd H (.loc d) (.live ⟨sz, []⟩)) q (.live ⟨cs.length, [cs.set j (.sl (.loc d) sz 0 0)]⟩)) := by
  intro K β a w hKS hS hr
  have hk := hr.addRow (.loc d) g3 (r := ⟨sz, []⟩) (Below.refl _ _) none (by simp) (by simp) ⟨g4, by simp, by simp⟩
  have hqd : q ≠ .loc d := by rintro rfl; rw [g1] at g3; cases g3
  have hq : upd H (.loc d) (.live ⟨sz, []⟩) q = .live ⟨cs.length, [cs]⟩ := by rw [upd_ne _ _ hqd]; exact g1
  have hsz : 0 < cs.length := (hr.rows q _ g1).1
  have hbq : upd β (.loc d) none q = β q := upd_ne _ _ hqd
  cases hb : β q with
  | none =>
    have := (hr.rows q _ g1).2.2
    simp [hb] at this
  | some g =>
    obtain ⟨cur, e0, cap, k1, k2, k3, k4, k5⟩ := (hk.rows q _ hq).block (hbq.trans hb)
    have hjl : j < cs.length := (List.getElem?_eq_some_iff.1 g2).1
    have hset := hk.setRow q (r' := ⟨cs.length, [cs.set j (.sl (.loc d) sz 0 0)]⟩) (cur' := cur) (cap := cap) hq (hbq.trans hb) k1 rfl rfl k2 k3 (by simpa using k4) (by simp)
      (by
        intro ds hds p hp
        simp at hds; subst hds
        obtain ⟨y, hy, hpy⟩ := mem_lbss hp
        rcases List.mem_or_eq_of_mem_set hy with hy | rfl
        · obtain ⟨m, hm⟩ := List.getElem?_of_mem hy
          exact hk.rment q _ hq cs (by simp) p (lbss_get _ _ _ hm p hpy)
        · simp only [AV.lbs, List.mem_singleton] at hpy
          subst hpy; simp)
      (by
        intro i' j' ds x0 hi' hj'
        cases i' with
        | succ i' => simp at hi'
        | zero =>
          simp at hi'; subst hi'
          by_cases e : j' = j
          · subst e
            rw [List.getElem?_set_self hjl] at hj'
            cases hj'
            obtain ⟨v, q1, q2⟩ := k5 0 j' cs _ (by simp) g2
            simp only [RV] at q2
            obtain ⟨ad, rfl⟩ := q2
            refine ⟨_, q1, ?_⟩
            simp only [RV]
            exact ⟨ad, 0, rfl, Nat.le_refl _, by simp [maxLen], by simp, fun _ => .inl rfl⟩
          · rw [List.getElem?_set_ne (Ne.symm e)] at hj'
            exact k5 0 j' cs x0 (by simp) hj')
    have hsame : w.setRow g cur = w := setRow_self w g cur e0 (0, 0) k1
    rw [hsame] at hset
    exact ⟨_, hset⟩
section
variable {env : Env} {H : Hp}
theorem retm2_r (m : Option Nat) (t u : Nat) (R : AV → Hp → Prop) : RetP [(some m, t), (none, u)] R .ret env H = stK (loadV m (env t) H) (fun x => R (.tup [x, env u]) H) .mk := by
  simp only [RetP, resVs, resV, stK]
  cases loadV m (env t) H <;> simp [oneV]
end
end Go.Am
