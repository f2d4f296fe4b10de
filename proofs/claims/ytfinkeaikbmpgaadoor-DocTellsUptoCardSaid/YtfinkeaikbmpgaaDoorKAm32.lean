import Derived.Test.YtfinkeaikbmpgaaDoorKAm25
import Derived.Test.YtfinkeaikbmpgaaDoorKAm16
set_option linter.unusedSimpArgs false
set_option linter.unusedVariables false
set_option linter.unnecessarySimpa false
set_option linter.defProp false
/- THE ABSTRACT MACHINE, part 32: loops whose rows stay where they are. -/
namespace Go.Am
open Go Go.RowKit
def RwI (H : Hp) : List (Lb × Row) → Prop
  | [] => True
  | (l, r) :: t => H l = .live r ∧ RwI H t
theorem RwI.rw {H : Hp} : ∀ {rs : List (Lb × Row)}, RwI H rs → RwL (rnF []) H rs
  | [], _ => trivial
  | (l, r) :: t, h => ⟨by show H l = .live (renR id r); rw [renR_id]; exact h.1, RwI.rw h.2⟩
/-- The rows 'rs' are there, by their names; what else there is was made here. -/
def WS {σ : Type} (ls : List Lb) (ps : σ → List (Nat × AV)) (rs : σ → List (Lb × Row)) (env : Env) (H : Hp) (s : σ) : Prop := NFx H ls ∧ EqI env (ps s) ∧ RwI H (rs s)
theorem loop_same {σ : Type} {S : St} {Q : Post} {c : AC} {k : List It} {env : Env} {H : Hp} (ls : List Lb) (ps : σ → List (Nat × AV)) (rs : σ → List (Lb × Row)) (μ : σ → Nat) (s0 : σ)
    (hls : ∀ s, (rs s).map Prod.fst = ls) (hnd : ls.Nodup) (hp : ∀ s, ∀ l ∈ lbss ((ps s).map Prod.snd), l ∈ ls) (hr : ∀ s, ∀ q ∈ rs s, ∀ cs ∈ q.2.els, ∀ l ∈ lbss cs, l ∈ ls) (h0 : WS ls ps rs env H s0)
    (round : ∀ s, go S (LoopX S Q k (WS ls ps rs) μ (μ s)) [.code c] (ofL (ps s)) (ofH (rs s))) : LoopG S Q c k env H := by
  refine loop_gen (fun s => ofL (ps s)) (fun s => ofH (rs s)) (WS ls ps rs) ?_ μ s0 h0 round
  rintro env H s ⟨h1, h2, h3⟩
  refine ⟨rnF [], WRs.wk (m := []) ⟨h1, h2.eql, RwI.rw h3, ?_, fun l _ => ⟨id, fun _ => rfl⟩⟩ (hls s) (hp s) (hr s)⟩
  have : rnF [] = id := rfl
  rw [this, List.map_id]; exact hnd
theorem WS_mk {σ : Type} {ls : List Lb} {ps : σ → List (Nat × AV)} {rs : σ → List (Lb × Row)} {env : Env} {H : Hp} {s : σ} (h1 : NFx H ls) (h2 : EqI env (ps s)) (h3 : RwI H (rs s)) : WS ls ps rs env H s := ⟨h1, h2, h3⟩
theorem ofH_nil : ofH [] = Hp.none := rfl
theorem ofH_cons (l : Lb) (r : Row) (t : List (Lb × Row)) : ofH ((l, r) :: t) = upd (ofH t) l (.live r) := rfl
end Go.Am

/- THE ABSTRACT MACHINE, part 33: slices held against nil; loops of calls with pointers. -/
namespace Go.Am
open Go Go.RowKit
inductive Tb (k : Bool → Prop) : Type
  | mk
/-- Whatever is found of what may be nil. -/
def nK (o : Option (List Bool)) (k : Bool → Prop) (_ : Tb k) : Prop := ∃ bs, o = some bs ∧ ∀ b ∈ bs, k b
theorem a1_eqn {S : St} {env : Env} {H : Hp} (d : Option Nat) (n : Bool) (x : O) (k : AV → Hp → Prop) : Act1 S d (.eqn n x) env H k = nK (nilV (ev env x)) (fun b => k (.bool (n ^^ b)) H) .mk := rfl
theorem nK_list {xs : List IV} {k : Bool → Prop} {u : Tb k} (h1 : xs = [] → k true) (h2 : k false) : nK (nilV (.list xs)) k u := by
  cases xs with
  | nil => exact ⟨_, rfl, fun b _ => by cases b; exact h2; exact h1 rfl⟩
  | cons x r => exact ⟨_, rfl, fun b hb => by simp only [List.mem_singleton] at hb; subst hb; exact h2⟩
/-- Nothing is put behind nothing: a list of data, of one's own. -/
theorem app_nil' (sz b d : Nat) (xs : List IV) {H : Hp} (he : Elsz sz xs) (hf : Flat xs) (hb : xs.length * b ≤ 140737488355328) (h0 : 0 < b) (hu : H (.loc d) = .unused) :
    appV sz b d .nil0 (.list xs) H = some (.sl (.loc d) sz 0 xs.length, upd H (.loc d) (.live ⟨sz, immE xs⟩)) := app_nil he hf hb h0 hu
end Go.Am

/- Trees: their values, their sizes; copies. -/
namespace Go.Am
open Go Go.RowKit
abbrev Bs := List UInt8
structure Attr where
  name : Bs
  val : Bs
inductive Tree where
  | mk (text : Bool) (s : Bs) (attrs : List Attr) (kids : List Tree)
def Tree.text : Tree → Bool | .mk t _ _ _ => t
def Tree.s : Tree → Bs | .mk _ s _ _ => s
def Tree.attrs : Tree → List Attr | .mk _ _ a _ => a
def Tree.kids : Tree → List Tree | .mk _ _ _ k => k
def Attr.cs (a : Attr) : List IV := [.str a.name, .str a.val]
def Attr.iv (a : Attr) : IV := .agg a.cs
def ivA (as : List Attr) : List IV := as.map Attr.iv
mutual
def Tree.iv : Tree → IV
  | .mk t s as ks => .agg [.bool t, .str s, .list (ivA as), .list (ivT ks)]
def ivT : List Tree → List IV
  | [] => []
  | x :: r => x.iv :: ivT r
end
def Tree.cs (x : Tree) : List IV := [.bool x.text, .str x.s, .list (ivA x.attrs), .list (ivT x.kids)]
/-- A tree, as it lies in slots. -/
def Tree.av (x : Tree) : AV := .agg [.bool x.text, .str x.s, .list (ivA x.attrs), .list (ivT x.kids)]
theorem Tree.iv_eq (x : Tree) : x.iv = .agg x.cs := by cases x; simp [Tree.iv, Tree.cs, Tree.text, Tree.s, Tree.attrs, Tree.kids]
theorem Tree.cells_eq (x : Tree) : x.iv.cells = x.cs := by rw [Tree.iv_eq]; rfl
theorem Attr.cells_eq (x : Attr) : x.iv.cells = x.cs := rfl
theorem ivT_map : ∀ xs : List Tree, ivT xs = xs.map Tree.iv
  | [] => by simp [ivT]
  | x :: r => by simp [ivT, ivT_map r]
theorem ivT_len (xs : List Tree) : (ivT xs).length = xs.length := by simp [ivT_map]
theorem ivA_len (xs : List Attr) : (ivA xs).length = xs.length := by simp [ivA]
theorem ivT_get (xs : List Tree) (i : Nat) : (ivT xs)[i]? = xs[i]?.map Tree.iv := by simp [ivT_map]
theorem ivA_get (xs : List Attr) (i : Nat) : (ivA xs)[i]? = xs[i]?.map Attr.iv := by simp [ivA]
theorem ivT_app (xs ys : List Tree) : ivT (xs ++ ys) = ivT xs ++ ivT ys := by simp [ivT_map]
theorem elszT (xs : List Tree) : Elsz 4 (ivT xs) := by
  intro x hx
  rw [ivT_map] at hx
  obtain ⟨a, _, rfl⟩ := List.mem_map.1 hx
  rw [a.cells_eq]; rfl
theorem elszA (xs : List Attr) : Elsz 2 (ivA xs) := by
  intro x hx
  obtain ⟨a, _, rfl⟩ := List.mem_map.1 hx
  rfl
theorem Tree.cs_flat (x : Tree) : ∀ z ∈ x.cs, ∀ cs, z ≠ .agg cs := by
  intro z hz cs
  simp only [Tree.cs, List.mem_cons, List.not_mem_nil, or_false] at hz
  rcases hz with rfl | rfl | rfl | rfl <;> simp
theorem flatT (xs : List Tree) : Flat (ivT xs) := by
  intro x hx
  rw [ivT_map] at hx
  obtain ⟨a, _, rfl⟩ := List.mem_map.1 hx
  rw [a.cells_eq]; exact a.cs_flat
theorem flatA (xs : List Attr) : Flat (ivA xs) := by
  intro x hx
  obtain ⟨a, _, rfl⟩ := List.mem_map.1 hx
  intro z hz cs
  simp only [Attr.cells_eq, Attr.cs, List.mem_cons, List.not_mem_nil, or_false] at hz
  rcases hz with rfl | rfl <;> simp
def Attr.wt (a : Attr) : Nat := 1 + a.name.length + a.val.length
def wtA : List Attr → Nat
  | [] => 0
  | a :: r => a.wt + wtA r
mutual
def Tree.wt : Tree → Nat
  | .mk _ s as ks => 1 + s.length + wtA as + wtT ks
def wtT : List Tree → Nat
  | [] => 0
  | x :: r => x.wt + wtT r
end
theorem Tree.wt_eq (x : Tree) : x.wt = 1 + x.s.length + wtA x.attrs + wtT x.kids := by cases x; simp [Tree.wt, Tree.s, Tree.attrs, Tree.kids]
theorem wtA_len : ∀ xs : List Attr, xs.length ≤ wtA xs
  | [] => by simp [wtA]
  | a :: r => by have := wtA_len r; simp [wtA, Attr.wt]; omega
theorem wtT_len : ∀ xs : List Tree, xs.length ≤ wtT xs
  | [] => by simp [wtT]
  | a :: r => by have := wtT_len r; have := a.wt_eq; simp [wtT]; omega
theorem wtT_get : ∀ (xs : List Tree) (i : Nat) (x : Tree), xs[i]? = some x → x.wt ≤ wtT xs
  | [], i, x, h => by simp at h
  | a :: r, 0, x, h => by simp at h; subst h; simp [wtT]
  | a :: r, i + 1, x, h => by have := wtT_get r i x (by simpa using h); simp [wtT]; omega
theorem wtT_app : ∀ xs ys : List Tree, wtT (xs ++ ys) = wtT xs + wtT ys
  | [], ys => by simp [wtT]
  | a :: r, ys => by simp [wtT, wtT_app r ys]; omega
def cCopyTrees (fTree : Nat) : AC :=
(.seq
  (.reg [
    ⟨(some 2), none, (.mov (.c .nil0))⟩])
(.seq
  (.reg [
    ⟨(some 3), none, (.mov (.c .nil0))⟩])
(.gh (.own 3 4)
(.seq
  (.seq
    (.reg [
      ⟨(some 6), none, (.mov (.t 0))⟩,
      ⟨(some 7), none, (.len (.t 6))⟩,
      ⟨(some 8), none, (.mov (.c (.int .i64 0)))⟩])
  (.block 0
    (.loop
      (.seq
        (.reg [
          ⟨(some 9), none, (.bin .lss (.t 8) (.t 7))⟩])
      (.seq
        (.cond (.t 9)
          .skip
          (.exit 0))
      (.seq
        (.block 1
          (.seq
            (.reg [
              ⟨(some 10), none, (.ixa (.t 6) (.t 8) 4)⟩,
              ⟨(some 11), none, (.load (some 4) (.t 10))⟩,
              ⟨(some 5), none, (.new [(.bool false), (.str []), .nil0, .nil0])⟩,
              ⟨none, none, (.store 4 (.t 5) (.t 11))⟩])
          (.reg [
            ⟨(some 12), none, (.mov (.t 3))⟩,
            ⟨(some 13), none, (.load (some 4) (.t 5))⟩,
            ⟨(some 14), none, (.call fTree [(.t 13)])⟩,
            ⟨(some 15), none, (.lits 1 4 [(.bool false), (.str []), .nil0, .nil0] [(0, (.t 14))])⟩,
            ⟨(some 16), none, (.app (.t 12) (.t 15) 4 72)⟩,
            ⟨(some 3), none, (.mov (.t 16))⟩])))
      (.reg [
        ⟨(some 17), none, (.bin .add (.t 8) (.c (.int .i64 1)))⟩,
        ⟨(some 8), none, (.mov (.t 17))⟩])))))))
(.seq
  (.reg [
    ⟨(some 18), none, (.mov (.t 3))⟩,
    ⟨(some 2), none, (.mov (.t 18))⟩])
(.gh (.frz (.loc 3) 2)
.ret))))))
def cCopyTree (fTrees : Nat) : AC :=
(.seq
  (.reg [
    ⟨(some 1), none, (.box (.t 0))⟩,
    ⟨(some 2), none, (.new [(.bool false), (.str []), .nil0, .nil0])⟩])
(.seq
  (.dreg [
    ⟨(some 3), none, (.fld (.t 1) 2)⟩,
    ⟨(some 4), none, (.load none (.t 3))⟩,
    ⟨(some 5), none, (.app (.c .nil0) (.t 4) 2 32)⟩,
    ⟨(some 6), none, (.fld (.t 1) 3)⟩,
    ⟨(some 7), none, (.load none (.t 6))⟩,
    ⟨(some 8), none, (.call fTrees [(.t 7)])⟩,
    ⟨(some 9), none, (.fld (.t 1) 2)⟩,
    ⟨none, none, (.store 1 (.t 9) (.t 5))⟩,
    ⟨(some 10), none, (.fld (.t 1) 3)⟩,
    ⟨none, none, (.store 1 (.t 10) (.t 8))⟩]
    [[], [0], [1], [], [3], [4, 2], [0, 1, 2, 3, 4], [6, 2, 5, 0, 1, 2, 3, 4], [0, 1, 2, 3, 4, 5, 6, 7], [8, 5, 7, 0, 1, 2, 3, 4, 5, 6, 7]]
    [.no, .rw [.loc 1] [], .rw [] [.loc 5], .no, .rw [.loc 1] [], .no, .no, .rw [] [.loc 1], .no, .rw [] [.loc 1]])
(.seq
  (.reg [
    ⟨(some 11), none, (.load (some 4) (.t 1))⟩,
    ⟨none, none, (.store 4 (.t 2) (.t 11))⟩])
(.gh (.frzc (.loc 5) (.loc 2) 2)
.ret))))
def B : Nat := 2 ^ 30
theorem le_max {n : Nat} (h : n ≤ 100) : n ≤ maxLen := Nat.le_trans h (by decide)
theorem pCopyTree {P : Program} {G : Nat → Option (List IV)} {f g : Nat} (hF : compF P G f = some (12, [((some (some 4)), 2)], (cCopyTree g).bare)) (x : Tree) (hx : x.wt ≤ B)
    (hg : PureC P G g [.list (ivT x.kids)] (.list (ivT x.kids))) : PureC P G f [x.av] x.av := by
  refine pure_of_go hF (by simp) (by simp [lbss, AV.lbs, Tree.av]) (by simp [AV.lbs, lbss, Tree.av]) ?_
  have hA : (ivA x.attrs).length ≤ B := by rw [ivA_len]; have := wtA_len x.attrs; have := x.wt_eq; omega
  have hA2 : (ivA x.attrs).length * 32 ≤ 140737488355328 := by unfold B at hA; omega
  unfold cCopyTree
  simp only [↓evs, evp, boxK, ↓a1_still, stillV, ev, argE, List.getD_cons_zero, List.getD_cons_succ, Nat.reduceEqDiff, if_false, if_true, Nat.reduceLT, Nat.reduceLeDiff, Nat.reduceAdd, Nat.reduceMul, true_and, and_true, List.length_map, binV, AV.cells, List.length_cons, List.length_nil, upd_at, Lb.loc.injEq, ↓af_still, ↓af_load, ↓af_store, ↓af_app, ↓af_new, ↓af_box, loadV, storeV, ldV, List.getElem?_cons_zero, List.getElem?_cons_succ, Option.bind_some, Option.map_some, List.map_cons, List.map_nil, Int.natCast_nonneg, Int.toNat_natCast, AV.stb, AV.one, List.all_cons, List.all_nil, Bool.and_self, Bool.and_true, Bool.true_and, List.take_succ_cons, List.take_zero, List.drop_succ_cons, List.drop_zero, List.cons_append, List.nil_append, List.append_nil, List.set_cons_zero, IV.av1, Lb.app, Lb.fresh, fam_loc, fam_par, fam_gen, fam_nest, reduceCtorEq, Bool.false_eq_true, List.take, List.drop, List.mem_cons, List.not_mem_nil, or_false, ptrL, appL, forall_eq, false_implies, implies_true, ev, Hp.none, Nat.le_refl, List.set_cons_succ, fillA, chunks, ivs, AV.iv, mkE, List.replicate_one, List.flatten_cons, List.flatten_nil, Nat.zero_mul, Nat.zero_add, Nat.mul_one, Tree.av]
  refine ⟨le_max (by decide), le_max (by decide), rfl, ?_⟩
  rw [app_nil (elszA _) (flatA _) hA2 (by decide) (by simp [upd_at, Hp.none])]
  simp only [↓evs, evp, boxK, ↓a1_still, stillV, ev, argE, List.getD_cons_zero, List.getD_cons_succ, Nat.reduceEqDiff, if_false, if_true, Nat.reduceLT, Nat.reduceLeDiff, Nat.reduceAdd, Nat.reduceMul, true_and, and_true, List.length_map, binV, AV.cells, List.length_cons, List.length_nil, upd_at, Lb.loc.injEq, ↓af_still, ↓af_load, ↓af_store, ↓af_app, ↓af_new, ↓af_box, loadV, storeV, ldV, List.getElem?_cons_zero, List.getElem?_cons_succ, Option.bind_some, Option.map_some, List.map_cons, List.map_nil, Int.natCast_nonneg, Int.toNat_natCast, AV.stb, AV.one, List.all_cons, List.all_nil, Bool.and_self, Bool.and_true, Bool.true_and, List.take_succ_cons, List.take_zero, List.drop_succ_cons, List.drop_zero, List.cons_append, List.nil_append, List.append_nil, List.set_cons_zero, IV.av1, Lb.app, Lb.fresh, fam_loc, fam_par, fam_gen, fam_nest, reduceCtorEq, Bool.false_eq_true, List.take, List.drop, List.mem_cons, List.not_mem_nil, or_false, ptrL, appL, forall_eq, false_implies, implies_true, ev, Hp.none, Nat.le_refl, List.set_cons_succ, fillA, chunks, ivs, AV.iv, mkE, List.replicate_one, List.flatten_cons, List.flatten_nil, Nat.zero_mul, Nat.zero_add, Nat.mul_one]
  refine puK_in hg ?_
  simp only [↓evs, evp, boxK, ↓a1_still, stillV, ev, argE, List.getD_cons_zero, List.getD_cons_succ, Nat.reduceEqDiff, if_false, if_true, Nat.reduceLT, Nat.reduceLeDiff, Nat.reduceAdd, Nat.reduceMul, true_and, and_true, List.length_map, binV, AV.cells, List.length_cons, List.length_nil, upd_at, Lb.loc.injEq, ↓af_still, ↓af_load, ↓af_store, ↓af_app, ↓af_new, ↓af_box, loadV, storeV, ldV, List.getElem?_cons_zero, List.getElem?_cons_succ, Option.bind_some, Option.map_some, List.map_cons, List.map_nil, Int.natCast_nonneg, Int.toNat_natCast, AV.stb, AV.one, List.all_cons, List.all_nil, Bool.and_self, Bool.and_true, Bool.true_and, List.take_succ_cons, List.take_zero, List.drop_succ_cons, List.drop_zero, List.cons_append, List.nil_append, List.append_nil, List.set_cons_zero, IV.av1, Lb.app, Lb.fresh, fam_loc, fam_par, fam_gen, fam_nest, reduceCtorEq, Bool.false_eq_true, List.take, List.drop, List.mem_cons, List.not_mem_nil, or_false, ptrL, appL, forall_eq, false_implies, implies_true, ev, Hp.none, Nat.le_refl, List.set_cons_succ, fillA, chunks, ivs, AV.iv, mkE, List.replicate_one, List.flatten_cons, List.flatten_nil, Nat.zero_mul, Nat.zero_add, Nat.mul_one]
  refine ⟨2, ivA x.attrs, 0, _, [_, _, _, _], rfl, rfl, rfl, by simp, by omega, flatA _, ?_⟩
  simp only [↓evs, evp, boxK, ↓a1_still, stillV, ev, argE, List.getD_cons_zero, List.getD_cons_succ, Nat.reduceEqDiff, if_false, if_true, Nat.reduceLT, Nat.reduceLeDiff, Nat.reduceAdd, Nat.reduceMul, true_and, and_true, List.length_map, binV, AV.cells, List.length_cons, List.length_nil, upd_at, Lb.loc.injEq, ↓af_still, ↓af_load, ↓af_store, ↓af_app, ↓af_new, ↓af_box, loadV, storeV, ldV, List.getElem?_cons_zero, List.getElem?_cons_succ, Option.bind_some, Option.map_some, List.map_cons, List.map_nil, Int.natCast_nonneg, Int.toNat_natCast, AV.stb, AV.one, List.all_cons, List.all_nil, Bool.and_self, Bool.and_true, Bool.true_and, List.take_succ_cons, List.take_zero, List.drop_succ_cons, List.drop_zero, List.cons_append, List.nil_append, List.append_nil, List.set_cons_zero, IV.av1, Lb.app, Lb.fresh, fam_loc, fam_par, fam_gen, fam_nest, reduceCtorEq, Bool.false_eq_true, List.take, List.drop, List.mem_cons, List.not_mem_nil, or_false, ptrL, appL, forall_eq, false_implies, implies_true, ev, Hp.none, Nat.le_refl, List.set_cons_succ, fillA, chunks, ivs, AV.iv, mkE, List.replicate_one, List.flatten_cons, List.flatten_nil, Nat.zero_mul, Nat.zero_add, Nat.mul_one, List.take_length]
def eCopyTrees (xs : List Tree) (i : Nat) : Env :=
  put (put (put (put Env.any 3 (.sl (.loc 3) 4 0 i)) 6 (.list (ivT xs))) 7 (.int .i64 xs.length)) 8 (.int .i64 i)
theorem pCopyTrees {P : Program} {G : Nat → Option (List IV)} {f g : Nat} (hF : compF P G f = some (19, [(none, 2)], (cCopyTrees g).bare)) (xs : List Tree) (hx : wtT xs ≤ B)
    (hg : ∀ x ∈ xs, PureC P G g [x.av] x.av) : PureC P G f [.list (ivT xs)] (.list (ivT xs)) := by
  refine pure_of_go hF (by simp) (by simp [lbss, AV.lbs]) (by simp [AV.lbs]) ?_
  have hl : xs.length ≤ B := Nat.le_trans (wtT_len xs) hx
  unfold cCopyTrees
  simp only [↓evs, evp, boxK, ↓a1_still, stillV, ev, argE, List.getD_cons_zero, List.getD_cons_succ, Nat.reduceEqDiff, if_false, if_true, Nat.reduceLT, Nat.reduceLeDiff, Nat.reduceAdd, Nat.reduceMul, true_and, and_true, List.length_map, binV, AV.cells, List.length_cons, List.length_nil, upd_at, Lb.loc.injEq, ↓af_still, ↓af_load, ↓af_store, ↓af_app, ↓af_new, ↓af_box, loadV, storeV, ldV, List.getElem?_cons_zero, List.getElem?_cons_succ, Option.bind_some, Option.map_some, List.map_cons, List.map_nil, Int.natCast_nonneg, Int.toNat_natCast, AV.stb, AV.one, List.all_cons, List.all_nil, Bool.and_self, Bool.and_true, Bool.true_and, List.take_succ_cons, List.take_zero, List.drop_succ_cons, List.drop_zero, List.cons_append, List.nil_append, List.append_nil, List.set_cons_zero, IV.av1, Lb.app, Lb.fresh, fam_loc, fam_par, fam_gen, fam_nest, reduceCtorEq, Bool.false_eq_true, List.take, List.drop, List.mem_cons, List.not_mem_nil, or_false, ptrL, appL, forall_eq, false_implies, implies_true, ev, Hp.none, Nat.le_refl, List.set_cons_succ, fillA, chunks, ivs, AV.iv, mkE, List.replicate_one, List.flatten_cons, List.flatten_nil, Nat.zero_mul, Nat.zero_add, Nat.mul_one, ivT_len]
  refine loop_intro (σ := { i : Nat // i ≤ xs.length }) (fun s => eCopyTrees xs s.1) (fun s => upd Hp.none (.loc 3) (.live ⟨4, immE (ivT (xs.take s.1))⟩)) (fun s => xs.length - s.1) ⟨0, by simp⟩ (fun _ => .loc 3) ?_ ?_
  · refine .one ?_ ?_ (by simp [upd_at, immE, ivT]) rfl rfl (nf_upd nf_none)
    · exact we_put rfl (we_put rfl (we_put rfl (we_put rfl (we_any _ _))))
    · exact wm_put (by simp [AV.lbs]) (wm_put (by simp [AV.lbs]) (wm_put (by simp [AV.lbs]) (wm_put (by simp [AV.lbs]) (wm_any _))))
  · rintro ⟨i, hi⟩
    simp only [↓evs, evp, boxK, ↓a1_still, stillV, ev, argE, List.getD_cons_zero, List.getD_cons_succ, Nat.reduceEqDiff, if_false, if_true, Nat.reduceLT, Nat.reduceLeDiff, Nat.reduceAdd, Nat.reduceMul, true_and, and_true, List.length_map, binV, AV.cells, List.length_cons, List.length_nil, upd_at, Lb.loc.injEq, ↓af_still, ↓af_load, ↓af_store, ↓af_app, ↓af_new, ↓af_box, loadV, storeV, ldV, List.getElem?_cons_zero, List.getElem?_cons_succ, Option.bind_some, Option.map_some, List.map_cons, List.map_nil, Int.natCast_nonneg, Int.toNat_natCast, AV.stb, AV.one, List.all_cons, List.all_nil, Bool.and_self, Bool.and_true, Bool.true_and, List.take_succ_cons, List.take_zero, List.drop_succ_cons, List.drop_zero, List.cons_append, List.nil_append, List.append_nil, List.set_cons_zero, IV.av1, Lb.app, Lb.fresh, fam_loc, fam_par, fam_gen, fam_nest, reduceCtorEq, Bool.false_eq_true, List.take, List.drop, List.mem_cons, List.not_mem_nil, or_false, ptrL, appL, forall_eq, false_implies, implies_true, ev, Hp.none, Nat.le_refl, List.set_cons_succ, fillA, chunks, ivs, AV.iv, mkE, List.replicate_one, List.flatten_cons, List.flatten_nil, Nat.zero_mul, Nat.zero_add, Nat.mul_one, eCopyTrees]
    by_cases hlt : i < xs.length
    · rw [show decide ((i : Int) < (xs.length : Int)) = true by simpa using hlt]
      obtain ⟨x, hx1⟩ : ∃ x, xs[i]? = some x := ⟨_, List.getElem?_eq_getElem hlt⟩
      have hw : IntKind.i64.wrap ((i : Int) + 1) = ((i + 1 : Nat) : Int) := wrap64 (by omega) (by unfold B at hl; omega)
      simp only [↓evs, evp, boxK, ↓a1_still, stillV, ev, argE, List.getD_cons_zero, List.getD_cons_succ, Nat.reduceEqDiff, if_false, if_true, Nat.reduceLT, Nat.reduceLeDiff, Nat.reduceAdd, Nat.reduceMul, true_and, and_true, List.length_map, binV, AV.cells, List.length_cons, List.length_nil, upd_at, Lb.loc.injEq, ↓af_still, ↓af_load, ↓af_store, ↓af_app, ↓af_new, ↓af_box, loadV, storeV, ldV, List.getElem?_cons_zero, List.getElem?_cons_succ, Option.bind_some, Option.map_some, List.map_cons, List.map_nil, Int.natCast_nonneg, Int.toNat_natCast, AV.stb, AV.one, List.all_cons, List.all_nil, Bool.and_self, Bool.and_true, Bool.true_and, List.take_succ_cons, List.take_zero, List.drop_succ_cons, List.drop_zero, List.cons_append, List.nil_append, List.append_nil, List.set_cons_zero, IV.av1, Lb.app, Lb.fresh, fam_loc, fam_par, fam_gen, fam_nest, reduceCtorEq, Bool.false_eq_true, List.take, List.drop, List.mem_cons, List.not_mem_nil, or_false, ptrL, appL, forall_eq, false_implies, implies_true, ev, Hp.none, Nat.le_refl, List.set_cons_succ, fillA, chunks, ivs, AV.iv, mkE, List.replicate_one, List.flatten_cons, List.flatten_nil, Nat.zero_mul, Nat.zero_add, Nat.mul_one, ivT_get, hx1, elszT, Tree.cells_eq, Tree.cs]
      refine ⟨le_max (by decide), callT_pure (hg x (List.mem_of_getElem? hx1)) ?_⟩
      simp only [↓evs, evp, boxK, ↓a1_still, stillV, ev, argE, List.getD_cons_zero, List.getD_cons_succ, Nat.reduceEqDiff, if_false, if_true, Nat.reduceLT, Nat.reduceLeDiff, Nat.reduceAdd, Nat.reduceMul, true_and, and_true, List.length_map, binV, AV.cells, List.length_cons, List.length_nil, upd_at, Lb.loc.injEq, ↓af_still, ↓af_load, ↓af_store, ↓af_app, ↓af_new, ↓af_box, loadV, storeV, ldV, List.getElem?_cons_zero, List.getElem?_cons_succ, Option.bind_some, Option.map_some, List.map_cons, List.map_nil, Int.natCast_nonneg, Int.toNat_natCast, AV.stb, AV.one, List.all_cons, List.all_nil, Bool.and_self, Bool.and_true, Bool.true_and, List.take_succ_cons, List.take_zero, List.drop_succ_cons, List.drop_zero, List.cons_append, List.nil_append, List.append_nil, List.set_cons_zero, IV.av1, Lb.app, Lb.fresh, fam_loc, fam_par, fam_gen, fam_nest, reduceCtorEq, Bool.false_eq_true, List.take, List.drop, List.mem_cons, List.not_mem_nil, or_false, ptrL, appL, forall_eq, false_implies, implies_true, ev, Hp.none, Nat.le_refl, List.set_cons_succ, fillA, chunks, ivs, AV.iv, mkE, List.replicate_one, List.flatten_cons, List.flatten_nil, Nat.zero_mul, Nat.zero_add, Nat.mul_one, Tree.av]
      have hi2 : (ivT (xs.take i)).length = i := by rw [ivT_len, List.length_take]; omega
      rw [app_sl (l := .loc 3) (els := immE (ivT (xs.take i))) (by simp [upd_at]) (by simp [immE, hi2]) (xs := [.agg [.bool x.text, .str x.s, .list (ivA x.attrs), .list (ivT x.kids)]]) (by simp [Elsz, IV.cells])
        (by simp [Flat, IV.cells]) (by simp only [List.length_cons, List.length_nil]; unfold B at hl; omega) (by decide) (by simp [Lb.app, Lb.fresh]) (by simp [upd_at, Lb.app, Lb.fresh, Hp.none])]
      simp only [↓evs, evp, boxK, ↓a1_still, stillV, ev, argE, List.getD_cons_zero, List.getD_cons_succ, Nat.reduceEqDiff, if_false, if_true, Nat.reduceLT, Nat.reduceLeDiff, Nat.reduceAdd, Nat.reduceMul, true_and, and_true, List.length_map, binV, AV.cells, List.length_cons, List.length_nil, upd_at, Lb.loc.injEq, ↓af_still, ↓af_load, ↓af_store, ↓af_app, ↓af_new, ↓af_box, loadV, storeV, ldV, List.getElem?_cons_zero, List.getElem?_cons_succ, Option.bind_some, Option.map_some, List.map_cons, List.map_nil, Int.natCast_nonneg, Int.toNat_natCast, AV.stb, AV.one, List.all_cons, List.all_nil, Bool.and_self, Bool.and_true, Bool.true_and, List.take_succ_cons, List.take_zero, List.drop_succ_cons, List.drop_zero, List.cons_append, List.nil_append, List.append_nil, List.set_cons_zero, IV.av1, Lb.app, Lb.fresh, fam_loc, fam_par, fam_gen, fam_nest, reduceCtorEq, Bool.false_eq_true, List.take, List.drop, List.mem_cons, List.not_mem_nil, or_false, ptrL, appL, forall_eq, false_implies, implies_true, ev, Hp.none, Nat.le_refl, List.set_cons_succ, fillA, chunks, ivs, AV.iv, mkE, List.replicate_one, List.flatten_cons, List.flatten_nil, Nat.zero_mul, Nat.zero_add, Nat.mul_one, hw]
      refine ⟨⟨i + 1, hlt⟩, by simp only; omega, fun _ => .loc 16, .one ?_ ?_ ?_ rfl rfl ?_⟩
      · exact we_put rfl (we_put rfl (we_put rfl (we_put rfl (we_any _ _))))
      · exact wm_put (by simp [AV.lbs]) (wm_put (by simp [AV.lbs]) (wm_put (by simp [AV.lbs]) (wm_put (by simp [AV.lbs]) (wm_any _))))
      · have h1 : xs.take (i + 1) = xs.take i ++ [x] := by rw [List.take_add_one, hx1]; rfl
        have h2 : (immE (ivT (xs.take i))).take i = immE (ivT (xs.take i)) := List.take_of_length_le (by simp [immE, hi2])
        simp only [upd_at, if_true, h2]
        rw [h1, ivT_app]
        simp [immE, ivT, Tree.iv_eq, Tree.cs]
      · exact nf_upd (nf_upd (nf_upd (nf_upd (nf_upd nf_none))))
    · rw [show decide ((i : Int) < (xs.length : Int)) = false by simpa using hlt]
      have hi2 : i = xs.length := by omega
      subst hi2
      simp only [↓evs, evp, boxK, ↓a1_still, stillV, ev, argE, List.getD_cons_zero, List.getD_cons_succ, Nat.reduceEqDiff, if_false, if_true, Nat.reduceLT, Nat.reduceLeDiff, Nat.reduceAdd, Nat.reduceMul, true_and, and_true, List.length_map, binV, AV.cells, List.length_cons, List.length_nil, upd_at, Lb.loc.injEq, ↓af_still, ↓af_load, ↓af_store, ↓af_app, ↓af_new, ↓af_box, loadV, storeV, ldV, List.getElem?_cons_zero, List.getElem?_cons_succ, Option.bind_some, Option.map_some, List.map_cons, List.map_nil, Int.natCast_nonneg, Int.toNat_natCast, AV.stb, AV.one, List.all_cons, List.all_nil, Bool.and_self, Bool.and_true, Bool.true_and, List.take_succ_cons, List.take_zero, List.drop_succ_cons, List.drop_zero, List.cons_append, List.nil_append, List.append_nil, List.set_cons_zero, IV.av1, Lb.app, Lb.fresh, fam_loc, fam_par, fam_gen, fam_nest, reduceCtorEq, Bool.false_eq_true, List.take, List.drop, List.mem_cons, List.not_mem_nil, or_false, ptrL, appL, forall_eq, false_implies, implies_true, ev, Hp.none, Nat.le_refl, List.set_cons_succ, fillA, chunks, ivs, AV.iv, mkE, List.replicate_one, List.flatten_cons, List.flatten_nil, Nat.zero_mul, Nat.zero_add, Nat.mul_one]
      refine ⟨4, ivT xs, 0, xs.length, rfl, by simp, by simp [ivT_len], flatT _, ?_⟩
      rw [List.drop_zero, List.take_of_length_le (by simp [ivT_len])]
end Go.Am
