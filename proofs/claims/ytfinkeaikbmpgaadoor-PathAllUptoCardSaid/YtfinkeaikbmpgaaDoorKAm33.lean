import Derived.Test.YtfinkeaikbmpgaaDoorKAm25
import Derived.Test.YtfinkeaikbmpgaaDoorKAm16
set_option linter.unusedSimpArgs false
set_option linter.unusedVariables false
set_option linter.unnecessarySimpa false
set_option linter.defProp false
/- THE ABSTRACT MACHINE, part 33: slices held against nil; loops of calls with pointers. -/
namespace Go.Am
open Go Go.RowKit
inductive Tb (k : Bool → Prop) : Type
  | mk
/-- Whatever is found of what may be nil. -/
def nK (o : Option (List Bool)) (k : Bool → Prop) (_ : Tb k) : Prop := ∃ bs, o = some bs ∧ ∀ b ∈ bs, k b
theorem a1_eqn {S : St} {env : Env} {H : Hp} (d : Option Nat) (n : Bool) (x : O) (k : AV → Hp → Prop) : Act1 S d (.eqn n x) env H k = nK (nilV (ev env x)) (fun b => k (.bool (n ^^ b)) H) .mk := rfl
theorem nK_list {xs : List IV} {k : Bool → Prop} {u : Tb k} (h1 : xs = [] → k true) (h2 : k false) : nK (nilV (.list xs)) k u := by
  cases xs with
  | nil => exact ⟨_, rfl, fun b _ => by cases b; exact h2; exact h1 rfl⟩
  | cons x r => exact ⟨_, rfl, fun b hb => by simp only [List.mem_singleton] at hb; subst hb; exact h2⟩
/-- Nothing is put behind nothing: a list of data, of one's own. -/
theorem app_nil' (sz b d : Nat) (xs : List IV) {H : Hp} (he : Elsz sz xs) (hf : Flat xs) (hb : xs.length * b ≤ 140737488355328) (h0 : 0 < b) (hu : H (.loc d) = .unused) :
    appV sz b d .nil0 (.list xs) H = some (.sl (.loc d) sz 0 xs.length, upd H (.loc d) (.live ⟨sz, immE xs⟩)) := app_nil he hf hb h0 hu
end Go.Am

/- Trees: their values, their sizes; copies. -/
namespace Go.Am
open Go Go.RowKit
abbrev Bs := List UInt8
structure Attr where
  name : Bs
  val : Bs
inductive Tree where
  | mk (text : Bool) (s : Bs) (attrs : List Attr) (kids : List Tree)
def Tree.text : Tree → Bool | .mk t _ _ _ => t
def Tree.s : Tree → Bs | .mk _ s _ _ => s
def Tree.attrs : Tree → List Attr | .mk _ _ a _ => a
def Tree.kids : Tree → List Tree | .mk _ _ _ k => k
def Attr.cs (a : Attr) : List IV := [.str a.name, .str a.val]
def Attr.iv (a : Attr) : IV := .agg a.cs
def ivA (as : List Attr) : List IV := as.map Attr.iv
mutual
def Tree.iv : Tree → IV
  | .mk t s as ks => .agg [.bool t, .str s, .list (ivA as), .list (ivT ks)]
def ivT : List Tree → List IV
  | [] => []
  | x :: r => x.iv :: ivT r
end
def Tree.cs (x : Tree) : List IV := [.bool x.text, .str x.s, .list (ivA x.attrs), .list (ivT x.kids)]
/-- A tree, as it lies in slots. -/
def Tree.av (x : Tree) : AV := .agg [.bool x.text, .str x.s, .list (ivA x.attrs), .list (ivT x.kids)]
theorem Tree.iv_eq (x : Tree) : x.iv = .agg x.cs := by cases x; simp [Tree.iv, Tree.cs, Tree.text, Tree.s, Tree.attrs, Tree.kids]
theorem Tree.cells_eq (x : Tree) : x.iv.cells = x.cs := by rw [Tree.iv_eq]; rfl
theorem Attr.cells_eq (x : Attr) : x.iv.cells = x.cs := rfl
theorem ivT_map : ∀ xs : List Tree, ivT xs = xs.map Tree.iv
  | [] => by simp [ivT]
  | x :: r => by simp [ivT, ivT_map r]
theorem ivT_len (xs : List Tree) : (ivT xs).length = xs.length := by simp [ivT_map]
theorem ivA_len (xs : List Attr) : (ivA xs).length = xs.length := by simp [ivA]
theorem ivT_get (xs : List Tree) (i : Nat) : (ivT xs)[i]? = xs[i]?.map Tree.iv := by simp [ivT_map]
theorem ivA_get (xs : List Attr) (i : Nat) : (ivA xs)[i]? = xs[i]?.map Attr.iv := by simp [ivA]
theorem ivT_app (xs ys : List Tree) : ivT (xs ++ ys) = ivT xs ++ ivT ys := by simp [ivT_map]
theorem elszT (xs : List Tree) : Elsz 4 (ivT xs) := by
  intro x hx
  rw [ivT_map] at hx
  obtain ⟨a, _, rfl⟩ := List.mem_map.1 hx
  rw [a.cells_eq]; rfl
theorem elszA (xs : List Attr) : Elsz 2 (ivA xs) := by
  intro x hx
  obtain ⟨a, _, rfl⟩ := List.mem_map.1 hx
  rfl
theorem Tree.cs_flat (x : Tree) : ∀ z ∈ x.cs, ∀ cs, z ≠ .agg cs := by
  intro z hz cs
  simp only [Tree.cs, List.mem_cons, List.not_mem_nil, or_false] at hz
  rcases hz with rfl | rfl | rfl | rfl <;> simp
theorem flatT (xs : List Tree) : Flat (ivT xs) := by
  intro x hx
  rw [ivT_map] at hx
  obtain ⟨a, _, rfl⟩ := List.mem_map.1 hx
  rw [a.cells_eq]; exact a.cs_flat
theorem flatA (xs : List Attr) : Flat (ivA xs) := by
  intro x hx
  obtain ⟨a, _, rfl⟩ := List.mem_map.1 hx
  intro z hz cs
  simp only [Attr.cells_eq, Attr.cs, List.mem_cons, List.not_mem_nil, or_false] at hz
  rcases hz with rfl | rfl <;> simp
def Attr.wt (a : Attr) : Nat := 1 + a.name.length + a.val.length
def wtA : List Attr → Nat
  | [] => 0
  | a :: r => a.wt + wtA r
mutual
def Tree.wt : Tree → Nat
  | .mk _ s as ks => 1 + s.length + wtA as + wtT ks
def wtT : List Tree → Nat
  | [] => 0
  | x :: r => x.wt + wtT r
end
theorem Tree.wt_eq (x : Tree) : x.wt = 1 + x.s.length + wtA x.attrs + wtT x.kids := by cases x; simp [Tree.wt, Tree.s, Tree.attrs, Tree.kids]
theorem wtA_len : ∀ xs : List Attr, xs.length ≤ wtA xs
  | [] => by simp [wtA]
  | a :: r => by have := wtA_len r; simp [wtA, Attr.wt]; omega
theorem wtT_len : ∀ xs : List Tree, xs.length ≤ wtT xs
  | [] => by simp [wtT]
  | a :: r => by have := wtT_len r; have := a.wt_eq; simp [wtT]; omega
theorem wtT_get : ∀ (xs : List Tree) (i : Nat) (x : Tree), xs[i]? = some x → x.wt ≤ wtT xs
  | [], i, x, h => by simp at h
  | a :: r, 0, x, h => by simp at h; subst h; simp [wtT]
  | a :: r, i + 1, x, h => by have := wtT_get r i x (by simpa using h); simp [wtT]; omega
theorem wtT_app : ∀ xs ys : List Tree, wtT (xs ++ ys) = wtT xs + wtT ys
  | [], ys => by simp [wtT]
  | a :: r, ys => by simp [wtT, wtT_app r ys]; omega
def B : Nat := 2 ^ 30
theorem le_max {n : Nat} (h : n ≤ 100) : n ≤ maxLen := Nat.le_trans h (by decide)
end Go.Am

/- Trees: are they the same? -/
namespace Go.Am
open Go Go.RowKit
theorem Attr.ext {x y : Attr} (h1 : x.name = y.name) (h2 : x.val = y.val) : x = y := by cases x; cases y; simp_all
theorem Tree.ext {x y : Tree} (h1 : x.text = y.text) (h2 : x.s = y.s) (h3 : x.attrs = y.attrs) (h4 : x.kids = y.kids) : x = y := by
  cases x; cases y; simp_all [Tree.text, Tree.s, Tree.attrs, Tree.kids]
end Go.Am

/- Texts and names that are good. -/
namespace Go.Am
open Go Go.RowKit
def plainC (c : UInt8) : Bool := !((((c.toNat : Int) != 10)) && (decide ((c.toNat : Int) < 32) || decide ((c.toNat : Int) > 126)))
def plain (s : Bs) : Bool := s.all plainC && decide ((s.length : Int) ≤ 40)
def cPlain : AC :=
(.seq
  (.reg [
    ⟨(some 2), none, (.mov (.c (.bool false)))⟩])
(.seq
  (.seq
    (.reg [
      ⟨(some 4), none, (.mov (.t 0))⟩,
      ⟨(some 5), none, (.lens (.t 4))⟩,
      ⟨(some 6), none, (.mov (.c (.int .i64 0)))⟩])
  (.block 0
    (.loop
      (.seq
        (.reg [
          ⟨(some 7), none, (.bin .lss (.t 6) (.t 5))⟩])
      (.seq
        (.cond (.t 7)
          .skip
          (.exit 0))
      (.seq
        (.block 1
          (.seq
            (.reg [
              ⟨(some 8), none, (.mov (.t 6))⟩,
              ⟨(some 3), none, (.mov (.t 8))⟩])
          (.seq
            (.reg [
              ⟨(some 9), none, (.mov (.t 0))⟩,
              ⟨(some 10), none, (.mov (.t 3))⟩,
              ⟨(some 11), none, (.ixs (.t 9) (.t 10))⟩,
              ⟨(some 12), none, (.bin .neq (.t 11) (.c (.int .u8 10)))⟩,
              ⟨(some 13), none, (.mov (.t 12))⟩,
              ⟨(some 14), (some (13, true)), (.mov (.t 0))⟩,
              ⟨(some 15), (some (13, true)), (.mov (.t 3))⟩,
              ⟨(some 16), (some (13, true)), (.ixs (.t 14) (.t 15))⟩,
              ⟨(some 17), (some (13, true)), (.bin .lss (.t 16) (.c (.int .u8 32)))⟩,
              ⟨(some 18), (some (13, true)), (.mov (.t 17))⟩,
              ⟨(some 19), (some (18, false)), (.mov (.t 0))⟩,
              ⟨(some 20), (some (18, false)), (.mov (.t 3))⟩,
              ⟨(some 21), (some (18, false)), (.ixs (.t 19) (.t 20))⟩,
              ⟨(some 22), (some (18, false)), (.bin .gtr (.t 21) (.c (.int .u8 126)))⟩,
              ⟨(some 23), (some (13, true)), (.pick (.t 18) (.c (.bool true)) (.t 22))⟩,
              ⟨(some 24), none, (.pick (.t 13) (.t 23) (.c (.bool false)))⟩])
          (.cond (.t 24)
            (.seq
              (.reg [
                ⟨(some 2), none, (.mov (.c (.bool false)))⟩])
            .ret)
            .skip))))
      (.reg [
        ⟨(some 25), none, (.bin .add (.t 6) (.c (.int .i64 1)))⟩,
        ⟨(some 6), none, (.mov (.t 25))⟩])))))))
(.seq
  (.reg [
    ⟨(some 26), none, (.mov (.t 0))⟩,
    ⟨(some 27), none, (.lens (.t 26))⟩,
    ⟨(some 28), none, (.bin .leq (.t 27) (.c (.int .i64 40)))⟩,
    ⟨(some 2), none, (.mov (.t 28))⟩])
.ret)))
def ePlain (s : Bs) (i : Nat) : Env := put (put (put Env.any 0 (.str s)) 5 (.int .i64 s.length)) 6 (.int .i64 i)
theorem all_take {p : UInt8 → Bool} {s : Bs} {i : Nat} {c : UInt8} (h : (s.take i).all p = true) (hc : s[i]? = some c) (hp : p c = true) : (s.take (i + 1)).all p = true := by
  rw [List.take_add_one, hc]; simp [h, hp]
theorem all_not {p : UInt8 → Bool} {s : Bs} {i : Nat} {c : UInt8} (hc : s[i]? = some c) (hp : p c = false) : s.all p = false := by
  cases h : s.all p with
  | false => rfl
  | true =>
    have := List.all_eq_true.1 h c (List.mem_of_getElem? hc)
    rw [hp] at this; exact this.symm
theorem pPlain {P : Program} {G : Nat → Option (List IV)} {f : Nat} (hF : compF P G f = some (29, [(none, 2)], cPlain.bare)) (s : Bs) (hx : s.length ≤ B) :
    PureC P G f [.str s] (.bool (plain s)) := by
  refine pure_of_go hF (by simp) (by simp [lbss, AV.lbs]) (by simp [AV.lbs]) ?_
  unfold cPlain
  simp only [↓evs, evp, boxK, ↓a1_still, stillV, ev, argE, List.getD_cons_zero, List.getD_cons_succ, Nat.reduceEqDiff, if_false, if_true, Nat.reduceLT, Nat.reduceLeDiff, Nat.reduceAdd, Nat.reduceMul, true_and, and_true, List.length_map, binV, AV.cells, List.length_cons, List.length_nil, upd_at, Lb.loc.injEq, ↓af_still, ↓af_load, ↓af_store, ↓af_app, ↓af_new, ↓af_box, loadV, storeV, ldV, List.getElem?_cons_zero, List.getElem?_cons_succ, Option.bind_some, Option.map_some, List.map_cons, List.map_nil, Int.natCast_nonneg, Int.toNat_natCast, AV.stb, AV.one, List.all_cons, List.all_nil, Bool.and_self, Bool.and_true, Bool.true_and, List.take_succ_cons, List.take_zero, List.drop_succ_cons, List.drop_zero, List.cons_append, List.nil_append, List.append_nil, List.set_cons_zero, IV.av1, Lb.app, Lb.fresh, fam_loc, fam_par, fam_gen, fam_nest, reduceCtorEq, Bool.false_eq_true, List.take, List.drop, List.mem_cons, List.not_mem_nil, or_false, ptrL, appL, forall_eq, false_implies, implies_true, ev, Hp.none, Nat.le_refl, List.set_cons_succ, fillA, chunks, ivs, AV.iv, mkE, List.replicate_one, List.flatten_cons, List.flatten_nil, Nat.zero_mul, Nat.zero_add, Nat.mul_one]
  refine loop_intro (σ := { i : Nat // i ≤ s.length ∧ (s.take i).all plainC = true }) (fun q => ePlain s q.1) (fun _ => Hp.none) (fun q => s.length - q.1) ⟨0, by simp⟩ id ?_ ?_
  · refine .none ?_ ?_
    · exact we_put rfl (we_put rfl (we_put rfl (we_any _ _)))
    · exact wm_put (by simp [AV.lbs]) (wm_put (by simp [AV.lbs]) (wm_put (by simp [AV.lbs]) (wm_any _)))
  · rintro ⟨i, hi, hs⟩
    simp only [↓evs, evp, boxK, ↓a1_still, stillV, ev, argE, List.getD_cons_zero, List.getD_cons_succ, Nat.reduceEqDiff, if_false, if_true, Nat.reduceLT, Nat.reduceLeDiff, Nat.reduceAdd, Nat.reduceMul, true_and, and_true, List.length_map, binV, AV.cells, List.length_cons, List.length_nil, upd_at, Lb.loc.injEq, ↓af_still, ↓af_load, ↓af_store, ↓af_app, ↓af_new, ↓af_box, loadV, storeV, ldV, List.getElem?_cons_zero, List.getElem?_cons_succ, Option.bind_some, Option.map_some, List.map_cons, List.map_nil, Int.natCast_nonneg, Int.toNat_natCast, AV.stb, AV.one, List.all_cons, List.all_nil, Bool.and_self, Bool.and_true, Bool.true_and, List.take_succ_cons, List.take_zero, List.drop_succ_cons, List.drop_zero, List.cons_append, List.nil_append, List.append_nil, List.set_cons_zero, IV.av1, Lb.app, Lb.fresh, fam_loc, fam_par, fam_gen, fam_nest, reduceCtorEq, Bool.false_eq_true, List.take, List.drop, List.mem_cons, List.not_mem_nil, or_false, ptrL, appL, forall_eq, false_implies, implies_true, ev, Hp.none, Nat.le_refl, List.set_cons_succ, fillA, chunks, ivs, AV.iv, mkE, List.replicate_one, List.flatten_cons, List.flatten_nil, Nat.zero_mul, Nat.zero_add, Nat.mul_one, ePlain]
    by_cases hlt : i < s.length
    · rw [show decide ((i : Int) < (s.length : Int)) = true by simpa using hlt]
      obtain ⟨c, hc⟩ : ∃ c, s[i]? = some c := ⟨_, List.getElem?_eq_getElem hlt⟩
      have hw : IntKind.i64.wrap ((i : Int) + 1) = ((i + 1 : Nat) : Int) := wrap64 (by omega) (by unfold B at hx; omega)
      have next : plainC c = true → ∃ q : { i : Nat // i ≤ s.length ∧ (s.take i).all plainC = true }, q.1 = i + 1 := fun hp => ⟨⟨i + 1, hlt, all_take hs hc hp⟩, rfl⟩
      simp only [↓evs, evp, boxK, ↓a1_still, stillV, ev, argE, List.getD_cons_zero, List.getD_cons_succ, Nat.reduceEqDiff, if_false, if_true, Nat.reduceLT, Nat.reduceLeDiff, Nat.reduceAdd, Nat.reduceMul, true_and, and_true, List.length_map, binV, AV.cells, List.length_cons, List.length_nil, upd_at, Lb.loc.injEq, ↓af_still, ↓af_load, ↓af_store, ↓af_app, ↓af_new, ↓af_box, loadV, storeV, ldV, List.getElem?_cons_zero, List.getElem?_cons_succ, Option.bind_some, Option.map_some, List.map_cons, List.map_nil, Int.natCast_nonneg, Int.toNat_natCast, AV.stb, AV.one, List.all_cons, List.all_nil, Bool.and_self, Bool.and_true, Bool.true_and, List.take_succ_cons, List.take_zero, List.drop_succ_cons, List.drop_zero, List.cons_append, List.nil_append, List.append_nil, List.set_cons_zero, IV.av1, Lb.app, Lb.fresh, fam_loc, fam_par, fam_gen, fam_nest, reduceCtorEq, Bool.false_eq_true, List.take, List.drop, List.mem_cons, List.not_mem_nil, or_false, ptrL, appL, forall_eq, false_implies, implies_true, ev, Hp.none, Nat.le_refl, List.set_cons_succ, fillA, chunks, ivs, AV.iv, mkE, List.replicate_one, List.flatten_cons, List.flatten_nil, Nat.zero_mul, Nat.zero_add, Nat.mul_one, hc]
      cases h1 : ((c.toNat : Int) != 10) with
      | false =>
        obtain ⟨q, hq⟩ := next (by simp [plainC, h1])
        simp only [↓evs, evp, boxK, ↓a1_still, stillV, ev, argE, List.getD_cons_zero, List.getD_cons_succ, Nat.reduceEqDiff, if_false, if_true, Nat.reduceLT, Nat.reduceLeDiff, Nat.reduceAdd, Nat.reduceMul, true_and, and_true, List.length_map, binV, AV.cells, List.length_cons, List.length_nil, upd_at, Lb.loc.injEq, ↓af_still, ↓af_load, ↓af_store, ↓af_app, ↓af_new, ↓af_box, loadV, storeV, ldV, List.getElem?_cons_zero, List.getElem?_cons_succ, Option.bind_some, Option.map_some, List.map_cons, List.map_nil, Int.natCast_nonneg, Int.toNat_natCast, AV.stb, AV.one, List.all_cons, List.all_nil, Bool.and_self, Bool.and_true, Bool.true_and, List.take_succ_cons, List.take_zero, List.drop_succ_cons, List.drop_zero, List.cons_append, List.nil_append, List.append_nil, List.set_cons_zero, IV.av1, Lb.app, Lb.fresh, fam_loc, fam_par, fam_gen, fam_nest, reduceCtorEq, Bool.false_eq_true, List.take, List.drop, List.mem_cons, List.not_mem_nil, or_false, ptrL, appL, forall_eq, false_implies, implies_true, ev, Hp.none, Nat.le_refl, List.set_cons_succ, fillA, chunks, ivs, AV.iv, mkE, List.replicate_one, List.flatten_cons, List.flatten_nil, Nat.zero_mul, Nat.zero_add, Nat.mul_one, hc, hw]
        refine ⟨q, by omega, id, .none ?_ ?_⟩
        · rw [hq]; exact we_put rfl (we_put rfl (we_put rfl (we_any _ _)))
        · exact wm_put (by simp [AV.lbs]) (wm_put (by simp [AV.lbs]) (wm_put (by simp [AV.lbs]) (wm_any _)))
      | true =>
        simp only [↓evs, evp, boxK, ↓a1_still, stillV, ev, argE, List.getD_cons_zero, List.getD_cons_succ, Nat.reduceEqDiff, if_false, if_true, Nat.reduceLT, Nat.reduceLeDiff, Nat.reduceAdd, Nat.reduceMul, true_and, and_true, List.length_map, binV, AV.cells, List.length_cons, List.length_nil, upd_at, Lb.loc.injEq, ↓af_still, ↓af_load, ↓af_store, ↓af_app, ↓af_new, ↓af_box, loadV, storeV, ldV, List.getElem?_cons_zero, List.getElem?_cons_succ, Option.bind_some, Option.map_some, List.map_cons, List.map_nil, Int.natCast_nonneg, Int.toNat_natCast, AV.stb, AV.one, List.all_cons, List.all_nil, Bool.and_self, Bool.and_true, Bool.true_and, List.take_succ_cons, List.take_zero, List.drop_succ_cons, List.drop_zero, List.cons_append, List.nil_append, List.append_nil, List.set_cons_zero, IV.av1, Lb.app, Lb.fresh, fam_loc, fam_par, fam_gen, fam_nest, reduceCtorEq, Bool.false_eq_true, List.take, List.drop, List.mem_cons, List.not_mem_nil, or_false, ptrL, appL, forall_eq, false_implies, implies_true, ev, Hp.none, Nat.le_refl, List.set_cons_succ, fillA, chunks, ivs, AV.iv, mkE, List.replicate_one, List.flatten_cons, List.flatten_nil, Nat.zero_mul, Nat.zero_add, Nat.mul_one, hc]
        cases h2 : decide ((c.toNat : Int) < 32) with
        | true =>
          simp only [↓evs, evp, boxK, ↓a1_still, stillV, ev, argE, List.getD_cons_zero, List.getD_cons_succ, Nat.reduceEqDiff, if_false, if_true, Nat.reduceLT, Nat.reduceLeDiff, Nat.reduceAdd, Nat.reduceMul, true_and, and_true, List.length_map, binV, AV.cells, List.length_cons, List.length_nil, upd_at, Lb.loc.injEq, ↓af_still, ↓af_load, ↓af_store, ↓af_app, ↓af_new, ↓af_box, loadV, storeV, ldV, List.getElem?_cons_zero, List.getElem?_cons_succ, Option.bind_some, Option.map_some, List.map_cons, List.map_nil, Int.natCast_nonneg, Int.toNat_natCast, AV.stb, AV.one, List.all_cons, List.all_nil, Bool.and_self, Bool.and_true, Bool.true_and, List.take_succ_cons, List.take_zero, List.drop_succ_cons, List.drop_zero, List.cons_append, List.nil_append, List.append_nil, List.set_cons_zero, IV.av1, Lb.app, Lb.fresh, fam_loc, fam_par, fam_gen, fam_nest, reduceCtorEq, Bool.false_eq_true, List.take, List.drop, List.mem_cons, List.not_mem_nil, or_false, ptrL, appL, forall_eq, false_implies, implies_true, ev, Hp.none, Nat.le_refl, List.set_cons_succ, fillA, chunks, ivs, AV.iv, mkE, List.replicate_one, List.flatten_cons, List.flatten_nil, Nat.zero_mul, Nat.zero_add, Nat.mul_one, hc]
          rw [plain, all_not hc (by simp [plainC, h1, h2])]; rfl
        | false =>
          simp only [↓evs, evp, boxK, ↓a1_still, stillV, ev, argE, List.getD_cons_zero, List.getD_cons_succ, Nat.reduceEqDiff, if_false, if_true, Nat.reduceLT, Nat.reduceLeDiff, Nat.reduceAdd, Nat.reduceMul, true_and, and_true, List.length_map, binV, AV.cells, List.length_cons, List.length_nil, upd_at, Lb.loc.injEq, ↓af_still, ↓af_load, ↓af_store, ↓af_app, ↓af_new, ↓af_box, loadV, storeV, ldV, List.getElem?_cons_zero, List.getElem?_cons_succ, Option.bind_some, Option.map_some, List.map_cons, List.map_nil, Int.natCast_nonneg, Int.toNat_natCast, AV.stb, AV.one, List.all_cons, List.all_nil, Bool.and_self, Bool.and_true, Bool.true_and, List.take_succ_cons, List.take_zero, List.drop_succ_cons, List.drop_zero, List.cons_append, List.nil_append, List.append_nil, List.set_cons_zero, IV.av1, Lb.app, Lb.fresh, fam_loc, fam_par, fam_gen, fam_nest, reduceCtorEq, Bool.false_eq_true, List.take, List.drop, List.mem_cons, List.not_mem_nil, or_false, ptrL, appL, forall_eq, false_implies, implies_true, ev, Hp.none, Nat.le_refl, List.set_cons_succ, fillA, chunks, ivs, AV.iv, mkE, List.replicate_one, List.flatten_cons, List.flatten_nil, Nat.zero_mul, Nat.zero_add, Nat.mul_one, hc]
          cases h3 : decide ((c.toNat : Int) > 126) with
          | true =>
            simp only [↓evs, evp, boxK, ↓a1_still, stillV, ev, argE, List.getD_cons_zero, List.getD_cons_succ, Nat.reduceEqDiff, if_false, if_true, Nat.reduceLT, Nat.reduceLeDiff, Nat.reduceAdd, Nat.reduceMul, true_and, and_true, List.length_map, binV, AV.cells, List.length_cons, List.length_nil, upd_at, Lb.loc.injEq, ↓af_still, ↓af_load, ↓af_store, ↓af_app, ↓af_new, ↓af_box, loadV, storeV, ldV, List.getElem?_cons_zero, List.getElem?_cons_succ, Option.bind_some, Option.map_some, List.map_cons, List.map_nil, Int.natCast_nonneg, Int.toNat_natCast, AV.stb, AV.one, List.all_cons, List.all_nil, Bool.and_self, Bool.and_true, Bool.true_and, List.take_succ_cons, List.take_zero, List.drop_succ_cons, List.drop_zero, List.cons_append, List.nil_append, List.append_nil, List.set_cons_zero, IV.av1, Lb.app, Lb.fresh, fam_loc, fam_par, fam_gen, fam_nest, reduceCtorEq, Bool.false_eq_true, List.take, List.drop, List.mem_cons, List.not_mem_nil, or_false, ptrL, appL, forall_eq, false_implies, implies_true, ev, Hp.none, Nat.le_refl, List.set_cons_succ, fillA, chunks, ivs, AV.iv, mkE, List.replicate_one, List.flatten_cons, List.flatten_nil, Nat.zero_mul, Nat.zero_add, Nat.mul_one, hc]
            rw [plain, all_not hc (by simp [plainC, h1, h2, h3])]; rfl
          | false =>
            obtain ⟨q, hq⟩ := next (by simp [plainC, h1, h2, h3])
            simp only [↓evs, evp, boxK, ↓a1_still, stillV, ev, argE, List.getD_cons_zero, List.getD_cons_succ, Nat.reduceEqDiff, if_false, if_true, Nat.reduceLT, Nat.reduceLeDiff, Nat.reduceAdd, Nat.reduceMul, true_and, and_true, List.length_map, binV, AV.cells, List.length_cons, List.length_nil, upd_at, Lb.loc.injEq, ↓af_still, ↓af_load, ↓af_store, ↓af_app, ↓af_new, ↓af_box, loadV, storeV, ldV, List.getElem?_cons_zero, List.getElem?_cons_succ, Option.bind_some, Option.map_some, List.map_cons, List.map_nil, Int.natCast_nonneg, Int.toNat_natCast, AV.stb, AV.one, List.all_cons, List.all_nil, Bool.and_self, Bool.and_true, Bool.true_and, List.take_succ_cons, List.take_zero, List.drop_succ_cons, List.drop_zero, List.cons_append, List.nil_append, List.append_nil, List.set_cons_zero, IV.av1, Lb.app, Lb.fresh, fam_loc, fam_par, fam_gen, fam_nest, reduceCtorEq, Bool.false_eq_true, List.take, List.drop, List.mem_cons, List.not_mem_nil, or_false, ptrL, appL, forall_eq, false_implies, implies_true, ev, Hp.none, Nat.le_refl, List.set_cons_succ, fillA, chunks, ivs, AV.iv, mkE, List.replicate_one, List.flatten_cons, List.flatten_nil, Nat.zero_mul, Nat.zero_add, Nat.mul_one, hc, hw]
            refine ⟨q, by omega, id, .none ?_ ?_⟩
            · rw [hq]; exact we_put rfl (we_put rfl (we_put rfl (we_any _ _)))
            · exact wm_put (by simp [AV.lbs]) (wm_put (by simp [AV.lbs]) (wm_put (by simp [AV.lbs]) (wm_any _)))
    · rw [show decide ((i : Int) < (s.length : Int)) = false by simpa using hlt]
      simp only [↓evs, evp, boxK, ↓a1_still, stillV, ev, argE, List.getD_cons_zero, List.getD_cons_succ, Nat.reduceEqDiff, if_false, if_true, Nat.reduceLT, Nat.reduceLeDiff, Nat.reduceAdd, Nat.reduceMul, true_and, and_true, List.length_map, binV, AV.cells, List.length_cons, List.length_nil, upd_at, Lb.loc.injEq, ↓af_still, ↓af_load, ↓af_store, ↓af_app, ↓af_new, ↓af_box, loadV, storeV, ldV, List.getElem?_cons_zero, List.getElem?_cons_succ, Option.bind_some, Option.map_some, List.map_cons, List.map_nil, Int.natCast_nonneg, Int.toNat_natCast, AV.stb, AV.one, List.all_cons, List.all_nil, Bool.and_self, Bool.and_true, Bool.true_and, List.take_succ_cons, List.take_zero, List.drop_succ_cons, List.drop_zero, List.cons_append, List.nil_append, List.append_nil, List.set_cons_zero, IV.av1, Lb.app, Lb.fresh, fam_loc, fam_par, fam_gen, fam_nest, reduceCtorEq, Bool.false_eq_true, List.take, List.drop, List.mem_cons, List.not_mem_nil, or_false, ptrL, appL, forall_eq, false_implies, implies_true, ev, Hp.none, Nat.le_refl, List.set_cons_succ, fillA, chunks, ivs, AV.iv, mkE, List.replicate_one, List.flatten_cons, List.flatten_nil, Nat.zero_mul, Nat.zero_add, Nat.mul_one]
      have : s.take i = s := List.take_of_length_le (by omega)
      rw [plain, ← this, hs, this]; rfl
def nameC (c : UInt8) : Bool := !(decide ((c.toNat : Int) < 97) || decide ((c.toNat : Int) > 122))
def named (s : Bs) : Bool := s.all nameC && (decide ((s.length : Int) ≥ 1) && decide ((s.length : Int) ≤ 8))
def cNamed : AC :=
(.seq
  (.reg [
    ⟨(some 2), none, (.mov (.c (.bool false)))⟩])
(.seq
  (.seq
    (.reg [
      ⟨(some 4), none, (.mov (.t 0))⟩,
      ⟨(some 5), none, (.lens (.t 4))⟩,
      ⟨(some 6), none, (.mov (.c (.int .i64 0)))⟩])
  (.block 0
    (.loop
      (.seq
        (.reg [
          ⟨(some 7), none, (.bin .lss (.t 6) (.t 5))⟩])
      (.seq
        (.cond (.t 7)
          .skip
          (.exit 0))
      (.seq
        (.block 1
          (.seq
            (.reg [
              ⟨(some 8), none, (.mov (.t 6))⟩,
              ⟨(some 3), none, (.mov (.t 8))⟩])
          (.seq
            (.reg [
              ⟨(some 9), none, (.mov (.t 0))⟩,
              ⟨(some 10), none, (.mov (.t 3))⟩,
              ⟨(some 11), none, (.ixs (.t 9) (.t 10))⟩,
              ⟨(some 12), none, (.bin .lss (.t 11) (.c (.int .u8 97)))⟩,
              ⟨(some 13), none, (.mov (.t 12))⟩,
              ⟨(some 14), (some (13, false)), (.mov (.t 0))⟩,
              ⟨(some 15), (some (13, false)), (.mov (.t 3))⟩,
              ⟨(some 16), (some (13, false)), (.ixs (.t 14) (.t 15))⟩,
              ⟨(some 17), (some (13, false)), (.bin .gtr (.t 16) (.c (.int .u8 122)))⟩,
              ⟨(some 18), none, (.pick (.t 13) (.c (.bool true)) (.t 17))⟩])
          (.cond (.t 18)
            (.seq
              (.reg [
                ⟨(some 2), none, (.mov (.c (.bool false)))⟩])
            .ret)
            .skip))))
      (.reg [
        ⟨(some 19), none, (.bin .add (.t 6) (.c (.int .i64 1)))⟩,
        ⟨(some 6), none, (.mov (.t 19))⟩])))))))
(.seq
  (.reg [
    ⟨(some 20), none, (.mov (.t 0))⟩,
    ⟨(some 21), none, (.lens (.t 20))⟩,
    ⟨(some 22), none, (.bin .geq (.t 21) (.c (.int .i64 1)))⟩,
    ⟨(some 23), none, (.mov (.t 22))⟩,
    ⟨(some 24), (some (23, true)), (.mov (.t 0))⟩,
    ⟨(some 25), (some (23, true)), (.lens (.t 24))⟩,
    ⟨(some 26), (some (23, true)), (.bin .leq (.t 25) (.c (.int .i64 8)))⟩,
    ⟨(some 27), none, (.pick (.t 23) (.t 26) (.c (.bool false)))⟩,
    ⟨(some 2), none, (.mov (.t 27))⟩])
.ret)))
theorem pNamed {P : Program} {G : Nat → Option (List IV)} {f : Nat} (hF : compF P G f = some (28, [(none, 2)], cNamed.bare)) (s : Bs) (hx : s.length ≤ B) :
    PureC P G f [.str s] (.bool (named s)) := by
  refine pure_of_go hF (by simp) (by simp [lbss, AV.lbs]) (by simp [AV.lbs]) ?_
  unfold cNamed
  simp only [↓evs, evp, boxK, ↓a1_still, stillV, ev, argE, List.getD_cons_zero, List.getD_cons_succ, Nat.reduceEqDiff, if_false, if_true, Nat.reduceLT, Nat.reduceLeDiff, Nat.reduceAdd, Nat.reduceMul, true_and, and_true, List.length_map, binV, AV.cells, List.length_cons, List.length_nil, upd_at, Lb.loc.injEq, ↓af_still, ↓af_load, ↓af_store, ↓af_app, ↓af_new, ↓af_box, loadV, storeV, ldV, List.getElem?_cons_zero, List.getElem?_cons_succ, Option.bind_some, Option.map_some, List.map_cons, List.map_nil, Int.natCast_nonneg, Int.toNat_natCast, AV.stb, AV.one, List.all_cons, List.all_nil, Bool.and_self, Bool.and_true, Bool.true_and, List.take_succ_cons, List.take_zero, List.drop_succ_cons, List.drop_zero, List.cons_append, List.nil_append, List.append_nil, List.set_cons_zero, IV.av1, Lb.app, Lb.fresh, fam_loc, fam_par, fam_gen, fam_nest, reduceCtorEq, Bool.false_eq_true, List.take, List.drop, List.mem_cons, List.not_mem_nil, or_false, ptrL, appL, forall_eq, false_implies, implies_true, ev, Hp.none, Nat.le_refl, List.set_cons_succ, fillA, chunks, ivs, AV.iv, mkE, List.replicate_one, List.flatten_cons, List.flatten_nil, Nat.zero_mul, Nat.zero_add, Nat.mul_one]
  refine loop_intro (σ := { i : Nat // i ≤ s.length ∧ (s.take i).all nameC = true }) (fun q => ePlain s q.1) (fun _ => Hp.none) (fun q => s.length - q.1) ⟨0, by simp⟩ id ?_ ?_
  · refine .none ?_ ?_
    · exact we_put rfl (we_put rfl (we_put rfl (we_any _ _)))
    · exact wm_put (by simp [AV.lbs]) (wm_put (by simp [AV.lbs]) (wm_put (by simp [AV.lbs]) (wm_any _)))
  · rintro ⟨i, hi, hs⟩
    simp only [↓evs, evp, boxK, ↓a1_still, stillV, ev, argE, List.getD_cons_zero, List.getD_cons_succ, Nat.reduceEqDiff, if_false, if_true, Nat.reduceLT, Nat.reduceLeDiff, Nat.reduceAdd, Nat.reduceMul, true_and, and_true, List.length_map, binV, AV.cells, List.length_cons, List.length_nil, upd_at, Lb.loc.injEq, ↓af_still, ↓af_load, ↓af_store, ↓af_app, ↓af_new, ↓af_box, loadV, storeV, ldV, List.getElem?_cons_zero, List.getElem?_cons_succ, Option.bind_some, Option.map_some, List.map_cons, List.map_nil, Int.natCast_nonneg, Int.toNat_natCast, AV.stb, AV.one, List.all_cons, List.all_nil, Bool.and_self, Bool.and_true, Bool.true_and, List.take_succ_cons, List.take_zero, List.drop_succ_cons, List.drop_zero, List.cons_append, List.nil_append, List.append_nil, List.set_cons_zero, IV.av1, Lb.app, Lb.fresh, fam_loc, fam_par, fam_gen, fam_nest, reduceCtorEq, Bool.false_eq_true, List.take, List.drop, List.mem_cons, List.not_mem_nil, or_false, ptrL, appL, forall_eq, false_implies, implies_true, ev, Hp.none, Nat.le_refl, List.set_cons_succ, fillA, chunks, ivs, AV.iv, mkE, List.replicate_one, List.flatten_cons, List.flatten_nil, Nat.zero_mul, Nat.zero_add, Nat.mul_one, ePlain]
    by_cases hlt : i < s.length
    · rw [show decide ((i : Int) < (s.length : Int)) = true by simpa using hlt]
      obtain ⟨c, hc⟩ : ∃ c, s[i]? = some c := ⟨_, List.getElem?_eq_getElem hlt⟩
      have hw : IntKind.i64.wrap ((i : Int) + 1) = ((i + 1 : Nat) : Int) := wrap64 (by omega) (by unfold B at hx; omega)
      have next : nameC c = true → ∃ q : { i : Nat // i ≤ s.length ∧ (s.take i).all nameC = true }, q.1 = i + 1 := fun hp => ⟨⟨i + 1, hlt, all_take hs hc hp⟩, rfl⟩
      simp only [↓evs, evp, boxK, ↓a1_still, stillV, ev, argE, List.getD_cons_zero, List.getD_cons_succ, Nat.reduceEqDiff, if_false, if_true, Nat.reduceLT, Nat.reduceLeDiff, Nat.reduceAdd, Nat.reduceMul, true_and, and_true, List.length_map, binV, AV.cells, List.length_cons, List.length_nil, upd_at, Lb.loc.injEq, ↓af_still, ↓af_load, ↓af_store, ↓af_app, ↓af_new, ↓af_box, loadV, storeV, ldV, List.getElem?_cons_zero, List.getElem?_cons_succ, Option.bind_some, Option.map_some, List.map_cons, List.map_nil, Int.natCast_nonneg, Int.toNat_natCast, AV.stb, AV.one, List.all_cons, List.all_nil, Bool.and_self, Bool.and_true, Bool.true_and, List.take_succ_cons, List.take_zero, List.drop_succ_cons, List.drop_zero, List.cons_append, List.nil_append, List.append_nil, List.set_cons_zero, IV.av1, Lb.app, Lb.fresh, fam_loc, fam_par, fam_gen, fam_nest, reduceCtorEq, Bool.false_eq_true, List.take, List.drop, List.mem_cons, List.not_mem_nil, or_false, ptrL, appL, forall_eq, false_implies, implies_true, ev, Hp.none, Nat.le_refl, List.set_cons_succ, fillA, chunks, ivs, AV.iv, mkE, List.replicate_one, List.flatten_cons, List.flatten_nil, Nat.zero_mul, Nat.zero_add, Nat.mul_one, hc]
      cases h1 : decide ((c.toNat : Int) < 97) with
      | true =>
        simp only [↓evs, evp, boxK, ↓a1_still, stillV, ev, argE, List.getD_cons_zero, List.getD_cons_succ, Nat.reduceEqDiff, if_false, if_true, Nat.reduceLT, Nat.reduceLeDiff, Nat.reduceAdd, Nat.reduceMul, true_and, and_true, List.length_map, binV, AV.cells, List.length_cons, List.length_nil, upd_at, Lb.loc.injEq, ↓af_still, ↓af_load, ↓af_store, ↓af_app, ↓af_new, ↓af_box, loadV, storeV, ldV, List.getElem?_cons_zero, List.getElem?_cons_succ, Option.bind_some, Option.map_some, List.map_cons, List.map_nil, Int.natCast_nonneg, Int.toNat_natCast, AV.stb, AV.one, List.all_cons, List.all_nil, Bool.and_self, Bool.and_true, Bool.true_and, List.take_succ_cons, List.take_zero, List.drop_succ_cons, List.drop_zero, List.cons_append, List.nil_append, List.append_nil, List.set_cons_zero, IV.av1, Lb.app, Lb.fresh, fam_loc, fam_par, fam_gen, fam_nest, reduceCtorEq, Bool.false_eq_true, List.take, List.drop, List.mem_cons, List.not_mem_nil, or_false, ptrL, appL, forall_eq, false_implies, implies_true, ev, Hp.none, Nat.le_refl, List.set_cons_succ, fillA, chunks, ivs, AV.iv, mkE, List.replicate_one, List.flatten_cons, List.flatten_nil, Nat.zero_mul, Nat.zero_add, Nat.mul_one, hc]
        rw [named, all_not hc (by simp [nameC, h1])]; rfl
      | false =>
        simp only [↓evs, evp, boxK, ↓a1_still, stillV, ev, argE, List.getD_cons_zero, List.getD_cons_succ, Nat.reduceEqDiff, if_false, if_true, Nat.reduceLT, Nat.reduceLeDiff, Nat.reduceAdd, Nat.reduceMul, true_and, and_true, List.length_map, binV, AV.cells, List.length_cons, List.length_nil, upd_at, Lb.loc.injEq, ↓af_still, ↓af_load, ↓af_store, ↓af_app, ↓af_new, ↓af_box, loadV, storeV, ldV, List.getElem?_cons_zero, List.getElem?_cons_succ, Option.bind_some, Option.map_some, List.map_cons, List.map_nil, Int.natCast_nonneg, Int.toNat_natCast, AV.stb, AV.one, List.all_cons, List.all_nil, Bool.and_self, Bool.and_true, Bool.true_and, List.take_succ_cons, List.take_zero, List.drop_succ_cons, List.drop_zero, List.cons_append, List.nil_append, List.append_nil, List.set_cons_zero, IV.av1, Lb.app, Lb.fresh, fam_loc, fam_par, fam_gen, fam_nest, reduceCtorEq, Bool.false_eq_true, List.take, List.drop, List.mem_cons, List.not_mem_nil, or_false, ptrL, appL, forall_eq, false_implies, implies_true, ev, Hp.none, Nat.le_refl, List.set_cons_succ, fillA, chunks, ivs, AV.iv, mkE, List.replicate_one, List.flatten_cons, List.flatten_nil, Nat.zero_mul, Nat.zero_add, Nat.mul_one, hc]
        cases h2 : decide ((c.toNat : Int) > 122) with
        | true =>
          simp only [↓evs, evp, boxK, ↓a1_still, stillV, ev, argE, List.getD_cons_zero, List.getD_cons_succ, Nat.reduceEqDiff, if_false, if_true, Nat.reduceLT, Nat.reduceLeDiff, Nat.reduceAdd, Nat.reduceMul, true_and, and_true, List.length_map, binV, AV.cells, List.length_cons, List.length_nil, upd_at, Lb.loc.injEq, ↓af_still, ↓af_load, ↓af_store, ↓af_app, ↓af_new, ↓af_box, loadV, storeV, ldV, List.getElem?_cons_zero, List.getElem?_cons_succ, Option.bind_some, Option.map_some, List.map_cons, List.map_nil, Int.natCast_nonneg, Int.toNat_natCast, AV.stb, AV.one, List.all_cons, List.all_nil, Bool.and_self, Bool.and_true, Bool.true_and, List.take_succ_cons, List.take_zero, List.drop_succ_cons, List.drop_zero, List.cons_append, List.nil_append, List.append_nil, List.set_cons_zero, IV.av1, Lb.app, Lb.fresh, fam_loc, fam_par, fam_gen, fam_nest, reduceCtorEq, Bool.false_eq_true, List.take, List.drop, List.mem_cons, List.not_mem_nil, or_false, ptrL, appL, forall_eq, false_implies, implies_true, ev, Hp.none, Nat.le_refl, List.set_cons_succ, fillA, chunks, ivs, AV.iv, mkE, List.replicate_one, List.flatten_cons, List.flatten_nil, Nat.zero_mul, Nat.zero_add, Nat.mul_one, hc]
          rw [named, all_not hc (by simp [nameC, h1, h2])]; rfl
        | false =>
          obtain ⟨q, hq⟩ := next (by simp [nameC, h1, h2])
          simp only [↓evs, evp, boxK, ↓a1_still, stillV, ev, argE, List.getD_cons_zero, List.getD_cons_succ, Nat.reduceEqDiff, if_false, if_true, Nat.reduceLT, Nat.reduceLeDiff, Nat.reduceAdd, Nat.reduceMul, true_and, and_true, List.length_map, binV, AV.cells, List.length_cons, List.length_nil, upd_at, Lb.loc.injEq, ↓af_still, ↓af_load, ↓af_store, ↓af_app, ↓af_new, ↓af_box, loadV, storeV, ldV, List.getElem?_cons_zero, List.getElem?_cons_succ, Option.bind_some, Option.map_some, List.map_cons, List.map_nil, Int.natCast_nonneg, Int.toNat_natCast, AV.stb, AV.one, List.all_cons, List.all_nil, Bool.and_self, Bool.and_true, Bool.true_and, List.take_succ_cons, List.take_zero, List.drop_succ_cons, List.drop_zero, List.cons_append, List.nil_append, List.append_nil, List.set_cons_zero, IV.av1, Lb.app, Lb.fresh, fam_loc, fam_par, fam_gen, fam_nest, reduceCtorEq, Bool.false_eq_true, List.take, List.drop, List.mem_cons, List.not_mem_nil, or_false, ptrL, appL, forall_eq, false_implies, implies_true, ev, Hp.none, Nat.le_refl, List.set_cons_succ, fillA, chunks, ivs, AV.iv, mkE, List.replicate_one, List.flatten_cons, List.flatten_nil, Nat.zero_mul, Nat.zero_add, Nat.mul_one, hc, hw]
          refine ⟨q, by omega, id, .none ?_ ?_⟩
          · rw [hq]; exact we_put rfl (we_put rfl (we_put rfl (we_any _ _)))
          · exact wm_put (by simp [AV.lbs]) (wm_put (by simp [AV.lbs]) (wm_put (by simp [AV.lbs]) (wm_any _)))
    · rw [show decide ((i : Int) < (s.length : Int)) = false by simpa using hlt]
      have hall : s.all nameC = true := by
        have : s.take i = s := List.take_of_length_le (by omega)
        rw [← this, hs]
      simp only [↓evs, evp, boxK, ↓a1_still, stillV, ev, argE, List.getD_cons_zero, List.getD_cons_succ, Nat.reduceEqDiff, if_false, if_true, Nat.reduceLT, Nat.reduceLeDiff, Nat.reduceAdd, Nat.reduceMul, true_and, and_true, List.length_map, binV, AV.cells, List.length_cons, List.length_nil, upd_at, Lb.loc.injEq, ↓af_still, ↓af_load, ↓af_store, ↓af_app, ↓af_new, ↓af_box, loadV, storeV, ldV, List.getElem?_cons_zero, List.getElem?_cons_succ, Option.bind_some, Option.map_some, List.map_cons, List.map_nil, Int.natCast_nonneg, Int.toNat_natCast, AV.stb, AV.one, List.all_cons, List.all_nil, Bool.and_self, Bool.and_true, Bool.true_and, List.take_succ_cons, List.take_zero, List.drop_succ_cons, List.drop_zero, List.cons_append, List.nil_append, List.append_nil, List.set_cons_zero, IV.av1, Lb.app, Lb.fresh, fam_loc, fam_par, fam_gen, fam_nest, reduceCtorEq, Bool.false_eq_true, List.take, List.drop, List.mem_cons, List.not_mem_nil, or_false, ptrL, appL, forall_eq, false_implies, implies_true, ev, Hp.none, Nat.le_refl, List.set_cons_succ, fillA, chunks, ivs, AV.iv, mkE, List.replicate_one, List.flatten_cons, List.flatten_nil, Nat.zero_mul, Nat.zero_add, Nat.mul_one]
      cases h1 : decide ((s.length : Int) ≥ 1) with
      | true =>
        simp only [↓evs, evp, boxK, ↓a1_still, stillV, ev, argE, List.getD_cons_zero, List.getD_cons_succ, Nat.reduceEqDiff, if_false, if_true, Nat.reduceLT, Nat.reduceLeDiff, Nat.reduceAdd, Nat.reduceMul, true_and, and_true, List.length_map, binV, AV.cells, List.length_cons, List.length_nil, upd_at, Lb.loc.injEq, ↓af_still, ↓af_load, ↓af_store, ↓af_app, ↓af_new, ↓af_box, loadV, storeV, ldV, List.getElem?_cons_zero, List.getElem?_cons_succ, Option.bind_some, Option.map_some, List.map_cons, List.map_nil, Int.natCast_nonneg, Int.toNat_natCast, AV.stb, AV.one, List.all_cons, List.all_nil, Bool.and_self, Bool.and_true, Bool.true_and, List.take_succ_cons, List.take_zero, List.drop_succ_cons, List.drop_zero, List.cons_append, List.nil_append, List.append_nil, List.set_cons_zero, IV.av1, Lb.app, Lb.fresh, fam_loc, fam_par, fam_gen, fam_nest, reduceCtorEq, Bool.false_eq_true, List.take, List.drop, List.mem_cons, List.not_mem_nil, or_false, ptrL, appL, forall_eq, false_implies, implies_true, ev, Hp.none, Nat.le_refl, List.set_cons_succ, fillA, chunks, ivs, AV.iv, mkE, List.replicate_one, List.flatten_cons, List.flatten_nil, Nat.zero_mul, Nat.zero_add, Nat.mul_one]
        rw [named, hall, h1]; rfl
      | false =>
        simp only [↓evs, evp, boxK, ↓a1_still, stillV, ev, argE, List.getD_cons_zero, List.getD_cons_succ, Nat.reduceEqDiff, if_false, if_true, Nat.reduceLT, Nat.reduceLeDiff, Nat.reduceAdd, Nat.reduceMul, true_and, and_true, List.length_map, binV, AV.cells, List.length_cons, List.length_nil, upd_at, Lb.loc.injEq, ↓af_still, ↓af_load, ↓af_store, ↓af_app, ↓af_new, ↓af_box, loadV, storeV, ldV, List.getElem?_cons_zero, List.getElem?_cons_succ, Option.bind_some, Option.map_some, List.map_cons, List.map_nil, Int.natCast_nonneg, Int.toNat_natCast, AV.stb, AV.one, List.all_cons, List.all_nil, Bool.and_self, Bool.and_true, Bool.true_and, List.take_succ_cons, List.take_zero, List.drop_succ_cons, List.drop_zero, List.cons_append, List.nil_append, List.append_nil, List.set_cons_zero, IV.av1, Lb.app, Lb.fresh, fam_loc, fam_par, fam_gen, fam_nest, reduceCtorEq, Bool.false_eq_true, List.take, List.drop, List.mem_cons, List.not_mem_nil, or_false, ptrL, appL, forall_eq, false_implies, implies_true, ev, Hp.none, Nat.le_refl, List.set_cons_succ, fillA, chunks, ivs, AV.iv, mkE, List.replicate_one, List.flatten_cons, List.flatten_nil, Nat.zero_mul, Nat.zero_add, Nat.mul_one]
        rw [named, hall, h1]; rfl
end Go.Am
