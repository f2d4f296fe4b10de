import Derived.Test.YtfinkeaikbmpgaaKT14
import Derived.Test.YtfinkeaikbmpgaaKD1
set_option linter.unusedSimpArgs false
set_option linter.unusedVariables false
set_option linter.unnecessarySimpa false
set_option linter.defProp false
/- Documents, by who has which parent. -/
namespace Go.Am
open Go Go.RowKit

/-- The places, from j on, of those whose parent is m. -/
def parPos (m : Int) : Nat → List Node → List Nat
  | _, [] => []
  | j, x :: r => (if x.parent = m then [j] else []) ++ parPos m (j + 1) r

theorem parPos_app (m : Int) : ∀ (j : Nat) (a b : List Node), parPos m j (a ++ b) = parPos m j a ++ parPos m (j + a.length) b
  | j, [], b => by simp [parPos]
  | j, x :: a, b => by simp only [List.cons_append, parPos, parPos_app m (j + 1) a b, List.length_cons, List.append_assoc, Nat.add_comm 1, Nat.add_assoc]
theorem parPos_mem (m : Int) : ∀ (j : Nat) (a : List Node) (k : Nat), k ∈ parPos m j a ↔ j ≤ k ∧ ∃ x, a[k - j]? = some x ∧ x.parent = m
  | j, [], k => by simp [parPos]
  | j, x :: a, k => by
    simp only [parPos, List.mem_append, parPos_mem m (j + 1) a k]
    constructor
    · rintro (h | ⟨h1, y, h2, h3⟩)
      · split at h
        · rename_i hp; simp only [List.mem_singleton] at h; subst h; exact ⟨Nat.le_refl _, x, by simp, hp⟩
        · simp at h
      · exact ⟨by omega, y, by rw [show k - j = (k - (j + 1)) + 1 by omega]; simpa using h2, h3⟩
    · rintro ⟨h1, y, h2, h3⟩
      by_cases e : k = j
      · subst e
        simp only [Nat.sub_self, List.getElem?_cons_zero, Option.some.injEq] at h2
        subst h2
        left; rw [if_pos h3]; simp
      · right
        rw [show k - j = (k - (j + 1)) + 1 by omega, List.getElem?_cons_succ] at h2
        exact ⟨by omega, y, h2, h3⟩

mutual
theorem Tree.par_out (off : Nat) (p m : Int) : ∀ x : Tree, (m < off ∨ (off + x.cnt : Nat) ≤ m) → parPos m off (x.flat off p) = if p = m then [off] else []
  | .mk t s as ks, h => by
    simp only [Tree.flat, parPos]
    simp only [Tree.cnt] at h
    rw [pars_out (off + 1) off m ks (by omega) (by omega)]; simp
theorem pars_out (off p : Nat) (m : Int) : ∀ xs : List Tree, (m < off ∨ (off + cntT xs : Nat) ≤ m) → (p : Int) ≠ m → parPos m off (flats off p xs) = []
  | [], _, _ => rfl
  | k :: r, h, hp => by
    simp only [cntT] at h
    simp only [flats, parPos_app, k.flat_len]
    rw [k.par_out off p m (by omega), pars_out (off + k.cnt) p m r (by omega) hp, if_neg hp]; rfl
end

def kidsN (off : Nat) : List Tree → List Nat
  | [] => []
  | k :: r => off :: kidsN (off + k.cnt) r
theorem kidsN_int : ∀ (off : Nat) (xs : List Tree), (kidsN off xs).map (fun k : Nat => (k : Int)) = kidsAt off xs
  | _, [] => rfl
  | off, k :: r => by simp [kidsN, kidsAt, kidsN_int _ r]

theorem pars_kids (off p : Nat) : ∀ xs : List Tree, p < off → parPos p off (flats off p xs) = kidsN off xs
  | [], _ => rfl
  | k :: r, h => by
    simp only [flats, parPos_app, k.flat_len, kidsN]
    rw [k.par_out off p p (by omega), pars_kids (off + k.cnt) p r (by omega)]; simp

theorem Sub.pars {off : Nat} {p : Int} {t : Tree} {n : Nat} {q : Int} {y : Tree} (h : Sub off p t n q y) : p < off → parPos n off (t.flat off p) = kidsN (n + 1) y.kids := by
  induction h with
  | self off p t =>
    intro hp
    rw [t.flat_eq]
    simp only [parPos]
    rw [if_neg (show ¬ (t.node off p).parent = (off : Int) by show ¬ p = (off : Int); omega), pars_kids (off + 1) off t.kids (by omega)]; rfl
  | @kid off p t n q y a b k hk hs ih =>
    intro hp
    have hr := hs.rng
    have h1 := t.cnt_eq
    rw [hk, cntT_app] at h1
    simp only [cntT] at h1
    have hy := y.cnt_pos
    rw [t.flat_eq, hk, flats_app]
    simp only [parPos, parPos_app, flats_len, flats, k.flat_len]
    rw [if_neg (show ¬ (t.node off p).parent = (n : Int) by show ¬ p = (n : Int); omega), pars_out (off + 1) off n a (by omega) (by omega), ih (by omega), pars_out (off + 1 + cntT a + k.cnt) off n b (by omega) (by omega)]; simp

theorem doc_pars {t : Tree} {n : Nat} {q : Int} {y : Tree} (h : Sub 0 (-1) t n q y) : parPos n 0 (docOf t) = kidsN (n + 1) y.kids := h.pars (by omega)

/-- The tree at a node, by who has which parent. -/
def treeOfN (d : Doc) : Nat → Nat → Tree
  | 0, _ => .mk false [] [] []
  | f + 1, n => match d[n]? with
    | some x => .mk x.text x.s x.attrs ((parPos n (n + 1) (d.drop (n + 1))).map (treeOfN d f))
    | none => .mk false [] [] []

theorem parPos_drop {d : Doc} {m : Int} {n : Nat} (h : ∀ k ∈ parPos m 0 d, n ≤ k) (hn : n ≤ d.length) : parPos m n (d.drop n) = parPos m 0 d := by
  have e : d = d.take n ++ d.drop n := (List.take_append_drop n d).symm
  have h2 : parPos m 0 d = parPos m 0 (d.take n) ++ parPos m n (d.drop n) := by
    conv => lhs; rw [e]
    rw [parPos_app, List.length_take, Nat.min_eq_left hn, Nat.zero_add]
  have h3 : parPos m 0 (d.take n) = [] := by
    apply List.eq_nil_iff_forall_not_mem.2
    intro k hk
    have := h k (by rw [h2]; simp [hk])
    obtain ⟨_, x, hx, _⟩ := (parPos_mem m 0 _ k).1 hk
    have := (List.getElem?_eq_some_iff.1 hx).1
    simp at this; omega
  rw [h2, h3]; rfl

theorem kidsN_ge : ∀ (off : Nat) (xs : List Tree), ∀ k ∈ kidsN off xs, off ≤ k
  | _, [], k, h => by simp [kidsN] at h
  | off, x :: r, k, h => by
    simp only [kidsN, List.mem_cons] at h
    rcases h with rfl | h
    · exact Nat.le_refl _
    · have := kidsN_ge _ r k h; omega

theorem treeOfN_sub {t : Tree} : ∀ (f : Nat) (n : Nat) (q : Int) (y : Tree), Sub 0 (-1) t n q y → y.dep ≤ f → treeOfN (docOf t) f n = y := by
  intro f
  induction f with
  | zero => intro n q y _ h; rw [y.dep_eq] at h; omega
  | succ f ih =>
    intro n q y hs hd
    have hl := hs.lies (docOf t) ⟨[], by simp [docOf]⟩
    have hnode := hl.node
    have hlen := hl.len
    have hp := doc_pars hs
    have hy := y.cnt_pos
    unfold treeOfN
    rw [hnode]
    simp only [Tree.node]
    rw [parPos_drop (by rw [hp]; exact kidsN_ge _ _) (by omega), hp]
    have kids : ∀ (b a : List Tree), y.kids = a ++ b → (kidsN (n + 1 + cntT a) b).map (treeOfN (docOf t) f) = b := by
      intro b
      induction b with
      | nil => intro a _; rfl
      | cons k b ihb =>
        intro a hk
        simp only [kidsN, List.map_cons]
        have hdk : k.dep ≤ f := by
          have h1 := y.dep_eq
          rw [hk, depT_app] at h1
          simp only [depT] at h1
          omega
        rw [ih _ n k (hs.trans (.kid a b k hk (.self _ _ _))) hdk]
        have := ihb (a ++ [k]) (by rw [hk]; simp)
        rw [cntT_app] at this
        simp only [cntT, Nat.add_zero] at this
        rw [show n + 1 + cntT a + k.cnt = n + 1 + (cntT a + k.cnt) by omega, this]
    have := kids y.kids [] rfl
    simp only [cntT, Nat.add_zero] at this
    rw [this]
    cases y; rfl

/-- IsDoc, as the reference asks it. -/
theorem isDoc_ref {d : Doc} {f : Nat} (hf : 8 ≤ f) : IsDoc d ↔ (treeOfN d f 0).good = true ∧ docOf (treeOfN d f 0) = d := by
  constructor
  · rintro ⟨x, h1, rfl⟩
    have := treeOfN_sub (t := x) f 0 (-1) x (.self _ _ _) (by have := (good_iff x).1 h1; omega)
    rw [this]; exact ⟨h1, rfl⟩
  · rintro ⟨h1, h2⟩
    exact ⟨_, h1, h2.symm⟩

end Go.Am

/- Documents: what is told of them. -/
namespace Go.Am
open Go Go.RowKit

open Classical in
/-- How many nodes the tree at a node has. -/
noncomputable def szAt (d : Doc) (n : Nat) : Nat := if h : ∃ (y : Tree) (q : Int), Lies d n q y then (Classical.choose h).cnt else 0
theorem szAt_of {d : Doc} {n : Nat} {q : Int} {y : Tree} (h : Lies d n q y) : szAt d n = y.cnt := by
  have he : ∃ (y : Tree) (q : Int), Lies d n q y := ⟨y, q, h⟩
  unfold szAt
  rw [dif_pos he]
  obtain ⟨q', h'⟩ := Classical.choose_spec he
  rw [(h'.uniq h).1]

noncomputable def endD (d : Doc) (n : Int) : Int := if isDoc d = true ∧ 0 ≤ n ∧ n < d.length then ((n.toNat + szAt d n.toNat : Nat) : Int) else 0
noncomputable def inD (d : Doc) (n m : Int) : Bool := decide (m ≤ n) && (decide (n < endD d m) && decide (0 ≤ m))
noncomputable def strD (d : Doc) (n : Int) : Bs := ((d.drop n.toNat).take ((endD d n).toNat - n.toNat)).flatMap Node.told
/-- The tree at a node, and the error's number. -/
noncomputable def treeD (d : Doc) (n : Int) : Tree × Int := if isDoc d = true then (if 0 ≤ n ∧ n < d.length then (treeOfN d d.length n.toNat, 0) else (.mk false [] [] [], 3)) else (.mk false [] [] [], 1)
def makeD (x : Tree) : Doc × Int := if x.good = true then (docOf x, 0) else ([], 1)

section
variable {t : Tree}
theorem endD_of (ht : t.good = true) {n : Nat} {q : Int} {y : Tree} (h : Lies (docOf t) n q y) : endD (docOf t) n = ((n + y.cnt : Nat) : Int) := by
  unfold endD
  have := h.len
  have := y.cnt_pos
  rw [if_pos ⟨isDoc_of ht, by omega, by omega⟩, Int.toNat_natCast, szAt_of h]
theorem endD_out {d : Doc} {n : Int} (h : ¬ (isDoc d = true ∧ 0 ≤ n ∧ n < d.length)) : endD d n = 0 := by unfold endD; rw [if_neg h]

theorem treeD_of (ht : t.good = true) {n : Nat} {q : Int} {y : Tree} (hs : Sub 0 (-1) t n q y) : treeD (docOf t) n = (y, 0) := by
  have h := hs.lies (docOf t) ⟨[], by simp [docOf]⟩
  have hl := h.len
  have hc := y.cnt_pos
  unfold treeD
  rw [if_pos (isDoc_of ht), if_pos ⟨by omega, by omega⟩, Int.toNat_natCast]
  have hd : y.dep ≤ (docOf t).length := by
    have h1 := (good_iff t).1 ht
    have h2 : ∀ x : Tree, x.dep ≤ x.cnt := by
      have key : ∀ n : Nat, (∀ x : Tree, x.cnt ≤ n → x.dep ≤ x.cnt) ∧ ∀ xs : List Tree, cntT xs ≤ n → depT xs ≤ cntT xs := by
        intro n
        induction n with
        | zero => exact ⟨fun x h => by have := x.cnt_pos; omega, fun xs h => by cases xs with | nil => simp [depT] | cons a r => have := a.cnt_pos; simp [cntT] at h; omega⟩
        | succ n ih =>
          have one : ∀ x : Tree, x.cnt ≤ n + 1 → x.dep ≤ x.cnt := fun x h => by
            have := ih.2 x.kids (by have := x.cnt_eq; omega)
            rw [x.dep_eq, x.cnt_eq]; omega
          refine ⟨one, fun xs => ?_⟩
          induction xs with
          | nil => intro _; simp [depT]
          | cons a r ihr =>
            intro h
            simp only [cntT] at h
            have := a.cnt_pos
            have := one a (by omega)
            have := ihr (by omega)
            simp only [depT, cntT]; omega
      exact fun x => (key x.cnt).1 x (Nat.le_refl _)
    have := h2 y
    omega
  rw [treeOfN_sub _ n q y hs hd]

theorem strD_of (ht : t.good = true) {n : Nat} {q : Int} {y : Tree} (h : Lies (docOf t) n q y) : strD (docOf t) n = y.told := by
  unfold strD
  rw [endD_of ht h, Int.toNat_natCast, Int.toNat_natCast, Nat.add_sub_cancel_left, h.told]

/-- DocNests, said plainly. -/
theorem nests (ht : t.good = true) {n m : Nat} (hn : n < (docOf t).length) (hm : m < (docOf t).length) :
    (inD (docOf t) n m = true → inD (docOf t) m n = true → n = m) ∧
    (inD (docOf t) n m = false → inD (docOf t) m n = false → endD (docOf t) n ≤ m ∨ endD (docOf t) m ≤ n) ∧
    (∀ x, (docOf t)[m]? = some x → inD (docOf t) n m = true → x.parent < 0 ∨ inD (docOf t) n x.parent = true) := by
  obtain ⟨q1, y1, l1, s1⟩ := lies_doc hn
  obtain ⟨q2, y2, l2, s2⟩ := lies_doc hm
  have e1 := endD_of ht l1
  have e2 := endD_of ht l2
  refine ⟨fun a b => ?_, fun a b => ?_, fun x hx a => ?_⟩
  · simp only [inD, Bool.and_eq_true, decide_eq_true_eq] at a b; omega
  · simp only [inD, Bool.and_eq_false_iff, decide_eq_false_iff_not] at a b; omega
  · rw [l2.node] at hx
    simp only [Option.some.injEq] at hx
    have hp : x.parent = q2 := by rw [← hx]; rfl
    rcases s2.parent with ⟨e3, e4, _⟩ | ⟨k, z, r, e3, e4, e5, e6, _⟩
    · left; omega
    · right
      have l3 := e4.lies (docOf t) ⟨[], by simp [docOf]⟩
      have e7 := endD_of ht l3
      rw [hp, e3]
      simp only [inD, Bool.and_eq_true, decide_eq_true_eq] at a ⊢
      omega
end

end Go.Am

/- Documents: made; walked; the trees in them. -/
namespace Go.Am
open Go Go.RowKit

def Doc.av (d : Doc) : AV := .agg [.list (d.map Node.iv)]

section
variable {P : Program} {G : Nat → Option (List IV)}
theorem wPut {f_doc_put f_slices_Clone_Attr_Attr : Nat} (hF : compF P G f_doc_put = some (58, [(none, 6)], (c_doc_put f_slices_Clone_Attr_Attr f_doc_put).bare)) (hC : ∀ xs : List Attr, xs.length ≤ B → PureC P G f_slices_Clone_Attr_Attr [.list (ivA xs)] (.list (ivA xs))) (x : Tree) (d : Doc) (p : Int) (hx : d.length + x.wt ≤ B) :
    LstC P G 5 f_doc_put [.ptr (.par 0) 1 0 0, x.av, .int .i64 p] (d.map Node.iv) (.int .i64 d.length) ((d ++ x.flat d.length p).map Node.iv) := by
  have key := byWt (M := fun l => ∀ x ∈ l, ∀ (d : Doc) (p : Int), d.length + x.wt ≤ B → LstC P G 5 f_doc_put [.ptr (.par 0) 1 0 0, x.av, .int .i64 p] (d.map Node.iv) (.int .i64 d.length) ((d ++ x.flat d.length p).map Node.iv))
    (fun l h x hx d p hB => pPut hF x d p hB (hC _ (by have := wt_attrs x; have := wtA_len x.attrs; omega)) fun k hk d' hd' => h x hx k hk d' d.length (by omega))
  exact key [x] x (by simp) d p hx
end

def c_doc_Make (f_tree_Good f_doc_put : Nat) : AC :=
(.seq (.reg [⟨(some 1), none, (.box (.t 0))⟩, ⟨(some 2), none, (.new [.nil0])⟩, ⟨(some 3), none, (.mov (.c (.int .i64 0)))⟩]) (.seq (.seq (.reg [⟨(some 5), none, (.load (some 4) (.t 1))⟩, ⟨(some 6), none, (.call f_tree_Good [(.t 5)])⟩, ⟨(some 7), none, (.not (.t 6))⟩]) (.cond (.t 7) (.seq (.reg [⟨(some 8), none, (.bld [.nil0] [])⟩, ⟨none, none, (.store 1 (.t 2) (.t 8))⟩, ⟨(some 3), none, (.mov (.c (.int .i64 1)))⟩]) .ret) .skip)) (.seq (.reg [⟨(some 4), none, (.new [.nil0])⟩]) (.seq (.reg [⟨(some 9), none, (.load (some 4) (.t 1))⟩, ⟨(some 10), none, (.call f_doc_put [(.t 4), (.t 9), (.c (.int .i64 (-1)))])⟩]) (.seq (.reg [⟨(some 11), none, (.load (some 1) (.t 4))⟩, ⟨none, none, (.store 1 (.t 2) (.t 11))⟩, ⟨(some 3), none, (.mov (.c (.int .i64 0)))⟩]) (.gh (.frzc (.loc 100) (.loc 2) 0) .ret))))))

theorem pMake {P : Program} {G : Nat → Option (List IV)} {f_doc_Make f_tree_Good f_doc_put : Nat} (hF : compF P G f_doc_Make = some (12, [((some (some 1)), 2), (none, 3)], (c_doc_Make f_tree_Good f_doc_put).bare)) (x : Tree) (hx : x.wt ≤ B)
    (hG : PureC P G f_tree_Good [x.av] (.bool x.good)) (hP : LstC P G 5 f_doc_put [.ptr (.par 0) 1 0 0, x.av, .int .i64 (-1)] [] (.int .i64 0) ((docOf x).map Node.iv)) :
    PureC P G f_doc_Make [x.av] (.tup [Doc.av (makeD x).1, .int .i64 (makeD x).2]) := by
  refine pure_of_goN hF (by simp) (by simp [lbss, AV.lbs, Tree.av]) (by simp [AV.lbs, lbss, Doc.av]) ?_
  unfold c_doc_Make
  simp only [↓evs, evp, evq, evl, boxK, ↓a1_still, stillV, ↓af_still, ↓af_load, ↓af_store, ↓af_app, ↓af_new, ↓af_box, binV, AV.cells, Lb.loc.injEq, Lb.par.injEq, Lb.gen.injEq, loadV, storeV, ldV, AV.stb, AV.one, IV.av1, Lb.app, Lb.fresh, reduceCtorEq, Bool.false_eq_true, ptrL, appL, fillA, chunks, ivs, AV.iv, mkE, if_false, if_true, List.not_mem_nil, forall_eq, Nat.reduceEqDiff, Nat.reduceLT, Nat.reduceLeDiff, Nat.reduceAdd, Nat.reduceMul, Int.reduceToNat, Int.reduceLE, Int.reduceLT, Int.le_refl, Int.toNat_zero, beq_self_eq_true, List.isEmpty_nil, Tree.av]
  refine callT_pure hG ?_
  cases hg : x.good with
  | false =>
    simp only [↓evs, evp, evq, evl, boxK, ↓a1_still, stillV, ↓af_still, ↓af_load, ↓af_store, ↓af_app, ↓af_new, ↓af_box, binV, AV.cells, Lb.loc.injEq, Lb.par.injEq, Lb.gen.injEq, loadV, storeV, ldV, AV.stb, AV.one, IV.av1, Lb.app, Lb.fresh, reduceCtorEq, Bool.false_eq_true, ptrL, appL, fillA, chunks, ivs, AV.iv, mkE, if_false, if_true, List.not_mem_nil, forall_eq, Nat.reduceEqDiff, Nat.reduceLT, Nat.reduceLeDiff, Nat.reduceAdd, Nat.reduceMul, Int.reduceToNat, Int.reduceLE, Int.reduceLT, Int.le_refl, Int.toNat_zero, beq_self_eq_true, List.isEmpty_nil, retm2_r]
    simp [norm, norms, makeD, hg, Doc.av]
  | true =>
    simp only [↓evs, evp, evq, evl, boxK, ↓a1_still, stillV, ↓af_still, ↓af_load, ↓af_store, ↓af_app, ↓af_new, ↓af_box, binV, AV.cells, Lb.loc.injEq, Lb.par.injEq, Lb.gen.injEq, loadV, storeV, ldV, AV.stb, AV.one, IV.av1, Lb.app, Lb.fresh, reduceCtorEq, Bool.false_eq_true, ptrL, appL, fillA, chunks, ivs, AV.iv, mkE, if_false, if_true, List.not_mem_nil, forall_eq, Nat.reduceEqDiff, Nat.reduceLT, Nat.reduceLeDiff, Nat.reduceAdd, Nat.reduceMul, Int.reduceToNat, Int.reduceLE, Int.reduceLT, Int.le_refl, Int.toNat_zero, beq_self_eq_true, List.isEmpty_nil]
    refine callT_lst (l := .loc 4) (N := .loc 100) (o := none) hP rfl ⟨by simp only [↓evs, evp, evq, evl, boxK, ↓a1_still, stillV, ↓af_still, ↓af_load, ↓af_store, ↓af_app, ↓af_new, ↓af_box, binV, AV.cells, Lb.loc.injEq, Lb.par.injEq, Lb.gen.injEq, loadV, storeV, ldV, AV.stb, AV.one, IV.av1, Lb.app, Lb.fresh, reduceCtorEq, Bool.false_eq_true, ptrL, appL, fillA, chunks, ivs, AV.iv, mkE, if_false, if_true, List.not_mem_nil, forall_eq, Nat.reduceEqDiff, Nat.reduceLT, Nat.reduceLeDiff, Nat.reduceAdd, Nat.reduceMul, Int.reduceToNat, Int.reduceLE, Int.reduceLT, Int.le_refl, Int.toNat_zero, beq_self_eq_true, List.isEmpty_nil], rfl⟩ (by simp only [↓evs, evp, evq, evl, boxK, ↓a1_still, stillV, ↓af_still, ↓af_load, ↓af_store, ↓af_app, ↓af_new, ↓af_box, binV, AV.cells, Lb.loc.injEq, Lb.par.injEq, Lb.gen.injEq, loadV, storeV, ldV, AV.stb, AV.one, IV.av1, Lb.app, Lb.fresh, reduceCtorEq, Bool.false_eq_true, ptrL, appL, fillA, chunks, ivs, AV.iv, mkE, if_false, if_true, List.not_mem_nil, forall_eq, Nat.reduceEqDiff, Nat.reduceLT, Nat.reduceLeDiff, Nat.reduceAdd, Nat.reduceMul, Int.reduceToNat, Int.reduceLE, Int.reduceLT, Int.le_refl, Int.toNat_zero, beq_self_eq_true, List.isEmpty_nil]) (fun _ => ⟨rfl, by simp⟩) ?_
    rintro L' H'' hL' ⟨b1, b2, b3⟩ hsame hused
    have hL : L' = .loc 100 := by simpa using hL'
    subst hL
    have c2 : H'' (.loc 2) = .live ⟨1, [[.nil0]]⟩ := by rw [hsame _ (by simp) (by simp) (by simp)]; simp only [↓evs, evp, evq, evl, boxK, ↓a1_still, stillV, ↓af_still, ↓af_load, ↓af_store, ↓af_app, ↓af_new, ↓af_box, binV, AV.cells, Lb.loc.injEq, Lb.par.injEq, Lb.gen.injEq, loadV, storeV, ldV, AV.stb, AV.one, IV.av1, Lb.app, Lb.fresh, reduceCtorEq, Bool.false_eq_true, ptrL, appL, fillA, chunks, ivs, AV.iv, mkE, if_false, if_true, List.not_mem_nil, forall_eq, Nat.reduceEqDiff, Nat.reduceLT, Nat.reduceLeDiff, Nat.reduceAdd, Nat.reduceMul, Int.reduceToNat, Int.reduceLE, Int.reduceLT, Int.le_refl, Int.toNat_zero, beq_self_eq_true, List.isEmpty_nil]
    simp only [↓evs, evp, evq, evl, boxK, ↓a1_still, stillV, ↓af_still, ↓af_load, ↓af_store, ↓af_app, ↓af_new, ↓af_box, binV, AV.cells, Lb.loc.injEq, Lb.par.injEq, Lb.gen.injEq, loadV, storeV, ldV, AV.stb, AV.one, IV.av1, Lb.app, Lb.fresh, reduceCtorEq, Bool.false_eq_true, ptrL, appL, fillA, chunks, ivs, AV.iv, mkE, if_false, if_true, List.not_mem_nil, forall_eq, Nat.reduceEqDiff, Nat.reduceLT, Nat.reduceLeDiff, Nat.reduceAdd, Nat.reduceMul, Int.reduceToNat, Int.reduceLE, Int.reduceLT, Int.le_refl, Int.toNat_zero, beq_self_eq_true, List.isEmpty_nil, b2, c2, retm2_r]
    refine ⟨5, (docOf x).map Node.iv, 0, (docOf x).length, [.sl (.loc 100) 5 0 (docOf x).length], rfl, rfl, b3, by simp, by simp, flatN _, ?_⟩
    simp only [↓evs, evp, evq, evl, boxK, ↓a1_still, stillV, ↓af_still, ↓af_load, ↓af_store, ↓af_app, ↓af_new, ↓af_box, binV, AV.cells, Lb.loc.injEq, Lb.par.injEq, Lb.gen.injEq, loadV, storeV, ldV, AV.stb, AV.one, IV.av1, Lb.app, Lb.fresh, reduceCtorEq, Bool.false_eq_true, ptrL, appL, fillA, chunks, ivs, AV.iv, mkE, if_false, if_true, List.not_mem_nil, forall_eq, Nat.reduceEqDiff, Nat.reduceLT, Nat.reduceLeDiff, Nat.reduceAdd, Nat.reduceMul, Int.reduceToNat, Int.reduceLE, Int.reduceLT, Int.le_refl, Int.toNat_zero, beq_self_eq_true, List.isEmpty_nil, retm2_r, norm, norms, makeD, hg, Doc.av, List.length_map]
    simp
    exact List.take_of_length_le (by simp)


def c_doc_walk (f_doc_walk : Nat) : AC :=
(.seq (.reg [⟨(some 5), none, (.box (.t 0))⟩, ⟨(some 10), none, (.mov (.c (.bool false)))⟩]) (.seq (.seq (.reg [⟨(some 13), none, (.mov (.t 1))⟩, ⟨(some 14), none, (.mov (.t 4))⟩, ⟨(some 15), none, (.nchk (.t 14))⟩, ⟨(some 16), none, (.load none (.t 15))⟩, ⟨(some 17), none, (.bin .neq (.t 13) (.t 16))⟩, ⟨(some 18), none, (.mov (.t 17))⟩, ⟨(some 19), (some (18, false)), (.mov (.t 1))⟩, ⟨(some 20), (some (18, false)), (.fld (.t 5) 0)⟩, ⟨(some 21), (some (18, false)), (.load none (.t 20))⟩, ⟨(some 22), (some (18, false)), (.len (.t 21))⟩, ⟨(some 23), (some (18, false)), (.bin .geq (.t 19) (.t 22))⟩, ⟨(some 24), none, (.pick (.t 18) (.c (.bool true)) (.t 23))⟩, ⟨(some 25), none, (.mov (.t 24))⟩, ⟨(some 26), (some (25, false)), (.fld (.t 5) 0)⟩, ⟨(some 27), (some (25, false)), (.load none (.t 26))⟩, ⟨(some 28), (some (25, false)), (.mov (.t 1))⟩, ⟨(some 29), (some (25, false)), (.ixa (.t 27) (.t 28) 5)⟩, ⟨(some 30), (some (25, false)), (.fld (.t 29) 3)⟩, ⟨(some 31), (some (25, false)), (.load none (.t 30))⟩, ⟨(some 32), (some (25, false)), (.mov (.t 2))⟩, ⟨(some 33), (some (25, false)), (.bin .neq (.t 31) (.t 32))⟩, ⟨(some 34), none, (.pick (.t 25) (.c (.bool true)) (.t 33))⟩, ⟨(some 35), none, (.mov (.t 34))⟩, ⟨(some 36), (some (35, false)), (.mov (.t 3))⟩, ⟨(some 37), (some (35, false)), (.bin .gtr (.t 36) (.c (.int .i64 8)))⟩, ⟨(some 38), none, (.pick (.t 35) (.c (.bool true)) (.t 37))⟩]) (.cond (.t 38) (.seq (.reg [⟨(some 10), none, (.mov (.c (.bool false)))⟩]) .ret) .skip)) (.seq (.reg [⟨(some 39), none, (.mov (.t 4))⟩, ⟨(some 40), none, (.nchk (.t 39))⟩, ⟨(some 41), none, (.load none (.t 40))⟩, ⟨(some 42), none, (.bin .add (.t 41) (.c (.int .i64 1)))⟩, ⟨(some 43), none, (.nchk (.t 39))⟩, ⟨none, none, (.store 1 (.t 43) (.t 42))⟩]) (.seq (.seq (.reg [⟨(some 44), none, (.fld (.t 5) 0)⟩, ⟨(some 45), none, (.load none (.t 44))⟩, ⟨(some 46), none, (.mov (.t 1))⟩, ⟨(some 47), none, (.ixa (.t 45) (.t 46) 5)⟩, ⟨(some 48), none, (.fld (.t 47) 4)⟩, ⟨(some 49), none, (.load none (.t 48))⟩, ⟨(some 50), none, (.len (.t 49))⟩, ⟨(some 51), none, (.mov (.c (.int .i64 0)))⟩]) (.block 0 (.loop (.seq (.reg [⟨(some 52), none, (.bin .lss (.t 51) (.t 50))⟩]) (.seq (.cond (.t 52) .skip (.exit 0)) (.seq (.block 1 (.seq (.reg [⟨(some 53), none, (.ixa (.t 49) (.t 51) 1)⟩, ⟨(some 54), none, (.load none (.t 53))⟩, ⟨(some 12), none, (.mov (.t 54))⟩]) (.seq (.reg [⟨(some 55), none, (.load (some 1) (.t 5))⟩, ⟨(some 56), none, (.mov (.t 12))⟩, ⟨(some 57), none, (.mov (.t 1))⟩, ⟨(some 58), none, (.mov (.t 3))⟩, ⟨(some 59), none, (.bin .add (.t 58) (.c (.int .i64 1)))⟩, ⟨(some 60), none, (.mov (.t 4))⟩, ⟨(some 61), none, (.call f_doc_walk [(.t 55), (.t 56), (.t 57), (.t 59), (.t 60)])⟩, ⟨(some 62), none, (.not (.t 61))⟩]) (.cond (.t 62) (.seq (.reg [⟨(some 10), none, (.mov (.c (.bool false)))⟩]) .ret) .skip)))) (.reg [⟨(some 63), none, (.bin .add (.t 51) (.c (.int .i64 1)))⟩, ⟨(some 51), none, (.mov (.t 63))⟩]))))))) (.seq (.reg [⟨(some 10), none, (.mov (.c (.bool true)))⟩]) .ret)))))

theorem wk_step {d : Doc} {f : Nat} {n p nx : Int} {x : Node} (hn : n = nx) (hx : d[n.toNat]? = some x) (hp : x.parent = p) : wk d (f + 1) n p nx = x.kids.foldlM (fun q k => wk d f k n q) (nx + 1) := by
  rw [wk, if_pos hn, hx]; simp [hp]
theorem wk_bound {d : Doc} : ∀ {f : Nat} {n p nx v : Int}, 0 ≤ nx → wk d f n p nx = some v → nx < v ∧ v ≤ d.length := by
  intro f n p nx v h0 h
  have hn : n = nx := by
    cases f with
    | zero => simp [wk] at h
    | succ f => rw [wk] at h; split at h; assumption; simp at h
  obtain ⟨m, rfl⟩ : ∃ m : Nat, nx = m := ⟨nx.toNat, by omega⟩
  obtain ⟨_, x, _, ⟨post, h2⟩, rfl⟩ := wk_some d f m n p v h
  have hc := x.cnt_pos
  have := congrArg List.length h2
  rw [List.length_drop, List.length_append, x.flat_len] at this
  omega

theorem Doc.get_iv {d : Doc} {n : Nat} {x : Node} (h : d[n]? = some x) : (d.map Node.iv)[n]? = some x.iv := by rw [List.getElem?_map, h]; rfl
theorem intGet (l : List Int) (i : Nat) : (l.map intIV)[i]? = (l[i]?).map intIV := List.getElem?_map ..
theorem wk_ne {d : Doc} {f : Nat} {n p nx : Int} (h : n ≠ nx) : wk d f n p nx = none := by
  cases f with
  | zero => rfl
  | succ f => rw [wk, if_neg h]
theorem wk_out {d : Doc} {f : Nat} {n p nx : Int} (h : d[n.toNat]? = none) : wk d f n p nx = none := by
  cases f with
  | zero => rfl
  | succ f => rw [wk, h]; simp
theorem wk_par {d : Doc} {f : Nat} {n p nx : Int} {x : Node} (h : d[n.toNat]? = some x) (hp : x.parent ≠ p) : wk d f n p nx = none := by
  cases f with
  | zero => rfl
  | succ f => rw [wk, h]; simp [hp]

theorem pWalk {P : Program} {G : Nat → Option (List IV)} {f_doc_walk : Nat} (hF : compF P G f_doc_walk = some (64, [(none, 10)], (c_doc_walk f_doc_walk).bare)) (d : Doc) (hd : d.length ≤ B) (hk : ∀ x ∈ d, x.kids.length ≤ B) : ∀ (f : Nat) (n p nx : Int), f ≤ 8 → 0 ≤ nx → nx ≤ B →
    MutC P G f_doc_walk [Doc.av d, .int .i64 n, .int .i64 p, .int .i64 (9 - (f : Int)), .ptr (.par 0) 1 0 0] [.int .i64 nx] fun x cs => ∃ v, x = .bool (wk d f n p nx).isSome ∧ cs = [.int .i64 v] ∧ ∀ r, wk d f n p nx = some r → v = r := by
  intro f
  induction f with
  | zero =>
    intro n p nx hf h0 hB
    refine mut_of_go hF (by simp) (by simp [lbss, AV.lbs, Doc.av]) (by simp [lbss, AV.lbs]) ?_
    unfold c_doc_walk
    have hd9 : decide ((9 : Int) - ((0 : Nat) : Int) > 8) = true := by decide
    simp only [↓evs, evp, evq, evl, boxK, ↓a1_still, stillV, ↓af_still, ↓af_load, ↓af_store, ↓af_app, ↓af_new, ↓af_box, binV, AV.cells, Lb.loc.injEq, Lb.par.injEq, Lb.gen.injEq, loadV, storeV, ldV, AV.stb, AV.one, IV.av1, Lb.app, Lb.fresh, reduceCtorEq, Bool.false_eq_true, ptrL, appL, fillA, chunks, ivs, AV.iv, mkE, if_false, if_true, List.not_mem_nil, forall_eq, Nat.reduceEqDiff, Nat.reduceLT, Nat.reduceLeDiff, Nat.reduceAdd, Nat.reduceMul, Int.reduceToNat, Int.reduceLE, Int.reduceLT, Int.le_refl, Int.toNat_zero, beq_self_eq_true, List.isEmpty_nil, Doc.av, row1]
    cases h1 : (n != nx) with
    | true =>
      simp only [↓evs, evp, evq, evl, boxK, ↓a1_still, stillV, ↓af_still, ↓af_load, ↓af_store, ↓af_app, ↓af_new, ↓af_box, binV, AV.cells, Lb.loc.injEq, Lb.par.injEq, Lb.gen.injEq, loadV, storeV, ldV, AV.stb, AV.one, IV.av1, Lb.app, Lb.fresh, reduceCtorEq, Bool.false_eq_true, ptrL, appL, fillA, chunks, ivs, AV.iv, mkE, if_false, if_true, List.not_mem_nil, forall_eq, Nat.reduceEqDiff, Nat.reduceLT, Nat.reduceLeDiff, Nat.reduceAdd, Nat.reduceMul, Int.reduceToNat, Int.reduceLE, Int.reduceLT, Int.le_refl, Int.toNat_zero, beq_self_eq_true, List.isEmpty_nil]
      exact ⟨_, ⟨nx, rfl, rfl, by simp [wk]⟩, rfl, rfl, rfl, rfl⟩
    | false =>
      have : n = nx := by simpa using h1
      subst this
      obtain ⟨m, rfl⟩ : ∃ m : Nat, n = m := ⟨n.toNat, by omega⟩
      cases hx : d[m]? with
      | none =>
        have hge : decide ((m : Int) ≥ (d.length : Int)) = true := by
          have := List.getElem?_eq_none_iff.1 hx
          simp; omega
        simp only [↓evs, evp, evq, evl, boxK, ↓a1_still, stillV, ↓af_still, ↓af_load, ↓af_store, ↓af_app, ↓af_new, ↓af_box, binV, AV.cells, Lb.loc.injEq, Lb.par.injEq, Lb.gen.injEq, loadV, storeV, ldV, AV.stb, AV.one, IV.av1, Lb.app, Lb.fresh, reduceCtorEq, Bool.false_eq_true, ptrL, appL, fillA, chunks, ivs, AV.iv, mkE, if_false, if_true, List.not_mem_nil, forall_eq, Nat.reduceEqDiff, Nat.reduceLT, Nat.reduceLeDiff, Nat.reduceAdd, Nat.reduceMul, Int.reduceToNat, Int.reduceLE, Int.reduceLT, Int.le_refl, Int.toNat_zero, beq_self_eq_true, List.isEmpty_nil, List.length_map, hge]
        exact ⟨_, ⟨m, rfl, rfl, by simp [wk]⟩, rfl, rfl, rfl, rfl⟩
      | some x =>
        have hlt := (List.getElem?_eq_some_iff.1 hx).1
        have hge : decide ((m : Int) ≥ (d.length : Int)) = false := by simp; omega
        simp only [↓evs, evp, evq, evl, boxK, ↓a1_still, stillV, ↓af_still, ↓af_load, ↓af_store, ↓af_app, ↓af_new, ↓af_box, binV, AV.cells, Lb.loc.injEq, Lb.par.injEq, Lb.gen.injEq, loadV, storeV, ldV, AV.stb, AV.one, IV.av1, Lb.app, Lb.fresh, reduceCtorEq, Bool.false_eq_true, ptrL, appL, fillA, chunks, ivs, AV.iv, mkE, if_false, if_true, List.not_mem_nil, forall_eq, Nat.reduceEqDiff, Nat.reduceLT, Nat.reduceLeDiff, Nat.reduceAdd, Nat.reduceMul, Int.reduceToNat, Int.reduceLE, Int.reduceLT, Int.le_refl, Int.toNat_zero, beq_self_eq_true, List.isEmpty_nil, List.length_map, hge, Doc.get_iv hx, elszN, Node.cells_eq, Node.cs]
        cases h2 : (x.parent != p) with
        | true =>
          simp only [↓evs, evp, evq, evl, boxK, ↓a1_still, stillV, ↓af_still, ↓af_load, ↓af_store, ↓af_app, ↓af_new, ↓af_box, binV, AV.cells, Lb.loc.injEq, Lb.par.injEq, Lb.gen.injEq, loadV, storeV, ldV, AV.stb, AV.one, IV.av1, Lb.app, Lb.fresh, reduceCtorEq, Bool.false_eq_true, ptrL, appL, fillA, chunks, ivs, AV.iv, mkE, if_false, if_true, List.not_mem_nil, forall_eq, Nat.reduceEqDiff, Nat.reduceLT, Nat.reduceLeDiff, Nat.reduceAdd, Nat.reduceMul, Int.reduceToNat, Int.reduceLE, Int.reduceLT, Int.le_refl, Int.toNat_zero, beq_self_eq_true, List.isEmpty_nil]
          exact ⟨_, ⟨m, rfl, rfl, by simp [wk]⟩, rfl, rfl, rfl, rfl⟩
        | false =>
          simp only [↓evs, evp, evq, evl, boxK, ↓a1_still, stillV, ↓af_still, ↓af_load, ↓af_store, ↓af_app, ↓af_new, ↓af_box, binV, AV.cells, Lb.loc.injEq, Lb.par.injEq, Lb.gen.injEq, loadV, storeV, ldV, AV.stb, AV.one, IV.av1, Lb.app, Lb.fresh, reduceCtorEq, Bool.false_eq_true, ptrL, appL, fillA, chunks, ivs, AV.iv, mkE, if_false, if_true, List.not_mem_nil, forall_eq, Nat.reduceEqDiff, Nat.reduceLT, Nat.reduceLeDiff, Nat.reduceAdd, Nat.reduceMul, Int.reduceToNat, Int.reduceLE, Int.reduceLT, Int.le_refl, Int.toNat_zero, beq_self_eq_true, List.isEmpty_nil, hd9]
          exact ⟨_, ⟨m, rfl, rfl, by simp [wk]⟩, rfl, rfl, rfl, rfl⟩
  | succ f ih =>
    intro n p nx hf h0 hB
    refine mut_of_go hF (by simp) (by simp [lbss, AV.lbs, Doc.av]) (by simp [lbss, AV.lbs]) ?_
    unfold c_doc_walk
    have hd9 : decide ((9 : Int) - ((f + 1 : Nat) : Int) > 8) = false := by simp; omega
    have hw9 : IntKind.i64.wrap ((9 : Int) - ((f + 1 : Nat) : Int) + 1) = 9 - (f : Int) := by rw [wrap64 (by omega) (by omega)]; omega
    simp only [↓evs, evp, evq, evl, boxK, ↓a1_still, stillV, ↓af_still, ↓af_load, ↓af_store, ↓af_app, ↓af_new, ↓af_box, binV, AV.cells, Lb.loc.injEq, Lb.par.injEq, Lb.gen.injEq, loadV, storeV, ldV, AV.stb, AV.one, IV.av1, Lb.app, Lb.fresh, reduceCtorEq, Bool.false_eq_true, ptrL, appL, fillA, chunks, ivs, AV.iv, mkE, if_false, if_true, List.not_mem_nil, forall_eq, Nat.reduceEqDiff, Nat.reduceLT, Nat.reduceLeDiff, Nat.reduceAdd, Nat.reduceMul, Int.reduceToNat, Int.reduceLE, Int.reduceLT, Int.le_refl, Int.toNat_zero, beq_self_eq_true, List.isEmpty_nil, Doc.av, row1]
    cases h1 : (n != nx) with
    | true =>
      have h1' : n ≠ nx := by simpa using h1
      simp only [↓evs, evp, evq, evl, boxK, ↓a1_still, stillV, ↓af_still, ↓af_load, ↓af_store, ↓af_app, ↓af_new, ↓af_box, binV, AV.cells, Lb.loc.injEq, Lb.par.injEq, Lb.gen.injEq, loadV, storeV, ldV, AV.stb, AV.one, IV.av1, Lb.app, Lb.fresh, reduceCtorEq, Bool.false_eq_true, ptrL, appL, fillA, chunks, ivs, AV.iv, mkE, if_false, if_true, List.not_mem_nil, forall_eq, Nat.reduceEqDiff, Nat.reduceLT, Nat.reduceLeDiff, Nat.reduceAdd, Nat.reduceMul, Int.reduceToNat, Int.reduceLE, Int.reduceLT, Int.le_refl, Int.toNat_zero, beq_self_eq_true, List.isEmpty_nil]
      exact ⟨_, ⟨nx, by rw [wk_ne h1']; rfl, rfl, by rw [wk_ne h1']; simp⟩, rfl, rfl, rfl, rfl⟩
    | false =>
      have : n = nx := by simpa using h1
      subst this
      obtain ⟨m, rfl⟩ : ∃ m : Nat, n = m := ⟨n.toNat, by omega⟩
      cases hx : d[m]? with
      | none =>
        have hge : decide ((m : Int) ≥ (d.length : Int)) = true := by
          have := List.getElem?_eq_none_iff.1 hx
          simp; omega
        have hwk : wk d (f + 1) (m : Int) p (m : Int) = none := wk_out (by simpa using hx)
        simp only [↓evs, evp, evq, evl, boxK, ↓a1_still, stillV, ↓af_still, ↓af_load, ↓af_store, ↓af_app, ↓af_new, ↓af_box, binV, AV.cells, Lb.loc.injEq, Lb.par.injEq, Lb.gen.injEq, loadV, storeV, ldV, AV.stb, AV.one, IV.av1, Lb.app, Lb.fresh, reduceCtorEq, Bool.false_eq_true, ptrL, appL, fillA, chunks, ivs, AV.iv, mkE, if_false, if_true, List.not_mem_nil, forall_eq, Nat.reduceEqDiff, Nat.reduceLT, Nat.reduceLeDiff, Nat.reduceAdd, Nat.reduceMul, Int.reduceToNat, Int.reduceLE, Int.reduceLT, Int.le_refl, Int.toNat_zero, beq_self_eq_true, List.isEmpty_nil, List.length_map, hge]
        exact ⟨_, ⟨m, by rw [hwk]; rfl, rfl, by rw [hwk]; simp⟩, rfl, rfl, rfl, rfl⟩
      | some x =>
        have hlt := (List.getElem?_eq_some_iff.1 hx).1
        have hge : decide ((m : Int) ≥ (d.length : Int)) = false := by simp; omega
        have hxk := hk x (List.mem_of_getElem? hx)
        have hwm : IntKind.i64.wrap ((m : Int) + 1) = (m : Int) + 1 := wrap64 (by omega) (by unfold B at hd; omega)
        simp only [↓evs, evp, evq, evl, boxK, ↓a1_still, stillV, ↓af_still, ↓af_load, ↓af_store, ↓af_app, ↓af_new, ↓af_box, binV, AV.cells, Lb.loc.injEq, Lb.par.injEq, Lb.gen.injEq, loadV, storeV, ldV, AV.stb, AV.one, IV.av1, Lb.app, Lb.fresh, reduceCtorEq, Bool.false_eq_true, ptrL, appL, fillA, chunks, ivs, AV.iv, mkE, if_false, if_true, List.not_mem_nil, forall_eq, Nat.reduceEqDiff, Nat.reduceLT, Nat.reduceLeDiff, Nat.reduceAdd, Nat.reduceMul, Int.reduceToNat, Int.reduceLE, Int.reduceLT, Int.le_refl, Int.toNat_zero, beq_self_eq_true, List.isEmpty_nil, List.length_map, hge, Doc.get_iv hx, elszN, Node.cells_eq, Node.cs]
        cases h2 : (x.parent != p) with
        | true =>
          have hwk : wk d (f + 1) (m : Int) p (m : Int) = none := wk_par (by simpa using hx) (by simpa using h2)
          simp only [↓evs, evp, evq, evl, boxK, ↓a1_still, stillV, ↓af_still, ↓af_load, ↓af_store, ↓af_app, ↓af_new, ↓af_box, binV, AV.cells, Lb.loc.injEq, Lb.par.injEq, Lb.gen.injEq, loadV, storeV, ldV, AV.stb, AV.one, IV.av1, Lb.app, Lb.fresh, reduceCtorEq, Bool.false_eq_true, ptrL, appL, fillA, chunks, ivs, AV.iv, mkE, if_false, if_true, List.not_mem_nil, forall_eq, Nat.reduceEqDiff, Nat.reduceLT, Nat.reduceLeDiff, Nat.reduceAdd, Nat.reduceMul, Int.reduceToNat, Int.reduceLE, Int.reduceLT, Int.le_refl, Int.toNat_zero, beq_self_eq_true, List.isEmpty_nil]
          exact ⟨_, ⟨m, by rw [hwk]; rfl, rfl, by rw [hwk]; simp⟩, rfl, rfl, rfl, rfl⟩
        | false =>
          have hp : x.parent = p := by simpa using h2
          have hst := wk_step (d := d) (f := f) (n := m) (nx := m) rfl (by simpa using hx) hp
          simp only [↓evs, evp, evq, evl, boxK, ↓a1_still, stillV, ↓af_still, ↓af_load, ↓af_store, ↓af_app, ↓af_new, ↓af_box, binV, AV.cells, Lb.loc.injEq, Lb.par.injEq, Lb.gen.injEq, loadV, storeV, ldV, AV.stb, AV.one, IV.av1, Lb.app, Lb.fresh, reduceCtorEq, Bool.false_eq_true, ptrL, appL, fillA, chunks, ivs, AV.iv, mkE, if_false, if_true, List.not_mem_nil, forall_eq, Nat.reduceEqDiff, Nat.reduceLT, Nat.reduceLeDiff, Nat.reduceAdd, Nat.reduceMul, Int.reduceToNat, Int.reduceLE, Int.reduceLT, Int.le_refl, Int.toNat_zero, beq_self_eq_true, List.isEmpty_nil, hd9, hwm, List.length_map, Doc.get_iv hx, elszN, Node.cells_eq, Node.cs]
          refine loop_same (σ := { q : Nat × Int // q.1 ≤ x.kids.length ∧ 0 ≤ q.2 ∧ q.2 ≤ d.length ∧ wk d (f + 1) (m : Int) p (m : Int) = (x.kids.drop q.1).foldlM (fun q k => wk d f k (m : Int) q) q.2 }) [.par 0, .loc 5]
            (fun q => [(1, .int .i64 m), (3, .int .i64 (9 - ((f + 1 : Nat) : Int))), (4, .ptr (.par 0) 1 0 0), (5, .ptr (.loc 5) 1 0 0), (49, .list (x.kids.map intIV)), (50, .int .i64 x.kids.length), (51, .int .i64 q.1.1)])
            (fun q => [(.par 0, ⟨1, [[.int .i64 q.1.2]]⟩), (.loc 5, ⟨1, [[.list (d.map Node.iv)]]⟩)]) (fun q => x.kids.length - q.1.1) ⟨(0, (m : Int) + 1), by simp, by simp only; omega, by simp only; omega, by rw [hst]; rfl⟩
            (fun _ => rfl) (by decide) (by simp [lbss, AV.lbs]) (by simp [lbss, AV.lbs]) ?_ ?_
          · refine WS_mk ?_ (by repeat' constructor) (by repeat' constructor)
            intro l hl hu
            by_cases e : l = .par 0
            · subst e; simp
            · exfalso; apply hu; cases l <;> simp_all [Lb.fresh, upd_at, Hp.none]
          · rintro ⟨⟨i, q⟩, hi, hq0, hqd, hs⟩
            simp only at hi hq0 hqd hs
            simp only [↓evs, evp, evq, evl, boxK, ↓a1_still, stillV, ↓af_still, ↓af_load, ↓af_store, ↓af_app, ↓af_new, ↓af_box, binV, AV.cells, Lb.loc.injEq, Lb.par.injEq, Lb.gen.injEq, loadV, storeV, ldV, AV.stb, AV.one, IV.av1, Lb.app, Lb.fresh, reduceCtorEq, Bool.false_eq_true, ptrL, appL, fillA, chunks, ivs, AV.iv, mkE, if_false, if_true, List.not_mem_nil, forall_eq, Nat.reduceEqDiff, Nat.reduceLT, Nat.reduceLeDiff, Nat.reduceAdd, Nat.reduceMul, Int.reduceToNat, Int.reduceLE, Int.reduceLT, Int.le_refl, Int.toNat_zero, beq_self_eq_true, List.isEmpty_nil, ofH_nil, ofH_cons]
            by_cases hlt : i < x.kids.length
            · obtain ⟨k, hki⟩ : ∃ k, x.kids[i]? = some k := ⟨_, List.getElem?_eq_getElem hlt⟩
              have hw : IntKind.i64.wrap ((i : Int) + 1) = ((i + 1 : Nat) : Int) := wrap64 (by omega) (by unfold B at hxk; omega)
              rw [show decide ((i : Int) < (x.kids.length : Int)) = true by simpa using hlt]
              simp only [↓evs, evp, evq, evl, boxK, ↓a1_still, stillV, ↓af_still, ↓af_load, ↓af_store, ↓af_app, ↓af_new, ↓af_box, binV, AV.cells, Lb.loc.injEq, Lb.par.injEq, Lb.gen.injEq, loadV, storeV, ldV, AV.stb, AV.one, IV.av1, Lb.app, Lb.fresh, reduceCtorEq, Bool.false_eq_true, ptrL, appL, fillA, chunks, ivs, AV.iv, mkE, if_false, if_true, List.not_mem_nil, forall_eq, Nat.reduceEqDiff, Nat.reduceLT, Nat.reduceLeDiff, Nat.reduceAdd, Nat.reduceMul, Int.reduceToNat, Int.reduceLE, Int.reduceLT, Int.le_refl, Int.toNat_zero, beq_self_eq_true, List.isEmpty_nil, intGet, hki, elszI, List.length_map, Option.map_some, intIV, IV.cells, hw9]
              refine callT_mut (l := .par 0) (ih k m q (by omega) hq0 (by unfold B at hd ⊢; omega)) rfl (by simp only [↓evs, evp, evq, evl, boxK, ↓a1_still, stillV, ↓af_still, ↓af_load, ↓af_store, ↓af_app, ↓af_new, ↓af_box, binV, AV.cells, Lb.loc.injEq, Lb.par.injEq, Lb.gen.injEq, loadV, storeV, ldV, AV.stb, AV.one, IV.av1, Lb.app, Lb.fresh, reduceCtorEq, Bool.false_eq_true, ptrL, appL, fillA, chunks, ivs, AV.iv, mkE, if_false, if_true, List.not_mem_nil, forall_eq, Nat.reduceEqDiff, Nat.reduceLT, Nat.reduceLeDiff, Nat.reduceAdd, Nat.reduceMul, Int.reduceToNat, Int.reduceLE, Int.reduceLT, Int.le_refl, Int.toNat_zero, beq_self_eq_true, List.isEmpty_nil]; try rfl) ?_
              rintro x1 cs' ⟨v, rfl, rfl, hv⟩ _ _ _
              have hdr : x.kids.drop i = k :: x.kids.drop (i + 1) := drop_eq hki
              rw [hdr, List.foldlM_cons] at hs
              cases hr : wk d f k m q with
              | none =>
                rw [hr] at hs
                simp only [Option.bind_eq_bind, Option.bind_none] at hs
                simp only [↓evs, evp, evq, evl, boxK, ↓a1_still, stillV, ↓af_still, ↓af_load, ↓af_store, ↓af_app, ↓af_new, ↓af_box, binV, AV.cells, Lb.loc.injEq, Lb.par.injEq, Lb.gen.injEq, loadV, storeV, ldV, AV.stb, AV.one, IV.av1, Lb.app, Lb.fresh, reduceCtorEq, Bool.false_eq_true, ptrL, appL, fillA, chunks, ivs, AV.iv, mkE, if_false, if_true, List.not_mem_nil, forall_eq, Nat.reduceEqDiff, Nat.reduceLT, Nat.reduceLeDiff, Nat.reduceAdd, Nat.reduceMul, Int.reduceToNat, Int.reduceLE, Int.reduceLT, Int.le_refl, Int.toNat_zero, beq_self_eq_true, List.isEmpty_nil, Option.isSome_none, Bool.not_false]
                exact ⟨_, ⟨v, by rw [hs]; rfl, rfl, by rw [hs]; simp⟩, rfl, rfl, rfl, rfl⟩
              | some r =>
                have hvr := hv r hr
                subst hvr
                rw [hr] at hs
                simp only [Option.bind_eq_bind, Option.bind_some] at hs
                have hb := wk_bound hq0 hr
                simp only [↓evs, evp, evq, evl, boxK, ↓a1_still, stillV, ↓af_still, ↓af_load, ↓af_store, ↓af_app, ↓af_new, ↓af_box, binV, AV.cells, Lb.loc.injEq, Lb.par.injEq, Lb.gen.injEq, loadV, storeV, ldV, AV.stb, AV.one, IV.av1, Lb.app, Lb.fresh, reduceCtorEq, Bool.false_eq_true, ptrL, appL, fillA, chunks, ivs, AV.iv, mkE, if_false, if_true, List.not_mem_nil, forall_eq, Nat.reduceEqDiff, Nat.reduceLT, Nat.reduceLeDiff, Nat.reduceAdd, Nat.reduceMul, Int.reduceToNat, Int.reduceLE, Int.reduceLT, Int.le_refl, Int.toNat_zero, beq_self_eq_true, List.isEmpty_nil, Option.isSome_some, Bool.not_true, hw]
                refine ⟨⟨(i + 1, v), hlt, by simp only; omega, by simp only; omega, hs⟩, by simp only; omega, WS_mk ?_ (by repeat' constructor) (by repeat' constructor)⟩
                intro l hl hu
                by_cases e : l = .par 0
                · subst e; simp
                · exfalso; apply hu; cases l <;> simp_all [Lb.fresh, upd_at, Hp.none]
            · have hil : i = x.kids.length := by omega
              subst hil
              rw [List.drop_length] at hs
              simp only [List.foldlM_nil] at hs
              rw [show decide ((x.kids.length : Int) < (x.kids.length : Int)) = false by simp]
              simp only [↓evs, evp, evq, evl, boxK, ↓a1_still, stillV, ↓af_still, ↓af_load, ↓af_store, ↓af_app, ↓af_new, ↓af_box, binV, AV.cells, Lb.loc.injEq, Lb.par.injEq, Lb.gen.injEq, loadV, storeV, ldV, AV.stb, AV.one, IV.av1, Lb.app, Lb.fresh, reduceCtorEq, Bool.false_eq_true, ptrL, appL, fillA, chunks, ivs, AV.iv, mkE, if_false, if_true, List.not_mem_nil, forall_eq, Nat.reduceEqDiff, Nat.reduceLT, Nat.reduceLeDiff, Nat.reduceAdd, Nat.reduceMul, Int.reduceToNat, Int.reduceLE, Int.reduceLT, Int.le_refl, Int.toNat_zero, beq_self_eq_true, List.isEmpty_nil]
              exact ⟨_, ⟨q, by rw [hs]; rfl, rfl, by rw [hs]; rintro r h; cases h; rfl⟩, rfl, rfl, rfl, rfl⟩

end Go.Am

/- Documents: the tree at a place. -/
namespace Go.Am
open Go Go.RowKit

theorem ofU_f (rs : List (Lb × Row)) : ofU (fun _ => false) rs = ofH rs := by
  funext q
  unfold ofU
  cases ofH rs q <;> rfl

theorem kidsAt_get : ∀ (off : Nat) (xs : List Tree) (i : Nat), i < xs.length → (kidsAt off xs)[i]? = some ((off + cntT (xs.take i) : Nat) : Int)
  | _, [], i, h => by simp at h
  | off, x :: r, 0, _ => by simp [kidsAt, cntT]
  | off, x :: r, i + 1, h => by
    simp only [kidsAt, List.getElem?_cons_succ, List.take_succ_cons, cntT]
    rw [kidsAt_get (off + x.cnt) r i (by simpa using h), Nat.add_assoc]

def c_doc_at (f_slices_Clone_Attr_Attr f_doc_at : Nat) : AC :=
(.seq (.reg [⟨(some 2), none, (.box (.t 0))⟩, ⟨(some 4), none, (.new [(.bool false), (.str []), .nil0, .nil0])⟩]) (.seq (.reg [⟨(some 9), none, (.fld (.t 2) 0)⟩, ⟨(some 10), none, (.load none (.t 9))⟩, ⟨(some 11), none, (.mov (.t 1))⟩, ⟨(some 12), none, (.ixa (.t 10) (.t 11) 5)⟩, ⟨(some 13), none, (.load (some 5) (.t 12))⟩, ⟨(some 5), none, (.new [(.bool false), (.str []), .nil0, (.int .i64 0), .nil0])⟩, ⟨none, none, (.store 5 (.t 5) (.t 13))⟩]) (.seq (.dreg [⟨(some 14), none, (.fld (.t 5) 0)⟩, ⟨(some 15), none, (.load none (.t 14))⟩, ⟨(some 16), none, (.fld (.t 5) 1)⟩, ⟨(some 17), none, (.load none (.t 16))⟩, ⟨(some 18), none, (.fld (.t 5) 2)⟩, ⟨(some 19), none, (.load none (.t 18))⟩, ⟨(some 20), none, (.call f_slices_Clone_Attr_Attr [(.t 19)])⟩, ⟨(some 21), none, (.bld [(.bool false), (.str []), .nil0, .nil0] [(0, (1, (.t 15))), (1, (1, (.t 17))), (2, (1, (.t 20)))])⟩, ⟨(some 6), none, (.new [(.bool false), (.str []), .nil0, .nil0])⟩, ⟨none, none, (.store 4 (.t 6) (.t 21))⟩] [[], [0], [], [2], [], [4], [5], [1, 3, 6], [], [8, 7, 6, 0, 1, 2, 3, 4, 5, 6, 7, 8]] [.no, .rw [.loc 5] [], .no, .rw [.loc 5] [], .no, .rw [.loc 5] [], .no, .no, .rw [] [.loc 6], .rw [] [.loc 6]]) (.seq (.gh .weak (.seq (.reg [⟨(some 22), none, (.fld (.t 5) 4)⟩, ⟨(some 23), none, (.load none (.t 22))⟩, ⟨(some 24), none, (.len (.t 23))⟩, ⟨(some 25), none, (.mov (.c (.int .i64 0)))⟩]) (.block 0 (.loop (.seq (.reg [⟨(some 26), none, (.bin .lss (.t 25) (.t 24))⟩]) (.seq (.cond (.t 26) .skip (.exit 0)) (.seq (.block 1 (.seq (.reg [⟨(some 27), none, (.ixa (.t 23) (.t 25) 1)⟩, ⟨(some 28), none, (.load none (.t 27))⟩, ⟨(some 8), none, (.mov (.t 28))⟩]) (.dreg [⟨(some 29), none, (.fld (.t 6) 3)⟩, ⟨(some 30), none, (.load none (.t 29))⟩, ⟨(some 31), none, (.load (some 1) (.t 2))⟩, ⟨(some 32), none, (.mov (.t 8))⟩, ⟨(some 33), none, (.call f_doc_at [(.t 31), (.t 32)])⟩, ⟨(some 34), none, (.lits 1 4 [(.bool false), (.str []), .nil0, .nil0] [(0, (.t 33))])⟩, ⟨(some 35), none, (.app (.t 30) (.t 34) 4 72)⟩, ⟨(some 36), none, (.fld (.t 6) 3)⟩, ⟨none, none, (.store 1 (.t 36) (.t 35))⟩] [[], [0], [], [], [2, 3], [4], [1, 5, 4], [0, 1, 2, 3, 4, 5, 6], [7, 6, 6, 0, 1, 2, 3, 4, 5, 6]] [.no, .rw [.loc 6] [], .rw [.loc 2] [], .no, .no, .no, (.rw [] [.loc 50, .loc 35]), .no, .rw [] [.loc 6]]))) (.reg [⟨(some 37), none, (.bin .add (.t 25) (.c (.int .i64 1)))⟩, ⟨(some 25), none, (.mov (.t 37))⟩])))))))) (.gh (.frzc (.loc 50) (.loc 6) 3) (.seq (.reg [⟨(some 38), none, (.load (some 4) (.t 6))⟩, ⟨none, none, (.store 4 (.t 4) (.t 38))⟩]) .ret))))))

theorem pAt {P : Program} {G : Nat → Option (List IV)} {f_doc_at f_slices_Clone_Attr_Attr : Nat} (hF : compF P G f_doc_at = some (39, [((some (some 4)), 4)], (c_doc_at f_slices_Clone_Attr_Attr f_doc_at).bare)) (d : Doc) (hd : d.length ≤ B) (n : Nat) (q : Int) (x : Tree) (hL : Lies d n q x) (hx : x.wt ≤ B)
    (hC : PureC P G f_slices_Clone_Attr_Attr [.list (ivA x.attrs)] (.list (ivA x.attrs)))
    (hK : ∀ k ∈ x.kids, ∀ (m : Nat) (p : Int), Lies d m p k → PureC P G f_doc_at [Doc.av d, .int .i64 m] k.av) : PureC P G f_doc_at [Doc.av d, .int .i64 n] x.av := by
  refine pure_of_goN hF (by simp) (by simp [lbss, AV.lbs, Doc.av]) (by simp [AV.lbs, Tree.av, lbss]) ?_
  have hnode := hL.node
  have hlen := hL.len
  have hlt := (List.getElem?_eq_some_iff.1 hnode).1
  have hwx := x.wt_eq
  have hkl := wtT_len x.kids
  have hkn : (kidsAt (n + 1) x.kids).length = x.kids.length := kidsAt_len _ _
  unfold c_doc_at
  simp only [↓evs, evp, evq, evl, boxK, ↓a1_still, stillV, ↓af_still, ↓af_load, ↓af_store, ↓af_app, ↓af_new, ↓af_box, binV, AV.cells, Lb.loc.injEq, Lb.par.injEq, Lb.gen.injEq, loadV, storeV, ldV, AV.stb, AV.one, IV.av1, Lb.app, Lb.fresh, reduceCtorEq, Bool.false_eq_true, ptrL, appL, fillA, chunks, ivs, AV.iv, mkE, if_false, if_true, List.not_mem_nil, forall_eq, Nat.reduceEqDiff, Nat.reduceLT, Nat.reduceLeDiff, Nat.reduceAdd, Nat.reduceMul, Int.reduceToNat, Int.reduceLE, Int.reduceLT, Int.le_refl, Int.toNat_zero, beq_self_eq_true, List.isEmpty_nil, Doc.av, List.length_map, Doc.get_iv hnode, elszN, Node.cells_eq, Node.cs, Tree.node]
  refine ⟨rfl, puK_in hC ?_⟩
  simp only [↓evs, evp, evq, evl, boxK, ↓a1_still, stillV, ↓af_still, ↓af_load, ↓af_store, ↓af_app, ↓af_new, ↓af_box, binV, AV.cells, Lb.loc.injEq, Lb.par.injEq, Lb.gen.injEq, loadV, storeV, ldV, AV.stb, AV.one, IV.av1, Lb.app, Lb.fresh, reduceCtorEq, Bool.false_eq_true, ptrL, appL, fillA, chunks, ivs, AV.iv, mkE, if_false, if_true, List.not_mem_nil, forall_eq, Nat.reduceEqDiff, Nat.reduceLT, Nat.reduceLeDiff, Nat.reduceAdd, Nat.reduceMul, Int.reduceToNat, Int.reduceLE, Int.reduceLT, Int.le_refl, Int.toNat_zero, beq_self_eq_true, List.isEmpty_nil, List.length_map]
  rw [go_weak]
  refine ⟨_, _, weaker_ownc (q := .loc 6) (cs := [.bool x.text, .str x.s, .list (ivA x.attrs), .nil0]) (j := 3) (d := 50) (sz := 4) rfl rfl (by simp [upd_at, Hp.none]) (by decide), ?_⟩
  simp only [↓evs, evp, evq, evl, boxK, ↓a1_still, stillV, ↓af_still, ↓af_load, ↓af_store, ↓af_app, ↓af_new, ↓af_box, binV, AV.cells, Lb.loc.injEq, Lb.par.injEq, Lb.gen.injEq, loadV, storeV, ldV, AV.stb, AV.one, IV.av1, Lb.app, Lb.fresh, reduceCtorEq, Bool.false_eq_true, ptrL, appL, fillA, chunks, ivs, AV.iv, mkE, if_false, if_true, List.not_mem_nil, forall_eq, Nat.reduceEqDiff, Nat.reduceLT, Nat.reduceLeDiff, Nat.reduceAdd, Nat.reduceMul, Int.reduceToNat, Int.reduceLE, Int.reduceLT, Int.le_refl, Int.toNat_zero, beq_self_eq_true, List.isEmpty_nil]
  refine loop_used (σ := { i : Nat // i ≤ x.kids.length }) (fun _ => [.loc 2, .loc 4, .loc 6, .loc 50]) (fun _ _ => false)
    (fun q => [(2, .ptr (.loc 2) 1 0 0), (4, .ptr (.loc 4) 4 0 0), (6, .ptr (.loc 6) 4 0 0), (23, .list ((kidsAt (n + 1) x.kids).map intIV)), (24, .int .i64 x.kids.length), (25, .int .i64 q.1)])
    (fun q => [(.loc 2, ⟨1, [[.list (d.map Node.iv)]]⟩), (.loc 4, ⟨4, [[.bool false, .str [], .nil0, .nil0]]⟩), (.loc 6, ⟨4, [[.bool x.text, .str x.s, .list (ivA x.attrs), .sl (.loc 50) 4 0 q.1]]⟩), (.loc 50, ⟨4, immE (ivT (x.kids.take q.1))⟩)])
    (fun q => x.kids.length - q.1) ⟨0, Nat.zero_le _⟩ (fun _ => rfl) (fun q => by simp [lbss, AV.lbs]) ?_ ⟨[], ?_⟩ ?_
  · rintro q r hr cs hcs l hl
    simp only [List.mem_cons, List.not_mem_nil, or_false] at hr
    rcases hr with rfl | rfl | rfl | rfl
    · simp only [List.mem_singleton] at hcs; subst hcs; simp [lbss, AV.lbs] at hl
    · simp only [List.mem_singleton] at hcs; subst hcs; simp [lbss, AV.lbs] at hl
    · simp only [List.mem_singleton] at hcs; subst hcs; simp [lbss, AV.lbs] at hl; subst hl; simp
    · rw [lbss_immE hcs] at hl; simp at hl
  · refine ⟨?_, ?_, ?_, by simp [rnF], fun l _ => ⟨id, fun _ => rfl⟩⟩
    · intro l hf hu
      exfalso; apply hu
      cases l <;> simp_all [Lb.fresh, upd_at, Hp.none]
    · simp [EqL, rnF, ren, put, hkn]
    · simp [RwL, rnF, upd_at, renR, rens, ren, immE, ivT]
  · rintro ⟨i, hi⟩
    rw [ofU_f]
    simp only [↓evs, evp, evq, evl, boxK, ↓a1_still, stillV, ↓af_still, ↓af_load, ↓af_store, ↓af_app, ↓af_new, ↓af_box, binV, AV.cells, Lb.loc.injEq, Lb.par.injEq, Lb.gen.injEq, loadV, storeV, ldV, AV.stb, AV.one, IV.av1, Lb.app, Lb.fresh, reduceCtorEq, Bool.false_eq_true, ptrL, appL, fillA, chunks, ivs, AV.iv, mkE, if_false, if_true, List.not_mem_nil, forall_eq, Nat.reduceEqDiff, Nat.reduceLT, Nat.reduceLeDiff, Nat.reduceAdd, Nat.reduceMul, Int.reduceToNat, Int.reduceLE, Int.reduceLT, Int.le_refl, Int.toNat_zero, beq_self_eq_true, List.isEmpty_nil, ofH_nil, ofH_cons]
    by_cases hlt : i < x.kids.length
    · rw [show decide ((i : Int) < (x.kids.length : Int)) = true by simpa using hlt]
      obtain ⟨k, hki⟩ : ∃ k, x.kids[i]? = some k := ⟨_, List.getElem?_eq_getElem hlt⟩
      have hw : IntKind.i64.wrap ((i : Int) + 1) = ((i + 1 : Nat) : Int) := wrap64 (by omega) (by unfold B at hx; omega)
      have hg := kidsAt_get (n + 1) x.kids i hlt
      simp only [↓evs, evp, evq, evl, boxK, ↓a1_still, stillV, ↓af_still, ↓af_load, ↓af_store, ↓af_app, ↓af_new, ↓af_box, binV, AV.cells, Lb.loc.injEq, Lb.par.injEq, Lb.gen.injEq, loadV, storeV, ldV, AV.stb, AV.one, IV.av1, Lb.app, Lb.fresh, reduceCtorEq, Bool.false_eq_true, ptrL, appL, fillA, chunks, ivs, AV.iv, mkE, if_false, if_true, List.not_mem_nil, forall_eq, Nat.reduceEqDiff, Nat.reduceLT, Nat.reduceLeDiff, Nat.reduceAdd, Nat.reduceMul, Int.reduceToNat, Int.reduceLE, Int.reduceLT, Int.le_refl, Int.toNat_zero, beq_self_eq_true, List.isEmpty_nil, intGet, hg, elszI, List.length_map, Option.map_some, intIV, IV.cells]
      have hkm := List.mem_of_getElem? hki
      have hkL : Lies d (n + 1 + cntT (x.kids.take i)) n k := hL.kid (x.kids.take i) (x.kids.drop (i + 1)) k (by rw [← drop_eq hki, List.take_append_drop])
      have hl4 : (ivT (x.kids.take i)).length = i := by rw [ivT_len, List.length_take]; omega
      have hsn : ivT (x.kids.take (i + 1)) = ivT (x.kids.take i) ++ [.agg [.bool k.text, .str k.s, .list (ivA k.attrs), .list (ivT k.kids)]] := by rw [take_snoc' hki, ivT_app]; simp [ivT, Tree.iv_eq, Tree.cs]
      refine ⟨rfl, puK_in (hK k hkm _ _ hkL) ?_⟩
      simp only [↓evs, evp, evq, evl, boxK, ↓a1_still, stillV, ↓af_still, ↓af_load, ↓af_store, ↓af_app, ↓af_new, ↓af_box, binV, AV.cells, Lb.loc.injEq, Lb.par.injEq, Lb.gen.injEq, loadV, storeV, ldV, AV.stb, AV.one, IV.av1, Lb.app, Lb.fresh, reduceCtorEq, Bool.false_eq_true, ptrL, appL, fillA, chunks, ivs, AV.iv, mkE, if_false, if_true, List.not_mem_nil, forall_eq, Nat.reduceEqDiff, Nat.reduceLT, Nat.reduceLeDiff, Nat.reduceAdd, Nat.reduceMul, Int.reduceToNat, Int.reduceLE, Int.reduceLT, Int.le_refl, Int.toNat_zero, beq_self_eq_true, List.isEmpty_nil, Tree.av]
      rw [app_loc 4 72 35 50 (ivT (x.kids.take i)) (.agg [.bool k.text, .str k.s, .list (ivA k.attrs), .list (ivT k.kids)]) (by simp [upd_at]) hl4 rfl (by simp [IV.cells]) (by unfold B at hx; omega) (by decide) (by decide) (by simp [upd_at, Hp.none])]
      simp only [↓evs, evp, evq, evl, boxK, ↓a1_still, stillV, ↓af_still, ↓af_load, ↓af_store, ↓af_app, ↓af_new, ↓af_box, binV, AV.cells, Lb.loc.injEq, Lb.par.injEq, Lb.gen.injEq, loadV, storeV, ldV, AV.stb, AV.one, IV.av1, Lb.app, Lb.fresh, reduceCtorEq, Bool.false_eq_true, ptrL, appL, fillA, chunks, ivs, AV.iv, mkE, if_false, if_true, List.not_mem_nil, forall_eq, Nat.reduceEqDiff, Nat.reduceLT, Nat.reduceLeDiff, Nat.reduceAdd, Nat.reduceMul, Int.reduceToNat, Int.reduceLE, Int.reduceLT, Int.le_refl, Int.toNat_zero, beq_self_eq_true, List.isEmpty_nil, hw]
      refine ⟨fun _ h => h, ?_⟩
      refine ⟨⟨i + 1, hlt⟩, by simp only; omega, [(.loc 50, .loc 35)], ?_⟩
      refine ⟨?_, ?_, ?_, by simp [rnF], ?_⟩
      · intro l hf hu
        exfalso; apply hu
        cases l <;> simp_all [Lb.fresh, upd_at, Hp.none]
      · simp [EqL, rnF, ren, put]
      · have hr : ∀ xs : List IV, renR (rnF [(.loc 50, .loc 35)]) ⟨4, immE xs⟩ = ⟨4, immE xs⟩ := fun xs => renR_immE _ _ _
        simp [RwL, rnF, upd_at, renR, rens, ren, hsn]
        simp [immE, rens_imm]
      · intro l hl
        simp only [List.mem_cons, List.not_mem_nil, or_false] at hl
        rcases hl with rfl | rfl | rfl | rfl
        · exact ⟨fun _ => rfl, fun _ => rfl⟩
        · exact ⟨fun _ => rfl, fun _ => rfl⟩
        · exact ⟨fun _ => rfl, fun _ => rfl⟩
        · exact ⟨fun _ => rfl, fun h => by simp [Lb.fresh] at h⟩
    · have hil : i = x.kids.length := by omega
      subst hil
      rw [show decide ((x.kids.length : Int) < (x.kids.length : Int)) = false by simp]
      simp only [↓evs, evp, evq, evl, boxK, ↓a1_still, stillV, ↓af_still, ↓af_load, ↓af_store, ↓af_app, ↓af_new, ↓af_box, binV, AV.cells, Lb.loc.injEq, Lb.par.injEq, Lb.gen.injEq, loadV, storeV, ldV, AV.stb, AV.one, IV.av1, Lb.app, Lb.fresh, reduceCtorEq, Bool.false_eq_true, ptrL, appL, fillA, chunks, ivs, AV.iv, mkE, if_false, if_true, List.not_mem_nil, forall_eq, Nat.reduceEqDiff, Nat.reduceLT, Nat.reduceLeDiff, Nat.reduceAdd, Nat.reduceMul, Int.reduceToNat, Int.reduceLE, Int.reduceLT, Int.le_refl, Int.toNat_zero, beq_self_eq_true, List.isEmpty_nil, List.take_length]
      refine ⟨4, ivT x.kids, 0, x.kids.length, [.bool x.text, .str x.s, .list (ivA x.attrs), .sl (.loc 50) 4 0 x.kids.length], rfl, rfl, rfl, by simp, by rw [ivT_len]; omega, flatT _, ?_⟩
      simp only [↓evs, evp, evq, evl, boxK, ↓a1_still, stillV, ↓af_still, ↓af_load, ↓af_store, ↓af_app, ↓af_new, ↓af_box, binV, AV.cells, Lb.loc.injEq, Lb.par.injEq, Lb.gen.injEq, loadV, storeV, ldV, AV.stb, AV.one, IV.av1, Lb.app, Lb.fresh, reduceCtorEq, Bool.false_eq_true, ptrL, appL, fillA, chunks, ivs, AV.iv, mkE, if_false, if_true, List.not_mem_nil, forall_eq, Nat.reduceEqDiff, Nat.reduceLT, Nat.reduceLeDiff, Nat.reduceAdd, Nat.reduceMul, Int.reduceToNat, Int.reduceLE, Int.reduceLT, Int.le_refl, Int.toNat_zero, beq_self_eq_true, List.isEmpty_nil, List.drop_zero, List.take_of_length_le (show (ivT x.kids).length ≤ x.kids.length by rw [ivT_len]; exact Nat.le_refl _)]
      rfl

end Go.Am
