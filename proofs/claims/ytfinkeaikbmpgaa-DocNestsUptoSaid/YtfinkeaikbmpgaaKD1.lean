import Derived.Test.YtfinkeaikbmpgaaT7
import Derived.Test.YtfinkeaikbmpgaaKT9
set_option linter.unusedSimpArgs false
set_option linter.unusedVariables false
set_option linter.unnecessarySimpa false
set_option linter.defProp false
/- Documents: their values; how a tree lies in one. -/
namespace Go.Am
open Go Go.RowKit

structure Node where
  text : Bool
  s : Bs
  attrs : List Attr
  parent : Int
  kids : List Int

abbrev Doc := List Node

def intIV (n : Int) : IV := .int .i64 n
def Node.cs (x : Node) : List IV := [.bool x.text, .str x.s, .list (ivA x.attrs), .int .i64 x.parent, .list (x.kids.map intIV)]
def Node.iv (x : Node) : IV := .agg x.cs
def Node.av (x : Node) : AV := .agg [.bool x.text, .str x.s, .list (ivA x.attrs), .int .i64 x.parent, .list (x.kids.map intIV)]
theorem Node.cells_eq (x : Node) : x.iv.cells = x.cs := rfl

theorem elsz_map {α : Type} (f : α → IV) (n : Nat) (h : ∀ x, (f x).cells.length = n) (xs : List α) : Elsz n (xs.map f) := by
  intro x hx
  obtain ⟨a, _, rfl⟩ := List.mem_map.1 hx
  exact h a
theorem flat_map {α : Type} (f : α → IV) (h : ∀ x, ∀ z ∈ (f x).cells, ∀ cs, z ≠ .agg cs) (xs : List α) : Flat (xs.map f) := by
  intro x hx
  obtain ⟨a, _, rfl⟩ := List.mem_map.1 hx
  exact h a
theorem elszI (xs : List Int) : Elsz 1 (xs.map intIV) := elsz_map intIV 1 (fun _ => rfl) xs
theorem flatI (xs : List Int) : Flat (xs.map intIV) := flat_map _ (by intro x z hz cs; simp [intIV, IV.cells] at hz; subst hz; simp) _
theorem Node.cs_flat (x : Node) : ∀ z ∈ x.cs, ∀ cs, z ≠ .agg cs := by
  intro z hz cs
  simp only [Node.cs, List.mem_cons, List.not_mem_nil, or_false] at hz
  rcases hz with rfl | rfl | rfl | rfl | rfl <;> simp
theorem elszN (xs : List Node) : Elsz 5 (xs.map Node.iv) := elsz_map Node.iv 5 (fun _ => rfl) xs
theorem flatN (xs : List Node) : Flat (xs.map Node.iv) := flat_map _ (fun x => x.cs_flat) _

theorem Node.ext' {x y : Node} (h1 : x.text = y.text) (h2 : x.s = y.s) (h3 : x.attrs = y.attrs) (h4 : x.parent = y.parent) (h5 : x.kids = y.kids) : x = y := by
  cases x; cases y; simp_all

/-! How a tree lies in a document. -/
def kidsAt (off : Nat) : List Tree → List Int
  | [] => []
  | k :: r => (off : Int) :: kidsAt (off + k.cnt) r

mutual
def Tree.flat (off : Nat) (p : Int) : Tree → List Node
  | .mk t s as ks => ⟨t, s, as, p, kidsAt (off + 1) ks⟩ :: flats (off + 1) off ks
def flats (off : Nat) (p : Nat) : List Tree → List Node
  | [] => []
  | k :: r => k.flat off p ++ flats (off + k.cnt) p r
end

def Tree.node (off : Nat) (p : Int) (x : Tree) : Node := ⟨x.text, x.s, x.attrs, p, kidsAt (off + 1) x.kids⟩
theorem Tree.flat_eq (off : Nat) (p : Int) (x : Tree) : x.flat off p = x.node off p :: flats (off + 1) off x.kids := by
  cases x; simp [Tree.flat, Tree.node, Tree.text, Tree.s, Tree.attrs, Tree.kids]

mutual
theorem Tree.flat_len (off : Nat) (p : Int) : ∀ x : Tree, (x.flat off p).length = x.cnt
  | .mk t s as ks => by simp [Tree.flat, Tree.cnt, flats_len (off + 1) off ks]
theorem flats_len (off : Nat) (p : Nat) : ∀ xs : List Tree, (flats off p xs).length = cntT xs
  | [] => by simp [flats, cntT]
  | k :: r => by simp [flats, cntT, k.flat_len, flats_len _ p r]
end

theorem kidsAt_len : ∀ (off : Nat) (xs : List Tree), (kidsAt off xs).length = xs.length
  | _, [] => rfl
  | off, k :: r => by simp [kidsAt, kidsAt_len _ r]

theorem flats_app : ∀ (off p : Nat) (xs ys : List Tree), flats off p (xs ++ ys) = flats off p xs ++ flats (off + cntT xs) p ys
  | off, p, [], ys => by simp [flats, cntT]
  | off, p, k :: r, ys => by simp [flats, cntT, flats_app _ p r ys, Nat.add_assoc]
theorem kidsAt_app : ∀ (off : Nat) (xs ys : List Tree), kidsAt off (xs ++ ys) = kidsAt off xs ++ kidsAt (off + cntT xs) ys
  | off, [], ys => by simp [kidsAt, cntT]
  | off, k :: r, ys => by simp [kidsAt, cntT, kidsAt_app _ r ys, Nat.add_assoc]

/-- The document of a tree. -/
def docOf (x : Tree) : Doc := x.flat 0 (-1)

theorem Tree.cnt_pos (x : Tree) : 0 < x.cnt := by rw [x.cnt_eq]; omega
end Go.Am

/- Documents: which lists of nodes are some. -/
namespace Go.Am
open Go Go.RowKit

/-- One node after the other, in the order in which one reads: what comes next. -/
def wk (d : Doc) : Nat → Int → Int → Int → Option Int
  | 0, _, _, _ => none
  | f + 1, n, p, nx => if n = nx then match d[n.toNat]? with
      | some x => if x.parent = p then x.kids.foldlM (fun q k => wk d f k n q) (nx + 1) else none
      | none => none
    else none

theorem drop_mem {α : Type} {l : List α} {n : Nat} {x : α} {r : List α} (h : l.drop n = x :: r) : l[n]? = some x ∧ l.drop (n + 1) = r := by
  have h1 : (l.drop n)[0]? = some x := by rw [h]; rfl
  refine ⟨by simpa [List.getElem?_drop] using h1, ?_⟩
  have : (l.drop n).drop 1 = r := by rw [h]; rfl
  rwa [List.drop_drop] at this

theorem drop_eq {α : Type} {l : List α} {n : Nat} {x : α} (h : l[n]? = some x) : l.drop n = x :: l.drop (n + 1) := by
  obtain ⟨hn, rfl⟩ := List.getElem?_eq_some_iff.1 h
  exact List.drop_eq_getElem_cons hn

theorem wk_some (d : Doc) : ∀ (f : Nat),
    (∀ (m : Nat) (n p r : Int), wk d f n p m = some r → n = m ∧ ∃ x : Tree, x.dep ≤ f ∧ (∃ post, d.drop m = x.flat m p ++ post) ∧ r = ((m + x.cnt : Nat) : Int)) := by
  intro f
  induction f with
  | zero => intro m n p r h; simp [wk] at h
  | succ f ih =>
    intro m n p r h
    unfold wk at h
    split at h
    · rename_i hn
      subst hn
      simp only [Int.toNat_natCast] at h
      cases hx : d[m]? with
      | none => rw [hx] at h; simp at h
      | some nd =>
        rw [hx] at h
        simp only at h
        split at h
        · rename_i hp
          refine ⟨rfl, ?_⟩
          have kids : ∀ (ks : List Int) (q : Nat) (r : Int), ks.foldlM (fun q k => wk d f k (m : Int) q) (q : Int) = some r → ∃ xs : List Tree, ks = kidsAt q xs ∧ depT xs ≤ f ∧ (∃ post, d.drop q = flats q m xs ++ post) ∧ r = ((q + cntT xs : Nat) : Int) := by
            intro ks
            induction ks with
            | nil => intro q r h; simp at h; subst h; exact ⟨[], rfl, by simp [depT], ⟨_, by simp [flats]; rfl⟩, by simp [cntT]⟩
            | cons k ks ihk =>
              intro q r h
              rw [List.foldlM_cons] at h
              obtain ⟨q', h1, h2⟩ := Option.bind_eq_some_iff.1 h
              obtain ⟨rfl, x, x1, ⟨post, x2⟩, rfl⟩ := ih q k m q' h1
              obtain ⟨xs, e1, e2, ⟨post2, e3⟩, rfl⟩ := ihk _ _ h2
              refine ⟨x :: xs, by simp only [kidsAt, e1], by simp only [depT]; omega, ⟨post2, ?_⟩, by simp only [cntT, Nat.add_assoc]⟩
              have : d.drop (q + x.cnt) = post := by
                rw [← List.drop_drop, x2, List.drop_append_of_le_length (by rw [x.flat_len]; exact Nat.le_refl _), List.drop_eq_nil_of_le (by rw [x.flat_len]; exact Nat.le_refl _)]; rfl
              rw [x2, ← this, e3]; simp [flats]
          obtain ⟨xs, e1, e2, ⟨post, e3⟩, rfl⟩ := kids nd.kids (m + 1) r (by simpa using h)
          refine ⟨.mk nd.text nd.s nd.attrs xs, by simp only [Tree.dep]; omega, ⟨post, ?_⟩, by simp only [Tree.cnt]; congr 1; omega⟩
          rw [drop_eq hx, e3]
          simp only [Tree.flat, List.cons_append, List.cons.injEq, and_true]
          exact Node.ext' rfl rfl rfl hp e1
        · simp at h
    · simp at h

theorem wk_of (d : Doc) : ∀ (f : Nat) (x : Tree) (m : Nat) (p : Int), x.dep ≤ f → (∃ post, d.drop m = x.flat m p ++ post) → wk d f m p m = some ((m + x.cnt : Nat) : Int) := by
  intro f
  induction f with
  | zero => intro x m p h; rw [x.dep_eq] at h; omega
  | succ f ih =>
    intro x m p hd ⟨post, hx⟩
    rw [x.flat_eq] at hx
    obtain ⟨h1, h2⟩ := drop_mem hx
    unfold wk
    rw [if_pos rfl, Int.toNat_natCast, h1]
    simp only [Tree.node, if_true]
    have kids : ∀ (xs : List Tree) (q : Nat), depT xs ≤ f → (∃ post, d.drop q = flats q m xs ++ post) → (kidsAt q xs).foldlM (fun q k => wk d f k (m : Int) q) (q : Int) = some ((q + cntT xs : Nat) : Int) := by
      intro xs
      induction xs with
      | nil => intro q _ _; simp [kidsAt, cntT]
      | cons y ys ihk =>
        intro q hq ⟨post, hp⟩
        simp only [depT] at hq
        simp only [flats, List.append_assoc] at hp
        simp only [kidsAt, List.foldlM_cons]
        rw [ih y q m (by omega) ⟨_, hp⟩]
        simp only [Option.bind_eq_bind, Option.bind_some]
        rw [ihk (q + y.cnt) (by omega) ⟨post, by rw [← List.drop_drop, hp, List.drop_append_of_le_length (by rw [y.flat_len]; exact Nat.le_refl _), List.drop_eq_nil_of_le (by rw [y.flat_len]; exact Nat.le_refl _)]; rfl⟩]
        simp only [cntT, Nat.add_assoc]
    have hdep := x.dep_eq
    have := kids x.kids (m + 1) (by omega) ⟨post, h2⟩
    rw [show ((m : Int) + 1) = ((m + 1 : Nat) : Int) by omega, this, x.cnt_eq]
    congr 2; omega

/-! A tree is known by its nodes. -/
mutual
theorem Tree.flat_inj : ∀ (x y : Tree) (off : Nat) (p : Int) (r r' : List Node), x.flat off p ++ r = y.flat off p ++ r' → x = y
  | .mk t s as ks, .mk t' s' as' ks', off, p, r, r', h => by
    simp only [Tree.flat, List.cons_append, List.cons.injEq, Node.mk.injEq] at h
    obtain ⟨⟨rfl, rfl, rfl, _, hk⟩, h⟩ := h
    have hl : ks.length = ks'.length := by have := congrArg List.length hk; simpa [kidsAt_len] using this
    rw [flats_inj ks ks' (off + 1) off r r' hl h]
theorem flats_inj : ∀ (xs ys : List Tree) (off p : Nat) (r r' : List Node), xs.length = ys.length → flats off p xs ++ r = flats off p ys ++ r' → xs = ys
  | [], [], _, _, _, _, _, _ => rfl
  | [], _ :: _, _, _, _, _, h, _ => by simp at h
  | _ :: _, [], _, _, _, _, h, _ => by simp at h
  | x :: xs, y :: ys, off, p, r, r', hl, h => by
    simp only [flats, List.append_assoc] at h
    have e := x.flat_inj y off p _ _ h
    subst e
    have := List.append_cancel_left h
    rw [flats_inj xs ys _ p r r' (by simpa using hl) this]
end

theorem docOf_inj {x y : Tree} (h : docOf x = docOf y) : x = y := x.flat_inj y 0 (-1) [] [] (by simpa [docOf] using h)
theorem docOf_len (x : Tree) : (docOf x).length = x.cnt := x.flat_len 0 (-1)

/-- The documents. -/
def IsDoc (d : Doc) : Prop := ∃ x : Tree, x.good = true ∧ d = docOf x
open Classical in
noncomputable def isDoc (d : Doc) : Bool := decide (IsDoc d)
theorem isDoc_iff {d : Doc} : isDoc d = true ↔ IsDoc d := by simp [isDoc]
theorem isDoc_of {x : Tree} (h : x.good = true) : isDoc (docOf x) = true := isDoc_iff.2 ⟨x, h, rfl⟩
theorem isDoc_not {d : Doc} (h : ¬ IsDoc d) : isDoc d = false := by simp [isDoc, h]

theorem good_iff (x : Tree) : x.good = true ↔ x.text = false ∧ x.dep ≤ 8 ∧ x.cnt ≤ 80 ∧ x.fine = true := by
  simp only [Tree.good, Bool.and_eq_true, Bool.not_eq_true', decide_eq_true_eq]
  constructor
  · rintro ⟨h1, h2, h3, h4⟩; exact ⟨h1, by omega, by omega, h4⟩
  · rintro ⟨h1, h2, h3, h4⟩; exact ⟨h1, by omega, by omega, h4⟩

theorem wk_doc {d : Doc} (h : wk d 8 0 (-1) 0 = some (d.length : Int)) : ∃ x : Tree, x.dep ≤ 8 ∧ d = docOf x := by
  obtain ⟨_, x, h1, ⟨post, h2⟩, h3⟩ := wk_some d 8 0 0 (-1) _ h
  refine ⟨x, h1, ?_⟩
  simp only [List.drop_zero, Nat.zero_add] at h2 h3
  have hl : post = [] := by
    have := congrArg List.length h2
    rw [List.length_append, x.flat_len] at this
    have : x.cnt = d.length := by omega
    exact List.length_eq_zero_iff.1 (by omega)
  rw [h2, hl, List.append_nil]; rfl
theorem wk_doc' {x : Tree} (h : x.dep ≤ 8) : wk (docOf x) 8 0 (-1) 0 = some ((docOf x).length : Int) := by
  have := wk_of (docOf x) 8 x 0 (-1) h ⟨[], by simp [docOf]⟩
  rw [docOf_len]; simpa using this

end Go.Am

/- Documents: what lies where. -/
namespace Go.Am
open Go Go.RowKit

/-- The tree y lies at n, its parent being q, in the tree t that lies at off. -/
inductive Sub : Nat → Int → Tree → Nat → Int → Tree → Prop
  | self (off : Nat) (p : Int) (t : Tree) : Sub off p t off p t
  | kid {off : Nat} {p : Int} {t : Tree} {n : Nat} {q : Int} {y : Tree} (a b : List Tree) (k : Tree) : t.kids = a ++ k :: b → Sub (off + 1 + cntT a) off k n q y → Sub off p t n q y

def Lies (d : Doc) (n : Nat) (q : Int) (y : Tree) : Prop := ∃ post, d.drop n = y.flat n q ++ post

theorem Sub.rng {off : Nat} {p : Int} {t : Tree} {n : Nat} {q : Int} {y : Tree} (h : Sub off p t n q y) : off ≤ n ∧ n + y.cnt ≤ off + t.cnt := by
  induction h with
  | self => exact ⟨Nat.le_refl _, Nat.le_refl _⟩
  | @kid off p t n q y a b k hk _ ih =>
    have h1 := t.cnt_eq
    rw [hk, cntT_app] at h1
    simp only [cntT] at h1
    omega

theorem drop_app {α : Type} {a b c : List α} {n : Nat} (h : a.length = n) : (a ++ b).drop n = b := by subst h; simp

theorem Sub.lies {off : Nat} {p : Int} {t : Tree} {n : Nat} {q : Int} {y : Tree} (h : Sub off p t n q y) : ∀ d : Doc, Lies d off p t → Lies d n q y := by
  induction h with
  | self => exact fun _ h => h
  | @kid off p t n q y a b k hk _ ih =>
    rintro d ⟨post, h⟩
    refine ih d ⟨flats (off + 1 + cntT a + k.cnt) off b ++ post, ?_⟩
    rw [t.flat_eq, hk] at h
    have h2 := (drop_mem h).2
    rw [flats_app] at h2
    have h3 : d.drop (off + 1) = flats (off + 1) off a ++ (flats (off + 1 + cntT a) off (k :: b) ++ post) := by rw [h2]; exact List.append_assoc _ _ _
    rw [← List.drop_drop, h3, drop_app (c := []) (flats_len _ _ _)]
    simp [flats]

theorem Sub.parent {off : Nat} {p : Int} {t : Tree} {n : Nat} {q : Int} {y : Tree} (h : Sub off p t n q y) :
    (n = off ∧ q = p ∧ y = t) ∨ ∃ (m : Nat) (z : Tree) (r : Int), q = (m : Int) ∧ Sub off p t m r z ∧ m < n ∧ n + y.cnt ≤ m + z.cnt ∧ y ∈ z.kids ∧ off ≤ m := by
  induction h with
  | self => exact .inl ⟨rfl, rfl, rfl⟩
  | @kid off p t n q y a b k hk hs ih =>
    right
    rcases ih with ⟨rfl, rfl, rfl⟩ | ⟨m, z, r, e1, e2, e3, e4, e5, e6⟩
    · have h1 := t.cnt_eq
      rw [hk, cntT_app] at h1
      simp only [cntT] at h1
      exact ⟨off, t, p, rfl, .self _ _ _, by omega, by omega, by rw [hk]; simp, Nat.le_refl _⟩
    · exact ⟨m, z, r, e1, .kid a b k hk e2, e3, e4, e5, by omega⟩

theorem Sub.trans {off : Nat} {p : Int} {t : Tree} {n : Nat} {q : Int} {y : Tree} (h : Sub off p t n q y) {m : Nat} {r : Int} {z : Tree} (h2 : Sub n q y m r z) : Sub off p t m r z := by
  induction h with
  | self => exact h2
  | kid a b k hk _ ih => exact .kid a b k hk (ih h2)

/-- Some tree lies at each place. -/
theorem sub_all : ∀ (sz : Nat) (t : Tree) (off : Nat) (p : Int) (n : Nat), t.cnt ≤ sz → off ≤ n → n < off + t.cnt → ∃ q y, Sub off p t n q y := by
  intro sz
  induction sz with
  | zero => intro t off p n h; have := t.cnt_pos; omega
  | succ sz ih =>
    intro t off p n h h1 h2
    by_cases e : n = off
    · subst e; exact ⟨_, _, .self _ _ _⟩
    · have key : ∀ (ks a : List Tree), t.kids = a ++ ks → off + 1 + cntT a ≤ n → n < off + 1 + cntT a + cntT ks → ∃ q y, Sub off p t n q y := by
        intro ks
        induction ks with
        | nil => intro a _ h3 h4; simp [cntT] at h4; omega
        | cons k ks ihk =>
          intro a hk h3 h4
          by_cases hlt : n < off + 1 + cntT a + k.cnt
          · have hc := t.cnt_eq
            rw [hk, cntT_app] at hc
            simp only [cntT] at hc
            obtain ⟨q, y, hs⟩ := ih k (off + 1 + cntT a) off n (by omega) h3 hlt
            exact ⟨q, y, .kid a ks k hk hs⟩
          · simp only [cntT] at h4
            refine ihk (a ++ [k]) (by rw [hk]; simp) ?_ ?_
            · rw [cntT_app]; simp only [cntT]; omega
            · rw [cntT_app]; simp only [cntT]; omega
      refine key t.kids [] rfl ?_ ?_
      · simp [cntT]; omega
      · have := t.cnt_eq; simp [cntT]; omega

theorem Lies.node {d : Doc} {n : Nat} {q : Int} {y : Tree} (h : Lies d n q y) : d[n]? = some (y.node n q) := by
  obtain ⟨post, h⟩ := h
  rw [y.flat_eq] at h
  exact (drop_mem h).1
theorem Lies.len {d : Doc} {n : Nat} {q : Int} {y : Tree} (h : Lies d n q y) : n + y.cnt ≤ d.length := by
  obtain ⟨post, h⟩ := h
  have := congrArg List.length h
  rw [List.length_drop, List.length_append, y.flat_len] at this
  have := y.cnt_pos
  omega
theorem Lies.kid {d : Doc} {n : Nat} {q : Int} {y : Tree} (h : Lies d n q y) (a b : List Tree) (k : Tree) (hk : y.kids = a ++ k :: b) : Lies d (n + 1 + cntT a) n k :=
  (Sub.kid (off := n) (p := q) a b k hk (.self _ _ _)).lies d h
theorem Lies.uniq {d : Doc} {n : Nat} {q q' : Int} {y y' : Tree} (h : Lies d n q y) (h' : Lies d n q' y') : y = y' ∧ q = q' := by
  have e : q = q' := by
    have := h.node.symm.trans h'.node
    simp only [Option.some.injEq] at this
    exact congrArg Node.parent this
  subst e
  obtain ⟨post, h⟩ := h
  obtain ⟨post', h'⟩ := h'
  exact ⟨y.flat_inj y' n q post post' (h.symm.trans h'), rfl⟩

theorem lies_doc {t : Tree} {n : Nat} (h : n < (docOf t).length) : ∃ q y, Lies (docOf t) n q y ∧ Sub 0 (-1) t n q y := by
  rw [docOf_len] at h
  obtain ⟨q, y, hs⟩ := sub_all t.cnt t 0 (-1) n (Nat.le_refl _) (Nat.zero_le _) (by omega)
  exact ⟨q, y, hs.lies _ ⟨[], by simp [docOf]⟩, hs⟩

/-! What is below a good tree is fine. -/
theorem fines_mem : ∀ {p : Option Bool} {l : List Tree}, fines p l = true → ∀ x ∈ l, x.fine = true
  | _, [], _, x, hx => by simp at hx
  | p, y :: r, h, x, hx => by
    simp only [fines, Bool.and_eq_true] at h
    simp only [List.mem_cons] at hx
    rcases hx with rfl | hx
    · exact h.1
    · exact fines_mem h.2.2 x hx
theorem Tree.fine_kids {x : Tree} (h : x.fine = true) : fines none x.kids = true := by
  cases ht : x.text with
  | true =>
    rw [x.fine_t ht] at h
    simp only [Bool.and_eq_true, beq_iff_eq, List.length_eq_zero_iff] at h
    rw [h.2.2.2]; rfl
  | false =>
    rw [x.fine_e ht] at h
    simp only [Bool.and_eq_true] at h
    exact h.2.2
theorem Sub.fine {off : Nat} {p : Int} {t : Tree} {n : Nat} {q : Int} {y : Tree} (h : Sub off p t n q y) : t.fine = true → y.fine = true := by
  induction h with
  | self => exact id
  | kid a b k hk _ ih => exact fun h => ih (fines_mem (Tree.fine_kids h) k (by rw [hk]; simp))
theorem Tree.fine_text {x : Tree} (h : x.fine = true) (ht : x.text = true) : x.kids = [] ∧ x.attrs = [] ∧ x.s ≠ [] := by
  rw [x.fine_t ht] at h
  simp only [Bool.and_eq_true, beq_iff_eq, List.length_eq_zero_iff, bne_iff_ne] at h
  exact ⟨h.2.2.2, h.2.2.1, h.2.1⟩

/-! What is said. -/
mutual
def Tree.told : Tree → Bs
  | .mk t s _ ks => (if t then s else []) ++ toldT ks
def toldT : List Tree → Bs
  | [] => []
  | x :: r => x.told ++ toldT r
end
def Node.told (x : Node) : Bs := if x.text then x.s else []
mutual
theorem Tree.told_flat (off : Nat) (p : Int) : ∀ x : Tree, (x.flat off p).flatMap Node.told = x.told
  | .mk t s as ks => by simp only [Tree.flat, List.flatMap_cons, Node.told, Tree.told, toldT_flats (off + 1) off ks]
theorem toldT_flats (off : Nat) (p : Nat) : ∀ xs : List Tree, (flats off p xs).flatMap Node.told = toldT xs
  | [] => rfl
  | x :: r => by simp only [flats, List.flatMap_append, toldT, x.told_flat, toldT_flats _ p r]
end
theorem Lies.told {d : Doc} {n : Nat} {q : Int} {y : Tree} (h : Lies d n q y) : ((d.drop n).take y.cnt).flatMap Node.told = y.told := by
  obtain ⟨post, h⟩ := h
  rw [h, List.take_append_of_le_length (by rw [y.flat_len]; exact Nat.le_refl _), List.take_of_length_le (by rw [y.flat_len]; exact Nat.le_refl _), y.told_flat]

end Go.Am

/- Content; what is told; sameness, once more. -/
namespace Go.Am
open Go Go.RowKit

def c_tree_Content (f_tree_Size f_tree_fines : Nat) : AC :=
(.seq (.reg [⟨(some 2), none, (.mov (.c (.bool false)))⟩]) (.seq (.reg [⟨(some 3), none, (.mov (.c (.int .i64 0)))⟩]) (.seq (.seq (.reg [⟨(some 8), none, (.mov (.t 0))⟩, ⟨(some 9), none, (.len (.t 8))⟩, ⟨(some 10), none, (.mov (.c (.int .i64 0)))⟩]) (.block 0 (.loop (.seq (.reg [⟨(some 11), none, (.bin .lss (.t 10) (.t 9))⟩]) (.seq (.cond (.t 11) .skip (.exit 0)) (.seq (.block 1 (.seq (.reg [⟨(some 12), none, (.ixa (.t 8) (.t 10) 4)⟩, ⟨(some 13), none, (.load (some 4) (.t 12))⟩, ⟨(some 5), none, (.new [(.bool false), (.str []), .nil0, .nil0])⟩, ⟨none, none, (.store 4 (.t 5) (.t 13))⟩]) (.seq (.reg [⟨(some 15), none, (.load (some 4) (.t 5))⟩, ⟨(some 16), none, (.call f_tree_Size [(.t 15)])⟩, ⟨(some 14), none, (.mov (.t 16))⟩, ⟨(some 17), none, (.ext (.t 14) 0)⟩, ⟨(some 18), none, (.ext (.t 14) 1)⟩, ⟨(some 6), none, (.mov (.t 17))⟩, ⟨(some 7), none, (.mov (.t 18))⟩]) (.seq (.seq (.reg [⟨(some 19), none, (.mov (.t 6))⟩, ⟨(some 20), none, (.bin .gtr (.t 19) (.c (.int .i64 8)))⟩]) (.cond (.t 20) (.seq (.reg [⟨(some 2), none, (.mov (.c (.bool false)))⟩]) .ret) .skip)) (.reg [⟨(some 21), none, (.mov (.t 3))⟩, ⟨(some 22), none, (.mov (.t 7))⟩, ⟨(some 23), none, (.bin .add (.t 21) (.t 22))⟩, ⟨(some 3), none, (.mov (.t 23))⟩]))))) (.reg [⟨(some 24), none, (.bin .add (.t 10) (.c (.int .i64 1)))⟩, ⟨(some 10), none, (.mov (.t 24))⟩]))))))) (.seq (.reg [⟨(some 25), none, (.mov (.t 3))⟩, ⟨(some 26), none, (.bin .leq (.t 25) (.c (.int .i64 80)))⟩, ⟨(some 27), none, (.mov (.t 26))⟩, ⟨(some 28), (some (27, true)), (.mov (.t 0))⟩, ⟨(some 29), (some (27, true)), (.call f_tree_fines [(.t 28)])⟩, ⟨(some 30), none, (.pick (.t 27) (.t 29) (.c (.bool false)))⟩, ⟨(some 2), none, (.mov (.t 30))⟩]) .ret))))

/-- May trees be put in? -/
def content (l : List Tree) : Bool := l.all (fun x => decide (x.dep ≤ 8)) && (decide (cntT l ≤ 80) && fines none l)

theorem pContent {P : Program} {G : Nat → Option (List IV)} {f_tree_Content f_tree_Size f_tree_fines : Nat} (hF : compF P G f_tree_Content = some (31, [(none, 2)], (c_tree_Content f_tree_Size f_tree_fines).bare)) (l : List Tree) (hx : wtT l ≤ B)
    (hS : ∀ x ∈ l, PureC P G f_tree_Size [x.av] (.tup [.int .i64 x.dep, .int .i64 x.cnt])) (hFs : PureC P G f_tree_fines [.list (ivT l)] (.bool (fines none l))) : PureC P G f_tree_Content [.list (ivT l)] (.bool (content l)) := by
  refine pure_of_go hF (by simp) (by simp [lbss, AV.lbs]) (by simp [AV.lbs]) ?_
  have hl := wtT_len l
  unfold c_tree_Content
  simp only [↓evs, evp, evq, evl, boxK, ↓a1_still, stillV, ↓af_still, ↓af_load, ↓af_store, ↓af_app, ↓af_new, ↓af_box, binV, AV.cells, Lb.loc.injEq, loadV, storeV, ldV, AV.stb, AV.one, IV.av1, Lb.app, Lb.fresh, reduceCtorEq, Bool.false_eq_true, ptrL, appL, fillA, chunks, ivs, AV.iv, mkE, if_false, if_true, List.not_mem_nil, forall_eq, Nat.reduceEqDiff, Nat.reduceLT, Nat.reduceLeDiff, Nat.reduceAdd, Nat.reduceMul, Int.reduceToNat, Int.reduceLE, Int.reduceLT, Int.le_refl, Int.toNat_zero, beq_self_eq_true, ivT_len]
  refine loop_data (σ := { i : Nat // i ≤ l.length ∧ (l.take i).all (fun x => decide (x.dep ≤ 8)) = true }) (fun q => [(0, .list (ivT l)), (3, .int .i64 (cntT (l.take q.1))), (8, .list (ivT l)), (9, .int .i64 l.length), (10, .int .i64 q.1)]) (fun q => l.length - q.1) ⟨0, by simp⟩ (fun _ => rfl) ?_ ?_
  · exact ⟨by simp only [↓evs, evp, evq, evl, boxK, ↓a1_still, stillV, ↓af_still, ↓af_load, ↓af_store, ↓af_app, ↓af_new, ↓af_box, binV, AV.cells, Lb.loc.injEq, loadV, storeV, ldV, AV.stb, AV.one, IV.av1, Lb.app, Lb.fresh, reduceCtorEq, Bool.false_eq_true, ptrL, appL, fillA, chunks, ivs, AV.iv, mkE, if_false, if_true, List.not_mem_nil, forall_eq, Nat.reduceEqDiff, Nat.reduceLT, Nat.reduceLeDiff, Nat.reduceAdd, Nat.reduceMul, Int.reduceToNat, Int.reduceLE, Int.reduceLT, Int.le_refl, Int.toNat_zero, beq_self_eq_true], by repeat' constructor⟩
  · rintro ⟨i, hi, hs⟩
    simp only [↓evs, evp, evq, evl, boxK, ↓a1_still, stillV, ↓af_still, ↓af_load, ↓af_store, ↓af_app, ↓af_new, ↓af_box, binV, AV.cells, Lb.loc.injEq, loadV, storeV, ldV, AV.stb, AV.one, IV.av1, Lb.app, Lb.fresh, reduceCtorEq, Bool.false_eq_true, ptrL, appL, fillA, chunks, ivs, AV.iv, mkE, if_false, if_true, List.not_mem_nil, forall_eq, Nat.reduceEqDiff, Nat.reduceLT, Nat.reduceLeDiff, Nat.reduceAdd, Nat.reduceMul, Int.reduceToNat, Int.reduceLE, Int.reduceLT, Int.le_refl, Int.toNat_zero, beq_self_eq_true, ivT_len]
    refine cK_b (fun h => ?_) (fun h => ?_)
    · have hlt : i < l.length := by simpa using h
      obtain ⟨x, hxi⟩ : ∃ x, l[i]? = some x := ⟨_, List.getElem?_eq_getElem hlt⟩
      have hw : IntKind.i64.wrap ((i : Int) + 1) = ((i + 1 : Nat) : Int) := wrap64 (by omega) (by unfold B at hx; omega)
      have h2 := wtT_take l i
      have h3 := cntT_le (l.take i)
      have h5 := wtT_get _ _ _ hxi
      have h6 := x.cnt_le
      have h1 : l.take (i + 1) = l.take i ++ [x] := by rw [List.take_add_one, hxi]; rfl
      have hc : IntKind.i64.wrap ((cntT (l.take i) : Int) + (x.cnt : Int)) = ((cntT (l.take (i + 1)) : Nat) : Int) := by
        rw [wrap64 (by omega) (by unfold B at hx; omega), h1, cntT_app]; simp [cntT]
      simp only [↓evs, evp, evq, evl, boxK, ↓a1_still, stillV, ↓af_still, ↓af_load, ↓af_store, ↓af_app, ↓af_new, ↓af_box, binV, AV.cells, Lb.loc.injEq, loadV, storeV, ldV, AV.stb, AV.one, IV.av1, Lb.app, Lb.fresh, reduceCtorEq, Bool.false_eq_true, ptrL, appL, fillA, chunks, ivs, AV.iv, mkE, if_false, if_true, List.not_mem_nil, forall_eq, Nat.reduceEqDiff, Nat.reduceLT, Nat.reduceLeDiff, Nat.reduceAdd, Nat.reduceMul, Int.reduceToNat, Int.reduceLE, Int.reduceLT, Int.le_refl, Int.toNat_zero, beq_self_eq_true, ivT_get, hxi, elszT, Tree.cells_eq, Tree.cs]

      refine callT_pure (hS x (List.mem_of_getElem? hxi)) ?_
      simp only [↓evs, evp, evq, evl, boxK, ↓a1_still, stillV, ↓af_still, ↓af_load, ↓af_store, ↓af_app, ↓af_new, ↓af_box, binV, AV.cells, Lb.loc.injEq, loadV, storeV, ldV, AV.stb, AV.one, IV.av1, Lb.app, Lb.fresh, reduceCtorEq, Bool.false_eq_true, ptrL, appL, fillA, chunks, ivs, AV.iv, mkE, if_false, if_true, List.not_mem_nil, forall_eq, Nat.reduceEqDiff, Nat.reduceLT, Nat.reduceLeDiff, Nat.reduceAdd, Nat.reduceMul, Int.reduceToNat, Int.reduceLE, Int.reduceLT, Int.le_refl, Int.toNat_zero, beq_self_eq_true]
      refine cK_b (fun h9 => ?_) (fun h9 => ?_)
      · simp only [↓evs, evp, evq, evl, boxK, ↓a1_still, stillV, ↓af_still, ↓af_load, ↓af_store, ↓af_app, ↓af_new, ↓af_box, binV, AV.cells, Lb.loc.injEq, loadV, storeV, ldV, AV.stb, AV.one, IV.av1, Lb.app, Lb.fresh, reduceCtorEq, Bool.false_eq_true, ptrL, appL, fillA, chunks, ivs, AV.iv, mkE, if_false, if_true, List.not_mem_nil, forall_eq, Nat.reduceEqDiff, Nat.reduceLT, Nat.reduceLeDiff, Nat.reduceAdd, Nat.reduceMul, Int.reduceToNat, Int.reduceLE, Int.reduceLT, Int.le_refl, Int.toNat_zero, beq_self_eq_true]
        have : l.all (fun x => decide (x.dep ≤ 8)) = false := by
          rw [Bool.eq_false_iff]
          intro hall
          have := List.all_eq_true.1 hall x (List.mem_of_getElem? hxi)
          simp at this h9; omega
        rw [content, this]; rfl
      · simp only [↓evs, evp, evq, evl, boxK, ↓a1_still, stillV, ↓af_still, ↓af_load, ↓af_store, ↓af_app, ↓af_new, ↓af_box, binV, AV.cells, Lb.loc.injEq, loadV, storeV, ldV, AV.stb, AV.one, IV.av1, Lb.app, Lb.fresh, reduceCtorEq, Bool.false_eq_true, ptrL, appL, fillA, chunks, ivs, AV.iv, mkE, if_false, if_true, List.not_mem_nil, forall_eq, Nat.reduceEqDiff, Nat.reduceLT, Nat.reduceLeDiff, Nat.reduceAdd, Nat.reduceMul, Int.reduceToNat, Int.reduceLE, Int.reduceLT, Int.le_refl, Int.toNat_zero, beq_self_eq_true, hw, hc]
        refine ⟨⟨i + 1, hlt, ?_⟩, by simp only; omega, by simp only [↓evs, evp, evq, evl, boxK, ↓a1_still, stillV, ↓af_still, ↓af_load, ↓af_store, ↓af_app, ↓af_new, ↓af_box, binV, AV.cells, Lb.loc.injEq, loadV, storeV, ldV, AV.stb, AV.one, IV.av1, Lb.app, Lb.fresh, reduceCtorEq, Bool.false_eq_true, ptrL, appL, fillA, chunks, ivs, AV.iv, mkE, if_false, if_true, List.not_mem_nil, forall_eq, Nat.reduceEqDiff, Nat.reduceLT, Nat.reduceLeDiff, Nat.reduceAdd, Nat.reduceMul, Int.reduceToNat, Int.reduceLE, Int.reduceLT, Int.le_refl, Int.toNat_zero, beq_self_eq_true], by repeat' constructor⟩
        rw [h1, List.all_append, hs]
        simp at h9 ⊢; omega
    · have hil : i = l.length := by simp at h; omega
      subst hil
      rw [List.take_length] at hs
      simp only [↓evs, evp, evq, evl, boxK, ↓a1_still, stillV, ↓af_still, ↓af_load, ↓af_store, ↓af_app, ↓af_new, ↓af_box, binV, AV.cells, Lb.loc.injEq, loadV, storeV, ldV, AV.stb, AV.one, IV.av1, Lb.app, Lb.fresh, reduceCtorEq, Bool.false_eq_true, ptrL, appL, fillA, chunks, ivs, AV.iv, mkE, if_false, if_true, List.not_mem_nil, forall_eq, Nat.reduceEqDiff, Nat.reduceLT, Nat.reduceLeDiff, Nat.reduceAdd, Nat.reduceMul, Int.reduceToNat, Int.reduceLE, Int.reduceLT, Int.le_refl, Int.toNat_zero, beq_self_eq_true, List.take_length]
      cases h9 : decide ((cntT l : Int) ≤ 80) with
      | true =>
        simp only [↓evs, evp, evq, evl, boxK, ↓a1_still, stillV, ↓af_still, ↓af_load, ↓af_store, ↓af_app, ↓af_new, ↓af_box, binV, AV.cells, Lb.loc.injEq, loadV, storeV, ldV, AV.stb, AV.one, IV.av1, Lb.app, Lb.fresh, reduceCtorEq, Bool.false_eq_true, ptrL, appL, fillA, chunks, ivs, AV.iv, mkE, if_false, if_true, List.not_mem_nil, forall_eq, Nat.reduceEqDiff, Nat.reduceLT, Nat.reduceLeDiff, Nat.reduceAdd, Nat.reduceMul, Int.reduceToNat, Int.reduceLE, Int.reduceLT, Int.le_refl, Int.toNat_zero, beq_self_eq_true]
        refine callT_pure hFs ?_
        simp only [↓evs, evp, evq, evl, boxK, ↓a1_still, stillV, ↓af_still, ↓af_load, ↓af_store, ↓af_app, ↓af_new, ↓af_box, binV, AV.cells, Lb.loc.injEq, loadV, storeV, ldV, AV.stb, AV.one, IV.av1, Lb.app, Lb.fresh, reduceCtorEq, Bool.false_eq_true, ptrL, appL, fillA, chunks, ivs, AV.iv, mkE, if_false, if_true, List.not_mem_nil, forall_eq, Nat.reduceEqDiff, Nat.reduceLT, Nat.reduceLeDiff, Nat.reduceAdd, Nat.reduceMul, Int.reduceToNat, Int.reduceLE, Int.reduceLT, Int.le_refl, Int.toNat_zero, beq_self_eq_true]
        have : decide (cntT l ≤ 80) = true := by simp at h9 ⊢; omega
        rw [content, hs, this]; rfl
      | false =>
        simp only [↓evs, evp, evq, evl, boxK, ↓a1_still, stillV, ↓af_still, ↓af_load, ↓af_store, ↓af_app, ↓af_new, ↓af_box, binV, AV.cells, Lb.loc.injEq, loadV, storeV, ldV, AV.stb, AV.one, IV.av1, Lb.app, Lb.fresh, reduceCtorEq, Bool.false_eq_true, ptrL, appL, fillA, chunks, ivs, AV.iv, mkE, if_false, if_true, List.not_mem_nil, forall_eq, Nat.reduceEqDiff, Nat.reduceLT, Nat.reduceLeDiff, Nat.reduceAdd, Nat.reduceMul, Int.reduceToNat, Int.reduceLE, Int.reduceLT, Int.le_refl, Int.toNat_zero, beq_self_eq_true]
        have : decide (cntT l ≤ 80) = false := by simp at h9 ⊢; omega
        rw [content, hs, this]; rfl

def c_topiarykeep_told (f_topiarykeep_told : Nat) : AC :=
(.seq (.reg [⟨(some 2), none, (.mov (.c (.str [])))⟩]) (.seq (.reg [⟨(some 3), none, (.mov (.c (.str [])))⟩]) (.seq (.seq (.reg [⟨(some 6), none, (.mov (.t 0))⟩, ⟨(some 7), none, (.len (.t 6))⟩, ⟨(some 8), none, (.mov (.c (.int .i64 0)))⟩]) (.block 0 (.loop (.seq (.reg [⟨(some 9), none, (.bin .lss (.t 8) (.t 7))⟩]) (.seq (.cond (.t 9) .skip (.exit 0)) (.seq (.block 1 (.seq (.reg [⟨(some 10), none, (.ixa (.t 6) (.t 8) 4)⟩, ⟨(some 11), none, (.load (some 4) (.t 10))⟩, ⟨(some 5), none, (.new [(.bool false), (.str []), .nil0, .nil0])⟩, ⟨none, none, (.store 4 (.t 5) (.t 11))⟩]) (.seq (.seq (.reg [⟨(some 12), none, (.fld (.t 5) 0)⟩, ⟨(some 13), none, (.load none (.t 12))⟩]) (.cond (.t 13) (.reg [⟨(some 14), none, (.mov (.t 3))⟩, ⟨(some 15), none, (.fld (.t 5) 1)⟩, ⟨(some 16), none, (.load none (.t 15))⟩, ⟨(some 17), none, (.bin .add (.t 14) (.t 16))⟩, ⟨(some 3), none, (.mov (.t 17))⟩]) .skip)) (.reg [⟨(some 18), none, (.mov (.t 3))⟩, ⟨(some 19), none, (.fld (.t 5) 3)⟩, ⟨(some 20), none, (.load none (.t 19))⟩, ⟨(some 21), none, (.call f_topiarykeep_told [(.t 20)])⟩, ⟨(some 22), none, (.bin .add (.t 18) (.t 21))⟩, ⟨(some 3), none, (.mov (.t 22))⟩])))) (.reg [⟨(some 23), none, (.bin .add (.t 8) (.c (.int .i64 1)))⟩, ⟨(some 8), none, (.mov (.t 23))⟩]))))))) (.seq (.reg [⟨(some 24), none, (.mov (.t 3))⟩, ⟨(some 2), none, (.mov (.t 24))⟩]) .ret))))

theorem toldT_snoc (xs : List Tree) (x : Tree) : toldT (xs ++ [x]) = toldT xs ++ x.told := by
  induction xs with
  | nil => simp [toldT]
  | cons y r ih => simp [toldT, ih]
mutual
theorem Tree.told_le : ∀ x : Tree, x.told.length ≤ x.wt
  | .mk t s as ks => by
    have := toldT_le ks
    simp only [Tree.told, Tree.wt, List.length_append]
    split <;> simp <;> omega
theorem toldT_le : ∀ xs : List Tree, (toldT xs).length ≤ wtT xs
  | [] => by simp [toldT]
  | x :: r => by have := x.told_le; have := toldT_le r; simp only [toldT, wtT, List.length_append]; omega
end
theorem Tree.told_eq (x : Tree) : x.told = (if x.text then x.s else []) ++ toldT x.kids := by
  cases x with
  | mk t s as ks => cases t <;> rfl

theorem pTold {P : Program} {G : Nat → Option (List IV)} {f_topiarykeep_told : Nat} (hF : compF P G f_topiarykeep_told = some (25, [(none, 2)], (c_topiarykeep_told f_topiarykeep_told).bare)) (l : List Tree) (hx : wtT l ≤ B)
    (hT : ∀ x ∈ l, PureC P G f_topiarykeep_told [.list (ivT x.kids)] (.str (toldT x.kids))) : PureC P G f_topiarykeep_told [.list (ivT l)] (.str (toldT l)) := by
  refine pure_of_go hF (by simp) (by simp [lbss, AV.lbs]) (by simp [AV.lbs]) ?_
  have hl := wtT_len l
  unfold c_topiarykeep_told
  simp only [↓evs, evp, evq, evl, boxK, ↓a1_still, stillV, ↓af_still, ↓af_load, ↓af_store, ↓af_app, ↓af_new, ↓af_box, binV, AV.cells, Lb.loc.injEq, loadV, storeV, ldV, AV.stb, AV.one, IV.av1, Lb.app, Lb.fresh, reduceCtorEq, Bool.false_eq_true, ptrL, appL, fillA, chunks, ivs, AV.iv, mkE, if_false, if_true, List.not_mem_nil, forall_eq, Nat.reduceEqDiff, Nat.reduceLT, Nat.reduceLeDiff, Nat.reduceAdd, Nat.reduceMul, Int.reduceToNat, Int.reduceLE, Int.reduceLT, Int.le_refl, Int.toNat_zero, beq_self_eq_true, ivT_len]
  refine loop_data (σ := { i : Nat // i ≤ l.length }) (fun q => [(3, .str (toldT (l.take q.1))), (6, .list (ivT l)), (7, .int .i64 l.length), (8, .int .i64 q.1)]) (fun q => l.length - q.1) ⟨0, by simp⟩ (fun _ => rfl) ?_ ?_
  · exact ⟨by simp only [↓evs, evp, evq, evl, boxK, ↓a1_still, stillV, ↓af_still, ↓af_load, ↓af_store, ↓af_app, ↓af_new, ↓af_box, binV, AV.cells, Lb.loc.injEq, loadV, storeV, ldV, AV.stb, AV.one, IV.av1, Lb.app, Lb.fresh, reduceCtorEq, Bool.false_eq_true, ptrL, appL, fillA, chunks, ivs, AV.iv, mkE, if_false, if_true, List.not_mem_nil, forall_eq, Nat.reduceEqDiff, Nat.reduceLT, Nat.reduceLeDiff, Nat.reduceAdd, Nat.reduceMul, Int.reduceToNat, Int.reduceLE, Int.reduceLT, Int.le_refl, Int.toNat_zero, beq_self_eq_true], by repeat' constructor⟩
  · rintro ⟨i, hi⟩
    simp only [↓evs, evp, evq, evl, boxK, ↓a1_still, stillV, ↓af_still, ↓af_load, ↓af_store, ↓af_app, ↓af_new, ↓af_box, binV, AV.cells, Lb.loc.injEq, loadV, storeV, ldV, AV.stb, AV.one, IV.av1, Lb.app, Lb.fresh, reduceCtorEq, Bool.false_eq_true, ptrL, appL, fillA, chunks, ivs, AV.iv, mkE, if_false, if_true, List.not_mem_nil, forall_eq, Nat.reduceEqDiff, Nat.reduceLT, Nat.reduceLeDiff, Nat.reduceAdd, Nat.reduceMul, Int.reduceToNat, Int.reduceLE, Int.reduceLT, Int.le_refl, Int.toNat_zero, beq_self_eq_true, ivT_len]
    refine cK_b (fun h => ?_) (fun h => ?_)
    · have hlt : i < l.length := by simpa using h
      obtain ⟨x, hxi⟩ : ∃ x, l[i]? = some x := ⟨_, List.getElem?_eq_getElem hlt⟩
      have hw : IntKind.i64.wrap ((i : Int) + 1) = ((i + 1 : Nat) : Int) := wrap64 (by omega) (by unfold B at hx; omega)
      have h2 := wtT_take l i
      have h3 := toldT_le (l.take i)
      have h5 := wtT_get _ _ _ hxi
      have h6 := x.told_le
      have h7 := toldT_le x.kids
      have h8 := x.wt_eq
      have h1 : l.take (i + 1) = l.take i ++ [x] := by rw [List.take_add_one, hxi]; rfl
      have e1 : toldT (l.take (i + 1)) = toldT (l.take i) ++ x.told := by rw [h1, toldT_snoc]
      have a1 : (toldT (l.take i)).length + x.s.length ≤ 9223372036854775807 := by unfold B at hx; omega
      have a2 : (toldT (l.take i)).length + (toldT x.kids).length ≤ 9223372036854775807 := by unfold B at hx; omega
      have a3 : (toldT (l.take i) ++ x.s).length + (toldT x.kids).length ≤ 9223372036854775807 := by rw [List.length_append]; unfold B at hx; omega
      simp only [↓evs, evp, evq, evl, boxK, ↓a1_still, stillV, ↓af_still, ↓af_load, ↓af_store, ↓af_app, ↓af_new, ↓af_box, binV, AV.cells, Lb.loc.injEq, loadV, storeV, ldV, AV.stb, AV.one, IV.av1, Lb.app, Lb.fresh, reduceCtorEq, Bool.false_eq_true, ptrL, appL, fillA, chunks, ivs, AV.iv, mkE, if_false, if_true, List.not_mem_nil, forall_eq, Nat.reduceEqDiff, Nat.reduceLT, Nat.reduceLeDiff, Nat.reduceAdd, Nat.reduceMul, Int.reduceToNat, Int.reduceLE, Int.reduceLT, Int.le_refl, Int.toNat_zero, beq_self_eq_true, ivT_get, hxi, elszT, Tree.cells_eq, Tree.cs]
      cases ht : x.text with
      | true =>
        have e2 : toldT (l.take i) ++ x.s ++ toldT x.kids = toldT (l.take (i + 1)) := by rw [e1, x.told_eq, ht]; simp
        simp only [↓evs, evp, evq, evl, boxK, ↓a1_still, stillV, ↓af_still, ↓af_load, ↓af_store, ↓af_app, ↓af_new, ↓af_box, binV, AV.cells, Lb.loc.injEq, loadV, storeV, ldV, AV.stb, AV.one, IV.av1, Lb.app, Lb.fresh, reduceCtorEq, Bool.false_eq_true, ptrL, appL, fillA, chunks, ivs, AV.iv, mkE, if_false, if_true, List.not_mem_nil, forall_eq, Nat.reduceEqDiff, Nat.reduceLT, Nat.reduceLeDiff, Nat.reduceAdd, Nat.reduceMul, Int.reduceToNat, Int.reduceLE, Int.reduceLT, Int.le_refl, Int.toNat_zero, beq_self_eq_true, a1]
        refine callT_pure (hT x (List.mem_of_getElem? hxi)) ?_
        simp only [↓evs, evp, evq, evl, boxK, ↓a1_still, stillV, ↓af_still, ↓af_load, ↓af_store, ↓af_app, ↓af_new, ↓af_box, binV, AV.cells, Lb.loc.injEq, loadV, storeV, ldV, AV.stb, AV.one, IV.av1, Lb.app, Lb.fresh, reduceCtorEq, Bool.false_eq_true, ptrL, appL, fillA, chunks, ivs, AV.iv, mkE, if_false, if_true, List.not_mem_nil, forall_eq, Nat.reduceEqDiff, Nat.reduceLT, Nat.reduceLeDiff, Nat.reduceAdd, Nat.reduceMul, Int.reduceToNat, Int.reduceLE, Int.reduceLT, Int.le_refl, Int.toNat_zero, beq_self_eq_true, a3, e2, hw]
        exact ⟨⟨i + 1, hlt⟩, by simp only; omega, by simp only [↓evs, evp, evq, evl, boxK, ↓a1_still, stillV, ↓af_still, ↓af_load, ↓af_store, ↓af_app, ↓af_new, ↓af_box, binV, AV.cells, Lb.loc.injEq, loadV, storeV, ldV, AV.stb, AV.one, IV.av1, Lb.app, Lb.fresh, reduceCtorEq, Bool.false_eq_true, ptrL, appL, fillA, chunks, ivs, AV.iv, mkE, if_false, if_true, List.not_mem_nil, forall_eq, Nat.reduceEqDiff, Nat.reduceLT, Nat.reduceLeDiff, Nat.reduceAdd, Nat.reduceMul, Int.reduceToNat, Int.reduceLE, Int.reduceLT, Int.le_refl, Int.toNat_zero, beq_self_eq_true], by repeat' constructor⟩
      | false =>
        have e2 : toldT (l.take i) ++ toldT x.kids = toldT (l.take (i + 1)) := by rw [e1, x.told_eq, ht]; simp
        simp only [↓evs, evp, evq, evl, boxK, ↓a1_still, stillV, ↓af_still, ↓af_load, ↓af_store, ↓af_app, ↓af_new, ↓af_box, binV, AV.cells, Lb.loc.injEq, loadV, storeV, ldV, AV.stb, AV.one, IV.av1, Lb.app, Lb.fresh, reduceCtorEq, Bool.false_eq_true, ptrL, appL, fillA, chunks, ivs, AV.iv, mkE, if_false, if_true, List.not_mem_nil, forall_eq, Nat.reduceEqDiff, Nat.reduceLT, Nat.reduceLeDiff, Nat.reduceAdd, Nat.reduceMul, Int.reduceToNat, Int.reduceLE, Int.reduceLT, Int.le_refl, Int.toNat_zero, beq_self_eq_true]
        refine callT_pure (hT x (List.mem_of_getElem? hxi)) ?_
        simp only [↓evs, evp, evq, evl, boxK, ↓a1_still, stillV, ↓af_still, ↓af_load, ↓af_store, ↓af_app, ↓af_new, ↓af_box, binV, AV.cells, Lb.loc.injEq, loadV, storeV, ldV, AV.stb, AV.one, IV.av1, Lb.app, Lb.fresh, reduceCtorEq, Bool.false_eq_true, ptrL, appL, fillA, chunks, ivs, AV.iv, mkE, if_false, if_true, List.not_mem_nil, forall_eq, Nat.reduceEqDiff, Nat.reduceLT, Nat.reduceLeDiff, Nat.reduceAdd, Nat.reduceMul, Int.reduceToNat, Int.reduceLE, Int.reduceLT, Int.le_refl, Int.toNat_zero, beq_self_eq_true, a2, e2, hw]
        exact ⟨⟨i + 1, hlt⟩, by simp only; omega, by simp only [↓evs, evp, evq, evl, boxK, ↓a1_still, stillV, ↓af_still, ↓af_load, ↓af_store, ↓af_app, ↓af_new, ↓af_box, binV, AV.cells, Lb.loc.injEq, loadV, storeV, ldV, AV.stb, AV.one, IV.av1, Lb.app, Lb.fresh, reduceCtorEq, Bool.false_eq_true, ptrL, appL, fillA, chunks, ivs, AV.iv, mkE, if_false, if_true, List.not_mem_nil, forall_eq, Nat.reduceEqDiff, Nat.reduceLT, Nat.reduceLeDiff, Nat.reduceAdd, Nat.reduceMul, Int.reduceToNat, Int.reduceLE, Int.reduceLT, Int.le_refl, Int.toNat_zero, beq_self_eq_true], by repeat' constructor⟩
    · have hil : i = l.length := by simp at h; omega
      subst hil
      simp only [↓evs, evp, evq, evl, boxK, ↓a1_still, stillV, ↓af_still, ↓af_load, ↓af_store, ↓af_app, ↓af_new, ↓af_box, binV, AV.cells, Lb.loc.injEq, loadV, storeV, ldV, AV.stb, AV.one, IV.av1, Lb.app, Lb.fresh, reduceCtorEq, Bool.false_eq_true, ptrL, appL, fillA, chunks, ivs, AV.iv, mkE, if_false, if_true, List.not_mem_nil, forall_eq, Nat.reduceEqDiff, Nat.reduceLT, Nat.reduceLeDiff, Nat.reduceAdd, Nat.reduceMul, Int.reduceToNat, Int.reduceLE, Int.reduceLT, Int.le_refl, Int.toNat_zero, beq_self_eq_true, List.take_length]

theorem wTold {P : Program} {G : Nat → Option (List IV)} {f_topiarykeep_told : Nat} (hF : compF P G f_topiarykeep_told = some (25, [(none, 2)], (c_topiarykeep_told f_topiarykeep_told).bare)) (l : List Tree) : wtT l ≤ B → PureC P G f_topiarykeep_told [.list (ivT l)] (.str (toldT l)) :=
  byWt (M := fun l => wtT l ≤ B → PureC P G f_topiarykeep_told [.list (ivT l)] (.str (toldT l))) (fun l h hB => pTold hF l hB fun x hx => h x hx (by have := wt_mem hx; have := wt_kids x; omega)) l

end Go.Am
