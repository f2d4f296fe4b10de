import Derived.Test.YtfinkeaikbmpgaaDoorKT13
import Derived.Test.YtfinkeaikbmpgaaDoorKT10
set_option linter.unusedSimpArgs false
set_option linter.unusedVariables false
set_option linter.unnecessarySimpa false
set_option linter.defProp false
/- Documents: what lies where. -/
namespace Go.Am
open Go Go.RowKit
/-- The tree y lies at n, its parent being q, in the tree t that lies at off. -/
inductive Sub : Nat → Int → Tree → Nat → Int → Tree → Prop
  | self (off : Nat) (p : Int) (t : Tree) : Sub off p t off p t
  | kid {off : Nat} {p : Int} {t : Tree} {n : Nat} {q : Int} {y : Tree} (a b : List Tree) (k : Tree) : t.kids = a ++ k :: b → Sub (off + 1 + cntT a) off k n q y → Sub off p t n q y
def Lies (d : Doc) (n : Nat) (q : Int) (y : Tree) : Prop := ∃ post, d.drop n = y.flat n q ++ post
theorem Sub.rng {off : Nat} {p : Int} {t : Tree} {n : Nat} {q : Int} {y : Tree} (h : Sub off p t n q y) : off ≤ n ∧ n + y.cnt ≤ off + t.cnt := by
  induction h with
  | self => exact ⟨Nat.le_refl _, Nat.le_refl _⟩
  | @kid off p t n q y a b k hk _ ih =>
    have h1 := t.cnt_eq
    rw [hk, cntT_app] at h1
    simp only [cntT] at h1
    omega
theorem drop_app {α : Type} {a b c : List α} {n : Nat} (h : a.length = n) : (a ++ b).drop n = b := by subst h; simp
theorem Sub.lies {off : Nat} {p : Int} {t : Tree} {n : Nat} {q : Int} {y : Tree} (h : Sub off p t n q y) : ∀ d : Doc, Lies d off p t → Lies d n q y := by
  induction h with
  | self => exact fun _ h => h
  | @kid off p t n q y a b k hk _ ih =>
    rintro d ⟨post, h⟩
    refine ih d ⟨flats (off + 1 + cntT a + k.cnt) off b ++ post, ?_⟩
    rw [t.flat_eq, hk] at h
    have h2 := (drop_mem h).2
    rw [flats_app] at h2
    have h3 : d.drop (off + 1) = flats (off + 1) off a ++ (flats (off + 1 + cntT a) off (k :: b) ++ post) := by rw [h2]; exact List.append_assoc _ _ _
    rw [← List.drop_drop, h3, drop_app (c := []) (flats_len _ _ _)]
    simp [flats]
theorem Sub.parent {off : Nat} {p : Int} {t : Tree} {n : Nat} {q : Int} {y : Tree} (h : Sub off p t n q y) :
    (n = off ∧ q = p ∧ y = t) ∨ ∃ (m : Nat) (z : Tree) (r : Int), q = (m : Int) ∧ Sub off p t m r z ∧ m < n ∧ n + y.cnt ≤ m + z.cnt ∧ y ∈ z.kids ∧ off ≤ m := by
  induction h with
  | self => exact .inl ⟨rfl, rfl, rfl⟩
  | @kid off p t n q y a b k hk hs ih =>
    right
    rcases ih with ⟨rfl, rfl, rfl⟩ | ⟨m, z, r, e1, e2, e3, e4, e5, e6⟩
    · have h1 := t.cnt_eq
      rw [hk, cntT_app] at h1
      simp only [cntT] at h1
      exact ⟨off, t, p, rfl, .self _ _ _, by omega, by omega, by rw [hk]; simp, Nat.le_refl _⟩
    · exact ⟨m, z, r, e1, .kid a b k hk e2, e3, e4, e5, by omega⟩
theorem Sub.trans {off : Nat} {p : Int} {t : Tree} {n : Nat} {q : Int} {y : Tree} (h : Sub off p t n q y) {m : Nat} {r : Int} {z : Tree} (h2 : Sub n q y m r z) : Sub off p t m r z := by
  induction h with
  | self => exact h2
  | kid a b k hk _ ih => exact .kid a b k hk (ih h2)
/-- Some tree lies at each place. -/
theorem sub_all : ∀ (sz : Nat) (t : Tree) (off : Nat) (p : Int) (n : Nat), t.cnt ≤ sz → off ≤ n → n < off + t.cnt → ∃ q y, Sub off p t n q y := by
  intro sz
  induction sz with
  | zero => intro t off p n h; have := t.cnt_pos; omega
  | succ sz ih =>
    intro t off p n h h1 h2
    by_cases e : n = off
    · subst e; exact ⟨_, _, .self _ _ _⟩
    · have key : ∀ (ks a : List Tree), t.kids = a ++ ks → off + 1 + cntT a ≤ n → n < off + 1 + cntT a + cntT ks → ∃ q y, Sub off p t n q y := by
        intro ks
        induction ks with
        | nil => intro a _ h3 h4; simp [cntT] at h4; omega
        | cons k ks ihk =>
          intro a hk h3 h4
          by_cases hlt : n < off + 1 + cntT a + k.cnt
          · have hc := t.cnt_eq
            rw [hk, cntT_app] at hc
            simp only [cntT] at hc
            obtain ⟨q, y, hs⟩ := ih k (off + 1 + cntT a) off n (by omega) h3 hlt
            exact ⟨q, y, .kid a ks k hk hs⟩
          · simp only [cntT] at h4
            refine ihk (a ++ [k]) (by rw [hk]; simp) ?_ ?_
            · rw [cntT_app]; simp only [cntT]; omega
            · rw [cntT_app]; simp only [cntT]; omega
      refine key t.kids [] rfl ?_ ?_
      · simp [cntT]; omega
      · have := t.cnt_eq; simp [cntT]; omega
theorem Lies.node {d : Doc} {n : Nat} {q : Int} {y : Tree} (h : Lies d n q y) : d[n]? = some (y.node n q) := by
  obtain ⟨post, h⟩ := h
  rw [y.flat_eq] at h
  exact (drop_mem h).1
theorem Lies.len {d : Doc} {n : Nat} {q : Int} {y : Tree} (h : Lies d n q y) : n + y.cnt ≤ d.length := by
  obtain ⟨post, h⟩ := h
  have := congrArg List.length h
  rw [List.length_drop, List.length_append, y.flat_len] at this
  have := y.cnt_pos
  omega
theorem Lies.kid {d : Doc} {n : Nat} {q : Int} {y : Tree} (h : Lies d n q y) (a b : List Tree) (k : Tree) (hk : y.kids = a ++ k :: b) : Lies d (n + 1 + cntT a) n k :=
  (Sub.kid (off := n) (p := q) a b k hk (.self _ _ _)).lies d h
theorem Lies.uniq {d : Doc} {n : Nat} {q q' : Int} {y y' : Tree} (h : Lies d n q y) (h' : Lies d n q' y') : y = y' ∧ q = q' := by
  have e : q = q' := by
    have := h.node.symm.trans h'.node
    simp only [Option.some.injEq] at this
    exact congrArg Node.parent this
  subst e
  obtain ⟨post, h⟩ := h
  obtain ⟨post', h'⟩ := h'
  exact ⟨y.flat_inj y' n q post post' (h.symm.trans h'), rfl⟩
theorem lies_doc {t : Tree} {n : Nat} (h : n < (docOf t).length) : ∃ q y, Lies (docOf t) n q y ∧ Sub 0 (-1) t n q y := by
  rw [docOf_len] at h
  obtain ⟨q, y, hs⟩ := sub_all t.cnt t 0 (-1) n (Nat.le_refl _) (Nat.zero_le _) (by omega)
  exact ⟨q, y, hs.lies _ ⟨[], by simp [docOf]⟩, hs⟩
theorem fines_mem : ∀ {p : Option Bool} {l : List Tree}, fines p l = true → ∀ x ∈ l, x.fine = true
  | _, [], _, x, hx => by simp at hx
  | p, y :: r, h, x, hx => by
    simp only [fines, Bool.and_eq_true] at h
    simp only [List.mem_cons] at hx
    rcases hx with rfl | hx
    · exact h.1
    · exact fines_mem h.2.2 x hx
theorem Tree.fine_kids {x : Tree} (h : x.fine = true) : fines none x.kids = true := by
  cases ht : x.text with
  | true =>
    rw [x.fine_t ht] at h
    simp only [Bool.and_eq_true, beq_iff_eq, List.length_eq_zero_iff] at h
    rw [h.2.2.2]; rfl
  | false =>
    rw [x.fine_e ht] at h
    simp only [Bool.and_eq_true] at h
    exact h.2.2
theorem Sub.fine {off : Nat} {p : Int} {t : Tree} {n : Nat} {q : Int} {y : Tree} (h : Sub off p t n q y) : t.fine = true → y.fine = true := by
  induction h with
  | self => exact id
  | kid a b k hk _ ih => exact fun h => ih (fines_mem (Tree.fine_kids h) k (by rw [hk]; simp))
mutual
def Tree.told : Tree → Bs
  | .mk t s _ ks => (if t then s else []) ++ toldT ks
def toldT : List Tree → Bs
  | [] => []
  | x :: r => x.told ++ toldT r
end
def Node.told (x : Node) : Bs := if x.text then x.s else []
mutual
theorem Tree.told_flat (off : Nat) (p : Int) : ∀ x : Tree, (x.flat off p).flatMap Node.told = x.told
  | .mk t s as ks => by simp only [Tree.flat, List.flatMap_cons, Node.told, Tree.told, toldT_flats (off + 1) off ks]
theorem toldT_flats (off : Nat) (p : Nat) : ∀ xs : List Tree, (flats off p xs).flatMap Node.told = toldT xs
  | [] => rfl
  | x :: r => by simp only [flats, List.flatMap_append, toldT, x.told_flat, toldT_flats _ p r]
end
theorem Lies.told {d : Doc} {n : Nat} {q : Int} {y : Tree} (h : Lies d n q y) : ((d.drop n).take y.cnt).flatMap Node.told = y.told := by
  obtain ⟨post, h⟩ := h
  rw [h, List.take_append_of_le_length (by rw [y.flat_len]; exact Nat.le_refl _), List.take_of_length_le (by rw [y.flat_len]; exact Nat.le_refl _), y.told_flat]
end Go.Am

/- Trees, level by level; how a document is made by a stack. -/
namespace Go.Am
open Go Go.RowKit
def nextT (xs : List Tree) : List Tree := xs.flatMap Tree.kids
theorem nextT_cons (x : Tree) (r : List Tree) : nextT (x :: r) = x.kids ++ nextT r := by simp [nextT]
theorem nextT_dep : ∀ (xs : List Tree), xs ≠ [] → depT xs = depT (nextT xs) + 1
  | [], h => absurd rfl h
  | [x], _ => by simp [nextT, depT, x.dep_eq]
  | x :: y :: r, _ => by
    have := nextT_dep (y :: r) (by simp)
    rw [nextT_cons, depT_app]
    simp only [depT, x.dep_eq] at this ⊢
    omega
theorem nextT_cnt : ∀ (xs : List Tree), cntT xs = xs.length + cntT (nextT xs)
  | [] => by simp [nextT, cntT]
  | x :: r => by rw [nextT_cons, cntT_app]; simp only [cntT, x.cnt_eq, nextT_cnt r, List.length_cons]; omega
theorem nextT_wt : ∀ (xs : List Tree), wtT (nextT xs) + xs.length ≤ wtT xs
  | [] => by simp [nextT, wtT]
  | x :: r => by
    have := nextT_wt r
    have := x.wt_eq
    rw [nextT_cons, wtT_app]; simp only [wtT, List.length_cons]; omega
def posits : Nat → List (Tree × Int) → List (Nat × Int)
  | _, [] => []
  | n, (t, p) :: r => (n, p) :: posits (n + t.cnt) r
def kidsOf (j : Int) (ps : List (Nat × Int)) : List Int := (ps.filter fun x => x.2 == j).map fun x => (x.1 : Int)
def flatsI : Nat → List (Tree × Int) → List Node
  | _, [] => []
  | n, (t, p) :: r => t.flat n p ++ flatsI (n + t.cnt) r
/-- Nodes that stand there already, with the kids that are still to come. -/
def fill (ps : List (Nat × Int)) : Nat → List Node → List Node
  | _, [] => []
  | j, x :: r => { x with kids := x.kids ++ kidsOf j ps } :: fill ps (j + 1) r
def whole (d : List Node) (l : List (Tree × Int)) : List Node := fill (posits d.length l) 0 d ++ flatsI d.length l
theorem posits_app : ∀ (n : Nat) (a b : List (Tree × Int)), posits n (a ++ b) = posits n a ++ posits (n + cntT (a.map Prod.fst)) b
  | n, [], b => by simp [posits, cntT]
  | n, (t, p) :: a, b => by simp only [List.cons_append, posits, posits_app _ a b, List.map_cons, cntT, Nat.add_assoc]
theorem flatsI_app : ∀ (n : Nat) (a b : List (Tree × Int)), flatsI n (a ++ b) = flatsI n a ++ flatsI (n + cntT (a.map Prod.fst)) b
  | n, [], b => by simp [flatsI, cntT]
  | n, (t, p) :: a, b => by simp only [List.cons_append, flatsI, flatsI_app _ a b, List.map_cons, cntT, Nat.add_assoc, List.append_assoc]
theorem posits_kids : ∀ (n m : Nat) (ks : List Tree), kidsOf m (posits n (ks.map fun k => (k, (m : Int)))) = kidsAt n ks
  | n, m, [] => rfl
  | n, m, k :: r => by
    have := posits_kids (n + k.cnt) m r
    simp only [List.map_cons, posits, kidsOf] at this ⊢
    rw [List.filter_cons_of_pos (by simp)]
    simp only [List.map_cons, kidsAt, this]
theorem posits_other : ∀ (n m : Nat) (j : Int) (ks : List Tree), j ≠ m → kidsOf j (posits n (ks.map fun k => (k, (m : Int)))) = []
  | n, m, j, [], _ => rfl
  | n, m, j, k :: r, h => by
    have := posits_other (n + k.cnt) m j r h
    simp only [List.map_cons, posits, kidsOf] at this ⊢
    rw [List.filter_cons_of_neg (by simpa using Ne.symm h)]
    exact this
theorem flatsI_kids : ∀ (n m : Nat) (ks : List Tree), flatsI n (ks.map fun k => (k, (m : Int))) = flats n m ks
  | n, m, [] => rfl
  | n, m, k :: r => by simp only [List.map_cons, flatsI, flats, flatsI_kids _ m r]
theorem kidsOf_app (j : Int) (a b : List (Nat × Int)) : kidsOf j (a ++ b) = kidsOf j a ++ kidsOf j b := by simp [kidsOf]
theorem kidsOf_cons (j : Int) (n : Nat) (p : Int) (b : List (Nat × Int)) : kidsOf j ((n, p) :: b) = (if p = j then [(n : Int)] else []) ++ kidsOf j b := by
  simp only [kidsOf, List.filter_cons]
  by_cases h : p = j <;> simp [h]
theorem fill_get (ps : List (Nat × Int)) : ∀ (d : List Node) (j i : Nat), (fill ps j d)[i]? = d[i]?.map fun x => { x with kids := x.kids ++ kidsOf ((j + i : Nat) : Int) ps }
  | [], j, i => by simp [fill]
  | x :: r, j, 0 => by simp [fill]
  | x :: r, j, i + 1 => by simp only [fill, List.getElem?_cons_succ, fill_get ps r (j + 1) i, show j + 1 + i = j + (i + 1) by omega]
theorem fill_len (ps : List (Nat × Int)) : ∀ (d : List Node) (j : Nat), (fill ps j d).length = d.length
  | [], j => rfl
  | x :: r, j => by simp [fill, fill_len ps r]
theorem fill_nil : ∀ (d : List Node) (j : Nat), fill [] j d = d
  | [], j => rfl
  | x :: r, j => by simp [fill, kidsOf, fill_nil r]
/-- The parent has one kid more. -/
def addKid (d : List Node) (p n : Int) : List Node :=
  if 0 ≤ p then match d[p.toNat]? with
    | some x => d.set p.toNat { x with kids := x.kids ++ [n] }
    | none => d
  else d
theorem addKid_len (d : List Node) (p n : Int) : (addKid d p n).length = d.length := by
  unfold addKid; split
  · split <;> simp
  · rfl
theorem whole_step (d : List Node) (t : Tree) (p : Int) (r : List (Tree × Int)) (hp : p < d.length) (hr : ∀ x ∈ r, x.2 < (d.length : Int)) :
    whole d ((t, p) :: r) = whole (addKid (d ++ [⟨t.text, t.s, t.attrs, p, []⟩]) p d.length) (t.kids.map (fun k => (k, (d.length : Int))) ++ r) := by
  have hlen : (addKid (d ++ [⟨t.text, t.s, t.attrs, p, []⟩]) p d.length).length = d.length + 1 := by rw [addKid_len]; simp
  have hc : d.length + t.cnt = d.length + 1 + cntT ((t.kids.map fun k => (k, (d.length : Int))).map Prod.fst) := by
    rw [t.cnt_eq, List.map_map, show (Prod.fst ∘ fun k : Tree => (k, (d.length : Int))) = id from rfl, List.map_id]; omega
  unfold whole
  rw [hlen, posits_app, flatsI_app, flatsI_kids, ← hc]
  simp only [posits, flatsI, t.flat_eq]
  have hdl : ((d.length : Int)) ≠ p := by omega
  -- the nodes that stand there, one by one
  have key : fill (posits (d.length + 1) (t.kids.map fun k => (k, (d.length : Int))) ++ posits (d.length + t.cnt) r) 0 (addKid (d ++ [⟨t.text, t.s, t.attrs, p, []⟩]) p d.length) =
      fill ((d.length, p) :: posits (d.length + t.cnt) r) 0 d ++ [{ t.node d.length p with kids := kidsAt (d.length + 1) t.kids ++ kidsOf d.length (posits (d.length + t.cnt) r) }] := by
    apply List.ext_getElem?
    intro i
    rw [fill_get]
    simp only [Nat.zero_add]
    have hadd : (addKid (d ++ [⟨t.text, t.s, t.attrs, p, []⟩]) p d.length)[i]? = (d ++ [⟨t.text, t.s, t.attrs, p, []⟩])[i]?.map fun x => if (i : Int) = p then { x with kids := x.kids ++ [(d.length : Int)] } else x := by
      unfold addKid
      by_cases h0 : 0 ≤ p
      · rw [if_pos h0]
        obtain ⟨q, rfl⟩ := Int.eq_ofNat_of_zero_le h0
        have hq : q < d.length := by omega
        rw [Int.toNat_natCast, List.getElem?_append_left hq, List.getElem?_eq_getElem hq]
        simp only
        rw [List.getElem?_set]
        by_cases e : q = i
        · subst e
          rw [if_pos rfl, if_pos (by simp; omega), List.getElem?_append_left hq, List.getElem?_eq_getElem hq]
          simp
        · rw [if_neg e]
          have : ¬ (i : Int) = (q : Int) := by omega
          cases (d ++ [(⟨t.text, t.s, t.attrs, (q : Int), []⟩ : Node)])[i]? <;> simp [this]
      · rw [if_neg h0]
        have : ¬ (i : Int) = p := by omega
        cases (d ++ [(⟨t.text, t.s, t.attrs, p, []⟩ : Node)])[i]? <;> simp [this]
    rw [hadd]
    by_cases hi : i < d.length
    · rw [List.getElem?_append_left hi, List.getElem?_append_left (by rw [fill_len]; exact hi), fill_get, List.getElem?_eq_getElem hi]
      simp only [Option.map_some, Nat.zero_add]
      congr 1
      rw [kidsOf_app, kidsOf_cons, posits_other _ _ _ _ (by omega)]
      by_cases e : (i : Int) = p
      · rw [if_pos e, if_pos e.symm]; simp
      · rw [if_neg e, if_neg (Ne.symm e)]
    · by_cases e : i = d.length
      · subst e
        rw [List.getElem?_append_right (Nat.le_refl _), List.getElem?_append_right (by rw [fill_len]; exact Nat.le_refl _), fill_len, Nat.sub_self]
        simp only [List.getElem?_cons_zero, Option.map_some]
        rw [if_neg hdl]
        congr 1
        rw [kidsOf_app, posits_kids]
        rfl
      · rw [List.getElem?_eq_none (by simp; omega), List.getElem?_eq_none (by rw [List.length_append, fill_len]; simp; omega)]; rfl
  rw [key]
  -- nobody else waits for the new node
  have hno : ∀ (n : Nat) (r : List (Tree × Int)), (∀ x ∈ r, x.2 < (d.length : Int)) → kidsOf d.length (posits n r) = [] := by
    intro n r
    induction r generalizing n with
    | nil => intro _; rfl
    | cons x r ih =>
      obtain ⟨t', p'⟩ := x
      intro h
      have h1 := h (t', p') (by simp)
      simp only [posits, kidsOf_cons]
      rw [if_neg (by simp only at h1; omega), ih _ (fun y hy => h y (by simp [hy]))]; rfl
  rw [hno _ r hr]
  simp [Tree.node]
theorem whole_nil (d : List Node) : whole d [] = d := by simp [whole, posits, flatsI, fill_nil]
theorem whole_start (t : Tree) : whole [] [(t, -1)] = docOf t := by simp [whole, posits, flatsI, fill, docOf]
end Go.Am

/- Documents, by who has which parent. -/
namespace Go.Am
open Go Go.RowKit
/-- The places, from j on, of those whose parent is m. -/
def parPos (m : Int) : Nat → List Node → List Nat
  | _, [] => []
  | j, x :: r => (if x.parent = m then [j] else []) ++ parPos m (j + 1) r
theorem parPos_app (m : Int) : ∀ (j : Nat) (a b : List Node), parPos m j (a ++ b) = parPos m j a ++ parPos m (j + a.length) b
  | j, [], b => by simp [parPos]
  | j, x :: a, b => by simp only [List.cons_append, parPos, parPos_app m (j + 1) a b, List.length_cons, List.append_assoc, Nat.add_comm 1, Nat.add_assoc]
theorem parPos_mem (m : Int) : ∀ (j : Nat) (a : List Node) (k : Nat), k ∈ parPos m j a ↔ j ≤ k ∧ ∃ x, a[k - j]? = some x ∧ x.parent = m
  | j, [], k => by simp [parPos]
  | j, x :: a, k => by
    simp only [parPos, List.mem_append, parPos_mem m (j + 1) a k]
    constructor
    · rintro (h | ⟨h1, y, h2, h3⟩)
      · split at h
        · rename_i hp; simp only [List.mem_singleton] at h; subst h; exact ⟨Nat.le_refl _, x, by simp, hp⟩
        · simp at h
      · exact ⟨by omega, y, by rw [show k - j = (k - (j + 1)) + 1 by omega]; simpa using h2, h3⟩
    · rintro ⟨h1, y, h2, h3⟩
      by_cases e : k = j
      · subst e
        simp only [Nat.sub_self, List.getElem?_cons_zero, Option.some.injEq] at h2
        subst h2
        left; rw [if_pos h3]; simp
      · right
        rw [show k - j = (k - (j + 1)) + 1 by omega, List.getElem?_cons_succ] at h2
        exact ⟨by omega, y, h2, h3⟩
mutual
theorem Tree.par_out (off : Nat) (p m : Int) : ∀ x : Tree, (m < off ∨ (off + x.cnt : Nat) ≤ m) → parPos m off (x.flat off p) = if p = m then [off] else []
  | .mk t s as ks, h => by
    simp only [Tree.flat, parPos]
    simp only [Tree.cnt] at h
    rw [pars_out (off + 1) off m ks (by omega) (by omega)]; simp
theorem pars_out (off p : Nat) (m : Int) : ∀ xs : List Tree, (m < off ∨ (off + cntT xs : Nat) ≤ m) → (p : Int) ≠ m → parPos m off (flats off p xs) = []
  | [], _, _ => rfl
  | k :: r, h, hp => by
    simp only [cntT] at h
    simp only [flats, parPos_app, k.flat_len]
    rw [k.par_out off p m (by omega), pars_out (off + k.cnt) p m r (by omega) hp, if_neg hp]; rfl
end
def kidsN (off : Nat) : List Tree → List Nat
  | [] => []
  | k :: r => off :: kidsN (off + k.cnt) r
theorem pars_kids (off p : Nat) : ∀ xs : List Tree, p < off → parPos p off (flats off p xs) = kidsN off xs
  | [], _ => rfl
  | k :: r, h => by
    simp only [flats, parPos_app, k.flat_len, kidsN]
    rw [k.par_out off p p (by omega), pars_kids (off + k.cnt) p r (by omega)]; simp
theorem Sub.pars {off : Nat} {p : Int} {t : Tree} {n : Nat} {q : Int} {y : Tree} (h : Sub off p t n q y) : p < off → parPos n off (t.flat off p) = kidsN (n + 1) y.kids := by
  induction h with
  | self off p t =>
    intro hp
    rw [t.flat_eq]
    simp only [parPos]
    rw [if_neg (show ¬ (t.node off p).parent = (off : Int) by show ¬ p = (off : Int); omega), pars_kids (off + 1) off t.kids (by omega)]; rfl
  | @kid off p t n q y a b k hk hs ih =>
    intro hp
    have hr := hs.rng
    have h1 := t.cnt_eq
    rw [hk, cntT_app] at h1
    simp only [cntT] at h1
    have hy := y.cnt_pos
    rw [t.flat_eq, hk, flats_app]
    simp only [parPos, parPos_app, flats_len, flats, k.flat_len]
    rw [if_neg (show ¬ (t.node off p).parent = (n : Int) by show ¬ p = (n : Int); omega), pars_out (off + 1) off n a (by omega) (by omega), ih (by omega), pars_out (off + 1 + cntT a + k.cnt) off n b (by omega) (by omega)]; simp
theorem doc_pars {t : Tree} {n : Nat} {q : Int} {y : Tree} (h : Sub 0 (-1) t n q y) : parPos n 0 (docOf t) = kidsN (n + 1) y.kids := h.pars (by omega)
/-- The tree at a node, by who has which parent. -/
def treeOfN (d : Doc) : Nat → Nat → Tree
  | 0, _ => .mk false [] [] []
  | f + 1, n => match d[n]? with
    | some x => .mk x.text x.s x.attrs ((parPos n (n + 1) (d.drop (n + 1))).map (treeOfN d f))
    | none => .mk false [] [] []
theorem parPos_drop {d : Doc} {m : Int} {n : Nat} (h : ∀ k ∈ parPos m 0 d, n ≤ k) (hn : n ≤ d.length) : parPos m n (d.drop n) = parPos m 0 d := by
  have e : d = d.take n ++ d.drop n := (List.take_append_drop n d).symm
  have h2 : parPos m 0 d = parPos m 0 (d.take n) ++ parPos m n (d.drop n) := by
    conv => lhs; rw [e]
    rw [parPos_app, List.length_take, Nat.min_eq_left hn, Nat.zero_add]
  have h3 : parPos m 0 (d.take n) = [] := by
    apply List.eq_nil_iff_forall_not_mem.2
    intro k hk
    have := h k (by rw [h2]; simp [hk])
    obtain ⟨_, x, hx, _⟩ := (parPos_mem m 0 _ k).1 hk
    have := (List.getElem?_eq_some_iff.1 hx).1
    simp at this; omega
  rw [h2, h3]; rfl
theorem kidsN_ge : ∀ (off : Nat) (xs : List Tree), ∀ k ∈ kidsN off xs, off ≤ k
  | _, [], k, h => by simp [kidsN] at h
  | off, x :: r, k, h => by
    simp only [kidsN, List.mem_cons] at h
    rcases h with rfl | h
    · exact Nat.le_refl _
    · have := kidsN_ge _ r k h; omega
theorem treeOfN_sub {t : Tree} : ∀ (f : Nat) (n : Nat) (q : Int) (y : Tree), Sub 0 (-1) t n q y → y.dep ≤ f → treeOfN (docOf t) f n = y := by
  intro f
  induction f with
  | zero => intro n q y _ h; rw [y.dep_eq] at h; omega
  | succ f ih =>
    intro n q y hs hd
    have hl := hs.lies (docOf t) ⟨[], by simp [docOf]⟩
    have hnode := hl.node
    have hlen := hl.len
    have hp := doc_pars hs
    have hy := y.cnt_pos
    unfold treeOfN
    rw [hnode]
    simp only [Tree.node]
    rw [parPos_drop (by rw [hp]; exact kidsN_ge _ _) (by omega), hp]
    have kids : ∀ (b a : List Tree), y.kids = a ++ b → (kidsN (n + 1 + cntT a) b).map (treeOfN (docOf t) f) = b := by
      intro b
      induction b with
      | nil => intro a _; rfl
      | cons k b ihb =>
        intro a hk
        simp only [kidsN, List.map_cons]
        have hdk : k.dep ≤ f := by
          have h1 := y.dep_eq
          rw [hk, depT_app] at h1
          simp only [depT] at h1
          omega
        rw [ih _ n k (hs.trans (.kid a b k hk (.self _ _ _))) hdk]
        have := ihb (a ++ [k]) (by rw [hk]; simp)
        rw [cntT_app] at this
        simp only [cntT, Nat.add_zero] at this
        rw [show n + 1 + cntT a + k.cnt = n + 1 + (cntT a + k.cnt) by omega, this]
    have := kids y.kids [] rfl
    simp only [cntT, Nat.add_zero] at this
    rw [this]
    cases y; rfl
end Go.Am

/- Documents: what is told of them. -/
namespace Go.Am
open Go Go.RowKit
open Classical in
/-- How many nodes the tree at a node has. -/
noncomputable def szAt (d : Doc) (n : Nat) : Nat := if h : ∃ (y : Tree) (q : Int), Lies d n q y then (Classical.choose h).cnt else 0
theorem szAt_of {d : Doc} {n : Nat} {q : Int} {y : Tree} (h : Lies d n q y) : szAt d n = y.cnt := by
  have he : ∃ (y : Tree) (q : Int), Lies d n q y := ⟨y, q, h⟩
  unfold szAt
  rw [dif_pos he]
  obtain ⟨q', h'⟩ := Classical.choose_spec he
  rw [(h'.uniq h).1]
noncomputable def endD (d : Doc) (n : Int) : Int := if isDoc d = true ∧ 0 ≤ n ∧ n < d.length then ((n.toNat + szAt d n.toNat : Nat) : Int) else 0
noncomputable def inD (d : Doc) (n m : Int) : Bool := decide (m ≤ n) && (decide (n < endD d m) && decide (0 ≤ m))
noncomputable def strD (d : Doc) (n : Int) : Bs := ((d.drop n.toNat).take ((endD d n).toNat - n.toNat)).flatMap Node.told
/-- The tree at a node, and the error's number. -/
noncomputable def treeD (d : Doc) (n : Int) : Tree × Int := if isDoc d = true then (if 0 ≤ n ∧ n < d.length then (treeOfN d d.length n.toNat, 0) else (.mk false [] [] [], 3)) else (.mk false [] [] [], 1)
def makeD (x : Tree) : Doc × Int := if x.good = true then (docOf x, 0) else ([], 1)
section
variable {t : Tree}
theorem endD_of (ht : t.good = true) {n : Nat} {q : Int} {y : Tree} (h : Lies (docOf t) n q y) : endD (docOf t) n = ((n + y.cnt : Nat) : Int) := by
  unfold endD
  have := h.len
  have := y.cnt_pos
  rw [if_pos ⟨isDoc_of ht, by omega, by omega⟩, Int.toNat_natCast, szAt_of h]
theorem endD_out {d : Doc} {n : Int} (h : ¬ (isDoc d = true ∧ 0 ≤ n ∧ n < d.length)) : endD d n = 0 := by unfold endD; rw [if_neg h]
theorem treeD_of (ht : t.good = true) {n : Nat} {q : Int} {y : Tree} (hs : Sub 0 (-1) t n q y) : treeD (docOf t) n = (y, 0) := by
  have h := hs.lies (docOf t) ⟨[], by simp [docOf]⟩
  have hl := h.len
  have hc := y.cnt_pos
  unfold treeD
  rw [if_pos (isDoc_of ht), if_pos ⟨by omega, by omega⟩, Int.toNat_natCast]
  have hd : y.dep ≤ (docOf t).length := by
    have h1 := (good_iff t).1 ht
    have h2 : ∀ x : Tree, x.dep ≤ x.cnt := by
      have key : ∀ n : Nat, (∀ x : Tree, x.cnt ≤ n → x.dep ≤ x.cnt) ∧ ∀ xs : List Tree, cntT xs ≤ n → depT xs ≤ cntT xs := by
        intro n
        induction n with
        | zero => exact ⟨fun x h => by have := x.cnt_pos; omega, fun xs h => by cases xs with | nil => simp [depT] | cons a r => have := a.cnt_pos; simp [cntT] at h; omega⟩
        | succ n ih =>
          have one : ∀ x : Tree, x.cnt ≤ n + 1 → x.dep ≤ x.cnt := fun x h => by
            have := ih.2 x.kids (by have := x.cnt_eq; omega)
            rw [x.dep_eq, x.cnt_eq]; omega
          refine ⟨one, fun xs => ?_⟩
          induction xs with
          | nil => intro _; simp [depT]
          | cons a r ihr =>
            intro h
            simp only [cntT] at h
            have := a.cnt_pos
            have := one a (by omega)
            have := ihr (by omega)
            simp only [depT, cntT]; omega
      exact fun x => (key x.cnt).1 x (Nat.le_refl _)
    have := h2 y
    omega
  rw [treeOfN_sub _ n q y hs hd]
theorem strD_of (ht : t.good = true) {n : Nat} {q : Int} {y : Tree} (h : Lies (docOf t) n q y) : strD (docOf t) n = y.told := by
  unfold strD
  rw [endD_of ht h, Int.toNat_natCast, Int.toNat_natCast, Nat.add_sub_cancel_left, h.told]
end
end Go.Am

/- Documents: made; walked; the trees in them. -/
namespace Go.Am
open Go Go.RowKit
def Doc.av (d : Doc) : AV := .agg [.list (d.map Node.iv)]
section
variable {P : Program} {G : Nat → Option (List IV)}
theorem wPut {f_doc_put f_slices_Clone_Attr_Attr : Nat} (hF : compF P G f_doc_put = some (58, [(none, 6)], (c_doc_put f_slices_Clone_Attr_Attr f_doc_put).bare)) (hC : ∀ xs : List Attr, xs.length ≤ B → PureC P G f_slices_Clone_Attr_Attr [.list (ivA xs)] (.list (ivA xs))) (x : Tree) (d : Doc) (p : Int) (hx : d.length + x.wt ≤ B) :
    LstC P G 5 f_doc_put [.ptr (.par 0) 1 0 0, x.av, .int .i64 p] (d.map Node.iv) (.int .i64 d.length) ((d ++ x.flat d.length p).map Node.iv) := by
  have key := byWt (M := fun l => ∀ x ∈ l, ∀ (d : Doc) (p : Int), d.length + x.wt ≤ B → LstC P G 5 f_doc_put [.ptr (.par 0) 1 0 0, x.av, .int .i64 p] (d.map Node.iv) (.int .i64 d.length) ((d ++ x.flat d.length p).map Node.iv))
    (fun l h x hx d p hB => pPut hF x d p hB (hC _ (by have := wt_attrs x; have := wtA_len x.attrs; omega)) fun k hk d' hd' => h x hx k hk d' d.length (by omega))
  exact key [x] x (by simp) d p hx
end
def c_doc_Make (f_tree_Good f_doc_put : Nat) : AC :=
(.seq (.reg [⟨(some 1), none, (.box (.t 0))⟩, ⟨(some 2), none, (.new [.nil0])⟩, ⟨(some 3), none, (.mov (.c (.int .i64 0)))⟩]) (.seq (.seq (.reg [⟨(some 5), none, (.load (some 4) (.t 1))⟩, ⟨(some 6), none, (.call f_tree_Good [(.t 5)])⟩, ⟨(some 7), none, (.not (.t 6))⟩]) (.cond (.t 7) (.seq (.reg [⟨(some 8), none, (.bld [.nil0] [])⟩, ⟨none, none, (.store 1 (.t 2) (.t 8))⟩, ⟨(some 3), none, (.mov (.c (.int .i64 1)))⟩]) .ret) .skip)) (.seq (.reg [⟨(some 4), none, (.new [.nil0])⟩]) (.seq (.reg [⟨(some 9), none, (.load (some 4) (.t 1))⟩, ⟨(some 10), none, (.call f_doc_put [(.t 4), (.t 9), (.c (.int .i64 (-1)))])⟩]) (.seq (.reg [⟨(some 11), none, (.load (some 1) (.t 4))⟩, ⟨none, none, (.store 1 (.t 2) (.t 11))⟩, ⟨(some 3), none, (.mov (.c (.int .i64 0)))⟩]) (.gh (.frzc (.loc 100) (.loc 2) 0) .ret))))))
theorem pMake {P : Program} {G : Nat → Option (List IV)} {f_doc_Make f_tree_Good f_doc_put : Nat} (hF : compF P G f_doc_Make = some (12, [((some (some 1)), 2), (none, 3)], (c_doc_Make f_tree_Good f_doc_put).bare)) (x : Tree) (hx : x.wt ≤ B)
    (hG : PureC P G f_tree_Good [x.av] (.bool x.good)) (hP : LstC P G 5 f_doc_put [.ptr (.par 0) 1 0 0, x.av, .int .i64 (-1)] [] (.int .i64 0) ((docOf x).map Node.iv)) :
    PureC P G f_doc_Make [x.av] (.tup [Doc.av (makeD x).1, .int .i64 (makeD x).2]) := by
  refine pure_of_goN hF (by simp) (by simp [lbss, AV.lbs, Tree.av]) (by simp [AV.lbs, lbss, Doc.av]) ?_
  unfold c_doc_Make
  simp only [↓aX, evp, evq, evl, boxK, stillV, binV, AV.cells, mP, loadV, storeV, ldV, AV.stb, AV.one, IV.av1, Lb.app, Lb.fresh, reduceCtorEq, ptrL, appL, fillA, chunks, ivs, AV.iv, mkE, if_false, if_true, List.not_mem_nil, forall_eq, beq_self_eq_true, List.isEmpty_nil, Nat.reduceEqDiff, Nat.reduceLT, Nat.reduceLeDiff, Nat.reduceAdd, Nat.reduceMul, Int.reduceToNat, Int.reduceLE, Int.reduceLT, Tree.av]
  refine callT_pure hG ?_
  cases hg : x.good with
  | false =>
    simp only [↓aX, evp, evq, evl, boxK, stillV, binV, AV.cells, mP, loadV, storeV, ldV, AV.stb, AV.one, IV.av1, Lb.app, Lb.fresh, reduceCtorEq, ptrL, appL, fillA, chunks, ivs, AV.iv, mkE, if_false, if_true, List.not_mem_nil, forall_eq, beq_self_eq_true, List.isEmpty_nil, Nat.reduceEqDiff, Nat.reduceLT, Nat.reduceLeDiff, Nat.reduceAdd, Nat.reduceMul, Int.reduceToNat, Int.reduceLE, Int.reduceLT, retm2_r]
    simp [norm, norms, makeD, hg, Doc.av]
  | true =>
    simp only [↓aX, evp, evq, evl, boxK, stillV, binV, AV.cells, mP, loadV, storeV, ldV, AV.stb, AV.one, IV.av1, Lb.app, Lb.fresh, reduceCtorEq, ptrL, appL, fillA, chunks, ivs, AV.iv, mkE, if_false, if_true, List.not_mem_nil, forall_eq, beq_self_eq_true, List.isEmpty_nil, Nat.reduceEqDiff, Nat.reduceLT, Nat.reduceLeDiff, Nat.reduceAdd, Nat.reduceMul, Int.reduceToNat, Int.reduceLE, Int.reduceLT]
    refine callT_lst (l := .loc 4) (N := .loc 100) (o := none) hP rfl ⟨by simp only [↓aX, evp, evq, evl, boxK, stillV, binV, AV.cells, mP, loadV, storeV, ldV, AV.stb, AV.one, IV.av1, Lb.app, Lb.fresh, reduceCtorEq, ptrL, appL, fillA, chunks, ivs, AV.iv, mkE, if_false, if_true, List.not_mem_nil, forall_eq, beq_self_eq_true, List.isEmpty_nil, Nat.reduceEqDiff, Nat.reduceLT, Nat.reduceLeDiff, Nat.reduceAdd, Nat.reduceMul, Int.reduceToNat, Int.reduceLE, Int.reduceLT], rfl⟩ (by simp only [↓aX, evp, evq, evl, boxK, stillV, binV, AV.cells, mP, loadV, storeV, ldV, AV.stb, AV.one, IV.av1, Lb.app, Lb.fresh, reduceCtorEq, ptrL, appL, fillA, chunks, ivs, AV.iv, mkE, if_false, if_true, List.not_mem_nil, forall_eq, beq_self_eq_true, List.isEmpty_nil, Nat.reduceEqDiff, Nat.reduceLT, Nat.reduceLeDiff, Nat.reduceAdd, Nat.reduceMul, Int.reduceToNat, Int.reduceLE, Int.reduceLT]) (fun _ => ⟨rfl, by simp⟩) ?_
    rintro L' H'' hL' ⟨b1, b2, b3⟩ hsame hused
    have hL : L' = .loc 100 := by simpa using hL'
    subst hL
    have c2 : H'' (.loc 2) = .live ⟨1, [[.nil0]]⟩ := by rw [hsame _ (by simp) (by simp) (by simp)]; simp only [↓aX, evp, evq, evl, boxK, stillV, binV, AV.cells, mP, loadV, storeV, ldV, AV.stb, AV.one, IV.av1, Lb.app, Lb.fresh, reduceCtorEq, ptrL, appL, fillA, chunks, ivs, AV.iv, mkE, if_false, if_true, List.not_mem_nil, forall_eq, beq_self_eq_true, List.isEmpty_nil, Nat.reduceEqDiff, Nat.reduceLT, Nat.reduceLeDiff, Nat.reduceAdd, Nat.reduceMul, Int.reduceToNat, Int.reduceLE, Int.reduceLT]
    simp only [↓aX, evp, evq, evl, boxK, stillV, binV, AV.cells, mP, loadV, storeV, ldV, AV.stb, AV.one, IV.av1, Lb.app, Lb.fresh, reduceCtorEq, ptrL, appL, fillA, chunks, ivs, AV.iv, mkE, if_false, if_true, List.not_mem_nil, forall_eq, beq_self_eq_true, List.isEmpty_nil, Nat.reduceEqDiff, Nat.reduceLT, Nat.reduceLeDiff, Nat.reduceAdd, Nat.reduceMul, Int.reduceToNat, Int.reduceLE, Int.reduceLT, b2, c2, retm2_r]
    refine ⟨5, (docOf x).map Node.iv, 0, (docOf x).length, [.sl (.loc 100) 5 0 (docOf x).length], rfl, rfl, b3, by simp, by simp, flatN _, ?_⟩
    simp only [↓aX, evp, evq, evl, boxK, stillV, binV, AV.cells, mP, loadV, storeV, ldV, AV.stb, AV.one, IV.av1, Lb.app, Lb.fresh, reduceCtorEq, ptrL, appL, fillA, chunks, ivs, AV.iv, mkE, if_false, if_true, List.not_mem_nil, forall_eq, beq_self_eq_true, List.isEmpty_nil, Nat.reduceEqDiff, Nat.reduceLT, Nat.reduceLeDiff, Nat.reduceAdd, Nat.reduceMul, Int.reduceToNat, Int.reduceLE, Int.reduceLT, retm2_r, norm, norms, makeD, hg, Doc.av, List.length_map]
    simp
    exact List.take_of_length_le (by simp)
def c_doc_walk (f_doc_walk : Nat) : AC :=
(.seq (.reg [⟨(some 5), none, (.box (.t 0))⟩, ⟨(some 10), none, (.mov (.c (.bool false)))⟩]) (.seq (.seq (.reg [⟨(some 13), none, (.mov (.t 1))⟩, ⟨(some 14), none, (.mov (.t 4))⟩, ⟨(some 15), none, (.nchk (.t 14))⟩, ⟨(some 16), none, (.load none (.t 15))⟩, ⟨(some 17), none, (.bin .neq (.t 13) (.t 16))⟩, ⟨(some 18), none, (.mov (.t 17))⟩, ⟨(some 19), (some (18, false)), (.mov (.t 1))⟩, ⟨(some 20), (some (18, false)), (.fld (.t 5) 0)⟩, ⟨(some 21), (some (18, false)), (.load none (.t 20))⟩, ⟨(some 22), (some (18, false)), (.len (.t 21))⟩, ⟨(some 23), (some (18, false)), (.bin .geq (.t 19) (.t 22))⟩, ⟨(some 24), none, (.pick (.t 18) (.c (.bool true)) (.t 23))⟩, ⟨(some 25), none, (.mov (.t 24))⟩, ⟨(some 26), (some (25, false)), (.fld (.t 5) 0)⟩, ⟨(some 27), (some (25, false)), (.load none (.t 26))⟩, ⟨(some 28), (some (25, false)), (.mov (.t 1))⟩, ⟨(some 29), (some (25, false)), (.ixa (.t 27) (.t 28) 5)⟩, ⟨(some 30), (some (25, false)), (.fld (.t 29) 3)⟩, ⟨(some 31), (some (25, false)), (.load none (.t 30))⟩, ⟨(some 32), (some (25, false)), (.mov (.t 2))⟩, ⟨(some 33), (some (25, false)), (.bin .neq (.t 31) (.t 32))⟩, ⟨(some 34), none, (.pick (.t 25) (.c (.bool true)) (.t 33))⟩, ⟨(some 35), none, (.mov (.t 34))⟩, ⟨(some 36), (some (35, false)), (.mov (.t 3))⟩, ⟨(some 37), (some (35, false)), (.bin .gtr (.t 36) (.c (.int .i64 8)))⟩, ⟨(some 38), none, (.pick (.t 35) (.c (.bool true)) (.t 37))⟩]) (.cond (.t 38) (.seq (.reg [⟨(some 10), none, (.mov (.c (.bool false)))⟩]) .ret) .skip)) (.seq (.reg [⟨(some 39), none, (.mov (.t 4))⟩, ⟨(some 40), none, (.nchk (.t 39))⟩, ⟨(some 41), none, (.load none (.t 40))⟩, ⟨(some 42), none, (.bin .add (.t 41) (.c (.int .i64 1)))⟩, ⟨(some 43), none, (.nchk (.t 39))⟩, ⟨none, none, (.store 1 (.t 43) (.t 42))⟩]) (.seq (.seq (.reg [⟨(some 44), none, (.fld (.t 5) 0)⟩, ⟨(some 45), none, (.load none (.t 44))⟩, ⟨(some 46), none, (.mov (.t 1))⟩, ⟨(some 47), none, (.ixa (.t 45) (.t 46) 5)⟩, ⟨(some 48), none, (.fld (.t 47) 4)⟩, ⟨(some 49), none, (.load none (.t 48))⟩, ⟨(some 50), none, (.len (.t 49))⟩, ⟨(some 51), none, (.mov (.c (.int .i64 0)))⟩]) (.block 0 (.loop (.seq (.reg [⟨(some 52), none, (.bin .lss (.t 51) (.t 50))⟩]) (.seq (.cond (.t 52) .skip (.exit 0)) (.seq (.block 1 (.seq (.reg [⟨(some 53), none, (.ixa (.t 49) (.t 51) 1)⟩, ⟨(some 54), none, (.load none (.t 53))⟩, ⟨(some 12), none, (.mov (.t 54))⟩]) (.seq (.reg [⟨(some 55), none, (.load (some 1) (.t 5))⟩, ⟨(some 56), none, (.mov (.t 12))⟩, ⟨(some 57), none, (.mov (.t 1))⟩, ⟨(some 58), none, (.mov (.t 3))⟩, ⟨(some 59), none, (.bin .add (.t 58) (.c (.int .i64 1)))⟩, ⟨(some 60), none, (.mov (.t 4))⟩, ⟨(some 61), none, (.call f_doc_walk [(.t 55), (.t 56), (.t 57), (.t 59), (.t 60)])⟩, ⟨(some 62), none, (.not (.t 61))⟩]) (.cond (.t 62) (.seq (.reg [⟨(some 10), none, (.mov (.c (.bool false)))⟩]) .ret) .skip)))) (.reg [⟨(some 63), none, (.bin .add (.t 51) (.c (.int .i64 1)))⟩, ⟨(some 51), none, (.mov (.t 63))⟩]))))))) (.seq (.reg [⟨(some 10), none, (.mov (.c (.bool true)))⟩]) .ret)))))
theorem wk_step {d : Doc} {f : Nat} {n p nx : Int} {x : Node} (hn : n = nx) (hx : d[n.toNat]? = some x) (hp : x.parent = p) : wk d (f + 1) n p nx = x.kids.foldlM (fun q k => wk d f k n q) (nx + 1) := by
  rw [wk, if_pos hn, hx]; simp [hp]
theorem wk_bound {d : Doc} : ∀ {f : Nat} {n p nx v : Int}, 0 ≤ nx → wk d f n p nx = some v → nx < v ∧ v ≤ d.length := by
  intro f n p nx v h0 h
  have hn : n = nx := by
    cases f with
    | zero => simp [wk] at h
    | succ f => rw [wk] at h; split at h; assumption; simp at h
  obtain ⟨m, rfl⟩ : ∃ m : Nat, nx = m := ⟨nx.toNat, by omega⟩
  obtain ⟨_, x, _, ⟨post, h2⟩, rfl⟩ := wk_some d f m n p v h
  have hc := x.cnt_pos
  have := congrArg List.length h2
  rw [List.length_drop, List.length_append, x.flat_len] at this
  omega
theorem Doc.get_iv {d : Doc} {n : Nat} {x : Node} (h : d[n]? = some x) : (d.map Node.iv)[n]? = some x.iv := by rw [List.getElem?_map, h]; rfl
theorem intGet (l : List Int) (i : Nat) : (l.map intIV)[i]? = (l[i]?).map intIV := List.getElem?_map ..
theorem wk_ne {d : Doc} {f : Nat} {n p nx : Int} (h : n ≠ nx) : wk d f n p nx = none := by
  cases f with
  | zero => rfl
  | succ f => rw [wk, if_neg h]
theorem wk_out {d : Doc} {f : Nat} {n p nx : Int} (h : d[n.toNat]? = none) : wk d f n p nx = none := by
  cases f with
  | zero => rfl
  | succ f => rw [wk, h]; simp
theorem wk_par {d : Doc} {f : Nat} {n p nx : Int} {x : Node} (h : d[n.toNat]? = some x) (hp : x.parent ≠ p) : wk d f n p nx = none := by
  cases f with
  | zero => rfl
  | succ f => rw [wk, h]; simp [hp]
theorem pWalk {P : Program} {G : Nat → Option (List IV)} {f_doc_walk : Nat} (hF : compF P G f_doc_walk = some (64, [(none, 10)], (c_doc_walk f_doc_walk).bare)) (d : Doc) (hd : d.length ≤ B) (hk : ∀ x ∈ d, x.kids.length ≤ B) : ∀ (f : Nat) (n p nx : Int), f ≤ 8 → 0 ≤ nx → nx ≤ B →
    MutC P G f_doc_walk [Doc.av d, .int .i64 n, .int .i64 p, .int .i64 (9 - (f : Int)), .ptr (.par 0) 1 0 0] [.int .i64 nx] fun x cs => ∃ v, x = .bool (wk d f n p nx).isSome ∧ cs = [.int .i64 v] ∧ ∀ r, wk d f n p nx = some r → v = r := by
  intro f
  induction f with
  | zero =>
    intro n p nx hf h0 hB
    refine mut_of_go hF (by simp) (by simp [lbss, AV.lbs, Doc.av]) (by simp [lbss, AV.lbs]) ?_
    unfold c_doc_walk
    have hd9 : decide ((9 : Int) - ((0 : Nat) : Int) > 8) = true := by decide
    simp only [↓aX, evp, evq, evl, boxK, stillV, binV, AV.cells, mP, loadV, storeV, ldV, AV.stb, AV.one, IV.av1, Lb.app, Lb.fresh, reduceCtorEq, ptrL, appL, fillA, chunks, ivs, AV.iv, mkE, if_false, if_true, List.not_mem_nil, forall_eq, beq_self_eq_true, List.isEmpty_nil, Nat.reduceEqDiff, Nat.reduceLT, Nat.reduceLeDiff, Nat.reduceAdd, Nat.reduceMul, Int.reduceToNat, Int.reduceLE, Int.reduceLT, Doc.av, row1]
    cases h1 : (n != nx) with
    | true =>
      simp only [↓aX, evp, evq, evl, boxK, stillV, binV, AV.cells, mP, loadV, storeV, ldV, AV.stb, AV.one, IV.av1, Lb.app, Lb.fresh, reduceCtorEq, ptrL, appL, fillA, chunks, ivs, AV.iv, mkE, if_false, if_true, List.not_mem_nil, forall_eq, beq_self_eq_true, List.isEmpty_nil, Nat.reduceEqDiff, Nat.reduceLT, Nat.reduceLeDiff, Nat.reduceAdd, Nat.reduceMul, Int.reduceToNat, Int.reduceLE, Int.reduceLT]
      exact ⟨_, ⟨nx, rfl, rfl, by simp [wk]⟩, rfl, rfl, rfl, rfl⟩
    | false =>
      have : n = nx := by simpa using h1
      subst this
      obtain ⟨m, rfl⟩ : ∃ m : Nat, n = m := ⟨n.toNat, by omega⟩
      cases hx : d[m]? with
      | none =>
        have hge : decide ((m : Int) ≥ (d.length : Int)) = true := by
          have := List.getElem?_eq_none_iff.1 hx
          simp; omega
        simp only [↓aX, evp, evq, evl, boxK, stillV, binV, AV.cells, mP, loadV, storeV, ldV, AV.stb, AV.one, IV.av1, Lb.app, Lb.fresh, reduceCtorEq, ptrL, appL, fillA, chunks, ivs, AV.iv, mkE, if_false, if_true, List.not_mem_nil, forall_eq, beq_self_eq_true, List.isEmpty_nil, Nat.reduceEqDiff, Nat.reduceLT, Nat.reduceLeDiff, Nat.reduceAdd, Nat.reduceMul, Int.reduceToNat, Int.reduceLE, Int.reduceLT, List.length_map, hge]
        exact ⟨_, ⟨m, rfl, rfl, by simp [wk]⟩, rfl, rfl, rfl, rfl⟩
      | some x =>
        have hlt := (List.getElem?_eq_some_iff.1 hx).1
        have hge : decide ((m : Int) ≥ (d.length : Int)) = false := by simp; omega
        simp only [↓aX, evp, evq, evl, boxK, stillV, binV, AV.cells, mP, loadV, storeV, ldV, AV.stb, AV.one, IV.av1, Lb.app, Lb.fresh, reduceCtorEq, ptrL, appL, fillA, chunks, ivs, AV.iv, mkE, if_false, if_true, List.not_mem_nil, forall_eq, beq_self_eq_true, List.isEmpty_nil, Nat.reduceEqDiff, Nat.reduceLT, Nat.reduceLeDiff, Nat.reduceAdd, Nat.reduceMul, Int.reduceToNat, Int.reduceLE, Int.reduceLT, List.length_map, hge, Doc.get_iv hx, elszN, Node.cells_eq, Node.cs]
        cases h2 : (x.parent != p) with
        | true =>
          simp only [↓aX, evp, evq, evl, boxK, stillV, binV, AV.cells, mP, loadV, storeV, ldV, AV.stb, AV.one, IV.av1, Lb.app, Lb.fresh, reduceCtorEq, ptrL, appL, fillA, chunks, ivs, AV.iv, mkE, if_false, if_true, List.not_mem_nil, forall_eq, beq_self_eq_true, List.isEmpty_nil, Nat.reduceEqDiff, Nat.reduceLT, Nat.reduceLeDiff, Nat.reduceAdd, Nat.reduceMul, Int.reduceToNat, Int.reduceLE, Int.reduceLT]
          exact ⟨_, ⟨m, rfl, rfl, by simp [wk]⟩, rfl, rfl, rfl, rfl⟩
        | false =>
          simp only [↓aX, evp, evq, evl, boxK, stillV, binV, AV.cells, mP, loadV, storeV, ldV, AV.stb, AV.one, IV.av1, Lb.app, Lb.fresh, reduceCtorEq, ptrL, appL, fillA, chunks, ivs, AV.iv, mkE, if_false, if_true, List.not_mem_nil, forall_eq, beq_self_eq_true, List.isEmpty_nil, Nat.reduceEqDiff, Nat.reduceLT, Nat.reduceLeDiff, Nat.reduceAdd, Nat.reduceMul, Int.reduceToNat, Int.reduceLE, Int.reduceLT, hd9]
          exact ⟨_, ⟨m, rfl, rfl, by simp [wk]⟩, rfl, rfl, rfl, rfl⟩
  | succ f ih =>
    intro n p nx hf h0 hB
    refine mut_of_go hF (by simp) (by simp [lbss, AV.lbs, Doc.av]) (by simp [lbss, AV.lbs]) ?_
    unfold c_doc_walk
    have hd9 : decide ((9 : Int) - ((f + 1 : Nat) : Int) > 8) = false := by simp; omega
    have hw9 : IntKind.i64.wrap ((9 : Int) - ((f + 1 : Nat) : Int) + 1) = 9 - (f : Int) := by rw [wrap64 (by omega) (by omega)]; omega
    simp only [↓aX, evp, evq, evl, boxK, stillV, binV, AV.cells, mP, loadV, storeV, ldV, AV.stb, AV.one, IV.av1, Lb.app, Lb.fresh, reduceCtorEq, ptrL, appL, fillA, chunks, ivs, AV.iv, mkE, if_false, if_true, List.not_mem_nil, forall_eq, beq_self_eq_true, List.isEmpty_nil, Nat.reduceEqDiff, Nat.reduceLT, Nat.reduceLeDiff, Nat.reduceAdd, Nat.reduceMul, Int.reduceToNat, Int.reduceLE, Int.reduceLT, Doc.av, row1]
    cases h1 : (n != nx) with
    | true =>
      have h1' : n ≠ nx := by simpa using h1
      simp only [↓aX, evp, evq, evl, boxK, stillV, binV, AV.cells, mP, loadV, storeV, ldV, AV.stb, AV.one, IV.av1, Lb.app, Lb.fresh, reduceCtorEq, ptrL, appL, fillA, chunks, ivs, AV.iv, mkE, if_false, if_true, List.not_mem_nil, forall_eq, beq_self_eq_true, List.isEmpty_nil, Nat.reduceEqDiff, Nat.reduceLT, Nat.reduceLeDiff, Nat.reduceAdd, Nat.reduceMul, Int.reduceToNat, Int.reduceLE, Int.reduceLT]
      exact ⟨_, ⟨nx, by rw [wk_ne h1']; rfl, rfl, by rw [wk_ne h1']; simp⟩, rfl, rfl, rfl, rfl⟩
    | false =>
      have : n = nx := by simpa using h1
      subst this
      obtain ⟨m, rfl⟩ : ∃ m : Nat, n = m := ⟨n.toNat, by omega⟩
      cases hx : d[m]? with
      | none =>
        have hge : decide ((m : Int) ≥ (d.length : Int)) = true := by
          have := List.getElem?_eq_none_iff.1 hx
          simp; omega
        have hwk : wk d (f + 1) (m : Int) p (m : Int) = none := wk_out (by simpa using hx)
        simp only [↓aX, evp, evq, evl, boxK, stillV, binV, AV.cells, mP, loadV, storeV, ldV, AV.stb, AV.one, IV.av1, Lb.app, Lb.fresh, reduceCtorEq, ptrL, appL, fillA, chunks, ivs, AV.iv, mkE, if_false, if_true, List.not_mem_nil, forall_eq, beq_self_eq_true, List.isEmpty_nil, Nat.reduceEqDiff, Nat.reduceLT, Nat.reduceLeDiff, Nat.reduceAdd, Nat.reduceMul, Int.reduceToNat, Int.reduceLE, Int.reduceLT, List.length_map, hge]
        exact ⟨_, ⟨m, by rw [hwk]; rfl, rfl, by rw [hwk]; simp⟩, rfl, rfl, rfl, rfl⟩
      | some x =>
        have hlt := (List.getElem?_eq_some_iff.1 hx).1
        have hge : decide ((m : Int) ≥ (d.length : Int)) = false := by simp; omega
        have hxk := hk x (List.mem_of_getElem? hx)
        have hwm : IntKind.i64.wrap ((m : Int) + 1) = (m : Int) + 1 := wrap64 (by omega) (by unfold B at hd; omega)
        simp only [↓aX, evp, evq, evl, boxK, stillV, binV, AV.cells, mP, loadV, storeV, ldV, AV.stb, AV.one, IV.av1, Lb.app, Lb.fresh, reduceCtorEq, ptrL, appL, fillA, chunks, ivs, AV.iv, mkE, if_false, if_true, List.not_mem_nil, forall_eq, beq_self_eq_true, List.isEmpty_nil, Nat.reduceEqDiff, Nat.reduceLT, Nat.reduceLeDiff, Nat.reduceAdd, Nat.reduceMul, Int.reduceToNat, Int.reduceLE, Int.reduceLT, List.length_map, hge, Doc.get_iv hx, elszN, Node.cells_eq, Node.cs]
        cases h2 : (x.parent != p) with
        | true =>
          have hwk : wk d (f + 1) (m : Int) p (m : Int) = none := wk_par (by simpa using hx) (by simpa using h2)
          simp only [↓aX, evp, evq, evl, boxK, stillV, binV, AV.cells, mP, loadV, storeV, ldV, AV.stb, AV.one, IV.av1, Lb.app, Lb.fresh, reduceCtorEq, ptrL, appL, fillA, chunks, ivs, AV.iv, mkE, if_false, if_true, List.not_mem_nil, forall_eq, beq_self_eq_true, List.isEmpty_nil, Nat.reduceEqDiff, Nat.reduceLT, Nat.reduceLeDiff, Nat.reduceAdd, Nat.reduceMul, Int.reduceToNat, Int.reduceLE, Int.reduceLT]
          exact ⟨_, ⟨m, by rw [hwk]; rfl, rfl, by rw [hwk]; simp⟩, rfl, rfl, rfl, rfl⟩
        | false =>
          have hp : x.parent = p := by simpa using h2
          have hst := wk_step (d := d) (f := f) (n := m) (nx := m) rfl (by simpa using hx) hp
          simp only [↓aX, evp, evq, evl, boxK, stillV, binV, AV.cells, mP, loadV, storeV, ldV, AV.stb, AV.one, IV.av1, Lb.app, Lb.fresh, reduceCtorEq, ptrL, appL, fillA, chunks, ivs, AV.iv, mkE, if_false, if_true, List.not_mem_nil, forall_eq, beq_self_eq_true, List.isEmpty_nil, Nat.reduceEqDiff, Nat.reduceLT, Nat.reduceLeDiff, Nat.reduceAdd, Nat.reduceMul, Int.reduceToNat, Int.reduceLE, Int.reduceLT, hd9, hwm, List.length_map, Doc.get_iv hx, elszN, Node.cells_eq, Node.cs]
          refine loop_same (σ := { q : Nat × Int // q.1 ≤ x.kids.length ∧ 0 ≤ q.2 ∧ q.2 ≤ d.length ∧ wk d (f + 1) (m : Int) p (m : Int) = (x.kids.drop q.1).foldlM (fun q k => wk d f k (m : Int) q) q.2 }) [.par 0, .loc 5]
            (fun q => [(1, .int .i64 m), (3, .int .i64 (9 - ((f + 1 : Nat) : Int))), (4, .ptr (.par 0) 1 0 0), (5, .ptr (.loc 5) 1 0 0), (49, .list (x.kids.map intIV)), (50, .int .i64 x.kids.length), (51, .int .i64 q.1.1)])
            (fun q => [(.par 0, ⟨1, [[.int .i64 q.1.2]]⟩), (.loc 5, ⟨1, [[.list (d.map Node.iv)]]⟩)]) (fun q => x.kids.length - q.1.1) ⟨(0, (m : Int) + 1), by simp, by simp only; omega, by simp only; omega, by rw [hst]; rfl⟩
            (fun _ => rfl) (by decide) (by simp [lbss, AV.lbs]) (by simp [lbss, AV.lbs]) ?_ ?_
          · refine WS_mk ?_ (by repeat' constructor) (by repeat' constructor)
            intro l hl hu
            by_cases e : l = .par 0
            · subst e; simp
            · exfalso; apply hu; cases l <;> simp_all [Lb.fresh, upd_at, Hp.none]
          · rintro ⟨⟨i, q⟩, hi, hq0, hqd, hs⟩
            simp only at hi hq0 hqd hs
            simp only [↓aX, evp, evq, evl, boxK, stillV, binV, AV.cells, mP, loadV, storeV, ldV, AV.stb, AV.one, IV.av1, Lb.app, Lb.fresh, reduceCtorEq, ptrL, appL, fillA, chunks, ivs, AV.iv, mkE, if_false, if_true, List.not_mem_nil, forall_eq, beq_self_eq_true, List.isEmpty_nil, Nat.reduceEqDiff, Nat.reduceLT, Nat.reduceLeDiff, Nat.reduceAdd, Nat.reduceMul, Int.reduceToNat, Int.reduceLE, Int.reduceLT, ofH_nil, ofH_cons]
            by_cases hlt : i < x.kids.length
            · obtain ⟨k, hki⟩ : ∃ k, x.kids[i]? = some k := ⟨_, List.getElem?_eq_getElem hlt⟩
              have hw : IntKind.i64.wrap ((i : Int) + 1) = ((i + 1 : Nat) : Int) := wrap64 (by omega) (by unfold B at hxk; omega)
              rw [show decide ((i : Int) < (x.kids.length : Int)) = true by simpa using hlt]
              simp only [↓aX, evp, evq, evl, boxK, stillV, binV, AV.cells, mP, loadV, storeV, ldV, AV.stb, AV.one, IV.av1, Lb.app, Lb.fresh, reduceCtorEq, ptrL, appL, fillA, chunks, ivs, AV.iv, mkE, if_false, if_true, List.not_mem_nil, forall_eq, beq_self_eq_true, List.isEmpty_nil, Nat.reduceEqDiff, Nat.reduceLT, Nat.reduceLeDiff, Nat.reduceAdd, Nat.reduceMul, Int.reduceToNat, Int.reduceLE, Int.reduceLT, intGet, hki, elszI, List.length_map, Option.map_some, intIV, IV.cells, hw9]
              refine callT_mut (l := .par 0) (ih k m q (by omega) hq0 (by unfold B at hd ⊢; omega)) rfl (by simp only [↓aX, evp, evq, evl, boxK, stillV, binV, AV.cells, mP, loadV, storeV, ldV, AV.stb, AV.one, IV.av1, Lb.app, Lb.fresh, reduceCtorEq, ptrL, appL, fillA, chunks, ivs, AV.iv, mkE, if_false, if_true, List.not_mem_nil, forall_eq, beq_self_eq_true, List.isEmpty_nil, Nat.reduceEqDiff, Nat.reduceLT, Nat.reduceLeDiff, Nat.reduceAdd, Nat.reduceMul, Int.reduceToNat, Int.reduceLE, Int.reduceLT]; try rfl) ?_
              rintro x1 cs' ⟨v, rfl, rfl, hv⟩ _ _ _
              have hdr : x.kids.drop i = k :: x.kids.drop (i + 1) := drop_eq hki
              rw [hdr, List.foldlM_cons] at hs
              cases hr : wk d f k m q with
              | none =>
                rw [hr] at hs
                simp only [Option.bind_eq_bind, Option.bind_none] at hs
                simp only [↓aX, evp, evq, evl, boxK, stillV, binV, AV.cells, mP, loadV, storeV, ldV, AV.stb, AV.one, IV.av1, Lb.app, Lb.fresh, reduceCtorEq, ptrL, appL, fillA, chunks, ivs, AV.iv, mkE, if_false, if_true, List.not_mem_nil, forall_eq, beq_self_eq_true, List.isEmpty_nil, Nat.reduceEqDiff, Nat.reduceLT, Nat.reduceLeDiff, Nat.reduceAdd, Nat.reduceMul, Int.reduceToNat, Int.reduceLE, Int.reduceLT, Option.isSome_none, Bool.not_false]
                exact ⟨_, ⟨v, by rw [hs]; rfl, rfl, by rw [hs]; simp⟩, rfl, rfl, rfl, rfl⟩
              | some r =>
                have hvr := hv r hr
                subst hvr
                rw [hr] at hs
                simp only [Option.bind_eq_bind, Option.bind_some] at hs
                have hb := wk_bound hq0 hr
                simp only [↓aX, evp, evq, evl, boxK, stillV, binV, AV.cells, mP, loadV, storeV, ldV, AV.stb, AV.one, IV.av1, Lb.app, Lb.fresh, reduceCtorEq, ptrL, appL, fillA, chunks, ivs, AV.iv, mkE, if_false, if_true, List.not_mem_nil, forall_eq, beq_self_eq_true, List.isEmpty_nil, Nat.reduceEqDiff, Nat.reduceLT, Nat.reduceLeDiff, Nat.reduceAdd, Nat.reduceMul, Int.reduceToNat, Int.reduceLE, Int.reduceLT, Option.isSome_some, Bool.not_true, hw]
                refine ⟨⟨(i + 1, v), hlt, by simp only; omega, by simp only; omega, hs⟩, by simp only; omega, WS_mk ?_ (by repeat' constructor) (by repeat' constructor)⟩
                intro l hl hu
                by_cases e : l = .par 0
                · subst e; simp
                · exfalso; apply hu; cases l <;> simp_all [Lb.fresh, upd_at, Hp.none]
            · have hil : i = x.kids.length := by omega
              subst hil
              rw [List.drop_length] at hs
              simp only [List.foldlM_nil] at hs
              rw [show decide ((x.kids.length : Int) < (x.kids.length : Int)) = false by simp]
              simp only [↓aX, evp, evq, evl, boxK, stillV, binV, AV.cells, mP, loadV, storeV, ldV, AV.stb, AV.one, IV.av1, Lb.app, Lb.fresh, reduceCtorEq, ptrL, appL, fillA, chunks, ivs, AV.iv, mkE, if_false, if_true, List.not_mem_nil, forall_eq, beq_self_eq_true, List.isEmpty_nil, Nat.reduceEqDiff, Nat.reduceLT, Nat.reduceLeDiff, Nat.reduceAdd, Nat.reduceMul, Int.reduceToNat, Int.reduceLE, Int.reduceLT]
              exact ⟨_, ⟨q, by rw [hs]; rfl, rfl, by rw [hs]; rintro r h; cases h; rfl⟩, rfl, rfl, rfl, rfl⟩
end Go.Am
