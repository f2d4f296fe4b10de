/- Documents: what lies where. -/
import Derived.Test.YtfinkeaikbmpgaaD2
set_option linter.defProp false
set_option linter.unnecessarySimpa false
set_option linter.unusedVariables false
set_option linter.unusedSimpArgs false
namespace Go.Am
open Go Go.RowKit

/-- The tree y lies at n, its parent being q, in the tree t that lies at off. -/
inductive Sub : Nat → Int → Tree → Nat → Int → Tree → Prop
  | self (off : Nat) (p : Int) (t : Tree) : Sub off p t off p t
  | kid {off : Nat} {p : Int} {t : Tree} {n : Nat} {q : Int} {y : Tree} (a b : List Tree) (k : Tree) : t.kids = a ++ k :: b → Sub (off + 1 + cntT a) off k n q y → Sub off p t n q y

def Lies (d : Doc) (n : Nat) (q : Int) (y : Tree) : Prop := ∃ post, d.drop n = y.flat n q ++ post

theorem Sub.rng {off : Nat} {p : Int} {t : Tree} {n : Nat} {q : Int} {y : Tree} (h : Sub off p t n q y) : off ≤ n ∧ n + y.cnt ≤ off + t.cnt := by
  induction h with
  | self => exact ⟨Nat.le_refl _, Nat.le_refl _⟩
  | @kid off p t n q y a b k hk _ ih =>
    have h1 := t.cnt_eq
    rw [hk, cntT_app] at h1
    simp only [cntT] at h1
    omega

theorem drop_app {α : Type} {a b c : List α} {n : Nat} (h : a.length = n) : (a ++ b).drop n = b := by subst h; simp

theorem Sub.lies {off : Nat} {p : Int} {t : Tree} {n : Nat} {q : Int} {y : Tree} (h : Sub off p t n q y) : ∀ d : Doc, Lies d off p t → Lies d n q y := by
  induction h with
  | self => exact fun _ h => h
  | @kid off p t n q y a b k hk _ ih =>
    rintro d ⟨post, h⟩
    refine ih d ⟨flats (off + 1 + cntT a + k.cnt) off b ++ post, ?_⟩
    rw [t.flat_eq, hk] at h
    have h2 := (drop_mem h).2
    rw [flats_app] at h2
    have h3 : d.drop (off + 1) = flats (off + 1) off a ++ (flats (off + 1 + cntT a) off (k :: b) ++ post) := by rw [h2]; exact List.append_assoc _ _ _
    rw [← List.drop_drop, h3, drop_app (c := []) (flats_len _ _ _)]
    simp [flats]

theorem Sub.parent {off : Nat} {p : Int} {t : Tree} {n : Nat} {q : Int} {y : Tree} (h : Sub off p t n q y) :
    (n = off ∧ q = p ∧ y = t) ∨ ∃ (m : Nat) (z : Tree) (r : Int), q = (m : Int) ∧ Sub off p t m r z ∧ m < n ∧ n + y.cnt ≤ m + z.cnt ∧ y ∈ z.kids ∧ off ≤ m := by
  induction h with
  | self => exact .inl ⟨rfl, rfl, rfl⟩
  | @kid off p t n q y a b k hk hs ih =>
    right
    rcases ih with ⟨rfl, rfl, rfl⟩ | ⟨m, z, r, e1, e2, e3, e4, e5, e6⟩
    · have h1 := t.cnt_eq
      rw [hk, cntT_app] at h1
      simp only [cntT] at h1
      exact ⟨off, t, p, rfl, .self _ _ _, by omega, by omega, by rw [hk]; simp, Nat.le_refl _⟩
    · exact ⟨m, z, r, e1, .kid a b k hk e2, e3, e4, e5, by omega⟩

theorem Sub.trans {off : Nat} {p : Int} {t : Tree} {n : Nat} {q : Int} {y : Tree} (h : Sub off p t n q y) {m : Nat} {r : Int} {z : Tree} (h2 : Sub n q y m r z) : Sub off p t m r z := by
  induction h with
  | self => exact h2
  | kid a b k hk _ ih => exact .kid a b k hk (ih h2)

/-- Some tree lies at each place. -/
theorem sub_all : ∀ (sz : Nat) (t : Tree) (off : Nat) (p : Int) (n : Nat), t.cnt ≤ sz → off ≤ n → n < off + t.cnt → ∃ q y, Sub off p t n q y := by
  intro sz
  induction sz with
  | zero => intro t off p n h; have := t.cnt_pos; omega
  | succ sz ih =>
    intro t off p n h h1 h2
    by_cases e : n = off
    · subst e; exact ⟨_, _, .self _ _ _⟩
    · have key : ∀ (ks a : List Tree), t.kids = a ++ ks → off + 1 + cntT a ≤ n → n < off + 1 + cntT a + cntT ks → ∃ q y, Sub off p t n q y := by
        intro ks
        induction ks with
        | nil => intro a _ h3 h4; simp [cntT] at h4; omega
        | cons k ks ihk =>
          intro a hk h3 h4
          by_cases hlt : n < off + 1 + cntT a + k.cnt
          · have hc := t.cnt_eq
            rw [hk, cntT_app] at hc
            simp only [cntT] at hc
            obtain ⟨q, y, hs⟩ := ih k (off + 1 + cntT a) off n (by omega) h3 hlt
            exact ⟨q, y, .kid a ks k hk hs⟩
          · simp only [cntT] at h4
            refine ihk (a ++ [k]) (by rw [hk]; simp) ?_ ?_
            · rw [cntT_app]; simp only [cntT]; omega
            · rw [cntT_app]; simp only [cntT]; omega
      refine key t.kids [] rfl ?_ ?_
      · simp [cntT]; omega
      · have := t.cnt_eq; simp [cntT]; omega

theorem Lies.node {d : Doc} {n : Nat} {q : Int} {y : Tree} (h : Lies d n q y) : d[n]? = some (y.node n q) := by
  obtain ⟨post, h⟩ := h
  rw [y.flat_eq] at h
  exact (drop_mem h).1
theorem Lies.len {d : Doc} {n : Nat} {q : Int} {y : Tree} (h : Lies d n q y) : n + y.cnt ≤ d.length := by
  obtain ⟨post, h⟩ := h
  have := congrArg List.length h
  rw [List.length_drop, List.length_append, y.flat_len] at this
  have := y.cnt_pos
  omega
theorem Lies.kid {d : Doc} {n : Nat} {q : Int} {y : Tree} (h : Lies d n q y) (a b : List Tree) (k : Tree) (hk : y.kids = a ++ k :: b) : Lies d (n + 1 + cntT a) n k :=
  (Sub.kid (off := n) (p := q) a b k hk (.self _ _ _)).lies d h
theorem Lies.uniq {d : Doc} {n : Nat} {q q' : Int} {y y' : Tree} (h : Lies d n q y) (h' : Lies d n q' y') : y = y' ∧ q = q' := by
  have e : q = q' := by
    have := h.node.symm.trans h'.node
    simp only [Option.some.injEq] at this
    exact congrArg Node.parent this
  subst e
  obtain ⟨post, h⟩ := h
  obtain ⟨post', h'⟩ := h'
  exact ⟨y.flat_inj y' n q post post' (h.symm.trans h'), rfl⟩

theorem lies_doc {t : Tree} {n : Nat} (h : n < (docOf t).length) : ∃ q y, Lies (docOf t) n q y ∧ Sub 0 (-1) t n q y := by
  rw [docOf_len] at h
  obtain ⟨q, y, hs⟩ := sub_all t.cnt t 0 (-1) n (Nat.le_refl _) (Nat.zero_le _) (by omega)
  exact ⟨q, y, hs.lies _ ⟨[], by simp [docOf]⟩, hs⟩

/-! What is below a good tree is fine. -/
theorem fines_mem : ∀ {p : Option Bool} {l : List Tree}, fines p l = true → ∀ x ∈ l, x.fine = true
  | _, [], _, x, hx => by simp at hx
  | p, y :: r, h, x, hx => by
    simp only [fines, Bool.and_eq_true] at h
    simp only [List.mem_cons] at hx
    rcases hx with rfl | hx
    · exact h.1
    · exact fines_mem h.2.2 x hx
theorem Tree.fine_kids {x : Tree} (h : x.fine = true) : fines none x.kids = true := by
  cases ht : x.text with
  | true =>
    rw [x.fine_t ht] at h
    simp only [Bool.and_eq_true, beq_iff_eq, List.length_eq_zero_iff] at h
    rw [h.2.2.2]; rfl
  | false =>
    rw [x.fine_e ht] at h
    simp only [Bool.and_eq_true] at h
    exact h.2.2
theorem Sub.fine {off : Nat} {p : Int} {t : Tree} {n : Nat} {q : Int} {y : Tree} (h : Sub off p t n q y) : t.fine = true → y.fine = true := by
  induction h with
  | self => exact id
  | kid a b k hk _ ih => exact fun h => ih (fines_mem (Tree.fine_kids h) k (by rw [hk]; simp))
theorem Tree.fine_text {x : Tree} (h : x.fine = true) (ht : x.text = true) : x.kids = [] ∧ x.attrs = [] ∧ x.s ≠ [] := by
  rw [x.fine_t ht] at h
  simp only [Bool.and_eq_true, beq_iff_eq, List.length_eq_zero_iff, bne_iff_ne] at h
  exact ⟨h.2.2.2, h.2.2.1, h.2.1⟩

/-! What is said. -/
mutual
def Tree.told : Tree → Bs
  | .mk t s _ ks => (if t then s else []) ++ toldT ks
def toldT : List Tree → Bs
  | [] => []
  | x :: r => x.told ++ toldT r
end
def Node.told (x : Node) : Bs := if x.text then x.s else []
mutual
theorem Tree.told_flat (off : Nat) (p : Int) : ∀ x : Tree, (x.flat off p).flatMap Node.told = x.told
  | .mk t s as ks => by simp only [Tree.flat, List.flatMap_cons, Node.told, Tree.told, toldT_flats (off + 1) off ks]
theorem toldT_flats (off : Nat) (p : Nat) : ∀ xs : List Tree, (flats off p xs).flatMap Node.told = toldT xs
  | [] => rfl
  | x :: r => by simp only [flats, List.flatMap_append, toldT, x.told_flat, toldT_flats _ p r]
end
theorem Lies.told {d : Doc} {n : Nat} {q : Int} {y : Tree} (h : Lies d n q y) : ((d.drop n).take y.cnt).flatMap Node.told = y.told := by
  obtain ⟨post, h⟩ := h
  rw [h, List.take_append_of_le_length (by rw [y.flat_len]; exact Nat.le_refl _), List.take_of_length_le (by rw [y.flat_len]; exact Nat.le_refl _), y.told_flat]

end Go.Am
