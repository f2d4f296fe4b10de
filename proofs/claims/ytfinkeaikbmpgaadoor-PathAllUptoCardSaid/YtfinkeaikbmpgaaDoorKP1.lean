import Derived.Test.YtfinkeaikbmpgaaDoorKT13
import Derived.Test.YtfinkeaikbmpgaaDoorKT26
set_option linter.unusedSimpArgs false
set_option linter.unusedVariables false
set_option linter.unnecessarySimpa false
set_option linter.defProp false
/- Paths: which nodes are meant. -/
namespace Go.Am
open Go Go.RowKit
structure Step where
  name : Bs
  n : Int
def Step.cs (x : Step) : List IV := [.str x.name, .int .i64 x.n]
def Step.iv (x : Step) : IV := .agg x.cs
def Step.av (x : Step) : AV := .agg [.str x.name, .int .i64 x.n]
def okStep (s : Step) : Bool := (s.name == [] || (s.name == [42] || named s.name)) && (decide (0 ≤ s.n) && decide (s.n ≤ 99))
def goodPath (l : List Step) : Bool := l.all okStep && (decide (1 ≤ l.length) && decide (l.length ≤ 5))
/-- Is a node meant by a step's name? -/
def fitsN (text : Bool) (s : Bs) (name : Bs) : Bool := if name == [] || text then name == [] && text else name == [42] || name == s
/-- Of some nodes, those that a step chooses; k of those that fit have come already. -/
def chosenF (d : Doc) (s : Step) : Nat → List Int → List Int
  | _, [] => []
  | k, n :: r => match d[n.toNat]? with
    | some x => if fitsN x.text x.s s.name then (if s.n = 0 ∨ s.n = ((k + 1 : Nat) : Int) then n :: chosenF d s (k + 1) r else chosenF d s (k + 1) r) else chosenF d s k r
    | none => chosenF d s k r
def kidsD (d : Doc) (n : Int) : List Int := match d[n.toNat]? with
  | some x => x.kids
  | none => []
def selF (d : Doc) : List Int → List Step → List Int
  | now, [] => now
  | now, s :: l => selF d (now.flatMap fun n => chosenF d s 0 (kidsD d n)) l
def selectF (d : Doc) : List Step → List Int
  | [] => []
  | s :: l => selF d (chosenF d s 0 [0]) l
theorem selF_app (d : Doc) : ∀ (l : List Step) (a b : List Int), selF d (a ++ b) l = selF d a l ++ selF d b l
  | [], a, b => rfl
  | s :: l, a, b => by simp only [selF, List.flatMap_append, selF_app d l]
theorem selF_nil (d : Doc) : ∀ (l : List Step), selF d [] l = []
  | [] => rfl
  | s :: l => by simp only [selF, List.flatMap_nil, selF_nil d l]
theorem selF_flat (d : Doc) : ∀ (l : List Step) (a : List Int), selF d a l = a.flatMap fun n => selF d [n] l
  | l, [] => by simp [selF_nil]
  | l, n :: r => by rw [show n :: r = [n] ++ r from rfl, selF_app, selF_flat d l r]; simp
theorem selF_snoc (d : Doc) (s : Step) : ∀ (l : List Step) (a : List Int), selF d a (l ++ [s]) = (selF d a l).flatMap fun n => chosenF d s 0 (kidsD d n)
  | [], a => rfl
  | t :: l, a => by simp only [List.cons_append, selF, selF_snoc d s l]
def calledF (d : Doc) (name : Bs) (k : Nat) : Bool := match d[k]? with
  | some x => fitsN x.text x.s name
  | none => false
def isPar (d : Doc) (p : Int) (k : Nat) : Bool := match d[k]? with
  | some x => x.parent == p
  | none => false
/-- How many, up to n, of those that are called so have that parent. -/
def whichF (d : Doc) (p : Int) (name : Bs) (n : Nat) : Nat := ((List.range (n + 1)).filter fun k => isPar d p k && calledF d name k).length
def meantF' (d : Doc) : List Step → Nat → Bool
  | [], _ => false
  | s :: l, n => match d[n]? with
    | some x => calledF d s.name n && ((if x.parent < 0 then l.isEmpty else (!l.isEmpty && meantF' d l x.parent.toNat)) && (s.n == 0 || s.n == ((whichF d x.parent s.name n : Nat) : Int)))
    | none => false
end Go.Am

/- Paths: chosen step by step, or node by node: the same. -/
namespace Go.Am
open Go Go.RowKit
/-- How deep a node is: the root 1. -/
def depD (d : Doc) (n : Nat) : Nat := match d[n]? with
  | some x => if h : 0 ≤ x.parent ∧ x.parent.toNat < n then depD d x.parent.toNat + 1 else 1
  | none => 0
termination_by n
decreasing_by exact h.2
theorem depD_eq {d : Doc} {n : Nat} {x : Node} {p : Int} (h : d[n]? = some x) (hp : x.parent = p) : depD d n = if 0 ≤ p ∧ p.toNat < n then depD d p.toNat + 1 else 1 := by
  subst hp
  rw [depD, h]
  simp only
  split <;> rfl
theorem meantF'_eq {d : Doc} {n : Nat} {x : Node} {p : Int} {s : Step} {l : List Step} (h : d[n]? = some x) (hp : x.parent = p) :
    meantF' d (s :: l) n = (calledF d s.name n && ((if p < 0 then l.isEmpty else (!l.isEmpty && meantF' d l p.toNat)) && (s.n == 0 || s.n == ((whichF d p s.name n : Nat) : Int)))) := by
  subst hp
  rw [meantF', h]
theorem chosenF_eq {d : Doc} {s : Step} {k n : Nat} {r : List Int} {x : Node} {tx : Bool} {sx : Bs} (h : d[n]? = some x) (ht : x.text = tx) (hs : x.s = sx) :
    chosenF d s k ((n : Int) :: r) = if fitsN tx sx s.name then (if s.n = 0 ∨ s.n = ((k + 1 : Nat) : Int) then (n : Int) :: chosenF d s (k + 1) r else chosenF d s (k + 1) r) else chosenF d s k r := by
  subst ht hs
  rw [chosenF, Int.toNat_natCast, h]
section
variable {t : Tree}
theorem Sub.at {n : Nat} {q : Int} {y : Tree} (h : Sub 0 (-1) t n q y) : (docOf t)[n]? = some (y.node n q) := (h.lies _ ⟨[], by simp [docOf]⟩).node
theorem sub_parent {n : Nat} {q : Int} {y : Tree} (h : Sub 0 (-1) t n q y) : (n = 0 ∧ q = -1) ∨ ∃ (m : Nat) (z : Tree) (r : Int), q = (m : Int) ∧ Sub 0 (-1) t m r z ∧ m < n := by
  rcases h.parent with ⟨e1, e2, _⟩ | ⟨m, z, r, e1, e2, e3, _⟩
  · exact .inl ⟨e1, e2⟩
  · exact .inr ⟨m, z, r, e1, e2, e3⟩
theorem depD_at {n : Nat} {q : Int} {y : Tree} (h : Sub 0 (-1) t n q y) : (n = 0 ∧ q = -1 ∧ depD (docOf t) n = 1) ∨ ∃ (m : Nat), q = (m : Int) ∧ m < n ∧ depD (docOf t) n = depD (docOf t) m + 1 := by
  rcases sub_parent h with ⟨e1, e2⟩ | ⟨m, z, r, e1, e2, e3⟩
  · refine .inl ⟨e1, e2, ?_⟩
    rw [depD_eq h.at (p := q) rfl, if_neg (by omega)]
  · refine .inr ⟨m, e1, e3, ?_⟩
    rw [depD_eq h.at (p := q) rfl, if_pos ⟨by omega, by omega⟩, e1, Int.toNat_natCast]
/-- Below a node all are deeper. -/
theorem depD_sub {n : Nat} {q : Int} {y : Tree} (h : Sub 0 (-1) t n q y) : ∀ (k : Nat) (r : Int) (z : Tree), Sub n q y k r z → k ≠ n → depD (docOf t) n < depD (docOf t) k := by
  intro k
  induction k using Nat.strongRecOn with
  | ind k ih =>
    intro r z hs hne
    rcases hs.parent with ⟨e, _⟩ | ⟨m, w, r', e1, e2, e3, _⟩
    · exact absurd e hne
    · have hk := h.trans hs
      rcases depD_at hk with ⟨_, e, _⟩ | ⟨m', e4, e5, e6⟩
      · omega
      · have : m' = m := by omega
        subst this
        by_cases hm : m' = n
        · subst hm; omega
        · have := ih m' e3 r' w e2 hm; omega
theorem meant_dep : ∀ (l : List Step) (n : Nat) (q : Int) (y : Tree), Sub 0 (-1) t n q y → meantF' (docOf t) l n = true → depD (docOf t) n = l.length
  | [], n, q, y, _, h => by simp [meantF'] at h
  | s :: l, n, q, y, hs, h => by
    rw [meantF'_eq hs.at (p := q) rfl] at h
    simp only [Bool.and_eq_true] at h
    obtain ⟨_, h, _⟩ := h
    rcases depD_at hs with ⟨e1, e2, e3⟩ | ⟨m, e1, e2, e3⟩
    · rw [if_pos (by omega)] at h
      have : l = [] := by simpa using h
      subst this; simpa using e3
    · rw [if_neg (by omega), Bool.and_eq_true] at h
      obtain ⟨m', z, r, e4, e5, e6⟩ := (sub_parent hs).resolve_left (by omega)
      have : m' = m := by omega
      subst this
      rw [e1, Int.toNat_natCast] at h
      have := meant_dep l m' r z e5 h.2
      simp only [List.length_cons]; omega
theorem meant_up {n : Nat} {q : Int} {y : Tree} (h : Sub 0 (-1) t n q y) {pre : List Step} (hp : depD (docOf t) n = pre.length) : ∀ (l : List Step) (k : Nat) (r : Int) (z : Tree), Sub n q y k r z →
    meantF' (docOf t) (l ++ pre) k = true → meantF' (docOf t) pre n = true
  | [], k, r, z, hs, hm => by
    have := meant_dep pre k r z (h.trans hs) hm
    by_cases e : k = n
    · subst e; exact hm
    · have := depD_sub h k r z hs e; omega
  | s :: l, k, r, z, hs, hm => by
    have hd := meant_dep _ k r z (h.trans hs) hm
    have hne : k ≠ n := by rintro rfl; simp at hd; omega
    rcases hs.parent with ⟨e, _⟩ | ⟨m, w, r', e1, e2, e3, _⟩
    · exact absurd e hne
    · simp only [List.cons_append] at hm
      rw [meantF'_eq (h.trans hs).at (p := r) rfl] at hm
      simp only [Bool.and_eq_true] at hm
      obtain ⟨_, hm, _⟩ := hm
      rw [if_neg (by omega), Bool.and_eq_true, e1, Int.toNat_natCast] at hm
      exact meant_up h hp l m r' w e2 hm.2
theorem sub_mem {n : Nat} {q : Int} {y : Tree} (h : Sub 0 (-1) t n q y) {k : Nat} (h1 : n ≤ k) (h2 : k < n + y.cnt) : ∃ r z, Sub n q y k r z := sub_all y.cnt y n q k (Nat.le_refl _) h1 h2
theorem whichF_eq (d : Doc) (p : Int) (name : Bs) (n : Nat) : whichF d p name n = (((parPos p 0 d).filter fun k => decide (k ≤ n)).filter (calledF d name)).length := by
  have key : ∀ (m j : Nat) (e : List Node), (∀ i, e[i]? = d[j + i]?) → e.length = m →
      ((List.range' j (n + 1 - j)).filter fun k => isPar d p k && calledF d name k) = ((parPos p j e).filter fun k => decide (k ≤ n)).filter (calledF d name) := by
    intro m
    induction m with
    | zero =>
      intro j e he hl
      have : e = [] := List.length_eq_zero_iff.1 hl
      subst this
      simp only [parPos, List.filter_nil]
      rw [List.filter_eq_nil_iff]
      intro k hk
      simp only [List.mem_range'_1] at hk
      have := he (k - j)
      simp only [List.getElem?_nil, show j + (k - j) = k by omega] at this
      unfold isPar
      rw [← this]; simp
    | succ m ih =>
      intro j e he hl
      obtain ⟨x, r, rfl⟩ : ∃ x r, e = x :: r := by
        cases e with
        | nil => simp at hl
        | cons x r => exact ⟨x, r, rfl⟩
      have hx : d[j]? = some x := by have := he 0; simpa using this.symm
      have ih' := ih (j + 1) r (fun i => by have := he (i + 1); simp only [List.getElem?_cons_succ] at this; rw [this]; congr 1; omega) (by simpa using hl)
      simp only [parPos, List.filter_append]
      rw [← ih']
      by_cases hjn : j ≤ n
      · rw [show n + 1 - j = (n + 1 - (j + 1)) + 1 by omega, List.range'_succ, List.filter_cons]
        have hip : isPar d p j = (x.parent == p) := by unfold isPar; rw [hx]
        rw [hip]
        by_cases hp : x.parent = p
        · rw [if_pos hp]
          simp only [hp, beq_self_eq_true, Bool.true_and, List.filter_cons, List.filter_nil, hjn, decide_true, if_true]
          split <;> simp
        · rw [if_neg hp]
          simp [hp]
      · rw [show n + 1 - j = 0 by omega, show n + 1 - (j + 1) = 0 by omega]
        simp only [List.range'_zero, List.filter_nil, List.append_nil]
        by_cases hp : x.parent = p
        · simp [hp, hjn]
        · simp [hp]
  have := key d.length 0 d (fun i => by simp) rfl
  unfold whichF
  rw [List.range_eq_range', ← this]; simp
theorem kidsN_app : ∀ (off : Nat) (xs ys : List Tree), kidsN off (xs ++ ys) = kidsN off xs ++ kidsN (off + cntT xs) ys
  | off, [], ys => by simp [kidsN, cntT]
  | off, k :: r, ys => by simp [kidsN, cntT, kidsN_app _ r ys, Nat.add_assoc]
theorem kidsN_lt : ∀ (off : Nat) (xs : List Tree), ∀ k ∈ kidsN off xs, k < off + cntT xs
  | _, [], k, h => by simp [kidsN] at h
  | off, x :: r, k, h => by
    simp only [kidsN, List.mem_cons] at h
    have := x.cnt_pos
    simp only [cntT]
    rcases h with rfl | h
    · omega
    · have := kidsN_lt _ r k h; omega
def fitT (name : Bs) (k : Tree) : Bool := fitsN k.text k.s name
theorem called_kid {n : Nat} {q : Int} {y : Tree} (h : Sub 0 (-1) t n q y) (name : Bs) {a b : List Tree} {k : Tree} (hk : y.kids = a ++ k :: b) : calledF (docOf t) name (n + 1 + cntT a) = fitT name k := by
  have hs : Sub 0 (-1) t (n + 1 + cntT a) n k := h.trans (.kid a b k hk (.self _ _ _))
  unfold calledF
  rw [hs.at]; rfl
theorem which_kid {n : Nat} {q : Int} {y : Tree} (h : Sub 0 (-1) t n q y) (name : Bs) {a b : List Tree} {k : Tree} (hk : y.kids = a ++ k :: b) :
    whichF (docOf t) n name (n + 1 + cntT a) = (a.filter (fitT name)).length + if fitT name k then 1 else 0 := by
  rw [whichF_eq, doc_pars h, hk, kidsN_app, List.filter_append]
  have hk0 := k.cnt_pos
  have e1 : (kidsN (n + 1) a).filter (fun x => decide (x ≤ n + 1 + cntT a)) = kidsN (n + 1) a := by
    rw [List.filter_eq_self]
    intro x hx
    have := kidsN_lt _ a x hx
    simp; omega
  have e2 : (kidsN (n + 1 + cntT a) (k :: b)).filter (fun x => decide (x ≤ n + 1 + cntT a)) = [n + 1 + cntT a] := by
    simp only [kidsN]
    rw [List.filter_cons_of_pos (by simp)]
    congr 1
    rw [List.filter_eq_nil_iff]
    intro x hx
    have := kidsN_ge _ b x hx
    simp; omega
  rw [e1, e2, List.filter_append]
  have e3 : ∀ (c a' : List Tree), y.kids = a' ++ c ++ (k :: b) → ((kidsN (n + 1 + cntT a') c).filter (calledF (docOf t) name)).length = (c.filter (fitT name)).length := by
    intro c
    induction c with
    | nil => intro a' _; rfl
    | cons z c ih =>
      intro a' he
      simp only [kidsN, List.filter_cons]
      rw [called_kid h name (a := a') (b := c ++ k :: b) (k := z) (by rw [he]; simp)]
      have := ih (a' ++ [z]) (by rw [he]; simp)
      rw [cntT_app] at this
      simp only [cntT, Nat.add_zero] at this
      rw [show n + 1 + cntT a' + z.cnt = n + 1 + (cntT a' + z.cnt) by omega]
      split <;> simp [this]
  have := e3 a [] (by rw [hk]; simp)
  simp only [cntT, Nat.add_zero] at this
  rw [List.length_append, this, List.filter_cons, called_kid h name hk]
  split <;> simp
theorem selF_meant : ∀ (l : List Step) (n : Nat) (q : Int) (y : Tree) (pre : List Step), Sub 0 (-1) t n q y → meantF' (docOf t) pre n = true →
    selF (docOf t) [(n : Int)] l = ((List.range' n y.cnt).filter (meantF' (docOf t) (l.reverse ++ pre))).map fun k : Nat => (k : Int)
  | [], n, q, y, pre, hs, hm => by
    have hd := meant_dep pre n q y hs hm
    have hc := y.cnt_pos
    simp only [selF, List.reverse_nil, List.nil_append]
    rw [show y.cnt = (y.cnt - 1) + 1 by omega, List.range'_succ, List.filter_cons, if_pos hm]
    have : (List.range' (n + 1) (y.cnt - 1)).filter (meantF' (docOf t) pre) = [] := by
      rw [List.filter_eq_nil_iff]
      intro k hk hmk
      simp only [List.mem_range'_1] at hk
      obtain ⟨r, z, hz⟩ := sub_mem hs (k := k) (by omega) (by omega)
      have h1 := meant_dep pre k r z (hs.trans hz) hmk
      have h2 := depD_sub hs k r z hz (by omega)
      omega
    rw [this]; rfl
  | s :: l, n, q, y, pre, hs, hm => by
    have hd := meant_dep pre n q y hs hm
    have hpre : pre ≠ [] := by rintro rfl; simp [meantF'] at hm
    have hkd : kidsD (docOf t) (n : Int) = kidsAt (n + 1) y.kids := by unfold kidsD; rw [Int.toNat_natCast, hs.at]; rfl
    have e1 : selF (docOf t) [(n : Int)] (s :: l) = (chosenF (docOf t) s 0 (kidsAt (n + 1) y.kids)).flatMap fun m => selF (docOf t) [m] l := by
      simp only [selF, List.flatMap_cons, List.flatMap_nil, List.append_nil, hkd]
      exact selF_flat _ _ _
    have e2 : (s :: l).reverse ++ pre = l.reverse ++ (s :: pre) := by simp
    rw [e1, e2, y.cnt_eq, List.range'_succ, List.filter_cons]
    have hn0 : meantF' (docOf t) (l.reverse ++ (s :: pre)) n = false := by
      cases h : meantF' (docOf t) (l.reverse ++ (s :: pre)) n with
      | false => rfl
      | true =>
        have := meant_dep _ n q y hs h
        simp at this; omega
    rw [if_neg (by rw [hn0]; simp)]
    have kids : ∀ (b a : List Tree), y.kids = a ++ b →
        (chosenF (docOf t) s (a.filter (fitT s.name)).length (kidsAt (n + 1 + cntT a) b)).flatMap (fun m => selF (docOf t) [m] l) =
          ((List.range' (n + 1 + cntT a) (cntT b)).filter (meantF' (docOf t) (l.reverse ++ (s :: pre)))).map fun k : Nat => (k : Int) := by
      intro b
      induction b with
      | nil => intro a _; simp [kidsAt, chosenF, cntT]
      | cons k b ihb =>
        intro a hk
        have hsk : Sub 0 (-1) t (n + 1 + cntT a) n k := hs.trans (.kid a b k hk (.self _ _ _))
        have hcl := called_kid hs s.name hk
        have hwh := which_kid hs s.name hk
        have hmk : meantF' (docOf t) (s :: pre) (n + 1 + cntT a) = (fitT s.name k && (s.n == 0 || s.n == (((a.filter (fitT s.name)).length + 1 : Nat) : Int))) := by
          rw [meantF'_eq hsk.at (p := (n : Int)) rfl, hcl, if_neg (by omega), Int.toNat_natCast, hm, hwh]
          cases hf : fitT s.name k with
          | false => simp
          | true =>
            cases pre with
            | nil => exact absurd rfl hpre
            | cons _ _ => simp
        have ih := ihb (a ++ [k]) (by rw [hk]; simp)
        rw [cntT_app, List.filter_append] at ih
        simp only [cntT, Nat.add_zero] at ih
        rw [← Nat.add_assoc] at ih
        simp only [cntT]
        have hrange : List.range' (n + 1 + cntT a) (k.cnt + cntT b) = List.range' (n + 1 + cntT a) k.cnt ++ List.range' (n + 1 + cntT a + k.cnt) (cntT b) := by
          have := (List.range'_append_1 (s := n + 1 + cntT a) (m := k.cnt) (n := cntT b)); exact this.symm
        rw [hrange, List.filter_append, List.map_append]
        simp only [kidsAt]
        rw [chosenF_eq (tx := k.text) (sx := k.s) hsk.at rfl rfl]
        have hnot : meantF' (docOf t) (s :: pre) (n + 1 + cntT a) = false → (List.range' (n + 1 + cntT a) k.cnt).filter (meantF' (docOf t) (l.reverse ++ (s :: pre))) = [] := by
          intro hf
          rw [List.filter_eq_nil_iff]
          intro j hj hmj
          simp only [List.mem_range'_1] at hj
          obtain ⟨r, z, hz⟩ := sub_mem hsk (k := j) (by omega) (by omega)
          have hdk : depD (docOf t) (n + 1 + cntT a) = (s :: pre).length := by
            rcases depD_at hsk with ⟨_, e, _⟩ | ⟨m, e3, e4, e5⟩
            · omega
            · have : m = n := by omega
              subst this; simp; omega
          have := meant_up hsk hdk l.reverse j r z hz hmj
          rw [hf] at this; cases this
        by_cases hf : fitsN k.text k.s s.name = true
        · rw [if_pos hf]
          have hf' : fitT s.name k = true := hf
          rw [hf'] at hmk
          simp only [Bool.true_and] at hmk
          rw [List.filter_cons, if_pos hf'] at ih
          simp only [List.filter_nil, List.length_append, List.length_cons, List.length_nil, Nat.zero_add] at ih
          by_cases hn : s.n = 0 ∨ s.n = (((a.filter (fitT s.name)).length + 1 : Nat) : Int)
          · rw [if_pos hn]
            have hmt : meantF' (docOf t) (s :: pre) (n + 1 + cntT a) = true := by
              rw [hmk]; simp only [Bool.or_eq_true, beq_iff_eq]; exact hn
            rw [List.flatMap_cons, selF_meant l _ n k (s :: pre) hsk hmt, ih]
          · rw [if_neg hn]
            have hmf : meantF' (docOf t) (s :: pre) (n + 1 + cntT a) = false := by
              rw [hmk]; simp only [not_or] at hn; simp only [Bool.or_eq_false_iff, beq_eq_false_iff_ne]; exact hn
            rw [hnot hmf, ih]; rfl
        · rw [if_neg hf]
          have hf' : fitT s.name k = false := by simpa [fitT] using hf
          rw [hf'] at hmk
          rw [List.filter_cons, if_neg (by rw [hf']; simp)] at ih
          simp only [List.filter_nil, List.length_append, List.length_nil, Nat.add_zero] at ih
          rw [hnot (by rw [hmk]; rfl), ih]; rfl
    have := kids y.kids [] rfl
    simp only [List.filter_nil, List.length_nil, cntT, Nat.add_zero] at this
    exact this
/-- A path means, step by step, what it means node by node. -/
theorem selectF_meant (l : List Step) (hl : l ≠ []) : selectF (docOf t) l = ((List.range (docOf t).length).filter (meantF' (docOf t) l.reverse)).map fun k : Nat => (k : Int) := by
  cases l with
  | nil => exact absurd rfl hl
  | cons s l =>
    have hs : Sub 0 (-1) t 0 (-1) t := .self _ _ _
    have hat := hs.at
    have hm : meantF' (docOf t) [s] 0 = (fitsN t.text t.s s.name && (s.n == 0 || s.n == 1)) := by
      rw [meantF'_eq hat (p := -1) rfl]
      have h1 : calledF (docOf t) s.name 0 = fitsN t.text t.s s.name := by unfold calledF; rw [hat]; rfl
      have h2 : whichF (docOf t) (-1) s.name 0 = if fitsN t.text t.s s.name then 1 else 0 := by
        unfold whichF
        have hip : isPar (docOf t) (-1) 0 = true := by unfold isPar; rw [hat]; rfl
        rw [List.range_one, List.filter_cons, hip, h1]
        by_cases h : fitsN t.text t.s s.name = true <;> simp [h]
      rw [h1, h2, if_pos (by omega)]
      by_cases h : fitsN t.text t.s s.name = true <;> simp [h]
    have hchosen : chosenF (docOf t) s 0 [0] = if meantF' (docOf t) [s] 0 = true then [0] else [] := by
      rw [show [(0 : Int)] = [((0 : Nat) : Int)] from rfl, chosenF_eq (tx := t.text) (sx := t.s) hat rfl rfl]
      simp only [hm]
      by_cases h : fitsN t.text t.s s.name = true
      · rw [if_pos h]
        simp only [h, Bool.true_and, Bool.or_eq_true, beq_iff_eq, chosenF]
        by_cases hn : s.n = 0 ∨ s.n = 1
        · rw [if_pos (by simpa using hn), if_pos hn]
        · rw [if_neg (by simpa using hn), if_neg hn]
      · rw [if_neg h]; simp [h, chosenF]
    show selF (docOf t) (chosenF (docOf t) s 0 [0]) l = _
    rw [hchosen, docOf_len, List.range_eq_range']
    have e : (s :: l).reverse = l.reverse ++ [s] := by simp
    rw [e]
    by_cases h : meantF' (docOf t) [s] 0 = true
    · rw [if_pos h]
      exact selF_meant l 0 (-1) t [s] hs h
    · rw [if_neg h, selF_nil]
      have hd : depD (docOf t) 0 = [s].length := by
        rcases depD_at hs with ⟨_, _, e⟩ | ⟨m, e, _⟩
        · exact e
        · omega
      have : (List.range' 0 t.cnt).filter (meantF' (docOf t) (l.reverse ++ [s])) = [] := by
        rw [List.filter_eq_nil_iff]
        intro j hj hmj
        simp only [List.mem_range'_1] at hj
        obtain ⟨r, z, hz⟩ := sub_mem hs (k := j) (by omega) (by omega)
        exact h (meant_up hs hd l.reverse j r z hz hmj)
      rw [this]; rfl
end
end Go.Am

/- Paths: which nodes are meant. -/
namespace Go.Am
open Go Go.RowKit
theorem Step.cells_eq (x : Step) : x.iv.cells = x.cs := rfl
theorem elszS (l : List Step) : Elsz 2 (l.map Step.iv) := by
  intro y hy
  obtain ⟨x, _, rfl⟩ := List.mem_map.1 hy
  rfl
theorem flatSt (l : List Step) : Flat (l.map Step.iv) := by
  intro y hy z hz cs
  obtain ⟨x, _, rfl⟩ := List.mem_map.1 hy
  simp only [Step.cells_eq, Step.cs, List.mem_cons, List.not_mem_nil, or_false] at hz
  rcases hz with rfl | rfl <;> simp
theorem stGet (l : List Step) (i : Nat) : (l.map Step.iv)[i]? = (l[i]?).map Step.iv := List.getElem?_map ..
section
variable {P : Program} {G : Nat → Option (List IV)}
def c_path_fits : AC :=
(.seq (.reg [⟨(some 2), none, (.box (.t 0))⟩, ⟨(some 3), none, (.box (.t 1))⟩, ⟨(some 4), none, (.mov (.c (.bool false)))⟩]) (.seq (.seq (.reg [⟨(some 5), none, (.fld (.t 3) 0)⟩, ⟨(some 6), none, (.load none (.t 5))⟩, ⟨(some 7), none, (.bin .eql (.t 6) (.c (.str [])))⟩, ⟨(some 8), none, (.mov (.t 7))⟩, ⟨(some 9), (some (8, false)), (.fld (.t 2) 0)⟩, ⟨(some 10), (some (8, false)), (.load none (.t 9))⟩, ⟨(some 11), none, (.pick (.t 8) (.c (.bool true)) (.t 10))⟩]) (.cond (.t 11) (.seq (.reg [⟨(some 12), none, (.fld (.t 3) 0)⟩, ⟨(some 13), none, (.load none (.t 12))⟩, ⟨(some 14), none, (.bin .eql (.t 13) (.c (.str [])))⟩, ⟨(some 15), none, (.mov (.t 14))⟩, ⟨(some 16), (some (15, true)), (.fld (.t 2) 0)⟩, ⟨(some 17), (some (15, true)), (.load none (.t 16))⟩, ⟨(some 18), none, (.pick (.t 15) (.t 17) (.c (.bool false)))⟩, ⟨(some 4), none, (.mov (.t 18))⟩]) .ret) .skip)) (.seq (.reg [⟨(some 19), none, (.fld (.t 3) 0)⟩, ⟨(some 20), none, (.load none (.t 19))⟩, ⟨(some 21), none, (.bin .eql (.t 20) (.c (.str [42])))⟩, ⟨(some 22), none, (.mov (.t 21))⟩, ⟨(some 23), (some (22, false)), (.fld (.t 3) 0)⟩, ⟨(some 24), (some (22, false)), (.load none (.t 23))⟩, ⟨(some 25), (some (22, false)), (.fld (.t 2) 1)⟩, ⟨(some 26), (some (22, false)), (.load none (.t 25))⟩, ⟨(some 27), (some (22, false)), (.bin .eql (.t 24) (.t 26))⟩, ⟨(some 28), none, (.pick (.t 22) (.c (.bool true)) (.t 27))⟩, ⟨(some 4), none, (.mov (.t 28))⟩]) .ret)))
theorem pFits {f_path_fits : Nat} (hF : compF P G f_path_fits = some (29, [(none, 4)], c_path_fits.bare)) (x : Node) (s : Step) : PureC P G f_path_fits [x.av, s.av] (.bool (fitsN x.text x.s s.name)) := by
  refine pure_of_go hF (by simp) (by simp [lbss, AV.lbs, Node.av, Step.av]) (by simp [AV.lbs]) ?_
  unfold c_path_fits fitsN
  simp only [↓aX, evp, evq, evl, boxK, stillV, binV, AV.cells, mP, loadV, storeV, ldV, AV.stb, AV.one, IV.av1, Lb.app, Lb.fresh, reduceCtorEq, ptrL, appL, fillA, chunks, ivs, AV.iv, mkE, if_false, if_true, List.not_mem_nil, forall_eq, beq_self_eq_true, List.isEmpty_nil, Nat.reduceEqDiff, Nat.reduceLT, Nat.reduceLeDiff, Nat.reduceAdd, Nat.reduceMul, Int.reduceToNat, Int.reduceLE, Int.reduceLT, Node.av, Step.av]
  cases h1 : (s.name == []) with
  | true =>
    cases h2 : x.text <;> simp only [↓aX, evp, evq, evl, boxK, stillV, binV, AV.cells, mP, loadV, storeV, ldV, AV.stb, AV.one, IV.av1, Lb.app, Lb.fresh, reduceCtorEq, ptrL, appL, fillA, chunks, ivs, AV.iv, mkE, if_false, if_true, List.not_mem_nil, forall_eq, beq_self_eq_true, List.isEmpty_nil, Nat.reduceEqDiff, Nat.reduceLT, Nat.reduceLeDiff, Nat.reduceAdd, Nat.reduceMul, Int.reduceToNat, Int.reduceLE, Int.reduceLT, h1, Bool.true_or, Bool.true_and]
  | false =>
    cases h2 : x.text with
    | true => simp only [↓aX, evp, evq, evl, boxK, stillV, binV, AV.cells, mP, loadV, storeV, ldV, AV.stb, AV.one, IV.av1, Lb.app, Lb.fresh, reduceCtorEq, ptrL, appL, fillA, chunks, ivs, AV.iv, mkE, if_false, if_true, List.not_mem_nil, forall_eq, beq_self_eq_true, List.isEmpty_nil, Nat.reduceEqDiff, Nat.reduceLT, Nat.reduceLeDiff, Nat.reduceAdd, Nat.reduceMul, Int.reduceToNat, Int.reduceLE, Int.reduceLT, h1, Bool.or_true, Bool.false_and]
    | false =>
      simp only [↓aX, evp, evq, evl, boxK, stillV, binV, AV.cells, mP, loadV, storeV, ldV, AV.stb, AV.one, IV.av1, Lb.app, Lb.fresh, reduceCtorEq, ptrL, appL, fillA, chunks, ivs, AV.iv, mkE, if_false, if_true, List.not_mem_nil, forall_eq, beq_self_eq_true, List.isEmpty_nil, Nat.reduceEqDiff, Nat.reduceLT, Nat.reduceLeDiff, Nat.reduceAdd, Nat.reduceMul, Int.reduceToNat, Int.reduceLE, Int.reduceLT, h1, Bool.or_false]
      cases h3 : (s.name == [42]) <;> simp only [↓aX, evp, evq, evl, boxK, stillV, binV, AV.cells, mP, loadV, storeV, ldV, AV.stb, AV.one, IV.av1, Lb.app, Lb.fresh, reduceCtorEq, ptrL, appL, fillA, chunks, ivs, AV.iv, mkE, if_false, if_true, List.not_mem_nil, forall_eq, beq_self_eq_true, List.isEmpty_nil, Nat.reduceEqDiff, Nat.reduceLT, Nat.reduceLeDiff, Nat.reduceAdd, Nat.reduceMul, Int.reduceToNat, Int.reduceLE, Int.reduceLT, Bool.true_or, Bool.false_or]
theorem chosen_step {d : Doc} {s : Step} {k n : Nat} {r : List Int} {x : Node} (h : d[n]? = some x) :
    chosenF d s k ((n : Int) :: r) = if fitsN x.text x.s s.name then (if s.n = 0 ∨ s.n = ((k + 1 : Nat) : Int) then (n : Int) :: chosenF d s (k + 1) r else chosenF d s (k + 1) r) else chosenF d s k r := by
  simp only [chosenF, Int.toNat_natCast, h]
def c_path_chosen (f_path_fits : Nat) : AC :=
(.seq (.reg [⟨(some 3), none, (.box (.t 0))⟩, ⟨(some 5), none, (.box (.t 2))⟩, ⟨(some 6), none, (.mov (.c .nil0))⟩]) (.seq (.reg [⟨(some 7), none, (.mov (.c .nil0))⟩]) (.gh (.own 7 1) (.seq (.reg [⟨(some 8), none, (.mov (.c (.int .i64 0)))⟩]) (.seq (.seq (.reg [⟨(some 11), none, (.mov (.t 1))⟩, ⟨(some 12), none, (.len (.t 11))⟩, ⟨(some 13), none, (.mov (.c (.int .i64 0)))⟩]) (.block 0 (.loop (.seq (.reg [⟨(some 14), none, (.bin .lss (.t 13) (.t 12))⟩]) (.seq (.cond (.t 14) .skip (.exit 0)) (.seq (.block 1 (.seq (.reg [⟨(some 15), none, (.ixa (.t 11) (.t 13) 1)⟩, ⟨(some 16), none, (.load none (.t 15))⟩, ⟨(some 10), none, (.mov (.t 16))⟩]) (.seq (.seq (.dreg [⟨(some 17), none, (.fld (.t 3) 0)⟩, ⟨(some 18), none, (.load none (.t 17))⟩, ⟨(some 19), none, (.mov (.t 10))⟩, ⟨(some 20), none, (.ixa (.t 18) (.t 19) 5)⟩, ⟨(some 21), none, (.load (some 5) (.t 20))⟩, ⟨(some 22), none, (.load (some 2) (.t 5))⟩, ⟨(some 23), none, (.call f_path_fits [(.t 21), (.t 22)])⟩, ⟨(some 24), none, (.not (.t 23))⟩] [[], [0], [], [1, 2], [3], [], [4, 5], [6]] [.no, .rw [.loc 3] [], .no, .no, .no, .rw [.loc 5] [], .no, .no]) (.cond (.t 24) (.exit 1) .skip)) (.seq (.reg [⟨(some 25), none, (.mov (.t 8))⟩, ⟨(some 26), none, (.bin .add (.t 25) (.c (.int .i64 1)))⟩, ⟨(some 8), none, (.mov (.t 26))⟩]) (.seq (.reg [⟨(some 27), none, (.fld (.t 5) 1)⟩, ⟨(some 28), none, (.load none (.t 27))⟩, ⟨(some 29), none, (.bin .eql (.t 28) (.c (.int .i64 0)))⟩, ⟨(some 30), none, (.mov (.t 29))⟩, ⟨(some 31), (some (30, false)), (.fld (.t 5) 1)⟩, ⟨(some 32), (some (30, false)), (.load none (.t 31))⟩, ⟨(some 33), (some (30, false)), (.mov (.t 8))⟩, ⟨(some 34), (some (30, false)), (.bin .eql (.t 32) (.t 33))⟩, ⟨(some 35), none, (.pick (.t 30) (.c (.bool true)) (.t 34))⟩]) (.cond (.t 35) (.reg [⟨(some 36), none, (.mov (.t 7))⟩, ⟨(some 37), none, (.mov (.t 10))⟩, ⟨(some 38), none, (.lits 1 1 [(.int .i64 0)] [(0, (.t 37))])⟩, ⟨(some 39), none, (.app (.t 36) (.t 38) 1 8)⟩, ⟨(some 7), none, (.mov (.t 39))⟩]) .skip)))))) (.reg [⟨(some 40), none, (.bin .add (.t 13) (.c (.int .i64 1)))⟩, ⟨(some 13), none, (.mov (.t 40))⟩]))))))) (.gh (.frz (.loc 7) 7) (.seq (.reg [⟨(some 41), none, (.mov (.t 7))⟩, ⟨(some 6), none, (.mov (.t 41))⟩]) .ret)))))))
structure ChS (d : Doc) (s : Step) (l : List Int) where
  i : Nat
  k : Nat
  a : List Int
  hi : i ≤ l.length
  hk : k ≤ i
  ha : a.length ≤ i
  h : chosenF d s 0 l = a ++ chosenF d s k (l.drop i)
def chPs (d : Doc) (s : Step) (l : List Int) (q : ChS d s l) : List (Nat × AV) :=
  [(3, .ptr (.loc 3) 1 0 0), (5, .ptr (.loc 5) 2 0 0), (7, .sl (.loc 7) 1 0 q.a.length), (8, .int .i64 q.k), (11, .list (l.map intIV)), (12, .int .i64 l.length), (13, .int .i64 q.i)]
def chRs (d : Doc) (s : Step) (l : List Int) (q : ChS d s l) : List (Lb × Row) :=
  [(.loc 3, ⟨1, [[.list (d.map Node.iv)]]⟩), (.loc 5, ⟨2, [[.str s.name, .int .i64 s.n]]⟩), (.loc 7, ⟨1, immE (q.a.map intIV)⟩)]
theorem chosen_len (d : Doc) (s : Step) : ∀ (l : List Int) (k : Nat), (chosenF d s k l).length ≤ l.length
  | [], _ => by simp [chosenF]
  | n :: r, k => by
    have h1 := chosen_len d s r k
    have h2 := chosen_len d s r (k + 1)
    simp only [chosenF]
    split
    · split
      · split <;> simp <;> omega
      · simp; omega
    · simp; omega
theorem pChosen {f_path_chosen f_path_fits : Nat} (hF : compF P G f_path_chosen = some (42, [(none, 6)], (c_path_chosen f_path_fits).bare)) (d : Doc) (hd : wtN d ≤ B) (s : Step) (l : List Int) (hl : l.length ≤ B) (hm : ∀ n ∈ l, 0 ≤ n ∧ n < (d.length : Int))
    (hX : ∀ x ∈ d, PureC P G f_path_fits [x.av, s.av] (.bool (fitsN x.text x.s s.name))) :
    PureC P G f_path_chosen [Doc.av d, .list (l.map intIV), s.av] (.list ((chosenF d s 0 l).map intIV)) := by
  refine pure_of_go hF (by simp) (by simp [lbss, AV.lbs, Doc.av, Step.av]) (by simp [AV.lbs]) ?_
  have hBv : B = 1073741824 := rfl
  unfold c_path_chosen
  simp only [Node.av, Step.av] at hX
  simp only [↓aX, evp, evq, evl, boxK, stillV, binV, AV.cells, mP, loadV, storeV, ldV, AV.stb, AV.one, IV.av1, Lb.app, Lb.fresh, reduceCtorEq, ptrL, appL, fillA, chunks, ivs, AV.iv, mkE, if_false, if_true, List.not_mem_nil, forall_eq, beq_self_eq_true, List.isEmpty_nil, Nat.reduceEqDiff, Nat.reduceLT, Nat.reduceLeDiff, Nat.reduceAdd, Nat.reduceMul, Int.reduceToNat, Int.reduceLE, Int.reduceLT, Doc.av, Step.av, List.length_map]
  refine loop_used (σ := ChS d s l) (fun _ => [.loc 3, .loc 5, .loc 7]) (fun _ _ => false) (chPs d s l) (chRs d s l) (fun q => l.length - q.i) ⟨0, 0, [], by omega, by omega, by simp, by simp⟩ (fun _ => rfl)
    (fun q => by simp [lbss, AV.lbs, chPs]) ?_ ⟨[], ?_⟩ ?_
  · intro q r hr cs hcs z hz
    simp only [chRs, List.mem_cons, List.not_mem_nil, or_false] at hr
    rcases hr with rfl | rfl | rfl
    · simp only [List.mem_singleton] at hcs; subst hcs; simp [lbss, AV.lbs] at hz
    · simp only [List.mem_singleton] at hcs; subst hcs; simp [lbss, AV.lbs] at hz
    · rw [lbss_immE hcs] at hz; simp at hz
  · refine ⟨?_, ?_, ?_, by simp [rnF], fun l _ => ⟨id, fun _ => rfl⟩⟩
    · intro l hf hu
      exfalso; apply hu
      cases l <;> simp_all [Lb.fresh, upd_at, Hp.none]
    · simp [EqL, rnF, ren, put, chPs]
    · simp [RwL, rnF, upd_at, renR, rens, ren, immE, chRs]
  · rintro ⟨i, k, a, hi, hk, ha, h⟩
    rw [ofU_f]
    simp only [↓aX, evp, evq, evl, boxK, stillV, binV, AV.cells, mP, loadV, storeV, ldV, AV.stb, AV.one, IV.av1, Lb.app, Lb.fresh, reduceCtorEq, ptrL, appL, fillA, chunks, ivs, AV.iv, mkE, if_false, if_true, List.not_mem_nil, forall_eq, beq_self_eq_true, List.isEmpty_nil, Nat.reduceEqDiff, Nat.reduceLT, Nat.reduceLeDiff, Nat.reduceAdd, Nat.reduceMul, Int.reduceToNat, Int.reduceLE, Int.reduceLT, chPs, chRs, ofH_nil, ofH_cons, List.length_map]
    by_cases hlt : i < l.length
    · rw [show decide (((i : Nat) : Int) < ((l.length : Nat) : Int)) = true by simpa using hlt]
      obtain ⟨n0, hn0⟩ : ∃ n, l[i]? = some n := ⟨_, List.getElem?_eq_getElem hlt⟩
      obtain ⟨h0, h1⟩ := hm n0 (List.mem_of_getElem? hn0)
      obtain ⟨n, rfl⟩ := Int.eq_ofNat_of_zero_le h0
      obtain ⟨x, hx⟩ : ∃ x, d[n]? = some x := ⟨_, List.getElem?_eq_getElem (by omega)⟩
      have hw : IntKind.i64.wrap ((i : Int) + 1) = ((i + 1 : Nat) : Int) := wrap64 (by omega) (by omega)
      have hwk : IntKind.i64.wrap ((k : Int) + 1) = ((k + 1 : Nat) : Int) := wrap64 (by omega) (by omega)
      have hst := chosen_step (s := s) (k := k) (r := l.drop (i + 1)) hx
      rw [drop_eq hn0] at h
      have hr : ∀ (ρ : Lb → Lb) (xs : List IV), renR ρ ⟨1, immE xs⟩ = ⟨1, immE xs⟩ := fun ρ xs => renR_immE _ _ _
      simp only [↓aX, evp, evq, evl, boxK, stillV, binV, AV.cells, mP, loadV, storeV, ldV, AV.stb, AV.one, IV.av1, Lb.app, Lb.fresh, reduceCtorEq, ptrL, appL, fillA, chunks, ivs, AV.iv, mkE, if_false, if_true, List.not_mem_nil, forall_eq, beq_self_eq_true, List.isEmpty_nil, Nat.reduceEqDiff, Nat.reduceLT, Nat.reduceLeDiff, Nat.reduceAdd, Nat.reduceMul, Int.reduceToNat, Int.reduceLE, Int.reduceLT, intGet, hn0, elszI, Option.map_some, intIV_cs, Int.toNat_natCast, Doc.get_iv hx, elszN, Node.cells_eq, Node.cs, Int.natCast_nonneg, List.length_map]
      refine ⟨rfl, puK_in (hX x (List.mem_of_getElem? hx)) ?_⟩
      cases hf : fitsN x.text x.s s.name with
      | false =>
        rw [hf, if_neg (by decide)] at hst
        simp only [↓aX, evp, evq, evl, boxK, stillV, binV, AV.cells, mP, loadV, storeV, ldV, AV.stb, AV.one, IV.av1, Lb.app, Lb.fresh, reduceCtorEq, ptrL, appL, fillA, chunks, ivs, AV.iv, mkE, if_false, if_true, List.not_mem_nil, forall_eq, beq_self_eq_true, List.isEmpty_nil, Nat.reduceEqDiff, Nat.reduceLT, Nat.reduceLeDiff, Nat.reduceAdd, Nat.reduceMul, Int.reduceToNat, Int.reduceLE, Int.reduceLT, Bool.not_false, hw]
        refine ⟨⟨i + 1, k, a, by omega, by omega, by omega, by rw [h, hst]⟩, by simp only; omega, [], ?_⟩
        refine ⟨?_, ?_, ?_, by simp [rnF], fun l _ => ⟨id, fun _ => rfl⟩⟩
        · intro l hf hu
          exfalso; apply hu
          cases l <;> simp_all [Lb.fresh, upd_at, Hp.none]
        · simp [EqL, rnF, ren, put, chPs]
        · simp only [RwL, hr, chRs]
          simp [rnF, upd_at, renR, rens, ren]
      | true =>
        rw [hf, if_pos rfl] at hst
        simp only [↓aX, evp, evq, evl, boxK, stillV, binV, AV.cells, mP, loadV, storeV, ldV, AV.stb, AV.one, IV.av1, Lb.app, Lb.fresh, reduceCtorEq, ptrL, appL, fillA, chunks, ivs, AV.iv, mkE, if_false, if_true, List.not_mem_nil, forall_eq, beq_self_eq_true, List.isEmpty_nil, Nat.reduceEqDiff, Nat.reduceLT, Nat.reduceLeDiff, Nat.reduceAdd, Nat.reduceMul, Int.reduceToNat, Int.reduceLE, Int.reduceLT, Bool.not_true, hwk]
        cases e1 : (s.n == 0) with
        | true =>
          rw [if_pos (.inl (by simpa using e1))] at hst
          simp only [↓aX, evp, evq, evl, boxK, stillV, binV, AV.cells, mP, loadV, storeV, ldV, AV.stb, AV.one, IV.av1, Lb.app, Lb.fresh, reduceCtorEq, ptrL, appL, fillA, chunks, ivs, AV.iv, mkE, if_false, if_true, List.not_mem_nil, forall_eq, beq_self_eq_true, List.isEmpty_nil, Nat.reduceEqDiff, Nat.reduceLT, Nat.reduceLeDiff, Nat.reduceAdd, Nat.reduceMul, Int.reduceToNat, Int.reduceLE, Int.reduceLT]
          rw [app_loc 1 8 39 7 (a.map intIV) (.int .i64 (n : Int)) (by simp [upd_at]) (by simp) rfl (by simp [IV.cells]) (by omega) (by decide) (by decide) (by simp [upd_at, Hp.none])]
          simp only [↓aX, evp, evq, evl, boxK, stillV, binV, AV.cells, mP, loadV, storeV, ldV, AV.stb, AV.one, IV.av1, Lb.app, Lb.fresh, reduceCtorEq, ptrL, appL, fillA, chunks, ivs, AV.iv, mkE, if_false, if_true, List.not_mem_nil, forall_eq, beq_self_eq_true, List.isEmpty_nil, Nat.reduceEqDiff, Nat.reduceLT, Nat.reduceLeDiff, Nat.reduceAdd, Nat.reduceMul, Int.reduceToNat, Int.reduceLE, Int.reduceLT, hw]
          refine ⟨⟨i + 1, k + 1, a ++ [(n : Int)], by omega, by omega, by simp; omega, by rw [h, hst]; simp⟩, by simp only; omega, [(.loc 7, .loc 39)], ?_⟩
          refine ⟨?_, ?_, ?_, by simp [rnF], ?_⟩
          · intro l hf hu
            exfalso; apply hu
            cases l <;> simp_all [Lb.fresh, upd_at, Hp.none]
          · simp [EqL, rnF, ren, put, chPs]
          · simp only [RwL, hr, chRs, List.map_append]
            simp [rnF, upd_at, renR, rens, ren, immE_app, intIV]
          · intro l hl
            simp only [List.mem_cons, List.not_mem_nil, or_false] at hl
            rcases hl with rfl | rfl | rfl
            · exact ⟨fun _ => rfl, fun _ => rfl⟩
            · exact ⟨fun _ => rfl, fun _ => rfl⟩
            · exact ⟨fun _ => rfl, fun h => by simp [Lb.fresh] at h⟩
        | false =>
          have e1' : s.n ≠ 0 := by simpa using e1
          simp only [↓aX, evp, evq, evl, boxK, stillV, binV, AV.cells, mP, loadV, storeV, ldV, AV.stb, AV.one, IV.av1, Lb.app, Lb.fresh, reduceCtorEq, ptrL, appL, fillA, chunks, ivs, AV.iv, mkE, if_false, if_true, List.not_mem_nil, forall_eq, beq_self_eq_true, List.isEmpty_nil, Nat.reduceEqDiff, Nat.reduceLT, Nat.reduceLeDiff, Nat.reduceAdd, Nat.reduceMul, Int.reduceToNat, Int.reduceLE, Int.reduceLT]
          cases e2 : (s.n == ((k + 1 : Nat) : Int)) with
          | true =>
            rw [if_pos (.inr (by simpa using e2))] at hst
            simp only [↓aX, evp, evq, evl, boxK, stillV, binV, AV.cells, mP, loadV, storeV, ldV, AV.stb, AV.one, IV.av1, Lb.app, Lb.fresh, reduceCtorEq, ptrL, appL, fillA, chunks, ivs, AV.iv, mkE, if_false, if_true, List.not_mem_nil, forall_eq, beq_self_eq_true, List.isEmpty_nil, Nat.reduceEqDiff, Nat.reduceLT, Nat.reduceLeDiff, Nat.reduceAdd, Nat.reduceMul, Int.reduceToNat, Int.reduceLE, Int.reduceLT]
            rw [app_loc 1 8 39 7 (a.map intIV) (.int .i64 (n : Int)) (by simp [upd_at]) (by simp) rfl (by simp [IV.cells]) (by omega) (by decide) (by decide) (by simp [upd_at, Hp.none])]
            simp only [↓aX, evp, evq, evl, boxK, stillV, binV, AV.cells, mP, loadV, storeV, ldV, AV.stb, AV.one, IV.av1, Lb.app, Lb.fresh, reduceCtorEq, ptrL, appL, fillA, chunks, ivs, AV.iv, mkE, if_false, if_true, List.not_mem_nil, forall_eq, beq_self_eq_true, List.isEmpty_nil, Nat.reduceEqDiff, Nat.reduceLT, Nat.reduceLeDiff, Nat.reduceAdd, Nat.reduceMul, Int.reduceToNat, Int.reduceLE, Int.reduceLT, hw]
            refine ⟨⟨i + 1, k + 1, a ++ [(n : Int)], by omega, by omega, by simp; omega, by rw [h, hst]; simp⟩, by simp only; omega, [(.loc 7, .loc 39)], ?_⟩
            refine ⟨?_, ?_, ?_, by simp [rnF], ?_⟩
            · intro l hf hu
              exfalso; apply hu
              cases l <;> simp_all [Lb.fresh, upd_at, Hp.none]
            · simp [EqL, rnF, ren, put, chPs]
            · simp only [RwL, hr, chRs, List.map_append]
              simp [rnF, upd_at, renR, rens, ren, immE_app, intIV]
            · intro l hl
              simp only [List.mem_cons, List.not_mem_nil, or_false] at hl
              rcases hl with rfl | rfl | rfl
              · exact ⟨fun _ => rfl, fun _ => rfl⟩
              · exact ⟨fun _ => rfl, fun _ => rfl⟩
              · exact ⟨fun _ => rfl, fun h => by simp [Lb.fresh] at h⟩
          | false =>
            have e2' : s.n ≠ ((k + 1 : Nat) : Int) := by simpa using e2
            rw [if_neg (by simp only [not_or]; exact ⟨e1', e2'⟩)] at hst
            simp only [↓aX, evp, evq, evl, boxK, stillV, binV, AV.cells, mP, loadV, storeV, ldV, AV.stb, AV.one, IV.av1, Lb.app, Lb.fresh, reduceCtorEq, ptrL, appL, fillA, chunks, ivs, AV.iv, mkE, if_false, if_true, List.not_mem_nil, forall_eq, beq_self_eq_true, List.isEmpty_nil, Nat.reduceEqDiff, Nat.reduceLT, Nat.reduceLeDiff, Nat.reduceAdd, Nat.reduceMul, Int.reduceToNat, Int.reduceLE, Int.reduceLT, hw]
            refine ⟨⟨i + 1, k + 1, a, by omega, by omega, by omega, by rw [h, hst]⟩, by simp only; omega, [], ?_⟩
            refine ⟨?_, ?_, ?_, by simp [rnF], fun l _ => ⟨id, fun _ => rfl⟩⟩
            · intro l hf hu
              exfalso; apply hu
              cases l <;> simp_all [Lb.fresh, upd_at, Hp.none]
            · simp [EqL, rnF, ren, put, chPs]
            · simp only [RwL, hr, chRs]
              simp [rnF, upd_at, renR, rens, ren]
    · have hil : l.drop i = [] := List.drop_of_length_le (by omega)
      rw [hil] at h
      simp only [chosenF, List.append_nil] at h
      rw [show decide (((i : Nat) : Int) < ((l.length : Nat) : Int)) = false by simpa using hlt]
      simp only [↓aX, evp, evq, evl, boxK, stillV, binV, AV.cells, mP, loadV, storeV, ldV, AV.stb, AV.one, IV.av1, Lb.app, Lb.fresh, reduceCtorEq, ptrL, appL, fillA, chunks, ivs, AV.iv, mkE, if_false, if_true, List.not_mem_nil, forall_eq, beq_self_eq_true, List.isEmpty_nil, Nat.reduceEqDiff, Nat.reduceLT, Nat.reduceLeDiff, Nat.reduceAdd, Nat.reduceMul, Int.reduceToNat, Int.reduceLE, Int.reduceLT]
      refine ⟨1, a.map intIV, 0, a.length, rfl, rfl, by simp, flatI _, ?_⟩
      simp only [↓aX, evp, evq, evl, boxK, stillV, binV, AV.cells, mP, loadV, storeV, ldV, AV.stb, AV.one, IV.av1, Lb.app, Lb.fresh, reduceCtorEq, ptrL, appL, fillA, chunks, ivs, AV.iv, mkE, if_false, if_true, List.not_mem_nil, forall_eq, beq_self_eq_true, List.isEmpty_nil, Nat.reduceEqDiff, Nat.reduceLT, Nat.reduceLeDiff, Nat.reduceAdd, Nat.reduceMul, Int.reduceToNat, Int.reduceLE, Int.reduceLT, List.drop_zero, List.take_of_length_le (show (a.map intIV).length ≤ a.length by simp), h]
end
end Go.Am

/- Documents: parents, step by step upward; ends, found one by one. -/
namespace Go.Am
open Go Go.RowKit
theorem doc_parent {t : Tree} {n : Nat} {x : Node} (h : (docOf t)[n]? = some x) : (n = 0 ∧ x.parent = -1) ∨ (0 < n ∧ 0 ≤ x.parent ∧ x.parent < n) := by
  have hlt := (List.getElem?_eq_some_iff.1 h).1
  obtain ⟨q, y, l, s⟩ := lies_doc hlt
  have hn := l.node
  rw [h] at hn
  have hp : x.parent = q := by simp only [Option.some.injEq] at hn; rw [hn]; rfl
  rcases s.parent with ⟨e1, e2, _⟩ | ⟨m, z, r, e1, e2, e3, e4, _⟩
  · left; exact ⟨e1, by omega⟩
  · right; omega
theorem doc_head {t : Tree} : 1 ≤ (docOf t).length := by rw [docOf_len]; exact t.cnt_pos
end Go.Am
