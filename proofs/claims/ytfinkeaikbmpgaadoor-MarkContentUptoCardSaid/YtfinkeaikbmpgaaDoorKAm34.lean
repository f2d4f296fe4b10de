import Derived.Test.YtfinkeaikbmpgaaDoorKAm30
import Derived.Test.YtfinkeaikbmpgaaDoorKT7
import Derived.Test.YtfinkeaikbmpgaaDoorKAm23
set_option linter.unusedSimpArgs false
set_option linter.unusedVariables false
set_option linter.unnecessarySimpa false
set_option linter.defProp false
/- THE ABSTRACT MACHINE, part 34: a list of structs behind a pointer. -/
namespace Go.Am
open Go Go.RowKit
/-- Rows as they are listed; some labels more are used up. -/
def ofU (u : Lb → Bool) (rs : List (Lb × Row)) : Hp := fun q => match ofH rs q with
  | .unused => if u q then .dead else .unused
  | s => s
theorem ofU_live {u : Lb → Bool} {rs : List (Lb × Row)} {l : Lb} {r : Row} : ofU u rs l = .live r ↔ ofH rs l = .live r := by
  unfold ofU
  cases h : ofH rs l with
  | unused => by_cases hu : u l = true <;> simp [hu]
  | dead => simp
  | live r' => simp
theorem ofU_used {u : Lb → Bool} {rs : List (Lb × Row)} {l : Lb} (h : l ∈ rs.map Prod.fst ∨ u l = true) : ofU u rs l ≠ .unused := by
  unfold ofU
  rcases h with h | h
  · have := ofH_used h
    cases h2 : ofH rs l with
    | unused => exact absurd h2 this
    | dead => simp
    | live r => simp
  · cases h2 : ofH rs l with
    | unused => simp [h]
    | dead => simp
    | live r => simp
theorem ofU_at {u : Lb → Bool} {rs : List (Lb × Row)} {l : Lb} (h : l ∉ rs.map Prod.fst) : ofU u rs l = if u l then .dead else .unused := by
  have : ofH rs l = .unused := by
    induction rs with
    | nil => rfl
    | cons p t ih =>
      obtain ⟨l0, r0⟩ := p
      simp only [List.map_cons, List.mem_cons, not_or] at h
      simp only [ofH, upd, if_neg h.1]
      exact ih h.2
  unfold ofU; rw [this]
structure WU (ls : List Lb) (u : Lb → Bool) (ps : List (Nat × AV)) (rs : List (Lb × Row)) (env : Env) (H : Hp) (m : List (Lb × Lb)) : Prop where
  nf : ∀ l : Lb, l.fresh = false → H l ≠ .unused → l ∈ ls ∨ u l = true
  e : EqL (rnF m) env ps
  r : RwL (rnF m) H rs
  inj : (ls.map (rnF m)).Nodup
  fr : ∀ l ∈ ls, (l.fresh = true → (rnF m l).fresh = true) ∧ (l.fresh = false → rnF m l = l)
theorem WU.wk {ls : List Lb} {u : Lb → Bool} {ps : List (Nat × AV)} {rs : List (Lb × Row)} {env : Env} {H : Hp} {m : List (Lb × Lb)} (h : WU ls u ps rs env H m) (hls : rs.map Prod.fst = ls) (hp : ∀ l ∈ lbss (ps.map Prod.snd), l ∈ ls)
    (hr : ∀ q ∈ rs, ∀ cs ∈ q.2.els, ∀ l ∈ lbss cs, l ∈ ls) : Wk (rnF m) env H (ofL ps) (ofU u rs) := by
  have hlv : ∀ l, live (ofU u rs) l → l ∈ ls := fun l ⟨r, h⟩ => by rw [← hls]; exact List.mem_map.2 ⟨_, ofH_live (ofU_live.1 h), rfl⟩
  refine ⟨h.e.we, fun l r hl => RwL_mem h.r (ofH_live (ofU_live.1 hl)), fun l l' h1 h2 e => nodup_map_inj h.inj l (hlv l h1) l' (hlv l' h2) e, ofL_wm fun l hl => ofU_used (.inl (by rw [hls]; exact hp l hl)), fun l r hl cs hcs q hq => ?_,
    fun l hf => ⟨fun hu => ?_, fun hl => (h.fr l (hlv l hl)).2 (Lb.entry_nf hf)⟩, fun l hl hf => (h.fr l (hlv l hl)).1 hf⟩
  · exact ofU_used (.inl (by rw [hls]; exact hr _ (ofH_live (ofU_live.1 hl)) cs hcs q hq))
  · exact ofU_used (by rw [hls]; exact h.nf l (Lb.entry_nf hf) hu)
theorem renR_immE (ρ : Lb → Lb) (sz : Nat) (xs : List IV) : renR ρ ⟨sz, immE xs⟩ = ⟨sz, immE xs⟩ := renR_imm ρ sz xs
end Go.Am

/- Documents: which lists of nodes are some. -/
namespace Go.Am
open Go Go.RowKit
/-- One node after the other, in the order in which one reads: what comes next. -/
def wk (d : Doc) : Nat → Int → Int → Int → Option Int
  | 0, _, _, _ => none
  | f + 1, n, p, nx => if n = nx then match d[n.toNat]? with
      | some x => if x.parent = p then x.kids.foldlM (fun q k => wk d f k n q) (nx + 1) else none
      | none => none
    else none
theorem drop_mem {α : Type} {l : List α} {n : Nat} {x : α} {r : List α} (h : l.drop n = x :: r) : l[n]? = some x ∧ l.drop (n + 1) = r := by
  have h1 : (l.drop n)[0]? = some x := by rw [h]; rfl
  refine ⟨by simpa [List.getElem?_drop] using h1, ?_⟩
  have : (l.drop n).drop 1 = r := by rw [h]; rfl
  rwa [List.drop_drop] at this
theorem wk_of (d : Doc) : ∀ (f : Nat) (x : Tree) (m : Nat) (p : Int), x.dep ≤ f → (∃ post, d.drop m = x.flat m p ++ post) → wk d f m p m = some ((m + x.cnt : Nat) : Int) := by
  intro f
  induction f with
  | zero => intro x m p h; rw [x.dep_eq] at h; omega
  | succ f ih =>
    intro x m p hd ⟨post, hx⟩
    rw [x.flat_eq] at hx
    obtain ⟨h1, h2⟩ := drop_mem hx
    unfold wk
    rw [if_pos rfl, Int.toNat_natCast, h1]
    simp only [Tree.node, if_true]
    have kids : ∀ (xs : List Tree) (q : Nat), depT xs ≤ f → (∃ post, d.drop q = flats q m xs ++ post) → (kidsAt q xs).foldlM (fun q k => wk d f k (m : Int) q) (q : Int) = some ((q + cntT xs : Nat) : Int) := by
      intro xs
      induction xs with
      | nil => intro q _ _; simp [kidsAt, cntT]
      | cons y ys ihk =>
        intro q hq ⟨post, hp⟩
        simp only [depT] at hq
        simp only [flats, List.append_assoc] at hp
        simp only [kidsAt, List.foldlM_cons]
        rw [ih y q m (by omega) ⟨_, hp⟩]
        simp only [Option.bind_eq_bind, Option.bind_some]
        rw [ihk (q + y.cnt) (by omega) ⟨post, by rw [← List.drop_drop, hp, List.drop_append_of_le_length (by rw [y.flat_len]; exact Nat.le_refl _), List.drop_eq_nil_of_le (by rw [y.flat_len]; exact Nat.le_refl _)]; rfl⟩]
        simp only [cntT, Nat.add_assoc]
    have hdep := x.dep_eq
    have := kids x.kids (m + 1) (by omega) ⟨post, h2⟩
    rw [show ((m : Int) + 1) = ((m + 1 : Nat) : Int) by omega, this, x.cnt_eq]
    congr 2; omega
theorem docOf_len (x : Tree) : (docOf x).length = x.cnt := x.flat_len 0 (-1)
/-- The documents. -/
def IsDoc (d : Doc) : Prop := ∃ x : Tree, x.good = true ∧ d = docOf x
theorem good_iff (x : Tree) : x.good = true ↔ x.text = false ∧ x.dep ≤ 8 ∧ x.cnt ≤ 80 ∧ x.fine = true := by
  simp only [Tree.good, Bool.and_eq_true, Bool.not_eq_true', decide_eq_true_eq]
  constructor
  · rintro ⟨h1, h2, h3, h4⟩; exact ⟨h1, by omega, by omega, h4⟩
  · rintro ⟨h1, h2, h3, h4⟩; exact ⟨h1, by omega, by omega, h4⟩
theorem wk_doc' {x : Tree} (h : x.dep ≤ 8) : wk (docOf x) 8 0 (-1) 0 = some ((docOf x).length : Int) := by
  have := wk_of (docOf x) 8 x 0 (-1) h ⟨[], by simp [docOf]⟩
  rw [docOf_len]; simpa using this
end Go.Am

/- Trees that are joined. -/
namespace Go.Am
open Go Go.RowKit
def Tree.withS (x : Tree) (s : Bs) : Tree := .mk x.text s x.attrs x.kids
/-- Is the last of some a text? -/
def lastT (p : Bool) : List Tree → Bool
  | [] => p
  | x :: r => lastT x.text r
/-- The last one is longer. -/
def grow (s : Bs) : List Tree → List Tree
  | [] => []
  | [x] => [x.withS (x.s ++ s)]
  | x :: y :: r => x :: grow s (y :: r)
/-- One more, joined to what is there. -/
def push (out : List Tree) (x : Tree) : List Tree :=
  if x.text && x.s == [] then out else if x.text && lastT false out then grow x.s out else out ++ [x]
end Go.Am

/- Trees: the contracts, for all trees. -/
namespace Go.Am
open Go Go.RowKit
theorem byWt {M : List Tree → Prop} (step : ∀ l, (∀ x ∈ l, M x.kids) → M l) : ∀ l, M l := by
  have key : ∀ (n : Nat) (l : List Tree), wtT l ≤ n → M l := by
    intro n
    induction n with
    | zero =>
      intro l hn
      refine step l fun x hx => ?_
      obtain ⟨i, hi⟩ := List.getElem?_of_mem hx
      have := wtT_get l i x hi
      have := x.wt_eq
      omega
    | succ n ih =>
      intro l hn
      refine step l fun x hx => ih _ ?_
      obtain ⟨i, hi⟩ := List.getElem?_of_mem hx
      have := wtT_get l i x hi
      have := x.wt_eq
      omega
  exact fun l => key _ l (Nat.le_refl _)
theorem wt_mem {l : List Tree} {x : Tree} (h : x ∈ l) : x.wt ≤ wtT l := by
  obtain ⟨i, hi⟩ := List.getElem?_of_mem h
  exact wtT_get l i x hi
theorem wt_kids (x : Tree) : wtT x.kids ≤ x.wt := by have := x.wt_eq; omega
theorem wt_s (x : Tree) : x.s.length ≤ x.wt := by have := x.wt_eq; omega
theorem wt_attrs (x : Tree) : wtA x.attrs ≤ x.wt := by have := x.wt_eq; omega
theorem wtA_mem : ∀ {l : List Attr} {a : Attr}, a ∈ l → a.wt ≤ wtA l
  | [], a, h => by simp at h
  | b :: r, a, h => by
    simp only [List.mem_cons] at h
    rcases h with rfl | h
    · simp [wtA]
    · have := wtA_mem h; simp only [wtA]; omega
section
variable {P : Program} {G : Nat → Option (List IV)}
theorem wSize {g : Nat} (hF : compF P G g = some (32, [(none, 2), (none, 3)], (cSize g).bare)) : ∀ x : Tree, x.wt ≤ B → PureC P G g [x.av] (.tup [.int .i64 x.dep, .int .i64 x.cnt]) := by
  have key := byWt (M := fun l => ∀ x ∈ l, x.wt ≤ B → PureC P G g [x.av] (.tup [.int .i64 x.dep, .int .i64 x.cnt])) (fun l h x hx hB => pSize hF x hB fun k hk => h x hx k hk (by have := wt_mem hk; have := wt_kids x; omega))
  exact fun x => key [x] x (by simp)
theorem wFines {fP fN fGA fF fFs : Nat} (hP : compF P G fP = some (29, [(none, 2)], cPlain.bare)) (hN : compF P G fN = some (28, [(none, 2)], cNamed.bare)) (hA : compF P G fGA = some (41, [(none, 2)], (cGoodAttrs fN fP).bare))
    (hF : compF P G fF = some (38, [(none, 2)], (cFine fP fN fGA fFs).bare)) (hFs : compF P G fFs = some (32, [(none, 2)], (cFines fF).bare)) (l : List Tree) : wtT l ≤ B → PureC P G fFs [.list (ivT l)] (.bool (fines none l)) := by
  refine byWt (M := fun l => wtT l ≤ B → PureC P G fFs [.list (ivT l)] (.bool (fines none l))) (fun l h hB => pFines hFs l (by have := wtT_len l; omega) fun x hx => ?_) l
  have h1 := wt_mem hx
  have h2 := wt_kids x
  have h3 := wt_s x
  have h4 := wt_attrs x
  have h5 := wtA_len x.attrs
  refine pFine hF x (pPlain hP _ (by omega)) (pNamed hN _ (by omega)) (pGoodAttrs hA _ (by omega) (fun a ha => pNamed hN _ ?_) (fun a ha => pPlain hP _ ?_)) (h x hx (by omega))
  · have := wtA_mem ha; unfold Attr.wt at this; omega
  · have := wtA_mem ha; unfold Attr.wt at this; omega
theorem wFine {fP fN fGA fF fFs : Nat} (hP : compF P G fP = some (29, [(none, 2)], cPlain.bare)) (hN : compF P G fN = some (28, [(none, 2)], cNamed.bare)) (hA : compF P G fGA = some (41, [(none, 2)], (cGoodAttrs fN fP).bare))
    (hF : compF P G fF = some (38, [(none, 2)], (cFine fP fN fGA fFs).bare)) (hFs : compF P G fFs = some (32, [(none, 2)], (cFines fF).bare)) (x : Tree) (hB : x.wt ≤ B) : PureC P G fF [x.av] (.bool x.fine) := by
  have h2 := wt_kids x
  have h3 := wt_s x
  have h4 := wt_attrs x
  have h5 := wtA_len x.attrs
  refine pFine hF x (pPlain hP _ (by omega)) (pNamed hN _ (by omega)) (pGoodAttrs hA _ (by omega) (fun a ha => pNamed hN _ ?_) (fun a ha => pPlain hP _ ?_)) (wFines hP hN hA hF hFs _ (by omega))
  · have := wtA_mem ha; unfold Attr.wt at this; omega
  · have := wtA_mem ha; unfold Attr.wt at this; omega
end
end Go.Am

/- A tree is put behind a document's nodes. -/
namespace Go.Am
open Go Go.RowKit
/-- The loop over the kids. -/
structure PutS (x : Tree) where
  i : Nat
  L : Lb
  u : Lb → Bool
  hi : i ≤ x.kids.length
  l0 : L ≠ .par 0
  l8 : L ≠ .loc 8
  l10 : L ≠ .loc 10
  l47 : L ≠ .loc 47
  lg : ∀ j, i ≤ j → L ≠ .gen (1000 + j)
  u10 : u (.loc 10) = false
  u47 : u (.loc 47) = false
  ug : ∀ j, i ≤ j → u (.gen (1000 + j)) = false
end Go.Am

/- THE ABSTRACT MACHINE, part 35: an empty slice in a cell, owned. -/
namespace Go.Am
open Go Go.RowKit
section
variable {env : Env} {H : Hp}
theorem retm2_r (m : Option Nat) (t u : Nat) (R : AV → Hp → Prop) : RetP [(some m, t), (none, u)] R .ret env H = stK (loadV m (env t) H) (fun x => R (.tup [x, env u]) H) .mk := by
  simp only [RetP, resVs, resV, stK]
  cases loadV m (env t) H <;> simp [oneV]
end
end Go.Am

/- Documents: what lies where. -/
namespace Go.Am
open Go Go.RowKit
/-- The tree y lies at n, its parent being q, in the tree t that lies at off. -/
inductive Sub : Nat → Int → Tree → Nat → Int → Tree → Prop
  | self (off : Nat) (p : Int) (t : Tree) : Sub off p t off p t
  | kid {off : Nat} {p : Int} {t : Tree} {n : Nat} {q : Int} {y : Tree} (a b : List Tree) (k : Tree) : t.kids = a ++ k :: b → Sub (off + 1 + cntT a) off k n q y → Sub off p t n q y
def Lies (d : Doc) (n : Nat) (q : Int) (y : Tree) : Prop := ∃ post, d.drop n = y.flat n q ++ post
theorem drop_app {α : Type} {a b c : List α} {n : Nat} (h : a.length = n) : (a ++ b).drop n = b := by subst h; simp
theorem Sub.lies {off : Nat} {p : Int} {t : Tree} {n : Nat} {q : Int} {y : Tree} (h : Sub off p t n q y) : ∀ d : Doc, Lies d off p t → Lies d n q y := by
  induction h with
  | self => exact fun _ h => h
  | @kid off p t n q y a b k hk _ ih =>
    rintro d ⟨post, h⟩
    refine ih d ⟨flats (off + 1 + cntT a + k.cnt) off b ++ post, ?_⟩
    rw [t.flat_eq, hk] at h
    have h2 := (drop_mem h).2
    rw [flats_app] at h2
    have h3 : d.drop (off + 1) = flats (off + 1) off a ++ (flats (off + 1 + cntT a) off (k :: b) ++ post) := by rw [h2]; exact List.append_assoc _ _ _
    rw [← List.drop_drop, h3, drop_app (c := []) (flats_len _ _ _)]
    simp [flats]
theorem Sub.parent {off : Nat} {p : Int} {t : Tree} {n : Nat} {q : Int} {y : Tree} (h : Sub off p t n q y) :
    (n = off ∧ q = p ∧ y = t) ∨ ∃ (m : Nat) (z : Tree) (r : Int), q = (m : Int) ∧ Sub off p t m r z ∧ m < n ∧ n + y.cnt ≤ m + z.cnt ∧ y ∈ z.kids ∧ off ≤ m := by
  induction h with
  | self => exact .inl ⟨rfl, rfl, rfl⟩
  | @kid off p t n q y a b k hk hs ih =>
    right
    rcases ih with ⟨rfl, rfl, rfl⟩ | ⟨m, z, r, e1, e2, e3, e4, e5, e6⟩
    · have h1 := t.cnt_eq
      rw [hk, cntT_app] at h1
      simp only [cntT] at h1
      exact ⟨off, t, p, rfl, .self _ _ _, by omega, by omega, by rw [hk]; simp, Nat.le_refl _⟩
    · exact ⟨m, z, r, e1, .kid a b k hk e2, e3, e4, e5, by omega⟩
theorem Sub.trans {off : Nat} {p : Int} {t : Tree} {n : Nat} {q : Int} {y : Tree} (h : Sub off p t n q y) {m : Nat} {r : Int} {z : Tree} (h2 : Sub n q y m r z) : Sub off p t m r z := by
  induction h with
  | self => exact h2
  | kid a b k hk _ ih => exact .kid a b k hk (ih h2)
theorem Lies.node {d : Doc} {n : Nat} {q : Int} {y : Tree} (h : Lies d n q y) : d[n]? = some (y.node n q) := by
  obtain ⟨post, h⟩ := h
  rw [y.flat_eq] at h
  exact (drop_mem h).1
theorem Lies.len {d : Doc} {n : Nat} {q : Int} {y : Tree} (h : Lies d n q y) : n + y.cnt ≤ d.length := by
  obtain ⟨post, h⟩ := h
  have := congrArg List.length h
  rw [List.length_drop, List.length_append, y.flat_len] at this
  have := y.cnt_pos
  omega
theorem Lies.kid {d : Doc} {n : Nat} {q : Int} {y : Tree} (h : Lies d n q y) (a b : List Tree) (k : Tree) (hk : y.kids = a ++ k :: b) : Lies d (n + 1 + cntT a) n k :=
  (Sub.kid (off := n) (p := q) a b k hk (.self _ _ _)).lies d h
theorem fines_mem : ∀ {p : Option Bool} {l : List Tree}, fines p l = true → ∀ x ∈ l, x.fine = true
  | _, [], _, x, hx => by simp at hx
  | p, y :: r, h, x, hx => by
    simp only [fines, Bool.and_eq_true] at h
    simp only [List.mem_cons] at hx
    rcases hx with rfl | hx
    · exact h.1
    · exact fines_mem h.2.2 x hx
theorem Tree.fine_kids {x : Tree} (h : x.fine = true) : fines none x.kids = true := by
  cases ht : x.text with
  | true =>
    rw [x.fine_t ht] at h
    simp only [Bool.and_eq_true, beq_iff_eq, List.length_eq_zero_iff] at h
    rw [h.2.2.2]; rfl
  | false =>
    rw [x.fine_e ht] at h
    simp only [Bool.and_eq_true] at h
    exact h.2.2
theorem Sub.fine {off : Nat} {p : Int} {t : Tree} {n : Nat} {q : Int} {y : Tree} (h : Sub off p t n q y) : t.fine = true → y.fine = true := by
  induction h with
  | self => exact id
  | kid a b k hk _ ih => exact fun h => ih (fines_mem (Tree.fine_kids h) k (by rw [hk]; simp))
end Go.Am

/- Trees, level by level; how a document is made by a stack. -/
namespace Go.Am
open Go Go.RowKit
def posits : Nat → List (Tree × Int) → List (Nat × Int)
  | _, [] => []
  | n, (t, p) :: r => (n, p) :: posits (n + t.cnt) r
def kidsOf (j : Int) (ps : List (Nat × Int)) : List Int := (ps.filter fun x => x.2 == j).map fun x => (x.1 : Int)
def flatsI : Nat → List (Tree × Int) → List Node
  | _, [] => []
  | n, (t, p) :: r => t.flat n p ++ flatsI (n + t.cnt) r
/-- Nodes that stand there already, with the kids that are still to come. -/
def fill (ps : List (Nat × Int)) : Nat → List Node → List Node
  | _, [] => []
  | j, x :: r => { x with kids := x.kids ++ kidsOf j ps } :: fill ps (j + 1) r
def whole (d : List Node) (l : List (Tree × Int)) : List Node := fill (posits d.length l) 0 d ++ flatsI d.length l
end Go.Am

/- Documents: made; walked; the trees in them. -/
namespace Go.Am
open Go Go.RowKit
def Doc.av (d : Doc) : AV := .agg [.list (d.map Node.iv)]
section
variable {P : Program} {G : Nat → Option (List IV)}
end
end Go.Am

/- Documents: which are good; what is told of them. -/
namespace Go.Am
open Go Go.RowKit
def Node.wt (x : Node) : Nat := 1 + x.s.length + wtA x.attrs + x.kids.length
def wtN : Doc → Nat
  | [] => 0
  | x :: r => x.wt + wtN r
theorem wtN_app : ∀ a b : Doc, wtN (a ++ b) = wtN a + wtN b
  | [], b => by simp [wtN]
  | x :: r, b => by simp [wtN, wtN_app r b, Nat.add_assoc]
mutual
theorem Tree.wt_flat (off : Nat) (p : Int) : ∀ x : Tree, x.wt ≤ wtN (x.flat off p)
  | .mk t s as ks => by
    have := wt_flats (off + 1) off ks
    simp only [Tree.flat, wtN, Node.wt, Tree.wt]; omega
theorem wt_flats (off p : Nat) : ∀ xs : List Tree, wtT xs ≤ wtN (flats off p xs)
  | [] => by simp [wtT]
  | k :: r => by
    have := k.wt_flat off p
    have := wt_flats (off + k.cnt) p r
    simp only [flats, wtN_app, wtT]; omega
end
theorem Lies.wt {d : Doc} {n : Nat} {q : Int} {y : Tree} (h : Lies d n q y) : y.wt ≤ wtN d := by
  obtain ⟨post, h⟩ := h
  have h1 := y.wt_flat n q
  have h2 := wtN_app (d.take n) (d.drop n)
  rw [List.take_append_drop, h, wtN_app] at h2
  omega
section
variable {P : Program} {G : Nat → Option (List IV)}
end
theorem IsDoc.len {d : Doc} (h : IsDoc d) : 1 ≤ d.length ∧ d.length ≤ 80 := by
  obtain ⟨x, hx, rfl⟩ := h
  have := (good_iff x).1 hx
  have := x.cnt_pos
  rw [docOf_len]; omega
theorem IsDoc.wk {d : Doc} (h : IsDoc d) : wk d 8 0 (-1) 0 = some (d.length : Int) := by
  obtain ⟨x, hx, rfl⟩ := h
  exact wk_doc' ((good_iff x).1 hx).2.1
end Go.Am

/- Content; what is told; sameness, once more. -/
namespace Go.Am
open Go Go.RowKit
def c_tree_Content (f_tree_Size f_tree_fines : Nat) : AC :=
(.seq (.reg [⟨(some 2), none, (.mov (.c (.bool false)))⟩]) (.seq (.reg [⟨(some 3), none, (.mov (.c (.int .i64 0)))⟩]) (.seq (.seq (.reg [⟨(some 8), none, (.mov (.t 0))⟩, ⟨(some 9), none, (.len (.t 8))⟩, ⟨(some 10), none, (.mov (.c (.int .i64 0)))⟩]) (.block 0 (.loop (.seq (.reg [⟨(some 11), none, (.bin .lss (.t 10) (.t 9))⟩]) (.seq (.cond (.t 11) .skip (.exit 0)) (.seq (.block 1 (.seq (.reg [⟨(some 12), none, (.ixa (.t 8) (.t 10) 4)⟩, ⟨(some 13), none, (.load (some 4) (.t 12))⟩, ⟨(some 5), none, (.new [(.bool false), (.str []), .nil0, .nil0])⟩, ⟨none, none, (.store 4 (.t 5) (.t 13))⟩]) (.seq (.reg [⟨(some 15), none, (.load (some 4) (.t 5))⟩, ⟨(some 16), none, (.call f_tree_Size [(.t 15)])⟩, ⟨(some 14), none, (.mov (.t 16))⟩, ⟨(some 17), none, (.ext (.t 14) 0)⟩, ⟨(some 18), none, (.ext (.t 14) 1)⟩, ⟨(some 6), none, (.mov (.t 17))⟩, ⟨(some 7), none, (.mov (.t 18))⟩]) (.seq (.seq (.reg [⟨(some 19), none, (.mov (.t 6))⟩, ⟨(some 20), none, (.bin .gtr (.t 19) (.c (.int .i64 8)))⟩]) (.cond (.t 20) (.seq (.reg [⟨(some 2), none, (.mov (.c (.bool false)))⟩]) .ret) .skip)) (.reg [⟨(some 21), none, (.mov (.t 3))⟩, ⟨(some 22), none, (.mov (.t 7))⟩, ⟨(some 23), none, (.bin .add (.t 21) (.t 22))⟩, ⟨(some 3), none, (.mov (.t 23))⟩]))))) (.reg [⟨(some 24), none, (.bin .add (.t 10) (.c (.int .i64 1)))⟩, ⟨(some 10), none, (.mov (.t 24))⟩]))))))) (.seq (.reg [⟨(some 25), none, (.mov (.t 3))⟩, ⟨(some 26), none, (.bin .leq (.t 25) (.c (.int .i64 80)))⟩, ⟨(some 27), none, (.mov (.t 26))⟩, ⟨(some 28), (some (27, true)), (.mov (.t 0))⟩, ⟨(some 29), (some (27, true)), (.call f_tree_fines [(.t 28)])⟩, ⟨(some 30), none, (.pick (.t 27) (.t 29) (.c (.bool false)))⟩, ⟨(some 2), none, (.mov (.t 30))⟩]) .ret))))
/-- May trees be put in? -/
def content (l : List Tree) : Bool := l.all (fun x => decide (x.dep ≤ 8)) && (decide (cntT l ≤ 80) && fines none l)
theorem pContent {P : Program} {G : Nat → Option (List IV)} {f_tree_Content f_tree_Size f_tree_fines : Nat} (hF : compF P G f_tree_Content = some (31, [(none, 2)], (c_tree_Content f_tree_Size f_tree_fines).bare)) (l : List Tree) (hx : wtT l ≤ B)
    (hS : ∀ x ∈ l, PureC P G f_tree_Size [x.av] (.tup [.int .i64 x.dep, .int .i64 x.cnt])) (hFs : PureC P G f_tree_fines [.list (ivT l)] (.bool (fines none l))) : PureC P G f_tree_Content [.list (ivT l)] (.bool (content l)) := by
  refine pure_of_go hF (by simp) (by simp [lbss, AV.lbs]) (by simp [AV.lbs]) ?_
  have hl := wtT_len l
  unfold c_tree_Content
  simp only [↓aX, evp, evq, evl, boxK, stillV, binV, AV.cells, mP, loadV, storeV, ldV, AV.stb, AV.one, IV.av1, Lb.app, Lb.fresh, reduceCtorEq, ptrL, appL, fillA, chunks, ivs, AV.iv, mkE, if_false, if_true, List.not_mem_nil, forall_eq, beq_self_eq_true, List.isEmpty_nil, Nat.reduceEqDiff, Nat.reduceLT, Nat.reduceLeDiff, Nat.reduceAdd, Nat.reduceMul, Int.reduceToNat, Int.reduceLE, Int.reduceLT, ivT_len]
  refine loop_data (σ := { i : Nat // i ≤ l.length ∧ (l.take i).all (fun x => decide (x.dep ≤ 8)) = true }) (fun q => [(0, .list (ivT l)), (3, .int .i64 (cntT (l.take q.1))), (8, .list (ivT l)), (9, .int .i64 l.length), (10, .int .i64 q.1)]) (fun q => l.length - q.1) ⟨0, by simp⟩ (fun _ => rfl) ?_ ?_
  · exact ⟨by simp only [↓aX, evp, evq, evl, boxK, stillV, binV, AV.cells, mP, loadV, storeV, ldV, AV.stb, AV.one, IV.av1, Lb.app, Lb.fresh, reduceCtorEq, ptrL, appL, fillA, chunks, ivs, AV.iv, mkE, if_false, if_true, List.not_mem_nil, forall_eq, beq_self_eq_true, List.isEmpty_nil, Nat.reduceEqDiff, Nat.reduceLT, Nat.reduceLeDiff, Nat.reduceAdd, Nat.reduceMul, Int.reduceToNat, Int.reduceLE, Int.reduceLT], by repeat' constructor⟩
  · rintro ⟨i, hi, hs⟩
    simp only [↓aX, evp, evq, evl, boxK, stillV, binV, AV.cells, mP, loadV, storeV, ldV, AV.stb, AV.one, IV.av1, Lb.app, Lb.fresh, reduceCtorEq, ptrL, appL, fillA, chunks, ivs, AV.iv, mkE, if_false, if_true, List.not_mem_nil, forall_eq, beq_self_eq_true, List.isEmpty_nil, Nat.reduceEqDiff, Nat.reduceLT, Nat.reduceLeDiff, Nat.reduceAdd, Nat.reduceMul, Int.reduceToNat, Int.reduceLE, Int.reduceLT, ivT_len]
    refine cK_b (fun h => ?_) (fun h => ?_)
    · have hlt : i < l.length := by simpa using h
      obtain ⟨x, hxi⟩ : ∃ x, l[i]? = some x := ⟨_, List.getElem?_eq_getElem hlt⟩
      have hw : IntKind.i64.wrap ((i : Int) + 1) = ((i + 1 : Nat) : Int) := wrap64 (by omega) (by unfold B at hx; omega)
      have h2 := wtT_take l i
      have h3 := cntT_le (l.take i)
      have h5 := wtT_get _ _ _ hxi
      have h6 := x.cnt_le
      have h1 : l.take (i + 1) = l.take i ++ [x] := by rw [List.take_add_one, hxi]; rfl
      have hc : IntKind.i64.wrap ((cntT (l.take i) : Int) + (x.cnt : Int)) = ((cntT (l.take (i + 1)) : Nat) : Int) := by
        rw [wrap64 (by omega) (by unfold B at hx; omega), h1, cntT_app]; simp [cntT]
      simp only [↓aX, evp, evq, evl, boxK, stillV, binV, AV.cells, mP, loadV, storeV, ldV, AV.stb, AV.one, IV.av1, Lb.app, Lb.fresh, reduceCtorEq, ptrL, appL, fillA, chunks, ivs, AV.iv, mkE, if_false, if_true, List.not_mem_nil, forall_eq, beq_self_eq_true, List.isEmpty_nil, Nat.reduceEqDiff, Nat.reduceLT, Nat.reduceLeDiff, Nat.reduceAdd, Nat.reduceMul, Int.reduceToNat, Int.reduceLE, Int.reduceLT, ivT_get, hxi, elszT, Tree.cells_eq, Tree.cs]

      refine callT_pure (hS x (List.mem_of_getElem? hxi)) ?_
      simp only [↓aX, evp, evq, evl, boxK, stillV, binV, AV.cells, mP, loadV, storeV, ldV, AV.stb, AV.one, IV.av1, Lb.app, Lb.fresh, reduceCtorEq, ptrL, appL, fillA, chunks, ivs, AV.iv, mkE, if_false, if_true, List.not_mem_nil, forall_eq, beq_self_eq_true, List.isEmpty_nil, Nat.reduceEqDiff, Nat.reduceLT, Nat.reduceLeDiff, Nat.reduceAdd, Nat.reduceMul, Int.reduceToNat, Int.reduceLE, Int.reduceLT]
      refine cK_b (fun h9 => ?_) (fun h9 => ?_)
      · simp only [↓aX, evp, evq, evl, boxK, stillV, binV, AV.cells, mP, loadV, storeV, ldV, AV.stb, AV.one, IV.av1, Lb.app, Lb.fresh, reduceCtorEq, ptrL, appL, fillA, chunks, ivs, AV.iv, mkE, if_false, if_true, List.not_mem_nil, forall_eq, beq_self_eq_true, List.isEmpty_nil, Nat.reduceEqDiff, Nat.reduceLT, Nat.reduceLeDiff, Nat.reduceAdd, Nat.reduceMul, Int.reduceToNat, Int.reduceLE, Int.reduceLT]
        have : l.all (fun x => decide (x.dep ≤ 8)) = false := by
          rw [Bool.eq_false_iff]
          intro hall
          have := List.all_eq_true.1 hall x (List.mem_of_getElem? hxi)
          simp at this h9; omega
        rw [content, this]; rfl
      · simp only [↓aX, evp, evq, evl, boxK, stillV, binV, AV.cells, mP, loadV, storeV, ldV, AV.stb, AV.one, IV.av1, Lb.app, Lb.fresh, reduceCtorEq, ptrL, appL, fillA, chunks, ivs, AV.iv, mkE, if_false, if_true, List.not_mem_nil, forall_eq, beq_self_eq_true, List.isEmpty_nil, Nat.reduceEqDiff, Nat.reduceLT, Nat.reduceLeDiff, Nat.reduceAdd, Nat.reduceMul, Int.reduceToNat, Int.reduceLE, Int.reduceLT, hw, hc]
        refine ⟨⟨i + 1, hlt, ?_⟩, by simp only; omega, by simp only [↓aX, evp, evq, evl, boxK, stillV, binV, AV.cells, mP, loadV, storeV, ldV, AV.stb, AV.one, IV.av1, Lb.app, Lb.fresh, reduceCtorEq, ptrL, appL, fillA, chunks, ivs, AV.iv, mkE, if_false, if_true, List.not_mem_nil, forall_eq, beq_self_eq_true, List.isEmpty_nil, Nat.reduceEqDiff, Nat.reduceLT, Nat.reduceLeDiff, Nat.reduceAdd, Nat.reduceMul, Int.reduceToNat, Int.reduceLE, Int.reduceLT], by repeat' constructor⟩
        rw [h1, List.all_append, hs]
        simp at h9 ⊢; omega
    · have hil : i = l.length := by simp at h; omega
      subst hil
      rw [List.take_length] at hs
      simp only [↓aX, evp, evq, evl, boxK, stillV, binV, AV.cells, mP, loadV, storeV, ldV, AV.stb, AV.one, IV.av1, Lb.app, Lb.fresh, reduceCtorEq, ptrL, appL, fillA, chunks, ivs, AV.iv, mkE, if_false, if_true, List.not_mem_nil, forall_eq, beq_self_eq_true, List.isEmpty_nil, Nat.reduceEqDiff, Nat.reduceLT, Nat.reduceLeDiff, Nat.reduceAdd, Nat.reduceMul, Int.reduceToNat, Int.reduceLE, Int.reduceLT, List.take_length]
      cases h9 : decide ((cntT l : Int) ≤ 80) with
      | true =>
        simp only [↓aX, evp, evq, evl, boxK, stillV, binV, AV.cells, mP, loadV, storeV, ldV, AV.stb, AV.one, IV.av1, Lb.app, Lb.fresh, reduceCtorEq, ptrL, appL, fillA, chunks, ivs, AV.iv, mkE, if_false, if_true, List.not_mem_nil, forall_eq, beq_self_eq_true, List.isEmpty_nil, Nat.reduceEqDiff, Nat.reduceLT, Nat.reduceLeDiff, Nat.reduceAdd, Nat.reduceMul, Int.reduceToNat, Int.reduceLE, Int.reduceLT]
        refine callT_pure hFs ?_
        simp only [↓aX, evp, evq, evl, boxK, stillV, binV, AV.cells, mP, loadV, storeV, ldV, AV.stb, AV.one, IV.av1, Lb.app, Lb.fresh, reduceCtorEq, ptrL, appL, fillA, chunks, ivs, AV.iv, mkE, if_false, if_true, List.not_mem_nil, forall_eq, beq_self_eq_true, List.isEmpty_nil, Nat.reduceEqDiff, Nat.reduceLT, Nat.reduceLeDiff, Nat.reduceAdd, Nat.reduceMul, Int.reduceToNat, Int.reduceLE, Int.reduceLT]
        have : decide (cntT l ≤ 80) = true := by simp at h9 ⊢; omega
        rw [content, hs, this]; rfl
      | false =>
        simp only [↓aX, evp, evq, evl, boxK, stillV, binV, AV.cells, mP, loadV, storeV, ldV, AV.stb, AV.one, IV.av1, Lb.app, Lb.fresh, reduceCtorEq, ptrL, appL, fillA, chunks, ivs, AV.iv, mkE, if_false, if_true, List.not_mem_nil, forall_eq, beq_self_eq_true, List.isEmpty_nil, Nat.reduceEqDiff, Nat.reduceLT, Nat.reduceLeDiff, Nat.reduceAdd, Nat.reduceMul, Int.reduceToNat, Int.reduceLE, Int.reduceLT]
        have : decide (cntT l ≤ 80) = false := by simp at h9 ⊢; omega
        rw [content, hs, this]; rfl
end Go.Am

/- Are two trees alike? TreeOnce. -/
namespace Go.Am
open Go Go.RowKit
def c_topiarykeep_same (f_topiarykeep_sames : Nat) : AC :=
(.seq (.reg [⟨(some 2), none, (.box (.t 0))⟩, ⟨(some 3), none, (.box (.t 1))⟩, ⟨(some 4), none, (.mov (.c (.bool false)))⟩]) (.seq (.seq (.reg [⟨(some 6), none, (.fld (.t 2) 0)⟩, ⟨(some 7), none, (.load none (.t 6))⟩, ⟨(some 8), none, (.fld (.t 3) 0)⟩, ⟨(some 9), none, (.load none (.t 8))⟩, ⟨(some 10), none, (.eqb true (.t 7) (.t 9))⟩, ⟨(some 11), none, (.mov (.t 10))⟩, ⟨(some 12), (some (11, false)), (.fld (.t 2) 1)⟩, ⟨(some 13), (some (11, false)), (.load none (.t 12))⟩, ⟨(some 14), (some (11, false)), (.fld (.t 3) 1)⟩, ⟨(some 15), (some (11, false)), (.load none (.t 14))⟩, ⟨(some 16), (some (11, false)), (.bin .neq (.t 13) (.t 15))⟩, ⟨(some 17), none, (.pick (.t 11) (.c (.bool true)) (.t 16))⟩, ⟨(some 18), none, (.mov (.t 17))⟩, ⟨(some 19), (some (18, false)), (.fld (.t 2) 2)⟩, ⟨(some 20), (some (18, false)), (.load none (.t 19))⟩, ⟨(some 21), (some (18, false)), (.len (.t 20))⟩, ⟨(some 22), (some (18, false)), (.fld (.t 3) 2)⟩, ⟨(some 23), (some (18, false)), (.load none (.t 22))⟩, ⟨(some 24), (some (18, false)), (.len (.t 23))⟩, ⟨(some 25), (some (18, false)), (.bin .neq (.t 21) (.t 24))⟩, ⟨(some 26), none, (.pick (.t 18) (.c (.bool true)) (.t 25))⟩]) (.cond (.t 26) (.seq (.reg [⟨(some 4), none, (.mov (.c (.bool false)))⟩]) .ret) .skip)) (.seq (.seq (.reg [⟨(some 27), none, (.fld (.t 2) 2)⟩, ⟨(some 28), none, (.load none (.t 27))⟩, ⟨(some 29), none, (.len (.t 28))⟩, ⟨(some 30), none, (.mov (.c (.int .i64 0)))⟩]) (.block 0 (.loop (.seq (.reg [⟨(some 31), none, (.bin .lss (.t 30) (.t 29))⟩]) (.seq (.cond (.t 31) .skip (.exit 0)) (.seq (.block 1 (.seq (.reg [⟨(some 32), none, (.mov (.t 30))⟩, ⟨(some 5), none, (.mov (.t 32))⟩]) (.seq (.dreg [⟨(some 33), none, (.fld (.t 2) 2)⟩, ⟨(some 34), none, (.load none (.t 33))⟩, ⟨(some 35), none, (.mov (.t 5))⟩, ⟨(some 36), none, (.ixa (.t 34) (.t 35) 2)⟩, ⟨(some 37), none, (.load (some 2) (.t 36))⟩, ⟨(some 38), none, (.fld (.t 3) 2)⟩, ⟨(some 39), none, (.load none (.t 38))⟩, ⟨(some 40), none, (.mov (.t 5))⟩, ⟨(some 41), none, (.ixa (.t 39) (.t 40) 2)⟩, ⟨(some 42), none, (.load (some 2) (.t 41))⟩, ⟨(some 43), none, (.eqst true [.s, .s] (.t 37) (.t 42))⟩] [[], [0], [], [1, 2], [3], [], [5], [], [6, 7], [8], [4, 9]] [.no, .rw [.loc 2] [], .no, .no, .no, .no, (.rw [.loc 3] []), .no, .no, .no, .no]) (.cond (.t 43) (.seq (.reg [⟨(some 4), none, (.mov (.c (.bool false)))⟩]) .ret) .skip)))) (.reg [⟨(some 44), none, (.bin .add (.t 30) (.c (.int .i64 1)))⟩, ⟨(some 30), none, (.mov (.t 44))⟩]))))))) (.seq (.reg [⟨(some 45), none, (.fld (.t 2) 3)⟩, ⟨(some 46), none, (.load none (.t 45))⟩, ⟨(some 47), none, (.fld (.t 3) 3)⟩, ⟨(some 48), none, (.load none (.t 47))⟩, ⟨(some 49), none, (.call f_topiarykeep_sames [(.t 46), (.t 48)])⟩, ⟨(some 4), none, (.mov (.t 49))⟩]) .ret))))
theorem pKeepSame {P : Program} {G : Nat → Option (List IV)} {f_topiarykeep_same f_topiarykeep_sames : Nat} (hF : compF P G f_topiarykeep_same = some (50, [(none, 4)], (c_topiarykeep_same f_topiarykeep_sames).bare)) (x y : Tree) (hx : x.attrs.length ≤ B)
    (hS : PureC P G f_topiarykeep_sames [.list (ivT x.kids), .list (ivT y.kids)] (.bool (eqB x.kids y.kids))) : PureC P G f_topiarykeep_same [x.av, y.av] (.bool (eqB x y)) := by
  refine pure_of_go hF (by simp) (by simp [lbss, AV.lbs, Tree.av]) (by simp [AV.lbs]) ?_
  unfold c_topiarykeep_same
  simp only [↓aX, evp, evq, evl, boxK, stillV, binV, AV.cells, mP, loadV, storeV, ldV, AV.stb, AV.one, IV.av1, Lb.app, Lb.fresh, reduceCtorEq, ptrL, appL, fillA, chunks, ivs, AV.iv, mkE, if_false, if_true, List.not_mem_nil, forall_eq, beq_self_eq_true, List.isEmpty_nil, Nat.reduceEqDiff, Nat.reduceLT, Nat.reduceLeDiff, Nat.reduceAdd, Nat.reduceMul, Int.reduceToNat, Int.reduceLE, Int.reduceLT, Tree.av]
  by_cases h1 : x.text = y.text
  · have e1 : (x.text == y.text) = true := by rw [h1]; simp
    simp only [e1, ↓aX, evp, evq, evl, boxK, stillV, binV, AV.cells, mP, loadV, storeV, ldV, AV.stb, AV.one, IV.av1, Lb.app, Lb.fresh, reduceCtorEq, ptrL, appL, fillA, chunks, ivs, AV.iv, mkE, if_false, if_true, List.not_mem_nil, forall_eq, beq_self_eq_true, List.isEmpty_nil, Nat.reduceEqDiff, Nat.reduceLT, Nat.reduceLeDiff, Nat.reduceAdd, Nat.reduceMul, Int.reduceToNat, Int.reduceLE, Int.reduceLT]
    by_cases h2 : x.s = y.s
    · have e2 : (x.s == y.s) = true := by rw [h2]; simp
      simp only [e2, ↓aX, evp, evq, evl, boxK, stillV, binV, AV.cells, mP, loadV, storeV, ldV, AV.stb, AV.one, IV.av1, Lb.app, Lb.fresh, reduceCtorEq, ptrL, appL, fillA, chunks, ivs, AV.iv, mkE, if_false, if_true, List.not_mem_nil, forall_eq, beq_self_eq_true, List.isEmpty_nil, Nat.reduceEqDiff, Nat.reduceLT, Nat.reduceLeDiff, Nat.reduceAdd, Nat.reduceMul, Int.reduceToNat, Int.reduceLE, Int.reduceLT, ivA_len]
      by_cases h3 : x.attrs.length = y.attrs.length
      · rw [show ((x.attrs.length : Int) != (y.attrs.length : Int)) = false by simp [h3]]
        simp only [↓aX, evp, evq, evl, boxK, stillV, binV, AV.cells, mP, loadV, storeV, ldV, AV.stb, AV.one, IV.av1, Lb.app, Lb.fresh, reduceCtorEq, ptrL, appL, fillA, chunks, ivs, AV.iv, mkE, if_false, if_true, List.not_mem_nil, forall_eq, beq_self_eq_true, List.isEmpty_nil, Nat.reduceEqDiff, Nat.reduceLT, Nat.reduceLeDiff, Nat.reduceAdd, Nat.reduceMul, Int.reduceToNat, Int.reduceLE, Int.reduceLT, ivA_len]
        refine loop_same (σ := { i : Nat // i ≤ x.attrs.length ∧ ∀ j, j < i → x.attrs[j]? = y.attrs[j]? }) [.loc 3, .loc 2] (fun q => [(2, .ptr (.loc 2) 4 0 0), (3, .ptr (.loc 3) 4 0 0), (29, .int .i64 x.attrs.length), (30, .int .i64 q.1)])
          (fun _ => [(.loc 3, ⟨4, [[.bool y.text, .str y.s, .list (ivA y.attrs), .list (ivT y.kids)]]⟩), (.loc 2, ⟨4, [[.bool x.text, .str x.s, .list (ivA x.attrs), .list (ivT x.kids)]]⟩)]) (fun q => x.attrs.length - q.1) ⟨0, by simp⟩
          (fun _ => rfl) (by decide) (by simp [lbss, AV.lbs]) (by simp [lbss, AV.lbs]) ?_ ?_
        · exact WS_mk (by simp only [NFx_loc, NFx_none]) (by repeat' constructor) (by repeat' constructor)
        · rintro ⟨i, hi, hs⟩
          simp only [↓aX, evp, evq, evl, boxK, stillV, binV, AV.cells, mP, loadV, storeV, ldV, AV.stb, AV.one, IV.av1, Lb.app, Lb.fresh, reduceCtorEq, ptrL, appL, fillA, chunks, ivs, AV.iv, mkE, if_false, if_true, List.not_mem_nil, forall_eq, beq_self_eq_true, List.isEmpty_nil, Nat.reduceEqDiff, Nat.reduceLT, Nat.reduceLeDiff, Nat.reduceAdd, Nat.reduceMul, Int.reduceToNat, Int.reduceLE, Int.reduceLT, ofH_nil, ofH_cons]
          by_cases hlt : i < x.attrs.length
          · rw [show decide ((i : Int) < (x.attrs.length : Int)) = true by simpa using hlt]
            obtain ⟨a, ha⟩ : ∃ a, x.attrs[i]? = some a := ⟨_, List.getElem?_eq_getElem hlt⟩
            obtain ⟨b, hb⟩ : ∃ b, y.attrs[i]? = some b := ⟨_, List.getElem?_eq_getElem (h3 ▸ hlt)⟩
            have hw : IntKind.i64.wrap ((i : Int) + 1) = ((i + 1 : Nat) : Int) := wrap64 (by omega) (by unfold B at hx; omega)
            simp only [↓aX, evp, evq, evl, boxK, stillV, binV, AV.cells, mP, loadV, storeV, ldV, AV.stb, AV.one, IV.av1, Lb.app, Lb.fresh, reduceCtorEq, ptrL, appL, fillA, chunks, ivs, AV.iv, mkE, if_false, if_true, List.not_mem_nil, forall_eq, beq_self_eq_true, List.isEmpty_nil, Nat.reduceEqDiff, Nat.reduceLT, Nat.reduceLeDiff, Nat.reduceAdd, Nat.reduceMul, Int.reduceToNat, Int.reduceLE, Int.reduceLT, ivA_get, ha, hb, elszA, Attr.cells_eq, Attr.cs, eqs, eq1]
            refine ⟨rfl, ?_⟩
            by_cases hab : a = b
            · subst hab
              rw [show (a.name == a.name && a.val == a.val) = true by simp]
              simp only [↓aX, evp, evq, evl, boxK, stillV, binV, AV.cells, mP, loadV, storeV, ldV, AV.stb, AV.one, IV.av1, Lb.app, Lb.fresh, reduceCtorEq, ptrL, appL, fillA, chunks, ivs, AV.iv, mkE, if_false, if_true, List.not_mem_nil, forall_eq, beq_self_eq_true, List.isEmpty_nil, Nat.reduceEqDiff, Nat.reduceLT, Nat.reduceLeDiff, Nat.reduceAdd, Nat.reduceMul, Int.reduceToNat, Int.reduceLE, Int.reduceLT, hw]
              exact ⟨⟨i + 1, hlt, fun j hj => by
                by_cases e : j = i
                · rw [e, ha, hb]
                · exact hs j (by omega)⟩, by simp only; omega, WS_mk (by simp only [NFx_loc, NFx_none]) (by repeat' constructor) (by repeat' constructor)⟩
            · have hne : x ≠ y := fun e => hab (by rw [e, hb] at ha; cases ha; rfl)
              have hne2 : (a.name == b.name && a.val == b.val) = false := by
                simp only [Bool.and_eq_false_iff, beq_eq_false_iff_ne]
                by_cases e1 : a.name = b.name
                · exact .inr fun e2 => hab (Attr.ext e1 e2)
                · exact .inl e1
              rw [hne2]
              simp only [↓aX, evp, evq, evl, boxK, stillV, binV, AV.cells, mP, loadV, storeV, ldV, AV.stb, AV.one, IV.av1, Lb.app, Lb.fresh, reduceCtorEq, ptrL, appL, fillA, chunks, ivs, AV.iv, mkE, if_false, if_true, List.not_mem_nil, forall_eq, beq_self_eq_true, List.isEmpty_nil, Nat.reduceEqDiff, Nat.reduceLT, Nat.reduceLeDiff, Nat.reduceAdd, Nat.reduceMul, Int.reduceToNat, Int.reduceLE, Int.reduceLT, eqB_ne hne]
          · rw [show decide ((i : Int) < (x.attrs.length : Int)) = false by simpa using hlt]
            have ha : x.attrs = y.attrs := List.ext_getElem? fun j => by
              by_cases hj : j < i
              · exact hs j hj
              · rw [List.getElem?_eq_none (by omega), List.getElem?_eq_none (by omega)]
            simp only [↓aX, evp, evq, evl, boxK, stillV, binV, AV.cells, mP, loadV, storeV, ldV, AV.stb, AV.one, IV.av1, Lb.app, Lb.fresh, reduceCtorEq, ptrL, appL, fillA, chunks, ivs, AV.iv, mkE, if_false, if_true, List.not_mem_nil, forall_eq, beq_self_eq_true, List.isEmpty_nil, Nat.reduceEqDiff, Nat.reduceLT, Nat.reduceLeDiff, Nat.reduceAdd, Nat.reduceMul, Int.reduceToNat, Int.reduceLE, Int.reduceLT]
            refine callT_pure hS ?_
            by_cases h4 : x.kids = y.kids
            · have : x = y := Tree.ext h1 h2 ha h4
              subst this
              simp only [↓aX, evp, evq, evl, boxK, stillV, binV, AV.cells, mP, loadV, storeV, ldV, AV.stb, AV.one, IV.av1, Lb.app, Lb.fresh, reduceCtorEq, ptrL, appL, fillA, chunks, ivs, AV.iv, mkE, if_false, if_true, List.not_mem_nil, forall_eq, beq_self_eq_true, List.isEmpty_nil, Nat.reduceEqDiff, Nat.reduceLT, Nat.reduceLeDiff, Nat.reduceAdd, Nat.reduceMul, Int.reduceToNat, Int.reduceLE, Int.reduceLT, eqB_self]
            · have : x ≠ y := fun e => h4 (by rw [e])
              simp only [↓aX, evp, evq, evl, boxK, stillV, binV, AV.cells, mP, loadV, storeV, ldV, AV.stb, AV.one, IV.av1, Lb.app, Lb.fresh, reduceCtorEq, ptrL, appL, fillA, chunks, ivs, AV.iv, mkE, if_false, if_true, List.not_mem_nil, forall_eq, beq_self_eq_true, List.isEmpty_nil, Nat.reduceEqDiff, Nat.reduceLT, Nat.reduceLeDiff, Nat.reduceAdd, Nat.reduceMul, Int.reduceToNat, Int.reduceLE, Int.reduceLT, eqB_ne h4, eqB_ne this]
      · rw [show ((x.attrs.length : Int) != (y.attrs.length : Int)) = true by simp; omega]
        have : x ≠ y := fun e => h3 (by rw [e])
        simp only [↓aX, evp, evq, evl, boxK, stillV, binV, AV.cells, mP, loadV, storeV, ldV, AV.stb, AV.one, IV.av1, Lb.app, Lb.fresh, reduceCtorEq, ptrL, appL, fillA, chunks, ivs, AV.iv, mkE, if_false, if_true, List.not_mem_nil, forall_eq, beq_self_eq_true, List.isEmpty_nil, Nat.reduceEqDiff, Nat.reduceLT, Nat.reduceLeDiff, Nat.reduceAdd, Nat.reduceMul, Int.reduceToNat, Int.reduceLE, Int.reduceLT, eqB_ne this]
    · have e2 : (x.s == y.s) = false := by simpa using h2
      have : x ≠ y := fun e => h2 (by rw [e])
      simp only [e2, ↓aX, evp, evq, evl, boxK, stillV, binV, AV.cells, mP, loadV, storeV, ldV, AV.stb, AV.one, IV.av1, Lb.app, Lb.fresh, reduceCtorEq, ptrL, appL, fillA, chunks, ivs, AV.iv, mkE, if_false, if_true, List.not_mem_nil, forall_eq, beq_self_eq_true, List.isEmpty_nil, Nat.reduceEqDiff, Nat.reduceLT, Nat.reduceLeDiff, Nat.reduceAdd, Nat.reduceMul, Int.reduceToNat, Int.reduceLE, Int.reduceLT, eqB_ne this]
  · have e1 : (x.text == y.text) = false := by simpa using h1
    have : x ≠ y := fun e => h1 (by rw [e])
    simp only [e1, ↓aX, evp, evq, evl, boxK, stillV, binV, AV.cells, mP, loadV, storeV, ldV, AV.stb, AV.one, IV.av1, Lb.app, Lb.fresh, reduceCtorEq, ptrL, appL, fillA, chunks, ivs, AV.iv, mkE, if_false, if_true, List.not_mem_nil, forall_eq, beq_self_eq_true, List.isEmpty_nil, Nat.reduceEqDiff, Nat.reduceLT, Nat.reduceLeDiff, Nat.reduceAdd, Nat.reduceMul, Int.reduceToNat, Int.reduceLE, Int.reduceLT, eqB_ne this]
theorem wKeepSames {P : Program} {G : Nat → Option (List IV)} {f_topiarykeep_same f_topiarykeep_sames : Nat} (hF : compF P G f_topiarykeep_same = some (50, [(none, 4)], (c_topiarykeep_same f_topiarykeep_sames).bare)) (hS : compF P G f_topiarykeep_sames = some (27, [(none, 4)], (cSameTrees f_topiarykeep_same).bare)) (xs : List Tree) :
    ∀ ys, wtT xs ≤ B → PureC P G f_topiarykeep_sames [.list (ivT xs), .list (ivT ys)] (.bool (eqB xs ys)) :=
  byWt (M := fun xs => ∀ ys, wtT xs ≤ B → PureC P G f_topiarykeep_sames [.list (ivT xs), .list (ivT ys)] (.bool (eqB xs ys))) (fun xs h ys hB => pSameTrees hS xs ys (by have := wtT_len xs; omega) fun x hx y _ =>
    have h1 := wt_mem hx
    have h2 := wt_kids x
    have h3 := wt_attrs x
    have h4 := wtA_len x.attrs
    pKeepSame hF x y (by omega) (h x hx _ (by omega))) xs
end Go.Am

/- Trees: out of readings. -/
namespace Go.Am
open Go Go.RowKit
section
variable {P : Program}
theorem Sh.inv_b {t : TypeId} {y : IV} (h : Sh P t y) (hu : P.underlying t = some .bool) : ∃ x, y = .bool x := by
  cases h <;> simp_all
theorem Sh.inv_i {t : TypeId} {y : IV} {k : IntKind} (h : Sh P t y) (hu : P.underlying t = some (.int k)) : ∃ n, y = .int k n ∧ (Lit.int k n).wf = true := by
  cases h <;> simp_all
theorem Sh.inv_s {t : TypeId} {y : IV} (h : Sh P t y) (hu : P.underlying t = some .string) : ∃ x, y = .str x := by
  cases h <;> simp_all
theorem Sh.inv_l {t e : TypeId} {y : IV} (h : Sh P t y) (hu : P.underlying t = some (.slice e)) : ∃ ys, y = .list ys ∧ ∀ y ∈ ys, Sh P e y := by
  cases h <;> simp_all
theorem Sh.inv_g {t : TypeId} {fs : Array Field} {y : IV} (h : Sh P t y) (hu : P.underlying t = some (.struct fs)) :
    ∃ ys, y = .agg ys ∧ ys.length = fs.size ∧ ∀ (j : Nat) (f : Field) (y : IV), fs[j]? = some f → ys[j]? = some y → Sh P f.type y := by
  cases h with
  | g hu' h1 h2 =>
    rw [hu'] at hu; cases hu; exact ⟨_, rfl, h1, h2⟩
  | _ => simp_all
/-- The types of trees. -/
structure TyT (P : Program) where
  tB : TypeId
  tS : TypeId
  tA : TypeId
  tAs : TypeId
  tT : TypeId
  tTs : TypeId
  fA : Array Field
  fT : Array Field
  uB : P.underlying tB = some .bool
  uS : P.underlying tS = some .string
  uAs : P.underlying tAs = some (.slice tA)
  uTs : P.underlying tTs = some (.slice tT)
  uA : P.underlying tA = some (.struct fA)
  uT : P.underlying tT = some (.struct fT)
  sA : fA.toList.map (·.type) = [tS, tS]
  sT : fT.toList.map (·.type) = [tB, tS, tAs, tTs]
theorem field_of {fs : Array Field} {ts : List TypeId} (h : fs.toList.map (·.type) = ts) (j : Nat) (t : TypeId) (ht : ts[j]? = some t) : ∃ f, fs[j]? = some f ∧ f.type = t := by
  subst h
  rw [List.getElem?_map] at ht
  obtain ⟨f, h1, rfl⟩ := Option.map_eq_some_iff.1 ht
  exact ⟨f, by simpa using h1, rfl⟩
theorem Sh.attr (T : TyT P) {y : IV} (h : Sh P T.tA y) : ∃ a : Attr, y = a.iv ∧ a.wt ≤ y.wt := by
  obtain ⟨ys, rfl, hl, hy⟩ := h.inv_g T.uA
  have hs : T.fA.size = 2 := by have := congrArg List.length T.sA; simpa using this
  match ys, hl.trans hs, hy with
  | [y0, y1], _, hy =>
    obtain ⟨f0, e0, t0⟩ := field_of T.sA 0 T.tS rfl
    obtain ⟨f1, e1, t1⟩ := field_of T.sA 1 T.tS rfl
    have h0 := hy 0 f0 y0 e0 rfl
    have h1 := hy 1 f1 y1 e1 rfl
    rw [t0] at h0
    rw [t1] at h1
    obtain ⟨x0, rfl⟩ := h0.inv_s T.uS
    obtain ⟨x1, rfl⟩ := h1.inv_s T.uS
    exact ⟨⟨x0, x1⟩, rfl, by simp [Attr.wt, IV.wt, wtI]; omega⟩
theorem Sh.attrs (T : TyT P) : ∀ (ys : List IV), (∀ y ∈ ys, Sh P T.tA y) → ∃ as, ys = ivA as ∧ wtA as ≤ wtI ys
  | [], _ => ⟨[], rfl, by simp [wtA, wtI]⟩
  | y :: r, h => by
    obtain ⟨a, rfl, h1⟩ := (h y (by simp)).attr T
    obtain ⟨as, rfl, h2⟩ := Sh.attrs T r (fun z hz => h z (by simp [hz]))
    exact ⟨a :: as, rfl, by simp only [wtA, wtI]; omega⟩
theorem Sh.treeN (T : TyT P) : ∀ (n : Nat), (∀ y : IV, y.wt ≤ n → Sh P T.tT y → ∃ x : Tree, y = x.iv ∧ x.wt ≤ y.wt) ∧ ∀ ys : List IV, wtI ys ≤ n → (∀ y ∈ ys, Sh P T.tT y) → ∃ xs, ys = ivT xs ∧ wtT xs ≤ wtI ys := by
  intro n
  induction n with
  | zero =>
    refine ⟨fun y hy h => ?_, fun ys hy h => ?_⟩
    · exfalso; cases y <;> simp [IV.wt] at hy
    · cases ys with
      | nil => exact ⟨[], rfl, by simp [wtT, wtI]⟩
      | cons y r => exfalso; cases y <;> simp [IV.wt, wtI] at hy
  | succ n ih =>
    have one : ∀ y : IV, y.wt ≤ n + 1 → Sh P T.tT y → ∃ x : Tree, y = x.iv ∧ x.wt ≤ y.wt := by
      intro y hy h
      obtain ⟨ys, rfl, hl, hys⟩ := h.inv_g T.uT
      have hs : T.fT.size = 4 := by have := congrArg List.length T.sT; simpa using this
      match ys, hl.trans hs, hys, hy with
      | [y0, y1, y2, y3], _, hys, hy =>
        obtain ⟨f0, e0, t0⟩ := field_of T.sT 0 T.tB rfl
        obtain ⟨f1, e1, t1⟩ := field_of T.sT 1 T.tS rfl
        obtain ⟨f2, e2, t2⟩ := field_of T.sT 2 T.tAs rfl
        obtain ⟨f3, e3, t3⟩ := field_of T.sT 3 T.tTs rfl
        have h0 := hys 0 f0 y0 e0 rfl
        have h1 := hys 1 f1 y1 e1 rfl
        have h2 := hys 2 f2 y2 e2 rfl
        have h3 := hys 3 f3 y3 e3 rfl
        rw [t0] at h0; rw [t1] at h1; rw [t2] at h2; rw [t3] at h3
        obtain ⟨b, rfl⟩ := h0.inv_b T.uB
        obtain ⟨s, rfl⟩ := h1.inv_s T.uS
        obtain ⟨z2, rfl, g2⟩ := h2.inv_l T.uAs
        obtain ⟨z3, rfl, g3⟩ := h3.inv_l T.uTs
        obtain ⟨as, rfl, w2⟩ := Sh.attrs T z2 g2
        simp only [IV.wt, wtI] at hy
        obtain ⟨ks, rfl, w3⟩ := ih.2 z3 (by omega) g3
        exact ⟨.mk b s as ks, by simp [Tree.iv], by simp only [Tree.wt, IV.wt, wtI]; omega⟩
    refine ⟨one, fun ys => ?_⟩
    induction ys with
    | nil => exact fun _ _ => ⟨[], rfl, by simp [wtT, wtI]⟩
    | cons y r ihr =>
      intro hy h
      simp only [wtI] at hy
      obtain ⟨x, rfl, h1⟩ := one y (by omega) (h y (by simp))
      obtain ⟨xs, rfl, h2⟩ := ihr (by omega) (fun z hz => h z (by simp [hz]))
      exact ⟨x :: xs, rfl, by simp only [wtT, wtI]; omega⟩
theorem Sh.trees (T : TyT P) {y : IV} (h : Sh P T.tTs y) : ∃ xs : List Tree, y = .list (ivT xs) ∧ wtT xs ≤ y.wt := by
  obtain ⟨ys, rfl, hy⟩ := h.inv_l T.uTs
  obtain ⟨xs, rfl, hw⟩ := (Sh.treeN T (wtI ys)).2 ys (Nat.le_refl _) hy
  exact ⟨xs, rfl, by simp only [IV.wt]; omega⟩
end
end Go.Am

/- Documents: out of readings. -/
namespace Go.Am
open Go Go.RowKit
section
variable {P : Program}
/-- The types of documents. -/
structure TyD (P : Program) (T : TyT P) where
  tI : TypeId
  tIs : TypeId
  tN : TypeId
  tNs : TypeId
  tD : TypeId
  fN : Array Field
  fD : Array Field
  uI : P.underlying tI = some (.int .i64)
  uIs : P.underlying tIs = some (.slice tI)
  uN : P.underlying tN = some (.struct fN)
  uNs : P.underlying tNs = some (.slice tN)
  uD : P.underlying tD = some (.struct fD)
  sN : fN.toList.map (·.type) = [T.tB, T.tS, T.tAs, tI, tIs]
  sD : fD.toList.map (·.type) = [tNs]
theorem Sh.tree (T : TyT P) {y : IV} (h : Sh P T.tT y) : ∃ x : Tree, y = x.iv ∧ x.wt ≤ y.wt := by
  obtain ⟨xs, e, hw⟩ := (Sh.treeN T (wtI [y])).2 [y] (Nat.le_refl _) (by simpa using h)
  match xs, e with
  | [x], e =>
    simp only [ivT, List.cons.injEq, and_true] at e
    exact ⟨x, e, by simp only [wtT, wtI] at hw; omega⟩
theorem Sh.ints {T : TyT P} (D : TyD P T) : ∀ (ys : List IV), (∀ y ∈ ys, Sh P D.tI y) → ∃ xs : List Int, ys = xs.map intIV ∧ xs.length ≤ wtI ys
  | [], _ => ⟨[], rfl, by simp [wtI]⟩
  | y :: r, h => by
    obtain ⟨n, rfl, _⟩ := (h y (by simp)).inv_i D.uI
    obtain ⟨xs, rfl, h2⟩ := Sh.ints D r (fun z hz => h z (by simp [hz]))
    exact ⟨n :: xs, rfl, by simp only [List.length_cons, wtI, IV.wt]; omega⟩
theorem Sh.node {T : TyT P} (D : TyD P T) {y : IV} (h : Sh P D.tN y) : ∃ x : Node, y = x.iv ∧ x.wt ≤ y.wt := by
  obtain ⟨ys, rfl, hl, hys⟩ := h.inv_g D.uN
  have hs : D.fN.size = 5 := by have := congrArg List.length D.sN; simpa using this
  match ys, hl.trans hs, hys with
  | [y0, y1, y2, y3, y4], _, hys =>
    obtain ⟨f0, e0, t0⟩ := field_of D.sN 0 T.tB rfl
    obtain ⟨f1, e1, t1⟩ := field_of D.sN 1 T.tS rfl
    obtain ⟨f2, e2, t2⟩ := field_of D.sN 2 T.tAs rfl
    obtain ⟨f3, e3, t3⟩ := field_of D.sN 3 D.tI rfl
    obtain ⟨f4, e4, t4⟩ := field_of D.sN 4 D.tIs rfl
    have h0 := hys 0 f0 y0 e0 rfl
    have h1 := hys 1 f1 y1 e1 rfl
    have h2 := hys 2 f2 y2 e2 rfl
    have h3 := hys 3 f3 y3 e3 rfl
    have h4 := hys 4 f4 y4 e4 rfl
    rw [t0] at h0; rw [t1] at h1; rw [t2] at h2; rw [t3] at h3; rw [t4] at h4
    obtain ⟨b, rfl⟩ := h0.inv_b T.uB
    obtain ⟨s, rfl⟩ := h1.inv_s T.uS
    obtain ⟨z2, rfl, g2⟩ := h2.inv_l T.uAs
    obtain ⟨p, rfl, _⟩ := h3.inv_i D.uI
    obtain ⟨z4, rfl, g4⟩ := h4.inv_l D.uIs
    obtain ⟨as, rfl, w2⟩ := Sh.attrs T z2 g2
    obtain ⟨ks, rfl, w4⟩ := Sh.ints D z4 g4
    exact ⟨⟨b, s, as, p, ks⟩, rfl, by simp only [Node.wt, IV.wt, wtI]; omega⟩
end
end Go.Am
