import Derived.Test.YtfinkeaikbmpgaaDoorKAm33
import Derived.Test.YtfinkeaikbmpgaaDoorKT7
import Derived.Test.YtfinkeaikbmpgaaDoorKAm25
set_option linter.unusedSimpArgs false
set_option linter.unusedVariables false
set_option linter.unnecessarySimpa false
set_option linter.defProp false
/- Copies of slices. -/
namespace Go.Am
open Go Go.RowKit
def c_slices_Clone_Attr_Attr : AC :=
(.seq (.reg [⟨(some 2), none, (.mov (.c .nil0))⟩]) (.seq (.seq (.reg [⟨(some 3), none, (.mov (.t 0))⟩, ⟨(some 4), none, (.eqn false (.t 3))⟩]) (.cond (.t 4) (.seq (.reg [⟨(some 2), none, (.mov (.c .nil0))⟩]) .ret) .skip)) (.seq (.reg [⟨(some 5), none, (.lits 0 2 [(.str []), (.str [])] [])⟩, ⟨(some 6), none, (.mov (.t 0))⟩, ⟨(some 7), none, (.app (.t 5) (.t 6) 2 32)⟩, ⟨(some 2), none, (.mov (.t 7))⟩]) (.gh (.frz (.loc 7) 2) .ret))))
theorem pCloneA {P : Program} {G : Nat → Option (List IV)} {f_slices_Clone_Attr_Attr : Nat} (hF : compF P G f_slices_Clone_Attr_Attr = some (8, [(none, 2)], c_slices_Clone_Attr_Attr.bare)) (xs : List Attr) (hx : xs.length ≤ B) : PureC P G f_slices_Clone_Attr_Attr [.list (ivA xs)] (.list (ivA xs)) := by
  refine pure_of_goN hF (by simp) (by simp [lbss, AV.lbs]) (by simp [AV.lbs]) ?_
  unfold c_slices_Clone_Attr_Attr
  simp only [↓aX, evp, evq, evl, boxK, stillV, binV, AV.cells, mP, loadV, storeV, ldV, AV.stb, AV.one, IV.av1, Lb.app, Lb.fresh, reduceCtorEq, ptrL, appL, fillA, chunks, ivs, AV.iv, mkE, if_false, if_true, List.not_mem_nil, forall_eq, beq_self_eq_true, List.isEmpty_nil, Nat.reduceEqDiff, Nat.reduceLT, Nat.reduceLeDiff, Nat.reduceAdd, Nat.reduceMul, Int.reduceToNat, Int.reduceLE, Int.reduceLT, a1_eqn]
  refine nK_list (fun h => ?_) ?_
  · simp only [↓aX, evp, evq, evl, boxK, stillV, binV, AV.cells, mP, loadV, storeV, ldV, AV.stb, AV.one, IV.av1, Lb.app, Lb.fresh, reduceCtorEq, ptrL, appL, fillA, chunks, ivs, AV.iv, mkE, if_false, if_true, List.not_mem_nil, forall_eq, beq_self_eq_true, List.isEmpty_nil, Nat.reduceEqDiff, Nat.reduceLT, Nat.reduceLeDiff, Nat.reduceAdd, Nat.reduceMul, Int.reduceToNat, Int.reduceLE, Int.reduceLT, norm, h]
  · simp only [↓aX, evp, evq, evl, boxK, stillV, binV, AV.cells, mP, loadV, storeV, ldV, AV.stb, AV.one, IV.av1, Lb.app, Lb.fresh, reduceCtorEq, ptrL, appL, fillA, chunks, ivs, AV.iv, mkE, if_false, if_true, List.not_mem_nil, forall_eq, beq_self_eq_true, List.isEmpty_nil, Nat.reduceEqDiff, Nat.reduceLT, Nat.reduceLeDiff, Nat.reduceAdd, Nat.reduceMul, Int.reduceToNat, Int.reduceLE, Int.reduceLT, norm]
    rw [app_nil' 2 32 7 (ivA xs) (elszA _) (flatA _) (by rw [ivA_len]; unfold B at hx; omega) (by decide) rfl]
    simp only [↓aX, evp, evq, evl, boxK, stillV, binV, AV.cells, mP, loadV, storeV, ldV, AV.stb, AV.one, IV.av1, Lb.app, Lb.fresh, reduceCtorEq, ptrL, appL, fillA, chunks, ivs, AV.iv, mkE, if_false, if_true, List.not_mem_nil, forall_eq, beq_self_eq_true, List.isEmpty_nil, Nat.reduceEqDiff, Nat.reduceLT, Nat.reduceLeDiff, Nat.reduceAdd, Nat.reduceMul, Int.reduceToNat, Int.reduceLE, Int.reduceLT, norm]
    exact ⟨2, ivA xs, 0, _, rfl, rfl, by simp, flatA _, by simp⟩
end Go.Am

/- THE ABSTRACT MACHINE, part 34: a list of structs behind a pointer. -/
namespace Go.Am
open Go Go.RowKit
/-- Rows as they are listed; some labels more are used up. -/
def ofU (u : Lb → Bool) (rs : List (Lb × Row)) : Hp := fun q => match ofH rs q with
  | .unused => if u q then .dead else .unused
  | s => s
theorem ofU_live {u : Lb → Bool} {rs : List (Lb × Row)} {l : Lb} {r : Row} : ofU u rs l = .live r ↔ ofH rs l = .live r := by
  unfold ofU
  cases h : ofH rs l with
  | unused => by_cases hu : u l = true <;> simp [hu]
  | dead => simp
  | live r' => simp
theorem ofU_used {u : Lb → Bool} {rs : List (Lb × Row)} {l : Lb} (h : l ∈ rs.map Prod.fst ∨ u l = true) : ofU u rs l ≠ .unused := by
  unfold ofU
  rcases h with h | h
  · have := ofH_used h
    cases h2 : ofH rs l with
    | unused => exact absurd h2 this
    | dead => simp
    | live r => simp
  · cases h2 : ofH rs l with
    | unused => simp [h]
    | dead => simp
    | live r => simp
structure WU (ls : List Lb) (u : Lb → Bool) (ps : List (Nat × AV)) (rs : List (Lb × Row)) (env : Env) (H : Hp) (m : List (Lb × Lb)) : Prop where
  nf : ∀ l : Lb, l.fresh = false → H l ≠ .unused → l ∈ ls ∨ u l = true
  e : EqL (rnF m) env ps
  r : RwL (rnF m) H rs
  inj : (ls.map (rnF m)).Nodup
  fr : ∀ l ∈ ls, (l.fresh = true → (rnF m l).fresh = true) ∧ (l.fresh = false → rnF m l = l)
theorem WU.wk {ls : List Lb} {u : Lb → Bool} {ps : List (Nat × AV)} {rs : List (Lb × Row)} {env : Env} {H : Hp} {m : List (Lb × Lb)} (h : WU ls u ps rs env H m) (hls : rs.map Prod.fst = ls) (hp : ∀ l ∈ lbss (ps.map Prod.snd), l ∈ ls)
    (hr : ∀ q ∈ rs, ∀ cs ∈ q.2.els, ∀ l ∈ lbss cs, l ∈ ls) : Wk (rnF m) env H (ofL ps) (ofU u rs) := by
  have hlv : ∀ l, live (ofU u rs) l → l ∈ ls := fun l ⟨r, h⟩ => by rw [← hls]; exact List.mem_map.2 ⟨_, ofH_live (ofU_live.1 h), rfl⟩
  refine ⟨h.e.we, fun l r hl => RwL_mem h.r (ofH_live (ofU_live.1 hl)), fun l l' h1 h2 e => nodup_map_inj h.inj l (hlv l h1) l' (hlv l' h2) e, ofL_wm fun l hl => ofU_used (.inl (by rw [hls]; exact hp l hl)), fun l r hl cs hcs q hq => ?_,
    fun l hf => ⟨fun hu => ?_, fun hl => (h.fr l (hlv l hl)).2 hf⟩, fun l hl hf => (h.fr l (hlv l hl)).1 hf⟩
  · exact ofU_used (.inl (by rw [hls]; exact hr _ (ofH_live (ofU_live.1 hl)) cs hcs q hq))
  · exact ofU_used (by rw [hls]; exact h.nf l hf hu)
theorem loop_used {σ : Type} {S : St} {Q : Post} {c : AC} {k : List It} {env : Env} {H : Hp} (ls : σ → List Lb) (u : σ → Lb → Bool) (ps : σ → List (Nat × AV)) (rs : σ → List (Lb × Row)) (μ : σ → Nat) (s0 : σ)
    (hls : ∀ s, (rs s).map Prod.fst = ls s) (hp : ∀ s, ∀ l ∈ lbss ((ps s).map Prod.snd), l ∈ ls s) (hr : ∀ s, ∀ q ∈ rs s, ∀ cs ∈ q.2.els, ∀ l ∈ lbss cs, l ∈ ls s) (h0 : ∃ m, WU (ls s0) (u s0) (ps s0) (rs s0) env H m)
    (round : ∀ s, go S (LoopX S Q k (fun env H s => ∃ m, WU (ls s) (u s) (ps s) (rs s) env H m) μ (μ s)) [.code c] (ofL (ps s)) (ofU (u s) (rs s))) : LoopG S Q c k env H :=
  loop_gen (fun s => ofL (ps s)) (fun s => ofU (u s) (rs s)) _ (fun _ _ s ⟨m, h⟩ => ⟨_, h.wk (hls s) (hp s) (hr s)⟩) μ s0 h0 round
theorem renR_immE (ρ : Lb → Lb) (sz : Nat) (xs : List IV) : renR ρ ⟨sz, immE xs⟩ = ⟨sz, immE xs⟩ := renR_imm ρ sz xs
end Go.Am

/- Documents: which lists of nodes are some. -/
namespace Go.Am
open Go Go.RowKit
/-- One node after the other, in the order in which one reads: what comes next. -/
def wk (d : Doc) : Nat → Int → Int → Int → Option Int
  | 0, _, _, _ => none
  | f + 1, n, p, nx => if n = nx then match d[n.toNat]? with
      | some x => if x.parent = p then x.kids.foldlM (fun q k => wk d f k n q) (nx + 1) else none
      | none => none
    else none
theorem drop_mem {α : Type} {l : List α} {n : Nat} {x : α} {r : List α} (h : l.drop n = x :: r) : l[n]? = some x ∧ l.drop (n + 1) = r := by
  have h1 : (l.drop n)[0]? = some x := by rw [h]; rfl
  refine ⟨by simpa [List.getElem?_drop] using h1, ?_⟩
  have : (l.drop n).drop 1 = r := by rw [h]; rfl
  rwa [List.drop_drop] at this
theorem drop_eq {α : Type} {l : List α} {n : Nat} {x : α} (h : l[n]? = some x) : l.drop n = x :: l.drop (n + 1) := by
  obtain ⟨hn, rfl⟩ := List.getElem?_eq_some_iff.1 h
  exact List.drop_eq_getElem_cons hn
theorem wk_some (d : Doc) : ∀ (f : Nat),
    (∀ (m : Nat) (n p r : Int), wk d f n p m = some r → n = m ∧ ∃ x : Tree, x.dep ≤ f ∧ (∃ post, d.drop m = x.flat m p ++ post) ∧ r = ((m + x.cnt : Nat) : Int)) := by
  intro f
  induction f with
  | zero => intro m n p r h; simp [wk] at h
  | succ f ih =>
    intro m n p r h
    unfold wk at h
    split at h
    · rename_i hn
      subst hn
      simp only [Int.toNat_natCast] at h
      cases hx : d[m]? with
      | none => rw [hx] at h; simp at h
      | some nd =>
        rw [hx] at h
        simp only at h
        split at h
        · rename_i hp
          refine ⟨rfl, ?_⟩
          have kids : ∀ (ks : List Int) (q : Nat) (r : Int), ks.foldlM (fun q k => wk d f k (m : Int) q) (q : Int) = some r → ∃ xs : List Tree, ks = kidsAt q xs ∧ depT xs ≤ f ∧ (∃ post, d.drop q = flats q m xs ++ post) ∧ r = ((q + cntT xs : Nat) : Int) := by
            intro ks
            induction ks with
            | nil => intro q r h; simp at h; subst h; exact ⟨[], rfl, by simp [depT], ⟨_, by simp [flats]; rfl⟩, by simp [cntT]⟩
            | cons k ks ihk =>
              intro q r h
              rw [List.foldlM_cons] at h
              obtain ⟨q', h1, h2⟩ := Option.bind_eq_some_iff.1 h
              obtain ⟨rfl, x, x1, ⟨post, x2⟩, rfl⟩ := ih q k m q' h1
              obtain ⟨xs, e1, e2, ⟨post2, e3⟩, rfl⟩ := ihk _ _ h2
              refine ⟨x :: xs, by simp only [kidsAt, e1], by simp only [depT]; omega, ⟨post2, ?_⟩, by simp only [cntT, Nat.add_assoc]⟩
              have : d.drop (q + x.cnt) = post := by
                rw [← List.drop_drop, x2, List.drop_append_of_le_length (by rw [x.flat_len]; exact Nat.le_refl _), List.drop_eq_nil_of_le (by rw [x.flat_len]; exact Nat.le_refl _)]; rfl
              rw [x2, ← this, e3]; simp [flats]
          obtain ⟨xs, e1, e2, ⟨post, e3⟩, rfl⟩ := kids nd.kids (m + 1) r (by simpa using h)
          refine ⟨.mk nd.text nd.s nd.attrs xs, by simp only [Tree.dep]; omega, ⟨post, ?_⟩, by simp only [Tree.cnt]; congr 1; omega⟩
          rw [drop_eq hx, e3]
          simp only [Tree.flat, List.cons_append, List.cons.injEq, and_true]
          exact Node.ext' rfl rfl rfl hp e1
        · simp at h
    · simp at h
theorem wk_of (d : Doc) : ∀ (f : Nat) (x : Tree) (m : Nat) (p : Int), x.dep ≤ f → (∃ post, d.drop m = x.flat m p ++ post) → wk d f m p m = some ((m + x.cnt : Nat) : Int) := by
  intro f
  induction f with
  | zero => intro x m p h; rw [x.dep_eq] at h; omega
  | succ f ih =>
    intro x m p hd ⟨post, hx⟩
    rw [x.flat_eq] at hx
    obtain ⟨h1, h2⟩ := drop_mem hx
    unfold wk
    rw [if_pos rfl, Int.toNat_natCast, h1]
    simp only [Tree.node, if_true]
    have kids : ∀ (xs : List Tree) (q : Nat), depT xs ≤ f → (∃ post, d.drop q = flats q m xs ++ post) → (kidsAt q xs).foldlM (fun q k => wk d f k (m : Int) q) (q : Int) = some ((q + cntT xs : Nat) : Int) := by
      intro xs
      induction xs with
      | nil => intro q _ _; simp [kidsAt, cntT]
      | cons y ys ihk =>
        intro q hq ⟨post, hp⟩
        simp only [depT] at hq
        simp only [flats, List.append_assoc] at hp
        simp only [kidsAt, List.foldlM_cons]
        rw [ih y q m (by omega) ⟨_, hp⟩]
        simp only [Option.bind_eq_bind, Option.bind_some]
        rw [ihk (q + y.cnt) (by omega) ⟨post, by rw [← List.drop_drop, hp, List.drop_append_of_le_length (by rw [y.flat_len]; exact Nat.le_refl _), List.drop_eq_nil_of_le (by rw [y.flat_len]; exact Nat.le_refl _)]; rfl⟩]
        simp only [cntT, Nat.add_assoc]
    have hdep := x.dep_eq
    have := kids x.kids (m + 1) (by omega) ⟨post, h2⟩
    rw [show ((m : Int) + 1) = ((m + 1 : Nat) : Int) by omega, this, x.cnt_eq]
    congr 2; omega
mutual
theorem Tree.flat_inj : ∀ (x y : Tree) (off : Nat) (p : Int) (r r' : List Node), x.flat off p ++ r = y.flat off p ++ r' → x = y
  | .mk t s as ks, .mk t' s' as' ks', off, p, r, r', h => by
    simp only [Tree.flat, List.cons_append, List.cons.injEq, Node.mk.injEq] at h
    obtain ⟨⟨rfl, rfl, rfl, _, hk⟩, h⟩ := h
    have hl : ks.length = ks'.length := by have := congrArg List.length hk; simpa [kidsAt_len] using this
    rw [flats_inj ks ks' (off + 1) off r r' hl h]
theorem flats_inj : ∀ (xs ys : List Tree) (off p : Nat) (r r' : List Node), xs.length = ys.length → flats off p xs ++ r = flats off p ys ++ r' → xs = ys
  | [], [], _, _, _, _, _, _ => rfl
  | [], _ :: _, _, _, _, _, h, _ => by simp at h
  | _ :: _, [], _, _, _, _, h, _ => by simp at h
  | x :: xs, y :: ys, off, p, r, r', hl, h => by
    simp only [flats, List.append_assoc] at h
    have e := x.flat_inj y off p _ _ h
    subst e
    have := List.append_cancel_left h
    rw [flats_inj xs ys _ p r r' (by simpa using hl) this]
end
theorem docOf_inj {x y : Tree} (h : docOf x = docOf y) : x = y := x.flat_inj y 0 (-1) [] [] (by simpa [docOf] using h)
theorem docOf_len (x : Tree) : (docOf x).length = x.cnt := x.flat_len 0 (-1)
/-- The documents. -/
def IsDoc (d : Doc) : Prop := ∃ x : Tree, x.good = true ∧ d = docOf x
open Classical in
noncomputable def isDoc (d : Doc) : Bool := decide (IsDoc d)
theorem isDoc_iff {d : Doc} : isDoc d = true ↔ IsDoc d := by simp [isDoc]
theorem isDoc_of {x : Tree} (h : x.good = true) : isDoc (docOf x) = true := isDoc_iff.2 ⟨x, h, rfl⟩
theorem isDoc_not {d : Doc} (h : ¬ IsDoc d) : isDoc d = false := by simp [isDoc, h]
theorem good_iff (x : Tree) : x.good = true ↔ x.text = false ∧ x.dep ≤ 8 ∧ x.cnt ≤ 80 ∧ x.fine = true := by
  simp only [Tree.good, Bool.and_eq_true, Bool.not_eq_true', decide_eq_true_eq]
  constructor
  · rintro ⟨h1, h2, h3, h4⟩; exact ⟨h1, by omega, by omega, h4⟩
  · rintro ⟨h1, h2, h3, h4⟩; exact ⟨h1, by omega, by omega, h4⟩
theorem wk_doc {d : Doc} (h : wk d 8 0 (-1) 0 = some (d.length : Int)) : ∃ x : Tree, x.dep ≤ 8 ∧ d = docOf x := by
  obtain ⟨_, x, h1, ⟨post, h2⟩, h3⟩ := wk_some d 8 0 0 (-1) _ h
  refine ⟨x, h1, ?_⟩
  simp only [List.drop_zero, Nat.zero_add] at h2 h3
  have hl : post = [] := by
    have := congrArg List.length h2
    rw [List.length_append, x.flat_len] at this
    have : x.cnt = d.length := by omega
    exact List.length_eq_zero_iff.1 (by omega)
  rw [h2, hl, List.append_nil]; rfl
theorem wk_doc' {x : Tree} (h : x.dep ≤ 8) : wk (docOf x) 8 0 (-1) 0 = some ((docOf x).length : Int) := by
  have := wk_of (docOf x) 8 x 0 (-1) h ⟨[], by simp [docOf]⟩
  rw [docOf_len]; simpa using this
end Go.Am

/- Trees that are joined. -/
namespace Go.Am
open Go Go.RowKit
def Tree.withS (x : Tree) (s : Bs) : Tree := .mk x.text s x.attrs x.kids
/-- Is the last of some a text? -/
def lastT (p : Bool) : List Tree → Bool
  | [] => p
  | x :: r => lastT x.text r
/-- The last one is longer. -/
def grow (s : Bs) : List Tree → List Tree
  | [] => []
  | [x] => [x.withS (x.s ++ s)]
  | x :: y :: r => x :: grow s (y :: r)
/-- One more, joined to what is there. -/
def push (out : List Tree) (x : Tree) : List Tree :=
  if x.text && x.s == [] then out else if x.text && lastT false out then grow x.s out else out ++ [x]
end Go.Am

/- JoinedOf. -/
namespace Go.Am
open Go Go.RowKit
theorem take_snoc' {α : Type} {l : List α} {i : Nat} {x : α} (h : l[i]? = some x) : l.take (i + 1) = l.take i ++ [x] := by rw [List.take_add_one, h]; rfl
end Go.Am

/- Trees: the contracts, for all trees. -/
namespace Go.Am
open Go Go.RowKit
theorem byWt {M : List Tree → Prop} (step : ∀ l, (∀ x ∈ l, M x.kids) → M l) : ∀ l, M l := by
  have key : ∀ (n : Nat) (l : List Tree), wtT l ≤ n → M l := by
    intro n
    induction n with
    | zero =>
      intro l hn
      refine step l fun x hx => ?_
      obtain ⟨i, hi⟩ := List.getElem?_of_mem hx
      have := wtT_get l i x hi
      have := x.wt_eq
      omega
    | succ n ih =>
      intro l hn
      refine step l fun x hx => ih _ ?_
      obtain ⟨i, hi⟩ := List.getElem?_of_mem hx
      have := wtT_get l i x hi
      have := x.wt_eq
      omega
  exact fun l => key _ l (Nat.le_refl _)
theorem wt_mem {l : List Tree} {x : Tree} (h : x ∈ l) : x.wt ≤ wtT l := by
  obtain ⟨i, hi⟩ := List.getElem?_of_mem h
  exact wtT_get l i x hi
theorem wt_kids (x : Tree) : wtT x.kids ≤ x.wt := by have := x.wt_eq; omega
theorem wt_s (x : Tree) : x.s.length ≤ x.wt := by have := x.wt_eq; omega
theorem wt_attrs (x : Tree) : wtA x.attrs ≤ x.wt := by have := x.wt_eq; omega
theorem wtA_mem : ∀ {l : List Attr} {a : Attr}, a ∈ l → a.wt ≤ wtA l
  | [], a, h => by simp at h
  | b :: r, a, h => by
    simp only [List.mem_cons] at h
    rcases h with rfl | h
    · simp [wtA]
    · have := wtA_mem h; simp only [wtA]; omega
section
variable {P : Program} {G : Nat → Option (List IV)}
theorem wSize {g : Nat} (hF : compF P G g = some (32, [(none, 2), (none, 3)], (cSize g).bare)) : ∀ x : Tree, x.wt ≤ B → PureC P G g [x.av] (.tup [.int .i64 x.dep, .int .i64 x.cnt]) := by
  have key := byWt (M := fun l => ∀ x ∈ l, x.wt ≤ B → PureC P G g [x.av] (.tup [.int .i64 x.dep, .int .i64 x.cnt])) (fun l h x hx hB => pSize hF x hB fun k hk => h x hx k hk (by have := wt_mem hk; have := wt_kids x; omega))
  exact fun x => key [x] x (by simp)
theorem wFines {fP fN fGA fF fFs : Nat} (hP : compF P G fP = some (29, [(none, 2)], cPlain.bare)) (hN : compF P G fN = some (28, [(none, 2)], cNamed.bare)) (hA : compF P G fGA = some (41, [(none, 2)], (cGoodAttrs fN fP).bare))
    (hF : compF P G fF = some (38, [(none, 2)], (cFine fP fN fGA fFs).bare)) (hFs : compF P G fFs = some (32, [(none, 2)], (cFines fF).bare)) (l : List Tree) : wtT l ≤ B → PureC P G fFs [.list (ivT l)] (.bool (fines none l)) := by
  refine byWt (M := fun l => wtT l ≤ B → PureC P G fFs [.list (ivT l)] (.bool (fines none l))) (fun l h hB => pFines hFs l (by have := wtT_len l; omega) fun x hx => ?_) l
  have h1 := wt_mem hx
  have h2 := wt_kids x
  have h3 := wt_s x
  have h4 := wt_attrs x
  have h5 := wtA_len x.attrs
  refine pFine hF x (pPlain hP _ (by omega)) (pNamed hN _ (by omega)) (pGoodAttrs hA _ (by omega) (fun a ha => pNamed hN _ ?_) (fun a ha => pPlain hP _ ?_)) (h x hx (by omega))
  · have := wtA_mem ha; unfold Attr.wt at this; omega
  · have := wtA_mem ha; unfold Attr.wt at this; omega
theorem wFine {fP fN fGA fF fFs : Nat} (hP : compF P G fP = some (29, [(none, 2)], cPlain.bare)) (hN : compF P G fN = some (28, [(none, 2)], cNamed.bare)) (hA : compF P G fGA = some (41, [(none, 2)], (cGoodAttrs fN fP).bare))
    (hF : compF P G fF = some (38, [(none, 2)], (cFine fP fN fGA fFs).bare)) (hFs : compF P G fFs = some (32, [(none, 2)], (cFines fF).bare)) (x : Tree) (hB : x.wt ≤ B) : PureC P G fF [x.av] (.bool x.fine) := by
  have h2 := wt_kids x
  have h3 := wt_s x
  have h4 := wt_attrs x
  have h5 := wtA_len x.attrs
  refine pFine hF x (pPlain hP _ (by omega)) (pNamed hN _ (by omega)) (pGoodAttrs hA _ (by omega) (fun a ha => pNamed hN _ ?_) (fun a ha => pPlain hP _ ?_)) (wFines hP hN hA hF hFs _ (by omega))
  · have := wtA_mem ha; unfold Attr.wt at this; omega
  · have := wtA_mem ha; unfold Attr.wt at this; omega
end
end Go.Am

/- A tree is put behind a document's nodes. -/
namespace Go.Am
open Go Go.RowKit
/-- The loop over the kids. -/
structure PutS (x : Tree) where
  i : Nat
  L : Lb
  u : Lb → Bool
  hi : i ≤ x.kids.length
  l0 : L ≠ .par 0
  l8 : L ≠ .loc 8
  l10 : L ≠ .loc 10
  l47 : L ≠ .loc 47
  lg : ∀ j, i ≤ j → L ≠ .gen (1000 + j)
  u10 : u (.loc 10) = false
  u47 : u (.loc 47) = false
  ug : ∀ j, i ≤ j → u (.gen (1000 + j)) = false
end Go.Am

/- THE ABSTRACT MACHINE, part 35: an empty slice in a cell, owned. -/
namespace Go.Am
open Go Go.RowKit
theorem mem_lbss {p : Lb} : ∀ {ds : List AV}, p ∈ lbss ds → ∃ y ∈ ds, p ∈ y.lbs
  | [], h => by simp [lbss] at h
  | y :: r, h => by
    simp only [lbss, List.mem_append] at h
    rcases h with h | h
    · exact ⟨y, by simp, h⟩
    · obtain ⟨z, hz, hp⟩ := mem_lbss h
      exact ⟨z, by simp [hz], hp⟩
/-- A cell that holds an empty slice: it may be seen as a list of one's own. -/
theorem weaker_ownc {S : St} {env : Env} {H : Hp} {q : Lb} {cs : List AV} {j d sz : Nat} (g1 : H q = .live ⟨cs.length, [cs]⟩) (g2 : cs[j]? = some .nil0) (g3 : H (.loc d) = .unused) (g4 : 0 < sz) :
    Weaker S env H env (upd (upd H (.loc d) (.live ⟨sz, []⟩)) q (.live ⟨cs.length, [cs.set j (.sl (.loc d) sz 0 0)]⟩)) := by
  intro K β a w hKS hS hr
  have hk := hr.addRow (.loc d) g3 (r := ⟨sz, []⟩) (Below.refl _ _) none (by simp) (by simp) ⟨g4, by simp, by simp⟩
  have hqd : q ≠ .loc d := by rintro rfl; rw [g1] at g3; cases g3
  have hq : upd H (.loc d) (.live ⟨sz, []⟩) q = .live ⟨cs.length, [cs]⟩ := by rw [upd_ne _ _ hqd]; exact g1
  have hsz : 0 < cs.length := (hr.rows q _ g1).1
  have hbq : upd β (.loc d) none q = β q := upd_ne _ _ hqd
  cases hb : β q with
  | none =>
    have := (hr.rows q _ g1).2.2
    simp [hb] at this
  | some g =>
    obtain ⟨cur, e0, cap, k1, k2, k3, k4, k5⟩ := (hk.rows q _ hq).block (hbq.trans hb)
    have hjl : j < cs.length := (List.getElem?_eq_some_iff.1 g2).1
    have hset := hk.setRow q (r' := ⟨cs.length, [cs.set j (.sl (.loc d) sz 0 0)]⟩) (cur' := cur) (cap := cap) hq (hbq.trans hb) k1 rfl rfl k2 k3 (by simpa using k4) (by simp)
      (by
        intro ds hds p hp
        simp at hds; subst hds
        obtain ⟨y, hy, hpy⟩ := mem_lbss hp
        rcases List.mem_or_eq_of_mem_set hy with hy | rfl
        · obtain ⟨m, hm⟩ := List.getElem?_of_mem hy
          exact hk.rment q _ hq cs (by simp) p (lbss_get _ _ _ hm p hpy)
        · simp only [AV.lbs, List.mem_singleton] at hpy
          subst hpy; simp)
      (by
        intro i' j' ds x0 hi' hj'
        cases i' with
        | succ i' => simp at hi'
        | zero =>
          simp at hi'; subst hi'
          by_cases e : j' = j
          · subst e
            rw [List.getElem?_set_self hjl] at hj'
            cases hj'
            obtain ⟨v, q1, q2⟩ := k5 0 j' cs _ (by simp) g2
            simp only [RV] at q2
            obtain ⟨ad, rfl⟩ := q2
            refine ⟨_, q1, ?_⟩
            simp only [RV]
            exact ⟨ad, 0, rfl, Nat.le_refl _, by simp [maxLen], by simp, fun _ => .inl rfl⟩
          · rw [List.getElem?_set_ne (Ne.symm e)] at hj'
            exact k5 0 j' cs x0 (by simp) hj')
    have hsame : w.setRow g cur = w := setRow_self w g cur e0 (0, 0) k1
    rw [hsame] at hset
    exact ⟨_, hset⟩
section
variable {env : Env} {H : Hp}
end
end Go.Am

/- Documents: what lies where. -/
namespace Go.Am
open Go Go.RowKit
/-- The tree y lies at n, its parent being q, in the tree t that lies at off. -/
inductive Sub : Nat → Int → Tree → Nat → Int → Tree → Prop
  | self (off : Nat) (p : Int) (t : Tree) : Sub off p t off p t
  | kid {off : Nat} {p : Int} {t : Tree} {n : Nat} {q : Int} {y : Tree} (a b : List Tree) (k : Tree) : t.kids = a ++ k :: b → Sub (off + 1 + cntT a) off k n q y → Sub off p t n q y
def Lies (d : Doc) (n : Nat) (q : Int) (y : Tree) : Prop := ∃ post, d.drop n = y.flat n q ++ post
theorem Sub.rng {off : Nat} {p : Int} {t : Tree} {n : Nat} {q : Int} {y : Tree} (h : Sub off p t n q y) : off ≤ n ∧ n + y.cnt ≤ off + t.cnt := by
  induction h with
  | self => exact ⟨Nat.le_refl _, Nat.le_refl _⟩
  | @kid off p t n q y a b k hk _ ih =>
    have h1 := t.cnt_eq
    rw [hk, cntT_app] at h1
    simp only [cntT] at h1
    omega
theorem drop_app {α : Type} {a b c : List α} {n : Nat} (h : a.length = n) : (a ++ b).drop n = b := by subst h; simp
theorem Sub.lies {off : Nat} {p : Int} {t : Tree} {n : Nat} {q : Int} {y : Tree} (h : Sub off p t n q y) : ∀ d : Doc, Lies d off p t → Lies d n q y := by
  induction h with
  | self => exact fun _ h => h
  | @kid off p t n q y a b k hk _ ih =>
    rintro d ⟨post, h⟩
    refine ih d ⟨flats (off + 1 + cntT a + k.cnt) off b ++ post, ?_⟩
    rw [t.flat_eq, hk] at h
    have h2 := (drop_mem h).2
    rw [flats_app] at h2
    have h3 : d.drop (off + 1) = flats (off + 1) off a ++ (flats (off + 1 + cntT a) off (k :: b) ++ post) := by rw [h2]; exact List.append_assoc _ _ _
    rw [← List.drop_drop, h3, drop_app (c := []) (flats_len _ _ _)]
    simp [flats]
theorem Sub.parent {off : Nat} {p : Int} {t : Tree} {n : Nat} {q : Int} {y : Tree} (h : Sub off p t n q y) :
    (n = off ∧ q = p ∧ y = t) ∨ ∃ (m : Nat) (z : Tree) (r : Int), q = (m : Int) ∧ Sub off p t m r z ∧ m < n ∧ n + y.cnt ≤ m + z.cnt ∧ y ∈ z.kids ∧ off ≤ m := by
  induction h with
  | self => exact .inl ⟨rfl, rfl, rfl⟩
  | @kid off p t n q y a b k hk hs ih =>
    right
    rcases ih with ⟨rfl, rfl, rfl⟩ | ⟨m, z, r, e1, e2, e3, e4, e5, e6⟩
    · have h1 := t.cnt_eq
      rw [hk, cntT_app] at h1
      simp only [cntT] at h1
      exact ⟨off, t, p, rfl, .self _ _ _, by omega, by omega, by rw [hk]; simp, Nat.le_refl _⟩
    · exact ⟨m, z, r, e1, .kid a b k hk e2, e3, e4, e5, by omega⟩
theorem Sub.trans {off : Nat} {p : Int} {t : Tree} {n : Nat} {q : Int} {y : Tree} (h : Sub off p t n q y) {m : Nat} {r : Int} {z : Tree} (h2 : Sub n q y m r z) : Sub off p t m r z := by
  induction h with
  | self => exact h2
  | kid a b k hk _ ih => exact .kid a b k hk (ih h2)
/-- Some tree lies at each place. -/
theorem sub_all : ∀ (sz : Nat) (t : Tree) (off : Nat) (p : Int) (n : Nat), t.cnt ≤ sz → off ≤ n → n < off + t.cnt → ∃ q y, Sub off p t n q y := by
  intro sz
  induction sz with
  | zero => intro t off p n h; have := t.cnt_pos; omega
  | succ sz ih =>
    intro t off p n h h1 h2
    by_cases e : n = off
    · subst e; exact ⟨_, _, .self _ _ _⟩
    · have key : ∀ (ks a : List Tree), t.kids = a ++ ks → off + 1 + cntT a ≤ n → n < off + 1 + cntT a + cntT ks → ∃ q y, Sub off p t n q y := by
        intro ks
        induction ks with
        | nil => intro a _ h3 h4; simp [cntT] at h4; omega
        | cons k ks ihk =>
          intro a hk h3 h4
          by_cases hlt : n < off + 1 + cntT a + k.cnt
          · have hc := t.cnt_eq
            rw [hk, cntT_app] at hc
            simp only [cntT] at hc
            obtain ⟨q, y, hs⟩ := ih k (off + 1 + cntT a) off n (by omega) h3 hlt
            exact ⟨q, y, .kid a ks k hk hs⟩
          · simp only [cntT] at h4
            refine ihk (a ++ [k]) (by rw [hk]; simp) ?_ ?_
            · rw [cntT_app]; simp only [cntT]; omega
            · rw [cntT_app]; simp only [cntT]; omega
      refine key t.kids [] rfl ?_ ?_
      · simp [cntT]; omega
      · have := t.cnt_eq; simp [cntT]; omega
theorem Lies.node {d : Doc} {n : Nat} {q : Int} {y : Tree} (h : Lies d n q y) : d[n]? = some (y.node n q) := by
  obtain ⟨post, h⟩ := h
  rw [y.flat_eq] at h
  exact (drop_mem h).1
theorem Lies.len {d : Doc} {n : Nat} {q : Int} {y : Tree} (h : Lies d n q y) : n + y.cnt ≤ d.length := by
  obtain ⟨post, h⟩ := h
  have := congrArg List.length h
  rw [List.length_drop, List.length_append, y.flat_len] at this
  have := y.cnt_pos
  omega
theorem Lies.kid {d : Doc} {n : Nat} {q : Int} {y : Tree} (h : Lies d n q y) (a b : List Tree) (k : Tree) (hk : y.kids = a ++ k :: b) : Lies d (n + 1 + cntT a) n k :=
  (Sub.kid (off := n) (p := q) a b k hk (.self _ _ _)).lies d h
theorem lies_doc {t : Tree} {n : Nat} (h : n < (docOf t).length) : ∃ q y, Lies (docOf t) n q y ∧ Sub 0 (-1) t n q y := by
  rw [docOf_len] at h
  obtain ⟨q, y, hs⟩ := sub_all t.cnt t 0 (-1) n (Nat.le_refl _) (Nat.zero_le _) (by omega)
  exact ⟨q, y, hs.lies _ ⟨[], by simp [docOf]⟩, hs⟩
theorem fines_mem : ∀ {p : Option Bool} {l : List Tree}, fines p l = true → ∀ x ∈ l, x.fine = true
  | _, [], _, x, hx => by simp at hx
  | p, y :: r, h, x, hx => by
    simp only [fines, Bool.and_eq_true] at h
    simp only [List.mem_cons] at hx
    rcases hx with rfl | hx
    · exact h.1
    · exact fines_mem h.2.2 x hx
theorem Tree.fine_kids {x : Tree} (h : x.fine = true) : fines none x.kids = true := by
  cases ht : x.text with
  | true =>
    rw [x.fine_t ht] at h
    simp only [Bool.and_eq_true, beq_iff_eq, List.length_eq_zero_iff] at h
    rw [h.2.2.2]; rfl
  | false =>
    rw [x.fine_e ht] at h
    simp only [Bool.and_eq_true] at h
    exact h.2.2
theorem Sub.fine {off : Nat} {p : Int} {t : Tree} {n : Nat} {q : Int} {y : Tree} (h : Sub off p t n q y) : t.fine = true → y.fine = true := by
  induction h with
  | self => exact id
  | kid a b k hk _ ih => exact fun h => ih (fines_mem (Tree.fine_kids h) k (by rw [hk]; simp))
theorem Tree.fine_text {x : Tree} (h : x.fine = true) (ht : x.text = true) : x.kids = [] ∧ x.attrs = [] ∧ x.s ≠ [] := by
  rw [x.fine_t ht] at h
  simp only [Bool.and_eq_true, beq_iff_eq, List.length_eq_zero_iff, bne_iff_ne] at h
  exact ⟨h.2.2.2, h.2.2.1, h.2.1⟩
end Go.Am

/- Trees, level by level; how a document is made by a stack. -/
namespace Go.Am
open Go Go.RowKit
def posits : Nat → List (Tree × Int) → List (Nat × Int)
  | _, [] => []
  | n, (t, p) :: r => (n, p) :: posits (n + t.cnt) r
def kidsOf (j : Int) (ps : List (Nat × Int)) : List Int := (ps.filter fun x => x.2 == j).map fun x => (x.1 : Int)
def flatsI : Nat → List (Tree × Int) → List Node
  | _, [] => []
  | n, (t, p) :: r => t.flat n p ++ flatsI (n + t.cnt) r
/-- Nodes that stand there already, with the kids that are still to come. -/
def fill (ps : List (Nat × Int)) : Nat → List Node → List Node
  | _, [] => []
  | j, x :: r => { x with kids := x.kids ++ kidsOf j ps } :: fill ps (j + 1) r
def whole (d : List Node) (l : List (Tree × Int)) : List Node := fill (posits d.length l) 0 d ++ flatsI d.length l
end Go.Am

/- Documents, by who has which parent. -/
namespace Go.Am
open Go Go.RowKit
/-- The places, from j on, of those whose parent is m. -/
def parPos (m : Int) : Nat → List Node → List Nat
  | _, [] => []
  | j, x :: r => (if x.parent = m then [j] else []) ++ parPos m (j + 1) r
theorem parPos_app (m : Int) : ∀ (j : Nat) (a b : List Node), parPos m j (a ++ b) = parPos m j a ++ parPos m (j + a.length) b
  | j, [], b => by simp [parPos]
  | j, x :: a, b => by simp only [List.cons_append, parPos, parPos_app m (j + 1) a b, List.length_cons, List.append_assoc, Nat.add_comm 1, Nat.add_assoc]
mutual
theorem Tree.par_out (off : Nat) (p m : Int) : ∀ x : Tree, (m < off ∨ (off + x.cnt : Nat) ≤ m) → parPos m off (x.flat off p) = if p = m then [off] else []
  | .mk t s as ks, h => by
    simp only [Tree.flat, parPos]
    simp only [Tree.cnt] at h
    rw [pars_out (off + 1) off m ks (by omega) (by omega)]; simp
theorem pars_out (off p : Nat) (m : Int) : ∀ xs : List Tree, (m < off ∨ (off + cntT xs : Nat) ≤ m) → (p : Int) ≠ m → parPos m off (flats off p xs) = []
  | [], _, _ => rfl
  | k :: r, h, hp => by
    simp only [cntT] at h
    simp only [flats, parPos_app, k.flat_len]
    rw [k.par_out off p m (by omega), pars_out (off + k.cnt) p m r (by omega) hp, if_neg hp]; rfl
end
def kidsN (off : Nat) : List Tree → List Nat
  | [] => []
  | k :: r => off :: kidsN (off + k.cnt) r
theorem kidsN_int : ∀ (off : Nat) (xs : List Tree), (kidsN off xs).map (fun k : Nat => (k : Int)) = kidsAt off xs
  | _, [] => rfl
  | off, k :: r => by simp [kidsN, kidsAt, kidsN_int _ r]
theorem pars_kids (off p : Nat) : ∀ xs : List Tree, p < off → parPos p off (flats off p xs) = kidsN off xs
  | [], _ => rfl
  | k :: r, h => by
    simp only [flats, parPos_app, k.flat_len, kidsN]
    rw [k.par_out off p p (by omega), pars_kids (off + k.cnt) p r (by omega)]; simp
theorem Sub.pars {off : Nat} {p : Int} {t : Tree} {n : Nat} {q : Int} {y : Tree} (h : Sub off p t n q y) : p < off → parPos n off (t.flat off p) = kidsN (n + 1) y.kids := by
  induction h with
  | self off p t =>
    intro hp
    rw [t.flat_eq]
    simp only [parPos]
    rw [if_neg (show ¬ (t.node off p).parent = (off : Int) by show ¬ p = (off : Int); omega), pars_kids (off + 1) off t.kids (by omega)]; rfl
  | @kid off p t n q y a b k hk hs ih =>
    intro hp
    have hr := hs.rng
    have h1 := t.cnt_eq
    rw [hk, cntT_app] at h1
    simp only [cntT] at h1
    have hy := y.cnt_pos
    rw [t.flat_eq, hk, flats_app]
    simp only [parPos, parPos_app, flats_len, flats, k.flat_len]
    rw [if_neg (show ¬ (t.node off p).parent = (n : Int) by show ¬ p = (n : Int); omega), pars_out (off + 1) off n a (by omega) (by omega), ih (by omega), pars_out (off + 1 + cntT a + k.cnt) off n b (by omega) (by omega)]; simp
theorem doc_pars {t : Tree} {n : Nat} {q : Int} {y : Tree} (h : Sub 0 (-1) t n q y) : parPos n 0 (docOf t) = kidsN (n + 1) y.kids := h.pars (by omega)
theorem kidsN_ge : ∀ (off : Nat) (xs : List Tree), ∀ k ∈ kidsN off xs, off ≤ k
  | _, [], k, h => by simp [kidsN] at h
  | off, x :: r, k, h => by
    simp only [kidsN, List.mem_cons] at h
    rcases h with rfl | h
    · exact Nat.le_refl _
    · have := kidsN_ge _ r k h; omega
end Go.Am

/- Documents: made; walked; the trees in them. -/
namespace Go.Am
open Go Go.RowKit
def Doc.av (d : Doc) : AV := .agg [.list (d.map Node.iv)]
section
variable {P : Program} {G : Nat → Option (List IV)}
end
def c_doc_walk (f_doc_walk : Nat) : AC :=
(.seq (.reg [⟨(some 5), none, (.box (.t 0))⟩, ⟨(some 10), none, (.mov (.c (.bool false)))⟩]) (.seq (.seq (.reg [⟨(some 13), none, (.mov (.t 1))⟩, ⟨(some 14), none, (.mov (.t 4))⟩, ⟨(some 15), none, (.nchk (.t 14))⟩, ⟨(some 16), none, (.load none (.t 15))⟩, ⟨(some 17), none, (.bin .neq (.t 13) (.t 16))⟩, ⟨(some 18), none, (.mov (.t 17))⟩, ⟨(some 19), (some (18, false)), (.mov (.t 1))⟩, ⟨(some 20), (some (18, false)), (.fld (.t 5) 0)⟩, ⟨(some 21), (some (18, false)), (.load none (.t 20))⟩, ⟨(some 22), (some (18, false)), (.len (.t 21))⟩, ⟨(some 23), (some (18, false)), (.bin .geq (.t 19) (.t 22))⟩, ⟨(some 24), none, (.pick (.t 18) (.c (.bool true)) (.t 23))⟩, ⟨(some 25), none, (.mov (.t 24))⟩, ⟨(some 26), (some (25, false)), (.fld (.t 5) 0)⟩, ⟨(some 27), (some (25, false)), (.load none (.t 26))⟩, ⟨(some 28), (some (25, false)), (.mov (.t 1))⟩, ⟨(some 29), (some (25, false)), (.ixa (.t 27) (.t 28) 5)⟩, ⟨(some 30), (some (25, false)), (.fld (.t 29) 3)⟩, ⟨(some 31), (some (25, false)), (.load none (.t 30))⟩, ⟨(some 32), (some (25, false)), (.mov (.t 2))⟩, ⟨(some 33), (some (25, false)), (.bin .neq (.t 31) (.t 32))⟩, ⟨(some 34), none, (.pick (.t 25) (.c (.bool true)) (.t 33))⟩, ⟨(some 35), none, (.mov (.t 34))⟩, ⟨(some 36), (some (35, false)), (.mov (.t 3))⟩, ⟨(some 37), (some (35, false)), (.bin .gtr (.t 36) (.c (.int .i64 8)))⟩, ⟨(some 38), none, (.pick (.t 35) (.c (.bool true)) (.t 37))⟩]) (.cond (.t 38) (.seq (.reg [⟨(some 10), none, (.mov (.c (.bool false)))⟩]) .ret) .skip)) (.seq (.reg [⟨(some 39), none, (.mov (.t 4))⟩, ⟨(some 40), none, (.nchk (.t 39))⟩, ⟨(some 41), none, (.load none (.t 40))⟩, ⟨(some 42), none, (.bin .add (.t 41) (.c (.int .i64 1)))⟩, ⟨(some 43), none, (.nchk (.t 39))⟩, ⟨none, none, (.store 1 (.t 43) (.t 42))⟩]) (.seq (.seq (.reg [⟨(some 44), none, (.fld (.t 5) 0)⟩, ⟨(some 45), none, (.load none (.t 44))⟩, ⟨(some 46), none, (.mov (.t 1))⟩, ⟨(some 47), none, (.ixa (.t 45) (.t 46) 5)⟩, ⟨(some 48), none, (.fld (.t 47) 4)⟩, ⟨(some 49), none, (.load none (.t 48))⟩, ⟨(some 50), none, (.len (.t 49))⟩, ⟨(some 51), none, (.mov (.c (.int .i64 0)))⟩]) (.block 0 (.loop (.seq (.reg [⟨(some 52), none, (.bin .lss (.t 51) (.t 50))⟩]) (.seq (.cond (.t 52) .skip (.exit 0)) (.seq (.block 1 (.seq (.reg [⟨(some 53), none, (.ixa (.t 49) (.t 51) 1)⟩, ⟨(some 54), none, (.load none (.t 53))⟩, ⟨(some 12), none, (.mov (.t 54))⟩]) (.seq (.reg [⟨(some 55), none, (.load (some 1) (.t 5))⟩, ⟨(some 56), none, (.mov (.t 12))⟩, ⟨(some 57), none, (.mov (.t 1))⟩, ⟨(some 58), none, (.mov (.t 3))⟩, ⟨(some 59), none, (.bin .add (.t 58) (.c (.int .i64 1)))⟩, ⟨(some 60), none, (.mov (.t 4))⟩, ⟨(some 61), none, (.call f_doc_walk [(.t 55), (.t 56), (.t 57), (.t 59), (.t 60)])⟩, ⟨(some 62), none, (.not (.t 61))⟩]) (.cond (.t 62) (.seq (.reg [⟨(some 10), none, (.mov (.c (.bool false)))⟩]) .ret) .skip)))) (.reg [⟨(some 63), none, (.bin .add (.t 51) (.c (.int .i64 1)))⟩, ⟨(some 51), none, (.mov (.t 63))⟩]))))))) (.seq (.reg [⟨(some 10), none, (.mov (.c (.bool true)))⟩]) .ret)))))
theorem wk_step {d : Doc} {f : Nat} {n p nx : Int} {x : Node} (hn : n = nx) (hx : d[n.toNat]? = some x) (hp : x.parent = p) : wk d (f + 1) n p nx = x.kids.foldlM (fun q k => wk d f k n q) (nx + 1) := by
  rw [wk, if_pos hn, hx]; simp [hp]
theorem wk_bound {d : Doc} : ∀ {f : Nat} {n p nx v : Int}, 0 ≤ nx → wk d f n p nx = some v → nx < v ∧ v ≤ d.length := by
  intro f n p nx v h0 h
  have hn : n = nx := by
    cases f with
    | zero => simp [wk] at h
    | succ f => rw [wk] at h; split at h; assumption; simp at h
  obtain ⟨m, rfl⟩ : ∃ m : Nat, nx = m := ⟨nx.toNat, by omega⟩
  obtain ⟨_, x, _, ⟨post, h2⟩, rfl⟩ := wk_some d f m n p v h
  have hc := x.cnt_pos
  have := congrArg List.length h2
  rw [List.length_drop, List.length_append, x.flat_len] at this
  omega
theorem Doc.get_iv {d : Doc} {n : Nat} {x : Node} (h : d[n]? = some x) : (d.map Node.iv)[n]? = some x.iv := by rw [List.getElem?_map, h]; rfl
theorem intGet (l : List Int) (i : Nat) : (l.map intIV)[i]? = (l[i]?).map intIV := List.getElem?_map ..
theorem wk_ne {d : Doc} {f : Nat} {n p nx : Int} (h : n ≠ nx) : wk d f n p nx = none := by
  cases f with
  | zero => rfl
  | succ f => rw [wk, if_neg h]
theorem wk_out {d : Doc} {f : Nat} {n p nx : Int} (h : d[n.toNat]? = none) : wk d f n p nx = none := by
  cases f with
  | zero => rfl
  | succ f => rw [wk, h]; simp
theorem wk_par {d : Doc} {f : Nat} {n p nx : Int} {x : Node} (h : d[n.toNat]? = some x) (hp : x.parent ≠ p) : wk d f n p nx = none := by
  cases f with
  | zero => rfl
  | succ f => rw [wk, h]; simp [hp]
theorem pWalk {P : Program} {G : Nat → Option (List IV)} {f_doc_walk : Nat} (hF : compF P G f_doc_walk = some (64, [(none, 10)], (c_doc_walk f_doc_walk).bare)) (d : Doc) (hd : d.length ≤ B) (hk : ∀ x ∈ d, x.kids.length ≤ B) : ∀ (f : Nat) (n p nx : Int), f ≤ 8 → 0 ≤ nx → nx ≤ B →
    MutC P G f_doc_walk [Doc.av d, .int .i64 n, .int .i64 p, .int .i64 (9 - (f : Int)), .ptr (.par 0) 1 0 0] [.int .i64 nx] fun x cs => ∃ v, x = .bool (wk d f n p nx).isSome ∧ cs = [.int .i64 v] ∧ ∀ r, wk d f n p nx = some r → v = r := by
  intro f
  induction f with
  | zero =>
    intro n p nx hf h0 hB
    refine mut_of_go hF (by simp) (by simp [lbss, AV.lbs, Doc.av]) (by simp [lbss, AV.lbs]) ?_
    unfold c_doc_walk
    have hd9 : decide ((9 : Int) - ((0 : Nat) : Int) > 8) = true := by decide
    simp only [↓aX, evp, evq, evl, boxK, stillV, binV, AV.cells, mP, loadV, storeV, ldV, AV.stb, AV.one, IV.av1, Lb.app, Lb.fresh, reduceCtorEq, ptrL, appL, fillA, chunks, ivs, AV.iv, mkE, if_false, if_true, List.not_mem_nil, forall_eq, beq_self_eq_true, List.isEmpty_nil, Nat.reduceEqDiff, Nat.reduceLT, Nat.reduceLeDiff, Nat.reduceAdd, Nat.reduceMul, Int.reduceToNat, Int.reduceLE, Int.reduceLT, Doc.av, row1]
    cases h1 : (n != nx) with
    | true =>
      simp only [↓aX, evp, evq, evl, boxK, stillV, binV, AV.cells, mP, loadV, storeV, ldV, AV.stb, AV.one, IV.av1, Lb.app, Lb.fresh, reduceCtorEq, ptrL, appL, fillA, chunks, ivs, AV.iv, mkE, if_false, if_true, List.not_mem_nil, forall_eq, beq_self_eq_true, List.isEmpty_nil, Nat.reduceEqDiff, Nat.reduceLT, Nat.reduceLeDiff, Nat.reduceAdd, Nat.reduceMul, Int.reduceToNat, Int.reduceLE, Int.reduceLT]
      exact ⟨_, ⟨nx, rfl, rfl, by simp [wk]⟩, rfl, rfl, rfl, rfl⟩
    | false =>
      have : n = nx := by simpa using h1
      subst this
      obtain ⟨m, rfl⟩ : ∃ m : Nat, n = m := ⟨n.toNat, by omega⟩
      cases hx : d[m]? with
      | none =>
        have hge : decide ((m : Int) ≥ (d.length : Int)) = true := by
          have := List.getElem?_eq_none_iff.1 hx
          simp; omega
        simp only [↓aX, evp, evq, evl, boxK, stillV, binV, AV.cells, mP, loadV, storeV, ldV, AV.stb, AV.one, IV.av1, Lb.app, Lb.fresh, reduceCtorEq, ptrL, appL, fillA, chunks, ivs, AV.iv, mkE, if_false, if_true, List.not_mem_nil, forall_eq, beq_self_eq_true, List.isEmpty_nil, Nat.reduceEqDiff, Nat.reduceLT, Nat.reduceLeDiff, Nat.reduceAdd, Nat.reduceMul, Int.reduceToNat, Int.reduceLE, Int.reduceLT, List.length_map, hge]
        exact ⟨_, ⟨m, rfl, rfl, by simp [wk]⟩, rfl, rfl, rfl, rfl⟩
      | some x =>
        have hlt := (List.getElem?_eq_some_iff.1 hx).1
        have hge : decide ((m : Int) ≥ (d.length : Int)) = false := by simp; omega
        simp only [↓aX, evp, evq, evl, boxK, stillV, binV, AV.cells, mP, loadV, storeV, ldV, AV.stb, AV.one, IV.av1, Lb.app, Lb.fresh, reduceCtorEq, ptrL, appL, fillA, chunks, ivs, AV.iv, mkE, if_false, if_true, List.not_mem_nil, forall_eq, beq_self_eq_true, List.isEmpty_nil, Nat.reduceEqDiff, Nat.reduceLT, Nat.reduceLeDiff, Nat.reduceAdd, Nat.reduceMul, Int.reduceToNat, Int.reduceLE, Int.reduceLT, List.length_map, hge, Doc.get_iv hx, elszN, Node.cells_eq, Node.cs]
        cases h2 : (x.parent != p) with
        | true =>
          simp only [↓aX, evp, evq, evl, boxK, stillV, binV, AV.cells, mP, loadV, storeV, ldV, AV.stb, AV.one, IV.av1, Lb.app, Lb.fresh, reduceCtorEq, ptrL, appL, fillA, chunks, ivs, AV.iv, mkE, if_false, if_true, List.not_mem_nil, forall_eq, beq_self_eq_true, List.isEmpty_nil, Nat.reduceEqDiff, Nat.reduceLT, Nat.reduceLeDiff, Nat.reduceAdd, Nat.reduceMul, Int.reduceToNat, Int.reduceLE, Int.reduceLT]
          exact ⟨_, ⟨m, rfl, rfl, by simp [wk]⟩, rfl, rfl, rfl, rfl⟩
        | false =>
          simp only [↓aX, evp, evq, evl, boxK, stillV, binV, AV.cells, mP, loadV, storeV, ldV, AV.stb, AV.one, IV.av1, Lb.app, Lb.fresh, reduceCtorEq, ptrL, appL, fillA, chunks, ivs, AV.iv, mkE, if_false, if_true, List.not_mem_nil, forall_eq, beq_self_eq_true, List.isEmpty_nil, Nat.reduceEqDiff, Nat.reduceLT, Nat.reduceLeDiff, Nat.reduceAdd, Nat.reduceMul, Int.reduceToNat, Int.reduceLE, Int.reduceLT, hd9]
          exact ⟨_, ⟨m, rfl, rfl, by simp [wk]⟩, rfl, rfl, rfl, rfl⟩
  | succ f ih =>
    intro n p nx hf h0 hB
    refine mut_of_go hF (by simp) (by simp [lbss, AV.lbs, Doc.av]) (by simp [lbss, AV.lbs]) ?_
    unfold c_doc_walk
    have hd9 : decide ((9 : Int) - ((f + 1 : Nat) : Int) > 8) = false := by simp; omega
    have hw9 : IntKind.i64.wrap ((9 : Int) - ((f + 1 : Nat) : Int) + 1) = 9 - (f : Int) := by rw [wrap64 (by omega) (by omega)]; omega
    simp only [↓aX, evp, evq, evl, boxK, stillV, binV, AV.cells, mP, loadV, storeV, ldV, AV.stb, AV.one, IV.av1, Lb.app, Lb.fresh, reduceCtorEq, ptrL, appL, fillA, chunks, ivs, AV.iv, mkE, if_false, if_true, List.not_mem_nil, forall_eq, beq_self_eq_true, List.isEmpty_nil, Nat.reduceEqDiff, Nat.reduceLT, Nat.reduceLeDiff, Nat.reduceAdd, Nat.reduceMul, Int.reduceToNat, Int.reduceLE, Int.reduceLT, Doc.av, row1]
    cases h1 : (n != nx) with
    | true =>
      have h1' : n ≠ nx := by simpa using h1
      simp only [↓aX, evp, evq, evl, boxK, stillV, binV, AV.cells, mP, loadV, storeV, ldV, AV.stb, AV.one, IV.av1, Lb.app, Lb.fresh, reduceCtorEq, ptrL, appL, fillA, chunks, ivs, AV.iv, mkE, if_false, if_true, List.not_mem_nil, forall_eq, beq_self_eq_true, List.isEmpty_nil, Nat.reduceEqDiff, Nat.reduceLT, Nat.reduceLeDiff, Nat.reduceAdd, Nat.reduceMul, Int.reduceToNat, Int.reduceLE, Int.reduceLT]
      exact ⟨_, ⟨nx, by rw [wk_ne h1']; rfl, rfl, by rw [wk_ne h1']; simp⟩, rfl, rfl, rfl, rfl⟩
    | false =>
      have : n = nx := by simpa using h1
      subst this
      obtain ⟨m, rfl⟩ : ∃ m : Nat, n = m := ⟨n.toNat, by omega⟩
      cases hx : d[m]? with
      | none =>
        have hge : decide ((m : Int) ≥ (d.length : Int)) = true := by
          have := List.getElem?_eq_none_iff.1 hx
          simp; omega
        have hwk : wk d (f + 1) (m : Int) p (m : Int) = none := wk_out (by simpa using hx)
        simp only [↓aX, evp, evq, evl, boxK, stillV, binV, AV.cells, mP, loadV, storeV, ldV, AV.stb, AV.one, IV.av1, Lb.app, Lb.fresh, reduceCtorEq, ptrL, appL, fillA, chunks, ivs, AV.iv, mkE, if_false, if_true, List.not_mem_nil, forall_eq, beq_self_eq_true, List.isEmpty_nil, Nat.reduceEqDiff, Nat.reduceLT, Nat.reduceLeDiff, Nat.reduceAdd, Nat.reduceMul, Int.reduceToNat, Int.reduceLE, Int.reduceLT, List.length_map, hge]
        exact ⟨_, ⟨m, by rw [hwk]; rfl, rfl, by rw [hwk]; simp⟩, rfl, rfl, rfl, rfl⟩
      | some x =>
        have hlt := (List.getElem?_eq_some_iff.1 hx).1
        have hge : decide ((m : Int) ≥ (d.length : Int)) = false := by simp; omega
        have hxk := hk x (List.mem_of_getElem? hx)
        have hwm : IntKind.i64.wrap ((m : Int) + 1) = (m : Int) + 1 := wrap64 (by omega) (by unfold B at hd; omega)
        simp only [↓aX, evp, evq, evl, boxK, stillV, binV, AV.cells, mP, loadV, storeV, ldV, AV.stb, AV.one, IV.av1, Lb.app, Lb.fresh, reduceCtorEq, ptrL, appL, fillA, chunks, ivs, AV.iv, mkE, if_false, if_true, List.not_mem_nil, forall_eq, beq_self_eq_true, List.isEmpty_nil, Nat.reduceEqDiff, Nat.reduceLT, Nat.reduceLeDiff, Nat.reduceAdd, Nat.reduceMul, Int.reduceToNat, Int.reduceLE, Int.reduceLT, List.length_map, hge, Doc.get_iv hx, elszN, Node.cells_eq, Node.cs]
        cases h2 : (x.parent != p) with
        | true =>
          have hwk : wk d (f + 1) (m : Int) p (m : Int) = none := wk_par (by simpa using hx) (by simpa using h2)
          simp only [↓aX, evp, evq, evl, boxK, stillV, binV, AV.cells, mP, loadV, storeV, ldV, AV.stb, AV.one, IV.av1, Lb.app, Lb.fresh, reduceCtorEq, ptrL, appL, fillA, chunks, ivs, AV.iv, mkE, if_false, if_true, List.not_mem_nil, forall_eq, beq_self_eq_true, List.isEmpty_nil, Nat.reduceEqDiff, Nat.reduceLT, Nat.reduceLeDiff, Nat.reduceAdd, Nat.reduceMul, Int.reduceToNat, Int.reduceLE, Int.reduceLT]
          exact ⟨_, ⟨m, by rw [hwk]; rfl, rfl, by rw [hwk]; simp⟩, rfl, rfl, rfl, rfl⟩
        | false =>
          have hp : x.parent = p := by simpa using h2
          have hst := wk_step (d := d) (f := f) (n := m) (nx := m) rfl (by simpa using hx) hp
          simp only [↓aX, evp, evq, evl, boxK, stillV, binV, AV.cells, mP, loadV, storeV, ldV, AV.stb, AV.one, IV.av1, Lb.app, Lb.fresh, reduceCtorEq, ptrL, appL, fillA, chunks, ivs, AV.iv, mkE, if_false, if_true, List.not_mem_nil, forall_eq, beq_self_eq_true, List.isEmpty_nil, Nat.reduceEqDiff, Nat.reduceLT, Nat.reduceLeDiff, Nat.reduceAdd, Nat.reduceMul, Int.reduceToNat, Int.reduceLE, Int.reduceLT, hd9, hwm, List.length_map, Doc.get_iv hx, elszN, Node.cells_eq, Node.cs]
          refine loop_same (σ := { q : Nat × Int // q.1 ≤ x.kids.length ∧ 0 ≤ q.2 ∧ q.2 ≤ d.length ∧ wk d (f + 1) (m : Int) p (m : Int) = (x.kids.drop q.1).foldlM (fun q k => wk d f k (m : Int) q) q.2 }) [.par 0, .loc 5]
            (fun q => [(1, .int .i64 m), (3, .int .i64 (9 - ((f + 1 : Nat) : Int))), (4, .ptr (.par 0) 1 0 0), (5, .ptr (.loc 5) 1 0 0), (49, .list (x.kids.map intIV)), (50, .int .i64 x.kids.length), (51, .int .i64 q.1.1)])
            (fun q => [(.par 0, ⟨1, [[.int .i64 q.1.2]]⟩), (.loc 5, ⟨1, [[.list (d.map Node.iv)]]⟩)]) (fun q => x.kids.length - q.1.1) ⟨(0, (m : Int) + 1), by simp, by simp only; omega, by simp only; omega, by rw [hst]; rfl⟩
            (fun _ => rfl) (by decide) (by simp [lbss, AV.lbs]) (by simp [lbss, AV.lbs]) ?_ ?_
          · refine WS_mk ?_ (by repeat' constructor) (by repeat' constructor)
            intro l hl hu
            by_cases e : l = .par 0
            · subst e; simp
            · exfalso; apply hu; cases l <;> simp_all [Lb.fresh, upd_at, Hp.none]
          · rintro ⟨⟨i, q⟩, hi, hq0, hqd, hs⟩
            simp only at hi hq0 hqd hs
            simp only [↓aX, evp, evq, evl, boxK, stillV, binV, AV.cells, mP, loadV, storeV, ldV, AV.stb, AV.one, IV.av1, Lb.app, Lb.fresh, reduceCtorEq, ptrL, appL, fillA, chunks, ivs, AV.iv, mkE, if_false, if_true, List.not_mem_nil, forall_eq, beq_self_eq_true, List.isEmpty_nil, Nat.reduceEqDiff, Nat.reduceLT, Nat.reduceLeDiff, Nat.reduceAdd, Nat.reduceMul, Int.reduceToNat, Int.reduceLE, Int.reduceLT, ofH_nil, ofH_cons]
            by_cases hlt : i < x.kids.length
            · obtain ⟨k, hki⟩ : ∃ k, x.kids[i]? = some k := ⟨_, List.getElem?_eq_getElem hlt⟩
              have hw : IntKind.i64.wrap ((i : Int) + 1) = ((i + 1 : Nat) : Int) := wrap64 (by omega) (by unfold B at hxk; omega)
              rw [show decide ((i : Int) < (x.kids.length : Int)) = true by simpa using hlt]
              simp only [↓aX, evp, evq, evl, boxK, stillV, binV, AV.cells, mP, loadV, storeV, ldV, AV.stb, AV.one, IV.av1, Lb.app, Lb.fresh, reduceCtorEq, ptrL, appL, fillA, chunks, ivs, AV.iv, mkE, if_false, if_true, List.not_mem_nil, forall_eq, beq_self_eq_true, List.isEmpty_nil, Nat.reduceEqDiff, Nat.reduceLT, Nat.reduceLeDiff, Nat.reduceAdd, Nat.reduceMul, Int.reduceToNat, Int.reduceLE, Int.reduceLT, intGet, hki, elszI, List.length_map, Option.map_some, intIV, IV.cells, hw9]
              refine callT_mut (l := .par 0) (ih k m q (by omega) hq0 (by unfold B at hd ⊢; omega)) rfl (by simp only [↓aX, evp, evq, evl, boxK, stillV, binV, AV.cells, mP, loadV, storeV, ldV, AV.stb, AV.one, IV.av1, Lb.app, Lb.fresh, reduceCtorEq, ptrL, appL, fillA, chunks, ivs, AV.iv, mkE, if_false, if_true, List.not_mem_nil, forall_eq, beq_self_eq_true, List.isEmpty_nil, Nat.reduceEqDiff, Nat.reduceLT, Nat.reduceLeDiff, Nat.reduceAdd, Nat.reduceMul, Int.reduceToNat, Int.reduceLE, Int.reduceLT]; try rfl) ?_
              rintro x1 cs' ⟨v, rfl, rfl, hv⟩ _ _ _
              have hdr : x.kids.drop i = k :: x.kids.drop (i + 1) := drop_eq hki
              rw [hdr, List.foldlM_cons] at hs
              cases hr : wk d f k m q with
              | none =>
                rw [hr] at hs
                simp only [Option.bind_eq_bind, Option.bind_none] at hs
                simp only [↓aX, evp, evq, evl, boxK, stillV, binV, AV.cells, mP, loadV, storeV, ldV, AV.stb, AV.one, IV.av1, Lb.app, Lb.fresh, reduceCtorEq, ptrL, appL, fillA, chunks, ivs, AV.iv, mkE, if_false, if_true, List.not_mem_nil, forall_eq, beq_self_eq_true, List.isEmpty_nil, Nat.reduceEqDiff, Nat.reduceLT, Nat.reduceLeDiff, Nat.reduceAdd, Nat.reduceMul, Int.reduceToNat, Int.reduceLE, Int.reduceLT, Option.isSome_none, Bool.not_false]
                exact ⟨_, ⟨v, by rw [hs]; rfl, rfl, by rw [hs]; simp⟩, rfl, rfl, rfl, rfl⟩
              | some r =>
                have hvr := hv r hr
                subst hvr
                rw [hr] at hs
                simp only [Option.bind_eq_bind, Option.bind_some] at hs
                have hb := wk_bound hq0 hr
                simp only [↓aX, evp, evq, evl, boxK, stillV, binV, AV.cells, mP, loadV, storeV, ldV, AV.stb, AV.one, IV.av1, Lb.app, Lb.fresh, reduceCtorEq, ptrL, appL, fillA, chunks, ivs, AV.iv, mkE, if_false, if_true, List.not_mem_nil, forall_eq, beq_self_eq_true, List.isEmpty_nil, Nat.reduceEqDiff, Nat.reduceLT, Nat.reduceLeDiff, Nat.reduceAdd, Nat.reduceMul, Int.reduceToNat, Int.reduceLE, Int.reduceLT, Option.isSome_some, Bool.not_true, hw]
                refine ⟨⟨(i + 1, v), hlt, by simp only; omega, by simp only; omega, hs⟩, by simp only; omega, WS_mk ?_ (by repeat' constructor) (by repeat' constructor)⟩
                intro l hl hu
                by_cases e : l = .par 0
                · subst e; simp
                · exfalso; apply hu; cases l <;> simp_all [Lb.fresh, upd_at, Hp.none]
            · have hil : i = x.kids.length := by omega
              subst hil
              rw [List.drop_length] at hs
              simp only [List.foldlM_nil] at hs
              rw [show decide ((x.kids.length : Int) < (x.kids.length : Int)) = false by simp]
              simp only [↓aX, evp, evq, evl, boxK, stillV, binV, AV.cells, mP, loadV, storeV, ldV, AV.stb, AV.one, IV.av1, Lb.app, Lb.fresh, reduceCtorEq, ptrL, appL, fillA, chunks, ivs, AV.iv, mkE, if_false, if_true, List.not_mem_nil, forall_eq, beq_self_eq_true, List.isEmpty_nil, Nat.reduceEqDiff, Nat.reduceLT, Nat.reduceLeDiff, Nat.reduceAdd, Nat.reduceMul, Int.reduceToNat, Int.reduceLE, Int.reduceLT]
              exact ⟨_, ⟨q, by rw [hs]; rfl, rfl, by rw [hs]; rintro r h; cases h; rfl⟩, rfl, rfl, rfl, rfl⟩
end Go.Am
