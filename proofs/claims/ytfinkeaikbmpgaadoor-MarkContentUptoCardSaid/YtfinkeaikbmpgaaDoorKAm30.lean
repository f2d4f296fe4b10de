import Derived.Test.YtfinkeaikbmpgaaDoorKAm23
set_option linter.unusedSimpArgs false
set_option linter.unusedVariables false
set_option linter.unnecessarySimpa false
set_option linter.defProp false
/- THE ABSTRACT MACHINE, part 30: functions that are handed one row of data by a pointer. -/
namespace Go.Am
open Go Go.RowKit
open Classical in
/-- Rows that nobody speaks of any more. -/
noncomputable def killE (kp : Lb → Prop) (H : Hp) : Hp := fun l => match H l with
  | .live r => if kp l then .live r else .dead
  | s => s
theorem killE_live {kp : Lb → Prop} {H : Hp} {l : Lb} {r : Row} : killE kp H l = .live r ↔ H l = .live r ∧ kp l := by
  unfold killE
  cases h : H l with
  | live r' =>
    by_cases hk : kp l
    · simp [hk]
    · simp [hk]
  | unused => simp
  | dead => simp
theorem killE_unused {kp : Lb → Prop} {H : Hp} {l : Lb} : killE kp H l = .unused ↔ H l = .unused := by
  unfold killE
  cases h : H l with
  | live r' =>
    by_cases hk : kp l
    · simp [hk]
    · simp [hk]
  | unused => simp
  | dead => simp
section
variable {K : Kx} {β : Lb → Option Nat} {env : Env} {H : Hp} {a : Act} {w : World}
theorem RelB.killE (hr : RelB K β env H a w) (kp : Lb → Prop) : RelB K β env (Am.killE kp H) a w := by
  have := hr.weak id (env2 := env) (H2 := Am.killE kp H) (fun n => .inr (ren_id _).symm) (fun l r h => by rw [renR_id]; exact (killE_live.1 h).1) (fun _ _ _ _ h => h)
    (fun n l hl => by rw [Ne, killE_unused]; exact hr.ment n l hl) (fun l r h cs hcs q hq => by rw [Ne, killE_unused]; exact hr.rment l r (killE_live.1 h).1 cs hcs q hq)
    (fun l hl => ⟨by rw [Ne, killE_unused]; exact (hr.stab l hl).1, fun _ => rfl⟩) (fun _ _ h => h)
  exact this
theorem Im_killE {K : Kx} {β : Lb → Option Nat} {H : Hp} (kp : Lb → Prop) {k : Nat} (h : Im K β H k) : Im K β (Am.killE kp H) k :=
  ⟨h.1, fun l ⟨r, hl⟩ => h.2 l ⟨r, (killE_live.1 hl).1⟩⟩
theorem RV.killE {w : World} {β : Lb → Option Nat} {H : Hp} {x : AV} {v : Value} (kp : Lb → Prop) (h : RV w β H (Im K β H) x v) : RV w β (Am.killE kp H) (Im K β (Am.killE kp H)) x v :=
  RV.mono x v { im := fun k hk hs => ⟨Im_killE kp hk, hs, rfl⟩, lb := fun l _ ⟨r, hl⟩ => ⟨⟨r, (killE_live.1 hl).1⟩, rfl, fun _ _ _ h => h⟩ } h
end
/-- Behind a call only such rows are spoken of. -/
theorem SpecC.keep {P : Program} {G : Nat → Option (List IV)} {f : Nat} {args : List AV} {H : Hp} {Q : AV → Hp → Prop} (h : SpecC P G f args H Q) (kp : Lb → Prop) :
    SpecC P G f args H fun x H' => ∃ H1, Q x H1 ∧ H' = killE kp H1 := by
  intro w A β vs hr hv
  refine (h w A β vs hr hv).mono ?_
  rintro e w' ⟨v, x, H1, β', rfl, hq, hr', hx, hm⟩
  exact ⟨v, x, killE kp H1, β', rfl, ⟨H1, hq, rfl⟩, hr'.killE kp, hx.killE kp, fun l hl => by rw [Ne, killE_unused]; exact hm l hl⟩
/-- One row that is handed in by a pointer. -/
def row1 (cs : List AV) : Hp := upd Hp.none (.par 0) (.live ⟨cs.length, [cs]⟩)
/-- A contract of a function that is handed a pointer to data: 'R' says what comes of it, and what the data is then. -/
def MutC (P : Program) (G : Nat → Option (List IV)) (f : Nat) (args : List AV) (cs : List AV) (R : AV → List AV → Prop) : Prop :=
  (∀ l ∈ lbss args, l = .par 0) ∧ lbss cs = [] ∧ SpecC P G f args (row1 cs) fun x H' => ∃ cs', R x cs' ∧ x.lbs = [] ∧ lbss cs' = [] ∧ cs'.length = cs.length ∧ H' (.par 0) = .live ⟨cs.length, [cs']⟩
/-- The caller's name of what the pointer points to. -/
def atL (l : Lb) : Lb → Lb := fun q => if q = .par 0 then l else q
theorem callT_mut {S : St} {f : Nat} {args cargs : List AV} {cs : List AV} {R : AV → List AV → Prop} {H : Hp} {k : AV → Hp → Prop} {u : Tw k} {l : Lb} (h : MutC S.P S.G f cargs cs R)
    (ha : args = rens (atL l) cargs) (hl : H l = .live ⟨cs.length, [cs]⟩) (hk : ∀ x cs', R x cs' → x.lbs = [] → lbss cs' = [] → cs'.length = cs.length → k x (upd H l (.live ⟨cs.length, [cs']⟩))) : clK S f args H k u := by
  obtain ⟨h1, h2, h3⟩ := h
  have hlive : ∀ q r, row1 cs q = .live r → q = .par 0 ∧ r = ⟨cs.length, [cs]⟩ := by
    intro q r h
    by_cases e : q = .par 0
    · subst e; simp [row1] at h; exact ⟨rfl, h.symm⟩
    · rw [row1, upd_ne _ _ e] at h; simp [Hp.none] at h
  refine .inr <| .inr ⟨⟨atL l, row1 cs, cargs, _, h3.keep (fun q => q = .par 0), ha, ?_, ?_, ?_, ?_, ?_, ?_, ?_⟩⟩
  · intro q r h
    obtain ⟨rfl, rfl⟩ := hlive q r h
    simp only [atL, if_true, hl, Slot.live.injEq, renR, Row.mk.injEq, List.map_cons, List.map_nil, true_and, List.cons.injEq, and_true]
    exact (rens_nolb _ _ h2).symm
  · intro q hq
    by_cases e : q = .par 0
    · subst e; exact ⟨_, by simp [row1]; rfl⟩
    · rw [row1, upd_ne _ _ e] at hq; simp [Hp.none] at hq
  · rintro q q' ⟨r, h⟩ ⟨r', h'⟩ _
    rw [(hlive q r h).1, (hlive q' r' h').1]
  · intro q hq
    rw [h1 q hq]; simp [row1]
  · rintro q ⟨r, h⟩
    rw [(hlive q r h).1]; rfl
  · intro q r h c hc z hz
    obtain ⟨rfl, rfl⟩ := hlive q r h
    simp only [List.mem_singleton] at hc
    subst hc
    rw [h2] at hz; simp at hz
  · rintro x H' ⟨H1, ⟨cs', e1, e2, e3, e4, e5⟩, rfl⟩
    have hH : ∀ q r, killE (fun q => q = .par 0) H1 q = .live r → q = .par 0 ∧ r = ⟨cs.length, [cs']⟩ := by
      intro q r h
      obtain ⟨g1, rfl⟩ := killE_live.1 h
      rw [e5] at g1; cases g1; exact ⟨rfl, rfl⟩
    have hH0 : killE (fun q => q = .par 0) H1 (.par 0) = .live ⟨cs.length, [cs']⟩ := killE_live.2 ⟨e5, rfl⟩
    refine ⟨atL l, upd H l (.live ⟨cs.length, [cs']⟩), fun _ _ _ => rfl, ?_, ?_, ?_, ?_, ?_, ?_, ?_, ?_⟩
    · intro q r h
      by_cases e : q = l
      · subst e
        simp at h
        refine .inr ⟨.par 0, _, hH0, by simp [atL], ?_⟩
        rw [← h]
        simp only [renR, Row.mk.injEq, List.map_cons, List.map_nil, true_and, List.cons.injEq, and_true]
        exact (rens_nolb _ _ e3).symm
      · rw [upd_ne _ _ e] at h
        refine .inl ⟨h, ?_⟩
        rintro z ⟨r', hz⟩
        rw [(hlive z r' hz).1]
        simp only [atL, if_true]
        exact Ne.symm e
    · rintro q q' ⟨r, h⟩ ⟨r', h'⟩ _
      rw [(hH q r h).1, (hH q' r' h').1]
    · intro q hq
      by_cases e : q = l
      · subst e; simp
      · rw [upd_ne _ _ e]; exact hq
    · intro q hq; rw [e2] at hq; simp at hq
    · intro q r h c hc z hz
      obtain ⟨rfl, rfl⟩ := hH q r h
      simp only [List.mem_singleton] at hc
      subst hc
      rw [e3] at hz; simp at hz
    · rintro q ⟨r, h⟩
      obtain ⟨rfl, rfl⟩ := hH q r h
      exact .inl ⟨_, by simp [row1]; rfl⟩
    · rintro q (hq | ⟨l1, r1, c, g1, g2, g3⟩) _
      · rw [e2] at hq; simp at hq
      · obtain ⟨rfl, rfl⟩ := hH l1 r1 g1
        simp only [List.mem_singleton] at g2
        subst g2
        rw [e3] at g3; simp at g3
    · rw [ren_nolb _ _ e2]
      exact hk x cs' e1 e2 e3 e4
/-- By walking. -/
theorem mut_of_go {P : Program} {G : Nat → Option (List IV)} {f : Nat} {n : Nat} {rs : List RO} {ac : AC} {args cs : List AV} {R : AV → List AV → Prop}
    (hF : compF P G f = some (n, rs, ac.bare)) (hn : args.length ≤ n) (ha : ∀ l ∈ lbss args, l = .par 0) (hc : lbss cs = [])
    (hg : go ⟨P, G, n⟩ (RetP rs fun x H' => ∃ cs', R x cs' ∧ x.lbs = [] ∧ lbss cs' = [] ∧ cs'.length = cs.length ∧ H' (.par 0) = .live ⟨cs.length, [cs']⟩) [.code ac] (argE args) (row1 cs)) : MutC P G f args cs R := by
  refine ⟨ha, hc, spec_of_go hF hn ?_ ?_ hg⟩
  · rintro l ⟨r, h⟩
    by_cases e : l = .par 0
    · subst e; rfl
    · rw [row1, upd_ne _ _ e] at h; simp [Hp.none] at h
  · intro l hl
    rw [ha l hl]; simp [row1]
theorem MutC.mono {P : Program} {G : Nat → Option (List IV)} {f : Nat} {args cs : List AV} {R R' : AV → List AV → Prop} (h : MutC P G f args cs R) (hq : ∀ x c, R x c → R' x c) : MutC P G f args cs R' :=
  ⟨h.1, h.2.1, h.2.2.mono fun x H ⟨c, h1, h2⟩ => ⟨c, hq _ _ h1, h2⟩⟩
end Go.Am

/- THE ABSTRACT MACHINE, part 31: nil slices are empty lists. -/
namespace Go.Am
open Go Go.RowKit
mutual
/-- An empty slice, whatever it is, is an empty list. -/
def norm : AV → AV
  | .nil0 => .list []
  | .agg cs => .agg (norms cs)
  | .tup cs => .tup (norms cs)
  | x => x
def norms : List AV → List AV
  | [] => []
  | x :: r => norm x :: norms r
end
mutual
theorem norm_lbs : ∀ x : AV, (norm x).lbs = x.lbs
  | .nil0 => rfl
  | .agg cs => by simp [norm, AV.lbs, norms_lbs cs]
  | .tup cs => by simp [norm, AV.lbs, norms_lbs cs]
  | .sl .. | .slk .. | .ptr .. | .any | .un | .bool _ | .int .. | .str _ | .list _ | .nilp | .nilif | .lptr _ | .fn .. | .ifc .. => rfl
theorem norms_lbs : ∀ xs : List AV, lbss (norms xs) = lbss xs
  | [] => rfl
  | x :: r => by simp [norms, lbss, norm_lbs x, norms_lbs r]
end
mutual
theorem RV.norm {w : World} {β : Lb → Option Nat} {H : Hp} {I : Nat → Prop} : ∀ (x : AV) (v : Value), RV w β H I x v → RV w β H I (Am.norm x) v
  | .nil0, v, h => by
    simp only [RV] at h
    obtain ⟨a, rfl⟩ := h
    simp only [Am.norm, RV, IVR]
    exact ⟨a, 0, rfl, Nat.le_refl _, by simp [maxLen], .inl rfl⟩
  | .agg cs, v, h => by
    simp only [RV, Am.norm] at h ⊢
    obtain ⟨vs, h1, h2⟩ := h
    exact ⟨vs, h1, RVs.norm cs vs h2⟩
  | .tup cs, v, h => by
    simp only [RV, Am.norm] at h ⊢
    obtain ⟨vs, h1, h2⟩ := h
    exact ⟨vs, h1, RVs.norm cs vs h2⟩
  | .sl .., v, h | .slk .., v, h | .ptr .., v, h | .any, v, h | .un, v, h | .bool _, v, h | .int .., v, h | .str _, v, h | .list _, v, h | .nilp, v, h | .nilif, v, h | .lptr _, v, h | .fn .., v, h | .ifc .., v, h => h
theorem RVs.norm {w : World} {β : Lb → Option Nat} {H : Hp} {I : Nat → Prop} : ∀ (xs : List AV) (vs : List Value), RVs w β H I xs vs → RVs w β H I (norms xs) vs
  | [], vs, h => h
  | x :: r, vs, h => by
    simp only [RVs, norms] at h ⊢
    obtain ⟨v, us, h1, h2, h3⟩ := h
    exact ⟨v, us, h1, RV.norm x v h2, RVs.norm r us h3⟩
end
theorem SpecC.n {P : Program} {G : Nat → Option (List IV)} {f : Nat} {args : List AV} {H : Hp} {Q : AV → Hp → Prop} (h : SpecC P G f (norms args) H Q) : SpecC P G f args H Q :=
  fun w A β vs hr hv => h w A β vs hr (RVs.norm _ _ hv)
theorem SpecC.res {P : Program} {G : Nat → Option (List IV)} {f : Nat} {args : List AV} {H : Hp} {Q : AV → Hp → Prop} (h : SpecC P G f args H Q) : SpecC P G f args H fun x H' => ∃ y, Q y H' ∧ x = norm y := by
  intro w A β vs hr hv
  refine (h w A β vs hr hv).mono ?_
  rintro e w' ⟨v, x, H', β', rfl, h1, h2, h3, h4⟩
  exact ⟨v, norm x, H', β', rfl, ⟨x, h1, rfl⟩, h2, RV.norm _ _ h3, by rw [norm_lbs]; exact h4⟩
theorem PureC.n {P : Program} {G : Nat → Option (List IV)} {f : Nat} {args : List AV} {res : AV} (h : PureC P G f (norms args) res) : PureC P G f args res :=
  ⟨by have := h.1; rwa [norms_lbs] at this, h.2.1, h.2.2.n⟩
theorem PureC.of {P : Program} {G : Nat → Option (List IV)} {f : Nat} {args args' : List AV} {res : AV} (h : PureC P G f args' res) (e : norms args = args') : PureC P G f args res := PureC.n (by rw [e]; exact h)
/-- A pure function whose result may be a nil slice. -/
theorem pure_of_goN {P : Program} {G : Nat → Option (List IV)} {f : Nat} {n : Nat} {rs : List RO} {ac : AC} {args : List AV} {res : AV}
    (hF : compF P G f = some (n, rs, ac.bare)) (hn : args.length ≤ n) (hl : lbss args = []) (hl2 : res.lbs = [])
    (hg : go ⟨P, G, n⟩ (RetP rs fun x _ => norm x = res) [.code ac] (argE args) Hp.none) : PureC P G f args res :=
  ⟨hl, hl2, ((spec_of_go hF hn (fun l ⟨r, h⟩ => by simp [Hp.none] at h) (by simp [hl]) hg).res).mono fun x H ⟨y, h1, h2⟩ => by rw [h2]; exact h1⟩
theorem immE_get (xs : List IV) (i : Nat) : (immE xs)[i]? = xs[i]?.map fun y => y.cells.map IV.av1 := by simp [immE]
theorem immE_len (xs : List IV) : (immE xs).length = xs.length := by simp [immE]
theorem immE_set (xs : List IV) (i : Nat) (y : IV) : (immE xs).set i (y.cells.map IV.av1) = immE (xs.set i y) := by simp [immE, List.map_set]
theorem immE_app (xs ys : List IV) : immE (xs ++ ys) = immE xs ++ immE ys := by simp [immE]
/-- A list that grows by one. -/
theorem app_one {sz b d n : Nat} {l : Lb} {els : List (List AV)} {x : IV} {H : Hp} (hl : H l = .live ⟨sz, els⟩) (hn : els.length = n) (he : x.cells.length = sz) (hf : ∀ z ∈ x.cells, ∀ cs, z ≠ .agg cs) (hb : (n + 1) * b ≤ 140737488355328) (h0 : 0 < b)
    (hd : l ≠ l.app d) (hu : H (l.app d) = .unused) :
    appV sz b d (.sl l sz 0 n) (.list [x]) H = some (.sl (l.app d) sz 0 (n + 1), upd (upd H l .dead) (l.app d) (.live ⟨sz, els ++ immE [x]⟩)) := by
  have := app_sl (xs := [x]) hl (Nat.le_of_eq hn.symm) (by intro y hy; simp only [List.mem_singleton] at hy; subst hy; exact he) (by intro y hy; simp only [List.mem_singleton] at hy; subst hy; exact hf) (by simpa using hb) h0 hd hu
  rw [this]
  simp only [List.length_cons, List.length_nil, Nat.zero_add, Option.some.injEq, Prod.mk.injEq, true_and]
  rw [List.take_of_length_le (Nat.le_of_eq hn)]
/-- The same, of a list that this call has made. -/
theorem app_loc (sz b d k : Nat) (xs : List IV) (x : IV) {n : Nat} {H : Hp} (hl : H (.loc k) = .live ⟨sz, immE xs⟩) (hn : xs.length = n) (he : x.cells.length = sz) (hf : ∀ z ∈ x.cells, ∀ cs, z ≠ .agg cs) (hb : (n + 1) * b ≤ 140737488355328) (h0 : 0 < b)
    (hd : k ≠ d) (hu : H (.loc d) = .unused) :
    appV sz b d (.sl (.loc k) sz 0 n) (.list [x]) H = some (.sl (.loc d) sz 0 (n + 1), upd (upd H (.loc k) .dead) (.loc d) (.live ⟨sz, immE (xs ++ [x])⟩)) := by
  have e : (Lb.loc k).app d = .loc d := rfl
  have := app_one (l := .loc k) (d := d) hl (by rw [immE_len]; exact hn) he hf hb h0 (by rw [e]; simpa using hd) (by rw [e]; exact hu)
  rw [e] at this
  rw [this, immE_app]
end Go.Am

/- THE ABSTRACT MACHINE, part 32: loops whose rows stay where they are. -/
namespace Go.Am
open Go Go.RowKit
def RwI (H : Hp) : List (Lb × Row) → Prop
  | [] => True
  | (l, r) :: t => H l = .live r ∧ RwI H t
theorem RwI.rw {H : Hp} : ∀ {rs : List (Lb × Row)}, RwI H rs → RwL (rnF []) H rs
  | [], _ => trivial
  | (l, r) :: t, h => ⟨by show H l = .live (renR id r); rw [renR_id]; exact h.1, RwI.rw h.2⟩
/-- The rows 'rs' are there, by their names; what else there is was made here. -/
def WS {σ : Type} (ls : List Lb) (ps : σ → List (Nat × AV)) (rs : σ → List (Lb × Row)) (env : Env) (H : Hp) (s : σ) : Prop := NFx H ls ∧ EqI env (ps s) ∧ RwI H (rs s)
theorem loop_same {σ : Type} {S : St} {Q : Post} {c : AC} {k : List It} {env : Env} {H : Hp} (ls : List Lb) (ps : σ → List (Nat × AV)) (rs : σ → List (Lb × Row)) (μ : σ → Nat) (s0 : σ)
    (hls : ∀ s, (rs s).map Prod.fst = ls) (hnd : ls.Nodup) (hp : ∀ s, ∀ l ∈ lbss ((ps s).map Prod.snd), l ∈ ls) (hr : ∀ s, ∀ q ∈ rs s, ∀ cs ∈ q.2.els, ∀ l ∈ lbss cs, l ∈ ls) (h0 : WS ls ps rs env H s0)
    (round : ∀ s, go S (LoopX S Q k (WS ls ps rs) μ (μ s)) [.code c] (ofL (ps s)) (ofH (rs s))) : LoopG S Q c k env H := by
  refine loop_gen (fun s => ofL (ps s)) (fun s => ofH (rs s)) (WS ls ps rs) ?_ μ s0 h0 round
  rintro env H s ⟨h1, h2, h3⟩
  refine ⟨rnF [], WRs.wk (m := []) ⟨h1, h2.eql, RwI.rw h3, ?_, fun l _ => ⟨id, fun _ => rfl⟩⟩ (hls s) (hp s) (hr s)⟩
  have : rnF [] = id := rfl
  rw [this, List.map_id]; exact hnd
theorem WS_mk {σ : Type} {ls : List Lb} {ps : σ → List (Nat × AV)} {rs : σ → List (Lb × Row)} {env : Env} {H : Hp} {s : σ} (h1 : NFx H ls) (h2 : EqI env (ps s)) (h3 : RwI H (rs s)) : WS ls ps rs env H s := ⟨h1, h2, h3⟩
theorem ofH_nil : ofH [] = Hp.none := rfl
theorem ofH_cons (l : Lb) (r : Row) (t : List (Lb × Row)) : ofH ((l, r) :: t) = upd (ofH t) l (.live r) := rfl
end Go.Am

/- THE ABSTRACT MACHINE, part 33: slices held against nil; loops of calls with pointers. -/
namespace Go.Am
open Go Go.RowKit
inductive Tb (k : Bool → Prop) : Type
  | mk
end Go.Am

/- Trees: their values, their sizes; copies. -/
namespace Go.Am
open Go Go.RowKit
abbrev Bs := List UInt8
structure Attr where
  name : Bs
  val : Bs
inductive Tree where
  | mk (text : Bool) (s : Bs) (attrs : List Attr) (kids : List Tree)
def Tree.text : Tree → Bool | .mk t _ _ _ => t
def Tree.s : Tree → Bs | .mk _ s _ _ => s
def Tree.attrs : Tree → List Attr | .mk _ _ a _ => a
def Tree.kids : Tree → List Tree | .mk _ _ _ k => k
def Attr.cs (a : Attr) : List IV := [.str a.name, .str a.val]
def Attr.iv (a : Attr) : IV := .agg a.cs
def ivA (as : List Attr) : List IV := as.map Attr.iv
mutual
def Tree.iv : Tree → IV
  | .mk t s as ks => .agg [.bool t, .str s, .list (ivA as), .list (ivT ks)]
def ivT : List Tree → List IV
  | [] => []
  | x :: r => x.iv :: ivT r
end
def Tree.cs (x : Tree) : List IV := [.bool x.text, .str x.s, .list (ivA x.attrs), .list (ivT x.kids)]
/-- A tree, as it lies in slots. -/
def Tree.av (x : Tree) : AV := .agg [.bool x.text, .str x.s, .list (ivA x.attrs), .list (ivT x.kids)]
theorem Tree.iv_eq (x : Tree) : x.iv = .agg x.cs := by cases x; simp [Tree.iv, Tree.cs, Tree.text, Tree.s, Tree.attrs, Tree.kids]
theorem Tree.cells_eq (x : Tree) : x.iv.cells = x.cs := by rw [Tree.iv_eq]; rfl
theorem Attr.cells_eq (x : Attr) : x.iv.cells = x.cs := rfl
theorem ivT_map : ∀ xs : List Tree, ivT xs = xs.map Tree.iv
  | [] => by simp [ivT]
  | x :: r => by simp [ivT, ivT_map r]
theorem ivT_len (xs : List Tree) : (ivT xs).length = xs.length := by simp [ivT_map]
theorem ivA_len (xs : List Attr) : (ivA xs).length = xs.length := by simp [ivA]
theorem ivT_get (xs : List Tree) (i : Nat) : (ivT xs)[i]? = xs[i]?.map Tree.iv := by simp [ivT_map]
theorem ivA_get (xs : List Attr) (i : Nat) : (ivA xs)[i]? = xs[i]?.map Attr.iv := by simp [ivA]
theorem elszT (xs : List Tree) : Elsz 4 (ivT xs) := by
  intro x hx
  rw [ivT_map] at hx
  obtain ⟨a, _, rfl⟩ := List.mem_map.1 hx
  rw [a.cells_eq]; rfl
theorem elszA (xs : List Attr) : Elsz 2 (ivA xs) := by
  intro x hx
  obtain ⟨a, _, rfl⟩ := List.mem_map.1 hx
  rfl
theorem Tree.cs_flat (x : Tree) : ∀ z ∈ x.cs, ∀ cs, z ≠ .agg cs := by
  intro z hz cs
  simp only [Tree.cs, List.mem_cons, List.not_mem_nil, or_false] at hz
  rcases hz with rfl | rfl | rfl | rfl <;> simp
theorem flatT (xs : List Tree) : Flat (ivT xs) := by
  intro x hx
  rw [ivT_map] at hx
  obtain ⟨a, _, rfl⟩ := List.mem_map.1 hx
  rw [a.cells_eq]; exact a.cs_flat
theorem flatA (xs : List Attr) : Flat (ivA xs) := by
  intro x hx
  obtain ⟨a, _, rfl⟩ := List.mem_map.1 hx
  intro z hz cs
  simp only [Attr.cells_eq, Attr.cs, List.mem_cons, List.not_mem_nil, or_false] at hz
  rcases hz with rfl | rfl <;> simp
def Attr.wt (a : Attr) : Nat := 1 + a.name.length + a.val.length
def wtA : List Attr → Nat
  | [] => 0
  | a :: r => a.wt + wtA r
mutual
def Tree.wt : Tree → Nat
  | .mk _ s as ks => 1 + s.length + wtA as + wtT ks
def wtT : List Tree → Nat
  | [] => 0
  | x :: r => x.wt + wtT r
end
theorem Tree.wt_eq (x : Tree) : x.wt = 1 + x.s.length + wtA x.attrs + wtT x.kids := by cases x; simp [Tree.wt, Tree.s, Tree.attrs, Tree.kids]
theorem wtA_len : ∀ xs : List Attr, xs.length ≤ wtA xs
  | [] => by simp [wtA]
  | a :: r => by have := wtA_len r; simp [wtA, Attr.wt]; omega
theorem wtT_len : ∀ xs : List Tree, xs.length ≤ wtT xs
  | [] => by simp [wtT]
  | a :: r => by have := wtT_len r; have := a.wt_eq; simp [wtT]; omega
theorem wtT_get : ∀ (xs : List Tree) (i : Nat) (x : Tree), xs[i]? = some x → x.wt ≤ wtT xs
  | [], i, x, h => by simp at h
  | a :: r, 0, x, h => by simp at h; subst h; simp [wtT]
  | a :: r, i + 1, x, h => by have := wtT_get r i x (by simpa using h); simp [wtT]; omega
theorem wtT_app : ∀ xs ys : List Tree, wtT (xs ++ ys) = wtT xs + wtT ys
  | [], ys => by simp [wtT]
  | a :: r, ys => by simp [wtT, wtT_app r ys]; omega
def B : Nat := 2 ^ 30
theorem le_max {n : Nat} (h : n ≤ 100) : n ≤ maxLen := Nat.le_trans h (by decide)
end Go.Am

/- Trees: are they the same? -/
namespace Go.Am
open Go Go.RowKit
open Classical in
noncomputable def eqB {α : Type} (x y : α) : Bool := decide (x = y)
theorem eqB_self {α : Type} (x : α) : eqB x x = true := by simp [eqB]
theorem eqB_ne {α : Type} {x y : α} (h : x ≠ y) : eqB x y = false := by simp [eqB, h]
theorem Attr.ext {x y : Attr} (h1 : x.name = y.name) (h2 : x.val = y.val) : x = y := by cases x; cases y; simp_all
theorem Tree.ext {x y : Tree} (h1 : x.text = y.text) (h2 : x.s = y.s) (h3 : x.attrs = y.attrs) (h4 : x.kids = y.kids) : x = y := by
  cases x; cases y; simp_all [Tree.text, Tree.s, Tree.attrs, Tree.kids]
def cSameTrees (g : Nat) : AC :=
(.seq
  (.reg [
    ⟨(some 4), none, (.mov (.c (.bool false)))⟩])
(.seq
  (.seq
    (.reg [
      ⟨(some 6), none, (.mov (.t 0))⟩,
      ⟨(some 7), none, (.len (.t 6))⟩,
      ⟨(some 8), none, (.mov (.t 1))⟩,
      ⟨(some 9), none, (.len (.t 8))⟩,
      ⟨(some 10), none, (.bin .neq (.t 7) (.t 9))⟩])
  (.cond (.t 10)
    (.seq
      (.reg [
        ⟨(some 4), none, (.mov (.c (.bool false)))⟩])
    .ret)
    .skip))
(.seq
  (.seq
    (.reg [
      ⟨(some 11), none, (.mov (.t 0))⟩,
      ⟨(some 12), none, (.len (.t 11))⟩,
      ⟨(some 13), none, (.mov (.c (.int .i64 0)))⟩])
  (.block 0
    (.loop
      (.seq
        (.reg [
          ⟨(some 14), none, (.bin .lss (.t 13) (.t 12))⟩])
      (.seq
        (.cond (.t 14)
          .skip
          (.exit 0))
      (.seq
        (.block 1
          (.seq
            (.reg [
              ⟨(some 15), none, (.mov (.t 13))⟩,
              ⟨(some 5), none, (.mov (.t 15))⟩])
          (.seq
            (.dreg [
              ⟨(some 16), none, (.mov (.t 0))⟩,
              ⟨(some 17), none, (.mov (.t 5))⟩,
              ⟨(some 18), none, (.ixa (.t 16) (.t 17) 4)⟩,
              ⟨(some 19), none, (.load (some 4) (.t 18))⟩,
              ⟨(some 20), none, (.mov (.t 1))⟩,
              ⟨(some 21), none, (.mov (.t 5))⟩,
              ⟨(some 22), none, (.ixa (.t 20) (.t 21) 4)⟩,
              ⟨(some 23), none, (.load (some 4) (.t 22))⟩,
              ⟨(some 24), none, (.call g [(.t 19), (.t 23)])⟩,
              ⟨(some 25), none, (.not (.t 24))⟩]
              [[], [], [0, 1], [2], [], [], [4, 5], [6], [3, 7], [8]]
              [.no, .no, .no, .no, .no, .no, .no, .no, .no, .no])
          (.cond (.t 25)
            (.seq
              (.reg [
                ⟨(some 4), none, (.mov (.c (.bool false)))⟩])
            .ret)
            .skip))))
      (.reg [
        ⟨(some 26), none, (.bin .add (.t 13) (.c (.int .i64 1)))⟩,
        ⟨(some 13), none, (.mov (.t 26))⟩])))))))
(.seq
  (.reg [
    ⟨(some 4), none, (.mov (.c (.bool true)))⟩])
.ret))))
def eSame (xs ys : List IV) (i : Nat) : Env :=
  put (put (put (put Env.any 0 (.list xs)) 1 (.list ys)) 12 (.int .i64 xs.length)) 13 (.int .i64 i)
theorem pSameTrees {P : Program} {G : Nat → Option (List IV)} {f g : Nat} (hF : compF P G f = some (27, [(none, 4)], (cSameTrees g).bare)) (xs ys : List Tree) (hx : xs.length ≤ B)
    (hg : ∀ x ∈ xs, ∀ y ∈ ys, PureC P G g [x.av, y.av] (.bool (eqB x y))) : PureC P G f [.list (ivT xs), .list (ivT ys)] (.bool (eqB xs ys)) := by
  refine pure_of_go hF (by simp) (by simp [lbss, AV.lbs]) (by simp [AV.lbs]) ?_
  unfold cSameTrees
  simp only [↓evs, evp, boxK, ↓a1_still, stillV, ev, argE, List.getD_cons_zero, List.getD_cons_succ, Nat.reduceEqDiff, if_false, if_true, Nat.reduceLT, Nat.reduceLeDiff, Nat.reduceAdd, Nat.reduceMul, true_and, and_true, List.length_map, binV, AV.cells, List.length_cons, List.length_nil, upd_at, Lb.loc.injEq, ↓af_still, ↓af_load, ↓af_store, ↓af_app, ↓af_new, ↓af_box, loadV, storeV, ldV, List.getElem?_cons_zero, List.getElem?_cons_succ, Option.bind_some, Option.map_some, List.map_cons, List.map_nil, Int.natCast_nonneg, Int.toNat_natCast, AV.stb, AV.one, List.all_cons, List.all_nil, Bool.and_self, Bool.and_true, Bool.true_and, List.take_succ_cons, List.take_zero, List.drop_succ_cons, List.drop_zero, List.cons_append, List.nil_append, List.append_nil, List.set_cons_zero, IV.av1, Lb.app, Lb.fresh, fam_loc, fam_par, fam_gen, fam_nest, reduceCtorEq, Bool.false_eq_true, List.take, List.drop, List.mem_cons, List.not_mem_nil, or_false, ptrL, appL, forall_eq, false_implies, implies_true, ev, Hp.none, Nat.le_refl, List.set_cons_succ, fillA, chunks, ivs, AV.iv, mkE, List.replicate_one, List.flatten_cons, List.flatten_nil, Nat.zero_mul, Nat.zero_add, Nat.mul_one, ivT_len]
  by_cases hl : xs.length = ys.length
  · rw [show ((xs.length : Int) != (ys.length : Int)) = false by simp [hl]]
    simp only [↓evs, evp, boxK, ↓a1_still, stillV, ev, argE, List.getD_cons_zero, List.getD_cons_succ, Nat.reduceEqDiff, if_false, if_true, Nat.reduceLT, Nat.reduceLeDiff, Nat.reduceAdd, Nat.reduceMul, true_and, and_true, List.length_map, binV, AV.cells, List.length_cons, List.length_nil, upd_at, Lb.loc.injEq, ↓af_still, ↓af_load, ↓af_store, ↓af_app, ↓af_new, ↓af_box, loadV, storeV, ldV, List.getElem?_cons_zero, List.getElem?_cons_succ, Option.bind_some, Option.map_some, List.map_cons, List.map_nil, Int.natCast_nonneg, Int.toNat_natCast, AV.stb, AV.one, List.all_cons, List.all_nil, Bool.and_self, Bool.and_true, Bool.true_and, List.take_succ_cons, List.take_zero, List.drop_succ_cons, List.drop_zero, List.cons_append, List.nil_append, List.append_nil, List.set_cons_zero, IV.av1, Lb.app, Lb.fresh, fam_loc, fam_par, fam_gen, fam_nest, reduceCtorEq, Bool.false_eq_true, List.take, List.drop, List.mem_cons, List.not_mem_nil, or_false, ptrL, appL, forall_eq, false_implies, implies_true, ev, Hp.none, Nat.le_refl, List.set_cons_succ, fillA, chunks, ivs, AV.iv, mkE, List.replicate_one, List.flatten_cons, List.flatten_nil, Nat.zero_mul, Nat.zero_add, Nat.mul_one, ivT_len]
    refine loop_intro (σ := { i : Nat // i ≤ xs.length ∧ ∀ j, j < i → xs[j]? = ys[j]? }) (fun s => eSame (ivT xs) (ivT ys) s.1) (fun _ => Hp.none) (fun s => xs.length - s.1) ⟨0, by simp⟩ id ?_ ?_
    · refine .none ?_ ?_
      · exact we_put rfl (we_put (by simp [put_at, ivT_len, ren]) (we_put rfl (we_put rfl (we_any _ _))))
      · exact wm_put (by simp [AV.lbs]) (wm_put (by simp [AV.lbs]) (wm_put (by simp [AV.lbs]) (wm_put (by simp [AV.lbs]) (wm_any _))))
    · rintro ⟨i, hi, hs⟩
      simp only [↓evs, evp, boxK, ↓a1_still, stillV, ev, argE, List.getD_cons_zero, List.getD_cons_succ, Nat.reduceEqDiff, if_false, if_true, Nat.reduceLT, Nat.reduceLeDiff, Nat.reduceAdd, Nat.reduceMul, true_and, and_true, List.length_map, binV, AV.cells, List.length_cons, List.length_nil, upd_at, Lb.loc.injEq, ↓af_still, ↓af_load, ↓af_store, ↓af_app, ↓af_new, ↓af_box, loadV, storeV, ldV, List.getElem?_cons_zero, List.getElem?_cons_succ, Option.bind_some, Option.map_some, List.map_cons, List.map_nil, Int.natCast_nonneg, Int.toNat_natCast, AV.stb, AV.one, List.all_cons, List.all_nil, Bool.and_self, Bool.and_true, Bool.true_and, List.take_succ_cons, List.take_zero, List.drop_succ_cons, List.drop_zero, List.cons_append, List.nil_append, List.append_nil, List.set_cons_zero, IV.av1, Lb.app, Lb.fresh, fam_loc, fam_par, fam_gen, fam_nest, reduceCtorEq, Bool.false_eq_true, List.take, List.drop, List.mem_cons, List.not_mem_nil, or_false, ptrL, appL, forall_eq, false_implies, implies_true, ev, Hp.none, Nat.le_refl, List.set_cons_succ, fillA, chunks, ivs, AV.iv, mkE, List.replicate_one, List.flatten_cons, List.flatten_nil, Nat.zero_mul, Nat.zero_add, Nat.mul_one, eSame, ivT_len]
      by_cases hlt : i < xs.length
      · rw [show decide ((i : Int) < (xs.length : Int)) = true by simpa using hlt]
        obtain ⟨x, hx1⟩ : ∃ x, xs[i]? = some x := ⟨_, List.getElem?_eq_getElem hlt⟩
        obtain ⟨y, hy1⟩ : ∃ y, ys[i]? = some y := ⟨_, List.getElem?_eq_getElem (hl ▸ hlt)⟩
        simp only [↓evs, evp, boxK, ↓a1_still, stillV, ev, argE, List.getD_cons_zero, List.getD_cons_succ, Nat.reduceEqDiff, if_false, if_true, Nat.reduceLT, Nat.reduceLeDiff, Nat.reduceAdd, Nat.reduceMul, true_and, and_true, List.length_map, binV, AV.cells, List.length_cons, List.length_nil, upd_at, Lb.loc.injEq, ↓af_still, ↓af_load, ↓af_store, ↓af_app, ↓af_new, ↓af_box, loadV, storeV, ldV, List.getElem?_cons_zero, List.getElem?_cons_succ, Option.bind_some, Option.map_some, List.map_cons, List.map_nil, Int.natCast_nonneg, Int.toNat_natCast, AV.stb, AV.one, List.all_cons, List.all_nil, Bool.and_self, Bool.and_true, Bool.true_and, List.take_succ_cons, List.take_zero, List.drop_succ_cons, List.drop_zero, List.cons_append, List.nil_append, List.append_nil, List.set_cons_zero, IV.av1, Lb.app, Lb.fresh, fam_loc, fam_par, fam_gen, fam_nest, reduceCtorEq, Bool.false_eq_true, List.take, List.drop, List.mem_cons, List.not_mem_nil, or_false, ptrL, appL, forall_eq, false_implies, implies_true, ev, Hp.none, Nat.le_refl, List.set_cons_succ, fillA, chunks, ivs, AV.iv, mkE, List.replicate_one, List.flatten_cons, List.flatten_nil, Nat.zero_mul, Nat.zero_add, Nat.mul_one, ivT_get, hx1, hy1, elszT, Tree.cells_eq, Tree.cs]
        refine ⟨rfl, puK_in (hg x (List.mem_of_getElem? hx1) y (List.mem_of_getElem? hy1)) ?_⟩
        by_cases hxy : x = y
        · subst hxy
          have hw : IntKind.i64.wrap ((i : Int) + 1) = ((i + 1 : Nat) : Int) := wrap64 (by omega) (by unfold B at hx; omega)
          simp only [↓evs, evp, boxK, ↓a1_still, stillV, ev, argE, List.getD_cons_zero, List.getD_cons_succ, Nat.reduceEqDiff, if_false, if_true, Nat.reduceLT, Nat.reduceLeDiff, Nat.reduceAdd, Nat.reduceMul, true_and, and_true, List.length_map, binV, AV.cells, List.length_cons, List.length_nil, upd_at, Lb.loc.injEq, ↓af_still, ↓af_load, ↓af_store, ↓af_app, ↓af_new, ↓af_box, loadV, storeV, ldV, List.getElem?_cons_zero, List.getElem?_cons_succ, Option.bind_some, Option.map_some, List.map_cons, List.map_nil, Int.natCast_nonneg, Int.toNat_natCast, AV.stb, AV.one, List.all_cons, List.all_nil, Bool.and_self, Bool.and_true, Bool.true_and, List.take_succ_cons, List.take_zero, List.drop_succ_cons, List.drop_zero, List.cons_append, List.nil_append, List.append_nil, List.set_cons_zero, IV.av1, Lb.app, Lb.fresh, fam_loc, fam_par, fam_gen, fam_nest, reduceCtorEq, Bool.false_eq_true, List.take, List.drop, List.mem_cons, List.not_mem_nil, or_false, ptrL, appL, forall_eq, false_implies, implies_true, ev, Hp.none, Nat.le_refl, List.set_cons_succ, fillA, chunks, ivs, AV.iv, mkE, List.replicate_one, List.flatten_cons, List.flatten_nil, Nat.zero_mul, Nat.zero_add, Nat.mul_one, hw, eqB_self, Bool.not_true]
          refine ⟨⟨i + 1, hlt, fun j hj => ?_⟩, by simp only; omega, id, .none ?_ ?_⟩
          · by_cases e : j = i
            · rw [e, hx1, hy1]
            · exact hs j (by omega)
          · exact we_put rfl (we_put (by simp [put_at, ivT_len, ren]) (we_put rfl (we_put rfl (we_any _ _))))
          · exact wm_put (by simp [AV.lbs]) (wm_put (by simp [AV.lbs]) (wm_put (by simp [AV.lbs]) (wm_put (by simp [AV.lbs]) (wm_any _))))
        · have hne : xs ≠ ys := fun e => hxy (by rw [e, hy1] at hx1; cases hx1; rfl)
          simp only [↓evs, evp, boxK, ↓a1_still, stillV, ev, argE, List.getD_cons_zero, List.getD_cons_succ, Nat.reduceEqDiff, if_false, if_true, Nat.reduceLT, Nat.reduceLeDiff, Nat.reduceAdd, Nat.reduceMul, true_and, and_true, List.length_map, binV, AV.cells, List.length_cons, List.length_nil, upd_at, Lb.loc.injEq, ↓af_still, ↓af_load, ↓af_store, ↓af_app, ↓af_new, ↓af_box, loadV, storeV, ldV, List.getElem?_cons_zero, List.getElem?_cons_succ, Option.bind_some, Option.map_some, List.map_cons, List.map_nil, Int.natCast_nonneg, Int.toNat_natCast, AV.stb, AV.one, List.all_cons, List.all_nil, Bool.and_self, Bool.and_true, Bool.true_and, List.take_succ_cons, List.take_zero, List.drop_succ_cons, List.drop_zero, List.cons_append, List.nil_append, List.append_nil, List.set_cons_zero, IV.av1, Lb.app, Lb.fresh, fam_loc, fam_par, fam_gen, fam_nest, reduceCtorEq, Bool.false_eq_true, List.take, List.drop, List.mem_cons, List.not_mem_nil, or_false, ptrL, appL, forall_eq, false_implies, implies_true, ev, Hp.none, Nat.le_refl, List.set_cons_succ, fillA, chunks, ivs, AV.iv, mkE, List.replicate_one, List.flatten_cons, List.flatten_nil, Nat.zero_mul, Nat.zero_add, Nat.mul_one, eqB_ne hne, eqB_ne hxy, Bool.not_false]
      · rw [show decide ((i : Int) < (xs.length : Int)) = false by simpa using hlt]
        simp only [↓evs, evp, boxK, ↓a1_still, stillV, ev, argE, List.getD_cons_zero, List.getD_cons_succ, Nat.reduceEqDiff, if_false, if_true, Nat.reduceLT, Nat.reduceLeDiff, Nat.reduceAdd, Nat.reduceMul, true_and, and_true, List.length_map, binV, AV.cells, List.length_cons, List.length_nil, upd_at, Lb.loc.injEq, ↓af_still, ↓af_load, ↓af_store, ↓af_app, ↓af_new, ↓af_box, loadV, storeV, ldV, List.getElem?_cons_zero, List.getElem?_cons_succ, Option.bind_some, Option.map_some, List.map_cons, List.map_nil, Int.natCast_nonneg, Int.toNat_natCast, AV.stb, AV.one, List.all_cons, List.all_nil, Bool.and_self, Bool.and_true, Bool.true_and, List.take_succ_cons, List.take_zero, List.drop_succ_cons, List.drop_zero, List.cons_append, List.nil_append, List.append_nil, List.set_cons_zero, IV.av1, Lb.app, Lb.fresh, fam_loc, fam_par, fam_gen, fam_nest, reduceCtorEq, Bool.false_eq_true, List.take, List.drop, List.mem_cons, List.not_mem_nil, or_false, ptrL, appL, forall_eq, false_implies, implies_true, ev, Hp.none, Nat.le_refl, List.set_cons_succ, fillA, chunks, ivs, AV.iv, mkE, List.replicate_one, List.flatten_cons, List.flatten_nil, Nat.zero_mul, Nat.zero_add, Nat.mul_one]
        have : xs = ys := List.ext_getElem? fun j => by
          by_cases hj : j < i
          · exact hs j hj
          · rw [List.getElem?_eq_none (by omega), List.getElem?_eq_none (by omega)]
        rw [this, eqB_self]
  · rw [show ((xs.length : Int) != (ys.length : Int)) = true by simp; omega]
    have : xs ≠ ys := fun e => hl (by rw [e])
    simp only [↓evs, evp, boxK, ↓a1_still, stillV, ev, argE, List.getD_cons_zero, List.getD_cons_succ, Nat.reduceEqDiff, if_false, if_true, Nat.reduceLT, Nat.reduceLeDiff, Nat.reduceAdd, Nat.reduceMul, true_and, and_true, List.length_map, binV, AV.cells, List.length_cons, List.length_nil, upd_at, Lb.loc.injEq, ↓af_still, ↓af_load, ↓af_store, ↓af_app, ↓af_new, ↓af_box, loadV, storeV, ldV, List.getElem?_cons_zero, List.getElem?_cons_succ, Option.bind_some, Option.map_some, List.map_cons, List.map_nil, Int.natCast_nonneg, Int.toNat_natCast, AV.stb, AV.one, List.all_cons, List.all_nil, Bool.and_self, Bool.and_true, Bool.true_and, List.take_succ_cons, List.take_zero, List.drop_succ_cons, List.drop_zero, List.cons_append, List.nil_append, List.append_nil, List.set_cons_zero, IV.av1, Lb.app, Lb.fresh, fam_loc, fam_par, fam_gen, fam_nest, reduceCtorEq, Bool.false_eq_true, List.take, List.drop, List.mem_cons, List.not_mem_nil, or_false, ptrL, appL, forall_eq, false_implies, implies_true, ev, Hp.none, Nat.le_refl, List.set_cons_succ, fillA, chunks, ivs, AV.iv, mkE, List.replicate_one, List.flatten_cons, List.flatten_nil, Nat.zero_mul, Nat.zero_add, Nat.mul_one, eqB_ne this]
end Go.Am
