/- THE ABSTRACT MACHINE, part 27: loops by lists of slots; forks by their sides. -/
import Derived.Test.YtfinkeaikbmpgaaAm24
import Derived.Deep.LoopGhost
set_option linter.defProp false
set_option linter.unnecessarySimpa false
set_option linter.unusedVariables false
set_option linter.unusedSimpArgs false
namespace Go.Am
open Go Go.RowKit

/-- Slots, by a list. -/
def ofL : List (Nat × AV) → Env
  | [] => Env.any
  | (n, x) :: r => put (ofL r) n x

theorem ofL_nil : ofL [] = Env.any := rfl
theorem ofL_cons (n : Nat) (x : AV) (r : List (Nat × AV)) : ofL ((n, x) :: r) = put (ofL r) n x := rfl

def EqL (ρ : Lb → Lb) (env : Env) : List (Nat × AV) → Prop
  | [] => True
  | (n, x) :: r => env n = ren ρ x ∧ EqL ρ env r

def EqI (env : Env) : List (Nat × AV) → Prop
  | [] => True
  | (n, x) :: r => env n = x ∧ EqI env r

theorem EqL.we {ρ : Lb → Lb} {env : Env} : ∀ {ps : List (Nat × AV)}, EqL ρ env ps → ∀ n, ofL ps n = .any ∨ env n = ren ρ (ofL ps n)
  | [], _ => we_any ρ env
  | (n, x) :: r, h => we_put h.1 (EqL.we h.2)

theorem EqI.eql {env : Env} : ∀ {ps : List (Nat × AV)}, EqI env ps → EqL id env ps
  | [], _ => trivial
  | (n, x) :: r, h => ⟨by rw [ren_id]; exact h.1, EqI.eql h.2⟩

theorem ofL_wm {H : Hp} : ∀ {ps : List (Nat × AV)}, (∀ l ∈ lbss (ps.map Prod.snd), H l ≠ .unused) → ∀ n, ∀ l ∈ (ofL ps n).lbs, H l ≠ .unused
  | [], _ => wm_any H
  | (n, x) :: r, h => wm_put (fun l hl => h l (by simp [lbss, hl])) (ofL_wm fun l hl => h l (by simp only [List.map_cons, lbss, List.mem_append]; exact .inr hl))

/-- Labels that were not made here are unused. -/
def NF (H : Hp) : Prop := ∀ l : Lb, l.fresh = false → H l = .unused

theorem NF_none : NF Hp.none = True := by simp [NF, Hp.none]
theorem NF_upd (H : Hp) (n : Nat) (s : Slot) : NF (upd H (.loc n) s) = NF H := by
  apply propext
  constructor
  · intro h l hl
    have := h l hl
    have hne : l ≠ .loc n := by rintro rfl; simp [Lb.fresh] at hl
    rwa [upd_ne _ _ hne] at this
  · exact nf_upd

/-- A loop whose head is reached by states of which W holds. -/
def LoopX {σ : Type} (S : St) (Q : Post) (k : List It) (W : Env → Hp → σ → Prop) (μ : σ → Nat) (n : Nat) : Post := fun e env H =>
  match e with
  | .normal => ∃ s, μ s < n ∧ W env H s
  | .exit id => match popTo id k with
    | some k' => go S Q k' env H
    | none => Q (.exit id) env H
  | .ret => Q .ret env H
  | _ => False

theorem loop_gen {σ : Type} {S : St} {Q : Post} {c : AC} {k : List It} {env : Env} {H : Hp} (E : σ → Env) (HH : σ → Hp) (W : Env → Hp → σ → Prop) (hW : ∀ env H s, W env H s → ∃ ρ, Wk ρ env H (E s) (HH s))
    (μ : σ → Nat) (s0 : σ) (h0 : W env H s0) (round : ∀ s, go S (LoopX S Q k W μ (μ s)) [.code c] (E s) (HH s)) : LoopG S Q c k env H := by
  intro K hKS hS c0 ck hc hall β a w hr
  subst hKS
  simp only [PH, Exit.then]
  obtain ⟨ρ, h0⟩ := hW _ _ _ h0
  refine wp_loop_ghost (fun n a w => ∃ s β, μ s = n ∧ RelB K β (E s) (HH s) a w) (μ s0) ⟨s0, _, rfl, h0.rel hS hr⟩ ?_
  rintro n a w ⟨s, β, rfl, hr⟩
  have hs := go_sound (K := K) hS _ (szs [.code c]) [.code c] [.code c0] (Nat.le_refl _) (.cons (.code hc) .nil) (E s) (HH s) (round s) β a w hr
  simp only [PH, Exit.then] at hs
  refine wp_mono hs ?_
  rintro e a' w' ⟨env', H', β', hq, hr'⟩
  cases e with
  | normal =>
    obtain ⟨s', hlt, hw⟩ := hq
    obtain ⟨ρ', hw⟩ := hW _ _ _ hw
    exact ⟨μ s', hlt, s', _, rfl, hw.rel hS hr'⟩
  | exit id =>
    have hp := pop_sound (P := K.P) (G := K.G) (lift K Q) (id := id) ck k hall
    simp only [LoopX] at hq
    show PH K.P (lift K Q) ck (.exit id) a' w'
    cases hk' : popTo id k with
    | some k' =>
      rw [hk'] at hp hq
      obtain ⟨ck', e1, e2⟩ := hp
      exact e2 a' w' (go_sound (K := K) hS Q (szs k') k' ck' (Nat.le_refl _) e1 env' H' hq β' a' w' hr')
    | none =>
      rw [hk'] at hp hq
      exact hp a' w' ⟨env', H', β', hq, hr'⟩
  | ret => exact PH_ret _ _ _ _ _ ⟨env', H', β', hq, hr'⟩
  | goto l => exact hq.elim
  | panic ch => exact hq.elim
  | outgrown => exact hq.elim

mutual
theorem ren_nolb (ρ : Lb → Lb) : ∀ x : AV, x.lbs = [] → ren ρ x = x
  | .sl .., h | .ptr .., h => by simp [AV.lbs] at h
  | .any, _ | .un, _ | .bool _, _ | .int .., _ | .str _, _ | .list _, _ | .nil0, _ | .nilp, _ | .nilif, _ | .lptr _, _ => by simp [ren]
  | .agg cs, h => by simp only [AV.lbs] at h; simp [ren, rens_nolb ρ cs h]
  | .tup cs, h => by simp only [AV.lbs] at h; simp [ren, rens_nolb ρ cs h]
  | .fn f fs cs, h => by simp only [AV.lbs, List.append_eq_nil_iff] at h; simp [ren, rens_nolb ρ fs h.1, rens_nolb ρ cs h.2]
  | .ifc t x, h => by simp only [AV.lbs] at h; simp [ren, ren_nolb ρ x h]
theorem rens_nolb (ρ : Lb → Lb) : ∀ xs : List AV, lbss xs = [] → rens ρ xs = xs
  | [], _ => by simp [rens]
  | x :: r, h => by simp only [lbss, List.append_eq_nil_iff] at h; simp [rens, ren_nolb ρ x h.1, rens_nolb ρ r h.2]
end

/-! Data alone: what a round has made is forgotten at the head. -/
def WD {σ : Type} (ps : σ → List (Nat × AV)) (env : Env) (H : Hp) (s : σ) : Prop := NF H ∧ EqI env (ps s)

theorem loop_data {σ : Type} {S : St} {Q : Post} {c : AC} {k : List It} {env : Env} {H : Hp} (ps : σ → List (Nat × AV)) (μ : σ → Nat) (s0 : σ) (hl : ∀ s, lbss ((ps s).map Prod.snd) = []) (h0 : WD ps env H s0)
    (round : ∀ s, go S (LoopX S Q k (WD ps) μ (μ s)) [.code c] (ofL (ps s)) Hp.none) : LoopG S Q c k env H :=
  loop_gen (fun s => ofL (ps s)) (fun _ => Hp.none) (WD ps) (fun env H s ⟨h1, h2⟩ => ⟨id, h2.eql.we, fun l r h => by simp [Hp.none] at h, fun _ _ ⟨r, h⟩ => by simp [Hp.none] at h, ofL_wm (by rw [hl]; simp), fun l r h => by simp [Hp.none] at h,
    fun l hl => ⟨fun h => absurd (h1 l hl) h, fun _ => rfl⟩, fun l ⟨r, h⟩ => by simp [Hp.none] at h⟩) μ s0 h0 round

/-! One list that grows, too. -/
def WR {σ : Type} (d sz : Nat) (ps : σ → List (Nat × AV)) (xs : σ → List IV) (env : Env) (H : Hp) (s : σ) : Prop :=
  NF H ∧ EqI env (ps s) ∧ ∃ n els, env d = .sl (.loc n) sz 0 (xs s).length ∧ H (.loc n) = .live ⟨sz, els⟩ ∧ els = immE (xs s)

theorem loop_row {σ : Type} {S : St} {Q : Post} {c : AC} {k : List It} {env : Env} {H : Hp} (d sz : Nat) (ps : σ → List (Nat × AV)) (xs : σ → List IV) (μ : σ → Nat) (s0 : σ) (hl : ∀ s, lbss ((ps s).map Prod.snd) = []) (h0 : WR d sz ps xs env H s0)
    (round : ∀ s, go S (LoopX S Q k (WR d sz ps xs) μ (μ s)) [.code c] (ofL ((d, .sl (.loc d) sz 0 (xs s).length) :: ps s)) (upd Hp.none (.loc d) (.live ⟨sz, immE (xs s)⟩))) : LoopG S Q c k env H := by
  refine loop_gen (fun s => ofL ((d, .sl (.loc d) sz 0 (xs s).length) :: ps s)) (fun s => upd Hp.none (.loc d) (.live ⟨sz, immE (xs s)⟩)) (WR d sz ps xs) ?_ μ s0 h0 round
  rintro env H s ⟨h1, h2, n, els, h3, h4, rfl⟩
  have key : ∀ {r : List (Nat × AV)}, EqI env r → lbss (r.map Prod.snd) = [] → EqL (fun _ => .loc n) env r := by
    intro r
    induction r with
    | nil => exact fun _ _ => trivial
    | cons p r ih =>
      obtain ⟨m, x⟩ := p
      intro h hl'
      simp only [List.map_cons, lbss, List.append_eq_nil_iff] at hl'
      refine ⟨?_, ih h.2 hl'.2⟩
      rw [h.1]
      exact (ren_nolb _ x hl'.1).symm
  refine ⟨fun _ => .loc n, Wk.one (EqL.we (ps := (d, .sl (.loc d) sz 0 (xs s).length) :: ps s) ⟨h3, key h2 (hl s)⟩) (ofL_wm ?_) h4 rfl rfl h1⟩
  simp [lbss, AV.lbs, hl s]

/-! Rows of any kind: each known by a label at the head; the round's end says which label it has now. -/
def ofH : List (Lb × Row) → Hp
  | [] => Hp.none
  | (l, r) :: t => upd (ofH t) l (.live r)

def rnF : List (Lb × Lb) → Lb → Lb
  | [], l => l
  | (a, b) :: t, l => if l = a then b else rnF t l

/-- The rows 'rs', by the names that 'm' gives, are there. -/
def RwL (ρ : Lb → Lb) (H : Hp) : List (Lb × Row) → Prop
  | [] => True
  | (l, r) :: t => H (ρ l) = .live (renR ρ r) ∧ RwL ρ H t

/-- Labels that were not made here are as at the head, or unused. -/
def NFx (H : Hp) (ls : List Lb) : Prop := ∀ l : Lb, l.fresh = false → H l ≠ .unused → l ∈ ls

theorem NFx_none (ls : List Lb) : NFx Hp.none ls = True := by simp [NFx, Hp.none]
theorem NFx_loc (H : Hp) (n : Nat) (s : Slot) (ls : List Lb) : NFx (upd H (.loc n) s) ls = NFx H ls := by
  apply propext
  constructor
  · intro h l hl hu
    have hne : l ≠ .loc n := by rintro rfl; simp [Lb.fresh] at hl
    exact h l hl (by rwa [upd_ne _ _ hne])
  · intro h l hl hu
    have hne : l ≠ .loc n := by rintro rfl; simp [Lb.fresh] at hl
    rw [upd_ne _ _ hne] at hu
    exact h l hl hu
theorem NFx_in {H : Hp} {q : Lb} {s : Slot} {ls : List Lb} (hq : q ∈ ls) (h : NFx H ls) : NFx (upd H q s) ls := by
  intro l hl hu
  by_cases e : l = q
  · rw [e]; exact hq
  · rw [upd_ne _ _ e] at hu; exact h l hl hu

/-- What a state must show to be the head's: 'm' tells the labels' names. -/
structure WRs (ls : List Lb) (ps : List (Nat × AV)) (rs : List (Lb × Row)) (env : Env) (H : Hp) (m : List (Lb × Lb)) : Prop where
  nf : NFx H ls
  e : EqL (rnF m) env ps
  r : RwL (rnF m) H rs
  inj : (ls.map (rnF m)).Nodup
  fr : ∀ l ∈ ls, (l.fresh = true → (rnF m l).fresh = true) ∧ (l.fresh = false → rnF m l = l)

theorem ofH_live {rs : List (Lb × Row)} : ∀ {l : Lb} {r : Row}, ofH rs l = .live r → (l, r) ∈ rs := by
  induction rs with
  | nil => intro l r h; simp [ofH, Hp.none] at h
  | cons p t ih =>
    obtain ⟨l0, r0⟩ := p
    intro l r h
    simp only [ofH, upd] at h
    split at h
    · next e => cases h; subst e; simp
    · exact List.mem_cons_of_mem _ (ih h)

theorem ofH_used {rs : List (Lb × Row)} {l : Lb} (h : l ∈ rs.map Prod.fst) : ofH rs l ≠ .unused := by
  induction rs with
  | nil => simp at h
  | cons p t ih =>
    obtain ⟨l0, r0⟩ := p
    simp only [ofH, upd]
    split
    · simp
    · next e => exact ih (by simpa [e] using h)

theorem RwL_mem {ρ : Lb → Lb} {H : Hp} : ∀ {rs : List (Lb × Row)}, RwL ρ H rs → ∀ {l : Lb} {r : Row}, (l, r) ∈ rs → H (ρ l) = .live (renR ρ r)
  | [], _, _, _, h => by simp at h
  | (l0, r0) :: t, h, l, r, hm => by
    simp only [List.mem_cons, Prod.mk.injEq] at hm
    rcases hm with ⟨rfl, rfl⟩ | hm
    · exact h.1
    · exact RwL_mem h.2 hm

theorem nodup_map_inj {α β : Type} [DecidableEq β] {f : α → β} : ∀ {l : List α}, (l.map f).Nodup → ∀ a ∈ l, ∀ b ∈ l, f a = f b → a = b
  | [], _, _, h, _, _, _ => by simp at h
  | x :: l, hd, a, ha, b, hb, e => by
    simp only [List.map_cons, List.nodup_cons, List.mem_map, not_exists, not_and] at hd
    simp only [List.mem_cons] at ha hb
    rcases ha with rfl | ha <;> rcases hb with rfl | hb
    · rfl
    · exact absurd e.symm (hd.1 b hb)
    · exact absurd e (hd.1 a ha)
    · exact nodup_map_inj hd.2 a ha b hb e

theorem WRs.wk {ls : List Lb} {ps : List (Nat × AV)} {rs : List (Lb × Row)} {env : Env} {H : Hp} {m : List (Lb × Lb)} (h : WRs ls ps rs env H m) (hls : rs.map Prod.fst = ls) (hp : ∀ l ∈ lbss (ps.map Prod.snd), l ∈ ls)
    (hr : ∀ q ∈ rs, ∀ cs ∈ q.2.els, ∀ l ∈ lbss cs, l ∈ ls) : Wk (rnF m) env H (ofL ps) (ofH rs) := by
  have hlv : ∀ l, live (ofH rs) l → l ∈ ls := fun l ⟨r, h⟩ => by rw [← hls]; exact List.mem_map.2 ⟨_, ofH_live h, rfl⟩
  refine ⟨h.e.we, fun l r hl => RwL_mem h.r (ofH_live hl), fun l l' h1 h2 e => nodup_map_inj h.inj l (hlv l h1) l' (hlv l' h2) e, ofL_wm fun l hl => ofH_used (by rw [hls]; exact hp l hl), fun l r hl cs hcs q hq => ?_, fun l hf => ⟨fun hu => ?_, fun hl => (h.fr l (hlv l hl)).2 hf⟩, fun l hl hf => (h.fr l (hlv l hl)).1 hf⟩
  · exact ofH_used (by rw [hls]; exact hr _ (ofH_live hl) cs hcs q hq)
  · exact ofH_used (by rw [hls]; exact h.nf l hf hu)

theorem loop_rows {σ : Type} {S : St} {Q : Post} {c : AC} {k : List It} {env : Env} {H : Hp} (ls : List Lb) (ps : σ → List (Nat × AV)) (rs : σ → List (Lb × Row)) (μ : σ → Nat) (s0 : σ)
    (hls : ∀ s, (rs s).map Prod.fst = ls) (hp : ∀ s, ∀ l ∈ lbss ((ps s).map Prod.snd), l ∈ ls) (hr : ∀ s, ∀ q ∈ rs s, ∀ cs ∈ q.2.els, ∀ l ∈ lbss cs, l ∈ ls) (h0 : ∃ m, WRs ls (ps s0) (rs s0) env H m)
    (round : ∀ s, go S (LoopX S Q k (fun env H s => ∃ m, WRs ls (ps s) (rs s) env H m) μ (μ s)) [.code c] (ofL (ps s)) (ofH (rs s))) : LoopG S Q c k env H :=
  loop_gen (fun s => ofL (ps s)) (fun s => ofH (rs s)) _ (fun _ _ s ⟨m, h⟩ => ⟨_, h.wk (hls s) (hp s) (hr s)⟩) μ s0 h0 round

section
variable {σ : Type} {S : St} {Q : Post} {k : List It} {W : Env → Hp → σ → Prop} {μ : σ → Nat} {n : Nat} {env : Env} {H : Hp}
theorem lx_n : LoopX S Q k W μ n .normal env H = ∃ s, μ s < n ∧ W env H s := rfl
theorem lx_x (id : Nat) : LoopX S Q k W μ n (.exit id) env H = match popTo id k with
    | some k' => go S Q k' env H
    | none => Q (.exit id) env H := rfl
theorem lx_r : LoopX S Q k W μ n .ret env H = Q .ret env H := rfl
theorem EqI_nil : EqI env [] = True := rfl
theorem EqI_cons (n : Nat) (x : AV) (r : List (Nat × AV)) : EqI env ((n, x) :: r) = (env n = x ∧ EqI env r) := rfl
theorem EqL_nil (ρ : Lb → Lb) : EqL ρ env [] = True := rfl
theorem EqL_cons (ρ : Lb → Lb) (n : Nat) (x : AV) (r : List (Nat × AV)) : EqL ρ env ((n, x) :: r) = (env n = ren ρ x ∧ EqL ρ env r) := rfl
end

theorem cK_b {b : Bool} {A B : Prop} {u : Tp A B} (h1 : b = true → A) (h2 : b = false → B) : cK (.bool b) A B u := by
  cases b
  · exact h2 rfl
  · exact h1 rfl
theorem gB_b {b : Bool} {A B : Prop} {u : Tp A B} (h1 : b = true → A) (h2 : b = false → B) : gB (.bool b) true A B u := by
  cases b
  · rw [gB_f]; exact h2 rfl
  · rw [gB_t]; exact h1 rfl
theorem gB_b' {b : Bool} {A B : Prop} {u : Tp A B} (h1 : b = true → B) (h2 : b = false → A) : gB (.bool b) false A B u := by
  cases b
  · rw [gB_f']; exact h2 rfl
  · rw [gB_t']; exact h1 rfl

theorem ev_t (env : Env) (n : Nat) : ev env (.t n) = env n := rfl
theorem ev_c (env : Env) (x : AV) : ev env (.c x) = x := rfl

/-- What follows the walk's equations. -/
theorem le_one (n : Nat) (h : n ≤ 4000) : (n ≤ maxLen) = True := by simp [maxLen]; omega

end Go.Am
