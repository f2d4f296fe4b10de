/- THE ABSTRACT MACHINE, part 30: functions that are handed one row of data by a pointer. -/
import Derived.Test.YtfinkeaikbmpgaaAm28
set_option linter.defProp false
set_option linter.unnecessarySimpa false
set_option linter.unusedVariables false
set_option linter.unusedSimpArgs false
namespace Go.Am
open Go Go.RowKit

open Classical in
/-- Rows that nobody speaks of any more. -/
noncomputable def killE (kp : Lb → Prop) (H : Hp) : Hp := fun l => match H l with
  | .live r => if kp l then .live r else .dead
  | s => s

theorem killE_live {kp : Lb → Prop} {H : Hp} {l : Lb} {r : Row} : killE kp H l = .live r ↔ H l = .live r ∧ kp l := by
  unfold killE
  cases h : H l with
  | live r' =>
    by_cases hk : kp l
    · simp [hk]
    · simp [hk]
  | unused => simp
  | dead => simp
theorem killE_unused {kp : Lb → Prop} {H : Hp} {l : Lb} : killE kp H l = .unused ↔ H l = .unused := by
  unfold killE
  cases h : H l with
  | live r' =>
    by_cases hk : kp l
    · simp [hk]
    · simp [hk]
  | unused => simp
  | dead => simp

section
variable {K : Kx} {β : Lb → Option Nat} {env : Env} {H : Hp} {a : Act} {w : World}

theorem RelB.killE (hr : RelB K β env H a w) (kp : Lb → Prop) : RelB K β env (Am.killE kp H) a w := by
  have := hr.weak id (env2 := env) (H2 := Am.killE kp H) (fun n => .inr (ren_id _).symm) (fun l r h => by rw [renR_id]; exact (killE_live.1 h).1) (fun _ _ _ _ h => h)
    (fun n l hl => by rw [Ne, killE_unused]; exact hr.ment n l hl) (fun l r h cs hcs q hq => by rw [Ne, killE_unused]; exact hr.rment l r (killE_live.1 h).1 cs hcs q hq)
    (fun l hl => ⟨by rw [Ne, killE_unused]; exact (hr.stab l hl).1, fun _ => rfl⟩) (fun _ _ h => h)
  exact this

theorem Im_killE {K : Kx} {β : Lb → Option Nat} {H : Hp} (kp : Lb → Prop) {k : Nat} (h : Im K β H k) : Im K β (Am.killE kp H) k :=
  ⟨h.1, fun l ⟨r, hl⟩ => h.2 l ⟨r, (killE_live.1 hl).1⟩⟩

theorem RV.killE {w : World} {β : Lb → Option Nat} {H : Hp} {x : AV} {v : Value} (kp : Lb → Prop) (h : RV w β H (Im K β H) x v) : RV w β (Am.killE kp H) (Im K β (Am.killE kp H)) x v :=
  RV.mono x v { im := fun k hk hs => ⟨Im_killE kp hk, hs, rfl⟩, lb := fun l _ ⟨r, hl⟩ => ⟨⟨r, (killE_live.1 hl).1⟩, rfl, fun _ _ _ h => h⟩ } h
end

/-- Behind a call only such rows are spoken of. -/
theorem SpecC.keep {P : Program} {G : Nat → Option (List IV)} {f : Nat} {args : List AV} {H : Hp} {Q : AV → Hp → Prop} (h : SpecC P G f args H Q) (kp : Lb → Prop) :
    SpecC P G f args H fun x H' => ∃ H1, Q x H1 ∧ H' = killE kp H1 := by
  intro w A β vs hr hv
  refine (h w A β vs hr hv).mono ?_
  rintro e w' ⟨v, x, H1, β', rfl, hq, hr', hx, hm⟩
  exact ⟨v, x, killE kp H1, β', rfl, ⟨H1, hq, rfl⟩, hr'.killE kp, hx.killE kp, fun l hl => by rw [Ne, killE_unused]; exact hm l hl⟩

/-- One row that is handed in by a pointer. -/
def row1 (cs : List AV) : Hp := upd Hp.none (.par 0) (.live ⟨cs.length, [cs]⟩)

/-- A contract of a function that is handed a pointer to data: 'R' says what comes of it, and what the data is then. -/
def MutC (P : Program) (G : Nat → Option (List IV)) (f : Nat) (args : List AV) (cs : List AV) (R : AV → List AV → Prop) : Prop :=
  (∀ l ∈ lbss args, l = .par 0) ∧ lbss cs = [] ∧ SpecC P G f args (row1 cs) fun x H' => ∃ cs', R x cs' ∧ x.lbs = [] ∧ lbss cs' = [] ∧ cs'.length = cs.length ∧ H' (.par 0) = .live ⟨cs.length, [cs']⟩

/-- The caller's name of what the pointer points to. -/
def atL (l : Lb) : Lb → Lb := fun q => if q = .par 0 then l else q

theorem callT_mut {S : St} {f : Nat} {args cargs : List AV} {cs : List AV} {R : AV → List AV → Prop} {H : Hp} {k : AV → Hp → Prop} {u : Tw k} {l : Lb} (h : MutC S.P S.G f cargs cs R)
    (ha : args = rens (atL l) cargs) (hl : H l = .live ⟨cs.length, [cs]⟩) (hk : ∀ x cs', R x cs' → x.lbs = [] → lbss cs' = [] → cs'.length = cs.length → k x (upd H l (.live ⟨cs.length, [cs']⟩))) : clK S f args H k u := by
  obtain ⟨h1, h2, h3⟩ := h
  have hlive : ∀ q r, row1 cs q = .live r → q = .par 0 ∧ r = ⟨cs.length, [cs]⟩ := by
    intro q r h
    by_cases e : q = .par 0
    · subst e; simp [row1] at h; exact ⟨rfl, h.symm⟩
    · rw [row1, upd_ne _ _ e] at h; simp [Hp.none] at h
  refine .inr ⟨⟨atL l, row1 cs, cargs, _, h3.keep (fun q => q = .par 0), ha, ?_, ?_, ?_, ?_, ?_, ?_, ?_⟩⟩
  · intro q r h
    obtain ⟨rfl, rfl⟩ := hlive q r h
    simp only [atL, if_true, hl, Slot.live.injEq, renR, Row.mk.injEq, List.map_cons, List.map_nil, true_and, List.cons.injEq, and_true]
    exact (rens_nolb _ _ h2).symm
  · intro q hq
    by_cases e : q = .par 0
    · subst e; exact ⟨_, by simp [row1]; rfl⟩
    · rw [row1, upd_ne _ _ e] at hq; simp [Hp.none] at hq
  · rintro q q' ⟨r, h⟩ ⟨r', h'⟩ _
    rw [(hlive q r h).1, (hlive q' r' h').1]
  · intro q hq
    rw [h1 q hq]; simp [row1]
  · rintro q ⟨r, h⟩
    rw [(hlive q r h).1]; rfl
  · intro q r h c hc z hz
    obtain ⟨rfl, rfl⟩ := hlive q r h
    simp only [List.mem_singleton] at hc
    subst hc
    rw [h2] at hz; simp at hz
  · rintro x H' ⟨H1, ⟨cs', e1, e2, e3, e4, e5⟩, rfl⟩
    have hH : ∀ q r, killE (fun q => q = .par 0) H1 q = .live r → q = .par 0 ∧ r = ⟨cs.length, [cs']⟩ := by
      intro q r h
      obtain ⟨g1, rfl⟩ := killE_live.1 h
      rw [e5] at g1; cases g1; exact ⟨rfl, rfl⟩
    have hH0 : killE (fun q => q = .par 0) H1 (.par 0) = .live ⟨cs.length, [cs']⟩ := killE_live.2 ⟨e5, rfl⟩
    refine ⟨atL l, upd H l (.live ⟨cs.length, [cs']⟩), fun _ _ _ => rfl, ?_, ?_, ?_, ?_, ?_, ?_, ?_, ?_⟩
    · intro q r h
      by_cases e : q = l
      · subst e
        simp at h
        refine .inr ⟨.par 0, _, hH0, by simp [atL], ?_⟩
        rw [← h]
        simp only [renR, Row.mk.injEq, List.map_cons, List.map_nil, true_and, List.cons.injEq, and_true]
        exact (rens_nolb _ _ e3).symm
      · rw [upd_ne _ _ e] at h
        refine .inl ⟨h, ?_⟩
        rintro z ⟨r', hz⟩
        rw [(hlive z r' hz).1]
        simp only [atL, if_true]
        exact Ne.symm e
    · rintro q q' ⟨r, h⟩ ⟨r', h'⟩ _
      rw [(hH q r h).1, (hH q' r' h').1]
    · intro q hq
      by_cases e : q = l
      · subst e; simp
      · rw [upd_ne _ _ e]; exact hq
    · intro q hq; rw [e2] at hq; simp at hq
    · intro q r h c hc z hz
      obtain ⟨rfl, rfl⟩ := hH q r h
      simp only [List.mem_singleton] at hc
      subst hc
      rw [e3] at hz; simp at hz
    · rintro q ⟨r, h⟩
      obtain ⟨rfl, rfl⟩ := hH q r h
      exact .inl ⟨_, by simp [row1]; rfl⟩
    · rintro q (hq | ⟨l1, r1, c, g1, g2, g3⟩) _
      · rw [e2] at hq; simp at hq
      · obtain ⟨rfl, rfl⟩ := hH l1 r1 g1
        simp only [List.mem_singleton] at g2
        subst g2
        rw [e3] at g3; simp at g3
    · rw [ren_nolb _ _ e2]
      exact hk x cs' e1 e2 e3 e4

/-- By walking. -/
theorem mut_of_go {P : Program} {G : Nat → Option (List IV)} {f : Nat} {n : Nat} {rs : List RO} {ac : AC} {args cs : List AV} {R : AV → List AV → Prop}
    (hF : compF P G f = some (n, rs, ac.bare)) (hn : args.length ≤ n) (ha : ∀ l ∈ lbss args, l = .par 0) (hc : lbss cs = [])
    (hg : go ⟨P, G, n⟩ (RetP rs fun x H' => ∃ cs', R x cs' ∧ x.lbs = [] ∧ lbss cs' = [] ∧ cs'.length = cs.length ∧ H' (.par 0) = .live ⟨cs.length, [cs']⟩) [.code ac] (argE args) (row1 cs)) : MutC P G f args cs R := by
  refine ⟨ha, hc, spec_of_go hF hn ?_ ?_ hg⟩
  · rintro l ⟨r, h⟩
    by_cases e : l = .par 0
    · subst e; rfl
    · rw [row1, upd_ne _ _ e] at h; simp [Hp.none] at h
  · intro l hl
    rw [ha l hl]; simp [row1]

theorem MutC.mono {P : Program} {G : Nat → Option (List IV)} {f : Nat} {args cs : List AV} {R R' : AV → List AV → Prop} (h : MutC P G f args cs R) (hq : ∀ x c, R x c → R' x c) : MutC P G f args cs R' :=
  ⟨h.1, h.2.1, h.2.2.mono fun x H ⟨c, h1, h2⟩ => ⟨c, hq _ _ h1, h2⟩⟩

end Go.Am
