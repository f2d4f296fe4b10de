import Derived.Test.YtfinkeaikbmpgaaDoorKAm34
import Derived.Laws.Externs
set_option linter.unusedSimpArgs false
set_option linter.unusedVariables false
set_option linter.unnecessarySimpa false
set_option linter.defProp false
/- THE ABSTRACT MACHINE, part 40: functions that are handed a row of data by a slice. -/
namespace Go.Am
open Go Go.RowKit
/-- One row of data that is handed in. -/
def rowX (sz : Nat) (xs : List IV) : Hp := upd Hp.none (.par 0) (.live ⟨sz, immE xs⟩)
/-- A contract of a function that is handed a slice of data: 'R' says what comes of it, and what the row is then. -/
def RowC (P : Program) (G : Nat → Option (List IV)) (f : Nat) (args : List AV) (sz : Nat) (xs : List IV) (R : AV → List IV → Prop) : Prop :=
  (∀ l ∈ lbss args, l = .par 0) ∧ SpecC P G f args (rowX sz xs) fun x H' => ∃ xs', R x xs' ∧ x.lbs = [] ∧ xs'.length = xs.length ∧ H' (.par 0) = .live ⟨sz, immE xs'⟩
theorem callT_row {S : St} {f : Nat} {args cargs : List AV} {sz : Nat} {xs : List IV} {R : AV → List IV → Prop} {H : Hp} {k : AV → Hp → Prop} {u : Tw k} {l : Lb} (h : RowC S.P S.G f cargs sz xs R)
    (ha : args = rens (atL l) cargs) (hl : H l = .live ⟨sz, immE xs⟩) (hk : ∀ x xs', R x xs' → x.lbs = [] → xs'.length = xs.length → k x (upd H l (.live ⟨sz, immE xs'⟩))) : clK S f args H k u := by
  obtain ⟨h1, h3⟩ := h
  have hlive : ∀ q r, rowX sz xs q = .live r → q = .par 0 ∧ r = ⟨sz, immE xs⟩ := by
    intro q r h
    by_cases e : q = .par 0
    · subst e; simp [rowX] at h; exact ⟨rfl, h.symm⟩
    · rw [rowX, upd_ne _ _ e] at h; simp [Hp.none] at h
  refine .inr <| .inr ⟨⟨atL l, rowX sz xs, cargs, _, h3.keep (fun q => q = .par 0), ha, ?_, ?_, ?_, ?_, ?_, ?_, ?_⟩⟩
  · intro q r h
    obtain ⟨rfl, rfl⟩ := hlive q r h
    rw [renR_immE]
    simp only [atL, if_true, hl]
  · intro q hq
    by_cases e : q = .par 0
    · subst e; exact ⟨_, by simp [rowX]; rfl⟩
    · rw [rowX, upd_ne _ _ e] at hq; simp [Hp.none] at hq
  · rintro q q' ⟨r, h⟩ ⟨r', h'⟩ _
    rw [(hlive q r h).1, (hlive q' r' h').1]
  · intro q hq
    rw [h1 q hq]; simp [rowX]
  · rintro q ⟨r, h⟩
    rw [(hlive q r h).1]; rfl
  · intro q r h c hc z hz
    obtain ⟨rfl, rfl⟩ := hlive q r h
    rw [lbss_immE hc] at hz; simp at hz
  · rintro x H' ⟨H1, ⟨xs', e1, e2, e4, e5⟩, rfl⟩
    have hH : ∀ q r, killE (fun q => q = .par 0) H1 q = .live r → q = .par 0 ∧ r = ⟨sz, immE xs'⟩ := by
      intro q r h
      obtain ⟨g1, rfl⟩ := killE_live.1 h
      rw [e5] at g1; cases g1; exact ⟨rfl, rfl⟩
    have hH0 : killE (fun q => q = .par 0) H1 (.par 0) = .live ⟨sz, immE xs'⟩ := killE_live.2 ⟨e5, rfl⟩
    refine ⟨atL l, upd H l (.live ⟨sz, immE xs'⟩), fun _ _ _ => rfl, ?_, ?_, ?_, ?_, ?_, ?_, ?_, ?_⟩
    · intro q r h
      by_cases e : q = l
      · subst e
        simp at h
        refine .inr ⟨.par 0, _, hH0, by simp [atL], ?_⟩
        rw [← h, renR_immE]
      · rw [upd_ne _ _ e] at h
        refine .inl ⟨h, ?_⟩
        rintro z ⟨r', hz⟩
        rw [(hlive z r' hz).1]
        simp only [atL, if_true]
        exact Ne.symm e
    · rintro q q' ⟨r, h⟩ ⟨r', h'⟩ _
      rw [(hH q r h).1, (hH q' r' h').1]
    · intro q hq
      by_cases e : q = l
      · subst e; simp
      · rw [upd_ne _ _ e]; exact hq
    · intro q hq; rw [e2] at hq; simp at hq
    · intro q r h c hc z hz
      obtain ⟨rfl, rfl⟩ := hH q r h
      rw [lbss_immE hc] at hz; simp at hz
    · rintro q ⟨r, h⟩
      obtain ⟨rfl, rfl⟩ := hH q r h
      exact .inl ⟨_, by simp [rowX]; rfl⟩
    · rintro q (hq | ⟨l1, r1, c, g1, g2, g3⟩) _
      · rw [e2] at hq; simp at hq
      · obtain ⟨rfl, rfl⟩ := hH l1 r1 g1
        rw [lbss_immE g2] at g3; simp at g3
    · rw [ren_nolb _ _ e2]
      exact hk x xs' e1 e2 e4
/-- By walking. -/
theorem row_of_go {P : Program} {G : Nat → Option (List IV)} {f : Nat} {n : Nat} {rs : List RO} {ac : AC} {args : List AV} {sz : Nat} {xs : List IV} {R : AV → List IV → Prop}
    (hF : compF P G f = some (n, rs, ac.bare)) (hn : args.length ≤ n) (ha : ∀ l ∈ lbss args, l = .par 0)
    (hg : go ⟨P, G, n⟩ (RetP rs fun x H' => ∃ xs', R x xs' ∧ x.lbs = [] ∧ xs'.length = xs.length ∧ H' (.par 0) = .live ⟨sz, immE xs'⟩) [.code ac] (argE args) (rowX sz xs)) : RowC P G f args sz xs R := by
  refine ⟨ha, spec_of_go hF hn ?_ ?_ hg⟩
  · rintro l ⟨r, h⟩
    by_cases e : l = .par 0
    · subst e; rfl
    · rw [rowX, upd_ne _ _ e] at h; simp [Hp.none] at h
  · intro l hl
    rw [ha l hl]; simp [rowX]
theorem RowC.mono {P : Program} {G : Nat → Option (List IV)} {f : Nat} {args : List AV} {sz : Nat} {xs : List IV} {R R' : AV → List IV → Prop} (h : RowC P G f args sz xs R) (hq : ∀ x c, R x c → R' x c) : RowC P G f args sz xs R' :=
  ⟨h.1, h.2.mono fun x H ⟨c, h1, h2⟩ => ⟨c, hq _ _ h1, h2⟩⟩
end Go.Am

/- THE ABSTRACT MACHINE, part 41: functions that are handed a slice that grows, and hand it back. -/
namespace Go.Am
open Go Go.RowKit
theorem SpecC.keepX {P : Program} {G : Nat → Option (List IV)} {f : Nat} {args : List AV} {H : Hp} {Q : AV → Hp → Prop} (h : SpecC P G f args H Q) (kp : AV → Lb → Prop) :
    SpecC P G f args H fun x H' => ∃ H1, Q x H1 ∧ H' = killE (kp x) H1 := by
  intro w A β vs hr hv
  refine (h w A β vs hr hv).mono ?_
  rintro e w' ⟨v, x, H1, β', rfl, hq, hr', hx, hm⟩
  exact ⟨v, x, killE (kp x) H1, β', rfl, ⟨H1, hq, rfl⟩, hr'.killE _, hx.killE _, fun l hl => by rw [Ne, killE_unused]; exact hm l hl⟩
/-- A contract of a function that is handed a slice of one's own, and hands back one: 'xs' lies in the row, then 'ys'. -/
def GrwC (P : Program) (G : Nat → Option (List IV)) (sz f : Nat) (args : List AV) (xs ys : List IV) : Prop :=
  (∀ l ∈ lbss args, l = .par 0) ∧ SpecC P G f args (rowX sz xs) fun x H' => ∃ L, x = .sl L sz 0 ys.length ∧ H' L = .live ⟨sz, immE ys⟩
theorem callT_grw {S : St} {f : Nat} {args cargs : List AV} {sz : Nat} {xs ys : List IV} {H : Hp} {k : AV → Hp → Prop} {u : Tw k} {l N : Lb} (h : GrwC S.P S.G sz f cargs xs ys)
    (ha : args = rens (atL l) cargs) (hl : H l = .live ⟨sz, immE xs⟩) (hN : H N = .unused) (hNf : N.fresh = true → l.fresh = true)
    (hk1 : k (.sl N sz 0 ys.length) (upd (upd H l .dead) N (.live ⟨sz, immE ys⟩))) (hk2 : k (.sl l sz 0 ys.length) (upd (upd H l .dead) l (.live ⟨sz, immE ys⟩))) : clK S f args H k u := by
  obtain ⟨h1, h3⟩ := h
  have hlive : ∀ q r, rowX sz xs q = .live r → q = .par 0 ∧ r = ⟨sz, immE xs⟩ := by
    intro q r h
    by_cases e : q = .par 0
    · subst e; simp [rowX] at h; exact ⟨rfl, h.symm⟩
    · rw [rowX, upd_ne _ _ e] at h; simp [Hp.none] at h
  have hHl : H l ≠ .unused := by rw [hl]; simp
  have hNl : N ≠ l := by rintro rfl; exact hHl hN
  refine .inr <| .inr ⟨⟨atL l, rowX sz xs, cargs, _, h3.keepX (fun x q => q ∈ x.lbs), ha, ?_, ?_, ?_, ?_, ?_, ?_, ?_⟩⟩
  · intro q r h
    obtain ⟨rfl, rfl⟩ := hlive q r h
    rw [renR_immE]
    simp only [atL, if_true, hl]
  · intro q hq
    by_cases e : q = .par 0
    · subst e; exact ⟨_, by simp [rowX]; rfl⟩
    · rw [rowX, upd_ne _ _ e] at hq; simp [Hp.none] at hq
  · rintro q q' ⟨r, h⟩ ⟨r', h'⟩ _
    rw [(hlive q r h).1, (hlive q' r' h').1]
  · intro q hq
    rw [h1 q hq]; simp [rowX]
  · rintro q ⟨r, h⟩
    rw [(hlive q r h).1]; rfl
  · intro q r h c hc z hz
    obtain ⟨rfl, rfl⟩ := hlive q r h
    rw [lbss_immE hc] at hz; simp at hz
  · rintro x H' ⟨H1, ⟨L, rfl, e5⟩, rfl⟩
    obtain ⟨L1, hL1⟩ : ∃ L1, L1 = (if L = .par 0 then l else N) := ⟨_, rfl⟩
    have hmem : ∀ q, q ∈ (AV.sl L sz 0 ys.length).lbs ↔ q = L := fun q => by simp [AV.lbs]
    have hH : ∀ q r, killE (fun q => q ∈ (AV.sl L sz 0 ys.length).lbs) H1 q = .live r → q = L ∧ r = ⟨sz, immE ys⟩ := by
      intro q r h
      obtain ⟨g1, g2⟩ := killE_live.1 h
      rw [hmem] at g2
      subst g2
      rw [e5] at g1; cases g1; exact ⟨rfl, rfl⟩
    have hH0 : killE (fun q => q ∈ (AV.sl L sz 0 ys.length).lbs) H1 L = .live ⟨sz, immE ys⟩ := killE_live.2 ⟨e5, (hmem L).2 rfl⟩
    have hρ : (fun q => if q = L then L1 else q) L = L1 := by simp
    have hused : ∀ q, H q ≠ .unused → upd (upd H l .dead) L1 (.live ⟨sz, immE ys⟩) q ≠ .unused := by
      intro q hq
      by_cases e : q = L1
      · subst e; simp
      · rw [upd_ne _ _ e]
        by_cases e2 : q = l
        · subst e2; simp
        · rw [upd_ne _ _ e2]; exact hq
    refine ⟨fun q => if q = L then L1 else q, upd (upd H l .dead) L1 (.live ⟨sz, immE ys⟩), ?_, ?_, ?_, hused, ?_, ?_, ?_, ?_, ?_⟩
    · rintro q ⟨r, g1⟩ ⟨r', g2⟩
      have e1 := (hlive q r g1).1
      have e2 := (hH q r' g2).1
      subst e1
      subst e2
      simp only [if_true, hL1, atL]
    · intro q r h
      by_cases e : q = L1
      · subst e
        simp at h
        refine .inr ⟨L, _, hH0, by simp, ?_⟩
        rw [← h, renR_immE]
      · rw [upd_ne _ _ e] at h
        by_cases e2 : q = l
        · subst e2; simp at h
        · rw [upd_ne _ _ e2] at h
          refine .inl ⟨h, ?_⟩
          rintro z ⟨r', hz⟩
          rw [(hlive z r' hz).1]
          simp only [atL, if_true]
          exact Ne.symm e2
    · rintro q q' ⟨r, h⟩ ⟨r', h'⟩ _
      rw [(hH q r h).1, (hH q' r' h').1]
    · intro q hq
      rw [hmem] at hq; subst hq
      simp
    · intro q r h c hc z hz
      obtain ⟨rfl, rfl⟩ := hH q r h
      rw [lbss_immE hc] at hz; simp at hz
    · rintro q ⟨r, h⟩
      obtain ⟨rfl, rfl⟩ := hH q r h
      by_cases e : q = .par 0
      · subst e; exact .inl ⟨_, by simp [rowX]; rfl⟩
      · right
        simp only [if_true, hL1, if_neg e]
        refine ⟨hN, fun hf => .inr ?_⟩
        rintro z ⟨r', hz⟩
        rw [(hlive z r' hz).1]
        simp only [atL, if_true]
        exact hNf hf
    · rintro q (hq | ⟨l1, r1, c, g1, g2, g3⟩) _
      · rw [hmem] at hq; subst hq; exact ⟨_, hH0⟩
      · obtain ⟨rfl, rfl⟩ := hH l1 r1 g1
        rw [lbss_immE g2] at g3; simp at g3
    · simp only [ren, if_true]
      rw [hL1]
      split
      · exact hk2
      · exact hk1
theorem far_grw {S : St} {F : List Lb} {sz f : Nat} {args cargs : List AV} {xs ys : List IV} {H : Hp} {k : AV → Hp → Prop} {u : Tw k} {l N : Lb} (h : GrwC S.P S.G sz f cargs xs ys)
    (ha : args = rens (atL l) cargs) (hl : H l = .live ⟨sz, immE xs⟩) (hN : H N = .unused) (hNf : N.fresh = true → l.fresh = true) (h1 : l.fam ∉ F) (h2 : N.fam ∉ F)
    (hk1 : k (.sl N sz 0 ys.length) (upd (upd H l .dead) N (.live ⟨sz, immE ys⟩))) (hk2 : k (.sl l sz 0 ys.length) (upd (upd H l .dead) l (.live ⟨sz, immE ys⟩))) : farK S F f args H k u := by
  refine ⟨fun x H' => (x = .sl N sz 0 ys.length ∧ H' = upd (upd H l .dead) N (.live ⟨sz, immE ys⟩)) ∨ (x = .sl l sz 0 ys.length ∧ H' = upd (upd H l .dead) l (.live ⟨sz, immE ys⟩)), ?_, ⟨_, _, .inl ⟨rfl, rfl⟩⟩, ?_⟩
  · exact callT_grw (k := fun x H' => (x = .sl N sz 0 ys.length ∧ H' = upd (upd H l .dead) N (.live ⟨sz, immE ys⟩)) ∨ (x = .sl l sz 0 ys.length ∧ H' = upd (upd H l .dead) l (.live ⟨sz, immE ys⟩))) (u := .mk) h ha hl hN hNf (.inl ⟨rfl, rfl⟩) (.inr ⟨rfl, rfl⟩)
  · have key : ∀ q : Lb, q.fam ∈ F → q ≠ l ∧ q ≠ N := fun q hq => ⟨fun e => h1 (e ▸ hq), fun e => h2 (e ▸ hq)⟩
    rintro x H' (⟨rfl, rfl⟩ | ⟨rfl, rfl⟩)
    · refine ⟨fun q hq => ?_, hk1⟩
      obtain ⟨e1, e2⟩ := key q hq
      rw [upd_ne _ _ e2, upd_ne _ _ e1]
    · refine ⟨fun q hq => ?_, hk2⟩
      obtain ⟨e1, e2⟩ := key q hq
      rw [upd_ne _ _ e1, upd_ne _ _ e1]
open Classical in
/-- An empty slice may be handed over as a slice of one's own; what comes of it is data. -/
theorem pure_of_grw {P : Program} {G : Nat → Option (List IV)} {sz f : Nat} {args : List AV} {ys : List IV} (h : GrwC P G sz f (.sl (.par 0) sz 0 0 :: args) [] ys) (h0 : 0 < sz) (ha : lbss args = []) (hf : Flat ys) :
    PureC P G f (.nil0 :: args) (.list ys) := by
  refine ⟨by simpa [lbss, AV.lbs] using ha, by simp [AV.lbs], ?_⟩
  obtain ⟨_, h3⟩ := h
  intro w A β vs hr hv
  have hlive : ∀ q r, rowX sz [] q = .live r → q = .par 0 ∧ r = ⟨sz, []⟩ := by
    intro q r h
    by_cases e : q = .par 0
    · subst e; simp [rowX, immE] at h; exact ⟨rfl, h.symm⟩
    · rw [rowX, upd_ne _ _ e] at h; simp [Hp.none] at h
  obtain ⟨β1, hβ1⟩ : ∃ β1 : Lb → Option Nat, β1 = upd β (.par 0) none := ⟨_, rfl⟩
  have hβ0 : β1 (.par 0) = none := by rw [hβ1]; simp
  have hnoD : ∀ k, ¬ Owned β1 (rowX sz []) k := by
    rintro k ⟨l, ⟨r, h⟩, hb⟩
    rw [(hlive l r h).1, hβ0] at hb; cases hb
  have hIm : ∀ k, Im (callK P G w A β Hp.none) β Hp.none k → Im (callK P G w A β1 (rowX sz [])) β1 (rowX sz []) k := fun k hk => ⟨hk.1, fun l ⟨r, hl⟩ hb => by
    rw [(hlive l r hl).1, hβ0] at hb; cases hb⟩
  have kp : ∀ ls : List Lb, (∀ l ∈ ls, l ≠ .par 0) → Keeps2 w w β β1 Hp.none (rowX sz []) (Im (callK P G w A β Hp.none) β Hp.none) (Im (callK P G w A β1 (rowX sz [])) β1 (rowX sz [])) ls := fun ls hls =>
    { im := fun k hk hs => ⟨hIm k hk, hs, rfl⟩
      lb := fun l hl ⟨r, hlv⟩ => absurd (hlive l r hlv).1 (hls l hl) }
  have hrel : RelB (callK P G w A β1 (rowX sz [])) β1 Env.any (rowX sz []) noAct w :=
    { defers := rfl, size := rfl
      regs := fun n => by simp [Env.any, RV]
      rows := fun l r h => by
        obtain ⟨rfl, rfl⟩ := hlive l r h
        exact ⟨h0, by simp, by rw [hβ0]⟩
      own := fun l g ⟨r, h⟩ hb => by rw [(hlive l r h).1, hβ0] at hb; cases hb
      inj := fun l l' g ⟨r, h⟩ _ hb => by rw [(hlive l r h).1, hβ0] at hb; cases hb
      ment := fun n => by simp [Env.any, AV.lbs]
      rment := fun l r h => by
        obtain ⟨rfl, rfl⟩ := hlive l r h
        simp
      frame := ⟨rfl, rfl, rfl, Nat.le_refl _, fun _ _ _ => rfl, fun _ _ h => h⟩
      stab := fun l hl => ⟨by obtain ⟨r, h⟩ := hl; simp only [callK] at h; simp [h], fun _ => rfl⟩
      fr := fun l g ⟨r, h⟩ _ hb => by rw [(hlive l r h).1, hβ0] at hb; cases hb
      glob := fun g cs hg => by
        obtain ⟨k1, k2, k3⟩ := hr.glob g cs hg
        exact ⟨hIm g k1, k2, CellsR.mono (kp [] (by simp)).toKeeps cs g 0 k1 k2 k3⟩ }
  have hv' : RVs w β1 (rowX sz []) (Im (callK P G w A β1 (rowX sz [])) β1 (rowX sz [])) (.sl (.par 0) sz 0 0 :: args) vs := by
    simp only [RVs] at hv ⊢
    obtain ⟨v, us, h1, h2, h4⟩ := hv
    refine ⟨v, us, h1, ?_, RVs.mono _ _ (kp _ (by rw [ha]; simp)) h4⟩
    simp only [RV] at h2 ⊢
    obtain ⟨ad, rfl⟩ := h2
    exact ⟨ad, 0, rfl, Nat.le_refl _, by simp [maxLen], by simp, fun _ => .inl rfl⟩
  refine (h3 w A β1 vs hrel hv').mono ?_
  rintro e w' ⟨v, x, H1, β', rfl, ⟨L, rfl, hL⟩, hr1, hx, _⟩
  have gw : Grew w w' := ⟨hr1.frame.os, hr1.frame.tape, hr1.frame.output, hr1.frame.size, fun k hk => hr1.frame.block k hk (hnoD k)⟩
  refine ⟨v, _, Hp.none, β, rfl, rfl, ?_, ?_, by simp [AV.lbs]⟩
  · exact { defers := rfl, size := rfl
            regs := fun n => by simp [Env.any, RV]
            rows := fun l r h => by simp [Hp.none] at h
            own := fun l g ⟨r, h⟩ => by simp [Hp.none] at h
            inj := fun l l' g ⟨r, h⟩ => by simp [Hp.none] at h
            ment := fun n => by simp [Env.any, AV.lbs]
            rment := fun l r h => by simp [Hp.none] at h
            frame := ⟨gw.os, gw.tape, gw.output, gw.size, fun k hk _ => gw.block k hk, fun k S hS => hr1.frame.bs k S hS⟩
            stab := fun l ⟨r, h⟩ => by simp [callK, Hp.none] at h
            fr := fun l g ⟨r, h⟩ => by simp [Hp.none] at h
            glob := fun g cs hg => by
              obtain ⟨k1, k2, k3⟩ := hr.glob g cs hg
              exact ⟨k1, Nat.lt_of_lt_of_le k2 gw.size, CellsR.mono (gw.keep2 β Hp.none _ []).toKeeps cs g 0 k1 k2 k3⟩ }
  · have hsz : 0 < sz := h0
    have hk : Keeps w' w' (Im (callK P G w A β1 (rowX sz [])) β' H1) (Im (callK P G w A β Hp.none) β Hp.none) := ⟨fun k hk hs => ⟨⟨hk.1, fun l ⟨r, hl⟩ => by simp [Hp.none] at hl⟩, hs, rfl⟩⟩
    simp only [RV] at hx
    obtain ⟨ad, c, rfl, g2, g3, g4, g5⟩ := hx
    simp only [RV, IVR]
    refine ⟨ad, c, rfl, g2, g3, ?_⟩
    by_cases hn : ys.length = 0
    · exact .inl hn
    · right
      rcases g5 ⟨_, hL⟩ with h6 | ⟨g, Sz, e1, e2, e3, e4⟩
      · omega
      · obtain ⟨cur, e0, cap, k1, k2, k3, k4, k5⟩ := (hr1.rows L _ hL).block e1
        have hg : w.heap.size ≤ g := (hr1.own L g ⟨_, hL⟩ e1).resolve_left (hnoD g)
        refine ⟨g, 0 * sz, sz, e2, ⟨.inr hg, fun l ⟨r, hl⟩ => by simp [Hp.none] at hl⟩, (Array.getElem?_eq_some_iff.1 k1).1, hsz, ElemsR_of _ _ _ (fun k y hy => ?_)⟩
        rw [ElemR_iff]
        have hcl : y.cells.length = sz := by
          have := (hr1.rows L _ hL).2.1 (y.cells.map IV.av1) (by
            simp only [immE]
            exact List.mem_map_of_mem (f := fun y : IV => y.cells.map IV.av1) (List.mem_of_getElem? hy))
          simpa using this
        refine ⟨hcl.symm, CellsR_of _ _ _ (fun j z hz => ?_)⟩
        obtain ⟨u, q1, q2⟩ := k5 k j (y.cells.map IV.av1) z.av1 (by simp [immE, hy]) (by simp [hz])
        refine ⟨u, ?_, RV_av1 hk (hf y (List.mem_of_getElem? hy) z (List.mem_of_getElem? hz)) q2⟩
        rw [cell_of_row w' g _ cur e0 (0, 0) k1, ← q1]
        congr 1
        change 0 * sz + k * sz + j = k * sz + j
        omega
/-- By walking. -/
theorem grw_of_go {P : Program} {G : Nat → Option (List IV)} {f : Nat} {n : Nat} {rs : List RO} {ac : AC} {args : List AV} {sz : Nat} {xs ys : List IV}
    (hF : compF P G f = some (n, rs, ac.bare)) (hn : args.length ≤ n) (ha : ∀ l ∈ lbss args, l = .par 0)
    (hg : go ⟨P, G, n⟩ (RetP rs fun x H' => ∃ L, x = .sl L sz 0 ys.length ∧ H' L = .live ⟨sz, immE ys⟩) [.code ac] (argE args) (rowX sz xs)) : GrwC P G sz f args xs ys := by
  refine ⟨ha, spec_of_go hF hn ?_ ?_ hg⟩
  · rintro l ⟨r, h⟩
    by_cases e : l = .par 0
    · subst e; rfl
    · rw [rowX, upd_ne _ _ e] at h; simp [Hp.none] at h
  · intro l hl
    rw [ha l hl]; simp [rowX]
end Go.Am

/- THE ABSTRACT MACHINE, part 42: loops in which a row that was handed in grows: only what was handed in keeps its name. -/
namespace Go.Am
open Go Go.RowKit
structure WE (ls : List Lb) (u : Lb → Bool) (ps : List (Nat × AV)) (rs : List (Lb × Row)) (env : Env) (H : Hp) (m : List (Lb × Lb)) : Prop where
  nf : ∀ l : Lb, l.entry = true → H l ≠ .unused → l ∈ ls ∨ u l = true
  e : EqL (rnF m) env ps
  r : RwL (rnF m) H rs
  inj : (ls.map (rnF m)).Nodup
  fr : ∀ l ∈ ls, (l.fresh = true → (rnF m l).fresh = true) ∧ (l.entry = true → rnF m l = l)
theorem WE.wk {ls : List Lb} {u : Lb → Bool} {ps : List (Nat × AV)} {rs : List (Lb × Row)} {env : Env} {H : Hp} {m : List (Lb × Lb)} (h : WE ls u ps rs env H m) (hls : rs.map Prod.fst = ls) (hp : ∀ l ∈ lbss (ps.map Prod.snd), l ∈ ls)
    (hr : ∀ q ∈ rs, ∀ cs ∈ q.2.els, ∀ l ∈ lbss cs, l ∈ ls) : Wk (rnF m) env H (ofL ps) (ofU u rs) := by
  have hlv : ∀ l, live (ofU u rs) l → l ∈ ls := fun l ⟨r, h⟩ => by rw [← hls]; exact List.mem_map.2 ⟨_, ofH_live (ofU_live.1 h), rfl⟩
  refine ⟨h.e.we, fun l r hl => RwL_mem h.r (ofH_live (ofU_live.1 hl)), fun l l' h1 h2 e => nodup_map_inj h.inj l (hlv l h1) l' (hlv l' h2) e, ofL_wm fun l hl => ofU_used (.inl (by rw [hls]; exact hp l hl)), fun l r hl cs hcs q hq => ?_,
    fun l hf => ⟨fun hu => ?_, fun hl => (h.fr l (hlv l hl)).2 hf⟩, fun l hl hf => (h.fr l (hlv l hl)).1 hf⟩
  · exact ofU_used (.inl (by rw [hls]; exact hr _ (ofH_live (ofU_live.1 hl)) cs hcs q hq))
  · exact ofU_used (by rw [hls]; exact h.nf l hf hu)
theorem loop_entry {σ : Type} {S : St} {Q : Post} {c : AC} {k : List It} {env : Env} {H : Hp} (ls : σ → List Lb) (u : σ → Lb → Bool) (ps : σ → List (Nat × AV)) (rs : σ → List (Lb × Row)) (μ : σ → Nat) (s0 : σ)
    (hls : ∀ s, (rs s).map Prod.fst = ls s) (hp : ∀ s, ∀ l ∈ lbss ((ps s).map Prod.snd), l ∈ ls s) (hr : ∀ s, ∀ q ∈ rs s, ∀ cs ∈ q.2.els, ∀ l ∈ lbss cs, l ∈ ls s) (h0 : ∃ m, WE (ls s0) (u s0) (ps s0) (rs s0) env H m)
    (round : ∀ s, go S (LoopX S Q k (fun env H s => ∃ m, WE (ls s) (u s) (ps s) (rs s) env H m) μ (μ s)) [.code c] (ofL (ps s)) (ofU (u s) (rs s))) : LoopG S Q c k env H :=
  loop_gen (fun s => ofL (ps s)) (fun s => ofU (u s) (rs s)) _ (fun _ _ s ⟨m, h⟩ => ⟨_, h.wk (hls s) (hp s) (hr s)⟩) μ s0 h0 round
end Go.Am

/- THE ABSTRACT MACHINE, part 43: functions that are handed rows of any shape, and hand rows back. -/
namespace Go.Am
open Go Go.RowKit
/-- A shape: rows by places; which name a place has is left open. -/
structure Shp where
  row : (Nat → Lb) → Nat → Option Row
  nat : ∀ (lab : Nat → Lb) (ρ : Lb → Lb) (p : Nat), row (fun i => ρ (lab i)) p = (row lab p).map (renR ρ)
  lbs : ∀ (lab : Nat → Lb) (p : Nat) (r : Row), row lab p = some r → ∀ cs ∈ r.els, ∀ q ∈ lbss cs, ∃ p', (row lab p').isSome = true ∧ q = lab p'
def Shp.ok (R : Shp) (p : Nat) : Prop := (R.row Lb.par p).isSome = true
theorem Shp.ok_iff (R : Shp) (lab : Nat → Lb) (p : Nat) : (R.row lab p).isSome = true ↔ R.ok p := by
  have h := R.nat Lb.par (fun q => match q with | .par i => lab i | q => q) p
  simp only at h
  unfold Shp.ok
  rw [show R.row lab p = _ from h]
  simp
/-- The rows lie so. -/
structure ShAt (lab : Nat → Lb) (R : Shp) (H : Hp) : Prop where
  row : ∀ p r, R.row lab p = some r → H (lab p) = .live r
  inj : ∀ p q, R.ok p → R.ok q → lab p = lab q → p = q
theorem ShAt.live {lab : Nat → Lb} {R : Shp} {H : Hp} (h : ShAt lab R H) {p : Nat} (hp : R.ok p) : Am.live H (lab p) := by
  obtain ⟨r, hr⟩ := Option.isSome_iff_exists.1 ((R.ok_iff lab p).2 hp)
  exact ⟨r, h.row p r hr⟩
open Classical in
/-- Rows of a shape, laid over others. -/
noncomputable def shH (lab : Nat → Lb) (R : Shp) (H : Hp) : Hp := fun q =>
  if h : ∃ p, R.ok p ∧ lab p = q then (match R.row lab (Classical.choose h) with | some r => .live r | none => .dead) else H q
/-- What is handed in: the places by their numbers. -/
noncomputable def inS (R : Shp) : Hp := shH Lb.par R Hp.none
/-- A contract of a function that is handed rows of the shape R: what comes of it is 'X', over rows of the shape 'R2'; those of 'fx' stay where they are. -/
def ShC (P : Program) (G : Nat → Option (List IV)) (f : Nat) (args : List AV) (R : Shp) (fx : List Nat) (Q : ((Nat → Lb) → AV) → Shp → Prop) : Prop :=
  (∀ l ∈ lbss args, ∃ p, R.ok p ∧ l = .par p) ∧ SpecC P G f args (inS R) fun x H' => ∃ t : ((Nat → Lb) → AV) × Shp × (Nat → Lb),
    Q t.1 t.2.1 ∧ (∀ ρ, ren ρ (t.1 t.2.2) = t.1 fun i => ρ (t.2.2 i)) ∧ (∀ l ∈ x.lbs, ∃ p, t.2.1.ok p ∧ l = t.2.2 p) ∧ x = t.1 t.2.2 ∧ ShAt t.2.2 t.2.1 H' ∧ ∀ p ∈ fx, t.2.2 p = .par p
theorem ShC.mono {P : Program} {G : Nat → Option (List IV)} {f : Nat} {args : List AV} {R : Shp} {fx : List Nat} {Q Q' : ((Nat → Lb) → AV) → Shp → Prop} (h : ShC P G f args R fx Q) (hq : ∀ X R, Q X R → Q' X R) : ShC P G f args R fx Q' :=
  ⟨h.1, h.2.mono fun x H ⟨t, h1, h2⟩ => ⟨t, hq _ _ h1, h2⟩⟩
end Go.Am

/- THE ABSTRACT MACHINE, part 37: many rows become data at once. -/
namespace Go.Am
open Go Go.RowKit
section
variable {K : Kx} {β : Lb → Option Nat} {env : Env} {H : Hp} {a : Act} {w : World} {X : Lb → Option (Nat × List IV)}
end
theorem Weaker.trans {S : St} {env env2 env3 : Env} {H H2 H3 : Hp} (h1 : Weaker S env H env2 H2) (h2 : Weaker S env2 H2 env3 H3) : Weaker S env H env3 H3 := fun K β a w e hf hr => by
  obtain ⟨β', hr'⟩ := h1 K β a w e hf hr
  exact h2 K β' a w e hf hr'
end Go.Am

/- THE ABSTRACT MACHINE, part 46: room that is known: what append and copy do. -/
namespace Go.Am
open Go Go.RowKit
section
variable {H : Hp} {l : Lb} {sz b d n c i m : Nat} {els news : List (List AV)} {xs : List IV}
end
theorem Flat.part {xs : List IV} (h : Flat xs) (i k : Nat) : Flat ((xs.drop i).take k) := fun y hy => h y (List.mem_of_mem_drop (List.mem_of_mem_take hy))
end Go.Am

/- Trees as text. -/
namespace Go.Am
open Go Go.RowKit
def bLt : Bs := [38, 108, 116, 59]
def bGt : Bs := [38, 103, 116, 59]
def bAmp : Bs := [38, 97, 109, 112, 59]
def bQuot : Bs := [38, 113, 117, 111, 116, 59]
def escC (v : Bool) (c : UInt8) : Bs :=
  if c = 60 then bLt else if c = 62 then bGt else if c = 38 then bAmp else if c = 34 ∧ v = true then bQuot else [c]
def esc (v : Bool) (s : Bs) : Bs := s.flatMap (escC v)
def shAttr (a : Attr) : Bs := 32 :: a.name ++ [61, 34] ++ esc true a.val ++ [34]
def shAttrs (as : List Attr) : Bs := as.flatMap shAttr
mutual
def Tree.sh : Tree → Bs
  | .mk t s as ks => if t then esc false s else 60 :: s ++ shAttrs as ++ (match ks with
    | [] => [47, 62]
    | k :: r => 62 :: (k.sh ++ shs r) ++ [60, 47] ++ s ++ [62])
def shs : List Tree → Bs
  | [] => []
  | x :: r => x.sh ++ shs r
end
theorem Tree.sh_t (x : Tree) (h : x.text = true) : x.sh = esc false x.s := by
  cases x with
  | mk t s as ks => simp only [Tree.text] at h; subst h; cases ks <;> simp [Tree.sh, Tree.s]
/-- What stands behind an element's attributes. -/
def endS (s : Bs) : List Tree → Bs
  | [] => [47, 62]
  | k :: r => 62 :: shs (k :: r) ++ [60, 47] ++ s ++ [62]
theorem endS_ne (s : Bs) {ks : List Tree} (h : ks ≠ []) : endS s ks = 62 :: shs ks ++ [60, 47] ++ s ++ [62] := by
  cases ks with
  | nil => exact absurd rfl h
  | cons k r => rfl
theorem Tree.sh_e (x : Tree) (h : x.text = false) : x.sh = 60 :: x.s ++ shAttrs x.attrs ++ endS x.s x.kids := by
  cases x with
  | mk t s as ks =>
    simp only [Tree.text] at h; subst h
    cases ks <;> simp [Tree.sh, Tree.s, Tree.attrs, Tree.kids, shs, endS]
def isLow (c : UInt8) : Bool := decide (97 ≤ c) && decide (c ≤ 122)
def isSp (c : UInt8) : Bool := c == 32 || c == 10
def printC (c : UInt8) : Bool := c == 10 || (decide (32 ≤ c) && decide (c ≤ 126))
def nameF (s : Bs) : Option (Bs × Bs) :=
  let n := s.takeWhile isLow
  if n = [] ∨ 8 < n.length then none else some (n, s.dropWhile isLow)
def takeF (p s : Bs) : Option Bs := if p.isPrefixOf s then some (s.drop p.length) else none
/-- The sign that an entity in front is, and what stands behind it. -/
def entF (s : Bs) : Option (UInt8 × Bs) :=
  if bLt.isPrefixOf s then some (60, s.drop 4) else if bGt.isPrefixOf s then some (62, s.drop 4) else if bAmp.isPrefixOf s then some (38, s.drop 5) else if bQuot.isPrefixOf s then some (34, s.drop 6) else none
theorem entF_lt {s r : Bs} {c : UInt8} (h : entF s = some (c, r)) : r.length < s.length := by
  unfold entF at h
  have key : ∀ p : Bs, 0 < p.length → p.isPrefixOf s = true → (s.drop p.length).length < s.length := fun p h0 hp => by
    obtain ⟨q, rfl⟩ := List.isPrefixOf_iff_prefix.1 hp
    simp; omega
  split at h
  · rename_i hp; simp only [Option.some.injEq, Prod.mk.injEq] at h; obtain ⟨_, rfl⟩ := h; exact key bLt (by decide) hp
  · split at h
    · rename_i hp; simp only [Option.some.injEq, Prod.mk.injEq] at h; obtain ⟨_, rfl⟩ := h; exact key bGt (by decide) hp
    · split at h
      · rename_i hp; simp only [Option.some.injEq, Prod.mk.injEq] at h; obtain ⟨_, rfl⟩ := h; exact key bAmp (by decide) hp
      · split at h
        · rename_i hp; simp only [Option.some.injEq, Prod.mk.injEq] at h; obtain ⟨_, rfl⟩ := h; exact key bQuot (by decide) hp
        · simp at h
def textF (v : Bool) (s : Bs) : Option (Bs × Bs) :=
  match s with
  | [] => some ([], [])
  | c :: r =>
    if c = 60 ∨ (c = 34 ∧ v = true) then some ([], c :: r)
    else if c = 38 then
      match h : entF (c :: r) with
      | some (e, q) => (textF v q).map fun x => (e :: x.1, x.2)
      | none => none
    else if c = 62 ∨ printC c = false then none
    else (textF v r).map fun x => (c :: x.1, x.2)
termination_by s.length
decreasing_by
  · exact entF_lt h
  · simp
theorem textF_len {v : Bool} : ∀ (n : Nat) (s t r : Bs), s.length ≤ n → textF v s = some (t, r) → r.length + t.length ≤ s.length := by
  intro n
  induction n with
  | zero =>
    intro s t r hn h
    have : s = [] := List.length_eq_zero_iff.1 (by omega)
    subst this
    rw [textF] at h; simp at h; obtain ⟨rfl, rfl⟩ := h; simp
  | succ n ih =>
    intro s t r hn h
    cases s with
    | nil => rw [textF] at h; simp at h; obtain ⟨rfl, rfl⟩ := h; simp
    | cons c q =>
      rw [textF] at h
      split at h
      · simp only [Option.some.injEq, Prod.mk.injEq] at h; obtain ⟨rfl, rfl⟩ := h; simp
      · split at h
        · split at h
          · rename_i e q' he
            have := entF_lt he
            obtain ⟨⟨t', r'⟩, h1, h2⟩ := Option.map_eq_some_iff.1 h
            simp only [Prod.mk.injEq] at h2; obtain ⟨rfl, rfl⟩ := h2
            have := ih q' t' r' (by simp at this hn; omega) h1
            simp at *; omega
          · simp at h
        · split at h
          · simp at h
          · obtain ⟨⟨t', r'⟩, h1, h2⟩ := Option.map_eq_some_iff.1 h
            simp only [Prod.mk.injEq] at h2; obtain ⟨rfl, rfl⟩ := h2
            have := ih q t' r' (by simp at hn; omega) h1
            simp at *; omega
/-- What is printed is read as it was, up to a mark. -/
theorem textF_esc (v : Bool) : ∀ (s r : Bs), s.all plainC = true → (∀ c r', r = c :: r' → c = 60 ∨ (c = 34 ∧ v = true)) → textF v (esc v s ++ r) = some (s, r)
  | [], r, _, hr => by
    cases r with
    | nil => simp [esc, textF]
    | cons c r' => simp only [esc, List.flatMap_nil, List.nil_append]; rw [textF, if_pos (hr c r' rfl)]
  | c :: s, r, hp, hr => by
    simp only [List.all_cons, Bool.and_eq_true] at hp
    have ih := textF_esc v s r hp.2 hr
    have e : esc v (c :: s) ++ r = escC v c ++ (esc v s ++ r) := by simp [esc]
    rw [e]
    have ent : ∀ (w : Bs) (d : UInt8), (∀ q : Bs, entF (w ++ q) = some (d, q)) → (∃ w', w = 38 :: w') → textF v (w ++ (esc v s ++ r)) = some (d :: s, r) := by
      intro w d h1 ⟨w', h2⟩
      have h3 := h1 (esc v s ++ r)
      subst h2
      simp only [List.cons_append] at h3 ⊢
      rw [textF, if_neg (by simp), if_pos rfl]
      split
      · rename_i e q h4
        rw [h3] at h4; simp only [Option.some.injEq, Prod.mk.injEq] at h4
        obtain ⟨rfl, rfl⟩ := h4
        rw [ih]; rfl
      · rename_i h4; rw [h3] at h4; cases h4
    unfold escC
    split
    · rename_i h; subst h; exact ent bLt 60 (fun q => by simp [entF, bLt, List.isPrefixOf]) ⟨_, rfl⟩
    · rename_i h1
      split
      · rename_i h; subst h; exact ent bGt 62 (fun q => by simp [entF, bLt, bGt, List.isPrefixOf]) ⟨_, rfl⟩
      · rename_i h2
        split
        · rename_i h; subst h; exact ent bAmp 38 (fun q => by simp [entF, bLt, bGt, bAmp, List.isPrefixOf]) ⟨_, rfl⟩
        · rename_i h3
          split
          · rename_i h; obtain ⟨rfl, rfl⟩ := h; exact ent bQuot 34 (fun q => by simp [entF, bLt, bGt, bAmp, bQuot, List.isPrefixOf]) ⟨_, rfl⟩
          · rename_i h4
            simp only [List.cons_append, List.nil_append]
            have hc : printC c = true := by
              have h := hp.1
              simp only [plainC, Bool.not_eq_true', Bool.and_eq_false_iff, Bool.or_eq_false_iff, bne_eq_false_iff_eq, decide_eq_false_iff_not] at h
              simp only [printC, Bool.or_eq_true, beq_iff_eq, Bool.and_eq_true, decide_eq_true_eq, UInt8.le_iff_toNat_le]
              rcases h with h | h
              · left; exact UInt8.toNat.inj (by show c.toNat = 10; omega)
              · right; constructor
                · show (32 : UInt8).toNat ≤ _; simp; omega
                · show _ ≤ (126 : UInt8).toNat; simp; omega
            rw [textF, if_neg (fun h => h.elim h1 h4), if_neg h3, if_neg (fun h => h.elim h2 (fun h => by rw [hc] at h; cases h)), ih]; rfl
end Go.Am

/- Trees out of text. -/
namespace Go.Am
open Go Go.RowKit
/-- Attributes by name; those of one name as they stood. -/
def insA (l : List Attr) (a : Attr) : List Attr :=
  match l with
  | [] => [a]
  | b :: r => if Op.bytesLess a.name b.name then a :: b :: r else b :: insA r a
def sortA (l : List Attr) : List Attr := l.foldl insA []
def attr1 (s : Bs) : Option (Attr × Bs) :=
  (nameF s).bind fun x => (takeF [61, 34] x.2).bind fun r => (textF true r).bind fun y => (takeF [34] y.2).map fun q => (⟨x.1, y.1⟩, q)
theorem takeF_len {p s r : Bs} (h : takeF p s = some r) : r.length + p.length = s.length := by
  unfold takeF at h
  split at h
  · rename_i hp
    obtain ⟨q, rfl⟩ := List.isPrefixOf_iff_prefix.1 hp
    simp only [Option.some.injEq] at h
    subst h
    simp; omega
  · simp at h
theorem nameF_len {s n r : Bs} (h : nameF s = some (n, r)) : s = n ++ r ∧ n ≠ [] := by
  unfold nameF at h
  simp only at h
  split at h
  · simp at h
  · rename_i hn
    simp only [Option.some.injEq, Prod.mk.injEq] at h
    obtain ⟨rfl, rfl⟩ := h
    exact ⟨List.takeWhile_append_dropWhile.symm, fun e => hn (.inl e)⟩
theorem attr1_lt {s r : Bs} {a : Attr} (h : attr1 s = some (a, r)) : r.length + a.name.length + a.val.length + 3 ≤ s.length := by
  unfold attr1 at h
  obtain ⟨⟨n, r1⟩, h1, h⟩ := Option.bind_eq_some_iff.1 h
  obtain ⟨r2, h2, h⟩ := Option.bind_eq_some_iff.1 h
  obtain ⟨⟨v, r3⟩, h3, h⟩ := Option.bind_eq_some_iff.1 h
  obtain ⟨r4, h4, h⟩ := Option.map_eq_some_iff.1 h
  simp only [Prod.mk.injEq] at h
  obtain ⟨rfl, rfl⟩ := h
  obtain ⟨rfl, _⟩ := nameF_len h1
  have e2 := takeF_len h2
  have e3 := textF_len _ _ _ _ (Nat.le_refl _) h3
  have e4 := takeF_len h4
  simp at *; omega
theorem dropW_le (p : UInt8 → Bool) (s : Bs) : (s.dropWhile p).length ≤ s.length := (List.dropWhile_suffix p).length_le
def goAttr (s s1 : Bs) : Bool := decide (s1.length < s.length) && match s1 with
  | [] => false
  | c :: _ => !(c == 62) && !(c == 47)
def attrsF (s : Bs) : Option (List Attr × Bs) :=
  if goAttr s (s.dropWhile isSp) then match h : attr1 (s.dropWhile isSp) with
    | some (a, r) => (attrsF r).map fun x => (a :: x.1, x.2)
    | none => none
  else some ([], s.dropWhile isSp)
termination_by s.length
decreasing_by
  have := attr1_lt h
  have := dropW_le isSp s
  omega
def openF (s : Bs) : Option (Bs × List Attr × Bs) :=
  (takeF [60] s).bind fun r => (nameF r).bind fun x => (attrsF x.2).map fun y => (x.1, y.1, y.2)
def closeF (nm s : Bs) : Option Bs :=
  (takeF [60, 47] s).bind fun r => (nameF r).bind fun x => if x.1 = nm then takeF [62] (x.2.dropWhile isSp) else none
def kidsF (el : Bs → Option (Tree × Bs)) (s : Bs) : Option (List Tree × Bs) :=
  match s with
  | [] => some ([], [])
  | c :: q =>
    if [60, 47].isPrefixOf (c :: q) then some ([], c :: q)
    else match (if c = 60 then el (c :: q) else (textF false (c :: q)).map fun x => (Tree.mk true x.1 [] [], x.2)) with
      | some (t, r) => if h : r.length < (c :: q).length then (kidsF el r).map fun x => (t :: x.1, x.2) else none
      | none => none
termination_by s.length
def elementF : Nat → Bs → Option (Tree × Bs)
  | 0, _ => none
  | d + 1, s => (openF s).bind fun x =>
    if [47, 62].isPrefixOf x.2.2 then some (.mk false x.1 (sortA x.2.1) [], x.2.2.drop 2)
    else (takeF [62] x.2.2).bind fun r => (kidsF (elementF d) r).bind fun y => (closeF x.1 y.2).map fun q => (.mk false x.1 (sortA x.2.1) y.1, q)
theorem attrsF_len : ∀ (n : Nat) (s : Bs) (l : List Attr) (r : Bs), s.length ≤ n → attrsF s = some (l, r) → r.length + wtA l ≤ s.length := by
  intro n
  induction n with
  | zero =>
    intro s l r hn h
    have : s = [] := List.length_eq_zero_iff.1 (by omega)
    subst this
    rw [attrsF] at h; simp [goAttr] at h; obtain ⟨rfl, rfl⟩ := h; simp [wtA]
  | succ n ih =>
    intro s l r hn h
    rw [attrsF] at h
    have h0 := dropW_le isSp s
    split at h
    · split at h
      · rename_i a q ha
        have h1 := attr1_lt ha
        obtain ⟨⟨l', r'⟩, h2, h3⟩ := Option.map_eq_some_iff.1 h
        simp only [Prod.mk.injEq] at h3
        obtain ⟨rfl, rfl⟩ := h3
        have := ih q l' r' (by omega) h2
        simp only [wtA, Attr.wt]; omega
      · simp at h
    · simp only [Option.some.injEq, Prod.mk.injEq] at h
      obtain ⟨rfl, rfl⟩ := h
      simp [wtA]; exact h0
theorem insA_wt (a : Attr) : ∀ l : List Attr, wtA (insA l a) = wtA l + a.wt
  | [] => by simp [insA, wtA]
  | b :: r => by unfold insA; split <;> simp [wtA, insA_wt a r] <;> omega
theorem foldA_wt : ∀ (l acc : List Attr), wtA (l.foldl insA acc) = wtA acc + wtA l
  | [], acc => by simp [wtA]
  | a :: r, acc => by simp only [List.foldl_cons, foldA_wt r, insA_wt, wtA]; omega
theorem sortA_wt (l : List Attr) : wtA (sortA l) = wtA l := by unfold sortA; rw [foldA_wt]; simp [wtA]
theorem openF_len {s nm r : Bs} {as : List Attr} (h : openF s = some (nm, as, r)) : r.length + nm.length + wtA as + 1 ≤ s.length ∧ 0 < nm.length := by
  unfold openF at h
  obtain ⟨r1, h1, h⟩ := Option.bind_eq_some_iff.1 h
  obtain ⟨⟨n, r2⟩, h2, h⟩ := Option.bind_eq_some_iff.1 h
  obtain ⟨⟨l, r3⟩, h3, h⟩ := Option.map_eq_some_iff.1 h
  simp only [Prod.mk.injEq] at h
  obtain ⟨rfl, rfl, rfl⟩ := h
  have e1 := takeF_len h1
  obtain ⟨rfl, e2⟩ := nameF_len h2
  have e3 := attrsF_len _ _ _ _ (Nat.le_refl _) h3
  have : 0 < n.length := List.length_pos_iff.2 e2
  simp at *; omega
theorem closeF_len {nm s r : Bs} (h : closeF nm s = some r) : r.length < s.length := by
  unfold closeF at h
  obtain ⟨r1, h1, h⟩ := Option.bind_eq_some_iff.1 h
  obtain ⟨⟨n, r2⟩, h2, h5⟩ := Option.bind_eq_some_iff.1 h
  split at h5
  · have e1 := takeF_len h1
    have e3 := takeF_len h5
    obtain ⟨rfl, e2⟩ := nameF_len h2
    have := dropW_le isSp r2
    simp at *; omega
  · simp at h5
theorem kidsF_len {el : Bs → Option (Tree × Bs)} (hel : ∀ s t r, el s = some (t, r) → t.wt + 3 * r.length ≤ 3 * s.length) : ∀ (n : Nat) (s : Bs) (l : List Tree) (r : Bs), s.length ≤ n → kidsF el s = some (l, r) → wtT l + 3 * r.length ≤ 3 * s.length := by
  intro n
  induction n with
  | zero =>
    intro s l r hn h
    have : s = [] := List.length_eq_zero_iff.1 (by omega)
    subst this
    rw [kidsF] at h; simp at h; obtain ⟨rfl, rfl⟩ := h; simp [wtT]
  | succ n ih =>
    intro s l r hn h
    cases s with
    | nil => rw [kidsF] at h; simp at h; obtain ⟨rfl, rfl⟩ := h; simp [wtT]
    | cons c q =>
      rw [kidsF] at h
      split at h
      · simp only [Option.some.injEq, Prod.mk.injEq] at h; obtain ⟨rfl, rfl⟩ := h; simp [wtT]
      · split at h
        · rename_i t r1 h1
          split at h
          · rename_i hlt
            obtain ⟨⟨l', r'⟩, h2, h3⟩ := Option.map_eq_some_iff.1 h
            simp only [Prod.mk.injEq] at h3
            obtain ⟨rfl, rfl⟩ := h3
            have e1 := ih r1 l' r' (by omega) h2
            have e2 : t.wt + 3 * r1.length ≤ 3 * (c :: q).length := by
              split at h1
              · exact hel _ _ _ h1
              · obtain ⟨⟨tx, r2⟩, h4, h5⟩ := Option.map_eq_some_iff.1 h1
                simp only [Prod.mk.injEq] at h5
                obtain ⟨rfl, rfl⟩ := h5
                have := textF_len _ _ _ _ (Nat.le_refl _) h4
                simp [Tree.wt, wtA, wtT] at *; omega
            simp only [wtT]; omega
          · simp at h
        · simp at h
theorem elementF_len : ∀ (d : Nat) (s : Bs) (t : Tree) (r : Bs), elementF d s = some (t, r) → t.wt + 3 * r.length ≤ 3 * s.length
  | 0, s, t, r, h => by simp [elementF] at h
  | d + 1, s, t, r, h => by
    unfold elementF at h
    obtain ⟨⟨nm, as, r1⟩, h1, h⟩ := Option.bind_eq_some_iff.1 h
    obtain ⟨e1, e2⟩ := openF_len h1
    split at h
    · rename_i hp
      obtain ⟨q, hq⟩ := List.isPrefixOf_iff_prefix.1 hp
      simp only [Option.some.injEq, Prod.mk.injEq] at h
      obtain ⟨rfl, rfl⟩ := h
      simp only at hq
      subst hq
      simp [Tree.wt, sortA_wt, wtT] at *; omega
    · obtain ⟨r2, h2, h⟩ := Option.bind_eq_some_iff.1 h
      obtain ⟨⟨ks, r3⟩, h3, h⟩ := Option.bind_eq_some_iff.1 h
      obtain ⟨r4, h4, h⟩ := Option.map_eq_some_iff.1 h
      simp only [Prod.mk.injEq] at h
      obtain ⟨rfl, rfl⟩ := h
      have k1 := takeF_len h2
      have k2 := kidsF_len (elementF_len d) _ _ _ _ (Nat.le_refl _) h3
      have k3 := closeF_len h4
      simp [Tree.wt, sortA_wt] at *; omega
theorem nameC_low (c : UInt8) : nameC c = isLow c := by
  unfold nameC isLow
  rw [Bool.eq_iff_iff]
  simp only [Bool.not_eq_true', Bool.or_eq_false_iff, decide_eq_false_iff_not, Bool.and_eq_true, decide_eq_true_eq, UInt8.le_iff_toNat_le]
  show _ ↔ 97 ≤ c.toNat ∧ c.toNat ≤ 122
  omega
theorem named_iff (s : Bs) : named s = true ↔ (∀ c ∈ s, isLow c = true) ∧ s ≠ [] ∧ s.length ≤ 8 := by
  simp only [named, Bool.and_eq_true, List.all_eq_true, decide_eq_true_eq, nameC_low]
  constructor
  · rintro ⟨h1, h2, h3⟩
    exact ⟨h1, by rintro rfl; simp at h2, by omega⟩
  · rintro ⟨h1, h2, h3⟩
    have := List.length_pos_iff.2 h2
    exact ⟨h1, by omega, by omega⟩
theorem takeW_app {p : UInt8 → Bool} : ∀ (s r : Bs), (∀ c ∈ s, p c = true) → (∀ c q, r = c :: q → p c = false) → (s ++ r).takeWhile p = s ∧ (s ++ r).dropWhile p = r
  | [], r, _, h => by
    cases r with
    | nil => simp
    | cons c q => simp [h c q rfl]
  | c :: s, r, h1, h2 => by
    have h := takeW_app s r (fun x hx => h1 x (by simp [hx])) h2
    simp [h1 c (by simp), h.1, h.2]
theorem nameF_app {n r : Bs} (hn : named n = true) (hr : ∀ c q, r = c :: q → isLow c = false) : nameF (n ++ r) = some (n, r) := by
  obtain ⟨h1, h2, h3⟩ := (named_iff n).1 hn
  obtain ⟨e1, e2⟩ := takeW_app n r h1 hr
  unfold nameF
  simp only [e1, e2]
  rw [if_neg (by rintro (h | h); exact h2 h; omega)]
theorem takeF_app (p r : Bs) : takeF p (p ++ r) = some r := by
  unfold takeF
  rw [if_pos (List.isPrefixOf_iff_prefix.2 ⟨r, rfl⟩)]
  simp
theorem plain_all {s : Bs} (h : plain s = true) : s.all plainC = true := by
  simp only [plain, Bool.and_eq_true] at h; exact h.1
theorem attr1_app {a : Attr} {r : Bs} (hn : named a.name = true) (hv : plain a.val = true) : attr1 (a.name ++ ([61, 34] ++ (esc true a.val ++ ([34] ++ r)))) = some (a, r) := by
  unfold attr1
  rw [nameF_app hn (by intro c q h; simp only [List.cons_append, List.cons.injEq] at h; rw [← h.1]; rfl)]
  simp only [Option.bind_some]
  rw [takeF_app]
  simp only [Option.bind_some]
  rw [textF_esc true a.val _ (plain_all hv) (by intro c q h; simp only [List.cons_append, List.cons.injEq] at h; exact .inr ⟨h.1.symm, rfl⟩)]
  simp only [Option.bind_some]
  rw [takeF_app]; rfl
theorem attrsF_app : ∀ (as : List Attr) (r : Bs), (∀ a ∈ as, named a.name = true ∧ plain a.val = true) → (∀ c q, r = c :: q → c = 62 ∨ c = 47) → attrsF (shAttrs as ++ r) = some (as, r)
  | [], r, _, hr => by
    have hd : r.dropWhile isSp = r := by
      cases r with
      | nil => rfl
      | cons c q => rcases hr c q rfl with rfl | rfl <;> rfl
    rw [attrsF]
    simp only [shAttrs, List.flatMap_nil, List.nil_append, hd]
    rw [if_neg (by simp [goAttr])]
  | a :: as, r, ha, hr => by
    have hn := ha a (by simp)
    obtain ⟨h1, h2, h3⟩ := (named_iff a.name).1 hn.1
    have e : shAttrs (a :: as) ++ r = 32 :: (a.name ++ ([61, 34] ++ (esc true a.val ++ ([34] ++ (shAttrs as ++ r))))) := by simp [shAttrs, shAttr]
    obtain ⟨c, q, hc⟩ : ∃ c q, a.name = c :: q := by cases hx : a.name with
      | nil => exact absurd hx h2
      | cons c q => exact ⟨c, q, rfl⟩
    have hlow : isLow c = true := h1 c (by rw [hc]; simp)
    have hsp : isSp c = false := by
      simp only [isLow, Bool.and_eq_true, decide_eq_true_eq, UInt8.le_iff_toNat_le] at hlow
      simp only [isSp, Bool.or_eq_false_iff, beq_eq_false_iff_ne]
      constructor <;> (rintro rfl; revert hlow; decide)
    have hne : (c == 62) = false ∧ (c == 47) = false := by
      simp only [isLow, Bool.and_eq_true, decide_eq_true_eq, UInt8.le_iff_toNat_le] at hlow
      simp only [beq_eq_false_iff_ne]
      constructor <;> (rintro rfl; revert hlow; decide)
    have hd : (32 :: (a.name ++ ([61, 34] ++ (esc true a.val ++ ([34] ++ (shAttrs as ++ r)))))).dropWhile isSp = a.name ++ ([61, 34] ++ (esc true a.val ++ ([34] ++ (shAttrs as ++ r)))) := by
      rw [List.dropWhile_cons_of_pos (by rfl), hc]
      simp [hsp]
    rw [e, attrsF, hd, if_pos (by
      unfold goAttr
      rw [hc]; simp only [List.cons_append, hne.1, hne.2]; simp)]
    split
    · rename_i a' q' h4
      rw [attr1_app hn.1 hn.2] at h4
      simp only [Option.some.injEq, Prod.mk.injEq] at h4
      obtain ⟨rfl, rfl⟩ := h4
      rw [attrsF_app as r (fun x hx => ha x (by simp [hx])) hr]; rfl
    · rename_i h4
      rw [attr1_app hn.1 hn.2] at h4; cases h4
end Go.Am

/- Trees out of their own text. -/
namespace Go.Am
open Go Go.RowKit
theorem u8_lt_irr (a : UInt8) : ¬ a < a := by rw [UInt8.lt_iff_toNat_lt]; omega
theorem u8_lt_tr {a b c : UInt8} (h : a < b) (h2 : b < c) : a < c := by rw [UInt8.lt_iff_toNat_lt] at *; omega
theorem u8_tri (a b : UInt8) : a < b ∨ a = b ∨ b < a := by
  simp only [UInt8.lt_iff_toNat_lt]
  rcases Nat.lt_trichotomy a.toNat b.toNat with h | h | h
  · exact .inl h
  · exact .inr (.inl (UInt8.toNat.inj h))
  · exact .inr (.inr h)
theorem bl_irr : ∀ x : Bs, Op.bytesLess x x = false
  | [] => rfl
  | a :: x => by simp [Op.bytesLess, u8_lt_irr, bl_irr x]
theorem bl_tr : ∀ {x y z : Bs}, Op.bytesLess x y = true → Op.bytesLess y z = true → Op.bytesLess x z = true
  | [], [], _, h, _ => by simp [Op.bytesLess] at h
  | [], _ :: _, [], _, h => by simp [Op.bytesLess] at h
  | [], _ :: _, _ :: _, _, _ => rfl
  | _ :: _, [], _, h, _ => by simp [Op.bytesLess] at h
  | _ :: _, _ :: _, [], _, h => by simp [Op.bytesLess] at h
  | a :: x, b :: y, c :: z, h1, h2 => by
    simp only [Op.bytesLess, Bool.or_eq_true, decide_eq_true_eq, Bool.and_eq_true, beq_iff_eq] at h1 h2 ⊢
    rcases h1 with h1 | ⟨rfl, h1⟩
    · rcases h2 with h2 | ⟨rfl, h2⟩
      · exact .inl (u8_lt_tr h1 h2)
      · exact .inl h1
    · rcases h2 with h2 | ⟨rfl, h2⟩
      · exact .inl h2
      · exact .inr ⟨rfl, bl_tr h1 h2⟩
theorem bl_asym {x y : Bs} (h : Op.bytesLess x y = true) : Op.bytesLess y x = false := by
  cases h2 : Op.bytesLess y x with
  | false => rfl
  | true => have := bl_tr h h2; rw [bl_irr] at this; cases this
theorem bl_tri : ∀ x y : Bs, Op.bytesLess x y = true ∨ x = y ∨ Op.bytesLess y x = true
  | [], [] => .inr (.inl rfl)
  | [], _ :: _ => .inl rfl
  | _ :: _, [] => .inr (.inr rfl)
  | a :: x, b :: y => by
    simp only [Op.bytesLess, Bool.or_eq_true, decide_eq_true_eq, Bool.and_eq_true, beq_iff_eq, List.cons.injEq]
    rcases u8_tri a b with h | rfl | h
    · exact .inl (.inl h)
    · rcases bl_tri x y with h | rfl | h
      · exact .inl (.inr ⟨rfl, h⟩)
      · exact .inr (.inl ⟨rfl, rfl⟩)
      · exact .inr (.inr (.inr ⟨rfl, h⟩))
    · exact .inr (.inr (.inl h))
/-- By name, each once. -/
def risA : List Attr → Bool
  | [] => true
  | [_] => true
  | a :: b :: r => Op.bytesLess a.name b.name && risA (b :: r)
theorem okAttr_cons (a : Attr) (l : List Attr) (i : Nat) : okAttr (a :: l) (i + 1) = (okAttr l i && (if i = 0 then match l[0]? with | some b => Op.bytesLess a.name b.name | none => true else true)) := by
  unfold okAttr
  cases i with
  | zero =>
    simp only [List.getElem?_cons_succ, Nat.zero_add, Nat.add_sub_cancel, List.getElem?_cons_zero, if_true]
    cases l[0]? <;> simp [Bool.and_assoc]
  | succ i =>
    simp only [List.getElem?_cons_succ, Nat.add_sub_cancel]
    cases l[i + 1]? <;> simp
theorem goodAttrs_iff (as : List Attr) : goodAttrs as = true ↔ (∀ a ∈ as, named a.name = true ∧ plain a.val = true) ∧ risA as = true ∧ as.length ≤ 4 := by
  have key : ∀ as : List Attr, (∀ i, i < as.length → okAttr as i = true) ↔ (∀ a ∈ as, named a.name = true ∧ plain a.val = true) ∧ risA as = true := by
    intro as
    induction as with
    | nil => simp [risA]
    | cons a l ih =>
      constructor
      · intro h
        have h0 := h 0 (by simp)
        have ih' := ih.1 fun i hi => by
          have := h (i + 1) (by simpa using hi)
          rw [okAttr_cons, Bool.and_eq_true] at this; exact this.1
        simp only [okAttr, List.getElem?_cons_zero, Bool.and_eq_true] at h0
        refine ⟨fun x hx => ?_, ?_⟩
        · simp only [List.mem_cons] at hx
          rcases hx with rfl | hx
          · exact ⟨h0.1, h0.2.1⟩
          · exact ih'.1 x hx
        · cases l with
          | nil => rfl
          | cons b r =>
            have := h 1 (by simp)
            rw [okAttr_cons, Bool.and_eq_true] at this
            simp only [risA, Bool.and_eq_true]
            exact ⟨by simpa using this.2, ih'.2⟩
      · rintro ⟨h1, h2⟩ i hi
        have hl : ∀ i, i < l.length → okAttr l i = true := ih.2 ⟨fun x hx => h1 x (by simp [hx]), by
          cases l with
          | nil => rfl
          | cons b r => simp only [risA, Bool.and_eq_true] at h2; exact h2.2⟩
        cases i with
        | zero => simp [okAttr, (h1 a (by simp)).1, (h1 a (by simp)).2]
        | succ i =>
          rw [okAttr_cons, hl i (by simpa using hi)]
          cases l with
          | nil => simp at hi
          | cons b r =>
            simp only [risA, Bool.and_eq_true] at h2
            by_cases e : i = 0
            · simp [e, h2.1]
            · simp [e]
  unfold goodAttrs
  rw [Bool.and_eq_true, List.all_eq_true, ← and_assoc, ← key]
  constructor
  · rintro ⟨h1, h2⟩
    simp only [decide_eq_true_eq] at h2
    exact ⟨fun i hi => h1 i (by simpa using hi), by omega⟩
  · rintro ⟨h1, h2⟩
    exact ⟨fun i hi => h1 i (by simpa using hi), by simp only [decide_eq_true_eq]; omega⟩
theorem risA_lt : ∀ {a : Attr} {l : List Attr}, risA (a :: l) = true → ∀ b ∈ l, Op.bytesLess a.name b.name = true
  | _, [], _, b, hb => by simp at hb
  | a, c :: r, h, b, hb => by
    simp only [risA, Bool.and_eq_true] at h
    simp only [List.mem_cons] at hb
    rcases hb with rfl | hb
    · exact h.1
    · exact bl_tr h.1 (risA_lt h.2 b hb)
theorem risA_tail {a : Attr} {l : List Attr} (h : risA (a :: l) = true) : risA l = true := by
  cases l with
  | nil => rfl
  | cons b r => simp only [risA, Bool.and_eq_true] at h; exact h.2
theorem insA_last {a : Attr} : ∀ (l : List Attr), (∀ b ∈ l, Op.bytesLess b.name a.name = true) → insA l a = l ++ [a]
  | [], _ => rfl
  | b :: r, h => by
    unfold insA
    rw [if_neg (by rw [bl_asym (h b (by simp))]; simp), insA_last r (fun c hc => h c (by simp [hc]))]; rfl
theorem foldA_ris : ∀ (l acc : List Attr), risA l = true → (∀ a ∈ l, ∀ b ∈ acc, Op.bytesLess b.name a.name = true) → l.foldl insA acc = acc ++ l
  | [], acc, _, _ => by simp
  | a :: r, acc, h, hb => by
    simp only [List.foldl_cons]
    rw [insA_last acc (hb a (by simp)), foldA_ris r _ (risA_tail h)]
    · simp
    · intro x hx b hbm
      simp only [List.mem_append, List.mem_singleton] at hbm
      rcases hbm with hbm | rfl
      · exact hb x (by simp [hx]) b hbm
      · exact risA_lt h x hx
theorem sortA_ris {l : List Attr} (h : risA l = true) : sortA l = l := by unfold sortA; rw [foldA_ris l [] h (by simp)]; simp
theorem openF_app {s r : Bs} {as : List Attr} (hn : named s = true) (ha : goodAttrs as = true) (hr : ∀ c q, r = c :: q → c = 62 ∨ c = 47) (hr0 : r ≠ []) : openF ([60] ++ (s ++ (shAttrs as ++ r))) = some (s, as, r) := by
  unfold openF
  rw [takeF_app]
  simp only [Option.bind_some]
  rw [nameF_app hn]
  · simp only [Option.bind_some]
    rw [attrsF_app as r ((goodAttrs_iff as).1 ha).1 hr]; rfl
  · intro c q h
    cases as with
    | nil =>
      simp only [shAttrs, List.flatMap_nil, List.nil_append] at h
      rcases hr c q h with rfl | rfl <;> rfl
    | cons a as =>
      simp only [shAttrs, List.flatMap_cons, shAttr, List.cons_append, List.cons.injEq] at h
      rw [← h.1]; rfl
theorem closeF_app {s r : Bs} (hn : named s = true) : closeF s ([60, 47] ++ (s ++ ([62] ++ r))) = some r := by
  unfold closeF
  rw [takeF_app]
  simp only [Option.bind_some]
  rw [nameF_app hn (by intro c q h; simp only [List.cons_append, List.cons.injEq] at h; rw [← h.1]; rfl)]
  simp only [Option.bind_some, if_true]
  have : ([62] ++ r : Bs).dropWhile isSp = [62] ++ r := rfl
  rw [this, takeF_app]
theorem esc_head {v : Bool} {s : Bs} {c : UInt8} {q : Bs} (h : esc v s = c :: q) : c ≠ 60 := by
  cases s with
  | nil => simp [esc] at h
  | cons d s =>
    simp only [esc, List.flatMap_cons] at h
    unfold escC at h
    split at h
    · simp only [bLt, List.cons_append, List.cons.injEq] at h; rw [← h.1]; decide
    · rename_i h1
      split at h
      · simp only [bGt, List.cons_append, List.cons.injEq] at h; rw [← h.1]; decide
      · split at h
        · simp only [bAmp, List.cons_append, List.cons.injEq] at h; rw [← h.1]; decide
        · split at h
          · simp only [bQuot, List.cons_append, List.cons.injEq] at h; rw [← h.1]; decide
          · simp only [List.cons_append, List.cons.injEq] at h; rw [← h.1]; exact h1
theorem escC_ne (v : Bool) (c : UInt8) : escC v c ≠ [] := by
  unfold escC; split
  · decide
  · split
    · decide
    · split
      · decide
      · split
        · decide
        · simp
theorem esc_ne {v : Bool} {s : Bs} (h : s ≠ []) : esc v s ≠ [] := by
  cases s with
  | nil => exact absurd rfl h
  | cons c s =>
    simp only [esc, List.flatMap_cons]
    intro e
    exact escC_ne v c (List.append_eq_nil_iff.1 e).1
mutual
theorem elementF_sh : ∀ (x : Tree) (d : Nat) (r : Bs), x.fine = true → x.text = false → x.dep ≤ d → elementF d (x.sh ++ r) = some (x, r)
  | .mk t s as ks, 0, r, _, _, hd => by simp [Tree.dep] at hd
  | .mk t s as ks, d + 1, r, hf, ht, hd => by
    simp only [Tree.text] at ht
    subst ht
    have hf' := hf
    rw [Tree.fine_e _ rfl] at hf'
    simp only [Tree.s, Tree.attrs, Tree.kids, Bool.and_eq_true] at hf'
    obtain ⟨h1, h2, h3⟩ := hf'
    have hs := sortA_ris ((goodAttrs_iff as).1 h2).2.1
    simp only [Tree.dep] at hd
    rw [Tree.sh_e _ rfl]
    simp only [Tree.s, Tree.attrs, Tree.kids]
    unfold elementF
    by_cases hk : ks = []
    · subst hk
      have e : 60 :: s ++ shAttrs as ++ endS s [] ++ r = [60] ++ (s ++ (shAttrs as ++ ([47, 62] ++ r))) := by simp [endS]
      rw [e, openF_app h1 h2 (by intro c q h; simp only [List.cons_append, List.cons.injEq] at h; exact .inr h.1.symm) (by simp)]
      simp only [Option.bind_some, hs]
      rw [if_pos (by simp [List.isPrefixOf])]
      rfl
    · have e : 60 :: s ++ shAttrs as ++ endS s ks ++ r = [60] ++ (s ++ (shAttrs as ++ ([62] ++ (shs ks ++ ([60, 47] ++ (s ++ ([62] ++ r))))))) := by rw [endS_ne s hk]; simp
      rw [e, openF_app h1 h2 (by intro c q h; simp only [List.cons_append, List.cons.injEq] at h; exact .inl h.1.symm) (by simp)]
      simp only [Option.bind_some, hs]
      rw [if_neg (by simp [List.isPrefixOf])]
      rw [takeF_app]
      simp only [Option.bind_some]
      rw [kidsF_sh ks none d ([60, 47] ++ (s ++ ([62] ++ r))) h3 (by omega) (by intro c q h; simp only [List.cons_append, List.cons.injEq] at h; exact h.1.symm) (by simp [List.isPrefixOf])]
      simp only [Option.bind_some]
      rw [closeF_app h1]; rfl
theorem kidsF_sh : ∀ (ks : List Tree) (p : Option Bool) (d : Nat) (r : Bs), fines p ks = true → depT ks ≤ d → (∀ c q, r = c :: q → c = 60) → (r = [] ∨ [60, 47].isPrefixOf r = true) → kidsF (elementF d) (shs ks ++ r) = some (ks, r)
  | [], p, d, r, _, _, _, hr => by
    simp only [shs, List.nil_append]
    cases r with
    | nil => rw [kidsF]
    | cons c q =>
      rw [kidsF, if_pos (by rcases hr with hr | hr; simp at hr; exact hr)]
  | x :: ks, p, d, r, hf, hd, hc, hr => by
    simp only [fines, Bool.and_eq_true] at hf
    obtain ⟨h1, h2, h3⟩ := hf
    simp only [depT] at hd
    have ih := kidsF_sh ks (some x.text) d r h3 (by omega) hc hr
    have e : shs (x :: ks) ++ r = x.sh ++ (shs ks ++ r) := by simp [shs]
    rw [e]
    cases hx : x.text with
    | false =>
      have he := elementF_sh x d (shs ks ++ r) h1 hx (by omega)
      have hl := elementF_len d _ _ _ he
      have hw := x.wt_eq
      have hn : named x.s = true := by
        rw [x.fine_e hx] at h1
        simp only [Bool.and_eq_true] at h1; exact h1.1
      obtain ⟨n1, n2, n3⟩ := (named_iff x.s).1 hn
      obtain ⟨c, q, hq⟩ : ∃ c q, x.s = c :: q := by cases hx : x.s with
        | nil => exact absurd hx n2
        | cons c q => exact ⟨c, q, rfl⟩
      have hlow : isLow c = true := n1 c (by rw [hq]; simp)
      have h47 : c ≠ 47 := by rintro rfl; revert hlow; decide
      obtain ⟨q', hq'⟩ : ∃ q', x.sh ++ (shs ks ++ r) = 60 :: c :: q' := by rw [x.sh_e hx, hq]; simp
      rw [hq'] at he hl ⊢
      rw [kidsF, if_neg (by simp [List.isPrefixOf, Ne.symm h47]), if_pos rfl, he]
      simp only
      rw [dif_pos (by omega), ih]; rfl
    | true =>
      rw [x.fine_t hx] at h1
      simp only [Bool.and_eq_true, bne_iff_ne, beq_iff_eq, List.length_eq_zero_iff] at h1
      obtain ⟨g1, g2, g3, g4⟩ := h1
      have hnx : ∀ c q, shs ks ++ r = c :: q → c = 60 := by
        intro c q h
        cases ks with
        | nil => exact hc c q h
        | cons y ks =>
          simp only [fines, Bool.and_eq_true] at h3
          have hy : y.text = false := by
            have := h3.2.1; rw [hx] at this; simpa using this
          simp only [shs, y.sh_e hy, List.cons_append, List.cons.injEq] at h
          exact h.1.symm
      have ht := textF_esc false x.s (shs ks ++ r) (plain_all g1) (fun c q h => .inl (hnx c q h))
      rw [x.sh_t hx]
      obtain ⟨c, q, hq⟩ : ∃ c q, esc false x.s = c :: q := by cases hx : esc false x.s with
        | nil => exact absurd hx (esc_ne g2)
        | cons c q => exact ⟨c, q, rfl⟩
      have hc60 := esc_head hq
      have hxe : x = Tree.mk true x.s [] [] := Tree.ext hx rfl g3 g4
      rw [hq] at ht ⊢
      simp only [List.cons_append] at ht ⊢
      rw [kidsF, if_neg (by simp [List.isPrefixOf, Ne.symm hc60]), if_neg hc60, ht]
      simp only [Option.map_some]
      rw [dif_pos (by simp; omega), ih]
      simp only [Option.map_some]
      rw [← hxe]
end
end Go.Am

/- Trees out of text by pieces and a stack: the same. -/
namespace Go.Am
open Go Go.RowKit
abbrev stopC (v : Bool) (c : UInt8) : Prop := c = 60 ∨ (c = 34 ∧ v = true)
theorem textF_nil (v : Bool) : textF v [] = some ([], []) := by rw [textF]
theorem textF_stop {v : Bool} {c : UInt8} (hc : stopC v c) (r : Bs) : textF v (c :: r) = some ([], c :: r) := by rw [textF, if_pos hc]
end Go.Am
