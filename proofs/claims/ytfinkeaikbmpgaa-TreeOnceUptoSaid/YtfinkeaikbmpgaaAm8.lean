/- THE ABSTRACT MACHINE, part 8: what new rows, dead rows, turned rows do to the relation. -/
import Derived.Test.YtfinkeaikbmpgaaAm7
set_option linter.defProp false
set_option linter.unnecessarySimpa false
set_option linter.unusedVariables false
set_option linter.unusedSimpArgs false
namespace Go.Am
open Go Go.RowKit

def upd {γ : Type} (f : Lb → γ) (l : Lb) (x : γ) : Lb → γ := fun l' => if l' = l then x else f l'

@[simp] theorem upd_same {γ : Type} (f : Lb → γ) (l : Lb) (x : γ) : upd f l x l = x := by simp [upd]
theorem upd_ne {γ : Type} (f : Lb → γ) {l l' : Lb} (x : γ) (h : l' ≠ l) : upd f l x l' = f l' := by simp [upd, h]

section
variable {K : Kx} {β : Lb → Option Nat} {env : Env} {H : Hp} {a : Act} {w : World}

theorem RelB.blk_lt (hr : RelB K β env H a w) {l : Lb} {g : Nat} (hl : live H l) (hb : β l = some g) : g < w.heap.size := by
  obtain ⟨r, hr'⟩ := hl
  obtain ⟨_, _, h3⟩ := hr.rows l r hr'
  simp only [hb] at h3
  obtain ⟨cur, e, cap, h4, _⟩ := h3
  exact (Array.getElem?_eq_some_iff.1 h4).1

theorem bsz_lt {w : World} {g S : Nat} (h : bsz w g = some S) : g < w.heap.size := by
  unfold bsz at h
  cases hg : w.heap[g]? with
  | none => simp [hg] at h
  | some o => exact (Array.getElem?_eq_some_iff.1 hg).1

/-- A row dies. -/
theorem RelB.kill (hr : RelB K β env H a w) (l : Lb) (hu : H l ≠ .unused) : RelB K β env (upd H l .dead) a w := by
  have hlive : ∀ l', live (upd H l .dead) l' → live H l' ∧ l' ≠ l := by
    intro l' ⟨r, h⟩
    by_cases e : l' = l
    · subst e; simp at h
    · rw [upd_ne _ _ e] at h; exact ⟨⟨r, h⟩, e⟩
  have keep : ∀ ls, Keeps2 w w β β H (upd H l .dead) (Im K β H) (Im K β (upd H l .dead)) ls := fun ls =>
    { im := fun k hk hs => ⟨⟨hk.1, fun l' hl' => hk.2 l' (hlive l' hl').1⟩, hs, rfl⟩
      lb := fun l' _ hl' => ⟨(hlive l' hl').1, rfl, fun _ _ _ h => h⟩ }
  refine ⟨hr.defers, hr.size, fun n => RV.mono _ _ (keep _) (hr.regs n), ?_, fun l' g h => hr.own l' g (hlive l' h).1, fun l1 l2 g h1 h2 => hr.inj l1 l2 g (hlive l1 h1).1 (hlive l2 h2).1, ?_, ?_, hr.frame, ?_, ?_, fun l' g h => hr.fr l' g (hlive l' h).1⟩
  · intro l' r h
    have hne := (hlive l' ⟨r, h⟩).2
    rw [upd_ne _ _ hne] at h
    obtain ⟨h1, h2, h3⟩ := hr.rows l' r h
    refine ⟨h1, h2, ?_⟩
    cases hb : β l' with
    | none => simpa [hb] using h3
    | some g =>
      simp only [hb] at h3 ⊢
      obtain ⟨cur, e, cap, e1, e2, e3, e4, e5⟩ := h3
      exact ⟨cur, e, cap, e1, e2, e3, e4, fun i j cs x hi hj => let ⟨v, k1, k2⟩ := e5 i j cs x hi hj; ⟨v, k1, RV.mono _ _ (keep _) k2⟩⟩
  · intro n l' hl'
    by_cases e : l' = l
    · subst e; simp
    · rw [upd_ne _ _ e]; exact hr.ment n l' hl'
  · intro l1 r h cs hcs l' hl'
    have hne := (hlive l1 ⟨r, h⟩).2
    rw [upd_ne _ _ hne] at h
    by_cases e : l' = l
    · subst e; simp
    · rw [upd_ne _ _ e]; exact hr.rment l1 r h cs hcs l' hl'
  · intro g cs hg
    obtain ⟨h1, h2, h3⟩ := hr.glob g cs hg
    exact ⟨((keep []).im g h1 h2).1, h2, CellsR.mono (keep []).toKeeps cs g 0 h1 h2 h3⟩
  · intro l' hl'
    obtain ⟨h1, h2⟩ := hr.stab l' hl'
    refine ⟨?_, fun h => h2 (hlive l' h).1⟩
    by_cases e : l' = l
    · subst e; simp
    · rw [upd_ne _ _ e]; exact h1

/-- A new row comes: a virtual one (nothing yet), or a new block. -/
theorem RelB.addRow (hr : RelB K β env H a w) (l : Lb) (hu : H l = .unused) {r : Row} {w' : World} (gw : Grew w w') (b : Option Nat)
    (hb : ∀ g, b = some g → w.heap.size ≤ g) (hm : ∀ cs ∈ r.els, ∀ l' ∈ lbss cs, H l' ≠ .unused)
    (hrow : RowR w' (upd β l b) (upd H l (.live r)) (Im K (upd β l b) (upd H l (.live r))) l r) : RelB K (upd β l b) env (upd H l (.live r)) a w' := by
  have hlive : ∀ l', live (upd H l (.live r)) l' → l' ≠ l → live H l' := by
    intro l' ⟨r', h⟩ e
    rw [upd_ne _ _ e] at h; exact ⟨r', h⟩
  have keep : ∀ ls, (∀ l' ∈ ls, H l' ≠ .unused) → Keeps2 w w' β (upd β l b) H (upd H l (.live r)) (Im K β H) (Im K (upd β l b) (upd H l (.live r))) ls := fun ls hls =>
    { im := fun k hk hs => ⟨⟨hk.1, fun l' hl' => by
        by_cases e : l' = l
        · subst e
          simp only [upd_same]
          intro hbk
          have := hb k hbk
          omega
        · rw [upd_ne _ _ e]; exact hk.2 l' (hlive l' hl' e)⟩, Nat.lt_of_lt_of_le hs gw.size, gw.block k hs⟩
      lb := fun l' hl'' hl' => by
        have e : l' ≠ l := fun e => hls l' hl'' (e ▸ hu)
        refine ⟨hlive l' hl' e, upd_ne _ _ e, fun g S _ hS => ?_⟩
        unfold bsz at *
        rwa [gw.block g (bsz_lt hS)] }
  have hold : ∀ l' r', l' ≠ l → H l' = .live r' → RowR w' (upd β l b) (upd H l (.live r)) (Im K (upd β l b) (upd H l (.live r))) l' r' := by
    intro l' r' e h
    obtain ⟨h1, h2, h3⟩ := hr.rows l' r' h
    refine ⟨h1, h2, ?_⟩
    rw [upd_ne _ _ e]
    cases hb' : β l' with
    | none => simpa [hb'] using h3
    | some g =>
      simp only [hb'] at h3 ⊢
      obtain ⟨cur, e0, cap, e1, e2, e3, e4, e5⟩ := h3
      refine ⟨cur, e0, cap, (gw.block g (Array.getElem?_eq_some_iff.1 e1).1).trans e1, e2, e3, e4, fun i j cs x hi hj => ?_⟩
      obtain ⟨v, k1, k2⟩ := e5 i j cs x hi hj
      exact ⟨v, k1, RV.mono _ _ (keep _ (fun q hq => hr.rment l' r' h cs (List.mem_of_getElem? hi) q (lbss_get _ _ _ hj q hq))) k2⟩
  refine ⟨hr.defers, hr.size, fun n => RV.mono _ _ (keep _ (hr.ment n)) (hr.regs n), ?_, ?_, ?_, ?_, ?_, hr.frame.grew gw, ?_, ?_, ?_⟩
  · intro l' r' h
    by_cases e : l' = l
    · subst e
      simp at h; subst h
      exact hrow
    · rw [upd_ne _ _ e] at h
      exact hold l' r' e h
  · intro l' g h hg
    by_cases e : l' = l
    · subst e
      simp at hg
      exact .inr (Nat.le_trans hr.frame.size (hb g hg))
    · rw [upd_ne _ _ e] at hg
      exact hr.own l' g (hlive l' h e) hg
  · intro l1 l2 g h1 h2 g1 g2
    by_cases e1 : l1 = l
    · by_cases e2 : l2 = l
      · rw [e1, e2]
      · subst e1
        simp at g1
        rw [upd_ne _ _ e2] at g2
        have := hb g g1
        have := hr.blk_lt (hlive l2 h2 e2) g2
        omega
    · rw [upd_ne _ _ e1] at g1
      by_cases e2 : l2 = l
      · subst e2
        simp at g2
        have := hb g g2
        have := hr.blk_lt (hlive l1 h1 e1) g1
        omega
      · rw [upd_ne _ _ e2] at g2
        exact hr.inj l1 l2 g (hlive l1 h1 e1) (hlive l2 h2 e2) g1 g2
  · intro n l' hl'
    by_cases e : l' = l
    · subst e; simp
    · rw [upd_ne _ _ e]; exact hr.ment n l' hl'
  · intro l1 r1 h cs hcs l' hl'
    by_cases e : l' = l
    · subst e; simp
    · rw [upd_ne _ _ e]
      by_cases e1 : l1 = l
      · subst e1
        simp at h; subst h
        exact hm cs hcs l' hl'
      · rw [upd_ne _ _ e1] at h
        exact hr.rment l1 r1 h cs hcs l' hl'
  · intro g cs hg
    obtain ⟨h1, h2, h3⟩ := hr.glob g cs hg
    exact ⟨((keep [] (by simp)).im g h1 h2).1, Nat.lt_of_lt_of_le h2 gw.size, CellsR.mono (keep [] (by simp)).toKeeps cs g 0 h1 h2 h3⟩
  · intro l' hl'
    obtain ⟨h1, h2⟩ := hr.stab l' hl'
    have e : l' ≠ l := fun e => h1 (e ▸ hu)
    refine ⟨by rw [upd_ne _ _ e]; exact h1, fun h => ?_⟩
    rw [upd_ne _ _ e]; exact h2 (hlive l' h e)
  · intro l' g h hf hg
    by_cases e : l' = l
    · subst e
      simp at hg
      exact Nat.le_trans hr.frame.size (hb g hg)
    · rw [upd_ne _ _ e] at hg
      exact hr.fr l' g (hlive l' h e) hf hg

/-- A row gets another label. -/
theorem RelB.relabel (hr : RelB K β env H a w) (l l' : Lb) {r : Row} (hl : H l = .live r) (hu : H l' = .unused) (hf : l'.fresh = true → l.fresh = true) : RelB K (upd β l' (β l)) env (upd (upd H l .dead) l' (.live r)) a w := by
  have hne : l ≠ l' := fun e => by rw [e, hu] at hl; cases hl
  have hlive : ∀ q, live (upd (upd H l .dead) l' (.live r)) q → q ≠ l' → live H q ∧ q ≠ l := by
    intro q ⟨r', h⟩ e
    rw [upd_ne _ _ e] at h
    by_cases e2 : q = l
    · subst e2; simp at h
    · rw [upd_ne _ _ e2] at h; exact ⟨⟨r', h⟩, e2⟩
  have keep : ∀ ls, (∀ q ∈ ls, H q ≠ .unused) → Keeps2 w w β (upd β l' (β l)) H (upd (upd H l .dead) l' (.live r)) (Im K β H) (Im K (upd β l' (β l)) (upd (upd H l .dead) l' (.live r))) ls := fun ls hls =>
    { im := fun k hk hs => ⟨⟨hk.1, fun q hq => by
        by_cases e : q = l'
        · subst e
          simp only [upd_same]
          exact hk.2 l ⟨r, hl⟩
        · rw [upd_ne _ _ e]; exact hk.2 q (hlive q hq e).1⟩, hs, rfl⟩
      lb := fun q hq hq' => by
        have e : q ≠ l' := fun e => hls q hq (e ▸ hu)
        exact ⟨(hlive q hq' e).1, upd_ne _ _ e, fun _ _ _ h => h⟩ }
  have hold : ∀ q r', H q = .live r' → ∀ (b : Option Nat), b = β q → 0 < r'.sz ∧ (∀ cs ∈ r'.els, cs.length = r'.sz) ∧
      match b with
      | none => r'.els = []
      | some g => ∃ cur e cap, w.heap[g]? = some (.cells cur e (0, 0)) ∧ cur.size = cap * r'.sz ∧ cap ≤ maxLen ∧ r'.els.length ≤ cap ∧
          ∀ i j cs x, r'.els[i]? = some cs → cs[j]? = some x → ∃ v, cur[i * r'.sz + j]? = some v ∧ RV w (upd β l' (β l)) (upd (upd H l .dead) l' (.live r)) (Im K (upd β l' (β l)) (upd (upd H l .dead) l' (.live r))) x v := by
    intro q r' h b hb
    subst hb
    obtain ⟨h1, h2, h3⟩ := hr.rows q r' h
    refine ⟨h1, h2, ?_⟩
    cases hb' : β q with
    | none => simpa [hb'] using h3
    | some g =>
      simp only [hb'] at h3 ⊢
      obtain ⟨cur, e0, cap, e1, e2, e3, e4, e5⟩ := h3
      refine ⟨cur, e0, cap, e1, e2, e3, e4, fun i j cs x hi hj => ?_⟩
      obtain ⟨v, k1, k2⟩ := e5 i j cs x hi hj
      exact ⟨v, k1, RV.mono _ _ (keep _ (fun p hp => hr.rment q r' h cs (List.mem_of_getElem? hi) p (lbss_get _ _ _ hj p hp))) k2⟩
  refine ⟨hr.defers, hr.size, fun n => RV.mono _ _ (keep _ (hr.ment n)) (hr.regs n), ?_, ?_, ?_, ?_, ?_, hr.frame, ?_, ?_, ?_⟩
  · intro q r' h
    by_cases e : q = l'
    · subst e
      simp at h; subst h
      exact hold l r hl _ (by simp)
    · rw [upd_ne _ _ e] at h
      by_cases e2 : q = l
      · subst e2; simp at h
      · rw [upd_ne _ _ e2] at h
        exact hold q r' h _ (upd_ne _ _ e)
  · intro q g h hg
    by_cases e : q = l'
    · subst e
      simp at hg
      exact hr.own l g ⟨r, hl⟩ hg
    · rw [upd_ne _ _ e] at hg
      exact hr.own q g (hlive q h e).1 hg
  · intro l1 l2 g h1 h2 g1 g2
    by_cases e1 : l1 = l'
    · by_cases e2 : l2 = l'
      · rw [e1, e2]
      · subst e1
        simp at g1
        rw [upd_ne _ _ e2] at g2
        exact absurd (hr.inj l2 l g (hlive l2 h2 e2).1 ⟨r, hl⟩ g2 g1) (hlive l2 h2 e2).2
    · rw [upd_ne _ _ e1] at g1
      by_cases e2 : l2 = l'
      · subst e2
        simp at g2
        exact absurd (hr.inj l1 l g (hlive l1 h1 e1).1 ⟨r, hl⟩ g1 g2) (hlive l1 h1 e1).2
      · rw [upd_ne _ _ e2] at g2
        exact hr.inj l1 l2 g (hlive l1 h1 e1).1 (hlive l2 h2 e2).1 g1 g2
  · intro n q hq
    by_cases e : q = l'
    · subst e; simp
    · rw [upd_ne _ _ e]
      by_cases e2 : q = l
      · subst e2; simp
      · rw [upd_ne _ _ e2]; exact hr.ment n q hq
  · intro l1 r1 h cs hcs q hq
    by_cases e : q = l'
    · subst e; simp
    · rw [upd_ne _ _ e]
      by_cases e2 : q = l
      · subst e2; simp
      · rw [upd_ne _ _ e2]
        by_cases e1 : l1 = l'
        · subst e1
          simp at h; subst h
          exact hr.rment l r hl cs hcs q hq
        · rw [upd_ne _ _ e1] at h
          by_cases e3 : l1 = l
          · subst e3; simp at h
          · rw [upd_ne _ _ e3] at h
            exact hr.rment l1 r1 h cs hcs q hq
  · intro g cs hg
    obtain ⟨h1, h2, h3⟩ := hr.glob g cs hg
    exact ⟨((keep [] (by simp)).im g h1 h2).1, h2, CellsR.mono (keep [] (by simp)).toKeeps cs g 0 h1 h2 h3⟩
  · intro q hq
    obtain ⟨h1, h2⟩ := hr.stab q hq
    have e : q ≠ l' := fun e => h1 (e ▸ hu)
    refine ⟨?_, fun h => ?_⟩
    · rw [upd_ne _ _ e]
      by_cases e2 : q = l
      · subst e2; simp
      · rw [upd_ne _ _ e2]; exact h1
    · rw [upd_ne _ _ e]; exact h2 (hlive q h e).1
  · intro q g h hq hg
    by_cases e : q = l'
    · subst e
      simp at hg
      exact hr.fr l g ⟨r, hl⟩ (hf hq) hg
    · rw [upd_ne _ _ e] at hg
      exact hr.fr q g (hlive q h e).1 hq hg

theorem bsz_setRow {w : World} {g : Nat} {cur cur' : Array Value} {e : TypeId} {fr : Nat × Nat} (hg : w.heap[g]? = some (.cells cur e fr)) (hs : cur'.size = cur.size) (k S : Nat) (h : bsz w k = some S) :
    bsz (w.setRow g cur') k = some S := by
  by_cases e : k = g
  · subst e
    unfold bsz at *
    rw [setRow_heap w k cur cur' _ fr hg]
    simp only [hg] at h
    simp only [hs]; exact h
  · unfold bsz at *
    rwa [setRow_other w g k cur' e]

/-- A row is written, in its block. -/
theorem RelB.setRow (hr : RelB K β env H a w) (l : Lb) {r r' : Row} {g : Nat} {cur cur' : Array Value} {e : TypeId} {cap : Nat} (hl : H l = .live r) (hb : β l = some g)
    (hg : w.heap[g]? = some (.cells cur e (0, 0))) (hs : cur'.size = cur.size) (hsz : r'.sz = r.sz) (hcap : cur.size = cap * r.sz) (hcm : cap ≤ maxLen) (hlen : r'.els.length ≤ cap)
    (hcs : ∀ cs ∈ r'.els, cs.length = r.sz) (hm : ∀ cs ∈ r'.els, ∀ l' ∈ lbss cs, H l' ≠ .unused)
    (hc : ∀ i j cs x, r'.els[i]? = some cs → cs[j]? = some x → ∃ v, cur'[i * r.sz + j]? = some v ∧ RV w β H (Im K β H) x v) :
    RelB K β env (upd H l (.live r')) a (w.setRow g cur') := by
  have hlive : ∀ q, live (upd H l (.live r')) q ↔ live H q := by
    intro q
    by_cases e : q = l
    · subst e; simp [live, hl]
    · simp [live, upd_ne _ _ e]
  have him : ∀ k, Im K β (upd H l (.live r')) k ↔ Im K β H k := by
    intro k
    simp only [Im, hlive]
  have keep : ∀ ls, Keeps2 w (w.setRow g cur') β β H (upd H l (.live r')) (Im K β H) (Im K β (upd H l (.live r'))) ls := fun ls =>
    { im := fun k hk hk2 => by
        have hne : k ≠ g := fun e => hk.2 l ⟨r, hl⟩ (e ▸ hb)
        exact ⟨(him k).2 hk, by simpa [World.setRow] using hk2, setRow_other w g k cur' hne⟩
      lb := fun q _ hq => ⟨(hlive q).1 hq, rfl, fun g' S _ h => bsz_setRow hg hs g' S h⟩ }
  refine ⟨hr.defers, hr.size, fun n => RV.mono _ _ (keep _) (hr.regs n), ?_, fun q g' h => hr.own q g' ((hlive q).1 h), fun l1 l2 g' h1 h2 => hr.inj l1 l2 g' ((hlive l1).1 h1) ((hlive l2).1 h2), ?_, ?_, ?_, ?_, ?_, fun q g' h => hr.fr q g' ((hlive q).1 h)⟩
  · intro q r1 h
    by_cases e1 : q = l
    · subst e1
      simp at h; subst h
      refine ⟨by rw [hsz]; exact (hr.rows q r hl).1, by rw [hsz]; exact hcs, ?_⟩
      simp only [hb]
      refine ⟨cur', e, cap, setRow_heap w g cur cur' e (0, 0) hg, by rw [hs, hcap, hsz], hcm, hlen, fun i j cs x hi hj => ?_⟩
      obtain ⟨v, k1, k2⟩ := hc i j cs x hi hj
      exact ⟨v, by rw [hsz]; exact k1, RV.mono _ _ (keep _) k2⟩
    · rw [upd_ne _ _ e1] at h
      obtain ⟨h1, h2, h3⟩ := hr.rows q r1 h
      refine ⟨h1, h2, ?_⟩
      cases hb' : β q with
      | none => simpa [hb'] using h3
      | some g' =>
        simp only [hb'] at h3 ⊢
        have hne : g' ≠ g := fun e => e1 (hr.inj q l g ⟨r1, h⟩ ⟨r, hl⟩ (e ▸ hb') hb)
        obtain ⟨cur1, e0, cap1, k1, k2, k3, k4, k5⟩ := h3
        refine ⟨cur1, e0, cap1, (setRow_other w g g' cur' hne).trans k1, k2, k3, k4, fun i j cs x hi hj => ?_⟩
        obtain ⟨v, j1, j2⟩ := k5 i j cs x hi hj
        exact ⟨v, j1, RV.mono _ _ (keep _) j2⟩
  · intro n q hq
    by_cases e1 : q = l
    · subst e1; simp
    · rw [upd_ne _ _ e1]; exact hr.ment n q hq
  · intro l1 r1 h cs hcs' q hq
    by_cases e1 : q = l
    · subst e1; simp
    · rw [upd_ne _ _ e1]
      by_cases e2 : l1 = l
      · subst e2
        simp at h; subst h
        exact hm cs hcs' q hq
      · rw [upd_ne _ _ e2] at h
        exact hr.rment l1 r1 h cs hcs' q hq
  · refine ⟨hr.frame.os, hr.frame.tape, hr.frame.output, by simpa [World.setRow] using hr.frame.size, fun k hk hd => ?_, fun k S hS => bsz_setRow hg hs k S (hr.frame.bs k S hS)⟩
    have hne : k ≠ g := by
      intro e1
      subst e1
      rcases hr.own l k ⟨r, hl⟩ hb with h1 | h1
      · exact hd h1
      · omega
    rw [setRow_other w g k cur' hne]
    exact hr.frame.block k hk hd
  · intro k cs hk
    obtain ⟨h1, h2, h3⟩ := hr.glob k cs hk
    exact ⟨((keep []).im k h1 h2).1, ((keep []).im k h1 h2).2.1, CellsR.mono (keep []).toKeeps cs k 0 h1 h2 h3⟩
  · intro q hq
    obtain ⟨h1, h2⟩ := hr.stab q hq
    refine ⟨?_, fun h => h2 ((hlive q).1 h)⟩
    by_cases e1 : q = l
    · subst e1; simp
    · rw [upd_ne _ _ e1]; exact h1

end
end Go.Am
