/- THE ABSTRACT MACHINE, part 14: regions. -/
import Derived.Test.YtfinkeaikbmpgaaAm13
set_option linter.defProp false
set_option linter.unnecessarySimpa false
set_option linter.unusedVariables false
set_option linter.unusedSimpArgs false
namespace Go.Am
open Go Go.RowKit

section
variable {K : Kx} {env : Env} {H : Hp} {a : Act} {w : World}

theorem gW_wanted {β : Lb → Option Nat} (hr : RelB K β env H a w) {ops : Array Oper} {o : Oper} {i : LIns} (hc : compL K.P K.G ops o = some i) {b : Bool} (hg : gW i.g env = some b) :
    Region.wanted o (yielded ops a.tmps) = b := by
  unfold compL at hc
  split at hc
  · rename_i h0
    obtain ⟨j, _, rfl⟩ := mnone hc
    simp only [gW, Option.some.injEq] at hg
    subst hg
    simp [Region.wanted, h0]
  · rename_i j t h0
    obtain ⟨s, h1, hc⟩ := bnone hc
    obtain ⟨q, _, rfl⟩ := mnone hc
    simp only [gW] at hg
    have hv := hr.regs s
    split at hg
    · rename_i c e
      simp only [Option.some.injEq] at hg
      subst hg
      rw [e] at hv
      simp only [RV] at hv
      have : a.tmps[s]? = some (.bool c) := by
        rw [Array.getD_eq_getD_getElem?] at hv
        cases hq : a.tmps[s]? with
        | none => rw [hq] at hv; cases hv
        | some u => rw [hq] at hv; simpa using hv
      simp [Region.wanted, h0, yielded, h1, this]
    · rename_i e
      simp only [Option.some.injEq] at hg
      subst hg
      rw [e] at hv
      simp only [RV] at hv
      have : a.tmps[s]? = none ∨ a.tmps[s]? = some undef := by
        rw [Array.getD_eq_getD_getElem?] at hv
        cases hq : a.tmps[s]? with
        | none => exact .inl rfl
        | some u => rw [hq] at hv; right; simpa using hv
      rcases this with h | h <;> simp [Region.wanted, h0, yielded, h1, h, undef]
    · simp at hg

theorem compL_parts {P : Program} {G : Nat → Option (List IV)} {ops : Array Oper} {o : Oper} {i : LIns} (hc : compL P G ops o = some i) : i.d = o.dst ∧ comp P G o = some i.i := by
  unfold compL at hc
  split at hc
  · obtain ⟨j, h1, rfl⟩ := mnone hc
    exact ⟨rfl, h1⟩
  · obtain ⟨s, _, hc⟩ := bnone hc
    obtain ⟨q, h1, rfl⟩ := mnone hc
    exact ⟨rfl, h1⟩

/-- One operation of a region. -/
theorem step_sound {β : Lb → Option Nat} (hr : RelB K β env H a w) {ops : Array Oper} {o : Oper} {i : LIns} (hc : compL K.P K.G ops o = some i.asIs) {k : Env → Hp → Prop} {Q : Exit → Act → World → Prop} {KK : Act → World → Prop}
    (hk : ∀ env' H' β' a' w', k env' H' → RelB K β' env' H' a' w' → KK a' w')
    (ha : (gW i.g env = some true ∧ (∀ n, i.d = some n → n < K.N) ∧ Act1 ⟨K.P, K.G, K.N⟩ i.d i.i env H fun x H' => k (putO env i.d x) H') ∨
      (gW i.g env = some false ∧ (∀ n, i.d = some n → n < K.N) ∧ k (putO env i.d .un) H)) :
    if Region.wanted o (yielded ops a.tmps) then o.wp K.P a w KK Q ∨ (o.asks K.P a w ∧ LetsOut Q) else KK (a.put o.dst undef) w := by
  obtain ⟨h1, h2⟩ := compL_parts hc
  have hdd : i.d = o.dst := h1
  rcases ha with ⟨hg, hd, ha⟩ | ⟨hg, hd, ha⟩
  · have hw : Region.wanted o (yielded ops a.tmps) = true := gW_wanted hr (i := i.asIs) hc hg
    rw [if_pos hw]
    left
    rw [hdd] at ha hd
    exact Oper.wp_mono (fun a' w' ⟨x, H', hx, β', hr'⟩ => hk _ _ _ _ _ hx hr') (act_sound hr hd h2 ha)
  · have hw : Region.wanted o (yielded ops a.tmps) = false := gW_wanted hr (i := i.asIs) hc hg
    rw [if_neg (by simp [hw])]
    rw [hdd] at ha hd
    exact hk _ _ _ _ _ ha (hr.step (Below.refl _ _) hd (fun _ => by simp [RV]) (fun _ => by simp [AV.lbs]))

theorem ao_sound {ops : Array Oper} {k : Env → Hp → Prop} {Q : Exit → Act → World → Prop} (hk : ∀ env' H' β' a' w', k env' H' → RelB K β' env' H' a' w' → Q .normal a' w') :
    ∀ (l : List Oper) (is : List LIns) (env : Env) (H : Hp) (a : Act) (w : World) (β : Lb → Option Nat), All2 (fun o i => compL K.P K.G ops o = some (LIns.asIs i)) l is → AO ⟨K.P, K.G, K.N⟩ is env H k → RelB K β env H a w →
      wpList K.P ops Q l a w
  | [], _, env, H, a, w, β, h, ha, hr => by
    cases h
    exact hk _ _ _ _ _ ha hr
  | o :: l, _, env, H, a, w, β, h, ha, hr => by
    cases h with
    | @cons _ i _ is h1 h2 =>
      simp only [AO] at ha
      unfold wpList
      exact step_sound hr h1 (k := fun env' H' => AO ⟨K.P, K.G, K.N⟩ is env' H' k) (fun env' H' β' a' w' q1 q2 => ao_sound hk l is env' H' a' w' β' h2 q1 q2) ha

end

end Go.Am
