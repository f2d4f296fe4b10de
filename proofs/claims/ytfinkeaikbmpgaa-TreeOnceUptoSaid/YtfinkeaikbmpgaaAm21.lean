/- THE ABSTRACT MACHINE, part 21: loops. -/
import Derived.Test.YtfinkeaikbmpgaaAm16
import Derived.Deep.LoopGhost
set_option linter.defProp false
set_option linter.unnecessarySimpa false
set_option linter.unusedVariables false
set_option linter.unusedSimpArgs false
namespace Go.Am
open Go Go.RowKit

/-- A state, seen as another: less is known, labels have other names. -/
structure Wk (ρ : Lb → Lb) (env : Env) (H : Hp) (env2 : Env) (H2 : Hp) : Prop where
  e : ∀ n, env2 n = .any ∨ env n = ren ρ (env2 n)
  h : ∀ l r, H2 l = .live r → H (ρ l) = .live (renR ρ r)
  inj : ∀ l l', live H2 l → live H2 l' → ρ l = ρ l' → l = l'
  m : ∀ n, ∀ l ∈ (env2 n).lbs, H2 l ≠ .unused
  rm : ∀ l r, H2 l = .live r → ∀ cs ∈ r.els, ∀ q ∈ lbss cs, H2 q ≠ .unused
  st : ∀ l, l.fresh = false → (H l ≠ .unused → H2 l ≠ .unused) ∧ (live H2 l → ρ l = l)
  fr : ∀ l, live H2 l → l.fresh = true → (ρ l).fresh = true

def LoopQ {σ : Type} (S : St) (Q : Post) (k : List It) (E : σ → Env) (HH : σ → Hp) (μ : σ → Nat) (n : Nat) : Post := fun e env H =>
  match e with
  | .normal => ∃ s, μ s < n ∧ ∃ ρ, Wk ρ env H (E s) (HH s)
  | .exit id => match popTo id k with
    | some k' => go S Q k' env H
    | none => Q (.exit id) env H
  | .ret => Q .ret env H
  | _ => False

theorem Wk.rel {K : Kx} {β : Lb → Option Nat} {env : Env} {H : Hp} {a : Act} {w : World} {ρ : Lb → Lb} {env2 : Env} {H2 : Hp} (hS : ∀ l, live K.H0 l → l.fresh = false) (h : Wk ρ env H env2 H2) (hr : RelB K β env H a w) :
    RelB K (fun l => β (ρ l)) env2 H2 a w :=
  hr.weak ρ h.e h.h h.inj h.m h.rm (fun l hl => ⟨(h.st l (hS l hl)).1 (hr.stab l hl).1, (h.st l (hS l hl)).2⟩) h.fr

theorem loop_intro {σ : Type} {S : St} {Q : Post} {c : AC} {k : List It} {env : Env} {H : Hp} (E : σ → Env) (HH : σ → Hp) (μ : σ → Nat) (s0 : σ) (ρ : Lb → Lb) (h0 : Wk ρ env H (E s0) (HH s0))
    (round : ∀ s, go S (LoopQ S Q k E HH μ (μ s)) [.code c] (E s) (HH s)) : LoopG S Q c k env H := by
  intro K hKS hS c0 ck hc hall β a w hr
  subst hKS
  simp only [PH, Exit.then]
  refine wp_loop_ghost (fun n a w => ∃ s β, μ s = n ∧ RelB K β (E s) (HH s) a w) (μ s0) ⟨s0, _, rfl, h0.rel hS hr⟩ ?_
  rintro n a w ⟨s, β, rfl, hr⟩
  have hs := go_sound (K := K) hS _ (szs [.code c]) [.code c] [.code c0] (Nat.le_refl _) (.cons (.code hc) .nil) (E s) (HH s) (round s) β a w hr
  simp only [PH, Exit.then] at hs
  refine wp_mono hs ?_
  rintro e a' w' ⟨env', H', β', hq, hr'⟩
  cases e with
  | normal =>
    obtain ⟨s', hlt, ρ', hw⟩ := hq
    exact ⟨μ s', hlt, s', _, rfl, hw.rel hS hr'⟩
  | exit id =>
    have hp := pop_sound (P := K.P) (G := K.G) (lift K Q) (id := id) ck k hall
    simp only [LoopQ] at hq
    show PH K.P (lift K Q) ck (.exit id) a' w'
    cases hk' : popTo id k with
    | some k' =>
      rw [hk'] at hp hq
      obtain ⟨ck', e1, e2⟩ := hp
      exact e2 a' w' (go_sound (K := K) hS Q (szs k') k' ck' (Nat.le_refl _) e1 env' H' hq β' a' w' hr')
    | none =>
      rw [hk'] at hp hq
      exact hp a' w' ⟨env', H', β', hq, hr'⟩
  | ret => exact PH_ret _ _ _ _ _ ⟨env', H', β', hq, hr'⟩
  | goto l => exact hq.elim
  | panic ch => exact hq.elim
  | outgrown => exact hq.elim

end Go.Am
