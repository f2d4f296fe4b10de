/- THE ABSTRACT MACHINE, part 13: a region's operations do what the instructions say. -/
import Derived.Test.YtfinkeaikbmpgaaAm12
set_option linter.defProp false
set_option linter.unnecessarySimpa false
set_option linter.unusedVariables false
set_option linter.unusedSimpArgs false
namespace Go.Am
open Go Go.RowKit

section
variable {K : Kx} {β : Lb → Option Nat} {env : Env} {H : Hp} {a : Act} {w : World}

/-- What holds behind an operation. -/
def After (K : Kx) (env : Env) (d : Option Nat) (k : AV → Hp → Prop) (a' : Act) (w' : World) : Prop := ∃ x H', k x H' ∧ ∃ β', RelB K β' (putO env d x) H' a' w'

theorem wp_of_stepV (hr : RelB K β env H a w) {o : Oper} (hd : ∀ n, o.dst = some n → n < K.N) {x : AV} {k : AV → Hp → Prop} {Q : Exit → Act → World → Prop} (h : StepV K β H a w o x) (hk : k x H) :
    o.wp K.P a w (After K env o.dst k) Q := by
  obtain ⟨v, w', h1, h2, h3, h4⟩ := h
  unfold Oper.wp
  rw [h1]
  exact ⟨x, H, hk, β, hr.step h2 hd (fun _ => h3) (fun _ => h4)⟩

theorem wp_of_stepR {o : Oper} {x : AV} {H' : Hp} {k : AV → Hp → Prop} {Q : Exit → Act → World → Prop} (h : StepR K env a w o o.dst x H') (hk : k x H') :
    o.wp K.P a w (After K env o.dst k) Q := by
  obtain ⟨nx, w', β', v, h1, h2, h3⟩ := h
  unfold Oper.wp
  rw [h1]
  rcases h2 with rfl | ⟨rfl, rfl⟩
  · exact ⟨x, H', hk, β', h3⟩
  · exact ⟨x, H', hk, β', h3⟩

/-- A call of a Go function. -/
theorem wp_call (hr : RelB K β env H a w) {o : Oper} (hd : ∀ n, o.dst = some n → n < K.N) {f : Nat} {args : List AV} {vs : List Value} {k : AV → Hp → Prop} {Q : Exit → Act → World → Prop}
    (hrun : (execOp a.eval o).run K.P w = .ok (.enter f vs.toArray) w) (hv : RVs w β H (Im K β H) args vs) (hc : CallT ⟨K.P, K.G, K.N⟩ f args H k) : o.wp K.P a w (After K env o.dst k) Q := by
  unfold Oper.wp
  rw [hrun]
  rcases hc with ⟨res, hp, hk⟩ | ⟨ρ, Hin, cargs, Q', h1, rfl, h3, h4, h5, h6, h6', h7, h8⟩
  · refine (call_pure hr hp hv trivial).mono ?_
    rintro e w' ⟨v, rfl, gw, hx⟩
    exact ⟨res, H, hk, β, hr.step gw hd (fun _ => hx) (fun _ l hl => by rw [hp.2.1] at hl; simp at hl)⟩
  · refine (call_rows hr h1 h3 h4 h5 h6 h6' h7 hv).mono ?_
    rintro e w' ⟨v, x, H', rfl, hq, hall⟩
    obtain ⟨ρ', H'', p1, p2, p3, p4, p5, p6, p7, p8, hk⟩ := h8 x H' hq
    obtain ⟨β'', q1, q2⟩ := hall ρ' H'' p1 p2 p3 p4 p5 p6 p7 p8
    exact ⟨_, H'', hk, β'', q1.step (Below.refl _ _) hd (fun _ => q2) (fun _ l hl => by
      rw [ren_lbs, List.mem_map] at hl
      obtain ⟨l0, h0, rfl⟩ := hl
      exact p5 l0 h0)⟩

theorem bnone {α γ : Type} {x : Option α} {f : α → Option γ} {y : γ} (h : x.bind f = some y) : ∃ a, x = some a ∧ f a = some y := Option.bind_eq_some_iff.1 h
theorem mnone {α γ : Type} {x : Option α} {f : α → γ} {y : γ} (h : x.map f = some y) : ∃ a, x = some a ∧ f a = y := Option.map_eq_some_iff.1 h

theorem asIs_box {i : Ins} {x : O} (h : i.asIs = .box x) : i = .box x ∨ i = .boxi x := by
  cases i <;> simp [Ins.asIs] at h <;> simp [h]

theorem asIs_else {i j : Ins} (h : i.asIs = j) (hj : ∀ x, j ≠ .box x) : i = j := by
  cases i <;> simp [Ins.asIs] at h <;> first | exact h | exact absurd h.symm (hj _)

/-- The instructions that yield by 'stillV' alone. -/
def Ins.plain : Ins → Bool
  | .load .. | .box _ | .new _ | .store .. | .app .. | .call .. | .callv .. | .mks .. | .cpy .. => false
  | _ => true

theorem act_plain {S : St} {d : Option Nat} {i : Ins} {k : AV → Hp → Prop} (h : i.plain = true) (ha : Act1 S d i env H k) : ∃ x, stillV i env = some x ∧ k x H := by
  cases i <;> simp [Ins.plain] at h <;> exact ha

set_option maxHeartbeats 1000000 in
theorem act_sound (hr : RelB K β env H a w) {o : Oper} {i : Ins} {k : AV → Hp → Prop} {Q : Exit → Act → World → Prop} (hd : ∀ n, o.dst = some n → n < K.N) (hc : comp K.P K.G o = some i.asIs)
    (ha : Act1 ⟨K.P, K.G, K.N⟩ o.dst i env H k) : o.wp K.P a w (After K env o.dst k) Q := by
  have plain : ∀ j : Ins, i.asIs = j → (∀ x, j ≠ .box x) → j.plain = true → (∀ x, stillV j env = some x → StepV K β H a w o x) → o.wp K.P a w (After K env o.dst k) Q := by
    intro j hj hnb hp hs
    have e := asIs_else hj hnb
    subst e
    obtain ⟨x, h1, h2⟩ := act_plain hp ha
    exact wp_of_stepV hr hd (hs x h1) h2
  unfold comp at hc
  split at hc
  · rename_i x ho
    obtain ⟨y, h1, h2⟩ := mnone hc
    exact plain _ h2.symm (by simp) rfl (fun z hz => by simp only [stillV, Option.some.injEq] at hz; subst hz; exact s_mov hr (.inl ho) h1)
  · rename_i x ho
    obtain ⟨y, h1, h2⟩ := mnone hc
    exact plain _ h2.symm (by simp) rfl (fun z hz => by simp only [stillV, Option.some.injEq] at hz; subst hz; exact s_mov hr (.inr ho) h1)
  · rename_i c x y ho
    obtain ⟨c', h1, hc⟩ := bnone hc
    obtain ⟨x', h2, hc⟩ := bnone hc
    obtain ⟨y', h3, h4⟩ := mnone hc
    refine plain _ h4.symm (by simp) rfl (fun z hz => ?_)
    simp only [stillV] at hz
    split at hz
    · rename_i t ht
      simp only [Option.some.injEq] at hz; subst hz
      exact s_pick hr ho h1 h2 h3 ht
    · simp at hz
  · rename_i t x f ho
    split at hc
    · rename_i fs ht
      obtain ⟨fd, h1, hc⟩ := bnone hc
      obtain ⟨s, h2, hc⟩ := bnone hc
      split at hc
      · simp at hc
      · rename_i hs0
        obtain ⟨x', h3, h4⟩ := mnone hc
        exact plain _ h4.symm (by simp) rfl (fun z hz => s_fld hr ho ht h1 h2 hs0 h3 hz)
    · simp at hc
  · rename_i t x j ho
    split at hc
    · rename_i e ht
      obtain ⟨s, h2, hc⟩ := bnone hc
      obtain ⟨x', h3, hc⟩ := bnone hc
      obtain ⟨j', h4, h5⟩ := mnone hc
      exact plain _ h5.symm (by simp) rfl (fun z hz => s_ixa hr ho ht h2 h3 h4 hz)
    · simp at hc
  · rename_i t x j ho
    split at hc
    · rename_i ht
      obtain ⟨x', h3, hc⟩ := bnone hc
      obtain ⟨j', h4, h5⟩ := mnone hc
      exact plain _ h5.symm (by simp) rfl (fun z hz => s_ixs hr ho ht h3 h4 hz)
    · simp at hc
  · rename_i t x lo hi mx ho
    split at hc
    · rename_i e ht
      obtain ⟨s, h2, hc⟩ := bnone hc
      obtain ⟨x', h3, hc⟩ := bnone hc
      obtain ⟨lo', h4, hc⟩ := bnone hc
      obtain ⟨hi', h5, hc⟩ := bnone hc
      obtain ⟨mx', h6, h7⟩ := mnone hc
      exact plain _ h7.symm (by simp) rfl (fun z hz => s_slc hr ho ht h2 h3 h4 h5 h6 hz)
    · rename_i ht
      split at hc
      · simp at hc
      · rename_i hmx
        obtain ⟨x', h3, hc⟩ := bnone hc
        obtain ⟨lo', h4, hc⟩ := bnone hc
        obtain ⟨hi', h5, h7⟩ := mnone hc
        have : mx = none := by cases mx <;> simp_all
        subst this
        exact plain _ h7.symm (by simp) rfl (fun z hz => s_slcs hr ho ht h3 h4 h5 hz)
    · simp at hc
  · rename_i op t x y t2 ho
    split at hc
    · obtain ⟨x', h3, hc⟩ := bnone hc
      obtain ⟨y', h4, h5⟩ := mnone hc
      exact plain _ h5.symm (by simp) rfl (fun z hz => s_bin hr ho h3 h4 hz)
    · obtain ⟨x', h3, hc⟩ := bnone hc
      obtain ⟨y', h4, h5⟩ := mnone hc
      exact plain _ h5.symm (by simp) rfl (fun z hz => s_bin hr ho h3 h4 hz)
    · rename_i ht
      obtain ⟨n, h2, hc⟩ := bnone hc
      obtain ⟨x', h3, hc⟩ := bnone hc
      obtain ⟨y', h4, h5⟩ := mnone hc
      exact plain _ h5.symm (by simp) rfl (fun z hz => s_eqb hr ho h2 ht h3 h4 hz)
    · rename_i e ht
      obtain ⟨n, h2, hc⟩ := bnone hc
      obtain ⟨x', h3, hc⟩ := bnone hc
      obtain ⟨y', h4, h5⟩ := mnone hc
      exact plain _ h5.symm (by simp) rfl (fun z hz => s_eqp hr ho h2 ht h3 h4 hz)
    · rename_i ms ht
      split at hc
      · rename_i hnil
        obtain ⟨n, h2, hc⟩ := bnone hc
        obtain ⟨x', h3, hc⟩ := bnone hc
        obtain ⟨y', h4, h5⟩ := mnone hc
        exact plain _ h5.symm (by simp) rfl (fun z hz => s_eqi hr ho h2 ht hnil h3 hz)
      · simp at hc
    · rename_i fs ht
      obtain ⟨ks, h1, hc⟩ := bnone hc
      obtain ⟨n, h2, hc⟩ := bnone hc
      obtain ⟨x', h3, hc⟩ := bnone hc
      obtain ⟨y', h4, h5⟩ := mnone hc
      exact plain _ h5.symm (by simp) rfl (fun z hz => s_eqst hr ho h2 h1 h3 h4 hz)
    · simp at hc
  · rename_i t x ho
    obtain ⟨x', h3, h5⟩ := mnone hc
    exact plain _ h5.symm (by simp) rfl (fun z hz => s_not hr ho h3 hz)
  · rename_i t x ho
    obtain ⟨x', h3, h5⟩ := mnone hc
    exact plain _ h5.symm (by simp) rfl (fun z hz => s_neg hr ho h3 hz)
  · rename_i x j ho
    obtain ⟨x', h3, h5⟩ := mnone hc
    exact plain _ h5.symm (by simp) rfl (fun z hz => s_ext hr ho h3 hz)
  · rename_i x ho
    obtain ⟨x', h3, h5⟩ := mnone hc
    exact plain _ h5.symm (by simp) rfl (fun z hz => s_nchk hr ho h3 hz)
  · -- box
    rename_i t x ho
    obtain ⟨x', h3, h5⟩ := mnone hc
    rcases asIs_box h5.symm with rfl | rfl
    · obtain ⟨n, g1, g2, g3, g4, g5, g6⟩ := ha
      exact wp_of_stepR (by rw [g1]; exact r_box hr (hd n g1) ho h3 g3 g4 g5 g2) g6
    · obtain ⟨y, h1, h2⟩ := act_plain rfl ha
      exact wp_of_stepV hr hd (s_boxi hr ho h3 h1) h2
  · rename_i f first cap ho
    split at hc
    · rename_i hf
      obtain ⟨cs, h3, h5⟩ := mnone hc
      exact plain _ h5.symm (by simp) rfl (fun z hz => s_mkf hr ho hf h3 hz)
    · simp at hc
  · -- load
    rename_i t x ho
    obtain ⟨m, h1, hc⟩ := bnone hc
    obtain ⟨x', h3, h5⟩ := mnone hc
    have e := asIs_else h5.symm (by simp)
    subst e
    rcases ha with ⟨y, g1, g2⟩ | ⟨y, g1, g2⟩
    · exact wp_of_stepV hr hd (s_loadi hr ho h1 h3 g1) g2
    · exact wp_of_stepV hr hd (r_load hr ho h1 h3 g1) g2
  · -- alloc
    rename_i t ho
    split at hc
    · rename_i ti hti
      split at hc
      · rename_i z hz
        split at hc
        · obtain ⟨cs, h3, h5⟩ := mnone hc
          have e := asIs_else h5.symm (by simp)
          subst e
          obtain ⟨n, g1, g2, g3, g4, g5⟩ := ha
          exact wp_of_stepR (by rw [g1]; exact r_alloc hr (hd n g1) ho hti hz h3 g3 g4 g2) g5
        · simp at hc
      · simp at hc
    · simp at hc
  · -- store
    rename_i t x y ho
    obtain ⟨s, h1, hc⟩ := bnone hc
    obtain ⟨x', h3, hc⟩ := bnone hc
    obtain ⟨y', h4, h5⟩ := mnone hc
    have e := asIs_else h5.symm (by simp)
    subst e
    obtain ⟨g1, H', g2, g3⟩ := ha
    exact wp_of_stepR (by rw [g1]; exact r_store hr ho h1 h3 h4 g2) g3
  · -- convert
    rename_i s d x ho
    split at hc
    · rename_i k1 k2 hs hd'
      obtain ⟨x', h3, h5⟩ := mnone hc
      exact plain _ h5.symm (by simp) rfl (fun z hz => s_cvi hr ho hs hd' h3 hz)
    · rename_i hs hd'
      obtain ⟨x', h3, h5⟩ := mnone hc
      exact plain _ h5.symm (by simp) rfl (fun z hz => s_cvs hr ho hs hd' h3 hz)
    · simp at hc
  · rename_i t x ho
    split at hc
    · simp at hc
    · rename_i d hni ht
      obtain ⟨x', h3, h5⟩ := mnone hc
      exact plain _ h5.symm (by simp) rfl (fun z hz => s_mkif hr ho ht (fun ms e => hni ms e) h3 hz)
    · simp at hc
  · rename_i t x f ho
    split at hc
    · rename_i fs ht
      obtain ⟨fd, h1, hc⟩ := bnone hc
      obtain ⟨m, h2, hc⟩ := bnone hc
      obtain ⟨x', h3, h5⟩ := mnone hc
      exact plain _ h5.symm (by simp) rfl (fun z hz => s_getf hr ho ht h1 h2 h3 hz)
    · simp at hc
  · -- buildSlice
    rename_i t n ps ho
    split at hc
    · rename_i e ht
      split at hc
      · rename_i ti hti
        split at hc
        · rename_i z hz
          split at hc
          · rename_i hcond
            obtain ⟨zs, h1, hc⟩ := bnone hc
            obtain ⟨xs, h2, h5⟩ := mnone hc
            exact plain _ h5.symm (by simp) rfl (fun y hy => s_lits hr ho ht hti hz hcond.1 hcond.2.1 hcond.2.2 h1 h2 hy)
          · simp at hc
        · simp at hc
      · simp at hc
    · simp at hc
  · -- build
    rename_i t ps ho
    split at hc
    · rename_i ti fs hti ht
      split at hc
      · rename_i z pl hz hpl
        obtain ⟨zs, h1, hc⟩ := bnone hc
        obtain ⟨xs, h2, hc⟩ := bnone hc
        obtain ⟨qs, h3, h5⟩ := mnone hc
        exact plain _ h5.symm (by simp) rfl (fun y hy => s_bld hr ho ht hti hz hpl h1 h2 h3 hy)
      · simp at hc
    · simp at hc
  · -- call
    rename_i c ho
    split at hc
    · -- len
      rename_i hcal
      split at hc
      · rename_i x h1 h2
        obtain ⟨x', h3, h5⟩ := mnone hc
        exact plain _ h5.symm (by simp) rfl (fun z hz => s_lens hr ho hcal h1 h2 h3 hz)
      · rename_i x e h1 h2
        obtain ⟨x', h3, h5⟩ := mnone hc
        exact plain _ h5.symm (by simp) rfl (fun z hz => s_len hr ho hcal h1 h2 h3 hz)
      · simp at hc
    · -- max
      rename_i hcal
      split at hc
      · rename_i x y h1
        obtain ⟨x', h3, hc⟩ := bnone hc
        obtain ⟨y', h4, h5⟩ := mnone hc
        exact plain _ h5.symm (by simp) rfl (fun z hz => s_max hr ho hcal h1 h3 h4 hz)
      · simp at hc
    · -- min
      rename_i hcal
      split at hc
      · rename_i x y h1
        obtain ⟨x', h3, hc⟩ := bnone hc
        obtain ⟨y', h4, h5⟩ := mnone hc
        exact plain _ h5.symm (by simp) rfl (fun z hz => s_min hr ho hcal h1 h3 h4 hz)
      · simp at hc
    · -- append
      rename_i hcal
      split at hc
      · rename_i s x st xt h1 h2
        split at hc
        · rename_i e hst
          split at hc
          · rename_i ti hti
            split at hc
            · rename_i hcond
              simp only [Bool.and_eq_true, beq_iff_eq, decide_eq_true_eq] at hcond
              obtain ⟨⟨q1, q2⟩, q3⟩ := hcond
              obtain ⟨z, hz, hz2⟩ := mnone q1
              obtain ⟨s', h3, hc⟩ := bnone hc
              obtain ⟨x', h4, h5⟩ := mnone hc
              have e := asIs_else h5.symm (by simp)
              subst e
              obtain ⟨n, g1, y, H', g3, g4⟩ := ha
              obtain ⟨dx, hxt, hdx⟩ : ∃ dx, K.P.underlying xt = some dx ∧ (dx = .string ∨ ∃ e2, dx = .slice e2) := by
                unfold srcT at q3
                split at q3
                · rename_i hh; exact ⟨_, hh, .inl rfl⟩
                · rename_i hh; exact ⟨_, hh, .inr ⟨_, rfl⟩⟩
                · simp at q3
              exact wp_of_stepR (by rw [g1]; exact r_app hr (hd n g1) ho hcal h1 h2 hst hti hz hz2 q2 hxt hdx h3 h4 g3) g4
            · simp at hc
          · simp at hc
        · simp at hc
      · simp at hc
    · simp at hc
    · simp at hc
    · -- a function
      rename_i f hcal
      split at hc
      · rename_i hb
        obtain ⟨xs, h3, h5⟩ := mnone hc
        have e := asIs_else h5.symm (by simp)
        subst e
        obtain ⟨fn, hf, hfn⟩ : ∃ fn, K.P.funcs[f]? = some fn ∧ (fn.body.isSome = true ∧ (fn.name != "runtime.NumGoroutine") = true) := by
          unfold goBody at hb
          cases hq : K.P.funcs[f]? with
          | none => simp [hq] at hb
          | some fn => simp only [hq, Option.any_some, Bool.and_eq_true] at hb; exact ⟨fn, rfl, hb⟩
        refine wp_call hr hd (vs := c.args.toList.map a.eval) ?_ (cos_rv hr _ _ h3) ha
        have h1 : ¬ fn.name = "runtime.NumGoroutine" := by simpa using hfn.2
        have h2 : ¬ fn.body = none := by intro hh; simp [hh] at hfn
        simp [execOp, ho, resolve, hcal, Act.eval, Deferred.ofValue, invoke, callFunc, hf, h1, h2]
        cases c.args
        simp
      · simp at hc
    · -- a function value
      rename_i f hnf hcal
      obtain ⟨y, h2, hc⟩ := bnone hc
      obtain ⟨xs, h3, h5⟩ := mnone hc
      have e := asIs_else h5.symm (by simp)
      subst e
      obtain ⟨f', first, cap, g1, hb, g2⟩ := ha
      have hv := hr.ev h2
      rw [g1] at hv
      simp only [RV] at hv
      obtain ⟨vs, us, k1, k2, k3⟩ := hv
      obtain ⟨fn, hf, hfn⟩ : ∃ fn, K.P.funcs[f']? = some fn ∧ (fn.body.isSome = true ∧ (fn.name != "runtime.NumGoroutine") = true) := by
        unfold goBody at hb
        cases hq : K.P.funcs[f']? with
        | none => simp [hq] at hb
        | some fn => simp only [hq, Option.any_some, Bool.and_eq_true] at hb; exact ⟨fn, rfl, hb⟩
      refine wp_call hr hd (vs := vs ++ c.args.toList.map a.eval ++ us) ?_ (RVs.append _ _ _ _ (RVs.append _ _ _ _ k2 (cos_rv hr _ _ h3)) k3) g2
      have h1 : ¬ fn.name = "runtime.NumGoroutine" := by simpa using hfn.2
      have h2 : ¬ fn.body = none := by intro hh; simp [hh] at hfn
      simp [execOp, ho, resolve, hcal, k1, Deferred.ofValue, invoke, callFunc, hf, h1, h2]
  · simp at hc

end
end Go.Am
