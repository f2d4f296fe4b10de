/- THE ABSTRACT MACHINE, part 16: functions. -/
import Derived.Test.YtfinkeaikbmpgaaAm15
set_option linter.defProp false
set_option linter.unnecessarySimpa false
set_option linter.unusedVariables false
set_option linter.unusedSimpArgs false
namespace Go.Am
open Go Go.RowKit

/-- Where a result lies: in a slot, or in the row that a slot points to. -/
abbrev RO := Option (Option Nat) × Nat

def compR (P : Program) : ResultVar → Option RO
  | .tmp t => some (none, t)
  | .cell a t => (mOf P t).map fun m => (some m, a)

def compRs (P : Program) : List ResultVar → Option (List RO)
  | [] => some []
  | r :: s => (compR P r).bind fun x => (compRs P s).map fun y => x :: y

def resV (r : RO) (env : Env) (H : Hp) : Option AV :=
  match r.1 with
  | none => some (env r.2)
  | some m => loadV m (env r.2) H

def resVs (env : Env) (H : Hp) : List RO → Option (List AV)
  | [] => some []
  | r :: s => (resV r env H).bind fun x => (resVs env H s).map fun y => x :: y

def oneV : List AV → AV
  | [x] => x
  | xs => .tup xs

def RetP (rs : List RO) (R : AV → Hp → Prop) : Post := fun e env H => (e = .normal ∨ e = .ret) ∧ ∃ xs, resVs env H rs = some xs ∧ R (oneV xs) H

def argE (args : List AV) : Env := fun n => args.getD n .un

/-- A function, read. -/
def compF (P : Program) (G : Nat → Option (List IV)) (f : Nat) : Option (Nat × List RO × AC) :=
  (P.funcs[f]?).bind fun fn => fn.body.bind fun c => (compRs P fn.results.toList).bind fun rs => (compC P G c).map fun x => (fn.ntmps, rs, x)

section
variable {K : Kx} {β : Lb → Option Nat} {env : Env} {H : Hp} {a : Act} {w : World}

theorem resV_sound (hr : RelB K β env H a w) {rv : ResultVar} {r : RO} (hc : compR K.P rv = some r) {x : AV} (hx : resV r env H = some x) :
    ∃ v, (match rv with
      | .tmp t => (pure (a.tmps.getD t undef) : Sem Value)
      | .cell b t => do loadVar t (← asAddr (a.tmps.getD b undef))).run K.P w = .ok v w ∧ RV w β H (Im K β H) x v ∧ ∀ l ∈ x.lbs, H l ≠ .unused := by
  cases rv with
  | tmp t =>
    simp only [compR, Option.some.injEq] at hc; subst hc
    simp only [resV, Option.some.injEq] at hx; subst hx
    exact ⟨_, by simp, hr.regs t, hr.ment t⟩
  | cell b t =>
    simp only [compR] at hc
    obtain ⟨m, h1, rfl⟩ := mnone hc
    simp only [resV] at hx
    obtain ⟨v, q1, q3, q4⟩ := r_loadE (o := { (default : Oper) with op := .load t (.tmp b) }) (x' := .t b) hr rfl h1 rfl hx
    have hv := hr.regs b
    cases he : env b with
    | ptr l sz i j =>
      rw [he] at hv
      simp only [RV] at hv
      obtain ⟨ad, e1, e2⟩ := hv
      simp only [execOp, Act.eval, e1, Instr.loadAt, Instr.sureAddr, Sem.run_bind, Sem.run_pure, Result.andThen_ok] at q1
      refine ⟨v, ?_, q3, q4⟩
      simp only [e1, asAddr, Sem.run_bind, Sem.run_pure, Result.andThen_ok]
      cases hl : (loadVar t ad).run K.P w with
      | ok u w2 =>
        rw [hl] at q1
        simp only [Result.andThen_ok, Result.ok.injEq] at q1
        obtain ⟨q1, rfl⟩ := q1
        cases q1
        rfl
      | _ => rw [hl] at q1; simp at q1
    | _ => rw [he] at hx; simp [loadV] at hx

theorem resVs_sound (hr : RelB K β env H a w) : ∀ (rvs : List ResultVar) (rs : List RO) (xs : List AV), compRs K.P rvs = some rs → resVs env H rs = some xs →
    ∃ vs, (rvs.mapM (m := Sem) fun
      | .tmp t => (pure (a.tmps.getD t undef) : Sem Value)
      | .cell b t => do loadVar t (← asAddr (a.tmps.getD b undef))).run K.P w = .ok vs w ∧ RVs w β H (Im K β H) xs vs ∧ ∀ l ∈ lbss xs, H l ≠ .unused
  | [], rs, xs, hc, hx => by
    simp only [compRs, Option.some.injEq] at hc; subst hc
    simp only [resVs, Option.some.injEq] at hx; subst hx
    exact ⟨[], by simp, by simp [RVs], by simp [lbss]⟩
  | rv :: rvs, rs, xs, hc, hx => by
    simp only [compRs] at hc
    obtain ⟨r, h1, hc⟩ := bnone hc
    obtain ⟨rs', h2, rfl⟩ := mnone hc
    simp only [resVs] at hx
    obtain ⟨x, h3, hx⟩ := bnone hx
    obtain ⟨xs', h4, rfl⟩ := mnone hx
    obtain ⟨v, e1, e2, e3⟩ := resV_sound hr h1 h3
    obtain ⟨vs, k1, k2, k3⟩ := resVs_sound hr rvs rs' xs' h2 h4
    refine ⟨v :: vs, ?_, ⟨v, vs, rfl, e2, k2⟩, ?_⟩
    · rw [List.mapM_cons]
      simp only [Sem.run_bind, e1, Result.andThen_ok, k1, Sem.run_pure]
    · intro l hl
      simp only [lbss, List.mem_append] at hl
      rcases hl with hl | hl
      · exact e3 l hl
      · exact k3 l hl

theorem results_sound (hr : RelB K β env H a w) {fn : Func} {rs : List RO} {xs : List AV} (hc : compRs K.P fn.results.toList = some rs) (hx : resVs env H rs = some xs) :
    ∃ v, (results fn a.tmps).run K.P w = .ok v w ∧ RV w β H (Im K β H) (oneV xs) v ∧ ∀ l ∈ (oneV xs).lbs, H l ≠ .unused := by
  obtain ⟨vs, h1, h2, h3⟩ := resVs_sound hr _ _ _ hc hx
  have hlen := RVs.len _ _ h2
  have hrun : (results fn a.tmps).run K.P w = .ok (if h : vs.toArray.size = 1 then vs.toArray[0] else .tuple vs.toArray) w := by
    unfold results
    rw [Array.mapM_eq_mapM_toList]
    simp only [Sem.run_bind, Sem.run_pure, map_eq_pure_bind]
    exact (congrArg (fun r : Result (List Value) => (r.andThen fun a w' => Result.ok a.toArray w').andThen fun a w' => Result.ok (if h : a.size = 1 then a[0] else Value.tuple a) w') h1).trans rfl
  refine ⟨_, hrun, ?_⟩
  match xs, h2, h3, hlen with
  | [], h2, h3, hlen =>
    simp only [RVs] at h2; subst h2
    simp [oneV, RV, RVs, AV.lbs, lbss]
  | [x], h2, h3, hlen =>
    simp only [RVs] at h2
    obtain ⟨v, us, rfl, e1, rfl⟩ := h2
    simp only [oneV]
    exact ⟨by simpa using e1, fun l hl => h3 l (by simp [lbss, hl])⟩
  | x :: y :: r, h2, h3, hlen =>
    have : vs.toArray.size ≠ 1 := by simp; simp at hlen; omega
    rw [dif_neg this]
    simp only [oneV, RV, AV.lbs]
    exact ⟨⟨vs, rfl, h2⟩, h3⟩

theorem argE_lbs (args : List AV) (n : Nat) (l : Lb) (h : l ∈ (argE args n).lbs) : l ∈ lbss args := by
  unfold argE at h
  rw [List.getD_eq_getElem?_getD] at h
  cases hx : args[n]? with
  | none => rw [hx] at h; simp [AV.lbs] at h
  | some x => rw [hx] at h; exact lbss_get _ _ _ hx l (by simpa using h)

theorem spec_of_go {P : Program} {G : Nat → Option (List IV)} {f : Nat} {n : Nat} {rs : List RO} {ac : AC} {args : List AV} {R : AV → Hp → Prop}
    (hF : compF P G f = some (n, rs, ac.bare)) (hn : args.length ≤ n) (hlab : ∀ l, live H l → l.fresh = false) (hm : ∀ l ∈ lbss args, H l ≠ .unused)
    (hg : go ⟨P, G, n⟩ (RetP rs R) [.code ac] (argE args) H) : SpecC P G f args H R := by
  unfold compF at hF
  obtain ⟨fn, hf, hF⟩ := bnone hF
  obtain ⟨c, hb, hF⟩ := bnone hF
  obtain ⟨rs', hrs, hF⟩ := bnone hF
  obtain ⟨x, hac, hF⟩ := mnone hF
  simp only [Prod.mk.injEq] at hF
  obtain ⟨rfl, rfl, rfl⟩ := hF
  intro w A β vs hr hv
  have hlen := RVs.len _ _ hv
  refine calls_of_wp hf hb ?_
  have hsz : vs.toArray.size = args.length := by simpa using hlen
  let K : Kx := ⟨P, G, w, A, Owned β H, fn.ntmps, H, β⟩
  have hrel : RelB K β (argE args) H { tmps := vs.toArray ++ Array.replicate (fn.ntmps - vs.toArray.size) undef, defers := [] } w :=
    { defers := rfl
      size := by simp only [Array.size_append, Array.size_replicate, hsz, K]; omega
      regs := fun m => by
        have hget : (vs.toArray ++ Array.replicate (fn.ntmps - vs.toArray.size) undef).getD m undef = (vs[m]?).getD undef := by
          rw [Array.getD_eq_getD_getElem?]
          by_cases hmm : m < vs.length
          · rw [Array.getElem?_append_left (by simpa using hmm)]; simp
          · rw [Array.getElem?_append_right (by simp; omega), Array.getElem?_replicate]
            rw [List.getElem?_eq_none (by omega)]
            split <;> simp
        simp only
        rw [hget]
        unfold argE
        rw [List.getD_eq_getElem?_getD]
        cases hx : args[m]? with
        | none =>
          have : vs[m]? = none := by
            rw [List.getElem?_eq_none_iff] at hx ⊢; omega
          rw [this]; simp [RV, undef]
        | some y =>
          obtain ⟨u, h1, h2⟩ := RVs.get _ _ _ _ hv hx
          rw [h1]; exact h2
      rows := hr.rows
      own := hr.own
      inj := hr.inj
      ment := fun m l hl => hm l (argE_lbs args m l hl)
      rment := hr.rment
      frame := hr.frame
      glob := hr.glob
      stab := hr.stab
      fr := hr.fr }
  have hall : All2 (CIs P G) [.code c] [.code ac] := .cons (.code hac) .nil
  have := go_sound (K := K) hlab (RetP rs' R) (szs [.code ac]) [.code ac] [.code c] (Nat.le_refl _) hall (argE args) H hg β _ w hrel
  simp only [PH, Exit.then] at this
  refine wp_mono this ?_
  intro e a' w' hq
  have key : ∀ a' w', (lift K (RetP rs' R) .normal a' w' ∨ lift K (RetP rs' R) .ret a' w') → a'.defers = [] ∧ ∃ v, (results fn a'.tmps).run P w' = .ok v w' ∧
      ∃ v' x H' β', Ending.returned v = .returned v' ∧ R x H' ∧ RelB (callK P G w A β H) β' Env.any H' noAct w' ∧
      RV w' β' H' (Im (callK P G w A β H) β' H') x v' ∧ ∀ l ∈ x.lbs, H' l ≠ .unused := by
    intro a' w' h
    have : ∃ e env' H' β', RetP rs' R e env' H' ∧ RelB K β' env' H' a' w' := by
      rcases h with ⟨env', H', β', h⟩ | ⟨env', H', β', h⟩ <;> exact ⟨_, env', H', β', h⟩
    obtain ⟨e, env', H', β', ⟨_, xs, h1, h2⟩, h3⟩ := this
    obtain ⟨v, k1, k2, k3⟩ := results_sound h3 hrs h1
    refine ⟨h3.defers, v, k1, v, _, H', β', rfl, h2, ?_, k2, k3⟩
    exact
      { defers := rfl
        size := rfl
        regs := fun m => by simp [Env.any, RV]
        rows := h3.rows
        own := h3.own
        inj := h3.inj
        ment := fun m => by simp [Env.any, AV.lbs]
        rment := h3.rment
        frame := h3.frame
        glob := h3.glob
        stab := h3.stab
        fr := h3.fr }
  cases e with
  | normal => exact key a' w' (.inl hq)
  | ret => exact key a' w' (.inr hq)
  | panic ch => obtain ⟨_, _, _, ⟨h, _⟩, _⟩ := hq; simp at h
  | exit id => obtain ⟨_, _, _, ⟨h, _⟩, _⟩ := hq; simp at h
  | goto l => obtain ⟨_, _, _, ⟨h, _⟩, _⟩ := hq; simp at h
  | outgrown => obtain ⟨_, _, _, ⟨h, _⟩, _⟩ := hq; simp at h

/-- A function that is handed data, and hands back data. -/
theorem pure_of_go {P : Program} {G : Nat → Option (List IV)} {f : Nat} {n : Nat} {rs : List RO} {ac : AC} {args : List AV} {res : AV}
    (hF : compF P G f = some (n, rs, ac.bare)) (hn : args.length ≤ n) (hl : lbss args = []) (hl2 : res.lbs = [])
    (hg : go ⟨P, G, n⟩ (RetP rs fun x _ => x = res) [.code ac] (argE args) Hp.none) : PureC P G f args res :=
  ⟨hl, hl2, spec_of_go hF hn (fun l ⟨r, h⟩ => by simp [Hp.none] at h) (by simp [hl]) hg⟩

end
end Go.Am
