import Derived.Test.YtfinkeaikbmpgaaDoorKAm19
import Derived.Deep.LoopGhost
import Derived.IntWalk
set_option linter.unusedSimpArgs false
set_option linter.unusedVariables false
set_option linter.unnecessarySimpa false
set_option linter.defProp false
/- THE ABSTRACT MACHINE, part 16: functions. -/
namespace Go.Am
open Go Go.RowKit
/-- Where a result lies: in a slot, or in the row that a slot points to. -/
abbrev RO := Option (Option Nat) × Nat
def compR (P : Program) : ResultVar → Option RO
  | .tmp t => some (none, t)
  | .cell a t => (mOf P t).map fun m => (some m, a)
def compRs (P : Program) : List ResultVar → Option (List RO)
  | [] => some []
  | r :: s => (compR P r).bind fun x => (compRs P s).map fun y => x :: y
def resV (r : RO) (env : Env) (H : Hp) : Option AV :=
  match r.1 with
  | none => some (env r.2)
  | some m => loadV m (env r.2) H
def resVs (env : Env) (H : Hp) : List RO → Option (List AV)
  | [] => some []
  | r :: s => (resV r env H).bind fun x => (resVs env H s).map fun y => x :: y
def oneV : List AV → AV
  | [x] => x
  | xs => .tup xs
def RetP (rs : List RO) (R : AV → Hp → Prop) : Post := fun e env H => (e = .normal ∨ e = .ret) ∧ ∃ xs, resVs env H rs = some xs ∧ R (oneV xs) H
def argE (args : List AV) : Env := fun n => args.getD n .un
/-- A function, read. -/
def compF (P : Program) (G : Nat → Option (List IV)) (f : Nat) : Option (Nat × List RO × AC) :=
  (P.funcs[f]?).bind fun fn => fn.body.bind fun c => (compRs P fn.results.toList).bind fun rs => (compC P G c).map fun x => (fn.ntmps, rs, x)
section
variable {K : Kx} {β : Lb → Option Nat} {env : Env} {H : Hp} {a : Act} {w : World}
theorem resV_sound (hr : RelB K β env H a w) {rv : ResultVar} {r : RO} (hc : compR K.P rv = some r) {x : AV} (hx : resV r env H = some x) :
    ∃ v, (match rv with
      | .tmp t => (pure (a.tmps.getD t undef) : Sem Value)
      | .cell b t => do loadVar t (← asAddr (a.tmps.getD b undef))).run K.P w = .ok v w ∧ RV w β H (Im K β H) x v ∧ ∀ l ∈ x.lbs, H l ≠ .unused := by
  cases rv with
  | tmp t =>
    simp only [compR, Option.some.injEq] at hc; subst hc
    simp only [resV, Option.some.injEq] at hx; subst hx
    exact ⟨_, by simp, hr.regs t, hr.ment t⟩
  | cell b t =>
    simp only [compR] at hc
    obtain ⟨m, h1, rfl⟩ := mnone hc
    simp only [resV] at hx
    obtain ⟨v, q1, q3, q4⟩ := r_loadE (o := { (default : Oper) with op := .load t (.tmp b) }) (x' := .t b) hr rfl h1 rfl hx
    have hv := hr.regs b
    cases he : env b with
    | ptr l sz i j =>
      rw [he] at hv
      simp only [RV] at hv
      obtain ⟨ad, e1, e2⟩ := hv
      simp only [execOp, Act.eval, e1, Instr.loadAt, Instr.sureAddr, Sem.run_bind, Sem.run_pure, Result.andThen_ok] at q1
      refine ⟨v, ?_, q3, q4⟩
      simp only [e1, asAddr, Sem.run_bind, Sem.run_pure, Result.andThen_ok]
      cases hl : (loadVar t ad).run K.P w with
      | ok u w2 =>
        rw [hl] at q1
        simp only [Result.andThen_ok, Result.ok.injEq] at q1
        obtain ⟨q1, rfl⟩ := q1
        cases q1
        rfl
      | _ => rw [hl] at q1; simp at q1
    | _ => rw [he] at hx; simp [loadV] at hx
theorem resVs_sound (hr : RelB K β env H a w) : ∀ (rvs : List ResultVar) (rs : List RO) (xs : List AV), compRs K.P rvs = some rs → resVs env H rs = some xs →
    ∃ vs, (rvs.mapM (m := Sem) fun
      | .tmp t => (pure (a.tmps.getD t undef) : Sem Value)
      | .cell b t => do loadVar t (← asAddr (a.tmps.getD b undef))).run K.P w = .ok vs w ∧ RVs w β H (Im K β H) xs vs ∧ ∀ l ∈ lbss xs, H l ≠ .unused
  | [], rs, xs, hc, hx => by
    simp only [compRs, Option.some.injEq] at hc; subst hc
    simp only [resVs, Option.some.injEq] at hx; subst hx
    exact ⟨[], by simp, by simp [RVs], by simp [lbss]⟩
  | rv :: rvs, rs, xs, hc, hx => by
    simp only [compRs] at hc
    obtain ⟨r, h1, hc⟩ := bnone hc
    obtain ⟨rs', h2, rfl⟩ := mnone hc
    simp only [resVs] at hx
    obtain ⟨x, h3, hx⟩ := bnone hx
    obtain ⟨xs', h4, rfl⟩ := mnone hx
    obtain ⟨v, e1, e2, e3⟩ := resV_sound hr h1 h3
    obtain ⟨vs, k1, k2, k3⟩ := resVs_sound hr rvs rs' xs' h2 h4
    refine ⟨v :: vs, ?_, ⟨v, vs, rfl, e2, k2⟩, ?_⟩
    · rw [List.mapM_cons]
      simp only [Sem.run_bind, e1, Result.andThen_ok, k1, Sem.run_pure]
    · intro l hl
      simp only [lbss, List.mem_append] at hl
      rcases hl with hl | hl
      · exact e3 l hl
      · exact k3 l hl
theorem results_sound (hr : RelB K β env H a w) {fn : Func} {rs : List RO} {xs : List AV} (hc : compRs K.P fn.results.toList = some rs) (hx : resVs env H rs = some xs) :
    ∃ v, (results fn a.tmps).run K.P w = .ok v w ∧ RV w β H (Im K β H) (oneV xs) v ∧ ∀ l ∈ (oneV xs).lbs, H l ≠ .unused := by
  obtain ⟨vs, h1, h2, h3⟩ := resVs_sound hr _ _ _ hc hx
  have hlen := RVs.len _ _ h2
  have hrun : (results fn a.tmps).run K.P w = .ok (if h : vs.toArray.size = 1 then vs.toArray[0] else .tuple vs.toArray) w := by
    unfold results
    rw [Array.mapM_eq_mapM_toList]
    simp only [Sem.run_bind, Sem.run_pure, map_eq_pure_bind]
    exact (congrArg (fun r : Result (List Value) => (r.andThen fun a w' => Result.ok a.toArray w').andThen fun a w' => Result.ok (if h : a.size = 1 then a[0] else Value.tuple a) w') h1).trans rfl
  refine ⟨_, hrun, ?_⟩
  match xs, h2, h3, hlen with
  | [], h2, h3, hlen =>
    simp only [RVs] at h2; subst h2
    simp [oneV, RV, RVs, AV.lbs, lbss]
  | [x], h2, h3, hlen =>
    simp only [RVs] at h2
    obtain ⟨v, us, rfl, e1, rfl⟩ := h2
    simp only [oneV]
    exact ⟨by simpa using e1, fun l hl => h3 l (by simp [lbss, hl])⟩
  | x :: y :: r, h2, h3, hlen =>
    have : vs.toArray.size ≠ 1 := by simp; simp at hlen; omega
    rw [dif_neg this]
    simp only [oneV, RV, AV.lbs]
    exact ⟨⟨vs, rfl, h2⟩, h3⟩
theorem argE_lbs (args : List AV) (n : Nat) (l : Lb) (h : l ∈ (argE args n).lbs) : l ∈ lbss args := by
  unfold argE at h
  rw [List.getD_eq_getElem?_getD] at h
  cases hx : args[n]? with
  | none => rw [hx] at h; simp [AV.lbs] at h
  | some x => rw [hx] at h; exact lbss_get _ _ _ hx l (by simpa using h)
theorem spec_of_go {P : Program} {G : Nat → Option (List IV)} {f : Nat} {n : Nat} {rs : List RO} {ac : AC} {args : List AV} {R : AV → Hp → Prop}
    (hF : compF P G f = some (n, rs, ac.bare)) (hn : args.length ≤ n) (hlab : ∀ l, live H l → l.fresh = false) (hm : ∀ l ∈ lbss args, H l ≠ .unused)
    (hg : go ⟨P, G, n⟩ (RetP rs R) [.code ac] (argE args) H) : SpecC P G f args H R := by
  unfold compF at hF
  obtain ⟨fn, hf, hF⟩ := bnone hF
  obtain ⟨c, hb, hF⟩ := bnone hF
  obtain ⟨rs', hrs, hF⟩ := bnone hF
  obtain ⟨x, hac, hF⟩ := mnone hF
  simp only [Prod.mk.injEq] at hF
  obtain ⟨rfl, rfl, rfl⟩ := hF
  intro w A β vs hr hv
  have hlen := RVs.len _ _ hv
  refine calls_of_wp hf hb ?_
  have hsz : vs.toArray.size = args.length := by simpa using hlen
  let K : Kx := ⟨P, G, w, A, Owned β H, fn.ntmps, H, β⟩
  have hrel : RelB K β (argE args) H { tmps := vs.toArray ++ Array.replicate (fn.ntmps - vs.toArray.size) undef, defers := [] } w :=
    { defers := rfl
      size := by simp only [Array.size_append, Array.size_replicate, hsz, K]; omega
      regs := fun m => by
        have hget : (vs.toArray ++ Array.replicate (fn.ntmps - vs.toArray.size) undef).getD m undef = (vs[m]?).getD undef := by
          rw [Array.getD_eq_getD_getElem?]
          by_cases hmm : m < vs.length
          · rw [Array.getElem?_append_left (by simpa using hmm)]; simp
          · rw [Array.getElem?_append_right (by simp; omega), Array.getElem?_replicate]
            rw [List.getElem?_eq_none (by omega)]
            split <;> simp
        simp only
        rw [hget]
        unfold argE
        rw [List.getD_eq_getElem?_getD]
        cases hx : args[m]? with
        | none =>
          have : vs[m]? = none := by
            rw [List.getElem?_eq_none_iff] at hx ⊢; omega
          rw [this]; simp [RV, undef]
        | some y =>
          obtain ⟨u, h1, h2⟩ := RVs.get _ _ _ _ hv hx
          rw [h1]; exact h2
      rows := hr.rows
      own := hr.own
      inj := hr.inj
      ment := fun m l hl => hm l (argE_lbs args m l hl)
      rment := hr.rment
      frame := hr.frame
      glob := hr.glob
      stab := hr.stab
      fr := hr.fr }
  have hall : All2 (CIs P G) [.code c] [.code ac] := .cons (.code hac) .nil
  have := go_sound (K := K) hlab (RetP rs' R) (szs [.code ac]) [.code ac] [.code c] (Nat.le_refl _) hall (argE args) H hg β _ w hrel
  simp only [PH, Exit.then] at this
  refine wp_mono this ?_
  intro e a' w' hq
  have key : ∀ a' w', (lift K (RetP rs' R) .normal a' w' ∨ lift K (RetP rs' R) .ret a' w') → a'.defers = [] ∧ ∃ v, (results fn a'.tmps).run P w' = .ok v w' ∧
      ∃ v' x H' β', Ending.returned v = .returned v' ∧ R x H' ∧ RelB (callK P G w A β H) β' Env.any H' noAct w' ∧
      RV w' β' H' (Im (callK P G w A β H) β' H') x v' ∧ ∀ l ∈ x.lbs, H' l ≠ .unused := by
    intro a' w' h
    have : ∃ e env' H' β', RetP rs' R e env' H' ∧ RelB K β' env' H' a' w' := by
      rcases h with ⟨env', H', β', h⟩ | ⟨env', H', β', h⟩ <;> exact ⟨_, env', H', β', h⟩
    obtain ⟨e, env', H', β', ⟨_, xs, h1, h2⟩, h3⟩ := this
    obtain ⟨v, k1, k2, k3⟩ := results_sound h3 hrs h1
    refine ⟨h3.defers, v, k1, v, _, H', β', rfl, h2, ?_, k2, k3⟩
    exact
      { defers := rfl
        size := rfl
        regs := fun m => by simp [Env.any, RV]
        rows := h3.rows
        own := h3.own
        inj := h3.inj
        ment := fun m => by simp [Env.any, AV.lbs]
        rment := h3.rment
        frame := h3.frame
        glob := h3.glob
        stab := h3.stab
        fr := h3.fr }
  cases e with
  | normal => exact key a' w' (.inl hq)
  | ret => exact key a' w' (.inr hq)
  | panic ch => obtain ⟨_, _, _, ⟨h, _⟩, _⟩ := hq; simp at h
  | exit id => obtain ⟨_, _, _, ⟨h, _⟩, _⟩ := hq; simp at h
  | goto l => obtain ⟨_, _, _, ⟨h, _⟩, _⟩ := hq; simp at h
  | outgrown => obtain ⟨_, _, _, ⟨h, _⟩, _⟩ := hq; simp at h
/-- A function that is handed data, and hands back data. -/
theorem pure_of_go {P : Program} {G : Nat → Option (List IV)} {f : Nat} {n : Nat} {rs : List RO} {ac : AC} {args : List AV} {res : AV}
    (hF : compF P G f = some (n, rs, ac.bare)) (hn : args.length ≤ n) (hl : lbss args = []) (hl2 : res.lbs = [])
    (hg : go ⟨P, G, n⟩ (RetP rs fun x _ => x = res) [.code ac] (argE args) Hp.none) : PureC P G f args res :=
  ⟨hl, hl2, spec_of_go hF hn (fun l ⟨r, h⟩ => by simp [Hp.none] at h) (by simp [hl]) hg⟩
end
end Go.Am

/- THE ABSTRACT MACHINE, part 21: loops. -/
namespace Go.Am
open Go Go.RowKit
/-- A state, seen as another: less is known, labels have other names. -/
structure Wk (ρ : Lb → Lb) (env : Env) (H : Hp) (env2 : Env) (H2 : Hp) : Prop where
  e : ∀ n, env2 n = .any ∨ env n = ren ρ (env2 n)
  h : ∀ l r, H2 l = .live r → H (ρ l) = .live (renR ρ r)
  inj : ∀ l l', live H2 l → live H2 l' → ρ l = ρ l' → l = l'
  m : ∀ n, ∀ l ∈ (env2 n).lbs, H2 l ≠ .unused
  rm : ∀ l r, H2 l = .live r → ∀ cs ∈ r.els, ∀ q ∈ lbss cs, H2 q ≠ .unused
  st : ∀ l, l.fresh = false → (H l ≠ .unused → H2 l ≠ .unused) ∧ (live H2 l → ρ l = l)
  fr : ∀ l, live H2 l → l.fresh = true → (ρ l).fresh = true
def LoopQ {σ : Type} (S : St) (Q : Post) (k : List It) (E : σ → Env) (HH : σ → Hp) (μ : σ → Nat) (n : Nat) : Post := fun e env H =>
  match e with
  | .normal => ∃ s, μ s < n ∧ ∃ ρ, Wk ρ env H (E s) (HH s)
  | .exit id => match popTo id k with
    | some k' => go S Q k' env H
    | none => Q (.exit id) env H
  | .ret => Q .ret env H
  | _ => False
theorem Wk.rel {K : Kx} {β : Lb → Option Nat} {env : Env} {H : Hp} {a : Act} {w : World} {ρ : Lb → Lb} {env2 : Env} {H2 : Hp} (hS : ∀ l, live K.H0 l → l.fresh = false) (h : Wk ρ env H env2 H2) (hr : RelB K β env H a w) :
    RelB K (fun l => β (ρ l)) env2 H2 a w :=
  hr.weak ρ h.e h.h h.inj h.m h.rm (fun l hl => ⟨(h.st l (hS l hl)).1 (hr.stab l hl).1, (h.st l (hS l hl)).2⟩) h.fr
theorem loop_intro {σ : Type} {S : St} {Q : Post} {c : AC} {k : List It} {env : Env} {H : Hp} (E : σ → Env) (HH : σ → Hp) (μ : σ → Nat) (s0 : σ) (ρ : Lb → Lb) (h0 : Wk ρ env H (E s0) (HH s0))
    (round : ∀ s, go S (LoopQ S Q k E HH μ (μ s)) [.code c] (E s) (HH s)) : LoopG S Q c k env H := by
  intro K hKS hS c0 ck hc hall β a w hr
  subst hKS
  simp only [PH, Exit.then]
  refine wp_loop_ghost (fun n a w => ∃ s β, μ s = n ∧ RelB K β (E s) (HH s) a w) (μ s0) ⟨s0, _, rfl, h0.rel hS hr⟩ ?_
  rintro n a w ⟨s, β, rfl, hr⟩
  have hs := go_sound (K := K) hS _ (szs [.code c]) [.code c] [.code c0] (Nat.le_refl _) (.cons (.code hc) .nil) (E s) (HH s) (round s) β a w hr
  simp only [PH, Exit.then] at hs
  refine wp_mono hs ?_
  rintro e a' w' ⟨env', H', β', hq, hr'⟩
  cases e with
  | normal =>
    obtain ⟨s', hlt, ρ', hw⟩ := hq
    exact ⟨μ s', hlt, s', _, rfl, hw.rel hS hr'⟩
  | exit id =>
    have hp := pop_sound (P := K.P) (G := K.G) (lift K Q) (id := id) ck k hall
    simp only [LoopQ] at hq
    show PH K.P (lift K Q) ck (.exit id) a' w'
    cases hk' : popTo id k with
    | some k' =>
      rw [hk'] at hp hq
      obtain ⟨ck', e1, e2⟩ := hp
      exact e2 a' w' (go_sound (K := K) hS Q (szs k') k' ck' (Nat.le_refl _) e1 env' H' hq β' a' w' hr')
    | none =>
      rw [hk'] at hp hq
      exact hp a' w' ⟨env', H', β', hq, hr'⟩
  | ret => exact PH_ret _ _ _ _ _ ⟨env', H', β', hq, hr'⟩
  | goto l => exact hq.elim
  | panic ch => exact hq.elim
  | outgrown => exact hq.elim
end Go.Am

/- THE ABSTRACT MACHINE, part 22: how code is evaluated: equations. -/
namespace Go.Am
open Go Go.RowKit
/-- A token: what it is of is left alone by evaluation. -/
inductive Tk {α : Type 1} (a : α) : Type
  | mk
inductive Tp (a c : Prop) : Type
  | mk
inductive Tv {α : Type} (a : α → Prop) : Type
  | mk
inductive Tw (a : AV → Hp → Prop) : Type
  | mk
/-- A value comes, and then so. -/
def stK (o : Option AV) (k : AV → Prop) (_ : Tv k) : Prop := ∃ x, o = some x ∧ k x
/-- A guard. -/
def gB (x : AV) (t : Bool) (A B : Prop) (_ : Tp A B) : Prop :=
  match x with
  | .bool b => if b = t then A else B
  | .un => B
  | _ => False
/-- A fork. -/
def cK (x : AV) (A B : Prop) (_ : Tp A B) : Prop :=
  match x with
  | .bool b => if b = true then A else B
  | _ => False
/-- A row that is as it is said. -/
def hK (o : Option Hp) (k : Hp → Prop) (_ : Tv k) : Prop := ∃ x, o = some x ∧ k x
def pK (o : Option (AV × Hp)) (k : AV → Hp → Prop) (_ : Tw k) : Prop := ∃ x h, o = some (x, h) ∧ k x h
/-- A call. -/
def clK (S : St) (f : Nat) (args : List AV) (H : Hp) (k : AV → Hp → Prop) (_ : Tw k) : Prop := CallT S f args H k
/-- A call of a function that is handed data. -/
def puK (S : St) (f : Nat) (args : List AV) (k : AV → Prop) (_ : Tv k) : Prop := ∃ x, PureC S.P S.G f args x ∧ k x
section
variable {S : St} {Q : Post} {env : Env} {H : Hp} {k : List It}
theorem stK_some (x : AV) (k : AV → Prop) (u : Tv k) : stK (some x) k u = k x := by simp [stK]
theorem hK_some (x : Hp) (k : Hp → Prop) (u : Tv k) : hK (some x) k u = k x := by simp [hK]
theorem pK_some (x : AV) (h : Hp) (k : AV → Hp → Prop) (u : Tw k) : pK (some (x, h)) k u = k x h := by
  simp only [pK, Option.some.injEq, Prod.mk.injEq]
  apply propext
  constructor
  · rintro ⟨_, _, ⟨rfl, rfl⟩, h⟩; exact h
  · intro h; exact ⟨_, _, ⟨rfl, rfl⟩, h⟩
theorem gB_t (A B : Prop) (u : Tp A B) : gB (.bool true) true A B u = A := by simp [gB]
theorem gB_f (A B : Prop) (u : Tp A B) : gB (.bool false) true A B u = B := by simp [gB]
theorem gB_t' (A B : Prop) (u : Tp A B) : gB (.bool true) false A B u = B := by simp [gB]
theorem gB_f' (A B : Prop) (u : Tp A B) : gB (.bool false) false A B u = A := by simp [gB]
theorem gB_u (t : Bool) (A B : Prop) (u : Tp A B) : gB .un t A B u = B := by simp [gB]
theorem cK_t (A B : Prop) (u : Tp A B) : cK (.bool true) A B u = A := by simp [cK]
theorem cK_f (A B : Prop) (u : Tp A B) : cK (.bool false) A B u = B := by simp [cK]
theorem ao_nil (k : Env → Hp → Prop) : AO S [] env H k = k env H := rfl
theorem ao_some (n : Nat) (i : Ins) (r : List LIns) (k : Env → Hp → Prop) :
    AO S (⟨some n, none, i⟩ :: r) env H k = (n < S.N ∧ Act1 S (some n) i env H fun x H' => AO S r (put env n x) H' k) := by
  simp [AO, gW, putO]
theorem ao_none (i : Ins) (r : List LIns) (k : Env → Hp → Prop) :
    AO S (⟨none, none, i⟩ :: r) env H k = Act1 S none i env H fun x H' => AO S r env H' k := by
  simp [AO, gW, putO]
theorem ao_guard (n s : Nat) (t : Bool) (i : Ins) (r : List LIns) (k : Env → Hp → Prop) :
    AO S (⟨some n, some (s, t), i⟩ :: r) env H k = (n < S.N ∧ gB (env s) t (Act1 S (some n) i env H fun x H' => AO S r (put env n x) H' k) (AO S r (put env n .un) H k) .mk) := by
  simp only [AO, gW, putO]
  cases he : env s <;> simp [gB, he]
  rename_i b
  cases b <;> cases t <;> simp
theorem ao_guard0 (s : Nat) (t : Bool) (i : Ins) (r : List LIns) (k : Env → Hp → Prop) :
    AO S (⟨none, some (s, t), i⟩ :: r) env H k = gB (env s) t (Act1 S none i env H fun x H' => AO S r env H' k) (AO S r env H k) .mk := by
  simp only [AO, gW, putO]
  cases he : env s <;> simp [gB, he]
  rename_i b
  cases b <;> cases t <;> simp
theorem aof_some (j n : Nat) (i : Ins) (f : Fp) (r : List (Nat × LIns × Fp)) (k : Env → Hp → Prop) :
    AOf S ((j, ⟨some n, none, i⟩, f) :: r) env H k = (n < S.N ∧ Act1f S f (some n) i env H fun x H' => AOf S r (put env n x) H' k) := by
  simp [AOf, St1, gW, putO]
theorem aof_none (j : Nat) (i : Ins) (f : Fp) (r : List (Nat × LIns × Fp)) (k : Env → Hp → Prop) :
    AOf S ((j, ⟨none, none, i⟩, f) :: r) env H k = Act1f S f none i env H fun x H' => AOf S r env H' k := by
  simp [AOf, St1, gW, putO]
theorem aof_guard (j n s : Nat) (t : Bool) (i : Ins) (f : Fp) (r : List (Nat × LIns × Fp)) (k : Env → Hp → Prop) :
    AOf S ((j, ⟨some n, some (s, t), i⟩, f) :: r) env H k = (n < S.N ∧ gB (env s) t (Act1f S f (some n) i env H fun x H' => AOf S r (put env n x) H' k) (AOf S r (put env n .un) H k) .mk) := by
  simp only [AOf, St1, gW, putO]
  cases he : env s <;> simp [gB, he]
  rename_i b
  cases b <;> cases t <;> simp
theorem go_nil : go S Q [] env H = Q .normal env H := by rw [go]
theorem go_blk (id : Nat) : go S Q (.blk id :: k) env H = go S Q k env H := by rw [go]
theorem go_skip : go S Q (.code .skip :: k) env H = go S Q k env H := by rw [go]
theorem go_seq (a b : AC) : go S Q (.code (.seq a b) :: k) env H = go S Q (.code a :: .code b :: k) env H := by rw [go]
theorem go_cond (x : O) (a b : AC) : go S Q (.code (.cond x a b) :: k) env H = cK (ev env x) (go S Q (.code a :: k) env H) (go S Q (.code b :: k) env H) .mk := by
  rw [go]
  unfold cK
  apply propext
  constructor
  · rintro ⟨t, h1, h2, h3⟩
    rw [h1]
    cases t
    · simpa using h3 rfl
    · simpa using h2 rfl
  · intro h
    split at h
    · rename_i t e
      refine ⟨t, e, fun e2 => ?_, fun e2 => ?_⟩ <;> subst e2 <;> simpa using h
    · exact h.elim
theorem go_block (id : Nat) (c : AC) : go S Q (.code (.block id c) :: k) env H = go S Q (.code c :: .blk id :: k) env H := by rw [go]
theorem go_loop (c : AC) : go S Q (.code (.loop c) :: k) env H = LoopG S Q c k env H := by rw [go]
theorem go_ret : go S Q (.code .ret :: k) env H = Q .ret env H := by rw [go]
theorem go_reg (is : List LIns) : go S Q (.code (.reg is) :: k) env H = AO S is env H (go S Q k) := by rw [go]
theorem go_keep (ns : List Nat) (c : AC) : go S Q (.code (.gh (.keep ns) c) :: k) env H = go S Q (.code c :: k) (keepE ns env) H := by rw [go]
theorem go_frz (l : Lb) (d : Nat) (c : AC) : go S Q (.code (.gh (.frz l d) c) :: k) env H = ∃ sz xs i n, env d = .sl l sz i n ∧ H l = .live ⟨sz, immE xs⟩ ∧ l.fresh = true ∧ i + n ≤ xs.length ∧ Flat xs ∧
        go S Q (.code c :: k) (put env d (.list ((xs.drop i).take n))) (upd H l .dead) := by rw [go]
theorem go_own (d sz : Nat) (c : AC) : go S Q (.code (.gh (.own d sz) c) :: k) env H = (env d = .nil0 ∧ 0 < sz ∧ H (.loc d) = .unused ∧ go S Q (.code c :: k) (put env d (.sl (.loc d) sz 0 0)) (upd H (.loc d) (.live ⟨sz, []⟩))) := by rw [go]
theorem go_weak (c : AC) : go S Q (.code (.gh .weak c) :: k) env H = ∃ env2 H2, Weaker S env H env2 H2 ∧ go S Q (.code c :: k) env2 H2 := by rw [go]
theorem go_exit (id : Nat) : go S Q (.code (.exit id) :: k) env H = match popTo id k with
    | some k' => go S Q k' env H
    | none => Q (.exit id) env H := by
  cases h : popTo id k with
  | some k' => rw [go_exit_some h]
  | none => rw [go_exit_none h]
theorem items_cons (n : Nat) (i : LIns) (is : List LIns) (f : Fp) (fs : List Fp) : items n (i :: is) (f :: fs) = (n, i, f) :: items (n + 1) is fs := rfl
theorem a1_mov d x (k : AV → Hp → Prop) : Act1 S d (.mov x) env H k = stK (stillV (.mov x) env) (fun x => k x H) .mk := rfl
theorem a1_pick d c a b (k : AV → Hp → Prop) : Act1 S d (.pick c a b) env H k = stK (stillV (.pick c a b) env) (fun x => k x H) .mk := rfl
theorem a1_fld d a off (k : AV → Hp → Prop) : Act1 S d (.fld a off) env H k = stK (stillV (.fld a off) env) (fun x => k x H) .mk := rfl
theorem a1_ixp d x i n sz (k : AV → Hp → Prop) : Act1 S d (.ixp x i n sz) env H k = stK (stillV (.ixp x i n sz) env) (fun x => k x H) .mk := rfl
theorem a1_ixa d x i sz (k : AV → Hp → Prop) : Act1 S d (.ixa x i sz) env H k = stK (stillV (.ixa x i sz) env) (fun x => k x H) .mk := rfl
theorem a1_ixs d x i (k : AV → Hp → Prop) : Act1 S d (.ixs x i) env H k = stK (stillV (.ixs x i) env) (fun x => k x H) .mk := rfl
theorem a1_len d x (k : AV → Hp → Prop) : Act1 S d (.len x) env H k = stK (stillV (.len x) env) (fun x => k x H) .mk := rfl
theorem a1_lens d x (k : AV → Hp → Prop) : Act1 S d (.lens x) env H k = stK (stillV (.lens x) env) (fun x => k x H) .mk := rfl
theorem a1_slc d x lo hi mx sz (k : AV → Hp → Prop) : Act1 S d (.slc x lo hi mx sz) env H k = stK (stillV (.slc x lo hi mx sz) env) (fun x => k x H) .mk := rfl
theorem a1_slcs d x lo hi (k : AV → Hp → Prop) : Act1 S d (.slcs x lo hi) env H k = stK (stillV (.slcs x lo hi) env) (fun x => k x H) .mk := rfl
theorem a1_bin d op x y (k : AV → Hp → Prop) : Act1 S d (.bin op x y) env H k = stK (stillV (.bin op x y) env) (fun x => k x H) .mk := rfl
theorem a1_eqb d n x y (k : AV → Hp → Prop) : Act1 S d (.eqb n x y) env H k = stK (stillV (.eqb n x y) env) (fun x => k x H) .mk := rfl
theorem a1_eqp d n x y (k : AV → Hp → Prop) : Act1 S d (.eqp n x y) env H k = stK (stillV (.eqp n x y) env) (fun x => k x H) .mk := rfl
theorem a1_eqi d n x y (k : AV → Hp → Prop) : Act1 S d (.eqi n x y) env H k = stK (stillV (.eqi n x y) env) (fun x => k x H) .mk := rfl
theorem a1_eqst d n ks x y (k : AV → Hp → Prop) : Act1 S d (.eqst n ks x y) env H k = stK (stillV (.eqst n ks x y) env) (fun x => k x H) .mk := rfl
theorem a1_not d x (k : AV → Hp → Prop) : Act1 S d (.not x) env H k = stK (stillV (.not x) env) (fun x => k x H) .mk := rfl
theorem a1_neg d x (k : AV → Hp → Prop) : Act1 S d (.neg x) env H k = stK (stillV (.neg x) env) (fun x => k x H) .mk := rfl
theorem a1_max d x y (k : AV → Hp → Prop) : Act1 S d (.max x y) env H k = stK (stillV (.max x y) env) (fun x => k x H) .mk := rfl
theorem a1_min d x y (k : AV → Hp → Prop) : Act1 S d (.min x y) env H k = stK (stillV (.min x y) env) (fun x => k x H) .mk := rfl
theorem a1_ext d x i (k : AV → Hp → Prop) : Act1 S d (.ext x i) env H k = stK (stillV (.ext x i) env) (fun x => k x H) .mk := rfl
theorem a1_bld d z ps (k : AV → Hp → Prop) : Act1 S d (.bld z ps) env H k = stK (stillV (.bld z ps) env) (fun x => k x H) .mk := rfl
theorem a1_getf d x off m (k : AV → Hp → Prop) : Act1 S d (.getf x off m) env H k = stK (stillV (.getf x off m) env) (fun x => k x H) .mk := rfl
theorem a1_lits d n sz z ps (k : AV → Hp → Prop) : Act1 S d (.lits n sz z ps) env H k = stK (stillV (.lits n sz z ps) env) (fun x => k x H) .mk := rfl
theorem a1_boxi d x (k : AV → Hp → Prop) : Act1 S d (.boxi x) env H k = stK (stillV (.boxi x) env) (fun x => k x H) .mk := rfl
theorem a1_nchk d x (k : AV → Hp → Prop) : Act1 S d (.nchk x) env H k = stK (stillV (.nchk x) env) (fun x => k x H) .mk := rfl
theorem a1_mkf d f cap (k : AV → Hp → Prop) : Act1 S d (.mkf f cap) env H k = stK (stillV (.mkf f cap) env) (fun x => k x H) .mk := rfl
theorem a1_cvi d kd x (k : AV → Hp → Prop) : Act1 S d (.cvi kd x) env H k = stK (stillV (.cvi kd x) env) (fun x => k x H) .mk := rfl
theorem a1_cvs d x (k : AV → Hp → Prop) : Act1 S d (.cvs x) env H k = stK (stillV (.cvs x) env) (fun x => k x H) .mk := rfl
theorem a1_cvb d x (k : AV → Hp → Prop) : Act1 S d (.cvb x) env H k = stK (stillV (.cvb x) env) (fun x => k x H) .mk := rfl
theorem a1_cvt d x (k : AV → Hp → Prop) : Act1 S d (.cvt x) env H k = stK (stillV (.cvt x) env) (fun x => k x H) .mk := rfl
theorem a1_mkif d t x (k : AV → Hp → Prop) : Act1 S d (.mkif t x) env H k = stK (stillV (.mkif t x) env) (fun x => k x H) .mk := rfl
theorem a1_load (d : Option Nat) (m : Option Nat) (a : O) (k : AV → Hp → Prop) : Act1 S d (.load m a) env H k = (stK (stillV (.load m a) env) (fun x => k x H) .mk ∨ stK (loadV m (ev env a) H) (fun x => k x H) .mk) := rfl
/-- A load, by what it reads. -/
def ldV (m : Option Nat) (x : AV) (H : Hp) : Option AV :=
  match x with
  | .lptr cs => match m with
      | none => cs[0]?.map IV.av1
      | some k => if k ≤ cs.length then some (.agg ((cs.take k).map IV.av1)) else none
  | x => loadV m x H
theorem a1_ld (d : Option Nat) (m : Option Nat) (a : O) (k : AV → Hp → Prop) : Act1 S d (.load m a) env H k = stK (ldV m (ev env a) H) (fun x => k x H) .mk := by
  rw [a1_load]
  unfold ldV
  split
  · rename_i cs e
    simp only [stillV, e, loadV, stK]
    apply propext
    constructor
    · rintro (h | ⟨x, h, _⟩)
      · exact h
      · simp at h
    · exact .inl
  · rename_i x hne
    have : stillV (.load m a) env = none := by
      simp only [stillV]
    rw [this]
    simp [stK]
theorem a1_new (n : Nat) (cs : List AV) (k : AV → Hp → Prop) : Act1 S (some n) (.new cs) env H k = (H (.loc n) = .unused ∧ 0 < cs.length ∧ cs.length ≤ maxLen ∧
    k (.ptr (.loc n) cs.length 0 0) (upd H (.loc n) (.live ⟨cs.length, [cs]⟩))) := by
  simp [Act1]
/-- New memory that holds what is given. -/
def boxK (x : AV) (n : Nat) (H : Hp) (k : AV → Hp → Prop) : Prop := H (.loc n) = .unused ∧ x.stb = true ∧ 0 < x.cells.length ∧ x.cells.length ≤ maxLen ∧
  k (.ptr (.loc n) x.cells.length 0 0) (upd H (.loc n) (.live ⟨x.cells.length, [x.cells]⟩))
theorem a1_box (n : Nat) (x : O) (k : AV → Hp → Prop) : Act1 S (some n) (.box x) env H k = boxK (ev env x) n H k := by
  simp [Act1, boxK]
theorem a1_store (m : Nat) (a x : O) (k : AV → Hp → Prop) : Act1 S none (.store m a x) env H k = hK (storeV m (ev env a) (ev env x) H) (fun H' => k .un H') .mk := by
  simp [Act1, hK]
theorem a1_app (n : Nat) (s x : O) (sz b : Nat) (k : AV → Hp → Prop) : Act1 S (some n) (.app s x sz b) env H k = pK (appV sz b n (ev env s) (ev env x) H) k .mk := by
  simp only [Act1, pK, Option.some.injEq]
  apply propext
  constructor
  · rintro ⟨_, rfl, h⟩; exact h
  · intro h; exact ⟨_, rfl, h⟩
theorem a1_call (d : Option Nat) (f : Nat) (args : List O) (k : AV → Hp → Prop) : Act1 S d (.call f args) env H k = clK S f (args.map (ev env)) H k .mk := rfl
theorem callT_pure {f : Nat} {args : List AV} {res : AV} {k : AV → Hp → Prop} (h : PureC S.P S.G f args res) (hk : k res H) {u : Tw k} : clK S f args H k u := .inl ⟨res, h, hk⟩
theorem puK_in {f : Nat} {args : List AV} {res : AV} {k : AV → Prop} (h : PureC S.P S.G f args res) (hk : k res) {u : Tv k} : puK S f args k u := ⟨res, h, hk⟩
theorem af_mov' d x (k : AV → Hp → Prop) : Act1f S .no d (.mov x) env H k = stK (stillV (.mov x) env) (fun x => k x H) .mk := by simp only [Act1f, Quiet, stK, or_false]
theorem af_pick' d c a b (k : AV → Hp → Prop) : Act1f S .no d (.pick c a b) env H k = stK (stillV (.pick c a b) env) (fun x => k x H) .mk := by simp only [Act1f, Quiet, stK, or_false]
theorem af_fld' d a off (k : AV → Hp → Prop) : Act1f S .no d (.fld a off) env H k = stK (stillV (.fld a off) env) (fun x => k x H) .mk := by simp only [Act1f, Quiet, stK, or_false]
theorem af_ixa' d x i sz (k : AV → Hp → Prop) : Act1f S .no d (.ixa x i sz) env H k = stK (stillV (.ixa x i sz) env) (fun x => k x H) .mk := by simp only [Act1f, Quiet, stK, or_false]
theorem af_ixp' d x i n sz (k : AV → Hp → Prop) : Act1f S .no d (.ixp x i n sz) env H k = stK (stillV (.ixp x i n sz) env) (fun x => k x H) .mk := by simp only [Act1f, Quiet, stK, or_false]
theorem af_ixs' d x i (k : AV → Hp → Prop) : Act1f S .no d (.ixs x i) env H k = stK (stillV (.ixs x i) env) (fun x => k x H) .mk := by simp only [Act1f, Quiet, stK, or_false]
theorem af_len' d x (k : AV → Hp → Prop) : Act1f S .no d (.len x) env H k = stK (stillV (.len x) env) (fun x => k x H) .mk := by simp only [Act1f, Quiet, stK, or_false]
theorem af_lens' d x (k : AV → Hp → Prop) : Act1f S .no d (.lens x) env H k = stK (stillV (.lens x) env) (fun x => k x H) .mk := by simp only [Act1f, Quiet, stK, or_false]
theorem af_slc' d x lo hi mx sz (k : AV → Hp → Prop) : Act1f S .no d (.slc x lo hi mx sz) env H k = stK (stillV (.slc x lo hi mx sz) env) (fun x => k x H) .mk := by simp only [Act1f, Quiet, stK, or_false]
theorem af_slcs' d x lo hi (k : AV → Hp → Prop) : Act1f S .no d (.slcs x lo hi) env H k = stK (stillV (.slcs x lo hi) env) (fun x => k x H) .mk := by simp only [Act1f, Quiet, stK, or_false]
theorem af_bin' d op x y (k : AV → Hp → Prop) : Act1f S .no d (.bin op x y) env H k = stK (stillV (.bin op x y) env) (fun x => k x H) .mk := by simp only [Act1f, Quiet, stK, or_false]
theorem af_eqb' d n x y (k : AV → Hp → Prop) : Act1f S .no d (.eqb n x y) env H k = stK (stillV (.eqb n x y) env) (fun x => k x H) .mk := by simp only [Act1f, Quiet, stK, or_false]
theorem af_eqp' d n x y (k : AV → Hp → Prop) : Act1f S .no d (.eqp n x y) env H k = stK (stillV (.eqp n x y) env) (fun x => k x H) .mk := by simp only [Act1f, Quiet, stK, or_false]
theorem af_eqi' d n x y (k : AV → Hp → Prop) : Act1f S .no d (.eqi n x y) env H k = stK (stillV (.eqi n x y) env) (fun x => k x H) .mk := by simp only [Act1f, Quiet, stK, or_false]
theorem af_eqst' d n ks x y (k : AV → Hp → Prop) : Act1f S .no d (.eqst n ks x y) env H k = stK (stillV (.eqst n ks x y) env) (fun x => k x H) .mk := by simp only [Act1f, Quiet, stK, or_false]
theorem af_not' d x (k : AV → Hp → Prop) : Act1f S .no d (.not x) env H k = stK (stillV (.not x) env) (fun x => k x H) .mk := by simp only [Act1f, Quiet, stK, or_false]
theorem af_neg' d x (k : AV → Hp → Prop) : Act1f S .no d (.neg x) env H k = stK (stillV (.neg x) env) (fun x => k x H) .mk := by simp only [Act1f, Quiet, stK, or_false]
theorem af_max' d x y (k : AV → Hp → Prop) : Act1f S .no d (.max x y) env H k = stK (stillV (.max x y) env) (fun x => k x H) .mk := by simp only [Act1f, Quiet, stK, or_false]
theorem af_min' d x y (k : AV → Hp → Prop) : Act1f S .no d (.min x y) env H k = stK (stillV (.min x y) env) (fun x => k x H) .mk := by simp only [Act1f, Quiet, stK, or_false]
theorem af_ext' d x i (k : AV → Hp → Prop) : Act1f S .no d (.ext x i) env H k = stK (stillV (.ext x i) env) (fun x => k x H) .mk := by simp only [Act1f, Quiet, stK, or_false]
theorem af_bld' d z ps (k : AV → Hp → Prop) : Act1f S .no d (.bld z ps) env H k = stK (stillV (.bld z ps) env) (fun x => k x H) .mk := by simp only [Act1f, Quiet, stK, or_false]
theorem af_getf' d x off m (k : AV → Hp → Prop) : Act1f S .no d (.getf x off m) env H k = stK (stillV (.getf x off m) env) (fun x => k x H) .mk := by simp only [Act1f, Quiet, stK, or_false]
theorem af_lits' d n sz z ps (k : AV → Hp → Prop) : Act1f S .no d (.lits n sz z ps) env H k = stK (stillV (.lits n sz z ps) env) (fun x => k x H) .mk := by simp only [Act1f, Quiet, stK, or_false]
theorem af_boxi' d x (k : AV → Hp → Prop) : Act1f S .no d (.boxi x) env H k = stK (stillV (.boxi x) env) (fun x => k x H) .mk := by simp only [Act1f, Quiet, stK, or_false]
theorem af_nchk' d x (k : AV → Hp → Prop) : Act1f S .no d (.nchk x) env H k = stK (stillV (.nchk x) env) (fun x => k x H) .mk := by simp only [Act1f, Quiet, stK, or_false]
theorem af_mkf' d f cap (k : AV → Hp → Prop) : Act1f S .no d (.mkf f cap) env H k = stK (stillV (.mkf f cap) env) (fun x => k x H) .mk := by simp only [Act1f, Quiet, stK, or_false]
theorem af_cvi' d kd x (k : AV → Hp → Prop) : Act1f S .no d (.cvi kd x) env H k = stK (stillV (.cvi kd x) env) (fun x => k x H) .mk := by simp only [Act1f, Quiet, stK, or_false]
theorem af_cvs' d x (k : AV → Hp → Prop) : Act1f S .no d (.cvs x) env H k = stK (stillV (.cvs x) env) (fun x => k x H) .mk := by simp only [Act1f, Quiet, stK, or_false]
theorem af_cvb' d x (k : AV → Hp → Prop) : Act1f S .no d (.cvb x) env H k = stK (stillV (.cvb x) env) (fun x => k x H) .mk := by simp only [Act1f, Quiet, stK, or_false]
theorem af_cvt' d x (k : AV → Hp → Prop) : Act1f S .no d (.cvt x) env H k = stK (stillV (.cvt x) env) (fun x => k x H) .mk := by simp only [Act1f, Quiet, stK, or_false]
theorem af_mkif' d t x (k : AV → Hp → Prop) : Act1f S .no d (.mkif t x) env H k = stK (stillV (.mkif t x) env) (fun x => k x H) .mk := by simp only [Act1f, Quiet, stK, or_false]
theorem af_load' d m a (k : AV → Hp → Prop) : Act1f S .no d (.load m a) env H k = stK (stillV (.load m a) env) (fun x => k x H) .mk := by simp only [Act1f, Quiet, stK, or_false]
theorem af_call (d : Option Nat) (f : Nat) (args : List O) (k : AV → Hp → Prop) : Act1f S .no d (.call f args) env H k = puK S f (args.map (ev env)) (fun x => k x H) .mk := by
  simp [Act1f, Quiet, stillV, puK]
theorem put_at (env : Env) (n m : Nat) (x : AV) : put env n x m = if m = n then x else env m := rfl
end
/-- Instructions that neither read nor write an owned row. -/
def a1_still := And.intro @a1_ixp <| And.intro @a1_mov (And.intro @a1_pick (And.intro @a1_fld (And.intro @a1_ixa (And.intro @a1_ixs (And.intro @a1_len (And.intro @a1_lens (And.intro @a1_slc (And.intro @a1_slcs (And.intro @a1_bin (And.intro @a1_eqb (And.intro @a1_eqp (And.intro @a1_eqi (And.intro @a1_eqst (And.intro @a1_not (And.intro @a1_neg (And.intro @a1_max (And.intro @a1_min (And.intro @a1_ext (And.intro @a1_bld (And.intro @a1_getf (And.intro @a1_lits (And.intro @a1_boxi (And.intro @a1_nchk (And.intro @a1_mkf (And.intro @a1_cvi (And.intro @a1_cvs (And.intro @a1_cvb (And.intro @a1_cvt (@a1_mkif)))))))))))))))))))))))))))))
def af_still := And.intro @af_ixp' <| And.intro @af_mov' (And.intro @af_pick' (And.intro @af_fld' (And.intro @af_ixa' (And.intro @af_ixs' (And.intro @af_len' (And.intro @af_lens' (And.intro @af_slc' (And.intro @af_slcs' (And.intro @af_bin' (And.intro @af_eqb' (And.intro @af_eqp' (And.intro @af_eqi' (And.intro @af_eqst' (And.intro @af_not' (And.intro @af_neg' (And.intro @af_max' (And.intro @af_min' (And.intro @af_ext' (And.intro @af_bld' (And.intro @af_getf' (And.intro @af_lits' (And.intro @af_boxi' (And.intro @af_nchk' (And.intro @af_mkf' (And.intro @af_cvi' (And.intro @af_cvs' (And.intro @af_cvb' (And.intro @af_cvt' (And.intro @af_mkif' (@af_load'))))))))))))))))))))))))))))))
end Go.Am

/- THE ABSTRACT MACHINE, part 23: states seen as others. -/
namespace Go.Am
open Go Go.RowKit
theorem we_any (ρ : Lb → Lb) (env : Env) : ∀ n, Env.any n = .any ∨ env n = ren ρ (Env.any n) := fun _ => .inl rfl
theorem we_put {ρ : Lb → Lb} {env e : Env} {d : Nat} {x : AV} (h1 : env d = ren ρ x) (h2 : ∀ n, e n = .any ∨ env n = ren ρ (e n)) : ∀ n, put e d x n = .any ∨ env n = ren ρ (put e d x n) := by
  intro n
  unfold put
  split
  · next h => subst h; exact .inr h1
  · exact h2 n
theorem wm_any (H : Hp) : ∀ n, ∀ l ∈ (Env.any n).lbs, H l ≠ .unused := by simp [Env.any, AV.lbs]
theorem wm_put {H : Hp} {e : Env} {d : Nat} {x : AV} (h1 : ∀ l ∈ x.lbs, H l ≠ .unused) (h2 : ∀ n, ∀ l ∈ (e n).lbs, H l ≠ .unused) : ∀ n, ∀ l ∈ (put e d x n).lbs, H l ≠ .unused := by
  intro n
  unfold put
  split
  · exact h1
  · exact h2 n
mutual
theorem ren_id : ∀ x : AV, ren id x = x
  | .sl .. | .slk .. | .ptr .. | .any | .un | .bool _ | .int .. | .str _ | .list _ | .nil0 | .nilp | .nilif | .lptr _ => by simp [ren]
  | .agg cs => by simp [ren, rens_id cs]
  | .tup cs => by simp [ren, rens_id cs]
  | .fn f fs cs => by simp [ren, rens_id fs, rens_id cs]
  | .ifc t x => by simp [ren, ren_id x]
theorem rens_id : ∀ xs : List AV, rens id xs = xs
  | [] => by simp [rens]
  | x :: r => by simp [rens, ren_id x, rens_id r]
end
theorem renR_id (r : Row) : renR id r = r := by
  obtain ⟨sz, els⟩ := r
  simp only [renR, Row.mk.injEq, true_and]
  rw [show rens id = id from funext rens_id]
  simp
/-- The same rows; less is known of the slots. -/
theorem Wk.same {env : Env} {H : Hp} {env2 : Env} (e : ∀ n, env2 n = .any ∨ env n = ren id (env2 n)) (m : ∀ n, ∀ l ∈ (env2 n).lbs, H l ≠ .unused)
    (rm : ∀ l r, H l = .live r → ∀ cs ∈ r.els, ∀ q ∈ lbss cs, H q ≠ .unused) : Wk id env H env2 H :=
  ⟨e, fun l r h => by rw [renR_id]; exact h, fun _ _ _ _ h => h, m, rm, fun l _ => ⟨id, fun _ => rfl⟩, fun _ _ h => h⟩
theorem Wk.none {env env2 : Env} (e : ∀ n, env2 n = .any ∨ env n = ren id (env2 n)) (m : ∀ n, ∀ l ∈ (env2 n).lbs, Hp.none l ≠ .unused) : Wk id env Hp.none env2 Hp.none :=
  .same e m (by simp [Hp.none])
theorem wrap64 {n : Int} (h1 : -9223372036854775808 ≤ n) (h2 : n ≤ 9223372036854775807) : IntKind.i64.wrap n = n := by rw [IntKind.wrap_i64]; omega
section
variable {σ : Type} {S : St} {Q : Post} {k : List It} {E : σ → Env} {HH : σ → Hp} {μ : σ → Nat} {n : Nat} {env : Env} {H : Hp}
theorem lq_n : LoopQ S Q k E HH μ n .normal env H = ∃ s, μ s < n ∧ ∃ ρ, Wk ρ env H (E s) (HH s) := rfl
theorem lq_x (id : Nat) : LoopQ S Q k E HH μ n (.exit id) env H = match popTo id k with
    | some k' => go S Q k' env H
    | none => Q (.exit id) env H := rfl
theorem lq_r : LoopQ S Q k E HH μ n .ret env H = Q .ret env H := rfl
theorem pop_nil (id : Nat) : popTo id [] = none := rfl
theorem pop_blk (id i : Nat) (r : List It) : popTo id (.blk i :: r) = if i = id then some r else popTo id r := rfl
theorem pop_code (id : Nat) (c : AC) (r : List It) : popTo id (.code c :: r) = popTo id r := rfl
theorem go_dregE (is : List LIns) (es : List (List Nat)) (fs : List Fp) : go S Q (.code (.dreg is es fs) :: k) env H = (ordOK is es fs = true ∧ AOf S (items 0 is fs) env H (go S Q k)) := by rw [go]
theorem go_frzc (l q : Lb) (j : Nat) (c : AC) : go S Q (.code (.gh (.frzc l q j) c) :: k) env H = ∃ sz xs i n cs, H q = .live ⟨cs.length, [cs]⟩ ∧ cs[j]? = some (.sl l sz i n) ∧ H l = .live ⟨sz, immE xs⟩ ∧ l.fresh = true ∧ l ≠ q ∧ i + n ≤ xs.length ∧ Flat xs ∧
        go S Q (.code c :: k) env (upd (upd H l .dead) q (.live ⟨cs.length, [cs.set j (.list ((xs.drop i).take n))]⟩)) := by rw [go]
theorem ret1_r (t : Nat) (R : AV → Hp → Prop) : RetP [(none, t)] R .ret env H = R (env t) H := by simp [RetP, resVs, resV, oneV]
theorem ret1m_r (m : Option Nat) (t : Nat) (R : AV → Hp → Prop) : RetP [(some m, t)] R .ret env H = stK (loadV m (env t) H) (fun x => R x H) .mk := by
  simp only [RetP, resVs, resV, stK]
  cases loadV m (env t) H <;> simp [oneV]
theorem ret1m_n (m : Option Nat) (t : Nat) (R : AV → Hp → Prop) : RetP [(some m, t)] R .normal env H = stK (loadV m (env t) H) (fun x => R x H) .mk := by
  simp only [RetP, resVs, resV, stK]
  cases loadV m (env t) H <;> simp [oneV]
theorem ret1_n (t : Nat) (R : AV → Hp → Prop) : RetP [(none, t)] R .normal env H = R (env t) H := by simp [RetP, resVs, resV, oneV]
end
section
variable {S : St} {env : Env} {H : Hp}
theorem aoi_nil (j : Nat) (f : List Fp) (k : Env → Hp → Prop) : AOf S (items j [] f) env H k = k env H := rfl
theorem aoi_some (j n : Nat) (i : Ins) (f : Fp) (r : List LIns) (fs : List Fp) (k : Env → Hp → Prop) :
    AOf S (items j (⟨some n, none, i⟩ :: r) (f :: fs)) env H k = (n < S.N ∧ Act1f S f (some n) i env H fun x H' => AOf S (items (j + 1) r fs) (put env n x) H' k) := by rw [items_cons, aof_some]
theorem aoi_none (j : Nat) (i : Ins) (f : Fp) (r : List LIns) (fs : List Fp) (k : Env → Hp → Prop) :
    AOf S (items j (⟨none, none, i⟩ :: r) (f :: fs)) env H k = Act1f S f none i env H fun x H' => AOf S (items (j + 1) r fs) env H' k := by rw [items_cons, aof_none]
theorem aoi_guard (j n s : Nat) (t : Bool) (i : Ins) (f : Fp) (r : List LIns) (fs : List Fp) (k : Env → Hp → Prop) :
    AOf S (items j (⟨some n, some (s, t), i⟩ :: r) (f :: fs)) env H k = (n < S.N ∧ gB (env s) t (Act1f S f (some n) i env H fun x H' => AOf S (items (j + 1) r fs) (put env n x) H' k) (AOf S (items (j + 1) r fs) (put env n .un) H k) .mk) := by rw [items_cons, aof_guard]
end
/-- The equations by which code is walked. -/
def evs := And.intro @go_nil (And.intro @go_blk (And.intro @go_skip (And.intro @go_seq (And.intro @go_block (And.intro @go_loop (And.intro @go_ret (And.intro @go_reg (And.intro @go_keep (And.intro @go_own (And.intro @go_frz (And.intro @go_frzc (And.intro @go_dregE (And.intro @go_cond (And.intro @go_exit (And.intro @ao_nil (And.intro @ao_some (And.intro @ao_none (And.intro @ao_guard (And.intro @ao_guard0 (And.intro @aoi_nil (And.intro @aoi_some (And.intro @aoi_none (And.intro @aoi_guard (And.intro @a1_ld (And.intro @a1_new (And.intro @a1_box (And.intro @a1_store (And.intro @a1_app (And.intro @a1_call (And.intro @af_call (And.intro @ret1_r (And.intro @ret1_n (And.intro @ret1m_r (And.intro @ret1m_n (And.intro @lq_n (And.intro @lq_x (@lq_r)))))))))))))))))))))))))))))))))))))
/-- The equations by which what the walk meets is reckoned. -/
def evp := And.intro @stK_some (And.intro @hK_some (And.intro @pK_some (And.intro @gB_t (And.intro @gB_f (And.intro @gB_t' (And.intro @gB_f' (And.intro @gB_u (And.intro @cK_t (And.intro @cK_f (And.intro @put_at (And.intro @pop_nil (And.intro @pop_blk (@pop_code)))))))))))))
end Go.Am

/- THE ABSTRACT MACHINE, part 24: lists that grow. -/
namespace Go.Am
open Go Go.RowKit
theorem Flat.one {xs : List IV} (h : Flat xs) : ∀ cs ∈ immE xs, AV.one1 cs := by
  intro cs hcs y hy
  simp only [immE, List.mem_map] at hcs
  obtain ⟨z, hz, rfl⟩ := hcs
  obtain ⟨c, hc, rfl⟩ := List.mem_map.1 hy
  have := h z hz c hc
  cases c <;> simp [IV.av1, AV.one]
  exact absurd rfl (this _)
theorem srcE_list {sz : Nat} {xs : List IV} {H : Hp} (h : Elsz sz xs) : srcE sz (.list xs) H = some (immE xs) := by
  simp [srcE, h, immE]
theorem app_nil {sz b d : Nat} {xs : List IV} {H : Hp} (he : Elsz sz xs) (hf : Flat xs) (hb : xs.length * b ≤ 140737488355328) (h0 : 0 < b) (hu : H (.loc d) = .unused) :
    appV sz b d .nil0 (.list xs) H = some (.sl (.loc d) sz 0 xs.length, upd H (.loc d) (.live ⟨sz, immE xs⟩)) := by
  unfold appV
  rw [srcE_list he, Option.bind_some, if_neg (by simpa using hf.one)]
  have : (immE xs).length = xs.length := by simp [immE]
  simp only
  rw [if_pos ⟨by rw [this]; exact hb, h0, hu⟩, this]
theorem app_sl {sz b d n : Nat} {l : Lb} {els : List (List AV)} {xs : List IV} {H : Hp} (hl : H l = .live ⟨sz, els⟩) (hn : n ≤ els.length) (he : Elsz sz xs) (hf : Flat xs) (hb : (n + xs.length) * b ≤ 140737488355328) (h0 : 0 < b)
    (hd : l ≠ l.app d) (hu : H (l.app d) = .unused) :
    appV sz b d (.sl l sz 0 n) (.list xs) H = some (.sl (l.app d) sz 0 (n + xs.length), upd (upd H l .dead) (l.app d) (.live ⟨sz, els.take n ++ immE xs⟩)) := by
  unfold appV
  rw [srcE_list he, Option.bind_some, if_neg (by simpa using hf.one)]
  have : (immE xs).length = xs.length := by simp [immE]
  simp only [hl]
  rw [if_pos ⟨rfl, rfl, rfl, hn, by rw [this]; exact hb, h0, hd, hu⟩, this]
theorem ren_av1 (ρ : Lb → Lb) (x : IV) : ren ρ x.av1 = x.av1 := by cases x <;> simp [IV.av1, ren]
theorem rens_imm (ρ : Lb → Lb) : ∀ xs : List IV, rens ρ (xs.map IV.av1) = xs.map IV.av1
  | [] => by simp [rens]
  | x :: r => by simp [rens, ren_av1, rens_imm ρ r]
theorem renR_imm (ρ : Lb → Lb) (sz : Nat) (xs : List IV) : renR ρ ⟨sz, immE xs⟩ = ⟨sz, immE xs⟩ := by
  simp [renR, immE, rens_imm]
theorem lbs_av1 (x : IV) : x.av1.lbs = [] := by cases x <;> simp [IV.av1, AV.lbs]
theorem lbss_imm : ∀ xs : List IV, lbss (xs.map IV.av1) = []
  | [] => rfl
  | x :: r => by simp [lbss, lbs_av1, lbss_imm r]
theorem lbss_immE {xs : List IV} {cs : List AV} (h : cs ∈ immE xs) : lbss cs = [] := by
  simp only [immE, List.mem_map] at h
  obtain ⟨y, _, rfl⟩ := h
  exact lbss_imm _
/-- One row of data, that this call has made: it may have another name now. -/
theorem Wk.one {env env2 : Env} {H : Hp} {l0 l1 : Lb} {sz : Nat} {xs : List IV} (he : ∀ n, env2 n = .any ∨ env n = ren (fun _ => l1) (env2 n)) (hm : ∀ n, ∀ l ∈ (env2 n).lbs, upd Hp.none l0 (.live ⟨sz, immE xs⟩) l ≠ .unused)
    (h1 : H l1 = .live ⟨sz, immE xs⟩) (hf0 : l0.fresh = true) (hf1 : l1.fresh = true) (hn : ∀ l, l.fresh = false → H l = .unused) : Wk (fun _ => l1) env H env2 (upd Hp.none l0 (.live ⟨sz, immE xs⟩)) := by
  have hl : ∀ l r, upd Hp.none l0 (.live ⟨sz, immE xs⟩) l = .live r → l = l0 ∧ r = ⟨sz, immE xs⟩ := by
    intro l r h
    by_cases e : l = l0
    · subst e; simp at h; exact ⟨rfl, h.symm⟩
    · rw [upd_ne _ _ e] at h; simp [Hp.none] at h
  refine ⟨he, fun l r h => ?_, fun l l' ⟨r, h⟩ ⟨r', h'⟩ _ => (hl l r h).1.trans (hl l' r' h').1.symm, hm, fun l r h cs hcs q hq => ?_, fun l hlf => ⟨fun h => absurd (hn l hlf) h, fun ⟨r, h⟩ => ?_⟩, fun _ _ _ => hf1⟩
  · obtain ⟨rfl, rfl⟩ := hl l r h
    rw [renR_imm]; exact h1
  · obtain ⟨rfl, rfl⟩ := hl l r h
    rw [lbss_immE hcs] at hq; simp at hq
  · obtain ⟨rfl, _⟩ := hl l r h
    rw [hf0] at hlf; simp at hlf
theorem nf_none : ∀ l : Lb, l.fresh = false → Hp.none l = .unused := fun _ _ => rfl
theorem nf_upd {H : Hp} {n : Nat} {s : Slot} (h : ∀ l : Lb, l.fresh = false → H l = .unused) : ∀ l : Lb, l.fresh = false → upd H (.loc n) s l = .unused := by
  intro l hl
  have : l ≠ .loc n := by rintro rfl; simp [Lb.fresh] at hl
  rw [upd_ne _ _ this]
  exact h l hl
theorem upd_at (H : Hp) (l q : Lb) (s : Slot) : upd H l s q = if q = l then s else H q := rfl
section
variable {S : St} {env : Env} {H : Hp}
theorem af_load (R W : List Lb) (d : Option Nat) (m : Option Nat) (a : O) (k : AV → Hp → Prop) : Act1f S (.rw R W) d (.load m a) env H k = stK (loadV m (ev env a) H) (fun x => (∀ l ∈ ptrL (ev env a), l.fam ∈ R ∨ l.fam ∈ W) ∧ k x H) .mk := by
  apply propext
  simp only [Act1f, memV, readsL, writesL, stK]
  constructor
  · rintro ⟨x, H', h1, h2, _, h3⟩
    simp only [Option.map_eq_some_iff, Prod.mk.injEq] at h1
    obtain ⟨y, h1, rfl, rfl⟩ := h1
    exact ⟨y, h1, h2, h3⟩
  · rintro ⟨x, h1, h2, h3⟩
    exact ⟨x, H, by simp [h1], h2, by simp, h3⟩
theorem af_store (R W : List Lb) (m : Nat) (a x : O) (k : AV → Hp → Prop) : Act1f S (.rw R W) none (.store m a x) env H k = hK (storeV m (ev env a) (ev env x) H) (fun H' => (∀ l ∈ ptrL (ev env a), l.fam ∈ W) ∧ k .un H') .mk := by
  apply propext
  simp only [Act1f, memV, readsL, writesL, hK, if_true]
  constructor
  · rintro ⟨x, H', h1, _, h2, h3⟩
    simp only [Option.map_eq_some_iff, Prod.mk.injEq] at h1
    obtain ⟨y, h1, rfl, rfl⟩ := h1
    exact ⟨_, h1, h2, h3⟩
  · rintro ⟨x, h1, h2, h3⟩
    exact ⟨.un, x, by simp [h1], by simp, h2, h3⟩
theorem af_new (R W : List Lb) (n : Nat) (cs : List AV) (k : AV → Hp → Prop) : Act1f S (.rw R W) (some n) (.new cs) env H k = (H (.loc n) = .unused ∧ 0 < cs.length ∧ cs.length ≤ maxLen ∧ (Lb.loc n) ∈ W ∧
    k (.ptr (.loc n) cs.length 0 0) (upd H (.loc n) (.live ⟨cs.length, [cs]⟩))) := by
  apply propext
  simp only [Act1f, memV, readsL, writesL, Option.bind_some]
  constructor
  · rintro ⟨x, H', h1, _, h2, h3⟩
    split at h1
    · rename_i hc
      simp only [Option.some.injEq, Prod.mk.injEq] at h1
      obtain ⟨rfl, rfl⟩ := h1
      exact ⟨hc.1, hc.2.1, hc.2.2, h2 (.loc n) (by simp), h3⟩
    · simp at h1
  · rintro ⟨h1, h2, h3, h4, h5⟩
    exact ⟨_, _, by rw [if_pos ⟨h1, h2, h3⟩], by simp, by simpa [Lb.fam] using h4, h5⟩
theorem af_box (R W : List Lb) (n : Nat) (x : O) (k : AV → Hp → Prop) : Act1f S (.rw R W) (some n) (.box x) env H k = (Lb.loc n ∈ W ∧ boxK (ev env x) n H k) := by
  apply propext
  simp only [Act1f, memV, readsL, writesL, Option.bind_some, boxK]
  constructor
  · rintro ⟨y, H', h1, _, h2, h3⟩
    split at h1
    · rename_i hc
      simp only [Option.some.injEq, Prod.mk.injEq] at h1
      obtain ⟨rfl, rfl⟩ := h1
      exact ⟨h2 (.loc n) (by simp), hc.1, hc.2.1, hc.2.2.1, hc.2.2.2, h3⟩
    · simp at h1
  · rintro ⟨h4, h1, h2, h3, h6, h5⟩
    exact ⟨_, _, by rw [if_pos ⟨h1, h2, h3, h6⟩], by simp, by simpa [Lb.fam] using h4, h5⟩
/-- Where an append writes. -/
def appL (n : Nat) (s : AV) : List Lb :=
  match s with
  | .sl l _ _ _ => [l, l.app n]
  | .slk l _ _ _ _ => [l, .loc n]
  | _ => [.loc n]
theorem af_app (R W : List Lb) (n : Nat) (s x : O) (sz b : Nat) (k : AV → Hp → Prop) : Act1f S (.rw R W) (some n) (.app s x sz b) env H k =
    pK (appV sz b n (ev env s) (ev env x) H) (fun y H' => (∀ l ∈ ptrL (ev env x), l.fam ∈ R ∨ l.fam ∈ W) ∧ (∀ l ∈ appL n (ev env s), l.fam ∈ W) ∧ k y H') .mk := by
  apply propext
  have : writesL (some n) (.app s x sz b) env = appL n (ev env s) := by
    simp only [writesL, appL]
    cases ev env s <;> simp
  simp only [Act1f, memV, this, readsL, Option.bind_some, pK]
end
end Go.Am
