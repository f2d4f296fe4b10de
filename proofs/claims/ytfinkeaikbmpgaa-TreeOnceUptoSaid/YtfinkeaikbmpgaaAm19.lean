/- THE ABSTRACT MACHINE, part 19: regions whose order is drawn: whichever order, the same comes of it. -/
import Derived.Test.YtfinkeaikbmpgaaAm17
set_option linter.defProp false
set_option linter.unnecessarySimpa false
set_option linter.unusedVariables false
set_option linter.unusedSimpArgs false
namespace Go.Am
open Go Go.RowKit

/-- A call of a function that is handed data. -/
def Quiet (S : St) (i : Ins) (env : Env) (res : AV) : Prop :=
  match i with
  | .call f args => PureC S.P S.G f (args.map (ev env)) res
  | .callv x args => ∃ f first cap, ev env x = .fn f first cap ∧ goBody S.P f = true ∧ PureC S.P S.G f (first ++ args.map (ev env) ++ cap) res
  | _ => False

def Act1f (S : St) (fp : Fp) (d : Option Nat) (i : Ins) (env : Env) (H : Hp) (k : AV → Hp → Prop) : Prop :=
  match fp with
  | .no => ∃ x, (stillV i env = some x ∨ Quiet S i env x) ∧ k x H
  | .rw R W => ∃ x H', memV d i env H = some (x, H') ∧ (∀ l ∈ readsL i env, l ∈ R ∨ l ∈ W) ∧ (∀ l ∈ writesL d i env, l ∈ W) ∧ k x H'
  | .all => Act1 S d i env H k

theorem CallT.mono {S : St} {f : Nat} {args : List AV} {H : Hp} {k k' : AV → Hp → Prop} (hk : ∀ x H, k x H → k' x H) (h : CallT S f args H k) : CallT S f args H k' := by
  rcases h with ⟨res, h1, h2⟩ | ⟨ρ, Hin, cargs, Q, h1, h2, h3, h4, h5, h6, h7, h8, h9⟩
  · exact .inl ⟨res, h1, hk _ _ h2⟩
  · refine .inr ⟨ρ, Hin, cargs, Q, h1, h2, h3, h4, h5, h6, h7, h8, fun x H' hq => ?_⟩
    obtain ⟨ρ', H'', q1, q2, q3, q4, q5, q6, q7, q8, q9⟩ := h9 x H' hq
    exact ⟨ρ', H'', q1, q2, q3, q4, q5, q6, q7, q8, hk _ _ q9⟩

theorem Act1.mono {S : St} {d : Option Nat} {i : Ins} {env : Env} {H : Hp} {k k' : AV → Hp → Prop} (hk : ∀ x H, k x H → k' x H) (h : Act1 S d i env H k) : Act1 S d i env H k' := by
  cases i with
  | load m a =>
    simp only [Act1] at h ⊢
    rcases h with ⟨x, h1, h2⟩ | ⟨x, h1, h2⟩
    · exact .inl ⟨x, h1, hk _ _ h2⟩
    · exact .inr ⟨x, h1, hk _ _ h2⟩
  | box x =>
    simp only [Act1] at h ⊢
    obtain ⟨n, h1, h2, h3, h4, h5, h6⟩ := h
    exact ⟨n, h1, h2, h3, h4, h5, hk _ _ h6⟩
  | new cs =>
    simp only [Act1] at h ⊢
    obtain ⟨n, h1, h2, h3, h4, h5⟩ := h
    exact ⟨n, h1, h2, h3, h4, hk _ _ h5⟩
  | store m a x =>
    simp only [Act1] at h ⊢
    obtain ⟨h1, H', h2, h3⟩ := h
    exact ⟨h1, H', h2, hk _ _ h3⟩
  | app s x sz b =>
    simp only [Act1] at h ⊢
    obtain ⟨n, h1, y, H', h2, h3⟩ := h
    exact ⟨n, h1, y, H', h2, hk _ _ h3⟩
  | call f args => exact CallT.mono hk h
  | callv x args =>
    simp only [Act1] at h ⊢
    obtain ⟨f, first, cap, h1, h2, h3⟩ := h
    exact ⟨f, first, cap, h1, h2, CallT.mono hk h3⟩
  | _ =>
    simp only [Act1] at h ⊢
    obtain ⟨x, h1, h2⟩ := h
    exact ⟨x, h1, hk _ _ h2⟩

theorem Act1f.mono {S : St} {fp : Fp} {d : Option Nat} {i : Ins} {env : Env} {H : Hp} {k k' : AV → Hp → Prop} (hk : ∀ x H, k x H → k' x H) (h : Act1f S fp d i env H k) : Act1f S fp d i env H k' := by
  cases fp with
  | no => obtain ⟨x, h1, h2⟩ := h; exact ⟨x, h1, hk _ _ h2⟩
  | rw R W => obtain ⟨x, H', h1, h2, h3, h4⟩ := h; exact ⟨x, H', h1, h2, h3, hk _ _ h4⟩
  | all => exact Act1.mono hk h

theorem Act1f.act {S : St} {fp : Fp} {d : Option Nat} {i : Ins} {env : Env} {H : Hp} {k : AV → Hp → Prop} (h : Act1f S fp d i env H k) : Act1 S d i env H k := by
  cases fp with
  | all => exact h
  | no =>
    obtain ⟨x, h1, h2⟩ := h
    cases i with
    | load m a =>
      rcases h1 with h1 | h1
      · exact .inl ⟨x, h1, h2⟩
      · exact absurd h1 (by simp [Quiet])
    | call f args =>
      rcases h1 with h1 | h1
      · simp [stillV] at h1
      · exact .inl ⟨x, h1, h2⟩
    | callv y args =>
      rcases h1 with h1 | ⟨f, first, cap, e1, e2, e3⟩
      · simp [stillV] at h1
      · exact ⟨f, first, cap, e1, e2, .inl ⟨x, e3, h2⟩⟩
    | box _ => rcases h1 with h1 | h1 <;> simp [stillV, Quiet] at h1
    | new _ => rcases h1 with h1 | h1 <;> simp [stillV, Quiet] at h1
    | store _ _ _ => rcases h1 with h1 | h1 <;> simp [stillV, Quiet] at h1
    | app _ _ _ _ => rcases h1 with h1 | h1 <;> simp [stillV, Quiet] at h1
    | _ =>
      rcases h1 with h1 | h1
      · exact ⟨x, h1, h2⟩
      · exact absurd h1 (by simp [Quiet])
  | rw R W =>
    obtain ⟨x, H', h1, _, _, h2⟩ := h
    cases i with
    | load m a =>
      simp only [memV, Option.map_eq_some_iff, Prod.mk.injEq] at h1
      obtain ⟨y, h1, rfl, rfl⟩ := h1
      exact .inr ⟨y, h1, h2⟩
    | box y =>
      simp only [memV] at h1
      obtain ⟨n, rfl, h0⟩ := bnone h1
      split at h0
      · rename_i hc
        simp only [Option.some.injEq, Prod.mk.injEq] at h0
        obtain ⟨rfl, rfl⟩ := h0
        exact ⟨n, rfl, hc.1, hc.2.1, hc.2.2.1, hc.2.2.2, h2⟩
      · simp at h0
    | new cs =>
      simp only [memV] at h1
      obtain ⟨n, rfl, h0⟩ := bnone h1
      split at h0
      · rename_i hc
        simp only [Option.some.injEq, Prod.mk.injEq] at h0
        obtain ⟨rfl, rfl⟩ := h0
        exact ⟨n, rfl, hc.1, hc.2.1, hc.2.2, h2⟩
      · simp at h0
    | store m a y =>
      simp only [memV] at h1
      split at h1
      · rename_i hd
        simp only [Option.map_eq_some_iff, Prod.mk.injEq] at h1
        obtain ⟨H2, h1, rfl, rfl⟩ := h1
        exact ⟨hd, H2, h1, h2⟩
      · simp at h1
    | app s y sz bytes =>
      simp only [memV] at h1
      obtain ⟨n, rfl, h0⟩ := bnone h1
      exact ⟨n, rfl, x, H', h0, h2⟩
    | _ => simp [memV] at h1

theorem Quiet_cong {S : St} {i : Ins} {env env' : Env} (h : ∀ x ∈ i.os, ev env x = ev env' x) {x : AV} (hq : Quiet S i env x) : Quiet S i env' x := by
  cases i with
  | call f args =>
    simp only [Quiet] at hq ⊢
    have : args.map (ev env) = args.map (ev env') := List.map_congr_left fun p hp => h p (by simpa [Ins.os] using hp)
    rw [← this]; exact hq
  | callv y args =>
    simp only [Quiet] at hq ⊢
    have : args.map (ev env) = args.map (ev env') := List.map_congr_left fun p hp => h p (by simp only [Ins.os, List.mem_cons]; exact .inr hp)
    rw [← this, ← h y (by simp [Ins.os])]; exact hq
  | _ => exact hq

theorem Act1f_cong {S : St} {fp : Fp} {d : Option Nat} {i : Ins} {env env' : Env} (h : ∀ x ∈ i.os, ev env x = ev env' x) {H : Hp} {k : AV → Hp → Prop} (ha : Act1f S fp d i env H k) : Act1f S fp d i env' H k := by
  cases fp with
  | no =>
    obtain ⟨x, h1, h2⟩ := ha
    refine ⟨x, ?_, h2⟩
    rcases h1 with h1 | h1
    · exact .inl (by rw [← stillV_cong h]; exact h1)
    · exact .inr (Quiet_cong h h1)
  | rw R W =>
    obtain ⟨x, H', h1, h2, h3, h4⟩ := ha
    obtain ⟨e1, e2, e3⟩ := memV_cong (d := d) h H
    exact ⟨x, H', by rw [← e1]; exact h1, by rw [← e2]; exact h2, by rw [← e3]; exact h3, h4⟩
  | all => exact Act1_cong h ha

/-- One operation. -/
def St1 (S : St) (p : LIns × Fp) (env : Env) (H : Hp) (k : Env → Hp → Prop) : Prop :=
  (gW p.1.g env = some true ∧ (∀ n, p.1.d = some n → n < S.N) ∧ Act1f S p.2 p.1.d p.1.i env H fun x H' => k (putO env p.1.d x) H') ∨
    (gW p.1.g env = some false ∧ (∀ n, p.1.d = some n → n < S.N) ∧ k (putO env p.1.d .un) H)

/-- The operations in the text's order. -/
def AOf (S : St) : List (Nat × LIns × Fp) → Env → Hp → (Env → Hp → Prop) → Prop
  | [], env, H, k => k env H
  | p :: r, env, H, k => St1 S p.2 env H fun e h => AOf S r e h k

def dstFree (d : Option Nat) (us : List Nat) : Bool := match d with | some n => !us.contains n | none => true

def regsApart (p q : LIns) : Bool := dstFree p.d q.us && dstFree q.d p.us && (p.d.isNone || p.d != q.d)

def fpApart : Fp → Fp → Bool
  | .no, _ => true
  | .rw _ _, .no => true
  | .rw R W, .rw R' W' => W.all (fun l => !R'.contains l && !W'.contains l) && R.all (fun l => !W'.contains l)
  | _, _ => false

def indep (p q : LIns × Fp) : Bool := regsApart p.1 q.1 && fpApart p.2 q.2

section
variable {S : St} {env : Env} {H : Hp}

theorem St1.mono {p : LIns × Fp} {k k' : Env → Hp → Prop} (hk : ∀ e h, k e h → k' e h) (h : St1 S p env H k) : St1 S p env H k' := by
  rcases h with ⟨h1, h2, h3⟩ | ⟨h1, h2, h3⟩
  · exact .inl ⟨h1, h2, h3.mono fun _ _ => hk _ _⟩
  · exact .inr ⟨h1, h2, hk _ _ h3⟩

theorem AOf.mono {k k' : Env → Hp → Prop} (hk : ∀ e h, k e h → k' e h) : ∀ (l : List (Nat × LIns × Fp)) (env : Env) (H : Hp), AOf S l env H k → AOf S l env H k'
  | [], env, H, h => hk _ _ h
  | p :: r, env, H, h => St1.mono (fun e h' => AOf.mono hk r e h') h

theorem putO_comm {d d' : Option Nat} (h : d = none ∨ d ≠ d') (x y : AV) : putO (putO env d x) d' y = putO (putO env d' y) d x := by
  cases d with
  | none => rfl
  | some n =>
    cases d' with
    | none => rfl
    | some m =>
      have : n ≠ m := by rcases h with h | h; simp at h; simpa using h
      funext q
      simp only [putO, put]
      by_cases e1 : q = n
      · by_cases e2 : q = m
        · exact absurd (e1.symm.trans e2) this
        · simp [e1, this]
      · by_cases e2 : q = m
        · simp [e2, Ne.symm this]
        · simp [e1, e2]

theorem gW_put {g : Option (Nat × Bool)} {d : Option Nat} {x : AV} (h : ∀ n, d = some n → n ∉ (match g with | some (s, _) => [s] | none => ([] : List Nat))) : gW g (putO env d x) = gW g env := by
  cases g with
  | none => rfl
  | some p =>
    obtain ⟨s, t⟩ := p
    cases d with
    | none => rfl
    | some m =>
      have := h m rfl
      simp at this
      simp [gW, putO, put, Ne.symm this]

theorem dstFree_spec {d : Option Nat} {us : List Nat} (h : dstFree d us = true) : ∀ n, d = some n → n ∉ us := by
  rintro n rfl
  simpa [dstFree] using h

/-- What an operation looks at is not touched. -/
theorem seen_put {q : LIns} {d : Option Nat} (h : dstFree d q.us = true) (x : AV) (env : Env) : gW q.g (putO env d x) = gW q.g env ∧ ∀ o ∈ q.i.os, ev (putO env d x) o = ev env o := by
  have h' := dstFree_spec h
  refine ⟨gW_put fun n hn hm => h' n hn (by simp only [LIns.us, List.mem_append]; exact .inr hm), fun o ho => ev_put fun n hn hm => h' n hn ?_⟩
  simp only [LIns.us, List.mem_append, List.mem_flatMap]
  exact .inl ⟨o, ho, hm⟩

theorem St1.shift {q : LIns × Fp} {d : Option Nat} (h : dstFree d q.1.us = true) (hd : d = none ∨ d ≠ q.1.d) {x : AV} {k : Env → Hp → Prop} (hs : St1 S q (putO env d x) H k) :
    St1 S q env H fun e h => k (putO e d x) h ∧ ∃ y, e = putO env q.1.d y := by
  obtain ⟨e1, e2⟩ := seen_put h x env
  rcases hs with ⟨h1, h2, h3⟩ | ⟨h1, h2, h3⟩
  · exact .inl ⟨by rw [← e1]; exact h1, h2, (Act1f_cong e2 h3).mono fun y H' hk => ⟨by rw [← putO_comm hd]; exact hk, y, rfl⟩⟩
  · exact .inr ⟨by rw [← e1]; exact h1, h2, by rw [← putO_comm hd]; exact h3, _, rfl⟩

theorem St1.swap {p q : LIns × Fp} (hi : indep p q = true) {k : Env → Hp → Prop} (h : St1 S p env H fun e h => St1 S q e h k) : St1 S q env H fun e h => St1 S p e h k := by
  simp only [indep, regsApart, Bool.and_eq_true, Bool.or_eq_true, Option.isNone_iff_eq_none, bne_iff_ne] at hi
  obtain ⟨⟨⟨r1, r2⟩, r3⟩, hf⟩ := hi
  obtain ⟨lp, fp⟩ := p
  obtain ⟨lq, fq⟩ := q
  simp only at r1 r2 r3 hf
  have r3' : lq.d = none ∨ lq.d ≠ lp.d := by
    rcases r3 with r3 | r3
    · by_cases e : lq.d = none
      · exact .inl e
      · exact .inr (by rw [r3]; exact e)
    · exact .inr (Ne.symm r3)
  rcases h with ⟨h1, h2, h3⟩ | ⟨h1, h2, h3⟩
  · cases fp with
    | no =>
      obtain ⟨x, h4, h5⟩ := h3
      refine (h5.shift r1 r3).mono ?_
      rintro e h' ⟨hk, y, rfl⟩
      obtain ⟨e1, e2⟩ := seen_put r2 y env
      refine .inl ⟨by simp only; rw [e1]; exact h1, h2, x, ?_, hk⟩
      rcases h4 with h4 | h4
      · exact .inl (by simp only; rw [stillV_cong e2]; exact h4)
      · exact .inr (Quiet_cong (fun o ho => (e2 o ho).symm) h4)
    | rw R W =>
      obtain ⟨x, H', m1, m2, m3, m4⟩ := h3
      have mem2 : ∀ y, memV lp.d lp.i (putO env lq.d y) H = some (x, H') ∧ readsL lp.i (putO env lq.d y) = readsL lp.i env ∧ writesL lp.d lp.i (putO env lq.d y) = writesL lp.d lp.i env := fun y => by
        obtain ⟨c1, c2, c3⟩ := memV_cong (d := lp.d) (seen_put r2 y env).2 H
        exact ⟨by rw [c1]; exact m1, c2, c3⟩
      obtain ⟨f1, f2⟩ := seen_put r1 x env
      have g2 : ∀ y, gW lp.g (putO env lq.d y) = some true := fun y => by rw [(seen_put r2 y env).1]; exact h1
      rcases m4 with ⟨k1, k2, k3⟩ | ⟨k1, k2, k3⟩
      · cases fq with
        | no =>
          obtain ⟨y, k4, k5⟩ := k3
          refine .inl ⟨by simp only; rw [← f1]; exact k1, k2, y, ?_, ?_⟩
          · rcases k4 with k4 | k4
            · exact .inl (by simp only; rw [← stillV_cong f2]; exact k4)
            · exact .inr (Quiet_cong f2 k4)
          · exact .inl ⟨g2 y, h2, x, H', (mem2 y).1, by simp only; rw [(mem2 y).2.1]; exact m2, by simp only; rw [(mem2 y).2.2]; exact m3, by simp only; rw [← putO_comm r3]; exact k5⟩
        | rw R' W' =>
          obtain ⟨y, H'', k4, k5, k6, k7⟩ := k3
          obtain ⟨c1, c2, c3⟩ := memV_cong (d := lq.d) f2 H'
          simp only at k4 k5 k6 k7
          rw [c1] at k4
          rw [c2] at k5
          rw [c3] at k6
          simp only [fpApart, Bool.and_eq_true, List.all_eq_true, Bool.not_eq_true', List.contains_eq_mem, decide_eq_false_iff_not] at hf
          obtain ⟨hf1, hf2⟩ := hf
          have pW : ∀ l, l ∈ writesL lp.d lp.i env → l ∉ R' ∧ l ∉ W' := fun l hl => hf1 l (m3 l hl)
          have hagree : ∀ l, l ∈ readsL lq.i env ∨ l ∈ writesL lq.d lq.i env → H l = H' l := by
            intro l hl
            refine (memV_frame m1 l fun hw => ?_).symm
            rcases hl with hl | hl
            · rcases k5 l hl with e | e
              · exact (pW l hw).1 e
              · exact (pW l hw).2 e
            · exact (pW l hw).2 (k6 l hl)
          obtain ⟨H2, a1, a2, a3⟩ := memV_loc k4 hagree
          have hagree2 : ∀ l, l ∈ readsL lp.i env ∨ l ∈ writesL lp.d lp.i env → H2 l = H l := by
            intro l hl
            refine a3 l fun hw => ?_
            rcases hl with hl | hl
            · rcases m2 l hl with e | e
              · exact hf2 l e (k6 l hw)
              · exact (hf1 l e).2 (k6 l hw)
            · exact (pW l hl).2 (k6 l hw)
          obtain ⟨H3, b1, b2, b3⟩ := memV_loc m1 hagree2
          have hH : H3 = H'' := by
            funext l
            by_cases hw : l ∈ writesL lp.d lp.i env
            · rw [b2 l hw]
              exact (memV_frame k4 l fun hq => (pW l hw).2 (k6 l hq)).symm
            · rw [b3 l hw]
              by_cases hq : l ∈ writesL lq.d lq.i env
              · exact a2 l hq
              · rw [a3 l hq, memV_frame k4 l hq, memV_frame m1 l hw]
          subst hH
          refine .inl ⟨by simp only; rw [← f1]; exact k1, k2, y, H2, a1, k5, k6, ?_⟩
          obtain ⟨d1, d2, d3⟩ := memV_cong (d := lp.d) (seen_put r2 y env).2 H2
          exact .inl ⟨g2 y, h2, x, H3, by simp only; rw [d1]; exact b1, by simp only; rw [d2]; exact m2, by simp only; rw [d3]; exact m3, by simp only; rw [← putO_comm r3]; exact k7⟩
        | all => simp [fpApart] at hf
      · refine .inr ⟨by simp only; rw [← f1]; exact k1, k2, ?_⟩
        exact .inl ⟨g2 .un, h2, x, H', (mem2 .un).1, by simp only; rw [(mem2 .un).2.1]; exact m2, by simp only; rw [(mem2 .un).2.2]; exact m3, by simp only; rw [← putO_comm r3]; exact k3⟩
    | all => cases fq <;> simp [fpApart] at hf
  · refine (h3.shift r1 r3).mono ?_
    rintro e h' ⟨hk, y, rfl⟩
    obtain ⟨e1, e2⟩ := seen_put r2 y env
    exact .inr ⟨by simp only; rw [e1]; exact h1, h2, hk⟩

theorem AOf.front {q : Nat × LIns × Fp} {l2 : List (Nat × LIns × Fp)} {k : Env → Hp → Prop} : ∀ (l1 : List (Nat × LIns × Fp)) (env : Env) (H : Hp), (∀ p ∈ l1, indep p.2 q.2 = true) → AOf S (l1 ++ q :: l2) env H k →
    AOf S (q :: (l1 ++ l2)) env H k
  | [], env, H, _, h => h
  | p :: l1, env, H, hi, h => by
    simp only [List.cons_append, AOf] at h ⊢
    refine St1.swap (hi p (by simp)) (h.mono fun e h' hq => ?_)
    have := AOf.front l1 e h' (fun p' hp' => hi p' (by simp [hp'])) hq
    simpa only [AOf] using this

end
end Go.Am
