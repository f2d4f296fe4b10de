import Derived.Test.YtfinkeaikbmpgaaDoorKAm13
set_option linter.unusedSimpArgs false
set_option linter.unusedVariables false
set_option linter.unnecessarySimpa false
set_option linter.defProp false
/- THE ABSTRACT MACHINE, part 19: regions whose order is drawn: whichever order, the same comes of it. -/
namespace Go.Am
open Go Go.RowKit
/-- A call of a function that is handed data. -/
def Quiet (S : St) (i : Ins) (env : Env) (res : AV) : Prop :=
  match i with
  | .call f args => PureC S.P S.G f (args.map (ev env)) res
  | .callv x args => ∃ f first cap, ev env x = .fn f first cap ∧ goBody S.P f = true ∧ PureC S.P S.G f (first ++ args.map (ev env) ++ cap) res
  | _ => False
def Act1f (S : St) (fp : Fp) (d : Option Nat) (i : Ins) (env : Env) (H : Hp) (k : AV → Hp → Prop) : Prop :=
  match fp with
  | .no => ∃ x, (stillV i env = some x ∨ Quiet S i env x) ∧ k x H
  | .rw R W => ∃ x H', memV d i env H = some (x, H') ∧ (∀ l ∈ readsL i env, l.fam ∈ R ∨ l.fam ∈ W) ∧ (∀ l ∈ writesL d i env, l.fam ∈ W) ∧ k x H'
  | .all => Act1 S d i env H k
theorem CallT.mono {S : St} {f : Nat} {args : List AV} {H : Hp} {k k' : AV → Hp → Prop} (hk : ∀ x H, k x H → k' x H) (h : CallT S f args H k) : CallT S f args H k' := by
  rcases h with ⟨res, h1, h2⟩ | ⟨ρ, Hin, cargs, Q, h1, h2, h3, h4, h5, h6, h7, h8, h9⟩
  · exact .inl ⟨res, h1, hk _ _ h2⟩
  · refine .inr ⟨ρ, Hin, cargs, Q, h1, h2, h3, h4, h5, h6, h7, h8, fun x H' hq => ?_⟩
    obtain ⟨ρ', H'', q1, q2, q3, q4, q5, q6, q7, q8, q9⟩ := h9 x H' hq
    exact ⟨ρ', H'', q1, q2, q3, q4, q5, q6, q7, q8, hk _ _ q9⟩
theorem Act1.mono {S : St} {d : Option Nat} {i : Ins} {env : Env} {H : Hp} {k k' : AV → Hp → Prop} (hk : ∀ x H, k x H → k' x H) (h : Act1 S d i env H k) : Act1 S d i env H k' := by
  cases i with
  | load m a =>
    simp only [Act1] at h ⊢
    rcases h with ⟨x, h1, h2⟩ | ⟨x, h1, h2⟩
    · exact .inl ⟨x, h1, hk _ _ h2⟩
    · exact .inr ⟨x, h1, hk _ _ h2⟩
  | box x =>
    simp only [Act1] at h ⊢
    obtain ⟨n, h1, h2, h3, h4, h5, h6⟩ := h
    exact ⟨n, h1, h2, h3, h4, h5, hk _ _ h6⟩
  | new cs =>
    simp only [Act1] at h ⊢
    obtain ⟨n, h1, h2, h3, h4, h5⟩ := h
    exact ⟨n, h1, h2, h3, h4, hk _ _ h5⟩
  | store m a x =>
    simp only [Act1] at h ⊢
    obtain ⟨h1, H', h2, h3⟩ := h
    exact ⟨h1, H', h2, hk _ _ h3⟩
  | app s x sz b =>
    simp only [Act1] at h ⊢
    obtain ⟨n, h1, y, H', h2, h3⟩ := h
    exact ⟨n, h1, y, H', h2, hk _ _ h3⟩
  | call f args => exact CallT.mono hk h
  | eqn n x =>
    simp only [Act1] at h ⊢
    obtain ⟨bs, h1, h2⟩ := h
    exact ⟨bs, h1, fun b hb => hk _ _ (h2 b hb)⟩
  | appz s n sz b z =>
    simp only [Act1] at h ⊢
    obtain ⟨q, h1, y, H', h2, h3⟩ := h
    exact ⟨q, h1, y, H', h2, hk _ _ h3⟩
  | litso sz z ps =>
    simp only [Act1] at h ⊢
    obtain ⟨q, h1, y, H', h2, h3⟩ := h
    exact ⟨q, h1, y, H', h2, hk _ _ h3⟩
  | cap x =>
    simp only [Act1] at h ⊢
    obtain ⟨R, h1, h2⟩ := h
    exact ⟨R, h1, fun m hm hm2 => hk _ _ (h2 m hm hm2)⟩
  | cpy s x sz =>
    simp only [Act1] at h ⊢
    obtain ⟨y, H', h1, h2⟩ := h
    exact ⟨y, H', h1, hk _ _ h2⟩
  | clr x sz z =>
    simp only [Act1] at h ⊢
    obtain ⟨H', h1, h2⟩ := h
    exact ⟨H', h1, hk _ _ h2⟩
  | mks n c sz b z =>
    simp only [Act1] at h ⊢
    obtain ⟨q, h1, y, H', h2, h3⟩ := h
    exact ⟨q, h1, y, H', h2, hk _ _ h3⟩
  | callx f args =>
    simp only [Act1] at h ⊢
    obtain ⟨res, h1, h2⟩ := h
    exact ⟨res, h1, hk _ _ h2⟩
  | callv x args =>
    simp only [Act1] at h ⊢
    obtain ⟨f, first, cap, h1, h2, h3⟩ := h
    exact ⟨f, first, cap, h1, h2, CallT.mono hk h3⟩
  | _ =>
    simp only [Act1] at h ⊢
    obtain ⟨x, h1, h2⟩ := h
    exact ⟨x, h1, hk _ _ h2⟩
theorem Act1f.mono {S : St} {fp : Fp} {d : Option Nat} {i : Ins} {env : Env} {H : Hp} {k k' : AV → Hp → Prop} (hk : ∀ x H, k x H → k' x H) (h : Act1f S fp d i env H k) : Act1f S fp d i env H k' := by
  cases fp with
  | no => obtain ⟨x, h1, h2⟩ := h; exact ⟨x, h1, hk _ _ h2⟩
  | rw R W => obtain ⟨x, H', h1, h2, h3, h4⟩ := h; exact ⟨x, H', h1, h2, h3, hk _ _ h4⟩
  | all => exact Act1.mono hk h
theorem Act1f.act {S : St} {fp : Fp} {d : Option Nat} {i : Ins} {env : Env} {H : Hp} {k : AV → Hp → Prop} (h : Act1f S fp d i env H k) : Act1 S d i env H k := by
  cases fp with
  | all => exact h
  | no =>
    obtain ⟨x, h1, h2⟩ := h
    cases i with
    | load m a =>
      rcases h1 with h1 | h1
      · exact .inl ⟨x, h1, h2⟩
      · exact absurd h1 (by simp [Quiet])
    | call f args =>
      rcases h1 with h1 | h1
      · simp [stillV] at h1
      · exact .inl ⟨x, h1, h2⟩
    | callv y args =>
      rcases h1 with h1 | ⟨f, first, cap, e1, e2, e3⟩
      · simp [stillV] at h1
      · exact ⟨f, first, cap, e1, e2, .inl ⟨x, e3, h2⟩⟩
    | box _ => rcases h1 with h1 | h1 <;> simp [stillV, Quiet] at h1
    | eqn _ _ => rcases h1 with h1 | h1 <;> simp [stillV, Quiet] at h1
    | new _ => rcases h1 with h1 | h1 <;> simp [stillV, Quiet] at h1
    | store _ _ _ => rcases h1 with h1 | h1 <;> simp [stillV, Quiet] at h1
    | app _ _ _ _ => rcases h1 with h1 | h1 <;> simp [stillV, Quiet] at h1
    | cap _ => rcases h1 with h1 | h1 <;> simp [stillV, Quiet] at h1
    | appz _ _ _ _ _ => rcases h1 with h1 | h1 <;> simp [stillV, Quiet] at h1
    | litso _ _ _ => rcases h1 with h1 | h1 <;> simp [stillV, Quiet] at h1
    | cpy _ _ _ => rcases h1 with h1 | h1 <;> simp [stillV, Quiet] at h1
    | clr _ _ _ => rcases h1 with h1 | h1 <;> simp [stillV, Quiet] at h1
    | mks _ _ _ _ _ => rcases h1 with h1 | h1 <;> simp [stillV, Quiet] at h1
    | callx _ _ => rcases h1 with h1 | h1 <;> simp [stillV, Quiet] at h1
    | _ =>
      rcases h1 with h1 | h1
      · exact ⟨x, h1, h2⟩
      · exact absurd h1 (by simp [Quiet])
  | rw R W =>
    obtain ⟨x, H', h1, _, _, h2⟩ := h
    cases i with
    | load m a =>
      simp only [memV, Option.map_eq_some_iff, Prod.mk.injEq] at h1
      obtain ⟨y, h1, rfl, rfl⟩ := h1
      exact .inr ⟨y, h1, h2⟩
    | box y =>
      simp only [memV] at h1
      obtain ⟨n, rfl, h0⟩ := bnone h1
      split at h0
      · rename_i hc
        simp only [Option.some.injEq, Prod.mk.injEq] at h0
        obtain ⟨rfl, rfl⟩ := h0
        exact ⟨n, rfl, hc.1, hc.2.1, hc.2.2.1, hc.2.2.2, h2⟩
      · simp at h0
    | new cs =>
      simp only [memV] at h1
      obtain ⟨n, rfl, h0⟩ := bnone h1
      split at h0
      · rename_i hc
        simp only [Option.some.injEq, Prod.mk.injEq] at h0
        obtain ⟨rfl, rfl⟩ := h0
        exact ⟨n, rfl, hc.1, hc.2.1, hc.2.2, h2⟩
      · simp at h0
    | store m a y =>
      simp only [memV] at h1
      split at h1
      · rename_i hd
        simp only [Option.map_eq_some_iff, Prod.mk.injEq] at h1
        obtain ⟨H2, h1, rfl, rfl⟩ := h1
        exact ⟨hd, H2, h1, h2⟩
      · simp at h1
    | app s y sz bytes =>
      simp only [memV] at h1
      obtain ⟨n, rfl, h0⟩ := bnone h1
      exact ⟨n, rfl, x, H', h0, h2⟩
    | litso sz z ps =>
      simp only [memV] at h1
      obtain ⟨q, rfl, h0⟩ := bnone h1
      exact ⟨q, rfl, x, H', h0, h2⟩
    | cpy s y sz =>
      simp only [memV] at h1
      exact ⟨x, H', h1, h2⟩
    | clr y sz z =>
      simp only [memV, Option.map_eq_some_iff, Prod.mk.injEq] at h1
      obtain ⟨H2, h1, rfl, rfl⟩ := h1
      exact ⟨H2, h1, h2⟩
    | _ => simp [memV] at h1
theorem Quiet_cong {S : St} {i : Ins} {env env' : Env} (h : ∀ x ∈ i.os, ev env x = ev env' x) {x : AV} (hq : Quiet S i env x) : Quiet S i env' x := by
  cases i with
  | call f args =>
    simp only [Quiet] at hq ⊢
    have : args.map (ev env) = args.map (ev env') := List.map_congr_left fun p hp => h p (by simpa [Ins.os] using hp)
    rw [← this]; exact hq
  | callv y args =>
    simp only [Quiet] at hq ⊢
    have : args.map (ev env) = args.map (ev env') := List.map_congr_left fun p hp => h p (by simp only [Ins.os, List.mem_cons]; exact .inr hp)
    rw [← this, ← h y (by simp [Ins.os])]; exact hq
  | _ => exact hq
theorem Act1f_cong {S : St} {fp : Fp} {d : Option Nat} {i : Ins} {env env' : Env} (h : ∀ x ∈ i.os, ev env x = ev env' x) {H : Hp} {k : AV → Hp → Prop} (ha : Act1f S fp d i env H k) : Act1f S fp d i env' H k := by
  cases fp with
  | no =>
    obtain ⟨x, h1, h2⟩ := ha
    refine ⟨x, ?_, h2⟩
    rcases h1 with h1 | h1
    · exact .inl (by rw [← stillV_cong h]; exact h1)
    · exact .inr (Quiet_cong h h1)
  | rw R W =>
    obtain ⟨x, H', h1, h2, h3, h4⟩ := ha
    obtain ⟨e1, e2, e3⟩ := memV_cong (d := d) h H
    exact ⟨x, H', by rw [← e1]; exact h1, by rw [← e2]; exact h2, by rw [← e3]; exact h3, h4⟩
  | all => exact Act1_cong h ha
/-- One operation. -/
def St1 (S : St) (p : LIns × Fp) (env : Env) (H : Hp) (k : Env → Hp → Prop) : Prop :=
  (gW p.1.g env = some true ∧ (∀ n, p.1.d = some n → n < S.N) ∧ Act1f S p.2 p.1.d p.1.i env H fun x H' => k (putO env p.1.d x) H') ∨
    (gW p.1.g env = some false ∧ (∀ n, p.1.d = some n → n < S.N) ∧ k (putO env p.1.d .un) H)
/-- The operations in the text's order. -/
def AOf (S : St) : List (Nat × LIns × Fp) → Env → Hp → (Env → Hp → Prop) → Prop
  | [], env, H, k => k env H
  | p :: r, env, H, k => St1 S p.2 env H fun e h => AOf S r e h k
def dstFree (d : Option Nat) (us : List Nat) : Bool := match d with | some n => !us.contains n | none => true
def regsApart (p q : LIns) : Bool := dstFree p.d q.us && dstFree q.d p.us && (p.d.isNone || p.d != q.d)
def fpApart : Fp → Fp → Bool
  | .no, _ => true
  | .rw _ _, .no => true
  | .rw R W, .rw R' W' => W.all (fun l => !R'.contains l && !W'.contains l) && R.all (fun l => !W'.contains l)
  | _, _ => false
def indep (p q : LIns × Fp) : Bool := regsApart p.1 q.1 && fpApart p.2 q.2
section
variable {S : St} {env : Env} {H : Hp}
theorem St1.mono {p : LIns × Fp} {k k' : Env → Hp → Prop} (hk : ∀ e h, k e h → k' e h) (h : St1 S p env H k) : St1 S p env H k' := by
  rcases h with ⟨h1, h2, h3⟩ | ⟨h1, h2, h3⟩
  · exact .inl ⟨h1, h2, h3.mono fun _ _ => hk _ _⟩
  · exact .inr ⟨h1, h2, hk _ _ h3⟩
theorem AOf.mono {k k' : Env → Hp → Prop} (hk : ∀ e h, k e h → k' e h) : ∀ (l : List (Nat × LIns × Fp)) (env : Env) (H : Hp), AOf S l env H k → AOf S l env H k'
  | [], env, H, h => hk _ _ h
  | p :: r, env, H, h => St1.mono (fun e h' => AOf.mono hk r e h') h
theorem putO_comm {d d' : Option Nat} (h : d = none ∨ d ≠ d') (x y : AV) : putO (putO env d x) d' y = putO (putO env d' y) d x := by
  cases d with
  | none => rfl
  | some n =>
    cases d' with
    | none => rfl
    | some m =>
      have : n ≠ m := by rcases h with h | h; simp at h; simpa using h
      funext q
      simp only [putO, put]
      by_cases e1 : q = n
      · by_cases e2 : q = m
        · exact absurd (e1.symm.trans e2) this
        · simp [e1, this]
      · by_cases e2 : q = m
        · simp [e2, Ne.symm this]
        · simp [e1, e2]
theorem gW_put {g : Option (Nat × Bool)} {d : Option Nat} {x : AV} (h : ∀ n, d = some n → n ∉ (match g with | some (s, _) => [s] | none => ([] : List Nat))) : gW g (putO env d x) = gW g env := by
  cases g with
  | none => rfl
  | some p =>
    obtain ⟨s, t⟩ := p
    cases d with
    | none => rfl
    | some m =>
      have := h m rfl
      simp at this
      simp [gW, putO, put, Ne.symm this]
theorem dstFree_spec {d : Option Nat} {us : List Nat} (h : dstFree d us = true) : ∀ n, d = some n → n ∉ us := by
  rintro n rfl
  simpa [dstFree] using h
/-- What an operation looks at is not touched. -/
theorem seen_put {q : LIns} {d : Option Nat} (h : dstFree d q.us = true) (x : AV) (env : Env) : gW q.g (putO env d x) = gW q.g env ∧ ∀ o ∈ q.i.os, ev (putO env d x) o = ev env o := by
  have h' := dstFree_spec h
  refine ⟨gW_put fun n hn hm => h' n hn (by simp only [LIns.us, List.mem_append]; exact .inr hm), fun o ho => ev_put fun n hn hm => h' n hn ?_⟩
  simp only [LIns.us, List.mem_append, List.mem_flatMap]
  exact .inl ⟨o, ho, hm⟩
theorem St1.shift {q : LIns × Fp} {d : Option Nat} (h : dstFree d q.1.us = true) (hd : d = none ∨ d ≠ q.1.d) {x : AV} {k : Env → Hp → Prop} (hs : St1 S q (putO env d x) H k) :
    St1 S q env H fun e h => k (putO e d x) h ∧ ∃ y, e = putO env q.1.d y := by
  obtain ⟨e1, e2⟩ := seen_put h x env
  rcases hs with ⟨h1, h2, h3⟩ | ⟨h1, h2, h3⟩
  · exact .inl ⟨by rw [← e1]; exact h1, h2, (Act1f_cong e2 h3).mono fun y H' hk => ⟨by rw [← putO_comm hd]; exact hk, y, rfl⟩⟩
  · exact .inr ⟨by rw [← e1]; exact h1, h2, by rw [← putO_comm hd]; exact h3, _, rfl⟩
theorem St1.swap {p q : LIns × Fp} (hi : indep p q = true) {k : Env → Hp → Prop} (h : St1 S p env H fun e h => St1 S q e h k) : St1 S q env H fun e h => St1 S p e h k := by
  simp only [indep, regsApart, Bool.and_eq_true, Bool.or_eq_true, Option.isNone_iff_eq_none, bne_iff_ne] at hi
  obtain ⟨⟨⟨r1, r2⟩, r3⟩, hf⟩ := hi
  obtain ⟨lp, fp⟩ := p
  obtain ⟨lq, fq⟩ := q
  simp only at r1 r2 r3 hf
  have r3' : lq.d = none ∨ lq.d ≠ lp.d := by
    rcases r3 with r3 | r3
    · by_cases e : lq.d = none
      · exact .inl e
      · exact .inr (by rw [r3]; exact e)
    · exact .inr (Ne.symm r3)
  rcases h with ⟨h1, h2, h3⟩ | ⟨h1, h2, h3⟩
  · cases fp with
    | no =>
      obtain ⟨x, h4, h5⟩ := h3
      refine (h5.shift r1 r3).mono ?_
      rintro e h' ⟨hk, y, rfl⟩
      obtain ⟨e1, e2⟩ := seen_put r2 y env
      refine .inl ⟨by simp only; rw [e1]; exact h1, h2, x, ?_, hk⟩
      rcases h4 with h4 | h4
      · exact .inl (by simp only; rw [stillV_cong e2]; exact h4)
      · exact .inr (Quiet_cong (fun o ho => (e2 o ho).symm) h4)
    | rw R W =>
      obtain ⟨x, H', m1, m2, m3, m4⟩ := h3
      have mem2 : ∀ y, memV lp.d lp.i (putO env lq.d y) H = some (x, H') ∧ readsL lp.i (putO env lq.d y) = readsL lp.i env ∧ writesL lp.d lp.i (putO env lq.d y) = writesL lp.d lp.i env := fun y => by
        obtain ⟨c1, c2, c3⟩ := memV_cong (d := lp.d) (seen_put r2 y env).2 H
        exact ⟨by rw [c1]; exact m1, c2, c3⟩
      obtain ⟨f1, f2⟩ := seen_put r1 x env
      have g2 : ∀ y, gW lp.g (putO env lq.d y) = some true := fun y => by rw [(seen_put r2 y env).1]; exact h1
      rcases m4 with ⟨k1, k2, k3⟩ | ⟨k1, k2, k3⟩
      · cases fq with
        | no =>
          obtain ⟨y, k4, k5⟩ := k3
          refine .inl ⟨by simp only; rw [← f1]; exact k1, k2, y, ?_, ?_⟩
          · rcases k4 with k4 | k4
            · exact .inl (by simp only; rw [← stillV_cong f2]; exact k4)
            · exact .inr (Quiet_cong f2 k4)
          · exact .inl ⟨g2 y, h2, x, H', (mem2 y).1, by simp only; rw [(mem2 y).2.1]; exact m2, by simp only; rw [(mem2 y).2.2]; exact m3, by simp only; rw [← putO_comm r3]; exact k5⟩
        | rw R' W' =>
          obtain ⟨y, H'', k4, k5, k6, k7⟩ := k3
          obtain ⟨c1, c2, c3⟩ := memV_cong (d := lq.d) f2 H'
          simp only at k4 k5 k6 k7
          rw [c1] at k4
          rw [c2] at k5
          rw [c3] at k6
          simp only [fpApart, Bool.and_eq_true, List.all_eq_true, Bool.not_eq_true', List.contains_eq_mem, decide_eq_false_iff_not] at hf
          obtain ⟨hf1, hf2⟩ := hf
          have pW : ∀ l, l ∈ writesL lp.d lp.i env → l.fam ∉ R' ∧ l.fam ∉ W' := fun l hl => hf1 l.fam (m3 l hl)
          have hagree : ∀ l, l ∈ readsL lq.i env ∨ l ∈ writesL lq.d lq.i env → H l = H' l := by
            intro l hl
            refine (memV_frame m1 l fun hw => ?_).symm
            rcases hl with hl | hl
            · rcases k5 l hl with e | e
              · exact (pW l hw).1 e
              · exact (pW l hw).2 e
            · exact (pW l hw).2 (k6 l hl)
          obtain ⟨H2, a1, a2, a3⟩ := memV_loc k4 hagree
          have hagree2 : ∀ l, l ∈ readsL lp.i env ∨ l ∈ writesL lp.d lp.i env → H2 l = H l := by
            intro l hl
            refine a3 l fun hw => ?_
            rcases hl with hl | hl
            · rcases m2 l hl with e | e
              · exact hf2 l.fam e (k6 l hw)
              · exact (hf1 l.fam e).2 (k6 l hw)
            · exact (pW l hl).2 (k6 l hw)
          obtain ⟨H3, b1, b2, b3⟩ := memV_loc m1 hagree2
          have hH : H3 = H'' := by
            funext l
            by_cases hw : l ∈ writesL lp.d lp.i env
            · rw [b2 l hw]
              exact (memV_frame k4 l fun hq => (pW l hw).2 (k6 l hq)).symm
            · rw [b3 l hw]
              by_cases hq : l ∈ writesL lq.d lq.i env
              · exact a2 l hq
              · rw [a3 l hq, memV_frame k4 l hq, memV_frame m1 l hw]
          subst hH
          refine .inl ⟨by simp only; rw [← f1]; exact k1, k2, y, H2, a1, k5, k6, ?_⟩
          obtain ⟨d1, d2, d3⟩ := memV_cong (d := lp.d) (seen_put r2 y env).2 H2
          exact .inl ⟨g2 y, h2, x, H3, by simp only; rw [d1]; exact b1, by simp only; rw [d2]; exact m2, by simp only; rw [d3]; exact m3, by simp only; rw [← putO_comm r3]; exact k7⟩
        | all => simp [fpApart] at hf
      · refine .inr ⟨by simp only; rw [← f1]; exact k1, k2, ?_⟩
        exact .inl ⟨g2 .un, h2, x, H', (mem2 .un).1, by simp only; rw [(mem2 .un).2.1]; exact m2, by simp only; rw [(mem2 .un).2.2]; exact m3, by simp only; rw [← putO_comm r3]; exact k3⟩
    | all => cases fq <;> simp [fpApart] at hf
  · refine (h3.shift r1 r3).mono ?_
    rintro e h' ⟨hk, y, rfl⟩
    obtain ⟨e1, e2⟩ := seen_put r2 y env
    exact .inr ⟨by simp only; rw [e1]; exact h1, h2, hk⟩
theorem AOf.front {q : Nat × LIns × Fp} {l2 : List (Nat × LIns × Fp)} {k : Env → Hp → Prop} : ∀ (l1 : List (Nat × LIns × Fp)) (env : Env) (H : Hp), (∀ p ∈ l1, indep p.2 q.2 = true) → AOf S (l1 ++ q :: l2) env H k →
    AOf S (q :: (l1 ++ l2)) env H k
  | [], env, H, _, h => h
  | p :: l1, env, H, hi, h => by
    simp only [List.cons_append, AOf] at h ⊢
    refine St1.swap (hi p (by simp)) (h.mono fun e h' hq => ?_)
    have := AOf.front l1 e h' (fun p' hp' => hi p' (by simp [hp'])) hq
    simpa only [AOf] using this
end
end Go.Am

/- THE ABSTRACT MACHINE, part 20: regions whose order is drawn are sound. -/
namespace Go.Am
open Go Go.RowKit
/-- What an operation must wait for. -/
def edgesOf (ops : Array Oper) : List (List Nat) := ops.toList.map fun o => (o.after.toList.filter (Region.binds .any)).map (·.on)
def items : Nat → List LIns → List Fp → List (Nat × LIns × Fp)
  | _, [], _ => []
  | n, i :: r, fs => (n, i, fs.headD .no) :: items (n + 1) r fs.tail
def pairsOK (es : List (List Nat)) : List (Nat × LIns × Fp) → Bool
  | [] => true
  | p :: r => r.all (fun q => (es.getD q.1 []).contains p.1 || indep p.2 q.2) && pairsOK es r
def backOK (es : List (List Nat)) (l : List (Nat × LIns × Fp)) : Bool := l.all fun p => (es.getD p.1 []).all fun e => decide (e < p.1)
/-- Whichever order is drawn, the same comes of it. -/
def ordOK (is : List LIns) (es : List (List Nat)) (fs : List Fp) : Bool := pairsOK es (items 0 is fs) && backOK es (items 0 is fs)
theorem pairsOK_spec {es : List (List Nat)} : ∀ {l : List (Nat × LIns × Fp)}, pairsOK es l = true → l.Pairwise fun p q => p.1 ∈ es.getD q.1 [] ∨ indep p.2 q.2 = true
  | [], _ => .nil
  | p :: r, h => by
    simp only [pairsOK, Bool.and_eq_true, List.all_eq_true, Bool.or_eq_true, List.contains_eq_mem, decide_eq_true_eq] at h
    exact .cons h.1 (pairsOK_spec h.2)
section
variable {K : Kx} {env : Env} {H : Hp} {a : Act} {w : World}
theorem ready_mem {ops : Array Oper} {listed : Array Bool} {i : Nat} : i ∈ Region.ready .any ops listed ↔
    i < ops.size ∧ listed.getD i true = false ∧ ∃ o, ops[i]? = some o ∧ ∀ e ∈ o.after, Region.binds .any e = true → listed.getD e.on false = true := by
  unfold Region.ready
  simp only [List.mem_filter, List.mem_range, Bool.and_eq_true, Bool.not_eq_true']
  constructor
  · rintro ⟨h1, h2, h3⟩
    refine ⟨h1, h2, ?_⟩
    cases ho : ops[i]? with
    | none => rw [ho] at h3; simp at h3
    | some o =>
      rw [ho] at h3
      simp only [Option.map_some, Option.getD_some] at h3
      refine ⟨o, rfl, fun e he hb => ?_⟩
      have h3' := Array.all_eq_true_iff_forall_mem.1 h3
      have := h3' e he
      simpa [hb] using this
  · rintro ⟨h1, h2, o, h3, h4⟩
    refine ⟨h1, h2, ?_⟩
    rw [h3]
    simp only [Option.map_some, Option.getD_some]
    refine Array.all_eq_true_iff_forall_mem.2 fun e he => ?_
    cases hb : Region.binds .any e with
    | false => rfl
    | true => simpa using h4 e he hb
theorem edgesOf_mem {ops : Array Oper} {i : Nat} {o : Oper} (ho : ops[i]? = some o) {e : Edge} (he : e ∈ o.after) (hb : Region.binds .any e = true) : e.on ∈ (edgesOf ops).getD i [] := by
  unfold edgesOf
  rw [List.getD_eq_getElem?_getD, List.getElem?_map, Array.getElem?_toList, ho]
  simp only [Option.map_some, Option.getD_some, List.mem_map, List.mem_filter, Array.mem_toList_iff]
  exact ⟨e, ⟨he, hb⟩, rfl⟩
theorem any_sound {ops : Array Oper} {k : Env → Hp → Prop} {Q : Exit → Act → World → Prop} (hk : ∀ env' H' β' a' w', k env' H' → RelB K β' env' H' a' w' → Q .normal a' w') :
    ∀ (fuel : Nat) (l : List (Nat × LIns × Fp)) (listed : Array Bool) (env : Env) (H : Hp) (a : Act) (w : World) (β : Lb → Option Nat), l.length = fuel →
      l.Pairwise (fun p q => p.1 < q.1) → listed.size = ops.size → (∀ i, i < ops.size → (listed.getD i true = false ↔ ∃ p ∈ l, p.1 = i)) →
      (∀ p ∈ l, p.1 < ops.size ∧ ∃ o, ops[p.1]? = some o ∧ compL K.P K.G ops o = some p.2.1.asIs) →
      l.Pairwise (fun p q => p.1 ∈ (edgesOf ops).getD q.1 [] ∨ indep p.2 q.2 = true) → (∀ p ∈ l, ∀ e ∈ (edgesOf ops).getD p.1 [], e < p.1) →
      AOf ⟨K.P, K.G, K.N⟩ l env H k → RelB K β env H a w → wpAny K.P .any ops Q fuel listed a w := by
  intro fuel
  induction fuel with
  | zero =>
    intro l listed env H a w β hlen _ _ hl _ _ _ hA hr
    have : l = [] := List.eq_nil_of_length_eq_zero hlen
    subst this
    refine ⟨?_, hk _ _ _ _ _ hA hr⟩
    rw [List.eq_nil_iff_forall_not_mem]
    intro i hi
    obtain ⟨h1, h2, _⟩ := ready_mem.1 hi
    obtain ⟨p, hp, _⟩ := (hl i h1).1 h2
    simp at hp
  | succ fuel ih =>
    intro l listed env H a w β hlen hsort hsz hl hops hpairs hback hA hr
    refine ⟨fun hnil => ?_, fun i hi => ?_⟩
    · exfalso
      cases l with
      | nil => simp at hlen
      | cons p r =>
        obtain ⟨hp1, o, hp2, hp3⟩ := hops p (by simp)
        have : p.1 ∈ Region.ready .any ops listed := by
          refine ready_mem.2 ⟨hp1, (hl p.1 hp1).2 ⟨p, by simp, rfl⟩, o, hp2, fun e he hb => ?_⟩
          have hlt := hback p (by simp) e.on (edgesOf_mem hp2 he hb)
          have hlt2 : e.on < ops.size := by omega
          have hne : ¬ listed.getD e.on true = false := by
            rw [hl e.on hlt2]
            rintro ⟨q, hq, hqe⟩
            rcases List.mem_cons.1 hq with rfl | hq
            · omega
            · have := (List.pairwise_cons.1 hsort).1 q hq
              omega
          rw [Array.getD_eq_getD_getElem?] at hne ⊢
          rw [Array.getElem?_eq_getElem (by omega)] at hne ⊢
          simpa using hne
        rw [hnil] at this
        simp at this
    · obtain ⟨h1, h2, o, h3, h4⟩ := ready_mem.1 hi
      obtain ⟨p, hp, rfl⟩ := (hl i h1).1 h2
      obtain ⟨l1, l2, rfl⟩ := List.append_of_mem hp
      obtain ⟨_, o', ho', hcomp⟩ := hops p hp
      rw [h3] at ho'; cases ho'
      have hind : ∀ q ∈ l1, indep q.2 p.2 = true := by
        intro q hq
        rcases (List.pairwise_append.1 hpairs).2.2 q hq p (by simp) with he | he
        · exfalso
          unfold edgesOf at he
          rw [List.getD_eq_getElem?_getD, List.getElem?_map, Array.getElem?_toList, h3] at he
          simp only [Option.map_some, Option.getD_some, List.mem_map, List.mem_filter, Array.mem_toList_iff] at he
          obtain ⟨e, ⟨he1, he2⟩, he3⟩ := he
          have hq1 := h4 e he1 he2
          rw [he3] at hq1
          have hqs := (hops q (by simp [hq])).1
          have hq2 := (hl q.1 hqs).2 ⟨q, by simp [hq], rfl⟩
          rw [Array.getD_eq_getD_getElem?] at hq1 hq2
          rw [Array.getElem?_eq_getElem (by omega)] at hq1 hq2
          simp at hq1 hq2
          rw [hq1] at hq2
          simp at hq2
        · exact he
      have hA' := AOf.front l1 env H hind hA
      simp only [AOf] at hA'
      have hne : ∀ q ∈ l1 ++ l2, q.1 ≠ p.1 := by
        intro q hq e
        rcases List.mem_append.1 hq with hq | hq
        · have := (List.pairwise_append.1 hsort).2.2 q hq p (by simp); omega
        · have := (List.pairwise_cons.1 (List.pairwise_append.1 hsort).2.1).1 q hq; omega
      have hsub : (l1 ++ l2).Sublist (l1 ++ p :: l2) := List.Sublist.append_left (List.sublist_cons_self p l2) l1
      have hmem : ∀ q ∈ l1 ++ l2, q ∈ l1 ++ p :: l2 := fun q hq => hsub.subset hq
      have hnext : ∀ env' H' β' a' w', AOf ⟨K.P, K.G, K.N⟩ (l1 ++ l2) env' H' k → RelB K β' env' H' a' w' → wpAny K.P .any ops Q fuel (listed.setIfInBounds p.1 true) a' w' := by
        intro env' H' β' a' w' q1 q2
        refine ih (l1 ++ l2) _ env' H' a' w' β' (by simp at hlen ⊢; omega) (hsort.sublist hsub) (by simp [hsz]) (fun j hj => ?_) (fun q hq => hops q (hmem q hq)) (hpairs.sublist hsub)
          (fun q hq => hback q (hmem q hq)) q1 q2
        rw [Array.getD_eq_getD_getElem?, Array.getElem?_setIfInBounds]
        by_cases e : p.1 = j
        · subst e
          simp only [if_true]
          rw [if_pos (by omega)]
          simp only [Option.getD_some, Bool.true_eq_false, false_iff]
          rintro ⟨q, hq, e⟩
          exact hne q hq e
        · rw [if_neg e, ← Array.getD_eq_getD_getElem?, hl j hj]
          constructor
          · rintro ⟨q, hq, rfl⟩
            refine ⟨q, ?_, rfl⟩
            simp only [List.mem_append, List.mem_cons] at hq ⊢
            rcases hq with hq | hq | hq
            · exact .inl hq
            · subst hq; exact absurd rfl e
            · exact .inr hq
          · rintro ⟨q, hq, rfl⟩
            exact ⟨q, hmem q hq, rfl⟩
      simp only [wpOp, h3]
      refine step_sound hr hcomp (k := fun e h => AOf ⟨K.P, K.G, K.N⟩ (l1 ++ l2) e h k) hnext ?_
      rcases hA' with ⟨g1, g2, g3⟩ | ⟨g1, g2, g3⟩
      · exact .inl ⟨g1, g2, g3.act⟩
      · exact .inr ⟨g1, g2, g3⟩
theorem items_mem : ∀ (is : List LIns) (n : Nat) (fs : List Fp) (p : Nat × LIns × Fp), p ∈ items n is fs → n ≤ p.1 ∧ is[p.1 - n]? = some p.2.1
  | [], n, fs, p, h => by simp [items] at h
  | i :: r, n, fs, p, h => by
    simp only [items, List.mem_cons] at h
    rcases h with rfl | h
    · simp
    · obtain ⟨h1, h2⟩ := items_mem r (n + 1) _ p h
      refine ⟨by omega, ?_⟩
      rw [show p.1 - n = (p.1 - (n + 1)) + 1 by omega]
      simpa using h2
theorem items_sorted : ∀ (is : List LIns) (n : Nat) (fs : List Fp), (items n is fs).Pairwise fun p q => p.1 < q.1
  | [], n, fs => .nil
  | i :: r, n, fs => by
    simp only [items]
    refine .cons (fun q hq => ?_) (items_sorted r (n + 1) _)
    have := (items_mem r (n + 1) _ q hq).1
    simp only; omega
theorem items_len : ∀ (is : List LIns) (n : Nat) (fs : List Fp), (items n is fs).length = is.length
  | [], n, fs => rfl
  | i :: r, n, fs => by simp [items, items_len r]
theorem items_has : ∀ (is : List LIns) (n : Nat) (fs : List Fp) (j : Nat), j < is.length → ∃ p ∈ items n is fs, p.1 = n + j
  | [], n, fs, j, h => by simp at h
  | i :: r, n, fs, 0, h => ⟨_, List.mem_cons_self .., rfl⟩
  | i :: r, n, fs, j + 1, h => by
    obtain ⟨p, h1, h2⟩ := items_has r (n + 1) fs.tail j (by simpa using h)
    exact ⟨p, by simp only [items]; exact List.mem_cons_of_mem _ h1, by omega⟩
theorem all2_get {α β : Type} {R : α → β → Prop} : ∀ {l : List α} {m : List β}, All2 R l m → l.length = m.length ∧ ∀ (i : Nat) (y : β), m[i]? = some y → ∃ x, l[i]? = some x ∧ R x y
  | _, _, .nil => ⟨rfl, by simp⟩
  | _, _, .cons h1 h2 => by
    obtain ⟨e, h⟩ := all2_get h2
    refine ⟨by simp [e], fun i y hy => ?_⟩
    cases i with
    | zero => simp at hy; subst hy; exact ⟨_, by simp, h1⟩
    | succ i => obtain ⟨x, q1, q2⟩ := h i y (by simpa using hy); exact ⟨x, by simpa using q1, q2⟩
theorem RelB.drew {β : Lb → Option Nat} (hr : RelB K β env H a w) : RelB K β env H a { w with drawn := w.drawn + 1 } := by
  have hg : Grew w { w with drawn := w.drawn + 1 } := ⟨rfl, rfl, rfl, Nat.le_refl _, fun _ _ => rfl⟩
  have := hr.step hg (d := none) (x := .un) (v := undef) (by simp) (by simp) (by simp)
  simpa [putO, Act.put] using this
theorem drawn_sound {β : Lb → Option Nat} (hr : RelB K β env H a w) {id : Nat} {ops : Array Oper} (hm : K.P.follows .mixedOrders = true) {is : List LIns} {fs : List Fp}
    (hall : All2 (fun o i => compL K.P K.G ops o = some (LIns.asIs i)) ops.toList is) (ho : ordOK is (edgesOf ops) fs = true) {k : Env → Hp → Prop} {Q : Exit → Act → World → Prop}
    (hk : ∀ env' H' β' a' w', k env' H' → RelB K β' env' H' a' w' → Q .normal a' w') (hA : AOf ⟨K.P, K.G, K.N⟩ (items 0 is fs) env H k) : (Code.region id ops true).wp K.P Q a w := by
  obtain ⟨hlen, hget⟩ := all2_get hall
  simp only [Array.length_toList] at hlen
  simp only [ordOK, Bool.and_eq_true] at ho
  obtain ⟨ho1, ho2⟩ := ho
  refine wp_region_any hm (any_sound hk ops.size (items 0 is fs) _ env H a _ β (by rw [items_len]; exact hlen.symm) (items_sorted is 0 fs) (by simp) (fun i hi => ?_) (fun p hp => ?_)
    (pairsOK_spec ho1) (fun p hp e he => ?_) hA hr.drew)
  · rw [Array.getD_eq_getD_getElem?, Array.getElem?_replicate, if_pos hi]
    simp only [Option.getD_some, true_iff]
    obtain ⟨p, h1, h2⟩ := items_has is 0 fs i (by omega)
    exact ⟨p, h1, by omega⟩
  · obtain ⟨h1, h2⟩ := items_mem is 0 fs p hp
    simp only [Nat.sub_zero] at h2
    obtain ⟨o, q1, q2⟩ := hget p.1 _ h2
    have := (List.getElem?_eq_some_iff.1 h2).1
    exact ⟨by omega, o, by simpa using q1, q2⟩
  · simp only [backOK, List.all_eq_true, decide_eq_true_eq] at ho2
    exact ho2 p hp e he
end
end Go.Am

/- THE ABSTRACT MACHINE, part 18: code, as it is walked. -/
namespace Go.Am
open Go Go.RowKit
/-- Code, as it is walked. Ghosts stand where something is said, not done. -/
inductive Gh where
  | keep (ns : List Nat)
  | frz (l : Lb) (d : Nat)
  | frzc (l q : Lb) (j : Nat)
  | own (d sz : Nat)
  | cut (n : Nat)
  | weak
  | sel
inductive AC where
  | skip
  | seq (a b : AC)
  | cond (x : O) (a b : AC)
  | block (id : Nat) (c : AC)
  | loop (c : AC)
  | exit (id : Nat)
  | ret
  | reg (is : List LIns)
  | dreg (is : List LIns) (es : List (List Nat)) (fs : List Fp)
  | gh (g : Gh) (c : AC)
def AC.sz : AC → Nat
  | .seq a b => a.sz + b.sz + 2
  | .cond _ a b => a.sz + b.sz + 2
  | .block _ c => c.sz + 3
  | .loop c => c.sz + 1
  | .gh _ c => c.sz + 1
  | _ => 1
inductive It where
  | code (c : AC)
  | blk (id : Nat)
def It.sz : It → Nat
  | .code c => c.sz
  | .blk _ => 1
def szs : List It → Nat
  | [] => 0
  | i :: r => i.sz + szs r
/-- Where an exit leads. -/
def popTo (id : Nat) : List It → Option (List It)
  | [] => none
  | .blk i :: r => if i = id then some r else popTo id r
  | _ :: r => popTo id r
theorem popTo_lt {id : Nat} : ∀ {l r : List It}, popTo id l = some r → szs r ≤ szs l
  | [], r, h => by simp [popTo] at h
  | .blk i :: l, r, h => by
    simp only [popTo] at h
    split at h
    · cases h; simp [szs]
    · have := popTo_lt h; simp only [szs]; omega
  | .code c :: l, r, h => by
    simp only [popTo] at h
    have := popTo_lt h; simp only [szs]; omega
theorem AC.sz_pos (c : AC) : 0 < c.sz := by cases c <;> simp [AC.sz]
/-- The list of a row's elements that are data. -/
def immE (xs : List IV) : List (List AV) := xs.map fun y => y.cells.map IV.av1
/-- Cells that are data, none of them a struct. -/
def Flat (xs : List IV) : Prop := ∀ y ∈ xs, ∀ z ∈ y.cells, ∀ cs, z ≠ .agg cs
def keepE (ns : List Nat) (env : Env) : Env := fun n => if n ∈ ns then env n else .any
abbrev Post := Exit → Env → Hp → Prop
end Go.Am

/- THE ABSTRACT MACHINE, part 15: code, walked. -/
namespace Go.Am
open Go Go.RowKit
inductive CIt where
  | code (c : Code)
  | blk (id : Nat)
/-- What must hold of what follows. -/
def PH (P : Program) (Qh : Exit → Act → World → Prop) : List CIt → Exit → Act → World → Prop
  | [] => Qh
  | .code c :: k => Exit.then (c.wp P (PH P Qh k)) (PH P Qh k)
  | .blk id :: k => Exit.inBlock id (PH P Qh k)
/-- Without ghosts. -/
def AC.bare : AC → AC
  | .seq a b => .seq a.bare b.bare
  | .cond x a b => .cond x a.bare b.bare
  | .block id c => .block id c.bare
  | .loop c => .loop c.bare
  | .reg is => .reg (is.map LIns.asIs)
  | .dreg is es _ => .dreg (is.map LIns.asIs) es []
  | .gh _ c => c.bare
  | c => c
def compLs (P : Program) (G : Nat → Option (List IV)) (ops : Array Oper) : List Oper → Option (List LIns)
  | [] => some []
  | o :: r => (compL P G ops o).bind fun i => (compLs P G ops r).map fun s => i :: s
def compC (P : Program) (G : Nat → Option (List IV)) : Code → Option AC
  | .skip => some .skip
  | .seq a b => (compC P G a).bind fun x => (compC P G b).map fun y => .seq x y
  | .cond c a b => (co G c).bind fun c => (compC P G a).bind fun x => (compC P G b).map fun y => .cond c x y
  | .block id c => (compC P G c).map fun x => .block id x
  | .loop c => (compC P G c).map fun x => .loop x
  | .exit id => some (.exit id)
  | .ret => some .ret
  | .region _ ops false => (compLs P G ops ops.toList).map .reg
  | .region _ ops true => if P.follows .mixedOrders = true then (compLs P G ops ops.toList).map fun is => .dreg is (edgesOf ops) [] else none
  | _ => none
inductive CIs (P : Program) (G : Nat → Option (List IV)) : CIt → It → Prop
  | code {c : Code} {x : AC} : compC P G c = some x.bare → CIs P G (.code c) (.code x)
  | blk (id : Nat) : CIs P G (.blk id) (.blk id)
def lift (K : Kx) (Q : Post) (e : Exit) (a : Act) (w : World) : Prop := ∃ env H β, Q e env H ∧ RelB K β env H a w
/-- A stack of code, run from a state: it comes to what Q says. -/
def SOK (K : Kx) (Q : Post) (ck : List CIt) (env : Env) (H : Hp) : Prop := ∀ β a w, RelB K β env H a w → PH K.P (lift K Q) ck .normal a w
/-- A loop, ahead of what follows. -/
def LoopG (S : St) (Q : Post) (c : AC) (k : List It) (env : Env) (H : Hp) : Prop :=
  ∀ (K : Kx), (⟨K.P, K.G, K.N⟩ : St) = S → (∀ l, live K.H0 l → l.fresh = false) → ∀ c0 ck, compC S.P S.G c0 = some c.bare → All2 (CIs S.P S.G) ck k → SOK K Q (.code (.loop c0) :: ck) env H
/-- A state may be seen as another. -/
def Weaker (S : St) (env : Env) (H : Hp) (env2 : Env) (H2 : Hp) : Prop :=
  ∀ (K : Kx) (β : Lb → Option Nat) (a : Act) (w : World), (⟨K.P, K.G, K.N⟩ : St) = S → (∀ l, live K.H0 l → l.fresh = false) → RelB K β env H a w → ∃ β', RelB K β' env2 H2 a w
/-- One of several states. -/
def Choice (S : St) (env : Env) (H : Hp) (T : Type) (E : T → Env) (HH : T → Hp) : Prop :=
  ∀ (K : Kx) (β : Lb → Option Nat) (a : Act) (w : World), (⟨K.P, K.G, K.N⟩ : St) = S → (∀ l, live K.H0 l → l.fresh = false) → RelB K β env H a w → ∃ t β', RelB K β' (E t) (HH t) a w
def Cut (n : Nat) (f : Env → Hp → Prop) (env : Env) (H : Hp) : Prop := f env H
def go (S : St) (Q : Post) : List It → Env → Hp → Prop
  | [] => fun env H => Q .normal env H
  | .blk _ :: k => go S Q k
  | .code .skip :: k => go S Q k
  | .code (.seq a b) :: k => go S Q (.code a :: .code b :: k)
  | .code (.cond x a b) :: k => fun env H => ∃ t, ev env x = .bool t ∧ (t = true → go S Q (.code a :: k) env H) ∧ (t = false → go S Q (.code b :: k) env H)
  | .code (.block id c) :: k => go S Q (.code c :: .blk id :: k)
  | .code (.loop c) :: k => LoopG S Q c k
  | .code (.exit id) :: k => match h : popTo id k with
    | some k' => go S Q k'
    | none => fun env H => Q (.exit id) env H
  | .code .ret :: _ => fun env H => Q .ret env H
  | .code (.reg is) :: k => fun env H => AO S is env H (go S Q k)
  | .code (.dreg is es fs) :: k => fun env H => ordOK is es fs = true ∧ AOf S (items 0 is fs) env H (go S Q k)
  | .code (.gh g c) :: k => match g with
    | .keep ns => fun env H => go S Q (.code c :: k) (keepE ns env) H
    | .frz l d => fun env H => ∃ sz xs i n, env d = .sl l sz i n ∧ H l = .live ⟨sz, immE xs⟩ ∧ l.fresh = true ∧ i + n ≤ xs.length ∧ Flat xs ∧
        go S Q (.code c :: k) (put env d (.list ((xs.drop i).take n))) (upd H l .dead)
    | .frzc l q j => fun env H => ∃ sz xs i n cs, H q = .live ⟨cs.length, [cs]⟩ ∧ cs[j]? = some (.sl l sz i n) ∧ H l = .live ⟨sz, immE xs⟩ ∧ l.fresh = true ∧ l ≠ q ∧ i + n ≤ xs.length ∧ Flat xs ∧
        go S Q (.code c :: k) env (upd (upd H l .dead) q (.live ⟨cs.length, [cs.set j (.list ((xs.drop i).take n))]⟩))
    | .own d sz => fun env H => env d = .nil0 ∧ 0 < sz ∧ H (.loc d) = .unused ∧ go S Q (.code c :: k) (put env d (.sl (.loc d) sz 0 0)) (upd H (.loc d) (.live ⟨sz, []⟩))
    | .cut n => Cut n (go S Q (.code c :: k))
    | .weak => fun env H => ∃ env2 H2, Weaker S env H env2 H2 ∧ go S Q (.code c :: k) env2 H2
    | .sel => fun env H => ∃ (T : Type) (E : T → Env) (HH : T → Hp), Choice S env H T E HH ∧ ∀ t, go S Q (.code c :: k) (E t) (HH t)
termination_by k => szs k
decreasing_by
  all_goals simp only [szs, It.sz, AC.sz]
  all_goals first | omega | (have := popTo_lt h; omega)
theorem go_exit_some {S : St} {Q : Post} {id : Nat} {k k' : List It} (h : popTo id k = some k') : go S Q (.code (.exit id) :: k) = go S Q k' := by
  rw [go]
  split
  · rename_i k'' h2
    rw [h] at h2; cases h2; rfl
  · rename_i h2
    rw [h] at h2; cases h2
theorem go_exit_none {S : St} {Q : Post} {id : Nat} {k : List It} (h : popTo id k = none) : go S Q (.code (.exit id) :: k) = Q (.exit id) := by
  rw [go]
  split
  · rename_i k'' h2
    rw [h] at h2; cases h2
  · rfl
section
variable {K : Kx} {β : Lb → Option Nat} {env : Env} {H : Hp} {a : Act} {w : World}
theorem PH_ret (P : Program) (Qh : Exit → Act → World → Prop) : ∀ (ck : List CIt) (a : Act) (w : World), Qh .ret a w → PH P Qh ck .ret a w
  | [], a, w, h => h
  | .code c :: k, a, w, h => by simp only [PH, Exit.then]; exact PH_ret P Qh k a w h
  | .blk id :: k, a, w, h => by simp only [PH, Exit.inBlock]; exact PH_ret P Qh k a w h
theorem pop_sound {P : Program} {G : Nat → Option (List IV)} (Qh : Exit → Act → World → Prop) {id : Nat} : ∀ (ck : List CIt) (k : List It), All2 (CIs P G) ck k →
    match popTo id k with
    | some k' => ∃ ck', All2 (CIs P G) ck' k' ∧ ∀ a w, PH P Qh ck' .normal a w → PH P Qh ck (.exit id) a w
    | none => ∀ a w, Qh (.exit id) a w → PH P Qh ck (.exit id) a w
  | _, _, .nil => by simp only [popTo]; exact fun a w h => h
  | _, _, @All2.cons _ _ _ _ _ ck k h1 h2 => by
    cases h1 with
    | code hc =>
      have ih := pop_sound Qh (id := id) ck k h2
      simp only [popTo]
      split <;> rename_i hp <;> rw [hp] at ih <;> simp only at ih
      · obtain ⟨ck', e1, e2⟩ := ih
        exact ⟨ck', e1, fun a w h => by simp only [PH, Exit.then]; exact e2 a w h⟩
      · exact fun a w h => by simp only [PH, Exit.then]; exact ih a w h
    | blk i =>
      have ih := pop_sound Qh (id := id) ck k h2
      simp only [popTo]
      by_cases e : i = id
      · simp only [e, if_true]
        exact ⟨ck, h2, fun a w h => by simp only [PH, Exit.inBlock, if_true]; exact h⟩
      · simp only [e, if_false]
        split <;> rename_i hp <;> rw [hp] at ih <;> simp only at ih
        · obtain ⟨ck', e1, e2⟩ := ih
          exact ⟨ck', e1, fun a w h => by simp only [PH, Exit.inBlock, Ne.symm e, if_false]; exact e2 a w h⟩
        · exact fun a w h => by simp only [PH, Exit.inBlock, Ne.symm e, if_false]; exact ih a w h
theorem compLs_all2 {P : Program} {G : Nat → Option (List IV)} {ops : Array Oper} : ∀ (l : List Oper) (is : List LIns), compLs P G ops l = some (is.map LIns.asIs) → All2 (fun o i => compL P G ops o = some (LIns.asIs i)) l is
  | [], is, h => by
    simp [compLs] at h
    have : is = [] := by cases is <;> simp_all
    subst this; exact .nil
  | o :: r, is, h => by
    simp only [compLs] at h
    obtain ⟨i, h1, h⟩ := bnone h
    obtain ⟨s, h2, h3⟩ := mnone h
    cases is with
    | nil => simp at h3
    | cons j is =>
      simp only [List.map_cons, List.cons.injEq] at h3
      obtain ⟨rfl, rfl⟩ := h3
      exact .cons h1 (compLs_all2 r is h2)
theorem RelB.keepE (hr : RelB K β env H a w) (ns : List Nat) : RelB K β (Am.keepE ns env) H a w :=
  ⟨hr.defers, hr.size, fun n => by unfold Am.keepE; split; exact hr.regs n; simp [RV], hr.rows, hr.own, hr.inj, fun n l hl => by
    unfold Am.keepE at hl; split at hl
    · exact hr.ment n l hl
    · simp [AV.lbs] at hl, hr.rment, hr.frame, hr.glob, hr.stab, hr.fr⟩
theorem setSlot (hr : RelB K β env H a w) (d : Nat) {x : AV} (hx : RV w β H (Im K β H) x (a.tmps.getD d undef)) (hm : ∀ l ∈ x.lbs, H l ≠ .unused) : RelB K β (put env d x) H a w :=
  ⟨hr.defers, hr.size, fun n => by unfold put; split; · next h => subst h; exact hx
                                   · exact hr.regs n, hr.rows, hr.own, hr.inj, fun n l hl => by
    unfold put at hl; split at hl
    · exact hm l hl
    · exact hr.ment n l hl, hr.rment, hr.frame, hr.glob, hr.stab, hr.fr⟩
/-- A slice over a row that dies is data from then on. -/
theorem frz_rv (hr : RelB K β env H a w) {l : Lb} {sz : Nat} {xs : List IV} {i n : Nat} {v : Value} (hl : H l = .live ⟨sz, immE xs⟩) (hf : l.fresh = true) (hin : i + n ≤ xs.length) (hfl : Flat xs)
    (hv : RV w β H (Im K β H) (.sl l sz i n) v) : RV w β (upd H l .dead) (Im K β (upd H l .dead)) (.list ((xs.drop i).take n)) v := by
  have hlive : ∀ q, live (upd H l .dead) q → live H q ∧ q ≠ l := by
    rintro q ⟨r, h⟩
    by_cases e : q = l
    · subst e; simp at h
    · rw [upd_ne _ _ e] at h; exact ⟨⟨r, h⟩, e⟩
  have hk : Keeps w w (Im K β H) (Im K β (upd H l .dead)) := ⟨fun k hk hs => ⟨⟨hk.1, fun q hq => hk.2 q (hlive q hq).1⟩, hs, rfl⟩⟩
  simp only [RV] at hv
  obtain ⟨ad, c, rfl, h2, h3, h4, h5⟩ := hv
  simp only [RV, IVR]
  have hlen : ((xs.drop i).take n).length = n := by simp; omega
  rw [hlen]
  refine ⟨ad, c, rfl, h2, h3, ?_⟩
  by_cases hn : n = 0
  · exact .inl hn
  · right
    rcases h5 ⟨_, hl⟩ with h6 | ⟨g, S, e1, e2, e3, e4⟩
    · omega
    · obtain ⟨cur, e0, cap, k1, k2, k3, k4, k5⟩ := (hr.rows l _ hl).block e1
      have hsz : 0 < sz := (hr.rows l _ hl).1
      have him : Im K β (upd H l .dead) g := ⟨.inr (hr.fr l g ⟨_, hl⟩ hf e1), fun q hq hb => (hlive q hq).2 (hr.inj q l g (hlive q hq).1 ⟨_, hl⟩ hb e1)⟩
      refine ⟨g, i * sz, sz, e2, him, (Array.getElem?_eq_some_iff.1 k1).1, hsz, ElemsR_of _ _ _ (fun k y hy => ?_)⟩
      have hy' : xs[i + k]? = some y := by
        rw [List.getElem?_take] at hy
        split at hy
        · rwa [List.getElem?_drop] at hy
        · simp at hy
      rw [ElemR_iff]
      have hcl : y.cells.length = sz := by
        have := (hr.rows l _ hl).2.1 (y.cells.map IV.av1) (by
          simp only [immE]
          exact List.mem_map_of_mem (f := fun y : IV => y.cells.map IV.av1) (List.mem_of_getElem? hy'))
        simpa using this
      refine ⟨hcl.symm, CellsR_of _ _ _ (fun j z hz => ?_)⟩
      obtain ⟨u, q1, q2⟩ := k5 (i + k) j (y.cells.map IV.av1) z.av1 (by simp [immE, hy']) (by simp [hz])
      refine ⟨u, ?_, RV_av1 hk (hfl y (List.mem_of_getElem? hy') z (List.mem_of_getElem? hz)) q2⟩
      rw [cell_of_row w g _ cur e0 (0, 0) k1, ← q1]
      congr 1
      rw [Nat.add_mul]
theorem compC_inv {P : Program} {G : Nat → Option (List IV)} {c0 : Code} {x : AC} (h : compC P G c0 = some x) :
    match x with
    | .skip => c0 = .skip
    | .seq x y => ∃ a b, c0 = .seq a b ∧ compC P G a = some x ∧ compC P G b = some y
    | .cond o x y => ∃ c a b, c0 = .cond c a b ∧ co G c = some o ∧ compC P G a = some x ∧ compC P G b = some y
    | .block id x => ∃ a, c0 = .block id a ∧ compC P G a = some x
    | .loop x => ∃ a, c0 = .loop a ∧ compC P G a = some x
    | .exit id => c0 = .exit id
    | .ret => c0 = .ret
    | .reg is => ∃ id ops, c0 = .region id ops false ∧ compLs P G ops ops.toList = some is
    | .dreg is es fs => ∃ id ops, c0 = .region id ops true ∧ P.follows .mixedOrders = true ∧ es = edgesOf ops ∧ compLs P G ops ops.toList = some is
    | .gh _ _ => False := by
  cases c0 with
  | skip => simp only [compC, Option.some.injEq] at h; subst h; rfl
  | seq a b =>
    simp only [compC] at h
    obtain ⟨x1, h1, h⟩ := bnone h
    obtain ⟨y1, h2, rfl⟩ := mnone h
    exact ⟨a, b, rfl, h1, h2⟩
  | cond c a b =>
    simp only [compC] at h
    obtain ⟨c1, h0, h⟩ := bnone h
    obtain ⟨x1, h1, h⟩ := bnone h
    obtain ⟨y1, h2, rfl⟩ := mnone h
    exact ⟨c, a, b, rfl, h0, h1, h2⟩
  | block id a =>
    simp only [compC] at h
    obtain ⟨y1, h2, rfl⟩ := mnone h
    exact ⟨a, rfl, h2⟩
  | loop a =>
    simp only [compC] at h
    obtain ⟨y1, h2, rfl⟩ := mnone h
    exact ⟨a, rfl, h2⟩
  | exit id => simp only [compC, Option.some.injEq] at h; subst h; rfl
  | ret => simp only [compC, Option.some.injEq] at h; subst h; rfl
  | region id ops draw =>
    cases draw with
    | true =>
      simp only [compC] at h
      split at h
      · rename_i hm
        obtain ⟨is, h2, rfl⟩ := mnone h
        exact ⟨id, ops, rfl, hm, rfl, h2⟩
      · simp at h
    | false =>
      simp only [compC] at h
      obtain ⟨is, h2, rfl⟩ := mnone h
      exact ⟨id, ops, rfl, h2⟩
  | rangeFunc _ _ _ _ => simp [compC] at h
  | scope _ => simp [compC] at h
  | label _ => simp [compC] at h
  | goto _ => simp [compC] at h
  | refuse _ => simp [compC] at h
theorem go_sound (hS : ∀ l, live K.H0 l → l.fresh = false) (Q : Post) : ∀ (n : Nat) (k : List It) (ck : List CIt), szs k ≤ n → All2 (CIs K.P K.G) ck k →
    ∀ env H, go ⟨K.P, K.G, K.N⟩ Q k env H → SOK K Q ck env H := by
  intro n
  induction n with
  | zero =>
    intro k ck hn hc env H hg β a w hr
    cases hc with
    | nil =>
      rw [go] at hg
      exact ⟨env, H, β, hg, hr⟩
    | @cons x i ck k h1 h2 =>
      cases i with
      | code c => have := c.sz_pos; simp only [szs, It.sz] at hn; omega
      | blk id => simp only [szs, It.sz] at hn; omega
  | succ n ih =>
    intro k ck hn hc env H hg β a w hr
    cases hc with
    | nil =>
      rw [go] at hg
      exact ⟨env, H, β, hg, hr⟩
    | @cons x i ck k h1 h2 =>
      cases h1 with
      | blk id =>
        rw [go] at hg
        simp only [PH, Exit.inBlock]
        exact ih k ck (by simp only [szs, It.sz] at hn; omega) h2 env H hg β a w hr
      | @code c0 c hcomp =>
        simp only [PH, Exit.then]
        have hpos := c.sz_pos
        cases c with
        | skip =>
          rw [go] at hg
          simp only [AC.bare] at hcomp
          have e := compC_inv hcomp
          simp only at e
          subst e
          exact wp_skip (ih k ck (by simp only [szs, It.sz, AC.sz] at hn; omega) h2 env H hg β a w hr)
        | seq x y =>
          rw [go] at hg
          obtain ⟨x0, y0, rfl, e1, e2⟩ := compC_inv hcomp
          refine wp_seq ?_
          have := ih (.code x :: .code y :: k) (.code x0 :: .code y0 :: ck) (by simp only [szs, It.sz, AC.sz] at hn ⊢; omega) (.cons (.code e1) (.cons (.code e2) h2)) env H hg β a w hr
          simpa only [PH, Exit.then] using this
        | cond x y z =>
          rw [go] at hg
          obtain ⟨o0, y0, z0, rfl, e0, e1, e2⟩ := compC_inv hcomp
          obtain ⟨t, ht, g1, g2⟩ := hg
          have hv := hr.ev e0
          rw [ht] at hv
          simp only [RV] at hv
          refine wp_cond_split hv ?_ ?_ <;> intro h
          · have := ih (.code y :: k) (.code y0 :: ck) (by simp only [szs, It.sz, AC.sz] at hn ⊢; omega) (.cons (.code e1) h2) env H (g1 h) β a w hr
            simpa only [PH, Exit.then] using this
          · have := ih (.code z :: k) (.code z0 :: ck) (by simp only [szs, It.sz, AC.sz] at hn ⊢; omega) (.cons (.code e2) h2) env H (g2 h) β a w hr
            simpa only [PH, Exit.then] using this
        | block id c =>
          rw [go] at hg
          obtain ⟨c1, rfl, e1⟩ := compC_inv hcomp
          refine wp_block ?_
          have := ih (.code c :: .blk id :: k) (.code c1 :: .blk id :: ck) (by simp only [szs, It.sz, AC.sz] at hn ⊢; omega) (.cons (.code e1) (.cons (.blk id) h2)) env H hg β a w hr
          simpa only [PH, Exit.then] using this
        | loop c =>
          rw [go] at hg
          obtain ⟨c1, rfl, e1⟩ := compC_inv hcomp
          have := hg K rfl hS c1 ck e1 h2 β a w hr
          simpa only [PH, Exit.then] using this
        | exit id =>
          simp only [AC.bare] at hcomp
          have e := compC_inv hcomp
          simp only at e
          subst e
          have hp := pop_sound (P := K.P) (G := K.G) (lift K Q) (id := id) ck k h2
          refine wp_exit ?_
          cases hk' : popTo id k with
          | some k' =>
            rw [go_exit_some hk'] at hg
            rw [hk'] at hp
            obtain ⟨ck', e1, e2⟩ := hp
            have := popTo_lt hk'
            exact e2 a w (ih k' ck' (by simp only [szs, It.sz, AC.sz] at hn; omega) e1 env H hg β a w hr)
          | none =>
            rw [go_exit_none hk'] at hg
            rw [hk'] at hp
            exact hp a w ⟨env, H, β, hg, hr⟩
        | ret =>
          simp only [AC.bare] at hcomp
          have e := compC_inv hcomp
          simp only at e
          subst e
          rw [go] at hg
          exact wp_ret (PH_ret _ _ _ _ _ ⟨env, H, β, hg, hr⟩)
        | reg is =>
          obtain ⟨id, ops, rfl, e1⟩ := compC_inv hcomp
          rw [go] at hg
          refine wp_region_list ?_
          refine ao_sound (fun env' H' β' a' w' q1 q2 => ?_) ops.toList is env H a w β (compLs_all2 _ _ e1) hg hr
          exact ih k ck (by simp only [szs, It.sz, AC.sz] at hn; omega) h2 env' H' q1 β' a' w' q2
        | dreg is es fs =>
          obtain ⟨id, ops, rfl, hm, rfl, e1⟩ := compC_inv hcomp
          rw [go] at hg
          refine drawn_sound hr hm (compLs_all2 _ _ e1) hg.1 (fun env' H' β' a' w' q1 q2 => ?_) hg.2
          exact ih k ck (by simp only [szs, It.sz, AC.sz] at hn; omega) h2 env' H' q1 β' a' w' q2
        | gh g c =>
          have hcomp' : compC K.P K.G c0 = some c.bare := hcomp
          have hrest : ∀ env' H', go ⟨K.P, K.G, K.N⟩ Q (.code c :: k) env' H' → ∀ β', RelB K β' env' H' a w → c0.wp K.P (PH K.P (lift K Q) ck) a w := by
            intro env' H' h β' hr'
            have := ih (.code c :: k) (.code c0 :: ck) (by simp only [szs, It.sz, AC.sz] at hn ⊢; omega) (.cons (.code hcomp') h2) env' H' h β' a w hr'
            simpa only [PH, Exit.then] using this
          cases g with
          | keep ns => rw [go] at hg; exact hrest _ _ hg β (hr.keepE ns)
          | cut m => rw [go] at hg; exact hrest _ _ hg β hr
          | weak =>
            rw [go] at hg
            obtain ⟨env2, H2, g1, g2⟩ := hg
            obtain ⟨β', hr'⟩ := g1 K β a w rfl hS hr
            exact hrest _ _ g2 β' hr'
          | sel =>
            rw [go] at hg
            obtain ⟨T, E, HH, g1, g2⟩ := hg
            obtain ⟨t, β', hr'⟩ := g1 K β a w rfl hS hr
            exact hrest _ _ (g2 t) β' hr'
          | own d sz =>
            rw [go] at hg
            obtain ⟨g1, g2, g3, g4⟩ := hg
            have h3 := hr.addRow (.loc d) g3 (r := ⟨sz, []⟩) (Below.refl _ _) none (by simp) (by simp) ⟨g2, by simp, by simp⟩
            have hv := h3.regs d
            rw [g1] at hv
            simp only [RV] at hv
            obtain ⟨ad, hv⟩ := hv
            exact hrest _ _ g4 _ (setSlot h3 d (by rw [hv]; simp only [RV]; exact ⟨ad, 0, rfl, Nat.le_refl _, by simp [maxLen], by simp, fun _ => .inl rfl⟩) (by simp [AV.lbs]))
          | frz l d =>
            rw [go] at hg
            obtain ⟨sz, xs, i, n, g1, g2, g3, g4, g5, g6⟩ := hg
            have hv := hr.regs d
            rw [g1] at hv
            exact hrest _ _ g6 _ (setSlot (hr.kill l (by rw [g2]; simp)) d (frz_rv hr g2 g3 g4 g5 hv) (by simp [AV.lbs]))
          | frzc l q j =>
            rw [go] at hg
            obtain ⟨sz, xs, i, n, cs, g1, g2, g3, g4, g5, g6, g7, g8⟩ := hg
            have hk := hr.kill l (by rw [g3]; simp)
            have hq : upd H l .dead q = .live ⟨cs.length, [cs]⟩ := by rw [upd_ne _ _ (Ne.symm g5)]; exact g1
            have hsz : 0 < cs.length := (hr.rows q _ g1).1
            cases hb : β q with
            | none =>
              have := (hr.rows q _ g1).2.2
              simp [hb] at this
            | some g =>
              obtain ⟨cur, e0, cap, k1, k2, k3, k4, k5⟩ := (hr.rows q _ g1).block hb
              obtain ⟨cur', e0', cap', k1', k2', k3', k4', k5'⟩ := (hk.rows q _ hq).block hb
              rw [k1] at k1'
              cases k1'
              have hjl : j < cs.length := (List.getElem?_eq_some_iff.1 g2).1
              have hset := hk.setRow q (r' := ⟨cs.length, [cs.set j (.list ((xs.drop i).take n))]⟩) (cur' := cur) (cap := cap) hq hb k1 rfl rfl k2 k3 (by simpa using k4) (by simp)
                (by
                  intro ds hds p hp
                  simp at hds; subst hds
                  have : p ∈ lbss cs := by
                    obtain ⟨y, hy, hpy⟩ : ∃ y ∈ cs.set j (.list ((xs.drop i).take n)), p ∈ y.lbs := by
                      generalize cs.set j (.list ((xs.drop i).take n)) = ds at hp
                      induction ds with
                      | nil => simp [lbss] at hp
                      | cons y r ih2 =>
                        simp only [lbss, List.mem_append] at hp
                        rcases hp with hp | hp
                        · exact ⟨y, by simp, hp⟩
                        · obtain ⟨z, hz, hpz⟩ := ih2 hp
                          exact ⟨z, by simp [hz], hpz⟩
                    rcases List.mem_or_eq_of_mem_set hy with hy | rfl
                    · obtain ⟨m, hm⟩ := List.getElem?_of_mem hy
                      exact lbss_get _ _ _ hm p hpy
                    · simp [AV.lbs] at hpy
                  have := hk.rment q _ hq cs (by simp) p this
                  exact this)
                (by
                  intro i' j' ds x0 hi' hj'
                  cases i' with
                  | succ i' => simp at hi'
                  | zero =>
                    simp at hi'; subst hi'
                    by_cases e : j' = j
                    · subst e
                      rw [List.getElem?_set_self hjl] at hj'
                      cases hj'
                      obtain ⟨v, q1, q2⟩ := k5 0 j' cs _ (by simp) g2
                      exact ⟨v, q1, frz_rv hr g3 g4 g6 g7 q2⟩
                    · rw [List.getElem?_set_ne (Ne.symm e)] at hj'
                      exact k5' 0 j' cs x0 (by simp) hj')
              have hsame : w.setRow g cur = w := setRow_self w g cur e0 (0, 0) k1
              rw [hsame] at hset
              exact hrest _ _ g8 _ hset
end
end Go.Am
