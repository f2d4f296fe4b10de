/- THE ABSTRACT MACHINE, part 17: regions whose order is drawn. -/
import Derived.Test.YtfinkeaikbmpgaaAm14
set_option linter.defProp false
set_option linter.unnecessarySimpa false
set_option linter.unusedVariables false
set_option linter.unusedSimpArgs false
namespace Go.Am
open Go Go.RowKit

/-- The operands of an instruction. -/
def Ins.os : Ins → List O
  | .mov x | .fld x _ | .len x | .lens x | .not x | .neg x | .ext x _ | .getf x _ _ | .boxi x | .nchk x | .cvi _ x | .cvs x | .cvb x | .cvt x | .mkif _ x | .load _ x | .box x => [x]
  | .pick c a b => [c, a, b]
  | .ixa x i _ | .ixs x i => [x, i]
  | .slc x lo hi mx _ => x :: (lo.toList ++ hi.toList ++ mx.toList)
  | .slcs x lo hi => x :: (lo.toList ++ hi.toList)
  | .bin _ x y | .eqb _ x y | .eqp _ x y | .eqi _ x y | .eqst _ _ x y | .max x y | .min x y | .store _ x y | .app x y _ _ | .cpy x y _ => [x, y]
  | .bld _ ps => ps.map (·.2.2)
  | .lits _ _ _ ps => ps.map (·.2)
  | .mkf _ cap => cap
  | .new _ => []
  | .mks n c _ _ _ => [n, c]
  | .call _ args => args
  | .callv x args => x :: args

def O.us : O → List Nat
  | .t n => [n]
  | .c _ => []

/-- The slots that an operation looks at. -/
def LIns.us (i : LIns) : List Nat := i.i.os.flatMap O.us ++ (match i.g with | some (s, _) => [s] | none => [])

theorem ev_put {env : Env} {d : Option Nat} {y : AV} {x : O} (h : ∀ n, d = some n → n ∉ x.us) : ev (putO env d y) x = ev env x := by
  cases x with
  | c x => rfl
  | t n =>
    cases d with
    | none => rfl
    | some m =>
      have := h m rfl
      simp [O.us] at this
      simp [ev, putO, put, Ne.symm this]

section
variable {env env' : Env}

theorem bnd_cong {o : Option O} (h : ∀ x ∈ o.toList, ev env x = ev env' x) (m n : Nat) : bnd env o m n = bnd env' o m n := by
  cases o with
  | none => rfl
  | some x => simp only [bnd]; rw [h x (by simp)]

theorem cutB_cong {lo hi mx : Option O} (h : ∀ x ∈ lo.toList ++ hi.toList ++ mx.toList, ev env x = ev env' x) (n : Nat) : cutB env lo hi mx n = cutB env' lo hi mx n := by
  have h1 := fun m n => bnd_cong (o := lo) (fun x hx => h x (by simp at hx ⊢; simp [hx])) m n
  have h2 := fun m n => bnd_cong (o := hi) (fun x hx => h x (by simp at hx ⊢; simp [hx])) m n
  have h3 := fun m n => bnd_cong (o := mx) (fun x hx => h x (by simp at hx ⊢; simp [hx])) m n
  cases mx with
  | none => simp only [cutB, h1, h2]
  | some m => simp only [cutB, h1, h2, h3]

theorem stillV_cong {i : Ins} (h : ∀ x ∈ i.os, ev env x = ev env' x) : stillV i env = stillV i env' := by
  cases i with
  | slc x lo hi mx sz =>
    simp only [stillV]
    rw [h x (by simp [Ins.os])]
    have := cutB_cong (env := env) (env' := env') (lo := lo) (hi := hi) (mx := mx) (fun y hy => h y (by simp only [Ins.os, List.mem_cons]; exact .inr hy))
    unfold slcV
    simp only [this]
  | slcs x lo hi =>
    simp only [stillV]
    rw [h x (by simp [Ins.os])]
    have h1 := fun m n => bnd_cong (env := env) (env' := env') (o := lo) (fun y hy => h y (by simp only [Ins.os, List.mem_cons, List.mem_append]; exact .inr (.inl hy))) m n
    have h2 := fun m n => bnd_cong (env := env) (env' := env') (o := hi) (fun y hy => h y (by simp only [Ins.os, List.mem_cons, List.mem_append]; exact .inr (.inr hy))) m n
    simp only [h1, h2]
  | bld z ps =>
    simp only [stillV]
    have : (ps.map fun p => (p.1, p.2.1, ev env p.2.2)) = ps.map fun p => (p.1, p.2.1, ev env' p.2.2) :=
      List.map_congr_left fun p hp => by rw [h p.2.2 (by simp only [Ins.os]; exact List.mem_map_of_mem (f := fun p : Nat × Nat × O => p.2.2) hp)]
    rw [this]
  | lits n sz z ps =>
    simp only [stillV]
    have : (ps.map fun p => (p.1 * sz, sz, ev env p.2)) = ps.map fun p => (p.1 * sz, sz, ev env' p.2) :=
      List.map_congr_left fun p hp => by rw [h p.2 (by simp only [Ins.os]; exact List.mem_map_of_mem (f := fun p : Nat × O => p.2) hp)]
    rw [this]
  | mkf f cap =>
    simp only [stillV]
    have : cap.map (ev env) = cap.map (ev env') := List.map_congr_left fun p hp => h p (by simpa [Ins.os] using hp)
    rw [this]
  | call f args => rfl
  | callv x args => rfl
  | new cs => rfl
  | pick c a b => simp only [stillV, h c (by simp [Ins.os]), h a (by simp [Ins.os]), h b (by simp [Ins.os])]
  | mks n c sz b z => rfl
  | store m a x => rfl
  | app s x sz b => rfl
  | cpy s x sz => rfl
  | box x => rfl
  | cvt x => rfl
  | ixa x i sz => simp only [stillV, h x (by simp [Ins.os]), h i (by simp [Ins.os])]
  | ixs x i => simp only [stillV, h x (by simp [Ins.os]), h i (by simp [Ins.os])]
  | bin op x y => simp only [stillV, h x (by simp [Ins.os]), h y (by simp [Ins.os])]
  | eqb n x y => simp only [stillV, h x (by simp [Ins.os]), h y (by simp [Ins.os])]
  | eqp n x y => simp only [stillV, h x (by simp [Ins.os]), h y (by simp [Ins.os])]
  | eqi n x y => simp only [stillV, h x (by simp [Ins.os]), h y (by simp [Ins.os])]
  | eqst n ks x y => simp only [stillV, h x (by simp [Ins.os]), h y (by simp [Ins.os])]
  | max x y => simp only [stillV, h x (by simp [Ins.os]), h y (by simp [Ins.os])]
  | min x y => simp only [stillV, h x (by simp [Ins.os]), h y (by simp [Ins.os])]
  | mov x => simp only [stillV, h x (by simp [Ins.os])]
  | fld x o => simp only [stillV, h x (by simp [Ins.os])]
  | len x => simp only [stillV, h x (by simp [Ins.os])]
  | lens x => simp only [stillV, h x (by simp [Ins.os])]
  | not x => simp only [stillV, h x (by simp [Ins.os])]
  | neg x => simp only [stillV, h x (by simp [Ins.os])]
  | ext x i => simp only [stillV, h x (by simp [Ins.os])]
  | getf x o m => simp only [stillV, h x (by simp [Ins.os])]
  | boxi x => simp only [stillV, h x (by simp [Ins.os])]
  | nchk x => simp only [stillV, h x (by simp [Ins.os])]
  | cvi k x => simp only [stillV, h x (by simp [Ins.os])]
  | cvs x => simp only [stillV, h x (by simp [Ins.os])]
  | cvb x => simp only [stillV, h x (by simp [Ins.os])]
  | mkif t x => simp only [stillV, h x (by simp [Ins.os])]
  | load m x => simp only [stillV, h x (by simp [Ins.os])]

theorem Act1_cong {S : St} {d : Option Nat} {i : Ins} (h : ∀ x ∈ i.os, ev env x = ev env' x) {H : Hp} {k : AV → Hp → Prop} (ha : Act1 S d i env H k) : Act1 S d i env' H k := by
  have hs := stillV_cong h
  cases i with
  | load m x =>
    simp only [Act1] at ha ⊢
    rw [← hs, ← h x (by simp [Ins.os])]; exact ha
  | box x =>
    simp only [Act1] at ha ⊢
    rw [← h x (by simp [Ins.os])]; exact ha
  | new cs => exact ha
  | store m x y =>
    simp only [Act1] at ha ⊢
    rw [← h x (by simp [Ins.os]), ← h y (by simp [Ins.os])]; exact ha
  | app x y sz b =>
    simp only [Act1] at ha ⊢
    rw [← h x (by simp [Ins.os]), ← h y (by simp [Ins.os])]; exact ha
  | call f args =>
    simp only [Act1] at ha ⊢
    have : args.map (ev env) = args.map (ev env') := List.map_congr_left fun p hp => h p (by simpa [Ins.os] using hp)
    rw [← this]; exact ha
  | callv x args =>
    simp only [Act1] at ha ⊢
    have : args.map (ev env) = args.map (ev env') := List.map_congr_left fun p hp => h p (by simp only [Ins.os, List.mem_cons]; exact .inr hp)
    rw [← this, ← h x (by simp [Ins.os])]; exact ha
  | _ => simp only [Act1] at ha ⊢; rw [← hs]; exact ha
end

/-- What an operation may touch. -/
inductive Fp where
  | no
  | rw (rs ws : List Lb)
  | all

def ptrL : AV → List Lb
  | .ptr l _ _ _ => [l]
  | .sl l _ _ _ => [l]
  | _ => []

open Classical in
/-- The operations that read and write owned rows. -/
noncomputable def memV (d : Option Nat) (i : Ins) (env : Env) (H : Hp) : Option (AV × Hp) :=
  match i with
  | .load m a => (loadV m (ev env a) H).map fun x => (x, H)
  | .box x => d.bind fun n => if H (.loc n) = .unused ∧ (ev env x).stb = true ∧ 0 < (ev env x).cells.length ∧ (ev env x).cells.length ≤ maxLen then
      some (.ptr (.loc n) (ev env x).cells.length 0 0, upd H (.loc n) (.live ⟨(ev env x).cells.length, [(ev env x).cells]⟩)) else none
  | .new cs => d.bind fun n => if H (.loc n) = .unused ∧ 0 < cs.length ∧ cs.length ≤ maxLen then
      some (.ptr (.loc n) cs.length 0 0, upd H (.loc n) (.live ⟨cs.length, [cs]⟩)) else none
  | .store m a x => if d = none then (storeV m (ev env a) (ev env x) H).map fun H' => (.un, H') else none
  | .app s x sz bytes => d.bind fun n => appV sz bytes n (ev env s) (ev env x) H
  | _ => none

def readsL (i : Ins) (env : Env) : List Lb :=
  match i with
  | .load _ a => ptrL (ev env a)
  | .app _ x _ _ => ptrL (ev env x)
  | _ => []

def writesL (d : Option Nat) (i : Ins) (env : Env) : List Lb :=
  match i with
  | .box _ | .new _ => d.toList.map .loc
  | .store _ a _ => ptrL (ev env a)
  | .app s _ _ _ => match ev env s with
    | .sl l _ _ _ => l :: d.toList.map l.app
    | _ => d.toList.map .loc
  | _ => []

theorem loadV_loc {m : Option Nat} {x : AV} {H H1 : Hp} {y : AV} (h : loadV m x H = some y) (ha : ∀ l ∈ ptrL x, H1 l = H l) : loadV m x H1 = some y := by
  cases x with
  | ptr l sz i j => simp only [loadV, ha l (by simp [ptrL])] at h ⊢; exact h
  | _ => simp [loadV] at h

theorem srcE_loc {sz : Nat} {x : AV} {H H1 : Hp} (ha : ∀ l ∈ ptrL x, H1 l = H l) : srcE sz x H1 = srcE sz x H := by
  cases x with
  | sl l s i n => simp only [srcE, ha l (by simp [ptrL])]
  | _ => rfl

theorem upd_agree {H H1 : Hp} (l : Lb) (s : Slot) : upd H1 l s l = upd H l s l := by simp

theorem memV_loc {d : Option Nat} {i : Ins} {env : Env} {H H' H1 : Hp} {x : AV} (h : memV d i env H = some (x, H')) (ha : ∀ l, l ∈ readsL i env ∨ l ∈ writesL d i env → H1 l = H l) :
    ∃ H1', memV d i env H1 = some (x, H1') ∧ (∀ l ∈ writesL d i env, H1' l = H' l) ∧ ∀ l, l ∉ writesL d i env → H1' l = H1 l := by
  cases i with
  | load m a =>
    simp only [memV, Option.map_eq_some_iff, Prod.mk.injEq] at h ⊢
    obtain ⟨y, h1, rfl, rfl⟩ := h
    exact ⟨H1, ⟨y, loadV_loc h1 (fun l hl => ha l (.inl hl)), rfl, rfl⟩, by simp [writesL], fun _ _ => rfl⟩
  | box y =>
    simp only [memV] at h ⊢
    obtain ⟨n, rfl, h0⟩ := bnone h
    replace h := h0
    clear h0
    split at h
    · rename_i hc
      simp only [Option.some.injEq, Prod.mk.injEq] at h
      obtain ⟨rfl, rfl⟩ := h
      have e := ha (.loc n) (.inr (by simp [writesL]))
      refine ⟨_, by simp only [Option.bind_some]; rw [if_pos (by rw [e]; exact hc)], fun l hl => ?_, fun l hl => ?_⟩
      · simp [writesL] at hl; subst hl; simp
      · simp [writesL] at hl; rw [upd_ne _ _ hl]
    · simp at h
  | new cs =>
    simp only [memV] at h ⊢
    obtain ⟨n, rfl, h0⟩ := bnone h
    replace h := h0
    clear h0
    split at h
    · rename_i hc
      simp only [Option.some.injEq, Prod.mk.injEq] at h
      obtain ⟨rfl, rfl⟩ := h
      have e := ha (.loc n) (.inr (by simp [writesL]))
      refine ⟨_, by simp only [Option.bind_some]; rw [if_pos (by rw [e]; exact hc)], fun l hl => ?_, fun l hl => ?_⟩
      · simp [writesL] at hl; subst hl; simp
      · simp [writesL] at hl; rw [upd_ne _ _ hl]
    · simp at h
  | store m a y =>
    simp only [memV] at h ⊢
    split at h
    · rename_i hd
      rw [if_pos hd]
      simp only [Option.map_eq_some_iff, Prod.mk.injEq] at h ⊢
      obtain ⟨H2, h1, rfl, rfl⟩ := h
      unfold storeV at h1 ⊢
      split at h1
      · rename_i l sz i j e
        have e2 := ha l (.inr (by simp [writesL, e, ptrL]))
        simp only [e, e2]
        split at h1
        · rename_i r hr
          try simp only [hr]
          split at h1
          · rename_i hc
            rw [if_pos hc]
            obtain ⟨cs, hi, h1⟩ := Option.bind_eq_some_iff.1 h1
            split at h1
            · rename_i hj
              simp only [Option.some.injEq] at h1; subst h1
              refine ⟨_, ⟨_, by rw [hi, Option.bind_some, if_pos hj], trivial, rfl⟩, fun q hq => ?_, fun q hq => ?_⟩
              · simp [writesL, e, ptrL] at hq; subst hq; simp
              · simp [writesL, e, ptrL] at hq; rw [upd_ne _ _ hq]
            · simp at h1
          · simp at h1
        · simp at h1
      · simp at h1
    · simp at h
  | app s y sz bytes =>
    simp only [memV] at h ⊢
    obtain ⟨n, rfl, h0⟩ := bnone h
    replace h := h0
    clear h0
    simp only [Option.bind_some]
    unfold appV at h ⊢
    obtain ⟨news, h1, h0⟩ := bnone h
    replace h := h0
    clear h0
    rw [srcE_loc (fun l hl => ha l (.inl hl))]
    simp only [h1, Option.bind_some]
    split at h
    · simp at h
    · rename_i hone
      rw [if_neg hone]
      split at h
      · rename_i e
        try simp only [e]
        split at h
        · rename_i hc
          simp only [Option.some.injEq, Prod.mk.injEq] at h
          obtain ⟨rfl, rfl⟩ := h
          have e2 := ha (.loc n) (.inr (by simp [writesL, e]))
          refine ⟨_, by rw [if_pos (by rw [e2]; exact hc)], fun l hl => ?_, fun l hl => ?_⟩
          · simp [writesL, e] at hl; subst hl; simp
          · simp [writesL, e] at hl; rw [upd_ne _ _ hl]
        · simp at h
      · rename_i l s' i0 m e
        have e1 := ha l (.inr (by simp [writesL, e]))
        have e2 := ha (l.app n) (.inr (by simp [writesL, e]))
        simp only [e1]
        split at h
        · rename_i r hr
          try simp only [hr]
          split at h
          · rename_i hc
            simp only [Option.some.injEq, Prod.mk.injEq] at h
            obtain ⟨rfl, rfl⟩ := h
            refine ⟨_, by rw [if_pos (by rw [e2]; exact hc)], fun q hq => ?_, fun q hq => ?_⟩
            · simp [writesL, e] at hq
              unfold upd
              by_cases q1 : q = l.app n
              · simp [q1]
              · rcases hq with hq | hq
                · simp [hq]
                · exact absurd hq q1
            · simp [writesL, e] at hq
              rw [upd_ne _ _ hq.2, upd_ne _ _ hq.1]
          · simp at h
        · simp at h
      · simp at h
  | _ => simp [memV] at h

theorem memV_frame {d : Option Nat} {i : Ins} {env : Env} {H H' : Hp} {x : AV} (h : memV d i env H = some (x, H')) : ∀ l, l ∉ writesL d i env → H' l = H l := by
  obtain ⟨H1', h1, _, h3⟩ := memV_loc h (H1 := H) (fun _ _ => rfl)
  rw [h] at h1
  simp only [Option.some.injEq, Prod.mk.injEq] at h1
  obtain ⟨_, rfl⟩ := h1
  exact h3

theorem memV_cong {d : Option Nat} {i : Ins} {env env' : Env} (h : ∀ x ∈ i.os, ev env x = ev env' x) (H : Hp) : memV d i env H = memV d i env' H ∧ readsL i env = readsL i env' ∧ writesL d i env = writesL d i env' := by
  cases i with
  | load m x => simp only [memV, readsL, writesL]; rw [h x (by simp [Ins.os])]; simp
  | box x => simp only [memV, readsL, writesL]; rw [h x (by simp [Ins.os])]; simp
  | store m x y => simp only [memV, readsL, writesL]; rw [h x (by simp [Ins.os]), h y (by simp [Ins.os])]; simp
  | app x y sz b => simp only [memV, readsL, writesL]; rw [h x (by simp [Ins.os]), h y (by simp [Ins.os])]; simp
  | _ => simp [memV, readsL, writesL]

end Go.Am
