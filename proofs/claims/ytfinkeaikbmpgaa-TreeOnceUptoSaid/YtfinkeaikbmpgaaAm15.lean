/- THE ABSTRACT MACHINE, part 15: code, walked. -/
import Derived.Test.YtfinkeaikbmpgaaAm18
set_option linter.defProp false
set_option linter.unnecessarySimpa false
set_option linter.unusedVariables false
set_option linter.unusedSimpArgs false
namespace Go.Am
open Go Go.RowKit

inductive CIt where
  | code (c : Code)
  | blk (id : Nat)

/-- What must hold of what follows. -/
def PH (P : Program) (Qh : Exit → Act → World → Prop) : List CIt → Exit → Act → World → Prop
  | [] => Qh
  | .code c :: k => Exit.then (c.wp P (PH P Qh k)) (PH P Qh k)
  | .blk id :: k => Exit.inBlock id (PH P Qh k)

/-- Without ghosts. -/
def AC.bare : AC → AC
  | .seq a b => .seq a.bare b.bare
  | .cond x a b => .cond x a.bare b.bare
  | .block id c => .block id c.bare
  | .loop c => .loop c.bare
  | .reg is => .reg (is.map LIns.asIs)
  | .dreg is es _ => .dreg (is.map LIns.asIs) es []
  | .gh _ c => c.bare
  | c => c

def compLs (P : Program) (G : Nat → Option (List IV)) (ops : Array Oper) : List Oper → Option (List LIns)
  | [] => some []
  | o :: r => (compL P G ops o).bind fun i => (compLs P G ops r).map fun s => i :: s

def compC (P : Program) (G : Nat → Option (List IV)) : Code → Option AC
  | .skip => some .skip
  | .seq a b => (compC P G a).bind fun x => (compC P G b).map fun y => .seq x y
  | .cond c a b => (co G c).bind fun c => (compC P G a).bind fun x => (compC P G b).map fun y => .cond c x y
  | .block id c => (compC P G c).map fun x => .block id x
  | .loop c => (compC P G c).map fun x => .loop x
  | .exit id => some (.exit id)
  | .ret => some .ret
  | .region _ ops false => (compLs P G ops ops.toList).map .reg
  | .region _ ops true => if P.follows .mixedOrders = true then (compLs P G ops ops.toList).map fun is => .dreg is (edgesOf ops) [] else none
  | _ => none

inductive CIs (P : Program) (G : Nat → Option (List IV)) : CIt → It → Prop
  | code {c : Code} {x : AC} : compC P G c = some x.bare → CIs P G (.code c) (.code x)
  | blk (id : Nat) : CIs P G (.blk id) (.blk id)

def lift (K : Kx) (Q : Post) (e : Exit) (a : Act) (w : World) : Prop := ∃ env H β, Q e env H ∧ RelB K β env H a w

/-- A stack of code, run from a state: it comes to what Q says. -/
def SOK (K : Kx) (Q : Post) (ck : List CIt) (env : Env) (H : Hp) : Prop := ∀ β a w, RelB K β env H a w → PH K.P (lift K Q) ck .normal a w

/-- A loop, ahead of what follows. -/
def LoopG (S : St) (Q : Post) (c : AC) (k : List It) (env : Env) (H : Hp) : Prop :=
  ∀ (K : Kx), (⟨K.P, K.G, K.N⟩ : St) = S → (∀ l, live K.H0 l → l.fresh = false) → ∀ c0 ck, compC S.P S.G c0 = some c.bare → All2 (CIs S.P S.G) ck k → SOK K Q (.code (.loop c0) :: ck) env H

/-- A state may be seen as another. -/
def Weaker (S : St) (env : Env) (H : Hp) (env2 : Env) (H2 : Hp) : Prop :=
  ∀ (K : Kx) (β : Lb → Option Nat) (a : Act) (w : World), (⟨K.P, K.G, K.N⟩ : St) = S → (∀ l, live K.H0 l → l.fresh = false) → RelB K β env H a w → ∃ β', RelB K β' env2 H2 a w

def Cut (n : Nat) (f : Env → Hp → Prop) (env : Env) (H : Hp) : Prop := f env H

def go (S : St) (Q : Post) : List It → Env → Hp → Prop
  | [] => fun env H => Q .normal env H
  | .blk _ :: k => go S Q k
  | .code .skip :: k => go S Q k
  | .code (.seq a b) :: k => go S Q (.code a :: .code b :: k)
  | .code (.cond x a b) :: k => fun env H => ∃ t, ev env x = .bool t ∧ (t = true → go S Q (.code a :: k) env H) ∧ (t = false → go S Q (.code b :: k) env H)
  | .code (.block id c) :: k => go S Q (.code c :: .blk id :: k)
  | .code (.loop c) :: k => LoopG S Q c k
  | .code (.exit id) :: k => match h : popTo id k with
    | some k' => go S Q k'
    | none => fun env H => Q (.exit id) env H
  | .code .ret :: _ => fun env H => Q .ret env H
  | .code (.reg is) :: k => fun env H => AO S is env H (go S Q k)
  | .code (.dreg is es fs) :: k => fun env H => ordOK is es fs = true ∧ AOf S (items 0 is fs) env H (go S Q k)
  | .code (.gh g c) :: k => match g with
    | .keep ns => fun env H => go S Q (.code c :: k) (keepE ns env) H
    | .frz l d => fun env H => ∃ sz xs i n, env d = .sl l sz i n ∧ H l = .live ⟨sz, immE xs⟩ ∧ l.fresh = true ∧ i + n ≤ xs.length ∧ Flat xs ∧
        go S Q (.code c :: k) (put env d (.list ((xs.drop i).take n))) (upd H l .dead)
    | .frzc l q j => fun env H => ∃ sz xs i n cs, H q = .live ⟨cs.length, [cs]⟩ ∧ cs[j]? = some (.sl l sz i n) ∧ H l = .live ⟨sz, immE xs⟩ ∧ l.fresh = true ∧ l ≠ q ∧ i + n ≤ xs.length ∧ Flat xs ∧
        go S Q (.code c :: k) env (upd (upd H l .dead) q (.live ⟨cs.length, [cs.set j (.list ((xs.drop i).take n))]⟩))
    | .own d sz => fun env H => env d = .nil0 ∧ 0 < sz ∧ H (.loc d) = .unused ∧ go S Q (.code c :: k) (put env d (.sl (.loc d) sz 0 0)) (upd H (.loc d) (.live ⟨sz, []⟩))
    | .cut n => Cut n (go S Q (.code c :: k))
    | .weak => fun env H => ∃ env2 H2, Weaker S env H env2 H2 ∧ go S Q (.code c :: k) env2 H2
termination_by k => szs k
decreasing_by
  all_goals simp only [szs, It.sz, AC.sz]
  all_goals first | omega | (have := popTo_lt h; omega)

theorem go_exit_some {S : St} {Q : Post} {id : Nat} {k k' : List It} (h : popTo id k = some k') : go S Q (.code (.exit id) :: k) = go S Q k' := by
  rw [go]
  split
  · rename_i k'' h2
    rw [h] at h2; cases h2; rfl
  · rename_i h2
    rw [h] at h2; cases h2

theorem go_exit_none {S : St} {Q : Post} {id : Nat} {k : List It} (h : popTo id k = none) : go S Q (.code (.exit id) :: k) = Q (.exit id) := by
  rw [go]
  split
  · rename_i k'' h2
    rw [h] at h2; cases h2
  · rfl

section
variable {K : Kx} {β : Lb → Option Nat} {env : Env} {H : Hp} {a : Act} {w : World}

theorem PH_ret (P : Program) (Qh : Exit → Act → World → Prop) : ∀ (ck : List CIt) (a : Act) (w : World), Qh .ret a w → PH P Qh ck .ret a w
  | [], a, w, h => h
  | .code c :: k, a, w, h => by simp only [PH, Exit.then]; exact PH_ret P Qh k a w h
  | .blk id :: k, a, w, h => by simp only [PH, Exit.inBlock]; exact PH_ret P Qh k a w h

theorem pop_sound {P : Program} {G : Nat → Option (List IV)} (Qh : Exit → Act → World → Prop) {id : Nat} : ∀ (ck : List CIt) (k : List It), All2 (CIs P G) ck k →
    match popTo id k with
    | some k' => ∃ ck', All2 (CIs P G) ck' k' ∧ ∀ a w, PH P Qh ck' .normal a w → PH P Qh ck (.exit id) a w
    | none => ∀ a w, Qh (.exit id) a w → PH P Qh ck (.exit id) a w
  | _, _, .nil => by simp only [popTo]; exact fun a w h => h
  | _, _, @All2.cons _ _ _ _ _ ck k h1 h2 => by
    cases h1 with
    | code hc =>
      have ih := pop_sound Qh (id := id) ck k h2
      simp only [popTo]
      split <;> rename_i hp <;> rw [hp] at ih <;> simp only at ih
      · obtain ⟨ck', e1, e2⟩ := ih
        exact ⟨ck', e1, fun a w h => by simp only [PH, Exit.then]; exact e2 a w h⟩
      · exact fun a w h => by simp only [PH, Exit.then]; exact ih a w h
    | blk i =>
      have ih := pop_sound Qh (id := id) ck k h2
      simp only [popTo]
      by_cases e : i = id
      · simp only [e, if_true]
        exact ⟨ck, h2, fun a w h => by simp only [PH, Exit.inBlock, if_true]; exact h⟩
      · simp only [e, if_false]
        split <;> rename_i hp <;> rw [hp] at ih <;> simp only at ih
        · obtain ⟨ck', e1, e2⟩ := ih
          exact ⟨ck', e1, fun a w h => by simp only [PH, Exit.inBlock, Ne.symm e, if_false]; exact e2 a w h⟩
        · exact fun a w h => by simp only [PH, Exit.inBlock, Ne.symm e, if_false]; exact ih a w h

theorem compLs_all2 {P : Program} {G : Nat → Option (List IV)} {ops : Array Oper} : ∀ (l : List Oper) (is : List LIns), compLs P G ops l = some (is.map LIns.asIs) → All2 (fun o i => compL P G ops o = some (LIns.asIs i)) l is
  | [], is, h => by
    simp [compLs] at h
    have : is = [] := by cases is <;> simp_all
    subst this; exact .nil
  | o :: r, is, h => by
    simp only [compLs] at h
    obtain ⟨i, h1, h⟩ := bnone h
    obtain ⟨s, h2, h3⟩ := mnone h
    cases is with
    | nil => simp at h3
    | cons j is =>
      simp only [List.map_cons, List.cons.injEq] at h3
      obtain ⟨rfl, rfl⟩ := h3
      exact .cons h1 (compLs_all2 r is h2)

theorem RelB.keepE (hr : RelB K β env H a w) (ns : List Nat) : RelB K β (Am.keepE ns env) H a w :=
  ⟨hr.defers, hr.size, fun n => by unfold Am.keepE; split; exact hr.regs n; simp [RV], hr.rows, hr.own, hr.inj, fun n l hl => by
    unfold Am.keepE at hl; split at hl
    · exact hr.ment n l hl
    · simp [AV.lbs] at hl, hr.rment, hr.frame, hr.glob, hr.stab, hr.fr⟩

theorem setSlot (hr : RelB K β env H a w) (d : Nat) {x : AV} (hx : RV w β H (Im K β H) x (a.tmps.getD d undef)) (hm : ∀ l ∈ x.lbs, H l ≠ .unused) : RelB K β (put env d x) H a w :=
  ⟨hr.defers, hr.size, fun n => by unfold put; split; · next h => subst h; exact hx
                                   · exact hr.regs n, hr.rows, hr.own, hr.inj, fun n l hl => by
    unfold put at hl; split at hl
    · exact hm l hl
    · exact hr.ment n l hl, hr.rment, hr.frame, hr.glob, hr.stab, hr.fr⟩

/-- A value that is data reads as data. -/
theorem RV_av1 {w : World} {β : Lb → Option Nat} {H : Hp} {I I' : Nat → Prop} (hk : Keeps w w I I') : ∀ {y : IV} {v : Value}, (∀ cs, y ≠ .agg cs) → RV w β H I y.av1 v → IVR w I' y v := by
  intro y v hy h
  cases y with
  | agg cs => exact absurd rfl (hy cs)
  | list xs => simp only [IV.av1, RV] at h; exact IVR.mono hk _ _ h
  | bool b => simpa [IV.av1, RV, IVR] using h
  | int k n => simpa [IV.av1, RV, IVR] using h
  | str s => simpa [IV.av1, RV, IVR] using h


theorem CellsR_of {w : World} {I : Nat → Prop} : ∀ (cs : List IV) (b o : Nat), (∀ j z, cs[j]? = some z → ∃ v, w.cell? ⟨b, o + j, none⟩ = some v ∧ IVR w I z v) → CellsR w I cs b o
  | [], b, o, _ => by simp [CellsR]
  | z :: r, b, o, h => by
    simp only [CellsR]
    refine ⟨by simpa using h 0 z (by simp), CellsR_of r b (o + 1) (fun j y hj => ?_)⟩
    have := h (j + 1) y (by simpa using hj)
    rwa [show o + (j + 1) = o + 1 + j by omega] at this

theorem ElemsR_of {w : World} {I : Nat → Prop} {sz : Nat} : ∀ (xs : List IV) (b o : Nat), (∀ k y, xs[k]? = some y → ElemR w I y b (o + k * sz) sz) → ElemsR w I xs b o sz
  | [], b, o, _ => by simp [ElemsR]
  | y :: r, b, o, h => by
    simp only [ElemsR]
    refine ⟨by simpa using h 0 y (by simp), ElemsR_of r b (o + sz) (fun k z hk => ?_)⟩
    have := h (k + 1) z (by simpa using hk)
    rwa [Nat.add_mul, Nat.one_mul, show o + (k * sz + sz) = o + sz + k * sz by omega] at this

/-- A slice over a row that dies is data from then on. -/
theorem frz_rv (hr : RelB K β env H a w) {l : Lb} {sz : Nat} {xs : List IV} {i n : Nat} {v : Value} (hl : H l = .live ⟨sz, immE xs⟩) (hf : l.fresh = true) (hin : i + n ≤ xs.length) (hfl : Flat xs)
    (hv : RV w β H (Im K β H) (.sl l sz i n) v) : RV w β (upd H l .dead) (Im K β (upd H l .dead)) (.list ((xs.drop i).take n)) v := by
  have hlive : ∀ q, live (upd H l .dead) q → live H q ∧ q ≠ l := by
    rintro q ⟨r, h⟩
    by_cases e : q = l
    · subst e; simp at h
    · rw [upd_ne _ _ e] at h; exact ⟨⟨r, h⟩, e⟩
  have hk : Keeps w w (Im K β H) (Im K β (upd H l .dead)) := ⟨fun k hk hs => ⟨⟨hk.1, fun q hq => hk.2 q (hlive q hq).1⟩, hs, rfl⟩⟩
  simp only [RV] at hv
  obtain ⟨ad, c, rfl, h2, h3, h4, h5⟩ := hv
  simp only [RV, IVR]
  have hlen : ((xs.drop i).take n).length = n := by simp; omega
  rw [hlen]
  refine ⟨ad, c, rfl, h2, h3, ?_⟩
  by_cases hn : n = 0
  · exact .inl hn
  · right
    rcases h5 ⟨_, hl⟩ with h6 | ⟨g, S, e1, e2, e3, e4⟩
    · omega
    · obtain ⟨cur, e0, cap, k1, k2, k3, k4, k5⟩ := (hr.rows l _ hl).block e1
      have hsz : 0 < sz := (hr.rows l _ hl).1
      have him : Im K β (upd H l .dead) g := ⟨.inr (hr.fr l g ⟨_, hl⟩ hf e1), fun q hq hb => (hlive q hq).2 (hr.inj q l g (hlive q hq).1 ⟨_, hl⟩ hb e1)⟩
      refine ⟨g, i * sz, sz, e2, him, (Array.getElem?_eq_some_iff.1 k1).1, hsz, ElemsR_of _ _ _ (fun k y hy => ?_)⟩
      have hy' : xs[i + k]? = some y := by
        rw [List.getElem?_take] at hy
        split at hy
        · rwa [List.getElem?_drop] at hy
        · simp at hy
      rw [ElemR_iff]
      have hcl : y.cells.length = sz := by
        have := (hr.rows l _ hl).2.1 (y.cells.map IV.av1) (by
          simp only [immE]
          exact List.mem_map_of_mem (f := fun y : IV => y.cells.map IV.av1) (List.mem_of_getElem? hy'))
        simpa using this
      refine ⟨hcl.symm, CellsR_of _ _ _ (fun j z hz => ?_)⟩
      obtain ⟨u, q1, q2⟩ := k5 (i + k) j (y.cells.map IV.av1) z.av1 (by simp [immE, hy']) (by simp [hz])
      refine ⟨u, ?_, RV_av1 hk (hfl y (List.mem_of_getElem? hy') z (List.mem_of_getElem? hz)) q2⟩
      rw [cell_of_row w g _ cur e0 (0, 0) k1, ← q1]
      congr 1
      rw [Nat.add_mul]

theorem compC_inv {P : Program} {G : Nat → Option (List IV)} {c0 : Code} {x : AC} (h : compC P G c0 = some x) :
    match x with
    | .skip => c0 = .skip
    | .seq x y => ∃ a b, c0 = .seq a b ∧ compC P G a = some x ∧ compC P G b = some y
    | .cond o x y => ∃ c a b, c0 = .cond c a b ∧ co G c = some o ∧ compC P G a = some x ∧ compC P G b = some y
    | .block id x => ∃ a, c0 = .block id a ∧ compC P G a = some x
    | .loop x => ∃ a, c0 = .loop a ∧ compC P G a = some x
    | .exit id => c0 = .exit id
    | .ret => c0 = .ret
    | .reg is => ∃ id ops, c0 = .region id ops false ∧ compLs P G ops ops.toList = some is
    | .dreg is es fs => ∃ id ops, c0 = .region id ops true ∧ P.follows .mixedOrders = true ∧ es = edgesOf ops ∧ compLs P G ops ops.toList = some is
    | .gh _ _ => False := by
  cases c0 with
  | skip => simp only [compC, Option.some.injEq] at h; subst h; rfl
  | seq a b =>
    simp only [compC] at h
    obtain ⟨x1, h1, h⟩ := bnone h
    obtain ⟨y1, h2, rfl⟩ := mnone h
    exact ⟨a, b, rfl, h1, h2⟩
  | cond c a b =>
    simp only [compC] at h
    obtain ⟨c1, h0, h⟩ := bnone h
    obtain ⟨x1, h1, h⟩ := bnone h
    obtain ⟨y1, h2, rfl⟩ := mnone h
    exact ⟨c, a, b, rfl, h0, h1, h2⟩
  | block id a =>
    simp only [compC] at h
    obtain ⟨y1, h2, rfl⟩ := mnone h
    exact ⟨a, rfl, h2⟩
  | loop a =>
    simp only [compC] at h
    obtain ⟨y1, h2, rfl⟩ := mnone h
    exact ⟨a, rfl, h2⟩
  | exit id => simp only [compC, Option.some.injEq] at h; subst h; rfl
  | ret => simp only [compC, Option.some.injEq] at h; subst h; rfl
  | region id ops draw =>
    cases draw with
    | true =>
      simp only [compC] at h
      split at h
      · rename_i hm
        obtain ⟨is, h2, rfl⟩ := mnone h
        exact ⟨id, ops, rfl, hm, rfl, h2⟩
      · simp at h
    | false =>
      simp only [compC] at h
      obtain ⟨is, h2, rfl⟩ := mnone h
      exact ⟨id, ops, rfl, h2⟩
  | rangeFunc _ _ _ _ => simp [compC] at h
  | scope _ => simp [compC] at h
  | label _ => simp [compC] at h
  | goto _ => simp [compC] at h
  | refuse _ => simp [compC] at h

theorem go_sound (hS : ∀ l, live K.H0 l → l.fresh = false) (Q : Post) : ∀ (n : Nat) (k : List It) (ck : List CIt), szs k ≤ n → All2 (CIs K.P K.G) ck k →
    ∀ env H, go ⟨K.P, K.G, K.N⟩ Q k env H → SOK K Q ck env H := by
  intro n
  induction n with
  | zero =>
    intro k ck hn hc env H hg β a w hr
    cases hc with
    | nil =>
      rw [go] at hg
      exact ⟨env, H, β, hg, hr⟩
    | @cons x i ck k h1 h2 =>
      cases i with
      | code c => have := c.sz_pos; simp only [szs, It.sz] at hn; omega
      | blk id => simp only [szs, It.sz] at hn; omega
  | succ n ih =>
    intro k ck hn hc env H hg β a w hr
    cases hc with
    | nil =>
      rw [go] at hg
      exact ⟨env, H, β, hg, hr⟩
    | @cons x i ck k h1 h2 =>
      cases h1 with
      | blk id =>
        rw [go] at hg
        simp only [PH, Exit.inBlock]
        exact ih k ck (by simp only [szs, It.sz] at hn; omega) h2 env H hg β a w hr
      | @code c0 c hcomp =>
        simp only [PH, Exit.then]
        have hpos := c.sz_pos
        cases c with
        | skip =>
          rw [go] at hg
          simp only [AC.bare] at hcomp
          have e := compC_inv hcomp
          simp only at e
          subst e
          exact wp_skip (ih k ck (by simp only [szs, It.sz, AC.sz] at hn; omega) h2 env H hg β a w hr)
        | seq x y =>
          rw [go] at hg
          obtain ⟨x0, y0, rfl, e1, e2⟩ := compC_inv hcomp
          refine wp_seq ?_
          have := ih (.code x :: .code y :: k) (.code x0 :: .code y0 :: ck) (by simp only [szs, It.sz, AC.sz] at hn ⊢; omega) (.cons (.code e1) (.cons (.code e2) h2)) env H hg β a w hr
          simpa only [PH, Exit.then] using this
        | cond x y z =>
          rw [go] at hg
          obtain ⟨o0, y0, z0, rfl, e0, e1, e2⟩ := compC_inv hcomp
          obtain ⟨t, ht, g1, g2⟩ := hg
          have hv := hr.ev e0
          rw [ht] at hv
          simp only [RV] at hv
          refine wp_cond_split hv ?_ ?_ <;> intro h
          · have := ih (.code y :: k) (.code y0 :: ck) (by simp only [szs, It.sz, AC.sz] at hn ⊢; omega) (.cons (.code e1) h2) env H (g1 h) β a w hr
            simpa only [PH, Exit.then] using this
          · have := ih (.code z :: k) (.code z0 :: ck) (by simp only [szs, It.sz, AC.sz] at hn ⊢; omega) (.cons (.code e2) h2) env H (g2 h) β a w hr
            simpa only [PH, Exit.then] using this
        | block id c =>
          rw [go] at hg
          obtain ⟨c1, rfl, e1⟩ := compC_inv hcomp
          refine wp_block ?_
          have := ih (.code c :: .blk id :: k) (.code c1 :: .blk id :: ck) (by simp only [szs, It.sz, AC.sz] at hn ⊢; omega) (.cons (.code e1) (.cons (.blk id) h2)) env H hg β a w hr
          simpa only [PH, Exit.then] using this
        | loop c =>
          rw [go] at hg
          obtain ⟨c1, rfl, e1⟩ := compC_inv hcomp
          have := hg K rfl hS c1 ck e1 h2 β a w hr
          simpa only [PH, Exit.then] using this
        | exit id =>
          simp only [AC.bare] at hcomp
          have e := compC_inv hcomp
          simp only at e
          subst e
          have hp := pop_sound (P := K.P) (G := K.G) (lift K Q) (id := id) ck k h2
          refine wp_exit ?_
          cases hk' : popTo id k with
          | some k' =>
            rw [go_exit_some hk'] at hg
            rw [hk'] at hp
            obtain ⟨ck', e1, e2⟩ := hp
            have := popTo_lt hk'
            exact e2 a w (ih k' ck' (by simp only [szs, It.sz, AC.sz] at hn; omega) e1 env H hg β a w hr)
          | none =>
            rw [go_exit_none hk'] at hg
            rw [hk'] at hp
            exact hp a w ⟨env, H, β, hg, hr⟩
        | ret =>
          simp only [AC.bare] at hcomp
          have e := compC_inv hcomp
          simp only at e
          subst e
          rw [go] at hg
          exact wp_ret (PH_ret _ _ _ _ _ ⟨env, H, β, hg, hr⟩)
        | reg is =>
          obtain ⟨id, ops, rfl, e1⟩ := compC_inv hcomp
          rw [go] at hg
          refine wp_region_list ?_
          refine ao_sound (fun env' H' β' a' w' q1 q2 => ?_) ops.toList is env H a w β (compLs_all2 _ _ e1) hg hr
          exact ih k ck (by simp only [szs, It.sz, AC.sz] at hn; omega) h2 env' H' q1 β' a' w' q2
        | dreg is es fs =>
          obtain ⟨id, ops, rfl, hm, rfl, e1⟩ := compC_inv hcomp
          rw [go] at hg
          refine drawn_sound hr hm (compLs_all2 _ _ e1) hg.1 (fun env' H' β' a' w' q1 q2 => ?_) hg.2
          exact ih k ck (by simp only [szs, It.sz, AC.sz] at hn; omega) h2 env' H' q1 β' a' w' q2
        | gh g c =>
          have hcomp' : compC K.P K.G c0 = some c.bare := hcomp
          have hrest : ∀ env' H', go ⟨K.P, K.G, K.N⟩ Q (.code c :: k) env' H' → ∀ β', RelB K β' env' H' a w → c0.wp K.P (PH K.P (lift K Q) ck) a w := by
            intro env' H' h β' hr'
            have := ih (.code c :: k) (.code c0 :: ck) (by simp only [szs, It.sz, AC.sz] at hn ⊢; omega) (.cons (.code hcomp') h2) env' H' h β' a w hr'
            simpa only [PH, Exit.then] using this
          cases g with
          | keep ns => rw [go] at hg; exact hrest _ _ hg β (hr.keepE ns)
          | cut m => rw [go] at hg; exact hrest _ _ hg β hr
          | weak =>
            rw [go] at hg
            obtain ⟨env2, H2, g1, g2⟩ := hg
            obtain ⟨β', hr'⟩ := g1 K β a w rfl hS hr
            exact hrest _ _ g2 β' hr'
          | own d sz =>
            rw [go] at hg
            obtain ⟨g1, g2, g3, g4⟩ := hg
            have h3 := hr.addRow (.loc d) g3 (r := ⟨sz, []⟩) (Below.refl _ _) none (by simp) (by simp) ⟨g2, by simp, by simp⟩
            have hv := h3.regs d
            rw [g1] at hv
            simp only [RV] at hv
            obtain ⟨ad, hv⟩ := hv
            exact hrest _ _ g4 _ (setSlot h3 d (by rw [hv]; simp only [RV]; exact ⟨ad, 0, rfl, Nat.le_refl _, by simp [maxLen], by simp, fun _ => .inl rfl⟩) (by simp [AV.lbs]))
          | frz l d =>
            rw [go] at hg
            obtain ⟨sz, xs, i, n, g1, g2, g3, g4, g5, g6⟩ := hg
            have hv := hr.regs d
            rw [g1] at hv
            exact hrest _ _ g6 _ (setSlot (hr.kill l (by rw [g2]; simp)) d (frz_rv hr g2 g3 g4 g5 hv) (by simp [AV.lbs]))
          | frzc l q j =>
            rw [go] at hg
            obtain ⟨sz, xs, i, n, cs, g1, g2, g3, g4, g5, g6, g7, g8⟩ := hg
            have hk := hr.kill l (by rw [g3]; simp)
            have hq : upd H l .dead q = .live ⟨cs.length, [cs]⟩ := by rw [upd_ne _ _ (Ne.symm g5)]; exact g1
            have hsz : 0 < cs.length := (hr.rows q _ g1).1
            cases hb : β q with
            | none =>
              have := (hr.rows q _ g1).2.2
              simp [hb] at this
            | some g =>
              obtain ⟨cur, e0, cap, k1, k2, k3, k4, k5⟩ := (hr.rows q _ g1).block hb
              obtain ⟨cur', e0', cap', k1', k2', k3', k4', k5'⟩ := (hk.rows q _ hq).block hb
              rw [k1] at k1'
              cases k1'
              have hjl : j < cs.length := (List.getElem?_eq_some_iff.1 g2).1
              have hset := hk.setRow q (r' := ⟨cs.length, [cs.set j (.list ((xs.drop i).take n))]⟩) (cur' := cur) (cap := cap) hq hb k1 rfl rfl k2 k3 (by simpa using k4) (by simp)
                (by
                  intro ds hds p hp
                  simp at hds; subst hds
                  have : p ∈ lbss cs := by
                    obtain ⟨y, hy, hpy⟩ : ∃ y ∈ cs.set j (.list ((xs.drop i).take n)), p ∈ y.lbs := by
                      generalize cs.set j (.list ((xs.drop i).take n)) = ds at hp
                      induction ds with
                      | nil => simp [lbss] at hp
                      | cons y r ih2 =>
                        simp only [lbss, List.mem_append] at hp
                        rcases hp with hp | hp
                        · exact ⟨y, by simp, hp⟩
                        · obtain ⟨z, hz, hpz⟩ := ih2 hp
                          exact ⟨z, by simp [hz], hpz⟩
                    rcases List.mem_or_eq_of_mem_set hy with hy | rfl
                    · obtain ⟨m, hm⟩ := List.getElem?_of_mem hy
                      exact lbss_get _ _ _ hm p hpy
                    · simp [AV.lbs] at hpy
                  have := hk.rment q _ hq cs (by simp) p this
                  exact this)
                (by
                  intro i' j' ds x0 hi' hj'
                  cases i' with
                  | succ i' => simp at hi'
                  | zero =>
                    simp at hi'; subst hi'
                    by_cases e : j' = j
                    · subst e
                      rw [List.getElem?_set_self hjl] at hj'
                      cases hj'
                      obtain ⟨v, q1, q2⟩ := k5 0 j' cs _ (by simp) g2
                      exact ⟨v, q1, frz_rv hr g3 g4 g6 g7 q2⟩
                    · rw [List.getElem?_set_ne (Ne.symm e)] at hj'
                      exact k5' 0 j' cs x0 (by simp) hj')
              have hsame : w.setRow g cur = w := setRow_self w g cur e0 (0, 0) k1
              rw [hsame] at hset
              exact hrest _ _ g8 _ hset

end
end Go.Am
