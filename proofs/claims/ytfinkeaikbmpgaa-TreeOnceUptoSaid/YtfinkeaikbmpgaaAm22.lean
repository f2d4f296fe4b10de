/- THE ABSTRACT MACHINE, part 22: how code is evaluated: equations. -/
import Derived.Test.YtfinkeaikbmpgaaAm21
set_option linter.defProp false
set_option linter.unnecessarySimpa false
set_option linter.unusedVariables false
set_option linter.unusedSimpArgs false
namespace Go.Am
open Go Go.RowKit

/-- A token: what it is of is left alone by evaluation. -/
inductive Tk {α : Type 1} (a : α) : Type
  | mk
inductive Tp (a c : Prop) : Type
  | mk
inductive Tv {α : Type} (a : α → Prop) : Type
  | mk
inductive Tw (a : AV → Hp → Prop) : Type
  | mk

/-- A value comes, and then so. -/
def stK (o : Option AV) (k : AV → Prop) (_ : Tv k) : Prop := ∃ x, o = some x ∧ k x

/-- A guard. -/
def gB (x : AV) (t : Bool) (A B : Prop) (_ : Tp A B) : Prop :=
  match x with
  | .bool b => if b = t then A else B
  | .un => B
  | _ => False

/-- A fork. -/
def cK (x : AV) (A B : Prop) (_ : Tp A B) : Prop :=
  match x with
  | .bool b => if b = true then A else B
  | _ => False

/-- A row that is as it is said. -/
def hK (o : Option Hp) (k : Hp → Prop) (_ : Tv k) : Prop := ∃ x, o = some x ∧ k x
def pK (o : Option (AV × Hp)) (k : AV → Hp → Prop) (_ : Tw k) : Prop := ∃ x h, o = some (x, h) ∧ k x h
/-- A call. -/
def clK (S : St) (f : Nat) (args : List AV) (H : Hp) (k : AV → Hp → Prop) (_ : Tw k) : Prop := CallT S f args H k
/-- A call of a function that is handed data. -/
def puK (S : St) (f : Nat) (args : List AV) (k : AV → Prop) (_ : Tv k) : Prop := ∃ x, PureC S.P S.G f args x ∧ k x

section
variable {S : St} {Q : Post} {env : Env} {H : Hp} {k : List It}

theorem stK_some (x : AV) (k : AV → Prop) (u : Tv k) : stK (some x) k u = k x := by simp [stK]
theorem hK_some (x : Hp) (k : Hp → Prop) (u : Tv k) : hK (some x) k u = k x := by simp [hK]
theorem pK_some (x : AV) (h : Hp) (k : AV → Hp → Prop) (u : Tw k) : pK (some (x, h)) k u = k x h := by
  simp only [pK, Option.some.injEq, Prod.mk.injEq]
  apply propext
  constructor
  · rintro ⟨_, _, ⟨rfl, rfl⟩, h⟩; exact h
  · intro h; exact ⟨_, _, ⟨rfl, rfl⟩, h⟩
theorem gB_t (A B : Prop) (u : Tp A B) : gB (.bool true) true A B u = A := by simp [gB]
theorem gB_f (A B : Prop) (u : Tp A B) : gB (.bool false) true A B u = B := by simp [gB]
theorem gB_t' (A B : Prop) (u : Tp A B) : gB (.bool true) false A B u = B := by simp [gB]
theorem gB_f' (A B : Prop) (u : Tp A B) : gB (.bool false) false A B u = A := by simp [gB]
theorem gB_u (t : Bool) (A B : Prop) (u : Tp A B) : gB .un t A B u = B := by simp [gB]
theorem cK_t (A B : Prop) (u : Tp A B) : cK (.bool true) A B u = A := by simp [cK]
theorem cK_f (A B : Prop) (u : Tp A B) : cK (.bool false) A B u = B := by simp [cK]

theorem ao_nil (k : Env → Hp → Prop) : AO S [] env H k = k env H := rfl
theorem ao_some (n : Nat) (i : Ins) (r : List LIns) (k : Env → Hp → Prop) :
    AO S (⟨some n, none, i⟩ :: r) env H k = (n < S.N ∧ Act1 S (some n) i env H fun x H' => AO S r (put env n x) H' k) := by
  simp [AO, gW, putO]
theorem ao_none (i : Ins) (r : List LIns) (k : Env → Hp → Prop) :
    AO S (⟨none, none, i⟩ :: r) env H k = Act1 S none i env H fun x H' => AO S r env H' k := by
  simp [AO, gW, putO]
theorem ao_guard (n s : Nat) (t : Bool) (i : Ins) (r : List LIns) (k : Env → Hp → Prop) :
    AO S (⟨some n, some (s, t), i⟩ :: r) env H k = (n < S.N ∧ gB (env s) t (Act1 S (some n) i env H fun x H' => AO S r (put env n x) H' k) (AO S r (put env n .un) H k) .mk) := by
  simp only [AO, gW, putO]
  cases he : env s <;> simp [gB, he]
  rename_i b
  cases b <;> cases t <;> simp
theorem ao_guard0 (s : Nat) (t : Bool) (i : Ins) (r : List LIns) (k : Env → Hp → Prop) :
    AO S (⟨none, some (s, t), i⟩ :: r) env H k = gB (env s) t (Act1 S none i env H fun x H' => AO S r env H' k) (AO S r env H k) .mk := by
  simp only [AO, gW, putO]
  cases he : env s <;> simp [gB, he]
  rename_i b
  cases b <;> cases t <;> simp

theorem aof_nil (k : Env → Hp → Prop) : AOf S [] env H k = k env H := rfl
theorem aof_some (j n : Nat) (i : Ins) (f : Fp) (r : List (Nat × LIns × Fp)) (k : Env → Hp → Prop) :
    AOf S ((j, ⟨some n, none, i⟩, f) :: r) env H k = (n < S.N ∧ Act1f S f (some n) i env H fun x H' => AOf S r (put env n x) H' k) := by
  simp [AOf, St1, gW, putO]
theorem aof_none (j : Nat) (i : Ins) (f : Fp) (r : List (Nat × LIns × Fp)) (k : Env → Hp → Prop) :
    AOf S ((j, ⟨none, none, i⟩, f) :: r) env H k = Act1f S f none i env H fun x H' => AOf S r env H' k := by
  simp [AOf, St1, gW, putO]
theorem aof_guard (j n s : Nat) (t : Bool) (i : Ins) (f : Fp) (r : List (Nat × LIns × Fp)) (k : Env → Hp → Prop) :
    AOf S ((j, ⟨some n, some (s, t), i⟩, f) :: r) env H k = (n < S.N ∧ gB (env s) t (Act1f S f (some n) i env H fun x H' => AOf S r (put env n x) H' k) (AOf S r (put env n .un) H k) .mk) := by
  simp only [AOf, St1, gW, putO]
  cases he : env s <;> simp [gB, he]
  rename_i b
  cases b <;> cases t <;> simp

theorem go_nil : go S Q [] env H = Q .normal env H := by rw [go]
theorem go_blk (id : Nat) : go S Q (.blk id :: k) env H = go S Q k env H := by rw [go]
theorem go_skip : go S Q (.code .skip :: k) env H = go S Q k env H := by rw [go]
theorem go_seq (a b : AC) : go S Q (.code (.seq a b) :: k) env H = go S Q (.code a :: .code b :: k) env H := by rw [go]
theorem go_cond (x : O) (a b : AC) : go S Q (.code (.cond x a b) :: k) env H = cK (ev env x) (go S Q (.code a :: k) env H) (go S Q (.code b :: k) env H) .mk := by
  rw [go]
  unfold cK
  apply propext
  constructor
  · rintro ⟨t, h1, h2, h3⟩
    rw [h1]
    cases t
    · simpa using h3 rfl
    · simpa using h2 rfl
  · intro h
    split at h
    · rename_i t e
      refine ⟨t, e, fun e2 => ?_, fun e2 => ?_⟩ <;> subst e2 <;> simpa using h
    · exact h.elim
theorem go_block (id : Nat) (c : AC) : go S Q (.code (.block id c) :: k) env H = go S Q (.code c :: .blk id :: k) env H := by rw [go]
theorem go_loop (c : AC) : go S Q (.code (.loop c) :: k) env H = LoopG S Q c k env H := by rw [go]
theorem go_ret : go S Q (.code .ret :: k) env H = Q .ret env H := by rw [go]
theorem go_reg (is : List LIns) : go S Q (.code (.reg is) :: k) env H = AO S is env H (go S Q k) := by rw [go]
theorem go_dreg (is : List LIns) (es : List (List Nat)) (fs : List Fp) (ho : ordOK is es fs = true) : go S Q (.code (.dreg is es fs) :: k) env H = AOf S (items 0 is fs) env H (go S Q k) := by rw [go]; simp [ho]
theorem go_keep (ns : List Nat) (c : AC) : go S Q (.code (.gh (.keep ns) c) :: k) env H = go S Q (.code c :: k) (keepE ns env) H := by rw [go]
theorem go_frz (l : Lb) (d : Nat) (c : AC) : go S Q (.code (.gh (.frz l d) c) :: k) env H = ∃ sz xs i n, env d = .sl l sz i n ∧ H l = .live ⟨sz, immE xs⟩ ∧ l.fresh = true ∧ i + n ≤ xs.length ∧ Flat xs ∧
        go S Q (.code c :: k) (put env d (.list ((xs.drop i).take n))) (upd H l .dead) := by rw [go]
theorem go_own (d sz : Nat) (c : AC) : go S Q (.code (.gh (.own d sz) c) :: k) env H = (env d = .nil0 ∧ 0 < sz ∧ H (.loc d) = .unused ∧ go S Q (.code c :: k) (put env d (.sl (.loc d) sz 0 0)) (upd H (.loc d) (.live ⟨sz, []⟩))) := by rw [go]
theorem go_cut (n : Nat) (c : AC) : go S Q (.code (.gh (.cut n) c) :: k) env H = Cut n (go S Q (.code c :: k)) env H := by rw [go]
theorem go_weak (c : AC) : go S Q (.code (.gh .weak c) :: k) env H = ∃ env2 H2, Weaker S env H env2 H2 ∧ go S Q (.code c :: k) env2 H2 := by rw [go]
theorem go_exit (id : Nat) : go S Q (.code (.exit id) :: k) env H = match popTo id k with
    | some k' => go S Q k' env H
    | none => Q (.exit id) env H := by
  cases h : popTo id k with
  | some k' => rw [go_exit_some h]
  | none => rw [go_exit_none h]

theorem items_nil (n : Nat) (fs : List Fp) : items n [] fs = [] := rfl
theorem items_cons (n : Nat) (i : LIns) (is : List LIns) (f : Fp) (fs : List Fp) : items n (i :: is) (f :: fs) = (n, i, f) :: items (n + 1) is fs := rfl
theorem items_cons0 (n : Nat) (i : LIns) (is : List LIns) : items n (i :: is) [] = (n, i, .no) :: items (n + 1) is [] := rfl

theorem a1_still {d : Option Nat} {i : Ins} {k : AV → Hp → Prop} (h : match i with | .load _ _ | .box _ | .new _ | .store _ _ _ | .app _ _ _ _ | .call _ _ | .callv _ _ => False | _ => True) :
    Act1 S d i env H k = stK (stillV i env) (fun x => k x H) .mk := by
  cases i <;> first | rfl | exact h.elim

theorem a1_load (d : Option Nat) (m : Option Nat) (a : O) (k : AV → Hp → Prop) : Act1 S d (.load m a) env H k = (stK (stillV (.load m a) env) (fun x => k x H) .mk ∨ stK (loadV m (ev env a) H) (fun x => k x H) .mk) := rfl

/-- A load, by what it reads. -/
def ldV (m : Option Nat) (x : AV) (H : Hp) : Option AV :=
  match x with
  | .lptr cs => match m with
      | none => cs[0]?.map IV.av1
      | some k => if k ≤ cs.length then some (.agg ((cs.take k).map IV.av1)) else none
  | x => loadV m x H

theorem a1_ld (d : Option Nat) (m : Option Nat) (a : O) (k : AV → Hp → Prop) : Act1 S d (.load m a) env H k = stK (ldV m (ev env a) H) (fun x => k x H) .mk := by
  rw [a1_load]
  unfold ldV
  split
  · rename_i cs e
    simp only [stillV, e, loadV, stK]
    apply propext
    constructor
    · rintro (h | ⟨x, h, _⟩)
      · exact h
      · simp at h
    · exact .inl
  · rename_i x hne
    have : stillV (.load m a) env = none := by
      simp only [stillV]
    rw [this]
    simp [stK]

theorem a1_new (n : Nat) (cs : List AV) (k : AV → Hp → Prop) : Act1 S (some n) (.new cs) env H k = (H (.loc n) = .unused ∧ 0 < cs.length ∧ cs.length ≤ maxLen ∧
    k (.ptr (.loc n) cs.length 0 0) (upd H (.loc n) (.live ⟨cs.length, [cs]⟩))) := by
  simp [Act1]

/-- New memory that holds what is given. -/
def boxK (x : AV) (n : Nat) (H : Hp) (k : AV → Hp → Prop) : Prop := H (.loc n) = .unused ∧ x.stb = true ∧ 0 < x.cells.length ∧ x.cells.length ≤ maxLen ∧
  k (.ptr (.loc n) x.cells.length 0 0) (upd H (.loc n) (.live ⟨x.cells.length, [x.cells]⟩))

theorem a1_box (n : Nat) (x : O) (k : AV → Hp → Prop) : Act1 S (some n) (.box x) env H k = boxK (ev env x) n H k := by
  simp [Act1, boxK]

theorem a1_store (m : Nat) (a x : O) (k : AV → Hp → Prop) : Act1 S none (.store m a x) env H k = hK (storeV m (ev env a) (ev env x) H) (fun H' => k .un H') .mk := by
  simp [Act1, hK]

theorem a1_app (n : Nat) (s x : O) (sz b : Nat) (k : AV → Hp → Prop) : Act1 S (some n) (.app s x sz b) env H k = pK (appV sz b n (ev env s) (ev env x) H) k .mk := by
  simp only [Act1, pK, Option.some.injEq]
  apply propext
  constructor
  · rintro ⟨_, rfl, h⟩; exact h
  · intro h; exact ⟨_, rfl, h⟩

theorem a1_call (d : Option Nat) (f : Nat) (args : List O) (k : AV → Hp → Prop) : Act1 S d (.call f args) env H k = clK S f (args.map (ev env)) H k .mk := rfl

theorem callT_pure {f : Nat} {args : List AV} {res : AV} {k : AV → Hp → Prop} (h : PureC S.P S.G f args res) (hk : k res H) {u : Tw k} : clK S f args H k u := .inl ⟨res, h, hk⟩
theorem puK_in {f : Nat} {args : List AV} {res : AV} {k : AV → Prop} (h : PureC S.P S.G f args res) (hk : k res) {u : Tv k} : puK S f args k u := ⟨res, h, hk⟩

theorem af_no (d : Option Nat) (i : Ins) (k : AV → Hp → Prop) : Act1f S .no d i env H k = ∃ x, (stillV i env = some x ∨ Quiet S i env x) ∧ k x H := rfl

theorem af_still {d : Option Nat} {i : Ins} {k : AV → Hp → Prop} (h : match i with | .call _ _ | .callv _ _ => False | _ => True) :
    Act1f S .no d i env H k = stK (stillV i env) (fun x => k x H) .mk := by
  cases i <;> first | exact h.elim | simp [Act1f, Quiet, stK]

theorem af_call (d : Option Nat) (f : Nat) (args : List O) (k : AV → Hp → Prop) : Act1f S .no d (.call f args) env H k = puK S f (args.map (ev env)) (fun x => k x H) .mk := by
  simp [Act1f, Quiet, stillV, puK]

theorem put_at (env : Env) (n m : Nat) (x : AV) : put env n x m = if m = n then x else env m := rfl

end
end Go.Am
