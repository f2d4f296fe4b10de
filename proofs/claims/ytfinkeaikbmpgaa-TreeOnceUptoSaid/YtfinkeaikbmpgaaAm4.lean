/- THE ABSTRACT MACHINE, part 4: the instructions that leave the rows alone do what the model's operations do. -/
import Derived.Test.YtfinkeaikbmpgaaAm3
set_option linter.defProp false
set_option linter.unnecessarySimpa false
set_option linter.unusedVariables false
set_option linter.unusedSimpArgs false
namespace Go.Am
open Go Go.RowKit

/-- The operation yields a value that reads as x; the world has grown. -/
def StepV (K : Kx) (β : Lb → Option Nat) (H : Hp) (a : Act) (w : World) (o : Oper) (x : AV) : Prop :=
  ∃ v w', (execOp a.eval o).run K.P w = .ok (.value v) w' ∧ Grew w w' ∧ RV w' β H (Im K β H) x v ∧ ∀ l ∈ x.lbs, H l ≠ .unused

theorem StepV.same {K : Kx} {β : Lb → Option Nat} {H : Hp} {a : Act} {w : World} {o : Oper} {x : AV} {v : Value} (h : (execOp a.eval o).run K.P w = .ok (.value v) w)
    (hv : RV w β H (Im K β H) x v) (hm : ∀ l ∈ x.lbs, H l ≠ .unused) : StepV K β H a w o x := ⟨v, w, h, Below.refl _ _, hv, hm⟩

section
variable {K : Kx} {β : Lb → Option Nat} {env : Env} {H : Hp} {a : Act} {w : World}

theorem s_mov (hr : RelB K β env H a w) {o : Oper} {x : Operand} {y : O} (ho : o.op = .move x ∨ o.op = .assign x) (hy : co K.G x = some y) : StepV K β H a w o (ev env y) := by
  refine StepV.same (v := a.eval x) ?_ (hr.ev hy) (hr.ev_ment hy)
  rcases ho with ho | ho <;> simp [execOp, ho]

theorem s_pick (hr : RelB K β env H a w) {o : Oper} {c x y : Operand} {c' x' y' : O} (ho : o.op = .pick c x y) (hc : co K.G c = some c') (hx : co K.G x = some x') (hy : co K.G y = some y')
    {t : Bool} (ht : ev env c' = .bool t) : StepV K β H a w o (if t then ev env x' else ev env y') := by
  have h := hr.ev hc
  rw [ht] at h
  simp only [RV] at h
  refine StepV.same (v := if t then a.eval x else a.eval y) ?_ ?_ ?_
  · cases t <;> simp [execOp, ho, h, asBool]
  · cases t
    · simpa using hr.ev hy
    · simpa using hr.ev hx
  · cases t
    · simpa using hr.ev_ment hy
    · simpa using hr.ev_ment hx

theorem addr_add (g off n : Nat) : (⟨g, off, none⟩ : Addr).add n = ⟨g, off + n, none⟩ := by
  unfold Addr.add; split <;> simp_all

theorem run_sizeOf' {P : Program} {t : TypeId} {s : Nat} (h : tsz P t = some s) (w : World) : (sizeOf t).run P w = .ok s w := by
  unfold tsz at h
  obtain ⟨i, h1, h2⟩ := Option.map_eq_some_iff.1 h
  simp [sizeOf, typeInfo, h1, h2]

theorem CellsR_drop {w : World} {I : Nat → Prop} : ∀ (n : Nat) (cs : List IV) (b o : Nat), CellsR w I cs b o → CellsR w I (cs.drop n) b (o + n)
  | 0, cs, b, o, h => by simpa using h
  | n + 1, [], b, o, _ => by simp [CellsR]
  | n + 1, x :: r, b, o, h => by
    simp only [CellsR] at h
    have := CellsR_drop n r b (o + 1) h.2
    rw [List.drop_succ_cons]
    rwa [show o + 1 + n = o + (n + 1) by omega] at this

theorem s_fld (hr : RelB K β env H a w) {o : Oper} {t : TypeId} {x : Operand} {f : Nat} {fs : Array Field} {fd : Field} {s : Nat} {x' : O} (ho : o.op = .fieldAddr t x f)
    (ht : K.P.underlying t = some (.struct fs)) (hf : fs[f]? = some fd) (hs : tsz K.P fd.type = some s) (hs0 : s ≠ 0) (hx : co K.G x = some x') {y : AV}
    (hy : stillV (.fld x' fd.offset) env = some y) : StepV K β H a w o y := by
  have h := hr.ev hx
  have hm := hr.ev_ment hx
  have run : ∀ ad : Addr, a.eval x = .pointer (some ad) → (execOp a.eval o).run K.P w = .ok (.value (.pointer (some (ad.add fd.offset)))) w := fun ad had => by
    simp [execOp, ho, had, Instr.fieldAt, run_underlying ht, hf, Instr.sureAddr, fieldPlace, run_sizeOf' hs, hs0, Result.andThen]
  simp only [stillV] at hy
  split at hy <;> simp at hy <;> subst hy <;> rename_i heq
  · rw [heq] at h hm
    simp only [RV] at h
    obtain ⟨ad, h1, h2⟩ := h
    refine StepV.same (run ad h1) ?_ (by simpa [AV.lbs] using hm)
    simp only [RV]
    refine ⟨_, rfl, fun hl => ?_⟩
    obtain ⟨g, k1, rfl⟩ := h2 hl
    exact ⟨g, k1, by rw [addr_add]; simp [Nat.add_assoc]⟩
  · rw [heq] at h
    simp only [RV] at h
    obtain ⟨b, o', h1, h2, h3, h4⟩ := h
    refine StepV.same (run _ h1) ?_ (by simp [AV.lbs])
    rw [addr_add]
    exact ⟨b, _, rfl, h2, h3, CellsR_drop _ _ _ _ h4⟩

theorem ElemsR_at {w : World} {I : Nat → Prop} {sz : Nat} : ∀ (k : Nat) (xs : List IV) (b o : Nat) (y : IV), xs[k]? = some y → ElemsR w I xs b o sz → ElemR w I y b (o + k * sz) sz
  | 0, [], _, _, _, h, _ => by simp at h
  | 0, x :: r, b, o, y, h, he => by
    simp at h; subst h
    simp only [ElemsR] at he
    simpa using he.1
  | k + 1, [], _, _, _, h, _ => by simp at h
  | k + 1, x :: r, b, o, y, h, he => by
    simp only [ElemsR] at he
    have := ElemsR_at k r b (o + sz) y (by simpa using h) he.2
    rwa [show o + sz + k * sz = o + (k + 1) * sz by rw [Nat.add_mul]; omega] at this

theorem run_indexAt_slice {P : Program} {w : World} {t e : TypeId} {s : Nat} (ht : P.underlying t = some (.slice e)) (hs : tsz P e = some s) (ad : Addr) (n c : Nat) (k : IntKind) (i : Int) (h0 : 0 ≤ i) (hi : i.toNat < n) :
    (Instr.indexAt t (.slice (some ad) n c) (.int k i)).run P w = .ok (.pointer (some (ad.add (i.toNat * s)))) w := by
  have : i < (n : Int) := by omega
  simp [Instr.indexAt, asIntOf, run_underlying ht, run_sizeOf' hs, h0, this, Result.andThen]

theorem s_ixa (hr : RelB K β env H a w) {o : Oper} {t e : TypeId} {x i : Operand} {s : Nat} {x' i' : O} (ho : o.op = .indexAddr t x i)
    (ht : K.P.underlying t = some (.slice e)) (hs : tsz K.P e = some s) (hx : co K.G x = some x') (hi : co K.G i = some i') {y : AV}
    (hy : stillV (.ixa x' i' s) env = some y) : StepV K β H a w o y := by
  have h := hr.ev hx
  have h2 := hr.ev hi
  have hm := hr.ev_ment hx
  simp only [stillV] at hy
  split at hy
  · rename_i xs k n e1 e2
    rw [e1] at h; rw [e2] at h2
    simp only [RV, IVR] at h h2
    split at hy
    · rename_i hn
      split at hy
      · rename_i z hz
        split at hy
        · rename_i hel
          simp only [Option.some.injEq] at hy; subst hy
          obtain ⟨ad, c, h3, h4, h5, h6⟩ := h
          have hlt : n.toNat < xs.length := (List.getElem?_eq_some_iff.1 hz).1
          rcases h6 with h6 | ⟨b, of, sz, rfl, h7, h8, h9, h10⟩
          · omega
          · have hel' := ElemsR_at n.toNat xs b of z hz h10
            rw [ElemR_iff] at hel'
            have hz' : sz = s := by rw [hel'.1]; exact hel z (List.mem_of_getElem? hz)
            subst hz'
            refine StepV.same (v := .pointer (some ⟨b, of + n.toNat * sz, none⟩)) ?_ ⟨b, _, rfl, h7, h8, hel'.2⟩ (by simp [AV.lbs])
            simp [execOp, ho, h3, h2, run_indexAt_slice ht hs _ _ _ _ _ hn hlt, addr_add]
        · simp at hy
      · simp at hy
    · simp at hy
  · rename_i l s' i0 m k n e1 e2
    rw [e1] at h hm; rw [e2] at h2
    simp only [RV] at h h2
    split at hy
    · rename_i hn
      obtain ⟨hn0, hn1, rfl⟩ := hn
      simp only [Option.some.injEq] at hy; subst hy
      obtain ⟨ad, c, h3, h4, h5, h6, h7⟩ := h
      obtain ⟨ad', rfl⟩ := Option.isSome_iff_exists.1 (h6 (by omega))
      refine StepV.same (v := .pointer (some (ad'.add (n.toNat * s')))) ?_ ?_ (by simpa [AV.lbs] using hm)
      · simp [execOp, ho, h3, h2, run_indexAt_slice ht hs _ _ _ _ _ hn0 hn1]
      · refine ⟨_, rfl, fun hl => ?_⟩
        rcases h7 hl with h8 | ⟨g, S, k1, k2, k3, k4⟩
        · omega
        · simp only [Option.some.injEq] at k2
          subst k2
          exact ⟨g, k1, by rw [addr_add]; simp [Nat.add_mul]⟩
    · simp at hy
  · simp at hy

theorem s_ixs (hr : RelB K β env H a w) {o : Oper} {t : TypeId} {x i : Operand} {x' i' : O} (ho : o.op = .index t x i)
    (ht : K.P.underlying t = some .string) (hx : co K.G x = some x') (hi : co K.G i = some i') {y : AV}
    (hy : stillV (.ixs x' i') env = some y) : StepV K β H a w o y := by
  have h := hr.ev hx
  have h2 := hr.ev hi
  simp only [stillV] at hy
  split at hy
  · rename_i s k n e1 e2
    rw [e1] at h; rw [e2] at h2
    simp only [RV] at h h2
    split at hy
    · rename_i hn
      split at hy
      · rename_i c hc
        simp only [Option.some.injEq] at hy; subst hy
        have hlt : n.toNat < s.length := (List.getElem?_eq_some_iff.1 hc).1
        refine StepV.same (v := .int .u8 c.toNat) ?_ (by simp [RV]) (by simp [AV.lbs])
        have hc' : (⟨s.toArray⟩ : ByteArray)[n.toNat]? = some c := by
          have e : s[n.toNat] = c := (List.getElem?_eq_some_iff.1 hc).2
          have hs : n.toNat < (⟨s.toArray⟩ : ByteArray).size := by show n.toNat < s.toArray.size; simpa using hlt
          rw [getElem?_pos (⟨s.toArray⟩ : ByteArray) n.toNat hs]
          exact congrArg some e
        simp [execOp, ho, h, h2, Instr.index, asIntOf, run_underlying ht, hn, hc']
      · simp at hy
    · simp at hy
  · simp at hy

theorem size_str (s : List UInt8) : (⟨s.toArray⟩ : ByteArray).size = s.length := by show s.toArray.size = _; simp

theorem s_lens (hr : RelB K β env H a w) {o : Oper} {c : Call} {x : Operand} {x' : O} (ho : o.op = .call c) (hc : c.callee = .builtin .len) (ha : c.args.toList = [x])
    (ht : c.argTypes[0]?.bind K.P.underlying = some .string) (hx : co K.G x = some x') {y : AV} (hy : stillV (.lens x') env = some y) : StepV K β H a w o y := by
  have h := hr.ev hx
  obtain ⟨t, ht0, ht1⟩ := Option.bind_eq_some_iff.1 ht
  have ha' : c.args = #[x] := by cases hh : c.args; simp_all
  simp only [stillV] at hy
  split at hy
  · rename_i s hs
    rw [hs] at h
    simp only [RV, Option.some.injEq] at h hy
    subst hy
    refine StepV.same (v := .int .i64 s.length) ?_ (by simp [RV]) (by simp [AV.lbs])
    simp [execOp, ho, resolve, hc, ha', h, invoke, builtin, Builtin.len_, ht0, run_underlying ht1, goInt, size_str]
  · simp at hy

theorem s_len (hr : RelB K β env H a w) {o : Oper} {c : Call} {x : Operand} {x' : O} {e : TypeId} (ho : o.op = .call c) (hc : c.callee = .builtin .len) (ha : c.args.toList = [x])
    (ht : c.argTypes[0]?.bind K.P.underlying = some (.slice e)) (hx : co K.G x = some x') {y : AV} (hy : stillV (.len x') env = some y) : StepV K β H a w o y := by
  have h := hr.ev hx
  obtain ⟨t, ht0, ht1⟩ := Option.bind_eq_some_iff.1 ht
  have ha' : c.args = #[x] := by cases hh : c.args; simp_all
  have sl : ∀ (ad : Option Addr) (n c' : Nat), a.eval x = .slice ad n c' → (execOp a.eval o).run K.P w = .ok (.value (.int .i64 n)) w := by
    intro ad n c' hv
    simp [execOp, ho, resolve, hc, ha', hv, invoke, builtin, Builtin.len_, ht0, run_underlying ht1, goInt]
  simp only [stillV] at hy
  split at hy
  · rename_i xs hs
    rw [hs] at h
    simp only [RV, IVR, Option.some.injEq] at h hy
    subst hy
    obtain ⟨ad, c', h3, h4⟩ := h
    exact StepV.same (sl _ _ _ h3) (by simp [RV]) (by simp [AV.lbs])
  · rename_i hs
    rw [hs] at h
    simp only [RV, Option.some.injEq] at h hy
    subst hy
    obtain ⟨ad, h3⟩ := h
    exact StepV.same (sl _ _ _ h3) (by simp [RV]) (by simp [AV.lbs])
  · rename_i l sz i n hs
    rw [hs] at h
    simp only [RV, Option.some.injEq] at h hy
    subst hy
    obtain ⟨ad, c', h3, h4⟩ := h
    exact StepV.same (sl _ _ _ h3) (by simp [RV]) (by simp [AV.lbs])
  · simp at hy

theorem run_eqGuard_int (op : BinOp) (t : TypeId) (x y : Operand) (k k' : IntKind) (m n : Int) {P : Program} {w : World} : (eqGuard op t x y (.int k m) (.int k' n)).run P w = .ok () w := by
  cases op <;> simp [eqGuard]
theorem run_eqGuard_str (op : BinOp) (t : TypeId) (x y : Operand) (m n : ByteArray) {P : Program} {w : World} : (eqGuard op t x y (.string m) (.string n)).run P w = .ok () w := by
  cases op <;> simp [eqGuard]

theorem s_bin (hr : RelB K β env H a w) {o : Oper} {op : BinOp} {t t2 : TypeId} {x y : Operand} {x' y' : O} (ho : o.op = .binOp op t x y t2)
    (hx : co K.G x = some x') (hy : co K.G y = some y') {z : AV} (hz : stillV (.bin op x' y') env = some z) : StepV K β H a w o z := by
  have h := hr.ev hx
  have h2 := hr.ev hy
  simp only [stillV, binV] at hz
  split at hz
  · rename_i k m k' n e1 e2
    rw [e1] at h; rw [e2] at h2
    simp only [RV] at h h2
    split at hz
    · rename_i hk
      subst hk
      have key : ∀ v, (binOp op t (.int k m) (.int k n)).run K.P w = .ok v w → RV w β H (Im K β H) z v → z.lbs = [] → StepV K β H a w o z := by
        intro v hv hrv hl
        refine StepV.same (v := v) ?_ hrv (by simp [hl])
        simp [execOp, ho, h, h2, run_eqGuard_int, hv]
      cases op <;> simp only [Option.some.injEq, reduceCtorEq] at hz
      case quo =>
        split at hz
        · simp at hz
        · rename_i hn
          simp only [Option.some.injEq] at hz; subst hz
          exact key (.int k (k.wrap (m.tdiv n))) (by simp [binOp, Op.intDiv, hn]) (by simp [RV]) (by simp [AV.lbs])
      case rem =>
        split at hz
        · simp at hz
        · rename_i hn
          simp only [Option.some.injEq] at hz; subst hz
          exact key (.int k (m.tmod n)) (by simp [binOp, Op.intDiv, hn]) (by simp [RV]) (by simp [AV.lbs])
      all_goals (subst hz; refine key _ (by simp [binOp, Op.intArith, Op.intCmp]; rfl) (by simp [RV]) (by simp [AV.lbs]))
    · simp at hz
  · rename_i s u e1 e2
    rw [e1] at h; rw [e2] at h2
    simp only [RV] at h h2
    have key : ∀ v, (binOp op t (.string ⟨s.toArray⟩) (.string ⟨u.toArray⟩)).run K.P w = .ok v w → RV w β H (Im K β H) z v → z.lbs = [] → StepV K β H a w o z := by
      intro v hv hrv hl
      refine StepV.same (v := v) ?_ hrv (by simp [hl])
      simp [execOp, ho, h, h2, run_eqGuard_str, hv]
    cases op <;> simp only [Option.some.injEq, reduceCtorEq] at hz
    case add =>
      split at hz
      · rename_i hn
        simp only [Option.some.injEq] at hz; subst hz
        refine key (.string ⟨(s ++ u).toArray⟩) ?_ (by simp [RV]) (by simp [AV.lbs])
        have h1 : ¬ ((((⟨s.toArray⟩ : ByteArray).size + (⟨u.toArray⟩ : ByteArray).size : Nat) : Int) > IntKind.i64.max) := by
          rw [size_str, size_str]
          simp only [IntKind.max, IntKind.signed, IntKind.bits]
          simp
          omega
        have h3 : (⟨s.toArray⟩ : ByteArray) ++ ⟨u.toArray⟩ = ⟨(s ++ u).toArray⟩ := by
          apply ByteArray.ext
          show ((⟨s.toArray⟩ : ByteArray) ++ ⟨u.toArray⟩).data = (s ++ u).toArray
          simp [ByteArray.data_append]
        simp only [binOp, Op.stringOp, h1, if_false, h3, Sem.run_pure]
      · simp at hz
    all_goals (subst hz; refine key _ (by simp [binOp, Op.stringOp, ByteArray.toList_mk]; rfl) (by simp [RV]) (by simp [AV.lbs]))
  · simp at hz

end
end Go.Am
