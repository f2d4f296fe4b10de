/- THE ABSTRACT MACHINE, part 5: cuts, comparisons, structs: the rest of the instructions that leave the rows alone. -/
import Derived.Test.YtfinkeaikbmpgaaAm4
set_option linter.defProp false
set_option linter.unnecessarySimpa false
set_option linter.unusedVariables false
set_option linter.unusedSimpArgs false
namespace Go.Am
open Go Go.RowKit

section
variable {K : Kx} {β : Lb → Option Nat} {env : Env} {H : Hp} {a : Act} {w : World}

theorem bnd_run (hr : RelB K β env H a w) {lo : Option Operand} {lo' : Option O} {d m n : Nat} (hc : coOpt K.G lo = some lo') (h : bnd env lo' d m = some n) :
    (lo = none ∧ lo' = none ∧ n = d) ∨ ∃ x k v, lo = some x ∧ lo'.isSome = true ∧ a.eval x = .int k v ∧ 0 ≤ v ∧ v.toNat ≤ m ∧ n = v.toNat := by
  cases lo with
  | none =>
    simp [coOpt] at hc
    subst hc
    simp [bnd] at h
    exact .inl ⟨rfl, rfl, h.symm⟩
  | some x =>
    simp only [coOpt, Option.map_eq_some_iff] at hc
    obtain ⟨y, h1, rfl⟩ := hc
    have h2 := hr.ev h1
    simp only [bnd] at h
    split at h
    · rename_i k v e
      rw [e] at h2
      simp only [RV] at h2
      split at h
      · rename_i hv
        simp only [Option.some.injEq] at h
        exact .inr ⟨x, k, v, rfl, rfl, h2, hv.1, hv.2, h.symm⟩
      · simp at h
    · simp at h

theorem run_sliceBound {P : Program} {w : World} {k : IntKind} {v : Int} {y : Nat} (code : BoundsCode) (h0 : 0 ≤ v) (h1 : v.toNat ≤ y) : (Instr.sliceBound (.int k v) y code).run P w = .ok v.toNat w := by
  have : v ≤ (y : Int) := by omega
  simp [Instr.sliceBound, asIntOf, h0, this, Result.andThen]

/-- The bounds of a cut. -/
theorem run_cutB (hr : RelB K β env H a w) {lo hi mx : Option Operand} {lo' hi' mx' : Option O} {n c l h : Nat} {m : Option Nat} (hlo : coOpt K.G lo = some lo') (hhi : coOpt K.G hi = some hi')
    (hmx : coOpt K.G mx = some mx') (hnc : n ≤ c) (hb : cutB env lo' hi' mx' n = some (l, h, m)) :
    (Instr.sliceBounds true n c (lo.map a.eval) (hi.map a.eval) (mx.map a.eval)).run K.P w = .ok (l, h, m.getD c) w ∧ l ≤ h ∧ h ≤ n ∧ h ≤ m.getD c ∧ m.getD c ≤ c := by
  unfold cutB at hb
  cases mx' with
  | none =>
    simp only [Option.bind_eq_some_iff, Option.map_eq_some_iff, Prod.mk.injEq] at hb
    obtain ⟨h', h1, l', h2, rfl, rfl, rfl⟩ := hb
    have hmx0 : mx = none := by cases mx with
      | none => rfl
      | some x => simp [coOpt] at hmx
    subst hmx0
    rcases bnd_run hr hhi h1 with ⟨rfl, rfl, rfl⟩ | ⟨x, k, v, rfl, _, e1, e2, e3, rfl⟩
    · rcases bnd_run hr hlo h2 with ⟨rfl, rfl, rfl⟩ | ⟨y, k, u, rfl, _, e4, e5, e6, rfl⟩
      · exact ⟨by simp [Instr.sliceBounds], by omega, by omega, by simpa using hnc, by simp⟩
      · exact ⟨by simp [Instr.sliceBounds, e4, run_sliceBound _ e5 e6], by omega, by omega, by simpa using hnc, by simp⟩
    · rcases bnd_run hr hlo h2 with ⟨rfl, rfl, rfl⟩ | ⟨y, k', u, rfl, _, e4, e5, e6, rfl⟩
      · exact ⟨by simp [Instr.sliceBounds, e1, run_sliceBound _ e2 (show v.toNat ≤ c by omega)], by omega, e3, by simp; omega, by simp⟩
      · exact ⟨by simp [Instr.sliceBounds, e1, e4, run_sliceBound _ e2 (show v.toNat ≤ c by omega), run_sliceBound _ e5 e6], e6, e3, by simp; omega, by simp⟩
  | some m0 =>
    simp only at hb
    split at hb
    · simp at hb
    · rename_i hns
      simp only [Option.bind_eq_some_iff, Option.map_eq_some_iff, Prod.mk.injEq] at hb
      obtain ⟨m', h0, h', h1, l', h2, rfl, rfl, rfl⟩ := hb
      rcases bnd_run hr hmx h0 with ⟨rfl, h9, rfl⟩ | ⟨x1, k1, v1, rfl, _, e1, e2, e3, rfl⟩
      · simp at h9
      · rcases bnd_run hr hhi h1 with ⟨rfl, rfl, rfl⟩ | ⟨x2, k2, v2, rfl, _, f1, f2, f3, rfl⟩
        · simp at hns
        · have q1 : v1.toNat ≤ c := by omega
          rcases bnd_run hr hlo h2 with ⟨rfl, rfl, rfl⟩ | ⟨x3, k3, v3, rfl, _, g1, g2, g3, rfl⟩
          · exact ⟨by simp [Instr.sliceBounds, e1, f1, run_sliceBound _ e2 q1, run_sliceBound _ f2 f3], by omega, by omega, f3, q1⟩
          · exact ⟨by simp [Instr.sliceBounds, e1, f1, g1, run_sliceBound _ e2 q1, run_sliceBound _ f2 f3, run_sliceBound _ g2 g3], g3, by omega, f3, q1⟩

theorem ElemsR_take {w : World} {I : Nat → Prop} {sz : Nat} : ∀ (n : Nat) (xs : List IV) (b o : Nat), ElemsR w I xs b o sz → ElemsR w I (xs.take n) b o sz
  | 0, _, _, _, _ => by simp [ElemsR]
  | n + 1, [], _, _, _ => by simp [ElemsR]
  | n + 1, x :: r, b, o, h => by
    simp only [ElemsR] at h
    simp only [List.take_succ_cons, ElemsR]
    exact ⟨h.1, ElemsR_take n r b (o + sz) h.2⟩

theorem ElemsR_drop {w : World} {I : Nat → Prop} {sz : Nat} : ∀ (n : Nat) (xs : List IV) (b o : Nat), ElemsR w I xs b o sz → ElemsR w I (xs.drop n) b (o + n * sz) sz
  | 0, _, _, _, h => by simpa using h
  | n + 1, [], _, _, _ => by simp [ElemsR]
  | n + 1, x :: r, b, o, h => by
    simp only [ElemsR] at h
    simp only [List.drop_succ_cons]
    have := ElemsR_drop n r b (o + sz) h.2
    rwa [show o + sz + n * sz = o + (n + 1) * sz by rw [Nat.add_mul]; omega] at this

theorem ElemsR_sz {w : World} {I : Nat → Prop} {sz s : Nat} {xs : List IV} {b o : Nat} (h : ElemsR w I xs b o sz) (hs : Elsz s xs) (hn : 0 < xs.length) : sz = s := by
  cases xs with
  | nil => simp at hn
  | cons x r =>
    simp only [ElemsR] at h
    have := (ElemR_iff w I x b o sz).1 h.1
    rw [this.1]; exact hs x (by simp)

/-- A cut of a list that nobody writes. -/
theorem SlV_cut {xs : List IV} {I : Nat → Prop} {ad : Option Addr} {c s l h m : Nat} (hel : Elsz s xs) (hl : l ≤ h) (hh : h ≤ xs.length) (hm : h ≤ m) (hmc : m ≤ c) (hc : c ≤ maxLen)
    (hx : xs.length = 0 ∨ ∃ b o sz, ad = some ⟨b, o, none⟩ ∧ I b ∧ b < w.heap.size ∧ 0 < sz ∧ ElemsR w I xs b o sz) :
    IVR w I (.list ((xs.take h).drop l)) (.slice (if m = l then ad else ad.map (·.add (l * s))) (h - l) (m - l)) := by
  simp only [IVR]
  have hlen : ((xs.take h).drop l).length = h - l := by simp; omega
  refine ⟨_, m - l, by rw [hlen], by omega, by omega, ?_⟩
  rw [hlen]
  by_cases e : h - l = 0
  · exact .inl e
  · right
    rcases hx with hx | ⟨b, o, sz, rfl, e1, e2, e3, e4⟩
    · omega
    · have hsz : sz = s := ElemsR_sz e4 hel (by omega)
      subst hsz
      refine ⟨b, o + l * sz, sz, ?_, e1, e2, e3, ElemsR_drop _ _ _ _ (ElemsR_take _ _ _ _ e4)⟩
      rw [if_neg (by omega)]
      simp [addr_add]

theorem s_slc (hr : RelB K β env H a w) {o : Oper} {t e : TypeId} {x : Operand} {lo hi mx : Option Operand} {s : Nat} {x' : O} {lo' hi' mx' : Option O} (ho : o.op = .slice t x lo hi mx)
    (ht : K.P.underlying t = some (.slice e)) (hs : tsz K.P e = some s) (hx : co K.G x = some x') (hlo : coOpt K.G lo = some lo') (hhi : coOpt K.G hi = some hi') (hmx : coOpt K.G mx = some mx') {y : AV}
    (hy : stillV (.slc x' lo' hi' mx' s) env = some y) : StepV K β H a w o y := by
  have hv := hr.ev hx
  have hm := hr.ev_ment hx
  have run : ∀ (ad : Option Addr) (n c l h m : Nat), a.eval x = .slice ad n c → (Instr.sliceBounds true n c (lo.map a.eval) (hi.map a.eval) (mx.map a.eval)).run K.P w = .ok (l, h, m) w →
      (execOp a.eval o).run K.P w = .ok (.value (.slice (if m = l then ad else ad.map (·.add (l * s))) (h - l) (m - l))) w := by
    intro ad n c l h m e1 e2
    simp [execOp, ho, Instr.sliceAt, run_underlying ht, Instr.slice, e1, e2, run_sizeOf' hs, Result.andThen]
  simp only [stillV, slcV] at hy
  split at hy
  · rename_i e1
    rw [e1] at hv
    simp only [RV] at hv
    obtain ⟨ad, hv⟩ := hv
    simp only [Option.map_eq_some_iff] at hy
    obtain ⟨⟨l, h, m⟩, h1, rfl⟩ := hy
    obtain ⟨r1, r2, r3, r4, r5⟩ := run_cutB hr hlo hhi hmx (Nat.le_refl 0) h1
    refine StepV.same (run ad 0 0 l h _ hv r1) ?_ (by simp [AV.lbs])
    have z1 : h - l = 0 := by omega
    have z2 : m.getD 0 - l = 0 := by omega
    rw [z1, z2]
    exact ⟨_, rfl⟩
  · rename_i xs e1
    rw [e1] at hv
    simp only [RV, IVR] at hv
    split at hy
    · rename_i hel
      obtain ⟨ad, c, h3, h4, h5, h6⟩ := hv
      simp only [Option.map_eq_some_iff] at hy
      obtain ⟨⟨l, h, m⟩, h1, rfl⟩ := hy
      obtain ⟨r1, r2, r3, r4, r5⟩ := run_cutB hr hlo hhi hmx h4 h1
      refine StepV.same (run ad _ c l h _ h3 r1) ?_ (by split <;> simp [AV.lbs])
      split
      · rename_i hm'
        simp only at hm'
        subst hm'
        simp only [Option.getD_some] at r4 ⊢
        have z1 : h - l = 0 := by omega
        rw [z1]
        simp only [Nat.sub_self, if_true]
        exact ⟨_, rfl⟩
      · simp only [RV]
        exact SlV_cut hel r2 r3 r4 r5 h5 h6
    · simp at hy
  · rename_i lb s' i n e1
    rw [e1] at hv hm
    simp only [RV] at hv
    split at hy
    · rename_i hs'
      subst hs'
      obtain ⟨ad, c, h3, h4, h5, h6, h7⟩ := hv
      simp only [Option.bind_eq_some_iff] at hy
      obtain ⟨⟨l, h, m⟩, h1, h2⟩ := hy
      obtain ⟨r1, r2, r3, r4, r5⟩ := run_cutB hr hlo hhi hmx h4 h1
      cases m with
      | some m => simp at h2
      | none =>
        simp only [Option.isSome_none, Bool.false_eq_true, if_false, Option.some.injEq] at h2
        subst h2
        simp only [Option.getD_none] at r1 r4 r5
        refine StepV.same (run ad _ c l h _ h3 r1) ?_ (by simpa [AV.lbs] using hm)
        refine ⟨_, _, rfl, by omega, by omega, fun hn => ?_, fun hl => ?_⟩
        · obtain ⟨q, rfl⟩ := Option.isSome_iff_exists.1 (h6 (by omega))
          split <;> simp
        · by_cases hc : c = l
          · exact .inl (by omega)
          · right
            rcases h7 hl with h8 | ⟨g, S, k1, k2, k3, k4⟩
            · omega
            · subst k2
              refine ⟨g, S, k1, ?_, k3, ?_⟩
              · rw [if_neg hc]; simp [addr_add, Nat.add_mul]
              · rw [← k4]; congr 1; omega
    · simp at hy
  · simp at hy

theorem s_slcs (hr : RelB K β env H a w) {o : Oper} {t : TypeId} {x : Operand} {lo hi : Option Operand} {x' : O} {lo' hi' : Option O} (ho : o.op = .slice t x lo hi none)
    (ht : K.P.underlying t = some .string) (hx : co K.G x = some x') (hlo : coOpt K.G lo = some lo') (hhi : coOpt K.G hi = some hi') {y : AV}
    (hy : stillV (.slcs x' lo' hi') env = some y) : StepV K β H a w o y := by
  have hv := hr.ev hx
  simp only [stillV] at hy
  split at hy
  · rename_i s e1
    rw [e1] at hv
    simp only [RV] at hv
    simp only [Option.bind_eq_some_iff, Option.map_eq_some_iff] at hy
    obtain ⟨h, h1, l, h2, rfl⟩ := hy
    have hb : cutB env lo' hi' none s.length = some (l, h, none) := by simp [cutB, h1, h2]
    have hcut : ∀ isS, (Instr.sliceBounds isS s.length s.length (lo.map a.eval) (hi.map a.eval) none).run K.P w = .ok (l, h, s.length) w := by
      intro isS
      rcases bnd_run hr hhi h1 with ⟨rfl, rfl, rfl⟩ | ⟨x, k, v, rfl, _, e1, e2, e3, rfl⟩
      · rcases bnd_run hr hlo h2 with ⟨rfl, rfl, rfl⟩ | ⟨y, k, u, rfl, _, e4, e5, e6, rfl⟩
        · simp [Instr.sliceBounds]
        · simp [Instr.sliceBounds, e4, run_sliceBound _ e5 e6]
      · rcases bnd_run hr hlo h2 with ⟨rfl, rfl, rfl⟩ | ⟨y, k', u, rfl, _, e4, e5, e6, rfl⟩
        · simp [Instr.sliceBounds, e1, run_sliceBound _ e2 e3]
        · simp [Instr.sliceBounds, e1, e4, run_sliceBound _ e2 e3, run_sliceBound _ e5 e6]
    obtain ⟨_, r2, r3, _, _⟩ := run_cutB hr hlo hhi (mx := none) (mx' := none) (by simp [coOpt]) (Nat.le_refl _) hb
    refine StepV.same (v := .string ((⟨s.toArray⟩ : ByteArray).extract l h)) ?_ ?_ (by simp [AV.lbs])
    · simp [execOp, ho, Instr.sliceAt, run_underlying ht, Instr.slice, hv, size_str, hcut, Result.andThen]
    · simp only [RV]
      congr 1
      apply ByteArray.ext
      show ((⟨s.toArray⟩ : ByteArray).extract l h).data = ((s.take h).drop l).toArray
      rw [ByteArray.data_extract]
      simp only [List.extract_toArray]
      congr 1
      simp [List.extract, List.drop_take]
  · simp at hy

end
end Go.Am
