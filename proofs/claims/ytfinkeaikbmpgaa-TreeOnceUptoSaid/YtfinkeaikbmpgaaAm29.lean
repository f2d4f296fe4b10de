/- THE ABSTRACT MACHINE, part 29: arguments that are read; a law's contract. -/
import Derived.Test.YtfinkeaikbmpgaaAm26
set_option linter.defProp false
set_option linter.unnecessarySimpa false
set_option linter.unusedVariables false
set_option linter.unusedSimpArgs false
namespace Go.Am
open Go Go.RowKit Go.ChangeShapes

section
variable {H : Type} {enc : TypeId × Value → H} {P : Program}

/-- A list of cells that read as data: registers. -/
theorem rvs_of {W : World} : ∀ (ys : List IV) (cs : List Value), ys.length = cs.length → (∀ z ∈ ys, ∀ q, z ≠ .agg q) → (∀ (j : Nat) (z : IV), ys[j]? = some z → ∃ v, cs[j]? = some v ∧ IVR W (fun _ => True) z v) →
    RVs W noβ Hp.none (fun _ => True) (ys.map IV.av1) cs
  | [], [], _, _, _ => by simp [RVs]
  | [], v :: cs, h, _, _ => by simp at h
  | y :: ys, [], h, _, _ => by simp at h
  | y :: ys, v :: cs, h, hf, hg => by
    obtain ⟨v', h1, h2⟩ := hg 0 y (by simp)
    simp at h1; subst h1
    refine ⟨v, cs, rfl, ?_, rvs_of ys cs (by simpa using h) (fun z hz => hf z (by simp [hz])) (fun j z hz => by simpa using hg (j + 1) z (by simpa using hz))⟩
    cases y with
    | agg q => exact absurd rfl (hf _ (by simp) q)
    | _ => simpa [IV.av1, RV, IVR] using h2

theorem arg_rv (B : Bk H) {T : List TypeId} (hT : ∀ t ∈ T, okT P T t = true) {W : World} {t : TypeId} (ht : t ∈ T) {v : Value} {d : DataW H} {ps : List MemPlace} {r : Reach}
    {b0 : Nat} (hval : Value.okWide P W r b0 t v) (h : DataW.Trod enc P W 0 (fun _ => true) true t v d ps) :
    ∃ y : IV, Sh P t y ∧ y.wt ≤ B.bk d ∧ RV W noβ Hp.none (fun _ => True) y.av v := by
  obtain ⟨fuel, h⟩ := h
  obtain ⟨y, h1, h2, h3, h4⟩ := read B hT fuel t _ d ps ht h
  refine ⟨y, h1, h2, ?_⟩
  have one : ∀ u : TypeDesc, P.underlying t = some u → (∀ fs, u ≠ .struct fs) → (∀ n e, u ≠ .array n e) → (∀ cs, y ≠ .agg cs) → RV W noβ Hp.none (fun _ => True) y.av v := by
    intro u hu hs ha hy
    have hc : y.cells = [y] := by cases y <;> first | rfl | exact absurd rfl (hy _)
    have hv : v.cells = #[v] := by
      cases v with
      | agg cs =>
        unfold Value.okWide at hval
        rw [hu] at hval
        cases u <;> simp_all [Cell.okWide, Cell.ok]
      | _ => rfl
    rw [hc, hv] at h4
    obtain ⟨v', e1, e2⟩ := h4 0 y rfl
    simp at e1; subst e1
    cases y <;> first | (simpa [IV.av, IV.av1, RV, IVR] using e2) | exact absurd rfl (hy _)
  cases h1 with
  | b hu => exact one _ hu (by simp) (by simp) (by simp)
  | i hu _ => exact one _ hu (by simp) (by simp) (by simp)
  | s hu => exact one _ hu (by simp) (by simp) (by simp)
  | l hu _ => exact one _ hu (by simp) (by simp) (by simp)
  | @g _ fs ys hu hl hf =>
    have hok := hT t ht
    unfold okT at hok
    rw [hu] at hok
    simp only [Bool.and_eq_true, decide_eq_true_eq, List.all_eq_true] at hok
    unfold Value.okWide at hval
    rw [hu] at hval
    obtain ⟨cs, rfl, hsz, _⟩ := hval
    simp only [IV.av, RV]
    refine ⟨cs.toList, by simp, rvs_of ys _ (by simpa [IV.cells, Value.cells] using h3) ?_ (fun j z hz => by simpa [Value.cells] using h4 j z (by simpa [IV.cells] using hz))⟩
    intro z hz q e
    obtain ⟨j, hj⟩ := List.getElem?_of_mem hz
    have hjl : j < fs.size := by rw [← hl]; exact (List.getElem?_eq_some_iff.1 hj).1
    obtain ⟨f, hfj⟩ : ∃ f, fs[j]? = some f := ⟨_, Array.getElem?_eq_getElem hjl⟩
    have h5 := hf j f z hfj hj
    have h6 := hok.2 j (by simpa using hjl)
    rw [hfj] at h6
    simp only [Bool.and_eq_true] at h6
    have h7 := h6.1.1.2
    subst e
    cases h5 with
    | g hu' _ _ => unfold cellT at h7; rw [hu'] at h7; simp at h7

/-- Several. -/
inductive Shs (P : Program) : List TypeId → List IV → Prop
  | nil : Shs P [] []
  | cons {t : TypeId} {y : IV} {ts : List TypeId} {ys : List IV} : Sh P t y → Shs P ts ys → Shs P (t :: ts) (y :: ys)

theorem args_rv (B : Bk H) {T : List TypeId} (hT : ∀ t ∈ T, okT P T t = true) {W : World} {r : Reach} {b0 : Nat} : ∀ {ts : List TypeId} {vs : List Value} {ds : List (DataW H)} {ps : List MemPlace}, (∀ t ∈ ts, t ∈ T) →
    (∀ (j : Nat) (t : TypeId) (v : Value), ts[j]? = some t → vs[j]? = some v → Value.okWide P W r b0 t v) → DataW.TrodAll enc P W 0 (fun _ => true) true ts vs ds ps →
    ∃ ys : List IV, Shs P ts ys ∧ wtI ys ≤ (ds.map B.bk).sum ∧ RVs W noβ Hp.none (fun _ => True) (ys.map IV.av) vs
  | [], vs, ds, ps, _, _, h => by
    obtain ⟨rfl, rfl, rfl⟩ := trodAll_nil h
    exact ⟨[], .nil, by simp [wtI], by simp [RVs]⟩
  | t :: ts, vs, ds, ps, ht, hv, h => by
    obtain ⟨v, vs, d, ds, p, q, rfl, rfl, rfl, h1, h2⟩ := trodAll_cons h
    obtain ⟨y, k1, k2, k3⟩ := arg_rv B hT (ht t (by simp)) (hv 0 t v rfl rfl) h1
    obtain ⟨ys, q1, q2, q3⟩ := args_rv B hT (fun t' h' => ht t' (by simp [h'])) (fun j t' v' a b => hv (j + 1) t' v' (by simpa using a) (by simpa using b)) h2
    exact ⟨y :: ys, .cons k1 q1, by simp only [wtI, List.map_cons, List.sum_cons]; omega, by simp only [List.map_cons, RVs]; exact ⟨v, vs, rfl, k3, q3⟩⟩

theorem trodAll_len {W : World} {b0 : Nat} {sp : Nat → Bool} {hd : Bool} : ∀ {ts : List TypeId} {vs : List Value} {ds : List (DataW H)} {ps : List MemPlace}, DataW.TrodAll enc P W b0 sp hd ts vs ds ps → ds.length = ts.length
  | [], vs, ds, ps, h => by
    obtain ⟨_, rfl, _⟩ := trodAll_nil h
    rfl
  | t :: ts, vs, ds, ps, h => by
    obtain ⟨v, vs, d, ds, p, q, rfl, rfl, rfl, _, h2⟩ := trodAll_cons h
    simp [trodAll_len h2]

/-- A LAW's CONTRACT CLOSES ITS ROW: without package variables. -/
theorem law_contract (B : Bk H) {T : List TypeId} (hT : ∀ t ∈ T, okT P T t = true) {f : Nat} {fn : Func} {s : ChangeSpec} {apart fresh handsOn again : Bool} {tb : TypeId} (hl : laidOutB P = true)
    (hp : ∀ t ∈ fn.params.toList, t ∈ T) (hr : fn.params.toList.all (rowedT P) = true) (hres : fn.resultTypes = #[tb]) (hub : P.underlying tb = some .bool) (hvars : s.vars = [])
    (W : World) (base : Nat) (args : Array Value) (ds gs : List (DataW H)) (before : List MemPlace)
    (hfn : ∀ ds : List (DataW H), ds.length = fn.params.toList.length → s.fn H ds = { results := [.lit (.bool true)], args := ds })
    (hval : ∀ (j : Nat) t v, fn.params[j]? = some t → args[j]? = some v → Value.okWide P W .any base t v)
    (hW : DataW.Whole enc P fn.params.toList s.vars apart W args.toList ds gs before)
    (hg : ∀ ys, Shs P fn.params.toList ys → wtI ys ≤ (ds.map B.bk).sum → PureC P noG f (ys.map IV.av) (.bool true)) :
    Calls P f args W fun e W' => ∃ v, e = .returned v ∧ s.post enc P fn apart fresh handsOn again W args v W' := by
  have hW' := hW
  obtain ⟨p, q, hA, hV, rfl, hz, hn⟩ := hW'
  obtain ⟨ys, h1, h2, h3⟩ := args_rv B hT hp (fun j t v a b => hval j t v (by simpa using a) (by simpa using b)) hA
  have := run_pure (hg ys h1 h2) h3
  simp only [Array.toArray_toList] at this
  refine this.mono ?_
  rintro e W' ⟨v, rfl, hb, hv⟩
  simp only [RV] at hv
  subst hv
  exact ⟨_, rfl, post_law hl hr hres hub hvars (hfn ds (trodAll_len hA)) hW hb⟩
end
end Go.Am
