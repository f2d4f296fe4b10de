/- THE ABSTRACT MACHINE, part 20: regions whose order is drawn are sound. -/
import Derived.Test.YtfinkeaikbmpgaaAm19
set_option linter.defProp false
set_option linter.unnecessarySimpa false
set_option linter.unusedVariables false
set_option linter.unusedSimpArgs false
namespace Go.Am
open Go Go.RowKit

/-- What an operation must wait for. -/
def edgesOf (ops : Array Oper) : List (List Nat) := ops.toList.map fun o => (o.after.toList.filter (Region.binds .any)).map (·.on)

def items : Nat → List LIns → List Fp → List (Nat × LIns × Fp)
  | _, [], _ => []
  | n, i :: r, fs => (n, i, fs.headD .no) :: items (n + 1) r fs.tail

def pairsOK (es : List (List Nat)) : List (Nat × LIns × Fp) → Bool
  | [] => true
  | p :: r => r.all (fun q => (es.getD q.1 []).contains p.1 || indep p.2 q.2) && pairsOK es r

def backOK (es : List (List Nat)) (l : List (Nat × LIns × Fp)) : Bool := l.all fun p => (es.getD p.1 []).all fun e => decide (e < p.1)

/-- Whichever order is drawn, the same comes of it. -/
def ordOK (is : List LIns) (es : List (List Nat)) (fs : List Fp) : Bool := pairsOK es (items 0 is fs) && backOK es (items 0 is fs)

theorem pairsOK_spec {es : List (List Nat)} : ∀ {l : List (Nat × LIns × Fp)}, pairsOK es l = true → l.Pairwise fun p q => p.1 ∈ es.getD q.1 [] ∨ indep p.2 q.2 = true
  | [], _ => .nil
  | p :: r, h => by
    simp only [pairsOK, Bool.and_eq_true, List.all_eq_true, Bool.or_eq_true, List.contains_eq_mem, decide_eq_true_eq] at h
    exact .cons h.1 (pairsOK_spec h.2)

section
variable {K : Kx} {env : Env} {H : Hp} {a : Act} {w : World}

theorem ready_mem {ops : Array Oper} {listed : Array Bool} {i : Nat} : i ∈ Region.ready .any ops listed ↔
    i < ops.size ∧ listed.getD i true = false ∧ ∃ o, ops[i]? = some o ∧ ∀ e ∈ o.after, Region.binds .any e = true → listed.getD e.on false = true := by
  unfold Region.ready
  simp only [List.mem_filter, List.mem_range, Bool.and_eq_true, Bool.not_eq_true']
  constructor
  · rintro ⟨h1, h2, h3⟩
    refine ⟨h1, h2, ?_⟩
    cases ho : ops[i]? with
    | none => rw [ho] at h3; simp at h3
    | some o =>
      rw [ho] at h3
      simp only [Option.map_some, Option.getD_some] at h3
      refine ⟨o, rfl, fun e he hb => ?_⟩
      have h3' := Array.all_eq_true_iff_forall_mem.1 h3
      have := h3' e he
      simpa [hb] using this
  · rintro ⟨h1, h2, o, h3, h4⟩
    refine ⟨h1, h2, ?_⟩
    rw [h3]
    simp only [Option.map_some, Option.getD_some]
    refine Array.all_eq_true_iff_forall_mem.2 fun e he => ?_
    cases hb : Region.binds .any e with
    | false => rfl
    | true => simpa using h4 e he hb

theorem edgesOf_mem {ops : Array Oper} {i : Nat} {o : Oper} (ho : ops[i]? = some o) {e : Edge} (he : e ∈ o.after) (hb : Region.binds .any e = true) : e.on ∈ (edgesOf ops).getD i [] := by
  unfold edgesOf
  rw [List.getD_eq_getElem?_getD, List.getElem?_map, Array.getElem?_toList, ho]
  simp only [Option.map_some, Option.getD_some, List.mem_map, List.mem_filter, Array.mem_toList_iff]
  exact ⟨e, ⟨he, hb⟩, rfl⟩

theorem any_sound {ops : Array Oper} {k : Env → Hp → Prop} {Q : Exit → Act → World → Prop} (hk : ∀ env' H' β' a' w', k env' H' → RelB K β' env' H' a' w' → Q .normal a' w') :
    ∀ (fuel : Nat) (l : List (Nat × LIns × Fp)) (listed : Array Bool) (env : Env) (H : Hp) (a : Act) (w : World) (β : Lb → Option Nat), l.length = fuel →
      l.Pairwise (fun p q => p.1 < q.1) → listed.size = ops.size → (∀ i, i < ops.size → (listed.getD i true = false ↔ ∃ p ∈ l, p.1 = i)) →
      (∀ p ∈ l, p.1 < ops.size ∧ ∃ o, ops[p.1]? = some o ∧ compL K.P K.G ops o = some p.2.1.asIs) →
      l.Pairwise (fun p q => p.1 ∈ (edgesOf ops).getD q.1 [] ∨ indep p.2 q.2 = true) → (∀ p ∈ l, ∀ e ∈ (edgesOf ops).getD p.1 [], e < p.1) →
      AOf ⟨K.P, K.G, K.N⟩ l env H k → RelB K β env H a w → wpAny K.P .any ops Q fuel listed a w := by
  intro fuel
  induction fuel with
  | zero =>
    intro l listed env H a w β hlen _ _ hl _ _ _ hA hr
    have : l = [] := List.eq_nil_of_length_eq_zero hlen
    subst this
    refine ⟨?_, hk _ _ _ _ _ hA hr⟩
    rw [List.eq_nil_iff_forall_not_mem]
    intro i hi
    obtain ⟨h1, h2, _⟩ := ready_mem.1 hi
    obtain ⟨p, hp, _⟩ := (hl i h1).1 h2
    simp at hp
  | succ fuel ih =>
    intro l listed env H a w β hlen hsort hsz hl hops hpairs hback hA hr
    refine ⟨fun hnil => ?_, fun i hi => ?_⟩
    · exfalso
      cases l with
      | nil => simp at hlen
      | cons p r =>
        obtain ⟨hp1, o, hp2, hp3⟩ := hops p (by simp)
        have : p.1 ∈ Region.ready .any ops listed := by
          refine ready_mem.2 ⟨hp1, (hl p.1 hp1).2 ⟨p, by simp, rfl⟩, o, hp2, fun e he hb => ?_⟩
          have hlt := hback p (by simp) e.on (edgesOf_mem hp2 he hb)
          have hlt2 : e.on < ops.size := by omega
          have hne : ¬ listed.getD e.on true = false := by
            rw [hl e.on hlt2]
            rintro ⟨q, hq, hqe⟩
            rcases List.mem_cons.1 hq with rfl | hq
            · omega
            · have := (List.pairwise_cons.1 hsort).1 q hq
              omega
          rw [Array.getD_eq_getD_getElem?] at hne ⊢
          rw [Array.getElem?_eq_getElem (by omega)] at hne ⊢
          simpa using hne
        rw [hnil] at this
        simp at this
    · obtain ⟨h1, h2, o, h3, h4⟩ := ready_mem.1 hi
      obtain ⟨p, hp, rfl⟩ := (hl i h1).1 h2
      obtain ⟨l1, l2, rfl⟩ := List.append_of_mem hp
      obtain ⟨_, o', ho', hcomp⟩ := hops p hp
      rw [h3] at ho'; cases ho'
      have hind : ∀ q ∈ l1, indep q.2 p.2 = true := by
        intro q hq
        rcases (List.pairwise_append.1 hpairs).2.2 q hq p (by simp) with he | he
        · exfalso
          unfold edgesOf at he
          rw [List.getD_eq_getElem?_getD, List.getElem?_map, Array.getElem?_toList, h3] at he
          simp only [Option.map_some, Option.getD_some, List.mem_map, List.mem_filter, Array.mem_toList_iff] at he
          obtain ⟨e, ⟨he1, he2⟩, he3⟩ := he
          have hq1 := h4 e he1 he2
          rw [he3] at hq1
          have hqs := (hops q (by simp [hq])).1
          have hq2 := (hl q.1 hqs).2 ⟨q, by simp [hq], rfl⟩
          rw [Array.getD_eq_getD_getElem?] at hq1 hq2
          rw [Array.getElem?_eq_getElem (by omega)] at hq1 hq2
          simp at hq1 hq2
          rw [hq1] at hq2
          simp at hq2
        · exact he
      have hA' := AOf.front l1 env H hind hA
      simp only [AOf] at hA'
      have hne : ∀ q ∈ l1 ++ l2, q.1 ≠ p.1 := by
        intro q hq e
        rcases List.mem_append.1 hq with hq | hq
        · have := (List.pairwise_append.1 hsort).2.2 q hq p (by simp); omega
        · have := (List.pairwise_cons.1 (List.pairwise_append.1 hsort).2.1).1 q hq; omega
      have hsub : (l1 ++ l2).Sublist (l1 ++ p :: l2) := List.Sublist.append_left (List.sublist_cons_self p l2) l1
      have hmem : ∀ q ∈ l1 ++ l2, q ∈ l1 ++ p :: l2 := fun q hq => hsub.subset hq
      have hnext : ∀ env' H' β' a' w', AOf ⟨K.P, K.G, K.N⟩ (l1 ++ l2) env' H' k → RelB K β' env' H' a' w' → wpAny K.P .any ops Q fuel (listed.setIfInBounds p.1 true) a' w' := by
        intro env' H' β' a' w' q1 q2
        refine ih (l1 ++ l2) _ env' H' a' w' β' (by simp at hlen ⊢; omega) (hsort.sublist hsub) (by simp [hsz]) (fun j hj => ?_) (fun q hq => hops q (hmem q hq)) (hpairs.sublist hsub)
          (fun q hq => hback q (hmem q hq)) q1 q2
        rw [Array.getD_eq_getD_getElem?, Array.getElem?_setIfInBounds]
        by_cases e : p.1 = j
        · subst e
          simp only [if_true]
          rw [if_pos (by omega)]
          simp only [Option.getD_some, Bool.true_eq_false, false_iff]
          rintro ⟨q, hq, e⟩
          exact hne q hq e
        · rw [if_neg e, ← Array.getD_eq_getD_getElem?, hl j hj]
          constructor
          · rintro ⟨q, hq, rfl⟩
            refine ⟨q, ?_, rfl⟩
            simp only [List.mem_append, List.mem_cons] at hq ⊢
            rcases hq with hq | hq | hq
            · exact .inl hq
            · subst hq; exact absurd rfl e
            · exact .inr hq
          · rintro ⟨q, hq, rfl⟩
            exact ⟨q, hmem q hq, rfl⟩
      simp only [wpOp, h3]
      refine step_sound hr hcomp (k := fun e h => AOf ⟨K.P, K.G, K.N⟩ (l1 ++ l2) e h k) hnext ?_
      rcases hA' with ⟨g1, g2, g3⟩ | ⟨g1, g2, g3⟩
      · exact .inl ⟨g1, g2, g3.act⟩
      · exact .inr ⟨g1, g2, g3⟩

theorem items_mem : ∀ (is : List LIns) (n : Nat) (fs : List Fp) (p : Nat × LIns × Fp), p ∈ items n is fs → n ≤ p.1 ∧ is[p.1 - n]? = some p.2.1
  | [], n, fs, p, h => by simp [items] at h
  | i :: r, n, fs, p, h => by
    simp only [items, List.mem_cons] at h
    rcases h with rfl | h
    · simp
    · obtain ⟨h1, h2⟩ := items_mem r (n + 1) _ p h
      refine ⟨by omega, ?_⟩
      rw [show p.1 - n = (p.1 - (n + 1)) + 1 by omega]
      simpa using h2

theorem items_sorted : ∀ (is : List LIns) (n : Nat) (fs : List Fp), (items n is fs).Pairwise fun p q => p.1 < q.1
  | [], n, fs => .nil
  | i :: r, n, fs => by
    simp only [items]
    refine .cons (fun q hq => ?_) (items_sorted r (n + 1) _)
    have := (items_mem r (n + 1) _ q hq).1
    simp only; omega

theorem items_len : ∀ (is : List LIns) (n : Nat) (fs : List Fp), (items n is fs).length = is.length
  | [], n, fs => rfl
  | i :: r, n, fs => by simp [items, items_len r]

theorem items_has : ∀ (is : List LIns) (n : Nat) (fs : List Fp) (j : Nat), j < is.length → ∃ p ∈ items n is fs, p.1 = n + j
  | [], n, fs, j, h => by simp at h
  | i :: r, n, fs, 0, h => ⟨_, List.mem_cons_self .., rfl⟩
  | i :: r, n, fs, j + 1, h => by
    obtain ⟨p, h1, h2⟩ := items_has r (n + 1) fs.tail j (by simpa using h)
    exact ⟨p, by simp only [items]; exact List.mem_cons_of_mem _ h1, by omega⟩

theorem all2_get {α β : Type} {R : α → β → Prop} : ∀ {l : List α} {m : List β}, All2 R l m → l.length = m.length ∧ ∀ (i : Nat) (y : β), m[i]? = some y → ∃ x, l[i]? = some x ∧ R x y
  | _, _, .nil => ⟨rfl, by simp⟩
  | _, _, .cons h1 h2 => by
    obtain ⟨e, h⟩ := all2_get h2
    refine ⟨by simp [e], fun i y hy => ?_⟩
    cases i with
    | zero => simp at hy; subst hy; exact ⟨_, by simp, h1⟩
    | succ i => obtain ⟨x, q1, q2⟩ := h i y (by simpa using hy); exact ⟨x, by simpa using q1, q2⟩

theorem RelB.drew {β : Lb → Option Nat} (hr : RelB K β env H a w) : RelB K β env H a { w with drawn := w.drawn + 1 } := by
  have hg : Grew w { w with drawn := w.drawn + 1 } := ⟨rfl, rfl, rfl, Nat.le_refl _, fun _ _ => rfl⟩
  have := hr.step hg (d := none) (x := .un) (v := undef) (by simp) (by simp) (by simp)
  simpa [putO, Act.put] using this

theorem drawn_sound {β : Lb → Option Nat} (hr : RelB K β env H a w) {id : Nat} {ops : Array Oper} (hm : K.P.follows .mixedOrders = true) {is : List LIns} {fs : List Fp}
    (hall : All2 (fun o i => compL K.P K.G ops o = some (LIns.asIs i)) ops.toList is) (ho : ordOK is (edgesOf ops) fs = true) {k : Env → Hp → Prop} {Q : Exit → Act → World → Prop}
    (hk : ∀ env' H' β' a' w', k env' H' → RelB K β' env' H' a' w' → Q .normal a' w') (hA : AOf ⟨K.P, K.G, K.N⟩ (items 0 is fs) env H k) : (Code.region id ops true).wp K.P Q a w := by
  obtain ⟨hlen, hget⟩ := all2_get hall
  simp only [Array.length_toList] at hlen
  simp only [ordOK, Bool.and_eq_true] at ho
  obtain ⟨ho1, ho2⟩ := ho
  refine wp_region_any hm (any_sound hk ops.size (items 0 is fs) _ env H a _ β (by rw [items_len]; exact hlen.symm) (items_sorted is 0 fs) (by simp) (fun i hi => ?_) (fun p hp => ?_)
    (pairsOK_spec ho1) (fun p hp e he => ?_) hA hr.drew)
  · rw [Array.getD_eq_getD_getElem?, Array.getElem?_replicate, if_pos hi]
    simp only [Option.getD_some, true_iff]
    obtain ⟨p, h1, h2⟩ := items_has is 0 fs i (by omega)
    exact ⟨p, h1, by omega⟩
  · obtain ⟨h1, h2⟩ := items_mem is 0 fs p hp
    simp only [Nat.sub_zero] at h2
    obtain ⟨o, q1, q2⟩ := hget p.1 _ h2
    have := (List.getElem?_eq_some_iff.1 h2).1
    exact ⟨by omega, o, by simpa using q1, q2⟩
  · simp only [backOK, List.all_eq_true, decide_eq_true_eq] at ho2
    exact ho2 p hp e he

end
end Go.Am
