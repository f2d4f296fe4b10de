/- THE ABSTRACT MACHINE, part 10: append. -/
import Derived.Test.YtfinkeaikbmpgaaAm9
set_option linter.defProp false
set_option linter.unnecessarySimpa false
set_option linter.unusedVariables false
set_option linter.unusedSimpArgs false
namespace Go.Am
open Go Go.RowKit

open Classical in
/-- The elements that are appended, or copied. -/
noncomputable def srcE (sz : Nat) (x : AV) (H : Hp) : Option (List (List AV)) :=
  match x with
  | .nil0 => some []
  | .list xs => if Elsz sz xs then some (xs.map fun y => y.cells.map IV.av1) else none
  | .str s => if sz = 1 then some (s.map fun c => [.int .u8 c.toNat]) else none
  | .sl l s i n => match H l with
    | .live r => if s = sz ∧ r.sz = sz ∧ i + n ≤ r.els.length then some ((r.els.drop i).take n) else none
    | _ => none
  | _ => none

def AV.one1 (x : List AV) : Prop := ∀ y ∈ x, y.one = true

open Classical in
noncomputable def appV (sz bytes d : Nat) (s x : AV) (H : Hp) : Option (AV × Hp) :=
  (srcE sz x H).bind fun news => if ¬ (∀ cs ∈ news, AV.one1 cs) then none else
    match s with
    | .nil0 => if news.length * bytes ≤ 140737488355328 ∧ 0 < bytes ∧ H (.loc d) = .unused then some (.sl (.loc d) sz 0 news.length, upd H (.loc d) (.live ⟨sz, news⟩)) else none
    | .sl l s' i n => match H l with
      | .live r => if s' = sz ∧ r.sz = sz ∧ i = 0 ∧ n ≤ r.els.length ∧ (n + news.length) * bytes ≤ 140737488355328 ∧ 0 < bytes ∧ l ≠ l.app d ∧ H (l.app d) = .unused then
          some (.sl (l.app d) sz 0 (n + news.length), upd (upd H l .dead) (l.app d) (.live ⟨sz, r.els.take n ++ news⟩)) else none
      | _ => none
    | _ => none

section
variable {P : Program} {w : World}

theorem run_append_in {st xt ty e : TypeId} {i : TypeInfo} (hu : P.underlying st = some (.slice e)) (hi : P.info? e = some i) {d : TypeDesc} (hx : P.underlying xt = some d) (hd : d = .string ∨ ∃ e2, d = .slice e2)
    (ad : Option Addr) (n c m : Nat) (xv : Value) (vals : Array Value) (hlen : (Builtin.lenOf xv).run P w = .ok m w) (hf : (Builtin.firstCells i.size m xv).run P w = .ok vals w) (hle : n + m ≤ c) :
    (Builtin.append_ #[st, xt] ty #[.slice ad n c, xv]).run P w = match ad with
      | none => .ok (.slice none (n + m) c) w
      | some q => ((storeCells (q.add (n * i.size)) vals.toList).run P w).andThen fun _ w' => .ok (.slice (some q) (n + m) c) w' := by
  rcases hd with rfl | ⟨e2, rfl⟩ <;> cases ad <;> simp [Builtin.append_, run_underlying hu, run_underlying hx, sizeOf, typeInfo, hi, hlen, hf, hle]

theorem run_append_out {st xt ty e : TypeId} {i : TypeInfo} {z : Value} (hu : P.underlying st = some (.slice e)) (hi : P.info? e = some i) (hz : i.zero = some z) {d : TypeDesc} (hx : P.underlying xt = some d) (hd : d = .string ∨ ∃ e2, d = .slice e2)
    (ad : Option Addr) (n c m : Nat) (xv : Value) (vals olds : Array Value) (hlen : (Builtin.lenOf xv).run P w = .ok m w) (hf : (Builtin.firstCells i.size m xv).run P w.drew = .ok vals w.drew)
    (ho : (Builtin.firstCells i.size n (.slice ad n c)).run P w.drew = .ok olds w.drew) (hgt : c < n + m) (hb : (n + m) * i.bytes ≤ 140737488355328) (hb0 : 0 < i.bytes) :
    (Builtin.append_ #[st, xt] ty #[.slice ad n c, xv]).run P w = .ok (.slice (some ⟨w.heap.size, 0, none⟩) (n + m) (grownCap w (n + m) c e))
      (w.drew.alloc (.cells (olds ++ vals ++ Builtin.zeroCells z.cells (grownCap w (n + m) c e - (n + m))) e)) := by
  have hn : ¬ (n + m ≤ c) := by omega
  have h63 : n + m ≤ (n + m) * i.bytes := Nat.le_mul_of_pos_right _ hb0
  have h63' : ¬ (9223372036854775807 < ((n : Int) + (m : Int))) := by omega
  have h48' : ¬ (281474976710656 < Builtin.nextslicecap (n + m) c * i.bytes) := by have := growslice_fits hgt hb; omega
  rcases hd with rfl | ⟨e2, rfl⟩ <;> simp [Builtin.append_, run_underlying hu, run_underlying hx, sizeOf, typeInfo, zeroValue, hi, hz, hlen, hn, h63', h48', Question.forced, hf, ho, newRow, grownCap]
end

section
variable {K : Kx} {β : Lb → Option Nat} {env : Env} {H : Hp} {a : Act} {w : World}

theorem elems_vals {I : Nat → Prop} {sz : Nat} (h0 : 0 < sz) : ∀ (xs : List IV) (b o : Nat), Elsz sz xs → ElemsR w I xs b o sz →
    ∃ vals : List Value, vals.length = xs.length * sz ∧ (∀ j v, vals[j]? = some v → w.cell? ⟨b, o + j, none⟩ = some v) ∧
      ∀ i j x y, xs[i]? = some x → (x.cells.map IV.av1)[j]? = some y → ∃ v, vals[i * sz + j]? = some v ∧ RV w β H I y v
  | [], b, o, _, _ => ⟨[], by simp, by simp, by simp⟩
  | x :: r, b, o, hs, he => by
    simp only [ElemsR] at he
    obtain ⟨h1, h2⟩ := he
    obtain ⟨vr, k1, k2, k3⟩ := elems_vals h0 r b (o + sz) (fun y hy => hs y (by simp [hy])) h2
    have hx := (ElemR_iff w I x b o sz).1 h1
    obtain ⟨vx, e1, e2, e3⟩ := RVs.map_av1 (β := β) (H := H) x.cells b o hx.2
    have hl : vx.length = sz := by rw [e2, hx.1]
    refine ⟨vx ++ vr, by simp [hl, k1, Nat.add_mul]; omega, ?_, ?_⟩
    · intro j v hj
      by_cases hjs : j < sz
      · rw [List.getElem?_append_left (by omega)] at hj
        exact e3 j v hj
      · rw [List.getElem?_append_right (by omega), hl] at hj
        have := k2 _ v hj
        rwa [show o + sz + (j - sz) = o + j by omega] at this
    · intro i j x' y hi hj
      cases i with
      | zero =>
        simp at hi; subst hi
        obtain ⟨v, q1, q2⟩ := RVs.get _ _ _ _ e1 hj
        refine ⟨v, ?_, q2⟩
        have : j < vx.length := (List.getElem?_eq_some_iff.1 q1).1
        simp only [Nat.zero_mul, Nat.zero_add]
        rw [List.getElem?_append_left this]; exact q1
      | succ i =>
        obtain ⟨v, q1, q2⟩ := k3 i j x' y (by simpa using hi) hj
        refine ⟨v, ?_, q2⟩
        rw [Nat.add_mul, Nat.one_mul, List.getElem?_append_right (by omega), hl, show i * sz + sz + j - sz = i * sz + j by omega]
        exact q1

theorem av1_one {y : IV} {x : IV} {sz : Nat} (h : ∀ z ∈ x.cells, z.av1.one = true) : True := trivial

structure Src (K : Kx) (β : Lb → Option Nat) (H : Hp) (w : World) (sz : Nat) (xv : Value) (news : List (List AV)) (vals : List Value) : Prop where
  len : vals.length = news.length * sz
  lenOf : (Builtin.lenOf xv).run K.P w = .ok news.length w
  cells : ∀ w1, (w1 = w ∨ w1 = w.drew) → (Builtin.firstCells sz news.length xv).run K.P w1 = .ok vals.toArray w1
  rv : ∀ i j cs y, news[i]? = some cs → cs[j]? = some y → ∃ v, vals[i * sz + j]? = some v ∧ RV w β H (Im K β H) y v
  sz' : ∀ cs ∈ news, cs.length = sz
  ment : ∀ cs ∈ news, ∀ l ∈ lbss cs, H l ≠ .unused

theorem src_run (hr : RelB K β env H a w) {x : Operand} {x' : O} {sz : Nat} {news : List (List AV)} (hx : co K.G x = some x') (h0 : 0 < sz) (hs : srcE sz (ev env x') H = some news) :
    ∃ vals, Src K β H w sz (a.eval x) news vals := by
  have h := hr.ev hx
  unfold srcE at hs
  split at hs
  · rename_i e
    rw [e] at h
    simp only [Option.some.injEq] at hs; subst hs
    simp only [RV] at h
    obtain ⟨ad, h⟩ := h
    rw [h]
    refine ⟨[], by simp, by simp [Builtin.lenOf], ?_, by simp, by simp, by simp⟩
    intro w1 _
    cases ad with
    | none => simp [Builtin.firstCells]
    | some q => simp [Builtin.firstCells, loadCells, loadCellsFrom]
  · rename_i xs e
    rw [e] at h
    split at hs
    · rename_i hel
      simp only [Option.some.injEq] at hs; subst hs
      simp only [RV, IVR] at h
      obtain ⟨ad, c, h1, h2, h3, h4⟩ := h
      rw [h1]
      rcases h4 with h4 | ⟨b, o', sz', rfl, e1, e2, e3, e4⟩
      · have : xs = [] := List.eq_nil_of_length_eq_zero h4
        subst this
        refine ⟨[], by simp, by simp [Builtin.lenOf], ?_, by simp, by simp, by simp⟩
        intro w1 _
        cases ad with
        | none => simp [Builtin.firstCells]
        | some q => simp [Builtin.firstCells, loadCells, loadCellsFrom]
      · by_cases hn : xs = []
        · subst hn
          refine ⟨[], by simp, by simp [Builtin.lenOf], ?_, by simp, by simp, by simp⟩
          intro w1 _
          simp [Builtin.firstCells, loadCells, loadCellsFrom]
        · have hsz := ElemsR_sz e4 hel (List.length_pos_iff.2 hn)
          subst hsz
          obtain ⟨vals, k1, k2, k3⟩ := elems_vals (β := β) (H := H) h0 xs b o' hel e4
          refine ⟨vals, by simpa using k1, by simp [Builtin.lenOf], ?_, ?_, ?_, ?_⟩
          · intro w1 hw1
            simp only [List.length_map]
            refine run_firstCells_some (P := K.P) w1 _ xs.length ⟨b, o', none⟩ xs.length c vals (by simpa using k1) (fun j v hj => ?_)
            rw [addr_add]
            rcases hw1 with rfl | rfl
            · exact k2 j v hj
            · simpa using k2 j v hj
          · intro i j cs y hi hj
            simp only [List.getElem?_map, Option.map_eq_some_iff] at hi
            obtain ⟨x0, hi, rfl⟩ := hi
            exact k3 i j x0 y hi hj
          · intro cs hcs
            simp only [List.mem_map] at hcs
            obtain ⟨x0, hx0, rfl⟩ := hcs
            simpa using hel x0 hx0
          · intro cs hcs l hl
            simp only [List.mem_map] at hcs
            obtain ⟨x0, hx0, rfl⟩ := hcs
            simp [lbss_map_av1] at hl
    · simp at hs
  · rename_i s e
    rw [e] at h
    split at hs
    · rename_i h1
      subst h1
      simp only [Option.some.injEq] at hs; subst hs
      simp only [RV] at h
      rw [h]
      refine ⟨s.map fun c => .int .u8 c.toNat, by simp, by simp [Builtin.lenOf, size_str], ?_, ?_, ?_, ?_⟩
      · intro w1 _
        have e1 : (⟨s.toArray⟩ : ByteArray).extract 0 s.length = ⟨s.toArray⟩ := by
          apply ByteArray.ext
          rw [ByteArray.data_extract]
          simp
        simp [Builtin.firstCells, e1]
      · intro i j cs y hi hj
        simp only [List.getElem?_map, Option.map_eq_some_iff] at hi
        obtain ⟨c, hi, rfl⟩ := hi
        cases j with
        | succ j => simp at hj
        | zero =>
          simp at hj; subst hj
          exact ⟨.int .u8 c.toNat, by simp [hi], by simp [RV]⟩
      · intro cs hcs
        simp only [List.mem_map] at hcs
        obtain ⟨c, _, rfl⟩ := hcs
        rfl
      · intro cs hcs l hl
        simp only [List.mem_map] at hcs
        obtain ⟨c, _, rfl⟩ := hcs
        simp [lbss, AV.lbs] at hl
    · simp at hs
  · rename_i l s i n e
    rw [e] at h
    split at hs
    · rename_i r hl
      split at hs
      · rename_i hc
        obtain ⟨rfl, hsz, hin⟩ := hc
        subst hsz
        simp only [Option.some.injEq] at hs; subst hs
        simp only [RV] at h
        obtain ⟨ad, c, h1, h2, h3, h4, h5⟩ := h
        rw [h1]
        have hnl : ((r.els.drop i).take n).length = n := by simp; omega
        by_cases hn : n = 0
        · subst hn
          refine ⟨[], by simp, by simp [Builtin.lenOf], ?_, by simp, by simp, by simp⟩
          intro w1 _
          cases ad with
          | none => simp [Builtin.firstCells]
          | some q => simp [Builtin.firstCells, loadCells, loadCellsFrom]
        · rcases h5 ⟨r, hl⟩ with h6 | ⟨g, S, e1, rfl, e3, e4⟩
          · omega
          · obtain ⟨cur, e0, cap, k1, k2, k3, k4, k5⟩ := (hr.rows l r hl).block e1
            have hS : cur.size = S := by
              unfold bsz at e3
              simp only [k1] at e3
              simpa using e3
            have hb : i * r.sz + n * r.sz ≤ cur.size := by
              rw [k2, ← Nat.add_mul]
              exact Nat.mul_le_mul_right _ (by omega)
            refine ⟨(cur.toList.drop (i * r.sz)).take (n * r.sz), by rw [hnl]; simp; omega, by rw [hnl]; simp [Builtin.lenOf], ?_, ?_, ?_, ?_⟩
            · intro w1 hw1
              rw [hnl]
              refine run_firstCells_some (P := K.P) w1 _ n ⟨g, i * r.sz, none⟩ n c _ (by simp; omega) (fun j v hj => ?_)
              rw [addr_add]
              have hcell : w.cell? ⟨g, i * r.sz + j, none⟩ = some v := by
                rw [cell_of_row w g _ cur e0 (0, 0) k1]
                rw [List.getElem?_take] at hj
                split at hj
                · simpa using hj
                · simp at hj
              rcases hw1 with rfl | rfl
              · exact hcell
              · simpa using hcell
            · intro i' j cs y hi hj
              rw [List.getElem?_take] at hi
              split at hi
              · rename_i hlt
                rw [List.getElem?_drop] at hi
                obtain ⟨v, q1, q2⟩ := k5 _ j cs y hi hj
                have hjs : j < r.sz := by
                  have := (hr.rows l r hl).2.1 cs (List.mem_of_getElem? hi)
                  have := (List.getElem?_eq_some_iff.1 hj).1
                  omega
                refine ⟨v, ?_, q2⟩
                have hlt2 : i' * r.sz + j < n * r.sz := by
                  have := Nat.mul_le_mul_right r.sz (show i' + 1 ≤ n by omega)
                  rw [Nat.add_mul] at this; omega
                rw [List.getElem?_take, if_pos hlt2, List.getElem?_drop, Array.getElem?_toList, ← q1]
                congr 1
                rw [Nat.add_mul]; omega
              · simp at hi
            · intro cs hcs
              exact (hr.rows l r hl).2.1 cs (List.mem_of_mem_drop (List.mem_of_mem_take hcs))
            · intro cs hcs
              exact hr.rment l r hl cs (List.mem_of_mem_drop (List.mem_of_mem_take hcs))
      · simp at hs
    · simp at hs
  · simp at hs

end
end Go.Am
