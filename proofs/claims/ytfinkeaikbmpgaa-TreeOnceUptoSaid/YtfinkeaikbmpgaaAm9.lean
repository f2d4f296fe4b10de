/- THE ABSTRACT MACHINE, part 9: the instructions that read, make and write owned rows. -/
import Derived.Test.YtfinkeaikbmpgaaAm8
set_option linter.defProp false
set_option linter.unnecessarySimpa false
set_option linter.unusedVariables false
set_option linter.unusedSimpArgs false
namespace Go.Am
open Go Go.RowKit

/-- A load out of an owned row. -/
def loadV (m : Option Nat) (x : AV) (H : Hp) : Option AV :=
  match x with
  | .ptr l sz i j => match H l with
    | .live r => if r.sz = sz then (r.els[i]?).bind fun cs => match m with
        | none => cs[j]?
        | some k => if j + k ≤ cs.length then some (.agg ((cs.drop j).take k)) else none
      else none
    | _ => none
  | _ => none

/-- A store into an owned row. -/
def storeV (m : Nat) (a x : AV) (H : Hp) : Option Hp :=
  match a with
  | .ptr l sz i j => match H l with
    | .live r => if r.sz = sz ∧ x.stb = true ∧ x.cells.length = m then (r.els[i]?).bind fun cs =>
        if j + m ≤ cs.length then some (upd H l (.live ⟨sz, r.els.set i (cs.take j ++ x.cells ++ cs.drop (j + m))⟩)) else none
      else none
    | _ => none
  | _ => none

/-- The operation does this: a value (or none) comes, the rows are now so. -/
def StepR (K : Kx) (env : Env) (a : Act) (w : World) (o : Oper) (d : Option Nat) (x : AV) (H' : Hp) : Prop :=
  ∃ nx w' β' v, (execOp a.eval o).run K.P w = .ok nx w' ∧ (nx = .value v ∨ (nx = .skip ∧ v = undef)) ∧ RelB K β' (putO env d x) H' (a.put d v) w'

section
variable {K : Kx} {β : Lb → Option Nat} {env : Env} {H : Hp} {a : Act} {w : World}

theorem StepV.r {o : Oper} {x : AV} {d : Option Nat} (hr : RelB K β env H a w) (hd : ∀ n, d = some n → n < K.N) (h : StepV K β H a w o x) : StepR K env a w o d x H := by
  obtain ⟨v, w', h1, h2, h3, h4⟩ := h
  exact ⟨_, w', β, v, h1, .inl rfl, hr.step h2 hd (fun _ => h3) (fun _ => h4)⟩

theorem RowR.block {l : Lb} {r : Row} {g : Nat} {I : Nat → Prop} (h : RowR w β H I l r) (hb : β l = some g) :
    ∃ cur e cap, w.heap[g]? = some (.cells cur e (0, 0)) ∧ cur.size = cap * r.sz ∧ cap ≤ maxLen ∧ r.els.length ≤ cap ∧
      ∀ i j cs x, r.els[i]? = some cs → cs[j]? = some x → ∃ v, cur[i * r.sz + j]? = some v ∧ RV w β H I x v := by
  obtain ⟨_, _, h3⟩ := h
  simpa only [hb] using h3

/-- The values of a row's element, from one of its cells on. -/
theorem elem_vals {r : Row} {cur : Array Value} {I : Nat → Prop} {i : Nat} {cs : List AV} (hi : r.els[i]? = some cs)
    (h : ∀ i j cs x, r.els[i]? = some cs → cs[j]? = some x → ∃ v, cur[i * r.sz + j]? = some v ∧ RV w β H I x v) :
    ∃ vs : List Value, vs.length = cs.length ∧ RVs w β H I cs vs ∧ ∀ j v, vs[j]? = some v → cur[i * r.sz + j]? = some v := by
  have key : ∀ (n : Nat) (ds : List AV), ds = cs.drop n → ∃ vs : List Value, vs.length = ds.length ∧ RVs w β H I ds vs ∧ ∀ j v, vs[j]? = some v → cur[i * r.sz + (n + j)]? = some v := by
    intro n ds
    induction ds generalizing n with
    | nil => intro _; exact ⟨[], rfl, by simp [RVs], by simp⟩
    | cons x ds ih =>
      intro e
      have hx : cs[n]? = some x := by rw [← List.head?_drop, ← e]; rfl
      have hd : ds = cs.drop (n + 1) := by rw [← List.tail_drop, ← e]; rfl
      obtain ⟨v, h1, h2⟩ := h i n cs x hi hx
      obtain ⟨vs, k1, k2, k3⟩ := ih (n + 1) hd
      refine ⟨v :: vs, by simp [k1], ⟨v, vs, rfl, h2, k2⟩, ?_⟩
      intro j u hj
      cases j with
      | zero => simp at hj; subst hj; simpa using h1
      | succ j =>
        have := k3 j u (by simpa using hj)
        rwa [show n + 1 + j = n + (j + 1) by omega] at this
  obtain ⟨vs, k1, k2, k3⟩ := key 0 cs (by simp)
  exact ⟨vs, k1, k2, fun j v hj => by simpa using k3 j v hj⟩

theorem AV.stb_cells {x : AV} (h : x.stb = true) : ∀ y ∈ x.cells, y.one = true := by
  cases x <;> simp [AV.stb, AV.one] at h <;> simp [AV.cells, AV.one]
  exact h

def StepE (K : Kx) (β : Lb → Option Nat) (H : Hp) (a : Act) (w : World) (o : Oper) (x : AV) : Prop :=
  ∃ v, (execOp a.eval o).run K.P w = .ok (.value v) w ∧ RV w β H (Im K β H) x v ∧ ∀ l ∈ x.lbs, H l ≠ .unused

theorem StepE.v {o : Oper} {x : AV} (h : StepE K β H a w o x) : StepV K β H a w o x := by
  obtain ⟨v, h1, h2, h3⟩ := h
  exact .same h1 h2 h3

theorem StepE.same {o : Oper} {x : AV} {v : Value} (h : (execOp a.eval o).run K.P w = .ok (.value v) w)
    (hv : RV w β H (Im K β H) x v) (hm : ∀ l ∈ x.lbs, H l ≠ .unused) : StepE K β H a w o x := ⟨v, h, hv, hm⟩

theorem r_loadE (hr : RelB K β env H a w) {o : Oper} {t : TypeId} {x : Operand} {x' : O} {m : Option Nat} (ho : o.op = .load t x) (hm : mOf K.P t = some m) (hx : co K.G x = some x') {y : AV}
    (hy : loadV m (ev env x') H = some y) : StepE K β H a w o y := by
  have h := hr.ev hx
  unfold loadV at hy
  split at hy
  · rename_i l sz i j e
    rw [e] at h
    simp only [RV] at h
    obtain ⟨ad, h1, h2⟩ := h
    split at hy
    · rename_i r hl
      split at hy
      · rename_i hsz
        subst hsz
        obtain ⟨cs, hi, hy⟩ := Option.bind_eq_some_iff.1 hy
        obtain ⟨g, hb, rfl⟩ := h2 ⟨r, hl⟩
        obtain ⟨cur, e0, cap, k1, k2, k3, k4, k5⟩ := (hr.rows l r hl).block hb
        obtain ⟨vs, v1, v2, v3⟩ := elem_vals hi k5
        have hcell : ∀ q v, vs[q]? = some v → w.cell? ⟨g, i * r.sz + q, none⟩ = some v := by
          intro q v hq
          rw [cell_of_row w g _ cur e0 (0, 0) k1]
          exact v3 q v hq
        have run : ∀ v, (loadVar t ⟨g, i * r.sz + j, none⟩).run K.P w = .ok v w → (execOp a.eval o).run K.P w = .ok (.value v) w := by
          intro v hv
          simp [execOp, ho, h1, Instr.loadAt, Instr.sureAddr, hv]
        have hment : ∀ q ∈ lbss cs, H q ≠ .unused := hr.rment l r hl cs (List.mem_of_getElem? hi)
        cases m with
        | none =>
          simp only at hy
          obtain ⟨v, e1, e2⟩ := RVs.get _ _ _ _ v2 hy
          exact StepE.same (run v (run_loadVar_one hm _ _ (hcell j v e1))) e2 (fun q hq => hment q (lbss_get _ _ _ hy q hq))
        | some k =>
          simp only at hy
          split at hy
          · rename_i hk
            simp only [Option.some.injEq] at hy; subst hy
            refine StepE.same (run (.agg ((vs.drop j).take k).toArray) (run_loadVar_agg hm _ _ (by simp; omega) (fun q v hq => ?_))) ⟨_, rfl, RVs.take _ _ _ (RVs.drop _ _ _ v2)⟩ ?_
            · rw [List.getElem?_take] at hq
              split at hq
              · rw [List.getElem?_drop] at hq
                rw [addr_add, Nat.add_assoc]
                exact hcell _ v hq
              · simp at hq
            · intro q hq
              simp only [AV.lbs] at hq
              refine hment q ?_
              have happ : ∀ (l m : List AV), lbss (l ++ m) = lbss l ++ lbss m := by
                intro l m
                induction l with
                | nil => rfl
                | cons x r ih => simp [lbss, ih]
              have e1 := happ (cs.take j) (cs.drop j)
              rw [List.take_append_drop] at e1
              have e2 := happ ((cs.drop j).take k) ((cs.drop j).drop k)
              rw [List.take_append_drop] at e2
              rw [e1, e2]
              exact List.mem_append.2 (.inr (List.mem_append.2 (.inl hq)))
          · simp at hy
      · simp at hy
    · simp at hy
  · simp at hy

theorem r_load (hr : RelB K β env H a w) {o : Oper} {t : TypeId} {x : Operand} {x' : O} {m : Option Nat} (ho : o.op = .load t x) (hm : mOf K.P t = some m) (hx : co K.G x = some x') {y : AV}
    (hy : loadV m (ev env x') H = some y) : StepV K β H a w o y := (r_loadE hr ho hm hx hy).v

/-- New memory of one variable. -/
theorem r_new (hr : RelB K β env H a w) {o : Oper} {c : Array Value} {e : TypeId} {cs : List AV} {d : Nat} (hd : d < K.N)
    (hrun : (execOp a.eval o).run K.P w = .ok (.value (.pointer (some ⟨w.heap.size, 0, none⟩))) (w.alloc (.cells c e)))
    (hc : RVs w β H (Im K β H) cs c.toList) (h0 : 0 < cs.length) (hmax : cs.length ≤ maxLen) (hm : ∀ l ∈ lbss cs, H l ≠ .unused) (hu : H (.loc d) = .unused) :
    StepR K env a w o (some d) (.ptr (.loc d) cs.length 0 0) (upd H (.loc d) (.live ⟨cs.length, [cs]⟩)) := by
  have gw := grew_alloc w (.cells c e)
  have hlen : c.size = cs.length := by rw [← RVs.len _ _ hc]; simp
  have keep : Keeps2 w (w.alloc (.cells c e)) β (upd β (.loc d) (some w.heap.size)) H (upd H (.loc d) (.live ⟨cs.length, [cs]⟩)) (Im K β H)
      (Im K (upd β (.loc d) (some w.heap.size)) (upd H (.loc d) (.live ⟨cs.length, [cs]⟩))) (lbss cs) :=
    { im := fun k hk hs => ⟨⟨hk.1, fun l' ⟨r', hl'⟩ => by
        by_cases e1 : l' = .loc d
        · subst e1; simp; omega
        · rw [upd_ne _ _ e1] at hl' ⊢; exact hk.2 l' ⟨r', hl'⟩⟩, Nat.lt_of_lt_of_le hs gw.size, gw.block k hs⟩
      lb := fun l' hl'' ⟨r', hl'⟩ => by
        have e1 : l' ≠ .loc d := fun e1 => hm l' hl'' (e1 ▸ hu)
        rw [upd_ne _ _ e1] at hl'
        refine ⟨⟨r', hl'⟩, upd_ne _ _ e1, fun g S _ hS => ?_⟩
        unfold bsz at *
        rwa [gw.block g (bsz_lt hS)] }
  have hrow : RowR (w.alloc (.cells c e)) (upd β (.loc d) (some w.heap.size)) (upd H (.loc d) (.live ⟨cs.length, [cs]⟩))
      (Im K (upd β (.loc d) (some w.heap.size)) (upd H (.loc d) (.live ⟨cs.length, [cs]⟩))) (.loc d) ⟨cs.length, [cs]⟩ := by
    refine ⟨h0, by simp, ?_⟩
    simp only [upd_same]
    refine ⟨c, e, 1, heap_alloc_new w (.cells c e), by simp [hlen], by simp [maxLen], by simp, fun i j cs' x hi hj => ?_⟩
    cases i with
    | succ i => simp at hi
    | zero =>
      simp at hi; subst hi
      obtain ⟨v, k1, k2⟩ := RVs.get _ _ _ _ hc hj
      refine ⟨v, by simpa using k1, RV.mono _ _ (keep.sub (fun l hl => lbss_get _ _ _ hj l hl)) k2⟩
  have h2 := hr.addRow (.loc d) hu gw (some w.heap.size) (by simp) (by simpa using hm) hrow
  have h3 := h2.step (Below.refl _ _) (d := some d) (x := .ptr (.loc d) cs.length 0 0) (v := .pointer (some ⟨w.heap.size, 0, none⟩)) (by simpa using hd)
    (fun _ => by simp only [RV]; exact ⟨_, rfl, fun _ => ⟨w.heap.size, by simp, by simp⟩⟩) (by simp [AV.lbs])
  exact ⟨_, _, _, _, hrun, .inl rfl, h3⟩

theorem r_box (hr : RelB K β env H a w) {o : Oper} {t : TypeId} {x : Operand} {x' : O} {d : Nat} (hd : d < K.N) (ho : o.op = .box t x) (hx : co K.G x = some x') (hst : (ev env x').stb = true)
    (h0 : 0 < (ev env x').cells.length) (hmax : (ev env x').cells.length ≤ maxLen) (hu : H (.loc d) = .unused) :
    StepR K env a w o (some d) (.ptr (.loc d) (ev env x').cells.length 0 0) (upd H (.loc d) (.live ⟨(ev env x').cells.length, [(ev env x').cells]⟩)) := by
  have h := hr.ev hx
  have hm := hr.ev_ment hx
  obtain ⟨k1, k2⟩ := RVs.cells_len h (AV.stb_or hst)
  refine r_new hr hd (c := (a.eval x).cells) (e := t) ?_ k2 h0 hmax ?_ hu
  · simp [execOp, ho, Instr.box, newVar, newRow]
  · intro l hl
    refine hm l ?_
    cases hc : ev env x' <;> simp [hc, AV.cells, lbss] at hl <;> simp [AV.lbs] at hl ⊢ <;> exact hl

theorem lbss_cvs : ∀ (l : List Value) (xs : List AV), cvs l = some xs → lbss xs = []
  | [], xs, h => by simp [cvs] at h; subst h; rfl
  | v :: r, xs, h => by
    simp only [cvs, Option.bind_eq_some_iff, Option.map_eq_some_iff] at h
    obtain ⟨x, h1, s, h2, rfl⟩ := h
    simp [lbss, cv_lbs h1, lbss_cvs r s h2]

theorem r_alloc (hr : RelB K β env H a w) {o : Oper} {t : TypeId} {i : TypeInfo} {z : Value} {cs : List AV} {d : Nat} (hd : d < K.N) (ho : o.op = .alloc t) (hi : K.P.info? t = some i) (hz : i.zero = some z)
    (hcv : cvs z.cells.toList = some cs) (h0 : 0 < cs.length) (hmax : cs.length ≤ maxLen) (hu : H (.loc d) = .unused) :
    StepR K env a w o (some d) (.ptr (.loc d) cs.length 0 0) (upd H (.loc d) (.live ⟨cs.length, [cs]⟩)) := by
  refine r_new hr hd (c := z.cells) (e := t) ?_ (cvs_rv _ _ hcv _ _ _ _) h0 hmax (by simp [lbss_cvs _ _ hcv]) hu
  simp [execOp, ho, Instr.alloc, zeroValue, typeInfo, hi, hz, newVar, newRow]

theorem r_store (hr : RelB K β env H a w) {o : Oper} {t : TypeId} {x y : Operand} {x' y' : O} {m : Nat} (ho : o.op = .store t x y) (hm : tsz K.P t = some m) (hx : co K.G x = some x') (hy : co K.G y = some y') {H' : Hp}
    (hs : storeV m (ev env x') (ev env y') H = some H') : StepR K env a w o none .un H' := by
  have h := hr.ev hx
  have h2 := hr.ev hy
  have hmy := hr.ev_ment hy
  unfold storeV at hs
  split at hs
  · rename_i l sz i j e
    rw [e] at h
    simp only [RV] at h
    obtain ⟨ad, h1, h3⟩ := h
    split at hs
    · rename_i r hl
      split at hs
      · rename_i hc
        obtain ⟨hsz, hst, hlen⟩ := hc
        subst hsz
        obtain ⟨cs, hi, hs⟩ := Option.bind_eq_some_iff.1 hs
        split at hs
        · rename_i hjm
          simp only [Option.some.injEq] at hs; subst hs
          obtain ⟨g, hb, rfl⟩ := h3 ⟨r, hl⟩
          obtain ⟨cur, e0, cap, k1, k2, k3, k4, k5⟩ := (hr.rows l r hl).block hb
          obtain ⟨c1, c2⟩ := RVs.cells_len h2 (AV.stb_or hst)
          have hil : i < r.els.length := (List.getElem?_eq_some_iff.1 hi).1
          have hcl : cs.length = r.sz := (hr.rows l r hl).2.1 cs (List.mem_of_getElem? hi)
          have hbound : i * r.sz + r.sz ≤ cur.size := by
            rw [k2, ← Nat.succ_mul]
            exact Nat.mul_le_mul_right _ (by omega)
          have hvl : (a.eval y).cells.toList.length = m := by simp; omega
          have hst' := run_storeCells_at K.P g (i * r.sz + j) e0 (a.eval y).cells.toList 0 cur w k1 (by omega) (by
            intro u hu
            obtain ⟨q, hq⟩ := List.getElem?_of_mem hu
            have hql : q < (ev env y').cells.length := by
              have := (List.getElem?_eq_some_iff.1 hq).1
              omega
            obtain ⟨u', e1, e2⟩ := RVs.get _ _ q _ c2 (List.getElem?_eq_getElem hql)
            rw [hq] at e1; cases e1
            exact RV.oneCell e2 (AV.stb_cells hst _ (List.getElem_mem hql)))
          simp only [Nat.add_zero] at hst'
          have hrun : (execOp a.eval o).run K.P w = .ok .skip (w.setRow g (cur.toList.take (i * r.sz + j) ++ (a.eval y).cells.toList ++ cur.toList.drop (i * r.sz + j + (a.eval y).cells.toList.length)).toArray) := by
            have hne : ¬ (a.eval y).cells.size ≠ m := by simp at hvl; simp [hvl]
            simp only [execOp, ho, h1, Instr.storeAt, Instr.sureAddr, Sem.run_bind, Sem.run_pure, Result.andThen_ok, storeVar, run_sizeOf' hm, Sem.run_ite, hne, if_false, hst']
          have hsize : (cur.toList.take (i * r.sz + j) ++ (a.eval y).cells.toList ++ cur.toList.drop (i * r.sz + j + (a.eval y).cells.toList.length)).toArray.size = cur.size := by
            simp only [List.size_toArray, List.length_append, List.length_take, List.length_drop, Array.length_toList]
            simp at hvl
            omega
          have hrel := hr.setRow l (r' := ⟨r.sz, r.els.set i (cs.take j ++ (ev env y').cells ++ cs.drop (j + m))⟩) hl hb k1 hsize rfl k2 k3 (by simpa using k4) ?_ ?_ ?_
          · have := hrel.step (Below.refl _ _) (d := none) (x := .un) (v := undef) (by simp) (by simp) (by simp)
            exact ⟨_, _, _, _, hrun, .inr ⟨rfl, rfl⟩, this⟩
          · intro ds hds
            rcases List.mem_or_eq_of_mem_set hds with hds | rfl
            · exact (hr.rows l r hl).2.1 ds hds
            · simp; omega
          · intro ds hds q hq
            rcases List.mem_or_eq_of_mem_set hds with hds | rfl
            · exact hr.rment l r hl ds hds q hq
            · have happ : ∀ (l m : List AV), lbss (l ++ m) = lbss l ++ lbss m := by
                intro l m
                induction l with
                | nil => rfl
                | cons x r ih => simp [lbss, ih]
              rw [happ, happ, List.mem_append, List.mem_append] at hq
              have hcs := hr.rment l r hl cs (List.mem_of_getElem? hi)
              rcases hq with (hq | hq) | hq
              · have e1 := happ (cs.take j) (cs.drop j)
                rw [List.take_append_drop] at e1
                exact hcs q (by rw [e1]; exact List.mem_append.2 (.inl hq))
              · refine hmy q ?_
                cases hc : ev env y' <;> simp [hc, AV.cells, lbss] at hq <;> simp [AV.lbs] at hq ⊢ <;> exact hq
              · have e1 := happ (cs.take (j + m)) (cs.drop (j + m))
                rw [List.take_append_drop] at e1
                exact hcs q (by rw [e1]; exact List.mem_append.2 (.inr hq))
          · intro i' j' ds x hi' hj'
            have hlc : (a.eval y).cells.toList.length = m := hvl
            have hget : ∀ n, ((cur.toList.take (i * r.sz + j) ++ (a.eval y).cells.toList ++ cur.toList.drop (i * r.sz + j + (a.eval y).cells.toList.length)).toArray)[n]? =
                if n < i * r.sz + j then cur[n]? else if n < i * r.sz + j + m then (a.eval y).cells.toList[n - (i * r.sz + j)]? else cur[n]? := by
              intro n
              rw [hlc]
              have ht : (cur.toList.take (i * r.sz + j)).length = i * r.sz + j := by simp; omega
              simp only [List.getElem?_toArray]
              by_cases hn1 : n < i * r.sz + j
              · rw [if_pos hn1, List.append_assoc, List.getElem?_append_left (by omega), List.getElem?_take, if_pos hn1]; simp
              · rw [if_neg hn1]
                by_cases hn2 : n < i * r.sz + j + m
                · rw [if_pos hn2, List.append_assoc, List.getElem?_append_right (by omega), ht, List.getElem?_append_left (by omega)]
                · rw [if_neg hn2, List.getElem?_append_right (by simp only [List.length_append]; omega)]
                  simp only [List.length_append, ht, hlc, List.getElem?_drop, Array.getElem?_toList]
                  congr 1; omega
            by_cases e1 : i' = i
            · subst e1
              rw [List.getElem?_set_self hil] at hi'
              simp only [Option.some.injEq] at hi'; subst hi'
              have htl : (cs.take j).length = j := by simp; omega
              rw [List.append_assoc] at hj'
              by_cases hj1 : j' < j
              · rw [List.getElem?_append_left (by omega), List.getElem?_take, if_pos hj1] at hj'
                obtain ⟨v, q1, q2⟩ := k5 i' j' cs x hi hj'
                exact ⟨v, by rw [hget, if_pos (by omega)]; exact q1, q2⟩
              · rw [List.getElem?_append_right (by omega), htl] at hj'
                by_cases hj2 : j' < j + m
                · rw [List.getElem?_append_left (by omega)] at hj'
                  obtain ⟨v, q1, q2⟩ := RVs.get _ _ _ _ c2 hj'
                  refine ⟨v, ?_, q2⟩
                  rw [hget, if_neg (by omega), if_pos (by omega), show i' * r.sz + j' - (i' * r.sz + j) = j' - j by omega]
                  exact q1
                · rw [List.getElem?_append_right (by omega), List.getElem?_drop] at hj'
                  have hjj : j + m + (j' - j - (ev env y').cells.length) = j' := by omega
                  rw [hjj] at hj'
                  obtain ⟨v, q1, q2⟩ := k5 i' j' cs x hi hj'
                  exact ⟨v, by rw [hget, if_neg (by omega), if_neg (by omega)]; exact q1, q2⟩
            · rw [List.getElem?_set_ne (Ne.symm e1)] at hi'
              obtain ⟨v, q1, q2⟩ := k5 i' j' ds x hi' hj'
              refine ⟨v, ?_, q2⟩
              have hj'' : j' < r.sz := by
                have := (hr.rows l r hl).2.1 ds (List.mem_of_getElem? hi')
                have := (List.getElem?_eq_some_iff.1 hj').1
                omega
              have hdis : i' * r.sz + j' < i * r.sz ∨ i * r.sz + r.sz ≤ i' * r.sz + j' := by
                rcases Nat.lt_or_gt_of_ne e1 with hlt | hgt
                · left
                  have := Nat.mul_le_mul_right r.sz (show i' + 1 ≤ i by omega)
                  rw [Nat.add_mul] at this; omega
                · right
                  have := Nat.mul_le_mul_right r.sz (show i + 1 ≤ i' by omega)
                  rw [Nat.add_mul] at this; omega
              rw [hget]
              rcases hdis with hdis | hdis
              · rw [if_pos (by omega)]; exact q1
              · rw [if_neg (by omega), if_neg (by omega)]; exact q1
        · simp at hs
      · simp at hs
    · simp at hs
  · simp at hs

end
end Go.Am
