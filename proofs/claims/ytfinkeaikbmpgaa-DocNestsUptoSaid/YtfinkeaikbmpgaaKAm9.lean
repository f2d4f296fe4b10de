import Derived.Test.YtfinkeaikbmpgaaKAm7
set_option linter.unusedSimpArgs false
set_option linter.unusedVariables false
set_option linter.unnecessarySimpa false
set_option linter.defProp false
/- THE ABSTRACT MACHINE, part 9: the instructions that read, make and write owned rows. -/
namespace Go.Am
open Go Go.RowKit

/-- A load out of an owned row. -/
def loadV (m : Option Nat) (x : AV) (H : Hp) : Option AV :=
  match x with
  | .ptr l sz i j => match H l with
    | .live r => if r.sz = sz then (r.els[i]?).bind fun cs => match m with
        | none => cs[j]?
        | some k => if j + k ≤ cs.length then some (.agg ((cs.drop j).take k)) else none
      else none
    | _ => none
  | _ => none

/-- A store into an owned row. -/
def storeV (m : Nat) (a x : AV) (H : Hp) : Option Hp :=
  match a with
  | .ptr l sz i j => match H l with
    | .live r => if r.sz = sz ∧ x.stb = true ∧ x.cells.length = m then (r.els[i]?).bind fun cs =>
        if j + m ≤ cs.length then some (upd H l (.live ⟨sz, r.els.set i (cs.take j ++ x.cells ++ cs.drop (j + m))⟩)) else none
      else none
    | _ => none
  | _ => none

/-- The operation does this: a value (or none) comes, the rows are now so. -/
def StepR (K : Kx) (env : Env) (a : Act) (w : World) (o : Oper) (d : Option Nat) (x : AV) (H' : Hp) : Prop :=
  ∃ nx w' β' v, (execOp a.eval o).run K.P w = .ok nx w' ∧ (nx = .value v ∨ (nx = .skip ∧ v = undef)) ∧ RelB K β' (putO env d x) H' (a.put d v) w'

section
variable {K : Kx} {β : Lb → Option Nat} {env : Env} {H : Hp} {a : Act} {w : World}

theorem StepV.r {o : Oper} {x : AV} {d : Option Nat} (hr : RelB K β env H a w) (hd : ∀ n, d = some n → n < K.N) (h : StepV K β H a w o x) : StepR K env a w o d x H := by
  obtain ⟨v, w', h1, h2, h3, h4⟩ := h
  exact ⟨_, w', β, v, h1, .inl rfl, hr.step h2 hd (fun _ => h3) (fun _ => h4)⟩

theorem RowR.block {l : Lb} {r : Row} {g : Nat} {I : Nat → Prop} (h : RowR w β H I l r) (hb : β l = some g) :
    ∃ cur e cap, w.heap[g]? = some (.cells cur e (0, 0)) ∧ cur.size = cap * r.sz ∧ cap ≤ maxLen ∧ r.els.length ≤ cap ∧
      ∀ i j cs x, r.els[i]? = some cs → cs[j]? = some x → ∃ v, cur[i * r.sz + j]? = some v ∧ RV w β H I x v := by
  obtain ⟨_, _, h3⟩ := h
  simpa only [hb] using h3

/-- The values of a row's element, from one of its cells on. -/
theorem elem_vals {r : Row} {cur : Array Value} {I : Nat → Prop} {i : Nat} {cs : List AV} (hi : r.els[i]? = some cs)
    (h : ∀ i j cs x, r.els[i]? = some cs → cs[j]? = some x → ∃ v, cur[i * r.sz + j]? = some v ∧ RV w β H I x v) :
    ∃ vs : List Value, vs.length = cs.length ∧ RVs w β H I cs vs ∧ ∀ j v, vs[j]? = some v → cur[i * r.sz + j]? = some v := by
  have key : ∀ (n : Nat) (ds : List AV), ds = cs.drop n → ∃ vs : List Value, vs.length = ds.length ∧ RVs w β H I ds vs ∧ ∀ j v, vs[j]? = some v → cur[i * r.sz + (n + j)]? = some v := by
    intro n ds
    induction ds generalizing n with
    | nil => intro _; exact ⟨[], rfl, by simp [RVs], by simp⟩
    | cons x ds ih =>
      intro e
      have hx : cs[n]? = some x := by rw [← List.head?_drop, ← e]; rfl
      have hd : ds = cs.drop (n + 1) := by rw [← List.tail_drop, ← e]; rfl
      obtain ⟨v, h1, h2⟩ := h i n cs x hi hx
      obtain ⟨vs, k1, k2, k3⟩ := ih (n + 1) hd
      refine ⟨v :: vs, by simp [k1], ⟨v, vs, rfl, h2, k2⟩, ?_⟩
      intro j u hj
      cases j with
      | zero => simp at hj; subst hj; simpa using h1
      | succ j =>
        have := k3 j u (by simpa using hj)
        rwa [show n + 1 + j = n + (j + 1) by omega] at this
  obtain ⟨vs, k1, k2, k3⟩ := key 0 cs (by simp)
  exact ⟨vs, k1, k2, fun j v hj => by simpa using k3 j v hj⟩

theorem AV.stb_cells {x : AV} (h : x.stb = true) : ∀ y ∈ x.cells, y.one = true := by
  cases x <;> simp [AV.stb, AV.one] at h <;> simp [AV.cells, AV.one]
  exact h

def StepE (K : Kx) (β : Lb → Option Nat) (H : Hp) (a : Act) (w : World) (o : Oper) (x : AV) : Prop :=
  ∃ v, (execOp a.eval o).run K.P w = .ok (.value v) w ∧ RV w β H (Im K β H) x v ∧ ∀ l ∈ x.lbs, H l ≠ .unused

theorem StepE.v {o : Oper} {x : AV} (h : StepE K β H a w o x) : StepV K β H a w o x := by
  obtain ⟨v, h1, h2, h3⟩ := h
  exact .same h1 h2 h3

theorem StepE.same {o : Oper} {x : AV} {v : Value} (h : (execOp a.eval o).run K.P w = .ok (.value v) w)
    (hv : RV w β H (Im K β H) x v) (hm : ∀ l ∈ x.lbs, H l ≠ .unused) : StepE K β H a w o x := ⟨v, h, hv, hm⟩

theorem r_loadE (hr : RelB K β env H a w) {o : Oper} {t : TypeId} {x : Operand} {x' : O} {m : Option Nat} (ho : o.op = .load t x) (hm : mOf K.P t = some m) (hx : co K.G x = some x') {y : AV}
    (hy : loadV m (ev env x') H = some y) : StepE K β H a w o y := by
  have h := hr.ev hx
  unfold loadV at hy
  split at hy
  · rename_i l sz i j e
    rw [e] at h
    simp only [RV] at h
    obtain ⟨ad, h1, h2⟩ := h
    split at hy
    · rename_i r hl
      split at hy
      · rename_i hsz
        subst hsz
        obtain ⟨cs, hi, hy⟩ := Option.bind_eq_some_iff.1 hy
        obtain ⟨g, hb, rfl⟩ := h2 ⟨r, hl⟩
        obtain ⟨cur, e0, cap, k1, k2, k3, k4, k5⟩ := (hr.rows l r hl).block hb
        obtain ⟨vs, v1, v2, v3⟩ := elem_vals hi k5
        have hcell : ∀ q v, vs[q]? = some v → w.cell? ⟨g, i * r.sz + q, none⟩ = some v := by
          intro q v hq
          rw [cell_of_row w g _ cur e0 (0, 0) k1]
          exact v3 q v hq
        have run : ∀ v, (loadVar t ⟨g, i * r.sz + j, none⟩).run K.P w = .ok v w → (execOp a.eval o).run K.P w = .ok (.value v) w := by
          intro v hv
          simp [execOp, ho, h1, Instr.loadAt, Instr.sureAddr, hv]
        have hment : ∀ q ∈ lbss cs, H q ≠ .unused := hr.rment l r hl cs (List.mem_of_getElem? hi)
        cases m with
        | none =>
          simp only at hy
          obtain ⟨v, e1, e2⟩ := RVs.get _ _ _ _ v2 hy
          exact StepE.same (run v (run_loadVar_one hm _ _ (hcell j v e1))) e2 (fun q hq => hment q (lbss_get _ _ _ hy q hq))
        | some k =>
          simp only at hy
          split at hy
          · rename_i hk
            simp only [Option.some.injEq] at hy; subst hy
            refine StepE.same (run (.agg ((vs.drop j).take k).toArray) (run_loadVar_agg hm _ _ (by simp; omega) (fun q v hq => ?_))) ⟨_, rfl, RVs.take _ _ _ (RVs.drop _ _ _ v2)⟩ ?_
            · rw [List.getElem?_take] at hq
              split at hq
              · rw [List.getElem?_drop] at hq
                rw [addr_add, Nat.add_assoc]
                exact hcell _ v hq
              · simp at hq
            · intro q hq
              simp only [AV.lbs] at hq
              refine hment q ?_
              have happ : ∀ (l m : List AV), lbss (l ++ m) = lbss l ++ lbss m := by
                intro l m
                induction l with
                | nil => rfl
                | cons x r ih => simp [lbss, ih]
              have e1 := happ (cs.take j) (cs.drop j)
              rw [List.take_append_drop] at e1
              have e2 := happ ((cs.drop j).take k) ((cs.drop j).drop k)
              rw [List.take_append_drop] at e2
              rw [e1, e2]
              exact List.mem_append.2 (.inr (List.mem_append.2 (.inl hq)))
          · simp at hy
      · simp at hy
    · simp at hy
  · simp at hy

theorem r_load (hr : RelB K β env H a w) {o : Oper} {t : TypeId} {x : Operand} {x' : O} {m : Option Nat} (ho : o.op = .load t x) (hm : mOf K.P t = some m) (hx : co K.G x = some x') {y : AV}
    (hy : loadV m (ev env x') H = some y) : StepV K β H a w o y := (r_loadE hr ho hm hx hy).v

/-- New memory of one variable. -/
theorem r_new (hr : RelB K β env H a w) {o : Oper} {c : Array Value} {e : TypeId} {cs : List AV} {d : Nat} (hd : d < K.N)
    (hrun : (execOp a.eval o).run K.P w = .ok (.value (.pointer (some ⟨w.heap.size, 0, none⟩))) (w.alloc (.cells c e)))
    (hc : RVs w β H (Im K β H) cs c.toList) (h0 : 0 < cs.length) (hmax : cs.length ≤ maxLen) (hm : ∀ l ∈ lbss cs, H l ≠ .unused) (hu : H (.loc d) = .unused) :
    StepR K env a w o (some d) (.ptr (.loc d) cs.length 0 0) (upd H (.loc d) (.live ⟨cs.length, [cs]⟩)) := by
  have gw := grew_alloc w (.cells c e)
  have hlen : c.size = cs.length := by rw [← RVs.len _ _ hc]; simp
  have keep : Keeps2 w (w.alloc (.cells c e)) β (upd β (.loc d) (some w.heap.size)) H (upd H (.loc d) (.live ⟨cs.length, [cs]⟩)) (Im K β H)
      (Im K (upd β (.loc d) (some w.heap.size)) (upd H (.loc d) (.live ⟨cs.length, [cs]⟩))) (lbss cs) :=
    { im := fun k hk hs => ⟨⟨hk.1, fun l' ⟨r', hl'⟩ => by
        by_cases e1 : l' = .loc d
        · subst e1; simp; omega
        · rw [upd_ne _ _ e1] at hl' ⊢; exact hk.2 l' ⟨r', hl'⟩⟩, Nat.lt_of_lt_of_le hs gw.size, gw.block k hs⟩
      lb := fun l' hl'' ⟨r', hl'⟩ => by
        have e1 : l' ≠ .loc d := fun e1 => hm l' hl'' (e1 ▸ hu)
        rw [upd_ne _ _ e1] at hl'
        refine ⟨⟨r', hl'⟩, upd_ne _ _ e1, fun g S _ hS => ?_⟩
        unfold bsz at *
        rwa [gw.block g (bsz_lt hS)] }
  have hrow : RowR (w.alloc (.cells c e)) (upd β (.loc d) (some w.heap.size)) (upd H (.loc d) (.live ⟨cs.length, [cs]⟩))
      (Im K (upd β (.loc d) (some w.heap.size)) (upd H (.loc d) (.live ⟨cs.length, [cs]⟩))) (.loc d) ⟨cs.length, [cs]⟩ := by
    refine ⟨h0, by simp, ?_⟩
    simp only [upd_same]
    refine ⟨c, e, 1, heap_alloc_new w (.cells c e), by simp [hlen], by simp [maxLen], by simp, fun i j cs' x hi hj => ?_⟩
    cases i with
    | succ i => simp at hi
    | zero =>
      simp at hi; subst hi
      obtain ⟨v, k1, k2⟩ := RVs.get _ _ _ _ hc hj
      refine ⟨v, by simpa using k1, RV.mono _ _ (keep.sub (fun l hl => lbss_get _ _ _ hj l hl)) k2⟩
  have h2 := hr.addRow (.loc d) hu gw (some w.heap.size) (by simp) (by simpa using hm) hrow
  have h3 := h2.step (Below.refl _ _) (d := some d) (x := .ptr (.loc d) cs.length 0 0) (v := .pointer (some ⟨w.heap.size, 0, none⟩)) (by simpa using hd)
    (fun _ => by simp only [RV]; exact ⟨_, rfl, fun _ => ⟨w.heap.size, by simp, by simp⟩⟩) (by simp [AV.lbs])
  exact ⟨_, _, _, _, hrun, .inl rfl, h3⟩

theorem r_box (hr : RelB K β env H a w) {o : Oper} {t : TypeId} {x : Operand} {x' : O} {d : Nat} (hd : d < K.N) (ho : o.op = .box t x) (hx : co K.G x = some x') (hst : (ev env x').stb = true)
    (h0 : 0 < (ev env x').cells.length) (hmax : (ev env x').cells.length ≤ maxLen) (hu : H (.loc d) = .unused) :
    StepR K env a w o (some d) (.ptr (.loc d) (ev env x').cells.length 0 0) (upd H (.loc d) (.live ⟨(ev env x').cells.length, [(ev env x').cells]⟩)) := by
  have h := hr.ev hx
  have hm := hr.ev_ment hx
  obtain ⟨k1, k2⟩ := RVs.cells_len h (AV.stb_or hst)
  refine r_new hr hd (c := (a.eval x).cells) (e := t) ?_ k2 h0 hmax ?_ hu
  · simp [execOp, ho, Instr.box, newVar, newRow]
  · intro l hl
    refine hm l ?_
    cases hc : ev env x' <;> simp [hc, AV.cells, lbss] at hl <;> simp [AV.lbs] at hl ⊢ <;> exact hl

theorem lbss_cvs : ∀ (l : List Value) (xs : List AV), cvs l = some xs → lbss xs = []
  | [], xs, h => by simp [cvs] at h; subst h; rfl
  | v :: r, xs, h => by
    simp only [cvs, Option.bind_eq_some_iff, Option.map_eq_some_iff] at h
    obtain ⟨x, h1, s, h2, rfl⟩ := h
    simp [lbss, cv_lbs h1, lbss_cvs r s h2]

theorem r_alloc (hr : RelB K β env H a w) {o : Oper} {t : TypeId} {i : TypeInfo} {z : Value} {cs : List AV} {d : Nat} (hd : d < K.N) (ho : o.op = .alloc t) (hi : K.P.info? t = some i) (hz : i.zero = some z)
    (hcv : cvs z.cells.toList = some cs) (h0 : 0 < cs.length) (hmax : cs.length ≤ maxLen) (hu : H (.loc d) = .unused) :
    StepR K env a w o (some d) (.ptr (.loc d) cs.length 0 0) (upd H (.loc d) (.live ⟨cs.length, [cs]⟩)) := by
  refine r_new hr hd (c := z.cells) (e := t) ?_ (cvs_rv _ _ hcv _ _ _ _) h0 hmax (by simp [lbss_cvs _ _ hcv]) hu
  simp [execOp, ho, Instr.alloc, zeroValue, typeInfo, hi, hz, newVar, newRow]

theorem r_store (hr : RelB K β env H a w) {o : Oper} {t : TypeId} {x y : Operand} {x' y' : O} {m : Nat} (ho : o.op = .store t x y) (hm : tsz K.P t = some m) (hx : co K.G x = some x') (hy : co K.G y = some y') {H' : Hp}
    (hs : storeV m (ev env x') (ev env y') H = some H') : StepR K env a w o none .un H' := by
  have h := hr.ev hx
  have h2 := hr.ev hy
  have hmy := hr.ev_ment hy
  unfold storeV at hs
  split at hs
  · rename_i l sz i j e
    rw [e] at h
    simp only [RV] at h
    obtain ⟨ad, h1, h3⟩ := h
    split at hs
    · rename_i r hl
      split at hs
      · rename_i hc
        obtain ⟨hsz, hst, hlen⟩ := hc
        subst hsz
        obtain ⟨cs, hi, hs⟩ := Option.bind_eq_some_iff.1 hs
        split at hs
        · rename_i hjm
          simp only [Option.some.injEq] at hs; subst hs
          obtain ⟨g, hb, rfl⟩ := h3 ⟨r, hl⟩
          obtain ⟨cur, e0, cap, k1, k2, k3, k4, k5⟩ := (hr.rows l r hl).block hb
          obtain ⟨c1, c2⟩ := RVs.cells_len h2 (AV.stb_or hst)
          have hil : i < r.els.length := (List.getElem?_eq_some_iff.1 hi).1
          have hcl : cs.length = r.sz := (hr.rows l r hl).2.1 cs (List.mem_of_getElem? hi)
          have hbound : i * r.sz + r.sz ≤ cur.size := by
            rw [k2, ← Nat.succ_mul]
            exact Nat.mul_le_mul_right _ (by omega)
          have hvl : (a.eval y).cells.toList.length = m := by simp; omega
          have hst' := run_storeCells_at K.P g (i * r.sz + j) e0 (a.eval y).cells.toList 0 cur w k1 (by omega) (by
            intro u hu
            obtain ⟨q, hq⟩ := List.getElem?_of_mem hu
            have hql : q < (ev env y').cells.length := by
              have := (List.getElem?_eq_some_iff.1 hq).1
              omega
            obtain ⟨u', e1, e2⟩ := RVs.get _ _ q _ c2 (List.getElem?_eq_getElem hql)
            rw [hq] at e1; cases e1
            exact RV.oneCell e2 (AV.stb_cells hst _ (List.getElem_mem hql)))
          simp only [Nat.add_zero] at hst'
          have hrun : (execOp a.eval o).run K.P w = .ok .skip (w.setRow g (cur.toList.take (i * r.sz + j) ++ (a.eval y).cells.toList ++ cur.toList.drop (i * r.sz + j + (a.eval y).cells.toList.length)).toArray) := by
            have hne : ¬ (a.eval y).cells.size ≠ m := by simp at hvl; simp [hvl]
            simp only [execOp, ho, h1, Instr.storeAt, Instr.sureAddr, Sem.run_bind, Sem.run_pure, Result.andThen_ok, storeVar, run_sizeOf' hm, Sem.run_ite, hne, if_false, hst']
          have hsize : (cur.toList.take (i * r.sz + j) ++ (a.eval y).cells.toList ++ cur.toList.drop (i * r.sz + j + (a.eval y).cells.toList.length)).toArray.size = cur.size := by
            simp only [List.size_toArray, List.length_append, List.length_take, List.length_drop, Array.length_toList]
            simp at hvl
            omega
          have hrel := hr.setRow l (r' := ⟨r.sz, r.els.set i (cs.take j ++ (ev env y').cells ++ cs.drop (j + m))⟩) hl hb k1 hsize rfl k2 k3 (by simpa using k4) ?_ ?_ ?_
          · have := hrel.step (Below.refl _ _) (d := none) (x := .un) (v := undef) (by simp) (by simp) (by simp)
            exact ⟨_, _, _, _, hrun, .inr ⟨rfl, rfl⟩, this⟩
          · intro ds hds
            rcases List.mem_or_eq_of_mem_set hds with hds | rfl
            · exact (hr.rows l r hl).2.1 ds hds
            · simp; omega
          · intro ds hds q hq
            rcases List.mem_or_eq_of_mem_set hds with hds | rfl
            · exact hr.rment l r hl ds hds q hq
            · have happ : ∀ (l m : List AV), lbss (l ++ m) = lbss l ++ lbss m := by
                intro l m
                induction l with
                | nil => rfl
                | cons x r ih => simp [lbss, ih]
              rw [happ, happ, List.mem_append, List.mem_append] at hq
              have hcs := hr.rment l r hl cs (List.mem_of_getElem? hi)
              rcases hq with (hq | hq) | hq
              · have e1 := happ (cs.take j) (cs.drop j)
                rw [List.take_append_drop] at e1
                exact hcs q (by rw [e1]; exact List.mem_append.2 (.inl hq))
              · refine hmy q ?_
                cases hc : ev env y' <;> simp [hc, AV.cells, lbss] at hq <;> simp [AV.lbs] at hq ⊢ <;> exact hq
              · have e1 := happ (cs.take (j + m)) (cs.drop (j + m))
                rw [List.take_append_drop] at e1
                exact hcs q (by rw [e1]; exact List.mem_append.2 (.inr hq))
          · intro i' j' ds x hi' hj'
            have hlc : (a.eval y).cells.toList.length = m := hvl
            have hget : ∀ n, ((cur.toList.take (i * r.sz + j) ++ (a.eval y).cells.toList ++ cur.toList.drop (i * r.sz + j + (a.eval y).cells.toList.length)).toArray)[n]? =
                if n < i * r.sz + j then cur[n]? else if n < i * r.sz + j + m then (a.eval y).cells.toList[n - (i * r.sz + j)]? else cur[n]? := by
              intro n
              rw [hlc]
              have ht : (cur.toList.take (i * r.sz + j)).length = i * r.sz + j := by simp; omega
              simp only [List.getElem?_toArray]
              by_cases hn1 : n < i * r.sz + j
              · rw [if_pos hn1, List.append_assoc, List.getElem?_append_left (by omega), List.getElem?_take, if_pos hn1]; simp
              · rw [if_neg hn1]
                by_cases hn2 : n < i * r.sz + j + m
                · rw [if_pos hn2, List.append_assoc, List.getElem?_append_right (by omega), ht, List.getElem?_append_left (by omega)]
                · rw [if_neg hn2, List.getElem?_append_right (by simp only [List.length_append]; omega)]
                  simp only [List.length_append, ht, hlc, List.getElem?_drop, Array.getElem?_toList]
                  congr 1; omega
            by_cases e1 : i' = i
            · subst e1
              rw [List.getElem?_set_self hil] at hi'
              simp only [Option.some.injEq] at hi'; subst hi'
              have htl : (cs.take j).length = j := by simp; omega
              rw [List.append_assoc] at hj'
              by_cases hj1 : j' < j
              · rw [List.getElem?_append_left (by omega), List.getElem?_take, if_pos hj1] at hj'
                obtain ⟨v, q1, q2⟩ := k5 i' j' cs x hi hj'
                exact ⟨v, by rw [hget, if_pos (by omega)]; exact q1, q2⟩
              · rw [List.getElem?_append_right (by omega), htl] at hj'
                by_cases hj2 : j' < j + m
                · rw [List.getElem?_append_left (by omega)] at hj'
                  obtain ⟨v, q1, q2⟩ := RVs.get _ _ _ _ c2 hj'
                  refine ⟨v, ?_, q2⟩
                  rw [hget, if_neg (by omega), if_pos (by omega), show i' * r.sz + j' - (i' * r.sz + j) = j' - j by omega]
                  exact q1
                · rw [List.getElem?_append_right (by omega), List.getElem?_drop] at hj'
                  have hjj : j + m + (j' - j - (ev env y').cells.length) = j' := by omega
                  rw [hjj] at hj'
                  obtain ⟨v, q1, q2⟩ := k5 i' j' cs x hi hj'
                  exact ⟨v, by rw [hget, if_neg (by omega), if_neg (by omega)]; exact q1, q2⟩
            · rw [List.getElem?_set_ne (Ne.symm e1)] at hi'
              obtain ⟨v, q1, q2⟩ := k5 i' j' ds x hi' hj'
              refine ⟨v, ?_, q2⟩
              have hj'' : j' < r.sz := by
                have := (hr.rows l r hl).2.1 ds (List.mem_of_getElem? hi')
                have := (List.getElem?_eq_some_iff.1 hj').1
                omega
              have hdis : i' * r.sz + j' < i * r.sz ∨ i * r.sz + r.sz ≤ i' * r.sz + j' := by
                rcases Nat.lt_or_gt_of_ne e1 with hlt | hgt
                · left
                  have := Nat.mul_le_mul_right r.sz (show i' + 1 ≤ i by omega)
                  rw [Nat.add_mul] at this; omega
                · right
                  have := Nat.mul_le_mul_right r.sz (show i + 1 ≤ i' by omega)
                  rw [Nat.add_mul] at this; omega
              rw [hget]
              rcases hdis with hdis | hdis
              · rw [if_pos (by omega)]; exact q1
              · rw [if_neg (by omega), if_neg (by omega)]; exact q1
        · simp at hs
      · simp at hs
    · simp at hs
  · simp at hs

end
end Go.Am

/- THE ABSTRACT MACHINE, part 10: append. -/
namespace Go.Am
open Go Go.RowKit

open Classical in
/-- The elements that are appended, or copied. -/
noncomputable def srcE (sz : Nat) (x : AV) (H : Hp) : Option (List (List AV)) :=
  match x with
  | .nil0 => some []
  | .list xs => if Elsz sz xs then some (xs.map fun y => y.cells.map IV.av1) else none
  | .str s => if sz = 1 then some (s.map fun c => [.int .u8 c.toNat]) else none
  | .sl l s i n => match H l with
    | .live r => if s = sz ∧ r.sz = sz ∧ i + n ≤ r.els.length then some ((r.els.drop i).take n) else none
    | _ => none
  | _ => none

def AV.one1 (x : List AV) : Prop := ∀ y ∈ x, y.one = true

open Classical in
noncomputable def appV (sz bytes d : Nat) (s x : AV) (H : Hp) : Option (AV × Hp) :=
  (srcE sz x H).bind fun news => if ¬ (∀ cs ∈ news, AV.one1 cs) then none else
    match s with
    | .nil0 => if news.length * bytes ≤ 140737488355328 ∧ 0 < bytes ∧ H (.loc d) = .unused then some (.sl (.loc d) sz 0 news.length, upd H (.loc d) (.live ⟨sz, news⟩)) else none
    | .sl l s' i n => match H l with
      | .live r => if s' = sz ∧ r.sz = sz ∧ i = 0 ∧ n ≤ r.els.length ∧ (n + news.length) * bytes ≤ 140737488355328 ∧ 0 < bytes ∧ l ≠ l.app d ∧ H (l.app d) = .unused then
          some (.sl (l.app d) sz 0 (n + news.length), upd (upd H l .dead) (l.app d) (.live ⟨sz, r.els.take n ++ news⟩)) else none
      | _ => none
    | _ => none

section
variable {P : Program} {w : World}

theorem run_append_in {st xt ty e : TypeId} {i : TypeInfo} (hu : P.underlying st = some (.slice e)) (hi : P.info? e = some i) {d : TypeDesc} (hx : P.underlying xt = some d) (hd : d = .string ∨ ∃ e2, d = .slice e2)
    (ad : Option Addr) (n c m : Nat) (xv : Value) (vals : Array Value) (hlen : (Builtin.lenOf xv).run P w = .ok m w) (hf : (Builtin.firstCells i.size m xv).run P w = .ok vals w) (hle : n + m ≤ c) :
    (Builtin.append_ #[st, xt] ty #[.slice ad n c, xv]).run P w = match ad with
      | none => .ok (.slice none (n + m) c) w
      | some q => ((storeCells (q.add (n * i.size)) vals.toList).run P w).andThen fun _ w' => .ok (.slice (some q) (n + m) c) w' := by
  rcases hd with rfl | ⟨e2, rfl⟩ <;> cases ad <;> simp [Builtin.append_, run_underlying hu, run_underlying hx, sizeOf, typeInfo, hi, hlen, hf, hle]

theorem run_append_out {st xt ty e : TypeId} {i : TypeInfo} {z : Value} (hu : P.underlying st = some (.slice e)) (hi : P.info? e = some i) (hz : i.zero = some z) {d : TypeDesc} (hx : P.underlying xt = some d) (hd : d = .string ∨ ∃ e2, d = .slice e2)
    (ad : Option Addr) (n c m : Nat) (xv : Value) (vals olds : Array Value) (hlen : (Builtin.lenOf xv).run P w = .ok m w) (hf : (Builtin.firstCells i.size m xv).run P w.drew = .ok vals w.drew)
    (ho : (Builtin.firstCells i.size n (.slice ad n c)).run P w.drew = .ok olds w.drew) (hgt : c < n + m) (hb : (n + m) * i.bytes ≤ 140737488355328) (hb0 : 0 < i.bytes) :
    (Builtin.append_ #[st, xt] ty #[.slice ad n c, xv]).run P w = .ok (.slice (some ⟨w.heap.size, 0, none⟩) (n + m) (grownCap w (n + m) c e))
      (w.drew.alloc (.cells (olds ++ vals ++ Builtin.zeroCells z.cells (grownCap w (n + m) c e - (n + m))) e)) := by
  have hn : ¬ (n + m ≤ c) := by omega
  have h63 : n + m ≤ (n + m) * i.bytes := Nat.le_mul_of_pos_right _ hb0
  have h63' : ¬ (9223372036854775807 < ((n : Int) + (m : Int))) := by omega
  have h48' : ¬ (281474976710656 < Builtin.nextslicecap (n + m) c * i.bytes) := by have := growslice_fits hgt hb; omega
  rcases hd with rfl | ⟨e2, rfl⟩ <;> simp [Builtin.append_, run_underlying hu, run_underlying hx, sizeOf, typeInfo, zeroValue, hi, hz, hlen, hn, h63', h48', Question.forced, hf, ho, newRow, grownCap]
end

section
variable {K : Kx} {β : Lb → Option Nat} {env : Env} {H : Hp} {a : Act} {w : World}

theorem elems_vals {I : Nat → Prop} {sz : Nat} (h0 : 0 < sz) : ∀ (xs : List IV) (b o : Nat), Elsz sz xs → ElemsR w I xs b o sz →
    ∃ vals : List Value, vals.length = xs.length * sz ∧ (∀ j v, vals[j]? = some v → w.cell? ⟨b, o + j, none⟩ = some v) ∧
      ∀ i j x y, xs[i]? = some x → (x.cells.map IV.av1)[j]? = some y → ∃ v, vals[i * sz + j]? = some v ∧ RV w β H I y v
  | [], b, o, _, _ => ⟨[], by simp, by simp, by simp⟩
  | x :: r, b, o, hs, he => by
    simp only [ElemsR] at he
    obtain ⟨h1, h2⟩ := he
    obtain ⟨vr, k1, k2, k3⟩ := elems_vals h0 r b (o + sz) (fun y hy => hs y (by simp [hy])) h2
    have hx := (ElemR_iff w I x b o sz).1 h1
    obtain ⟨vx, e1, e2, e3⟩ := RVs.map_av1 (β := β) (H := H) x.cells b o hx.2
    have hl : vx.length = sz := by rw [e2, hx.1]
    refine ⟨vx ++ vr, by simp [hl, k1, Nat.add_mul]; omega, ?_, ?_⟩
    · intro j v hj
      by_cases hjs : j < sz
      · rw [List.getElem?_append_left (by omega)] at hj
        exact e3 j v hj
      · rw [List.getElem?_append_right (by omega), hl] at hj
        have := k2 _ v hj
        rwa [show o + sz + (j - sz) = o + j by omega] at this
    · intro i j x' y hi hj
      cases i with
      | zero =>
        simp at hi; subst hi
        obtain ⟨v, q1, q2⟩ := RVs.get _ _ _ _ e1 hj
        refine ⟨v, ?_, q2⟩
        have : j < vx.length := (List.getElem?_eq_some_iff.1 q1).1
        simp only [Nat.zero_mul, Nat.zero_add]
        rw [List.getElem?_append_left this]; exact q1
      | succ i =>
        obtain ⟨v, q1, q2⟩ := k3 i j x' y (by simpa using hi) hj
        refine ⟨v, ?_, q2⟩
        rw [Nat.add_mul, Nat.one_mul, List.getElem?_append_right (by omega), hl, show i * sz + sz + j - sz = i * sz + j by omega]
        exact q1

theorem av1_one {y : IV} {x : IV} {sz : Nat} (h : ∀ z ∈ x.cells, z.av1.one = true) : True := trivial

structure Src (K : Kx) (β : Lb → Option Nat) (H : Hp) (w : World) (sz : Nat) (xv : Value) (news : List (List AV)) (vals : List Value) : Prop where
  len : vals.length = news.length * sz
  lenOf : (Builtin.lenOf xv).run K.P w = .ok news.length w
  cells : ∀ w1, (w1 = w ∨ w1 = w.drew) → (Builtin.firstCells sz news.length xv).run K.P w1 = .ok vals.toArray w1
  rv : ∀ i j cs y, news[i]? = some cs → cs[j]? = some y → ∃ v, vals[i * sz + j]? = some v ∧ RV w β H (Im K β H) y v
  sz' : ∀ cs ∈ news, cs.length = sz
  ment : ∀ cs ∈ news, ∀ l ∈ lbss cs, H l ≠ .unused

theorem src_run (hr : RelB K β env H a w) {x : Operand} {x' : O} {sz : Nat} {news : List (List AV)} (hx : co K.G x = some x') (h0 : 0 < sz) (hs : srcE sz (ev env x') H = some news) :
    ∃ vals, Src K β H w sz (a.eval x) news vals := by
  have h := hr.ev hx
  unfold srcE at hs
  split at hs
  · rename_i e
    rw [e] at h
    simp only [Option.some.injEq] at hs; subst hs
    simp only [RV] at h
    obtain ⟨ad, h⟩ := h
    rw [h]
    refine ⟨[], by simp, by simp [Builtin.lenOf], ?_, by simp, by simp, by simp⟩
    intro w1 _
    cases ad with
    | none => simp [Builtin.firstCells]
    | some q => simp [Builtin.firstCells, loadCells, loadCellsFrom]
  · rename_i xs e
    rw [e] at h
    split at hs
    · rename_i hel
      simp only [Option.some.injEq] at hs; subst hs
      simp only [RV, IVR] at h
      obtain ⟨ad, c, h1, h2, h3, h4⟩ := h
      rw [h1]
      rcases h4 with h4 | ⟨b, o', sz', rfl, e1, e2, e3, e4⟩
      · have : xs = [] := List.eq_nil_of_length_eq_zero h4
        subst this
        refine ⟨[], by simp, by simp [Builtin.lenOf], ?_, by simp, by simp, by simp⟩
        intro w1 _
        cases ad with
        | none => simp [Builtin.firstCells]
        | some q => simp [Builtin.firstCells, loadCells, loadCellsFrom]
      · by_cases hn : xs = []
        · subst hn
          refine ⟨[], by simp, by simp [Builtin.lenOf], ?_, by simp, by simp, by simp⟩
          intro w1 _
          simp [Builtin.firstCells, loadCells, loadCellsFrom]
        · have hsz := ElemsR_sz e4 hel (List.length_pos_iff.2 hn)
          subst hsz
          obtain ⟨vals, k1, k2, k3⟩ := elems_vals (β := β) (H := H) h0 xs b o' hel e4
          refine ⟨vals, by simpa using k1, by simp [Builtin.lenOf], ?_, ?_, ?_, ?_⟩
          · intro w1 hw1
            simp only [List.length_map]
            refine run_firstCells_some (P := K.P) w1 _ xs.length ⟨b, o', none⟩ xs.length c vals (by simpa using k1) (fun j v hj => ?_)
            rw [addr_add]
            rcases hw1 with rfl | rfl
            · exact k2 j v hj
            · simpa using k2 j v hj
          · intro i j cs y hi hj
            simp only [List.getElem?_map, Option.map_eq_some_iff] at hi
            obtain ⟨x0, hi, rfl⟩ := hi
            exact k3 i j x0 y hi hj
          · intro cs hcs
            simp only [List.mem_map] at hcs
            obtain ⟨x0, hx0, rfl⟩ := hcs
            simpa using hel x0 hx0
          · intro cs hcs l hl
            simp only [List.mem_map] at hcs
            obtain ⟨x0, hx0, rfl⟩ := hcs
            simp [lbss_map_av1] at hl
    · simp at hs
  · rename_i s e
    rw [e] at h
    split at hs
    · rename_i h1
      subst h1
      simp only [Option.some.injEq] at hs; subst hs
      simp only [RV] at h
      rw [h]
      refine ⟨s.map fun c => .int .u8 c.toNat, by simp, by simp [Builtin.lenOf, size_str], ?_, ?_, ?_, ?_⟩
      · intro w1 _
        have e1 : (⟨s.toArray⟩ : ByteArray).extract 0 s.length = ⟨s.toArray⟩ := by
          apply ByteArray.ext
          rw [ByteArray.data_extract]
          simp
        simp [Builtin.firstCells, e1]
      · intro i j cs y hi hj
        simp only [List.getElem?_map, Option.map_eq_some_iff] at hi
        obtain ⟨c, hi, rfl⟩ := hi
        cases j with
        | succ j => simp at hj
        | zero =>
          simp at hj; subst hj
          exact ⟨.int .u8 c.toNat, by simp [hi], by simp [RV]⟩
      · intro cs hcs
        simp only [List.mem_map] at hcs
        obtain ⟨c, _, rfl⟩ := hcs
        rfl
      · intro cs hcs l hl
        simp only [List.mem_map] at hcs
        obtain ⟨c, _, rfl⟩ := hcs
        simp [lbss, AV.lbs] at hl
    · simp at hs
  · rename_i l s i n e
    rw [e] at h
    split at hs
    · rename_i r hl
      split at hs
      · rename_i hc
        obtain ⟨rfl, hsz, hin⟩ := hc
        subst hsz
        simp only [Option.some.injEq] at hs; subst hs
        simp only [RV] at h
        obtain ⟨ad, c, h1, h2, h3, h4, h5⟩ := h
        rw [h1]
        have hnl : ((r.els.drop i).take n).length = n := by simp; omega
        by_cases hn : n = 0
        · subst hn
          refine ⟨[], by simp, by simp [Builtin.lenOf], ?_, by simp, by simp, by simp⟩
          intro w1 _
          cases ad with
          | none => simp [Builtin.firstCells]
          | some q => simp [Builtin.firstCells, loadCells, loadCellsFrom]
        · rcases h5 ⟨r, hl⟩ with h6 | ⟨g, S, e1, rfl, e3, e4⟩
          · omega
          · obtain ⟨cur, e0, cap, k1, k2, k3, k4, k5⟩ := (hr.rows l r hl).block e1
            have hS : cur.size = S := by
              unfold bsz at e3
              simp only [k1] at e3
              simpa using e3
            have hb : i * r.sz + n * r.sz ≤ cur.size := by
              rw [k2, ← Nat.add_mul]
              exact Nat.mul_le_mul_right _ (by omega)
            refine ⟨(cur.toList.drop (i * r.sz)).take (n * r.sz), by rw [hnl]; simp; omega, by rw [hnl]; simp [Builtin.lenOf], ?_, ?_, ?_, ?_⟩
            · intro w1 hw1
              rw [hnl]
              refine run_firstCells_some (P := K.P) w1 _ n ⟨g, i * r.sz, none⟩ n c _ (by simp; omega) (fun j v hj => ?_)
              rw [addr_add]
              have hcell : w.cell? ⟨g, i * r.sz + j, none⟩ = some v := by
                rw [cell_of_row w g _ cur e0 (0, 0) k1]
                rw [List.getElem?_take] at hj
                split at hj
                · simpa using hj
                · simp at hj
              rcases hw1 with rfl | rfl
              · exact hcell
              · simpa using hcell
            · intro i' j cs y hi hj
              rw [List.getElem?_take] at hi
              split at hi
              · rename_i hlt
                rw [List.getElem?_drop] at hi
                obtain ⟨v, q1, q2⟩ := k5 _ j cs y hi hj
                have hjs : j < r.sz := by
                  have := (hr.rows l r hl).2.1 cs (List.mem_of_getElem? hi)
                  have := (List.getElem?_eq_some_iff.1 hj).1
                  omega
                refine ⟨v, ?_, q2⟩
                have hlt2 : i' * r.sz + j < n * r.sz := by
                  have := Nat.mul_le_mul_right r.sz (show i' + 1 ≤ n by omega)
                  rw [Nat.add_mul] at this; omega
                rw [List.getElem?_take, if_pos hlt2, List.getElem?_drop, Array.getElem?_toList, ← q1]
                congr 1
                rw [Nat.add_mul]; omega
              · simp at hi
            · intro cs hcs
              exact (hr.rows l r hl).2.1 cs (List.mem_of_mem_drop (List.mem_of_mem_take hcs))
            · intro cs hcs
              exact hr.rment l r hl cs (List.mem_of_mem_drop (List.mem_of_mem_take hcs))
      · simp at hs
    · simp at hs
  · simp at hs

end
end Go.Am

/- THE ABSTRACT MACHINE, part 11: append, to its end. -/
namespace Go.Am
open Go Go.RowKit

theorem upd_upd {γ : Type} (f : Lb → γ) (l : Lb) (x y : γ) : upd (upd f l x) l y = upd f l y := by
  funext q
  by_cases h : q = l
  · subst h; simp
  · simp [upd_ne _ _ h]

/-- Old elements and new ones, in one row of cells. -/
theorem comb {R : AV → Value → Prop} {sz n : Nat} (A B : List (List AV)) (hA : A.length = n) (hAs : ∀ cs ∈ A, cs.length = sz) (hBs : ∀ cs ∈ B, cs.length = sz) (olds vals rest : List Value) (ho : olds.length = n * sz) (hv : vals.length = B.length * sz)
    (h1 : ∀ i j cs x, A[i]? = some cs → cs[j]? = some x → ∃ v, olds[i * sz + j]? = some v ∧ R x v)
    (h2 : ∀ i j cs x, B[i]? = some cs → cs[j]? = some x → ∃ v, vals[i * sz + j]? = some v ∧ R x v) :
    ∀ i j cs x, (A ++ B)[i]? = some cs → cs[j]? = some x → ∃ v, (olds ++ vals ++ rest)[i * sz + j]? = some v ∧ R x v := by
  intro i j cs x hi hj
  by_cases hin : i < n
  · rw [List.getElem?_append_left (by omega)] at hi
    obtain ⟨v, q1, q2⟩ := h1 i j cs x hi hj
    refine ⟨v, ?_, q2⟩
    have : i * sz + j < olds.length := (List.getElem?_eq_some_iff.1 q1).1
    rw [List.append_assoc, List.getElem?_append_left this]; exact q1
  · rw [List.getElem?_append_right (by omega), hA] at hi
    obtain ⟨v, q1, q2⟩ := h2 (i - n) j cs x hi hj
    refine ⟨v, ?_, q2⟩
    have h3 : (i - n) * sz + j < vals.length := (List.getElem?_eq_some_iff.1 q1).1
    have h4 : i * sz + j = olds.length + ((i - n) * sz + j) := by
      rw [ho]
      have : i = n + (i - n) := by omega
      rw [this, Nat.add_mul]
      have e : n + (i - n) - n = i - n := by omega
      rw [e]; omega
    rw [h4, List.append_assoc, List.getElem?_append_right (by omega), List.getElem?_append_left (by omega)]
    rw [show olds.length + ((i - n) * sz + j) - olds.length = (i - n) * sz + j by omega]
    exact q1

section
variable {K : Kx} {β : Lb → Option Nat} {env : Env} {H : Hp} {a : Act} {w : World}

/-- A new row of old values: the keeping. -/
theorem keepNew (hr : RelB K β env H a w) {H' : Hp} {lb : Lb} {b : Option Nat} {w' : World} (gw : Grew w w') (hu : H lb = .unused) (hb : ∀ g, b = some g → w.heap.size ≤ g)
    (hH : ∀ q, q ≠ lb → live H' q → live H q) (ls : List Lb) (hls : ∀ q ∈ ls, H q ≠ .unused) :
    Keeps2 w w' β (upd β lb b) H H' (Im K β H) (Im K (upd β lb b) H') ls where
  im k hk hs := ⟨⟨hk.1, fun q hq => by
    by_cases e : q = lb
    · subst e
      simp only [upd_same]
      intro h
      have := hb k h
      omega
    · rw [upd_ne _ _ e]; exact hk.2 q (hH q e hq)⟩, Nat.lt_of_lt_of_le hs gw.size, gw.block k hs⟩
  lb q hq hq' := by
    have e : q ≠ lb := fun e => hls q hq (e ▸ hu)
    refine ⟨hH q e hq', upd_ne _ _ e, fun g S _ hS => ?_⟩
    unfold bsz at *
    rwa [gw.block g (bsz_lt hS)]

/-- The end of an append: a fresh row of all the elements, the old label dead (or none). -/
theorem app_fresh (hr : RelB K β env H a w) {Hk : Hp} (hk : RelB K β env Hk a w) (hHk : ∀ q, live Hk q → live H q) (hHu : ∀ q, H q ≠ .unused → Hk q ≠ .unused) {o : Oper} {d n m sz : Nat} {lb : Lb} (hd : d < K.N) {e : TypeId} {cap : Nat} {A news : List (List AV)} {olds vals rest : List Value}
    (h0 : 0 < sz) (hu : H lb = .unused) (huk : Hk lb = .unused) (hA : A.length = n) (hm : news.length = m) (hAs : ∀ cs ∈ A, cs.length = sz) (hNs : ∀ cs ∈ news, cs.length = sz)
    (hAm : ∀ cs ∈ A, ∀ l ∈ lbss cs, H l ≠ .unused) (hNm : ∀ cs ∈ news, ∀ l ∈ lbss cs, H l ≠ .unused)
    (ho : olds.length = n * sz) (hv : vals.length = news.length * sz)
    (h1 : ∀ i j cs x, A[i]? = some cs → cs[j]? = some x → ∃ v, olds[i * sz + j]? = some v ∧ RV w β H (Im K β H) x v)
    (h2 : ∀ i j cs x, news[i]? = some cs → cs[j]? = some x → ∃ v, vals[i * sz + j]? = some v ∧ RV w β H (Im K β H) x v)
    (hrest : (olds ++ vals ++ rest).length = cap * sz) (hcap : cap ≤ maxLen) (hle : n + m ≤ cap)
    (hrun : (execOp a.eval o).run K.P w = .ok (.value (.slice (some ⟨w.heap.size, 0, none⟩) (n + m) cap)) (w.drew.alloc (.cells (olds ++ vals ++ rest).toArray e))) :
    StepR K env a w o (some d) (.sl lb sz 0 (n + m)) (upd Hk lb (.live ⟨sz, A ++ news⟩)) := by
  have gw : Grew w (w.drew.alloc (.cells (olds ++ vals ++ rest).toArray e)) := (grew_drew w).trans (grew_alloc w.drew _)
  have keep := keepNew hr (H' := upd Hk lb (.live ⟨sz, A ++ news⟩)) (lb := lb) (b := some w.heap.size) gw hu (by simp) (fun q hq ⟨r, h⟩ => by rw [upd_ne _ _ hq] at h; exact hHk q ⟨r, h⟩)
  have hel : ∀ cs ∈ A ++ news, cs.length = sz ∧ ∀ l ∈ lbss cs, H l ≠ .unused := by
    intro cs hcs
    rcases List.mem_append.1 hcs with h | h
    · exact ⟨hAs cs h, hAm cs h⟩
    · exact ⟨hNs cs h, hNm cs h⟩
  have hrow : RowR (w.drew.alloc (.cells (olds ++ vals ++ rest).toArray e)) (upd β lb (some w.heap.size)) (upd Hk lb (.live ⟨sz, A ++ news⟩))
      (Im K (upd β lb (some w.heap.size)) (upd Hk lb (.live ⟨sz, A ++ news⟩))) lb ⟨sz, A ++ news⟩ := by
    refine ⟨h0, fun cs hcs => (hel cs hcs).1, ?_⟩
    simp only [upd_same]
    refine ⟨(olds ++ vals ++ rest).toArray, e, cap, heap_alloc_new w.drew _, by simp only [List.size_toArray]; exact hrest, hcap, by simp; omega, fun i j cs x hi hj => ?_⟩
    obtain ⟨v, q1, q2⟩ := comb A news hA hAs hNs olds vals rest ho hv h1 h2 i j cs x hi hj
    exact ⟨v, by simpa using q1, RV.mono _ _ (keep _ (fun q hq => (hel cs (List.mem_of_getElem? hi)).2 q (lbss_get _ _ _ hj q hq))) q2⟩
  have h3 := hk.addRow lb huk gw (some w.heap.size) (by simp) (fun cs hcs q hq => hHu q ((hel cs hcs).2 q hq)) hrow
  have h4 := h3.step (Below.refl _ _) (d := some d) (x := .sl lb sz 0 (n + m)) (v := .slice (some ⟨w.heap.size, 0, none⟩) (n + m) cap) (by simpa using hd)
    (fun _ => by
      simp only [RV]
      refine ⟨_, _, rfl, hle, hcap, by simp, fun _ => .inr ⟨w.heap.size, cap * sz, by simp, by simp, ?_, by simp⟩⟩
      have hh : (w.drew.alloc (.cells (olds ++ vals ++ rest).toArray e)).heap[w.heap.size]? = some (.cells (olds ++ vals ++ rest).toArray e) := heap_alloc_new w.drew _
      unfold bsz
      rw [hh]
      simp only [List.size_toArray, hrest]) (by simp [AV.lbs])
  exact ⟨_, _, _, _, hrun, .inl rfl, h4⟩

/-- The end of an append that appends nothing to nothing. -/
theorem app_none (hr : RelB K β env H a w) {Hk : Hp} (hk : RelB K β env Hk a w) {o : Oper} {d sz : Nat} {lb : Lb} (hd : d < K.N) (h0 : 0 < sz) (huk : Hk lb = .unused) {ad : Option Addr}
    (hrun : (execOp a.eval o).run K.P w = .ok (.value (.slice ad 0 0)) w) :
    StepR K env a w o (some d) (.sl lb sz 0 0) (upd Hk lb (.live ⟨sz, []⟩)) := by
  have h3 := hk.addRow lb huk (r := ⟨sz, []⟩) (Below.refl _ _) none (by simp) (by simp) ⟨h0, by simp, by simp⟩
  have h4 := h3.step (Below.refl _ _) (d := some d) (x := .sl lb sz 0 0) (v := .slice ad 0 0) (by simpa using hd)
    (fun _ => by simp only [RV]; exact ⟨_, 0, rfl, by omega, by simp [maxLen], by simp, fun _ => .inl rfl⟩) (by simp [AV.lbs])
  exact ⟨_, _, _, _, hrun, .inl rfl, h4⟩

theorem ok_arr {v : Value} {w1 : World} {e : TypeId} (x y : Array Value) (h : x = y) :
    (Result.ok v (w1.alloc (.cells x e))).andThen (fun v w' => .ok (Next.value v) w') = .ok (.value v) (w1.alloc (.cells y e)) := by
  subst h; rfl

theorem len_eq {m C sz : Nat} (h : m ≤ C) : m * sz + (C - m) * sz = C * sz := by
  rw [← Nat.add_mul]; congr 1; omega

theorem zeroCells_len (z : Array Value) (n : Nat) : (Builtin.zeroCells z n).toList.length = n * z.size := by simp [size_zeroCells]

theorem r_app (hr : RelB K β env H a w) {o : Oper} {c : Call} {s x : Operand} {s' x' : O} {st xt e : TypeId} {i : TypeInfo} {z : Value} {dx : TypeDesc} {d : Nat} (hd : d < K.N) (ho : o.op = .call c) (hc : c.callee = .builtin .append)
    (ha : c.args.toList = [s, x]) (hat : c.argTypes.toList = [st, xt]) (hst : K.P.underlying st = some (.slice e)) (hi : K.P.info? e = some i) (hz : i.zero = some z) (hzs : z.cells.size = i.size) (h0 : 0 < i.size)
    (hxt : K.P.underlying xt = some dx) (hdx : dx = .string ∨ ∃ e2, dx = .slice e2) (hs : co K.G s = some s') (hx : co K.G x = some x') {y : AV} {H' : Hp}
    (hy : appV i.size i.bytes d (ev env s') (ev env x') H = some (y, H')) : StepR K env a w o (some d) y H' := by
  have ha' : c.args = #[s, x] := by cases hh : c.args; simp_all
  have hat' : c.argTypes = #[st, xt] := by cases hh : c.argTypes; simp_all
  have hexec : (execOp a.eval o).run K.P w = ((Builtin.append_ #[st, xt] o.type #[a.eval s, a.eval x]).run K.P w).andThen fun v w' => .ok (.value v) w' := by
    simp [execOp, ho, resolve, hc, ha', hat', invoke, builtin]
  unfold appV at hy
  obtain ⟨news, hn, hy⟩ := Option.bind_eq_some_iff.1 hy
  obtain ⟨vals, S⟩ := src_run hr hx h0 hn
  have hsv := hr.ev hs
  split at hy
  · simp at hy
  · rename_i hone
    have hone : ∀ cs ∈ news, AV.one1 cs := Classical.byContradiction hone
    have hvone : ∀ v ∈ vals, v.oneCell' = true := by
      intro v hv
      obtain ⟨q, hq⟩ := List.getElem?_of_mem hv
      have hql : q < news.length * i.size := by rw [← S.len]; exact (List.getElem?_eq_some_iff.1 hq).1
      have hqi : q / i.size < news.length := Nat.div_lt_of_lt_mul (by rw [Nat.mul_comm]; exact hql)
      have hqj : q % i.size < i.size := Nat.mod_lt _ h0
      have hc0 : news[q / i.size]? = some news[q / i.size] := List.getElem?_eq_getElem hqi
      have hcl := S.sz' _ (List.getElem_mem hqi)
      have hx0 : (news[q / i.size])[q % i.size]? = some ((news[q / i.size])[q % i.size]'(by omega)) := List.getElem?_eq_getElem (by omega)
      obtain ⟨v', e1, e2⟩ := S.rv _ _ _ _ hc0 hx0
      have : q / i.size * i.size + q % i.size = q := by rw [Nat.mul_comm]; exact Nat.div_add_mod q i.size
      rw [this, hq] at e1
      cases e1
      exact RV.oneCell e2 (hone _ (List.getElem_mem hqi) _ (List.getElem_mem _))
    have hold0 : ∀ ad : Option Addr, ∀ cc, (Builtin.firstCells i.size 0 (.slice ad 0 cc)).run K.P w.drew = .ok #[] w.drew := by
      intro ad cc
      cases ad with
      | none => simp [Builtin.firstCells]
      | some q => simp [Builtin.firstCells, loadCells, loadCellsFrom]
    split at hy
    · -- nothing yet
      rename_i e1
      rw [e1] at hsv
      simp only [RV] at hsv
      obtain ⟨ad, hsv⟩ := hsv
      split at hy
      · rename_i hb
        obtain ⟨hb1, hb2, hu⟩ := hb
        have hb : news.length * i.bytes ≤ 140737488355328 ∧ 0 < i.bytes := ⟨hb1, hb2⟩
        simp only [Option.some.injEq, Prod.mk.injEq] at hy
        obtain ⟨rfl, rfl⟩ := hy
        by_cases hm0 : news.length = 0
        · have hne : news = [] := List.eq_nil_of_length_eq_zero hm0
          subst hne
          have hve : vals = [] := List.eq_nil_of_length_eq_zero (by simpa using S.len)
          subst hve
          have hr1 := run_append_in (ty := o.type) hst hi hxt hdx ad 0 0 0 (a.eval x) #[] S.lenOf (S.cells w (.inl rfl)) (by omega)
          refine app_none hr hr hd h0 hu (ad := ad) ?_
          rw [hexec, hsv, hr1]
          cases ad <;> simp [storeCells]
        · have hr1 := run_append_out (ty := o.type) hst hi hz hxt hdx ad 0 0 news.length (a.eval x) vals.toArray #[] S.lenOf (S.cells w.drew (.inr rfl)) (hold0 ad 0) (by omega) (by simpa using hb.1) hb.2
          have hge := grownCap_ge w (0 + news.length) 0 e
          have hcm := grownCap_le_maxLen w (0 + news.length) 0 e (by
            have := Nat.le_mul_of_pos_right news.length hb.2
            simp only [maxLen]; omega)
          have := app_fresh hr hr (fun _ h => h) (fun _ h => h) (o := o) hd (e := e) (n := 0) (m := news.length) (A := []) (news := news) (olds := []) (vals := vals)
            (rest := (Builtin.zeroCells z.cells (grownCap w (0 + news.length) 0 e - (0 + news.length))).toList) h0 hu hu rfl rfl (by simp) S.sz' (by simp) S.ment (by simp) S.len (by simp) S.rv
            (cap := grownCap w (0 + news.length) 0 e) (by
              have h9 := len_eq (sz := i.size) hge
              simp only [List.length_append, List.length_nil, S.len, zeroCells_len, hzs]
              simp only [Nat.zero_add] at h9 ⊢
              exact h9) hcm hge (by
              rw [hexec, hsv, hr1]
              exact ok_arr _ _ (by simp))
          simpa using this
      · simp at hy
    · -- a row
      rename_i l s0 i0 n e1
      rw [e1] at hsv
      simp only [RV] at hsv
      obtain ⟨ad, cc, h1, h2, h3, h4, h5⟩ := hsv
      split at hy
      · rename_i r hl
        split at hy
        · rename_i hcond
          obtain ⟨rfl, hrs, rfl, hnl, hb, hb0, hlne, hu⟩ := hcond
          simp only [Option.some.injEq, Prod.mk.injEq] at hy
          obtain ⟨rfl, rfl⟩ := hy
          have hAl : (r.els.take n).length = n := by simp; omega
          have hAs : ∀ cs ∈ r.els.take n, cs.length = i.size := fun cs hcs => by rw [← hrs]; exact (hr.rows l r hl).2.1 cs (List.mem_of_mem_take hcs)
          have hAm : ∀ cs ∈ r.els.take n, ∀ q ∈ lbss cs, H q ≠ .unused := fun cs hcs => hr.rment l r hl cs (List.mem_of_mem_take hcs)
          have hkill := hr.kill l (by rw [hl]; simp)
          have huk : upd H l .dead (l.app d) = .unused := by rw [upd_ne _ _ (Ne.symm hlne)]; exact hu
          have hHk : ∀ q, live (upd H l .dead) q → live H q := by
            rintro q ⟨r', h⟩
            by_cases e : q = l
            · subst e; simp at h
            · rw [upd_ne _ _ e] at h; exact ⟨r', h⟩
          have hHu : ∀ q, H q ≠ .unused → upd H l .dead q ≠ .unused := by
            intro q h
            by_cases e : q = l
            · subst e; simp
            · rw [upd_ne _ _ e]; exact h
          by_cases hcz : cc = 0
          · subst hcz
            have hn0 : n = 0 := by omega
            subst hn0
            by_cases hm0 : news.length = 0
            · have hne : news = [] := List.eq_nil_of_length_eq_zero hm0
              subst hne
              have hve : vals = [] := List.eq_nil_of_length_eq_zero (by simpa using S.len)
              subst hve
              have hr1 := run_append_in (ty := o.type) hst hi hxt hdx ad 0 0 0 (a.eval x) #[] S.lenOf (S.cells w (.inl rfl)) (by omega)
              have := app_none hr hkill (o := o) hd h0 huk (ad := ad) (by
                rw [hexec, h1, hr1]
                cases ad <;> simp [storeCells])
              simpa using this
            · have hr1 := run_append_out (ty := o.type) hst hi hz hxt hdx ad 0 0 news.length (a.eval x) vals.toArray #[] S.lenOf (S.cells w.drew (.inr rfl)) (hold0 ad 0) (by omega) (by simpa using hb) hb0
              have hge := grownCap_ge w (0 + news.length) 0 e
              have hcm := grownCap_le_maxLen w (0 + news.length) 0 e (by
                have := Nat.le_mul_of_pos_right (0 + news.length) hb0
                simp only [maxLen]; omega)
              have := app_fresh hr hkill hHk hHu (o := o) hd (e := e) (n := 0) (m := news.length) (A := []) (news := news) (olds := []) (vals := vals)
                (rest := (Builtin.zeroCells z.cells (grownCap w (0 + news.length) 0 e - (0 + news.length))).toList) h0 hu huk rfl rfl (by simp) S.sz' (by simp) S.ment (by simp) S.len (by simp) S.rv
                (cap := grownCap w (0 + news.length) 0 e) (by
                  have h9 := len_eq (sz := i.size) hge
                  simp only [List.length_append, List.length_nil, S.len, zeroCells_len, hzs]
                  simp only [Nat.zero_add] at h9 ⊢
                  exact h9) hcm hge (by
                  rw [hexec, h1, hr1]
                  exact ok_arr _ _ (by simp))
              simpa using this
          · rcases h5 ⟨r, hl⟩ with h6 | ⟨g, Sz, g1, rfl, g3, g4⟩
            · exact absurd h6 hcz
            · obtain ⟨cur, e0, cap, k1, k2, k3, k4, k5⟩ := (hr.rows l r hl).block g1
              have hS : cur.size = Sz := by
                unfold bsz at g3
                simp only [k1] at g3
                simpa using g3
              have hsz2 : cc * i.size = cur.size := by rw [hS, ← g4]; simp
              have hnsz : n * i.size ≤ cur.size := by rw [← hsz2]; exact Nat.mul_le_mul_right _ h2
              have hcapc : cap = cc := by
                rw [hrs] at k2
                rw [k2] at hsz2
                exact (Nat.eq_of_mul_eq_mul_right h0 hsz2).symm
              have hA1 : ∀ i' j cs x0, (r.els.take n)[i']? = some cs → cs[j]? = some x0 → ∃ v, (cur.toList.take (n * i.size))[i' * i.size + j]? = some v ∧ RV w β H (Im K β H) x0 v := by
                intro i' j cs x0 hi' hj'
                rw [List.getElem?_take] at hi'
                split at hi'
                · rename_i hlt
                  obtain ⟨v, q1, q2⟩ := k5 i' j cs x0 hi' hj'
                  rw [hrs] at q1
                  refine ⟨v, ?_, q2⟩
                  have hjs : j < i.size := by
                    have := (hr.rows l r hl).2.1 cs (List.mem_of_getElem? hi')
                    have := (List.getElem?_eq_some_iff.1 hj').1
                    omega
                  have hlt2 : i' * i.size + j < n * i.size := by
                    have := Nat.mul_le_mul_right i.size (show i' + 1 ≤ n by omega)
                    rw [Nat.add_mul] at this; omega
                  rw [List.getElem?_take, if_pos hlt2]
                  simpa using q1
                · simp at hi'
              have holen : (cur.toList.take (n * i.size)).length = n * i.size := by simp; omega
              by_cases hfit : n + news.length ≤ cc
              · -- within the room
                have hr1 := run_append_in (ty := o.type) hst hi hxt hdx (some ⟨g, 0 * i.size, none⟩) n cc news.length (a.eval x) vals.toArray S.lenOf (S.cells w (.inl rfl)) hfit
                have hroom : n * i.size + vals.length ≤ cur.size := by
                  rw [S.len, ← hsz2, ← Nat.add_mul]
                  exact Nat.mul_le_mul_right _ hfit
                have hstc := run_storeCells_at K.P g (n * i.size) e0 vals 0 cur w k1 (by simpa using hroom) hvone
                simp only [Nat.add_zero] at hstc
                have hsize : (cur.toList.take (n * i.size) ++ vals ++ cur.toList.drop (n * i.size + vals.length)).toArray.size = cur.size := by
                  simp only [List.size_toArray, List.length_append, List.length_take, List.length_drop, Array.length_toList]
                  omega
                have hset := hr.setRow l (r' := ⟨i.size, r.els.take n ++ news⟩) (cap := cap) hl g1 k1 hsize hrs.symm k2 k3 (by simp; omega)
                  (by
                    intro cs hcs
                    rw [hrs]
                    rcases List.mem_append.1 hcs with h | h
                    · exact hAs cs h
                    · exact S.sz' cs h)
                  (by
                    intro cs hcs
                    rcases List.mem_append.1 hcs with h | h
                    · exact hAm cs h
                    · exact S.ment cs h)
                  (by
                    intro i' j cs x0 hi' hj'
                    rw [hrs]
                    obtain ⟨v, q1, q2⟩ := comb (r.els.take n) news hAl hAs S.sz' (cur.toList.take (n * i.size)) vals (cur.toList.drop (n * i.size + vals.length)) holen S.len hA1 S.rv i' j cs x0 hi' hj'
                    exact ⟨v, by simpa using q1, q2⟩)
                have hrel := hset.relabel l (l.app d) (r := ⟨i.size, r.els.take n ++ news⟩) (by simp) (by rw [upd_ne _ _ (Ne.symm hlne)]; exact hu) (Lb.app_fresh l d)
                rw [upd_upd] at hrel
                have h4' := hrel.step (Below.refl _ _) (d := some d) (x := .sl (l.app d) i.size 0 (n + news.length)) (v := .slice (some ⟨g, 0 * i.size, none⟩) (n + news.length) cc) (by simpa using hd)
                  (fun _ => by
                    simp only [RV]
                    refine ⟨_, _, rfl, hfit, h3, by simp, fun _ => .inr ⟨g, cur.size, by simp [g1], by simp, ?_, by simpa using hsz2⟩⟩
                    exact bsz_setRow k1 hsize g cur.size (by unfold bsz; simp [k1])) (by simp [AV.lbs])
                refine ⟨_, _, _, _, ?_, .inl rfl, h4'⟩
                rw [hexec, h1, hr1]
                simp only [addr_add, Nat.zero_mul, Nat.zero_add, hstc, Result.andThen_ok]
              · -- a new block
                have hr1 := run_append_out (ty := o.type) hst hi hz hxt hdx (some ⟨g, 0 * i.size, none⟩) n cc news.length (a.eval x) vals.toArray (cur.toList.take (n * i.size)).toArray S.lenOf (S.cells w.drew (.inr rfl))
                  (run_firstCells_some (P := K.P) w.drew i.size n ⟨g, 0 * i.size, none⟩ n cc _ holen (fun j v hj => by
                    rw [addr_add, Nat.zero_mul, Nat.zero_add]
                    have : w.cell? ⟨g, j, none⟩ = some v := by
                      rw [cell_of_row w g _ cur e0 (0, 0) k1]
                      rw [List.getElem?_take] at hj
                      split at hj
                      · simpa using hj
                      · simp at hj
                    simpa using this)) (by omega) hb hb0
                have hge := grownCap_ge w (n + news.length) cc e
                have hcm := grownCap_le_maxLen w (n + news.length) cc e (by
                  have := Nat.le_mul_of_pos_right (n + news.length) hb0
                  simp only [maxLen]; omega)
                have := app_fresh hr hkill hHk hHu (o := o) hd (e := e) (n := n) (m := news.length) (A := r.els.take n) (news := news) (olds := cur.toList.take (n * i.size)) (vals := vals)
                  (rest := (Builtin.zeroCells z.cells (grownCap w (n + news.length) cc e - (n + news.length))).toList) h0 hu huk hAl rfl hAs S.sz' hAm S.ment holen S.len hA1 S.rv
                  (cap := grownCap w (n + news.length) cc e) (by
                    have h9 := len_eq (sz := i.size) hge
                    simp only [List.length_append, holen, S.len, zeroCells_len, hzs]
                    rw [Nat.add_mul] at h9
                    exact h9) hcm hge (by
                    rw [hexec, h1, hr1]
                    exact ok_arr _ _ (by simp))
                exact this
        · simp at hy
      · simp at hy
    · simp at hy

end
end Go.Am
