import Derived.Test.YtfinkeaikbmpgaaKAm8
set_option linter.unusedSimpArgs false
set_option linter.unusedVariables false
set_option linter.unnecessarySimpa false
set_option linter.defProp false
/- THE ABSTRACT MACHINE, part 11: append, to its end. -/
namespace Go.Am
open Go Go.RowKit
theorem upd_upd {γ : Type} (f : Lb → γ) (l : Lb) (x y : γ) : upd (upd f l x) l y = upd f l y := by
 funext q
 by_cases h : q = l
 · subst h; simp
 · simp [upd_ne _ _ h]
theorem comb {R : AV → Value → Prop} {sz n : Nat} (A B : List (List AV)) (hA : A.length = n) (hAs : ∀ cs ∈ A,cs.length = sz) (hBs : ∀ cs ∈ B,cs.length = sz) (olds vals rest : List Value) (ho : olds.length = n * sz) (hv : vals.length = B.length * sz)
   (h1 : ∀ i j cs x,A[i]? = some cs → cs[j]? = some x → ∃ v,olds[i * sz + j]? = some v ∧ R x v)
   (h2 : ∀ i j cs x,B[i]? = some cs → cs[j]? = some x → ∃ v,vals[i * sz + j]? = some v ∧ R x v) :
   ∀ i j cs x,(A ++ B)[i]? = some cs → cs[j]? = some x → ∃ v,(olds ++ vals ++ rest)[i * sz + j]? = some v ∧ R x v := by
 intro i j cs x hi hj
 by_cases hin : i < n
 · rw [List.getElem?_append_left (by omega)] at hi
   obtain ⟨v,q1,q2⟩ := h1 i j cs x hi hj
   refine ⟨v,?_,q2⟩
   have : i * sz + j < olds.length := (List.getElem?_eq_some_iff.1 q1).1
   rw [List.append_assoc,List.getElem?_append_left this]; exact q1
 · rw [List.getElem?_append_right (by omega),hA] at hi
   obtain ⟨v,q1,q2⟩ := h2 (i - n) j cs x hi hj
   refine ⟨v,?_,q2⟩
   have h3 : (i - n) * sz + j < vals.length := (List.getElem?_eq_some_iff.1 q1).1
   have h4 : i * sz + j = olds.length + ((i - n) * sz + j) := by
     rw [ho]
     have : i = n + (i - n) := by omega
     rw [this,Nat.add_mul]
     have e : n + (i - n) - n = i - n := by omega
     rw [e]; omega
   rw [h4,List.append_assoc,List.getElem?_append_right (by omega),List.getElem?_append_left (by omega)]
   rw [show olds.length + ((i - n) * sz + j) - olds.length = (i - n) * sz + j by omega]
   exact q1
section
variable {K : Kx} {β : Lb → Option Nat} {env : Env} {H : Hp} {a : Act} {w : World}
theorem keepNew (hr : RelB K β env H a w) {H' : Hp} {lb : Lb} {b : Option Nat} {w' : World} (gw : Grew w w') (hu : H lb = .unused) (hb : ∀ g,b = some g → w.heap.size ≤ g)
   (hH : ∀ q,q ≠ lb → live H' q → live H q) (ls : List Lb) (hls : ∀ q ∈ ls,H q ≠ .unused) :
   Keeps2 w w' β (upd β lb b) H H' (Im K β H) (Im K (upd β lb b) H') ls where
 im k hk hs := ⟨⟨hk.1,fun q hq => by
   by_cases e : q = lb
   · subst e
     simp only [upd_same]
     intro h
     have := hb k h
     omega
   · rw [upd_ne _ _ e]; exact hk.2 q (hH q e hq)⟩,Nat.lt_of_lt_of_le hs gw.size,gw.block k hs⟩
 lb q hq hq' := by
   have e : q ≠ lb := fun e => hls q hq (e ▸ hu)
   refine ⟨hH q e hq',upd_ne _ _ e,fun g S _ hS => ?_⟩
   unfold bsz at *
   rwa [gw.block g (bsz_lt hS)]
theorem app_fresh (hr : RelB K β env H a w) {Hk : Hp} (hk : RelB K β env Hk a w) (hHk : ∀ q,live Hk q → live H q) (hHu : ∀ q,H q ≠ .unused → Hk q ≠ .unused) {o : Oper} {d n m sz : Nat} {lb : Lb} (hd : d < K.N) {e : TypeId} {cap : Nat} {A news : List (List AV)} {olds vals rest : List Value}
   (h0 : 0 < sz) (hu : H lb = .unused) (huk : Hk lb = .unused) (hA : A.length = n) (hm : news.length = m) (hAs : ∀ cs ∈ A,cs.length = sz) (hNs : ∀ cs ∈ news,cs.length = sz)
   (hAm : ∀ cs ∈ A,∀ l ∈ lbss cs,H l ≠ .unused) (hNm : ∀ cs ∈ news,∀ l ∈ lbss cs,H l ≠ .unused)
   (ho : olds.length = n * sz) (hv : vals.length = news.length * sz)
   (h1 : ∀ i j cs x,A[i]? = some cs → cs[j]? = some x → ∃ v,olds[i * sz + j]? = some v ∧ RV w β H (Im K β H) x v)
   (h2 : ∀ i j cs x,news[i]? = some cs → cs[j]? = some x → ∃ v,vals[i * sz + j]? = some v ∧ RV w β H (Im K β H) x v)
   (hrest : (olds ++ vals ++ rest).length = cap * sz) (hcap : cap ≤ maxLen) (hle : n + m ≤ cap)
   (hrun : (execOp a.eval o).run K.P w = .ok (.value (.slice (some ⟨w.heap.size,0,none⟩) (n + m) cap)) (w.drew.alloc (.cells (olds ++ vals ++ rest).toArray e))) :
   StepR K env a w o (some d) (.sl lb sz 0 (n + m)) (upd Hk lb (.live ⟨sz,A ++ news⟩)) := by
 have gw : Grew w (w.drew.alloc (.cells (olds ++ vals ++ rest).toArray e)) := (grew_drew w).trans (grew_alloc w.drew _)
 have keep := keepNew hr (H' := upd Hk lb (.live ⟨sz,A ++ news⟩)) (lb := lb) (b := some w.heap.size) gw hu (by simp) (fun q hq ⟨r,h⟩ => by rw [upd_ne _ _ hq] at h; exact hHk q ⟨r,h⟩)
 have hel : ∀ cs ∈ A ++ news,cs.length = sz ∧ ∀ l ∈ lbss cs,H l ≠ .unused := by
   intro cs hcs
   rcases List.mem_append.1 hcs with h | h
   · exact ⟨hAs cs h,hAm cs h⟩
   · exact ⟨hNs cs h,hNm cs h⟩
 have hrow : RowR (w.drew.alloc (.cells (olds ++ vals ++ rest).toArray e)) (upd β lb (some w.heap.size)) (upd Hk lb (.live ⟨sz,A ++ news⟩))
     (Im K (upd β lb (some w.heap.size)) (upd Hk lb (.live ⟨sz,A ++ news⟩))) lb ⟨sz,A ++ news⟩ := by
   refine ⟨h0,fun cs hcs => (hel cs hcs).1,?_⟩
   simp only [upd_same]
   refine ⟨(olds ++ vals ++ rest).toArray,e,cap,heap_alloc_new w.drew _,by simp only [List.size_toArray]; exact hrest,hcap,by simp; omega,fun i j cs x hi hj => ?_⟩
   obtain ⟨v,q1,q2⟩ := comb A news hA hAs hNs olds vals rest ho hv h1 h2 i j cs x hi hj
   exact ⟨v,by simpa using q1,RV.mono _ _ (keep _ (fun q hq => (hel cs (List.mem_of_getElem? hi)).2 q (lbss_get _ _ _ hj q hq))) q2⟩
 have h3 := hk.addRow lb huk gw (some w.heap.size) (by simp) (fun cs hcs q hq => hHu q ((hel cs hcs).2 q hq)) hrow
 have h4 := h3.step (Below.refl _ _) (d := some d) (x := .sl lb sz 0 (n + m)) (v := .slice (some ⟨w.heap.size,0,none⟩) (n + m) cap) (by simpa using hd)
   (fun _ => by
     simp only [RV]
     refine ⟨_,_,rfl,hle,hcap,by simp,fun _ => .inr ⟨w.heap.size,cap * sz,by simp,by simp,?_,by simp⟩⟩
     have hh : (w.drew.alloc (.cells (olds ++ vals ++ rest).toArray e)).heap[w.heap.size]? = some (.cells (olds ++ vals ++ rest).toArray e) := heap_alloc_new w.drew _
     unfold bsz
     rw [hh]
     simp only [List.size_toArray,hrest]) (by simp [AV.lbs])
 exact ⟨_,_,_,_,hrun,.inl rfl,h4⟩
theorem app_none (hr : RelB K β env H a w) {Hk : Hp} (hk : RelB K β env Hk a w) {o : Oper} {d sz : Nat} {lb : Lb} (hd : d < K.N) (h0 : 0 < sz) (huk : Hk lb = .unused) {ad : Option Addr}
   (hrun : (execOp a.eval o).run K.P w = .ok (.value (.slice ad 0 0)) w) :
   StepR K env a w o (some d) (.sl lb sz 0 0) (upd Hk lb (.live ⟨sz,[]⟩)) := by
 have h3 := hk.addRow lb huk (r := ⟨sz,[]⟩) (Below.refl _ _) none (by simp) (by simp) ⟨h0,by simp,by simp⟩
 have h4 := h3.step (Below.refl _ _) (d := some d) (x := .sl lb sz 0 0) (v := .slice ad 0 0) (by simpa using hd)
   (fun _ => by simp only [RV]; exact ⟨_,0,rfl,by omega,by simp [maxLen],by simp,fun _ => .inl rfl⟩) (by simp [AV.lbs])
 exact ⟨_,_,_,_,hrun,.inl rfl,h4⟩
theorem over_get {α : Type} (A N : List α) (i : Nat) (h : i + N.length ≤ A.length) (k : Nat) : (A.take i ++ N ++ A.drop (i + N.length))[k]? = if k < i then A[k]? else if k < i + N.length then N[k - i]? else A[k]? := by
 have ht : (A.take i).length = i := by rw [List.length_take]; omega
 rw [List.append_assoc]
 by_cases h1 : k < i
 · rw [if_pos h1,List.getElem?_append_left (by omega),List.getElem?_take,if_pos h1]
 · rw [if_neg h1,List.getElem?_append_right (by omega),ht]
   by_cases h2 : k < i + N.length
   · rw [if_pos h2,List.getElem?_append_left (by omega)]
   · rw [if_neg h2,List.getElem?_append_right (by omega),List.getElem?_drop]
     congr 1; omega
theorem write_row (hr : RelB K β env H a w) {l : Lb} {r : Row} {g : Nat} (hl : H l = .live r) (hb : β l = some g) {i : Nat} {news : List (List AV)} {vals : List Value} (hin : i + news.length ≤ r.els.length)
   (hNs : ∀ cs ∈ news,cs.length = r.sz) (hNm : ∀ cs ∈ news,∀ q ∈ lbss cs,H q ≠ .unused) (hv : vals.length = news.length * r.sz)
   (h2 : ∀ i j cs x,news[i]? = some cs → cs[j]? = some x → ∃ v,vals[i * r.sz + j]? = some v ∧ RV w β H (Im K β H) x v) (hone : ∀ v ∈ vals,v.oneCell' = true) :
   ∃ cur',(storeCells ⟨g,i * r.sz,none⟩ vals).run K.P w = .ok () (w.setRow g cur') ∧
     RelB K β env (upd H l (.live ⟨r.sz,r.els.take i ++ news ++ r.els.drop (i + news.length)⟩)) a (w.setRow g cur') ∧ bsz (w.setRow g cur') g = bsz w g := by
 obtain ⟨cur,e0,cap,k1,k2,k3,k4,k5⟩ := (hr.rows l r hl).block hb
 have hsz : 0 < r.sz := (hr.rows l r hl).1
 have hroom : i * r.sz + vals.length ≤ cur.size := by
   rw [hv,k2,← Nat.add_mul]
   exact Nat.mul_le_mul_right _ (by omega)
 have hstc := run_storeCells_at K.P g (i * r.sz) e0 vals 0 cur w k1 (by simpa using hroom) hone
 simp only [Nat.add_zero] at hstc
 have hsize : (cur.toList.take (i * r.sz) ++ vals ++ cur.toList.drop (i * r.sz + vals.length)).toArray.size = cur.size := by
   simp only [List.size_toArray,List.length_append,List.length_take,List.length_drop,Array.length_toList]
   omega
 have hlen : (r.els.take i ++ news ++ r.els.drop (i + news.length)).length = r.els.length := by simp; omega
 have hset := hr.setRow l (r' := ⟨r.sz,r.els.take i ++ news ++ r.els.drop (i + news.length)⟩) (cap := cap) hl hb k1 hsize rfl k2 k3 (by simp only; omega)
   (by
     intro cs hcs
     rcases List.mem_append.1 hcs with h | h
     · rcases List.mem_append.1 h with h | h
       · exact (hr.rows l r hl).2.1 cs (List.mem_of_mem_take h)
       · exact hNs cs h
     · exact (hr.rows l r hl).2.1 cs (List.mem_of_mem_drop h))
   (by
     intro cs hcs
     rcases List.mem_append.1 hcs with h | h
     · rcases List.mem_append.1 h with h | h
       · exact hr.rment l r hl cs (List.mem_of_mem_take h)
       · exact hNm cs h
     · exact hr.rment l r hl cs (List.mem_of_mem_drop h))
   (by
     intro i' j cs x0 hi' hj'
     simp only at hi'
     rw [over_get _ _ _ hin] at hi'
     have hget := over_get cur.toList vals (i * r.sz) (by simpa using hroom)
     simp only [List.getElem?_toArray,hget]
     have hjs : j < r.sz := by
       have h9 := (List.getElem?_eq_some_iff.1 hj').1
       have h8 : cs.length = r.sz := by
         split at hi'
         · exact (hr.rows l r hl).2.1 cs (List.mem_of_getElem? hi')
         · split at hi'
           · exact hNs cs (List.mem_of_getElem? hi')
           · exact (hr.rows l r hl).2.1 cs (List.mem_of_getElem? hi')
       omega
     by_cases h1 : i' < i
     · rw [if_pos h1] at hi'
       have := Nat.mul_le_mul_right r.sz (show i' + 1 ≤ i by omega)
       rw [Nat.add_mul] at this
       rw [if_pos (by omega)]
       obtain ⟨v,q1,q2⟩ := k5 i' j cs x0 hi' hj'
       exact ⟨v,by simpa using q1,q2⟩
     · rw [if_neg h1] at hi'
       have h3 := Nat.mul_le_mul_right r.sz (show i ≤ i' by omega)
       rw [if_neg (by omega)]
       by_cases h4 : i' < i + news.length
       · rw [if_pos h4] at hi'
         have := Nat.mul_le_mul_right r.sz (show i' + 1 ≤ i + news.length by omega)
         rw [Nat.add_mul,Nat.add_mul,Nat.one_mul] at this
         rw [if_pos (by rw [hv]; omega)]
         obtain ⟨v,q1,q2⟩ := h2 (i' - i) j cs x0 hi' hj'
         refine ⟨v,?_,q2⟩
         rw [← q1]; congr 1
         rw [Nat.sub_mul]; omega
       · rw [if_neg h4] at hi'
         have := Nat.mul_le_mul_right r.sz (show i + news.length ≤ i' by omega)
         rw [Nat.add_mul] at this
         rw [if_neg (by rw [hv]; omega)]
         obtain ⟨v,q1,q2⟩ := k5 i' j cs x0 hi' hj'
         exact ⟨v,by simpa using q1,q2⟩)
 refine ⟨_,hstc,hset,?_⟩
 have : bsz w g = some cur.size := by unfold bsz; simp [k1]
 rw [this]
 exact bsz_setRow k1 hsize g cur.size this
theorem ok_arr {v : Value} {w1 : World} {e : TypeId} (x y : Array Value) (h : x = y) :
   (Result.ok v (w1.alloc (.cells x e))).andThen (fun v w' => .ok (Next.value v) w') = .ok (.value v) (w1.alloc (.cells y e)) := by
 subst h; rfl
theorem len_eq {m C sz : Nat} (h : m ≤ C) : m * sz + (C - m) * sz = C * sz := by
 rw [← Nat.add_mul]; congr 1; omega
theorem zeroCells_len (z : Array Value) (n : Nat) : (Builtin.zeroCells z n).toList.length = n * z.size := by simp [size_zeroCells]
theorem r_app (hr : RelB K β env H a w) {o : Oper} {c : Call} {s x : Operand} {s' x' : O} {st xt e : TypeId} {i : TypeInfo} {z : Value} {dx : TypeDesc} {d : Nat} (hd : d < K.N) (ho : o.op = .call c) (hc : c.callee = .builtin .append)
   (ha : c.args.toList = [s,x]) (hat : c.argTypes.toList = [st,xt]) (hst : K.P.underlying st = some (.slice e)) (hi : K.P.info? e = some i) (hz : i.zero = some z) (hzs : z.cells.size = i.size) (h0 : 0 < i.size)
   (hxt : K.P.underlying xt = some dx) (hdx : dx = .string ∨ ∃ e2,dx = .slice e2) (hs : co K.G s = some s') (hx : co K.G x = some x') {y : AV} {H' : Hp}
   (hy : appV i.size i.bytes d (ev env s') (ev env x') H = some (y,H')) : StepR K env a w o (some d) y H' := by
 have ha' : c.args = #[s,x] := by cases hh : c.args; simp_all
 have hat' : c.argTypes = #[st,xt] := by cases hh : c.argTypes; simp_all
 have hexec : (execOp a.eval o).run K.P w = ((Builtin.append_ #[st,xt] o.type #[a.eval s,a.eval x]).run K.P w).andThen fun v w' => .ok (.value v) w' := by
   simp [execOp,ho,resolve,hc,ha',hat',invoke,builtin]
 unfold appV at hy
 obtain ⟨news,hn,hy⟩ := Option.bind_eq_some_iff.1 hy
 obtain ⟨vals,S⟩ := src_run hr hx h0 hn
 have hsv := hr.ev hs
 split at hy
 · simp at hy
 · rename_i hone
   have hone : ∀ cs ∈ news,AV.one1 cs := Classical.byContradiction hone
   have hvone : ∀ v ∈ vals,v.oneCell' = true := by
     intro v hv
     obtain ⟨q,hq⟩ := List.getElem?_of_mem hv
     have hql : q < news.length * i.size := by rw [← S.len]; exact (List.getElem?_eq_some_iff.1 hq).1
     have hqi : q / i.size < news.length := Nat.div_lt_of_lt_mul (by rw [Nat.mul_comm]; exact hql)
     have hqj : q % i.size < i.size := Nat.mod_lt _ h0
     have hc0 : news[q / i.size]? = some news[q / i.size] := List.getElem?_eq_getElem hqi
     have hcl := S.sz' _ (List.getElem_mem hqi)
     have hx0 : (news[q / i.size])[q % i.size]? = some ((news[q / i.size])[q % i.size]'(by omega)) := List.getElem?_eq_getElem (by omega)
     obtain ⟨v',e1,e2⟩ := S.rv _ _ _ _ hc0 hx0
     have : q / i.size * i.size + q % i.size = q := by rw [Nat.mul_comm]; exact Nat.div_add_mod q i.size
     rw [this,hq] at e1
     cases e1
     exact RV.oneCell e2 (hone _ (List.getElem_mem hqi) _ (List.getElem_mem _))
   have hold0 : ∀ ad : Option Addr,∀ cc,(Builtin.firstCells i.size 0 (.slice ad 0 cc)).run K.P w.drew = .ok #[] w.drew := by
     intro ad cc
     cases ad with
     | none => simp [Builtin.firstCells]
     | some q => simp [Builtin.firstCells,loadCells,loadCellsFrom]
   split at hy
   · -- nothing yet
     rename_i e1
     rw [e1] at hsv
     simp only [RV] at hsv
     obtain ⟨ad,hsv⟩ := hsv
     split at hy
     · rename_i hb
       obtain ⟨hb1,hb2,hu⟩ := hb
       have hb : news.length * i.bytes ≤ 140737488355328 ∧ 0 < i.bytes := ⟨hb1,hb2⟩
       simp only [Option.some.injEq,Prod.mk.injEq] at hy
       obtain ⟨rfl,rfl⟩ := hy
       by_cases hm0 : news.length = 0
       · have hne : news = [] := List.eq_nil_of_length_eq_zero hm0
         subst hne
         have hve : vals = [] := List.eq_nil_of_length_eq_zero (by simpa using S.len)
         subst hve
         have hr1 := run_append_in (ty := o.type) hst hi hxt hdx ad 0 0 0 (a.eval x) #[] S.lenOf (S.cells w (.inl rfl)) (by omega)
         refine app_none hr hr hd h0 hu (ad := ad) ?_
         rw [hexec,hsv,hr1]
         cases ad <;> simp [storeCells]
       · have hr1 := run_append_out (ty := o.type) hst hi hz hxt hdx ad 0 0 news.length (a.eval x) vals.toArray #[] S.lenOf (S.cells w.drew (.inr rfl)) (hold0 ad 0) (by omega) (by simpa using hb.1) hb.2
         have hge := grownCap_ge w (0 + news.length) 0 e
         have hcm := grownCap_le_maxLen w (0 + news.length) 0 e (by
           have := Nat.le_mul_of_pos_right news.length hb.2
           simp only [maxLen]; omega)
         have := app_fresh hr hr (fun _ h => h) (fun _ h => h) (o := o) hd (e := e) (n := 0) (m := news.length) (A := []) (news := news) (olds := []) (vals := vals)
           (rest := (Builtin.zeroCells z.cells (grownCap w (0 + news.length) 0 e - (0 + news.length))).toList) h0 hu hu rfl rfl (by simp) S.sz' (by simp) S.ment (by simp) S.len (by simp) S.rv
           (cap := grownCap w (0 + news.length) 0 e) (by
             have h9 := len_eq (sz := i.size) hge
             simp only [List.length_append,List.length_nil,S.len,zeroCells_len,hzs]
             simp only [Nat.zero_add] at h9 ⊢
             exact h9) hcm hge (by
             rw [hexec,hsv,hr1]
             exact ok_arr _ _ (by simp))
         simpa using this
     · simp at hy
   · -- a row
     rename_i l s0 i0 n e1
     rw [e1] at hsv
     simp only [RV] at hsv
     obtain ⟨ad,cc,h1,h2,h3,h4,h5⟩ := hsv
     split at hy
     · rename_i r hl
       split at hy
       · rename_i hcond
         obtain ⟨rfl,hrs,rfl,hnl,hb,hb0,hlne,hu⟩ := hcond
         simp only [Option.some.injEq,Prod.mk.injEq] at hy
         obtain ⟨rfl,rfl⟩ := hy
         have hAl : (r.els.take n).length = n := by simp; omega
         have hAs : ∀ cs ∈ r.els.take n,cs.length = i.size := fun cs hcs => by rw [← hrs]; exact (hr.rows l r hl).2.1 cs (List.mem_of_mem_take hcs)
         have hAm : ∀ cs ∈ r.els.take n,∀ q ∈ lbss cs,H q ≠ .unused := fun cs hcs => hr.rment l r hl cs (List.mem_of_mem_take hcs)
         have hkill := hr.kill l (by rw [hl]; simp)
         have huk : upd H l .dead (l.app d) = .unused := by rw [upd_ne _ _ (Ne.symm hlne)]; exact hu
         have hHk : ∀ q,live (upd H l .dead) q → live H q := by
           rintro q ⟨r',h⟩
           by_cases e : q = l
           · subst e; simp at h
           · rw [upd_ne _ _ e] at h; exact ⟨r',h⟩
         have hHu : ∀ q,H q ≠ .unused → upd H l .dead q ≠ .unused := by
           intro q h
           by_cases e : q = l
           · subst e; simp
           · rw [upd_ne _ _ e]; exact h
         by_cases hcz : cc = 0
         · subst hcz
           have hn0 : n = 0 := by omega
           subst hn0
           by_cases hm0 : news.length = 0
           · have hne : news = [] := List.eq_nil_of_length_eq_zero hm0
             subst hne
             have hve : vals = [] := List.eq_nil_of_length_eq_zero (by simpa using S.len)
             subst hve
             have hr1 := run_append_in (ty := o.type) hst hi hxt hdx ad 0 0 0 (a.eval x) #[] S.lenOf (S.cells w (.inl rfl)) (by omega)
             have := app_none hr hkill (o := o) hd h0 huk (ad := ad) (by
               rw [hexec,h1,hr1]
               cases ad <;> simp [storeCells])
             simpa using this
           · have hr1 := run_append_out (ty := o.type) hst hi hz hxt hdx ad 0 0 news.length (a.eval x) vals.toArray #[] S.lenOf (S.cells w.drew (.inr rfl)) (hold0 ad 0) (by omega) (by simpa using hb) hb0
             have hge := grownCap_ge w (0 + news.length) 0 e
             have hcm := grownCap_le_maxLen w (0 + news.length) 0 e (by
               have := Nat.le_mul_of_pos_right (0 + news.length) hb0
               simp only [maxLen]; omega)
             have := app_fresh hr hkill hHk hHu (o := o) hd (e := e) (n := 0) (m := news.length) (A := []) (news := news) (olds := []) (vals := vals)
               (rest := (Builtin.zeroCells z.cells (grownCap w (0 + news.length) 0 e - (0 + news.length))).toList) h0 hu huk rfl rfl (by simp) S.sz' (by simp) S.ment (by simp) S.len (by simp) S.rv
               (cap := grownCap w (0 + news.length) 0 e) (by
                 have h9 := len_eq (sz := i.size) hge
                 simp only [List.length_append,List.length_nil,S.len,zeroCells_len,hzs]
                 simp only [Nat.zero_add] at h9 ⊢
                 exact h9) hcm hge (by
                 rw [hexec,h1,hr1]
                 exact ok_arr _ _ (by simp))
             simpa using this
         · rcases h5 ⟨r,hl⟩ with h6 | ⟨g,Sz,g1,rfl,g3,g4⟩
           · exact absurd h6 hcz
           · obtain ⟨cur,e0,cap,k1,k2,k3,k4,k5⟩ := (hr.rows l r hl).block g1
             have hS : cur.size = Sz := by
               unfold bsz at g3
               simp only [k1] at g3
               simpa using g3
             have hsz2 : cc * i.size = cur.size := by rw [hS,← g4]; simp
             have hnsz : n * i.size ≤ cur.size := by rw [← hsz2]; exact Nat.mul_le_mul_right _ h2
             have hcapc : cap = cc := by
               rw [hrs] at k2
               rw [k2] at hsz2
               exact (Nat.eq_of_mul_eq_mul_right h0 hsz2).symm
             have hA1 : ∀ i' j cs x0,(r.els.take n)[i']? = some cs → cs[j]? = some x0 → ∃ v,(cur.toList.take (n * i.size))[i' * i.size + j]? = some v ∧ RV w β H (Im K β H) x0 v := by
               intro i' j cs x0 hi' hj'
               rw [List.getElem?_take] at hi'
               split at hi'
               · rename_i hlt
                 obtain ⟨v,q1,q2⟩ := k5 i' j cs x0 hi' hj'
                 rw [hrs] at q1
                 refine ⟨v,?_,q2⟩
                 have hjs : j < i.size := by
                   have := (hr.rows l r hl).2.1 cs (List.mem_of_getElem? hi')
                   have := (List.getElem?_eq_some_iff.1 hj').1
                   omega
                 have hlt2 : i' * i.size + j < n * i.size := by
                   have := Nat.mul_le_mul_right i.size (show i' + 1 ≤ n by omega)
                   rw [Nat.add_mul] at this; omega
                 rw [List.getElem?_take,if_pos hlt2]
                 simpa using q1
               · simp at hi'
             have holen : (cur.toList.take (n * i.size)).length = n * i.size := by simp; omega
             by_cases hfit : n + news.length ≤ cc
             · -- within the room
               have hr1 := run_append_in (ty := o.type) hst hi hxt hdx (some ⟨g,0 * i.size,none⟩) n cc news.length (a.eval x) vals.toArray S.lenOf (S.cells w (.inl rfl)) hfit
               have hroom : n * i.size + vals.length ≤ cur.size := by
                 rw [S.len,← hsz2,← Nat.add_mul]
                 exact Nat.mul_le_mul_right _ hfit
               have hstc := run_storeCells_at K.P g (n * i.size) e0 vals 0 cur w k1 (by simpa using hroom) hvone
               simp only [Nat.add_zero] at hstc
               have hsize : (cur.toList.take (n * i.size) ++ vals ++ cur.toList.drop (n * i.size + vals.length)).toArray.size = cur.size := by
                 simp only [List.size_toArray,List.length_append,List.length_take,List.length_drop,Array.length_toList]
                 omega
               have hset := hr.setRow l (r' := ⟨i.size,r.els.take n ++ news⟩) (cap := cap) hl g1 k1 hsize hrs.symm k2 k3 (by simp; omega)
                 (by
                   intro cs hcs
                   rw [hrs]
                   rcases List.mem_append.1 hcs with h | h
                   · exact hAs cs h
                   · exact S.sz' cs h)
                 (by
                   intro cs hcs
                   rcases List.mem_append.1 hcs with h | h
                   · exact hAm cs h
                   · exact S.ment cs h)
                 (by
                   intro i' j cs x0 hi' hj'
                   rw [hrs]
                   obtain ⟨v,q1,q2⟩ := comb (r.els.take n) news hAl hAs S.sz' (cur.toList.take (n * i.size)) vals (cur.toList.drop (n * i.size + vals.length)) holen S.len hA1 S.rv i' j cs x0 hi' hj'
                   exact ⟨v,by simpa using q1,q2⟩)
               have hrel := hset.relabel l (l.app d) (r := ⟨i.size,r.els.take n ++ news⟩) (by simp) (by rw [upd_ne _ _ (Ne.symm hlne)]; exact hu) (Lb.app_fresh l d)
               rw [upd_upd] at hrel
               have h4' := hrel.step (Below.refl _ _) (d := some d) (x := .sl (l.app d) i.size 0 (n + news.length)) (v := .slice (some ⟨g,0 * i.size,none⟩) (n + news.length) cc) (by simpa using hd)
                 (fun _ => by
                   simp only [RV]
                   refine ⟨_,_,rfl,hfit,h3,by simp,fun _ => .inr ⟨g,cur.size,by simp [g1],by simp,?_,by simpa using hsz2⟩⟩
                   exact bsz_setRow k1 hsize g cur.size (by unfold bsz; simp [k1])) (by simp [AV.lbs])
               refine ⟨_,_,_,_,?_,.inl rfl,h4'⟩
               rw [hexec,h1,hr1]
               simp only [addr_add,Nat.zero_mul,Nat.zero_add,hstc,Result.andThen_ok]
             · -- a new block
               have hr1 := run_append_out (ty := o.type) hst hi hz hxt hdx (some ⟨g,0 * i.size,none⟩) n cc news.length (a.eval x) vals.toArray (cur.toList.take (n * i.size)).toArray S.lenOf (S.cells w.drew (.inr rfl))
                 (run_firstCells_some (P := K.P) w.drew i.size n ⟨g,0 * i.size,none⟩ n cc _ holen (fun j v hj => by
                   rw [addr_add,Nat.zero_mul,Nat.zero_add]
                   have : w.cell? ⟨g,j,none⟩ = some v := by
                     rw [cell_of_row w g _ cur e0 (0,0) k1]
                     rw [List.getElem?_take] at hj
                     split at hj
                     · simpa using hj
                     · simp at hj
                   simpa using this)) (by omega) hb hb0
               have hge := grownCap_ge w (n + news.length) cc e
               have hcm := grownCap_le_maxLen w (n + news.length) cc e (by
                 have := Nat.le_mul_of_pos_right (n + news.length) hb0
                 simp only [maxLen]; omega)
               have := app_fresh hr hkill hHk hHu (o := o) hd (e := e) (n := n) (m := news.length) (A := r.els.take n) (news := news) (olds := cur.toList.take (n * i.size)) (vals := vals)
                 (rest := (Builtin.zeroCells z.cells (grownCap w (n + news.length) cc e - (n + news.length))).toList) h0 hu huk hAl rfl hAs S.sz' hAm S.ment holen S.len hA1 S.rv
                 (cap := grownCap w (n + news.length) cc e) (by
                   have h9 := len_eq (sz := i.size) hge
                   simp only [List.length_append,holen,S.len,zeroCells_len,hzs]
                   rw [Nat.add_mul] at h9
                   exact h9) hcm hge (by
                   rw [hexec,h1,hr1]
                   exact ok_arr _ _ (by simp))
               exact this
       · simp at hy
     · simp at hy
   · -- a row whose room is known
     rename_i l s0 i0 n c0 e1
     rw [e1] at hsv
     simp only [RV] at hsv
     obtain ⟨ad,h1,h2,h3,h4,h5⟩ := hsv
     split at hy
     · rename_i r hl
       split at hy
       · rename_i hcond
         obtain ⟨rfl,hrs,rfl,hnl,hb0,hlne⟩ := hcond
         have hAl : (r.els.take n).length = n := by simp; omega
         have hAs : ∀ cs ∈ r.els.take n,cs.length = i.size := fun cs hcs => by rw [← hrs]; exact (hr.rows l r hl).2.1 cs (List.mem_of_mem_take hcs)
         have hAm : ∀ cs ∈ r.els.take n,∀ q ∈ lbss cs,H q ≠ .unused := fun cs hcs => hr.rment l r hl cs (List.mem_of_mem_take hcs)
         split at hy
         · rename_i hfit
           split at hy
           · rename_i hfit2
             simp only [Option.some.injEq,Prod.mk.injEq] at hy
             obtain ⟨rfl,rfl⟩ := hy
             have hr1 := run_append_in (ty := o.type) hst hi hxt hdx ad n c0 news.length (a.eval x) vals.toArray S.lenOf (S.cells w (.inl rfl)) hfit
             by_cases hcz : c0 = 0
             · subst hcz
               have hn0 : n = 0 := by omega
               subst hn0
               have hne : news = [] := List.eq_nil_of_length_eq_zero (by omega)
               subst hne
               have hve : vals = [] := List.eq_nil_of_length_eq_zero (by simpa using S.len)
               subst hve
               have hH : upd H l (.live ⟨i.size,r.els.take 0 ++ [] ++ r.els.drop (0 + ([] : List (List AV)).length)⟩) = H := by
                 funext q
                 by_cases e : q = l
                 · subst e; simp only [upd_same,List.take_zero,List.nil_append,List.length_nil,Nat.add_zero,List.drop_zero,← hrs,hl]
                 · rw [upd_ne _ _ e]
               rw [hH]
               have h4' := hr.step (Below.refl _ _) (d := some d) (x := .slk l i.size 0 (0 + ([] : List (List AV)).length) 0) (v := .slice ad 0 0) (by simpa using hd)
                 (fun _ => by
                   simp only [RV]
                   exact ⟨ad,by simp,by simp,by simp [maxLen],by simp,fun _ => .inl rfl⟩) (fun _ q hq => by simp [AV.lbs] at hq; subst hq; rw [hl]; simp)
               refine ⟨_,_,_,_,?_,.inl rfl,h4'⟩
               rw [hexec,h1,hr1]
               cases ad <;> simp [storeCells]
             · rcases h5 ⟨r,hl⟩ with h6 | ⟨g,Sz,g1,rfl,g3,g4⟩
               · exact absurd h6 hcz
               · obtain ⟨cur',w1,w2,w3⟩ := write_row hr hl g1 (i := n) (news := news) (vals := vals) hfit2 (by rw [hrs]; exact S.sz') S.ment (by rw [hrs]; exact S.len) (by rw [hrs]; exact S.rv) hvone
                 rw [hrs] at w1 w2
                 have h4' := w2.step (Below.refl _ _) (d := some d) (x := .slk l i.size 0 (n + news.length) c0) (v := .slice (some ⟨g,0 * i.size,none⟩) (n + news.length) c0) (by simpa using hd)
                   (fun _ => by
                     simp only [RV]
                     exact ⟨_,rfl,hfit,h3,by simp,fun _ => .inr ⟨g,Sz,g1,rfl,by rw [w3]; exact g3,g4⟩⟩) (fun _ q hq => by simp [AV.lbs] at hq; subst hq; simp)
                 refine ⟨_,_,_,_,?_,.inl rfl,h4'⟩
                 rw [hexec,h1,hr1]
                 simp only [addr_add,Nat.zero_mul,Nat.zero_add,w1,Result.andThen_ok]
           · simp at hy
         · rename_i hfit
           split at hy
           · rename_i hcond2
             obtain ⟨hb,hu⟩ := hcond2
             simp only [Option.some.injEq,Prod.mk.injEq] at hy
             obtain ⟨rfl,rfl⟩ := hy
             have hge := grownCap_ge w (n + news.length) c0 e
             have hcm := grownCap_le_maxLen w (n + news.length) c0 e (by
               have := Nat.le_mul_of_pos_right (n + news.length) hb0
               simp only [maxLen]; omega)
             have olds : ∃ olds : List Value,olds.length = n * i.size ∧ (∀ i' j cs x0,(r.els.take n)[i']? = some cs → cs[j]? = some x0 → ∃ v,olds[i' * i.size + j]? = some v ∧ RV w β H (Im K β H) x0 v) ∧
                 (Builtin.firstCells i.size n (.slice ad n c0)).run K.P w.drew = .ok olds.toArray w.drew := by
               by_cases hcz : c0 = 0
               · have hn0 : n = 0 := by omega
                 subst hn0
                 exact ⟨[],by simp,by simp,by simpa using hold0 ad c0⟩
               · rcases h5 ⟨r,hl⟩ with h6 | ⟨g,Sz,g1,rfl,g3,g4⟩
                 · exact absurd h6 hcz
                 · obtain ⟨cur,e0,cap,k1,k2,k3,k4,k5⟩ := (hr.rows l r hl).block g1
                   rw [hrs] at k2
                   have hnsz : n * i.size ≤ cur.size := by rw [k2]; exact Nat.mul_le_mul_right _ (by omega)
                   have holen : (cur.toList.take (n * i.size)).length = n * i.size := by simp; omega
                   refine ⟨cur.toList.take (n * i.size),holen,?_,?_⟩
                   · intro i' j cs x0 hi' hj'
                     rw [List.getElem?_take] at hi'
                     split at hi'
                     · rename_i hlt
                       obtain ⟨v,q1,q2⟩ := k5 i' j cs x0 hi' hj'
                       rw [hrs] at q1
                       refine ⟨v,?_,q2⟩
                       have hjs : j < i.size := by
                         have := (hr.rows l r hl).2.1 cs (List.mem_of_getElem? hi')
                         have := (List.getElem?_eq_some_iff.1 hj').1
                         omega
                       have hlt2 : i' * i.size + j < n * i.size := by
                         have := Nat.mul_le_mul_right i.size (show i' + 1 ≤ n by omega)
                         rw [Nat.add_mul] at this; omega
                       rw [List.getElem?_take,if_pos hlt2]
                       simpa using q1
                     · simp at hi'
                   · exact run_firstCells_some (P := K.P) w.drew i.size n ⟨g,0 * i.size,none⟩ n c0 _ holen (fun j v hj => by
                       rw [addr_add,Nat.zero_mul,Nat.zero_add]
                       have : w.cell? ⟨g,j,none⟩ = some v := by
                         rw [cell_of_row w g _ cur e0 (0,0) k1]
                         rw [List.getElem?_take] at hj
                         split at hj
                         · simpa using hj
                         · simp at hj
                       simpa using this)
             obtain ⟨olds,ho1,ho2,ho3⟩ := olds
             have hr1 := run_append_out (ty := o.type) hst hi hz hxt hdx ad n c0 news.length (a.eval x) vals.toArray olds.toArray S.lenOf (S.cells w.drew (.inr rfl)) ho3 (by omega) hb hb0
             have := app_fresh hr hr (fun _ h => h) (fun _ h => h) (o := o) hd (e := e) (n := n) (m := news.length) (A := r.els.take n) (news := news) (olds := olds) (vals := vals)
               (rest := (Builtin.zeroCells z.cells (grownCap w (n + news.length) c0 e - (n + news.length))).toList) h0 hu hu hAl rfl hAs S.sz' hAm S.ment ho1 S.len ho2 S.rv
               (cap := grownCap w (n + news.length) c0 e) (by
                 have h9 := len_eq (sz := i.size) hge
                 simp only [List.length_append,ho1,S.len,zeroCells_len,hzs]
                 rw [← Nat.add_mul]
                 exact h9) hcm hge (by
                 rw [hexec,h1,hr1]
                 exact ok_arr _ _ (by simp))
             exact this
           · simp at hy
       · simp at hy
     · simp at hy
   · simp at hy
end
end Go.Am
