import Derived.Test.YtfinkeaikbmpgaaAm11
import Derived.Laws.MakeOwn
set_option linter.unusedSimpArgs false
set_option linter.unusedVariables false
set_option linter.unnecessarySimpa false
set_option linter.defProp false
/- THE ABSTRACT MACHINE, part 38: copies, clears, rows of noughts, room. -/
namespace Go.Am
open Go Go.RowKit
def slP : AV → Option (Lb × Nat × Nat × Nat)
 | .sl l sz i n => some (l,sz,i,n)
 | .slk l sz i n _ => some (l,sz,i,n)
 | _ => none
def capR : AV → Option (Nat → Prop)
 | .slk _ _ _ _ c => some fun m => m = c
 | .sl _ _ _ n => some fun m => n ≤ m
 | .list xs => some fun m => xs.length ≤ m
 | .nil0 => some fun m => m = 0
 | _ => none
open Classical in
noncomputable def cpyV (sz : Nat) (d x : AV) (H : Hp) : Option (AV × Hp) :=
 (srcE sz x H).bind fun news => (slP d).bind fun p => if ¬ (∀ cs ∈ news.take (Nat.min news.length p.2.2.2),AV.one1 cs) then none else
   match H p.1 with
     | .live r => if p.2.1 = sz ∧ r.sz = sz ∧ p.2.2.1 + p.2.2.2 ≤ r.els.length then
         some (.int .i64 ((Nat.min news.length p.2.2.2 : Nat) : Int),upd H p.1 (.live ⟨sz,r.els.take p.2.2.1 ++ news.take (Nat.min news.length p.2.2.2) ++ r.els.drop (p.2.2.1 + (news.take (Nat.min news.length p.2.2.2)).length)⟩)) else none
     | _ => none
open Classical in
noncomputable def clrV (sz : Nat) (z : List AV) (x : AV) (H : Hp) : Option Hp :=
 if ¬ AV.one1 z then none else (slP x).bind fun p => match H p.1 with
   | .live r => if p.2.1 = sz ∧ r.sz = sz ∧ p.2.2.1 + p.2.2.2 ≤ r.els.length then
       some (upd H p.1 (.live ⟨sz,r.els.take p.2.2.1 ++ List.replicate p.2.2.2 z ++ r.els.drop (p.2.2.1 + (List.replicate p.2.2.2 z).length)⟩)) else none
   | _ => none
open Classical in
noncomputable def mksV (sz bytes d : Nat) (z : List AV) (n c : AV) (H : Hp) : Option (AV × Hp) :=
 match n,c with
 | .int _ m,.int _ m' => if m = m' ∧ 0 ≤ m ∧ m.toNat * bytes ≤ 140737488355328 ∧ H (.loc d) = .unused then some (.sl (.loc d) sz 0 m.toNat,upd H (.loc d) (.live ⟨sz,List.replicate m.toNat z⟩)) else none
 | _,_ => none
open Classical in
noncomputable def appzV (sz bytes d : Nat) (z : List AV) (s n : AV) (H : Hp) : Option (AV × Hp) :=
 match s,n with
 | .slk l s' i n c,.int _ m => match H l with
   | .live r => if s' = sz ∧ r.sz = sz ∧ i = 0 ∧ n ≤ r.els.length ∧ 0 ≤ m ∧ c < n + m.toNat ∧ (n + m.toNat) * bytes ≤ 140737488355328 ∧ H (.loc d) = .unused then
       some (.sl (.loc d) sz 0 (n + m.toNat),upd H (.loc d) (.live ⟨sz,r.els.take n ++ List.replicate m.toNat z⟩)) else none
   | _ => none
 | _,_ => none
noncomputable def litV (sz d : Nat) (z : List AV) (ps : List (Nat × AV)) (H : Hp) : Option (AV × Hp) :=
 (fillA z (ps.map fun p => (p.1 * sz,sz,p.2))).bind fun cs => open Classical in if H (.loc d) = .unused ∧ cs.length = sz ∧ 0 < sz then some (.sl (.loc d) sz 0 1,upd H (.loc d) (.live ⟨sz,[cs]⟩)) else none
section
variable {K : Kx} {β : Lb → Option Nat} {env : Env} {H : Hp} {a : Act} {w : World}
theorem slP_rv {x : AV} {l : Lb} {sz i n : Nat} (h : slP x = some (l,sz,i,n)) {v : Value} (hv : RV w β H (Im K β H) x v) :
   l ∈ x.lbs ∧ ∃ ad c,v = .slice ad n c ∧ n ≤ c ∧ c ≤ maxLen ∧ (live H l → SlAt w β l sz i c ad) := by
 cases x <;> simp [slP] at h
 case sl =>
   obtain ⟨rfl,rfl,rfl,rfl⟩ := h
   simp only [RV] at hv
   obtain ⟨ad,c,h1,h2,h3,_,h5⟩ := hv
   exact ⟨by simp [AV.lbs],ad,c,h1,h2,h3,h5⟩
 case slk =>
   obtain ⟨rfl,rfl,rfl,rfl⟩ := h
   simp only [RV] at hv
   obtain ⟨ad,h1,h2,h3,_,h5⟩ := hv
   exact ⟨by simp [AV.lbs],ad,_,h1,h2,h3,h5⟩
theorem write_sl (hr : RelB K β env H a w) {l : Lb} {r : Row} (hl : H l = .live r) {sz i n c : Nat} {ad : Option Addr} (hsz : r.sz = sz) (hc : n ≤ c) (hat : SlAt w β l sz i c ad) {news : List (List AV)} {vals : List Value}
   (hn : news.length ≤ n) (hin : i + news.length ≤ r.els.length)
   (hNs : ∀ cs ∈ news,cs.length = r.sz) (hNm : ∀ cs ∈ news,∀ q ∈ lbss cs,H q ≠ .unused) (hv : vals.length = news.length * r.sz)
   (h2 : ∀ i j cs x,news[i]? = some cs → cs[j]? = some x → ∃ v,vals[i * r.sz + j]? = some v ∧ RV w β H (Im K β H) x v) (hone : ∀ v ∈ vals,v.oneCell' = true) :
   ∃ w',(match ad with | some q => storeCells q vals | none => pure ()).run K.P w = .ok () w' ∧
     RelB K β env (upd H l (.live ⟨sz,r.els.take i ++ news ++ r.els.drop (i + news.length)⟩)) a w' := by
 subst hsz
 rcases hat with rfl | ⟨g,S,g1,rfl,g3,g4⟩
 · have hne : news = [] := List.eq_nil_of_length_eq_zero (by omega)
   subst hne
   have hve : vals = [] := List.eq_nil_of_length_eq_zero (by simpa using hv)
   subst hve
   have hH : upd H l (.live ⟨r.sz,r.els.take i ++ [] ++ r.els.drop (i + ([] : List (List AV)).length)⟩) = H := by
     funext q
     by_cases e : q = l
     · subst e; simp [hl]
     · rw [upd_ne _ _ e]
   rw [hH]
   refine ⟨w,?_,hr⟩
   cases ad <;> simp [storeCells]
 · obtain ⟨cur',w1,w2,_⟩ := write_row hr hl g1 (i := i) (news := news) (vals := vals) hin hNs hNm hv h2 hone
   exact ⟨_,w1,w2⟩
theorem news_oneK {sz : Nat} {xv : Value} {news : List (List AV)} {vals : List Value} (h0 : 0 < sz) (S : Src K β H w sz xv news vals) (k : Nat) (hone : ∀ cs ∈ news.take k,AV.one1 cs) : ∀ v ∈ vals.take (k * sz),v.oneCell' = true := by
 intro v hv
 obtain ⟨q,hq⟩ := List.getElem?_of_mem hv
 rw [List.getElem?_take] at hq
 split at hq
 case isFalse => simp at hq
 rename_i hqk
 have hql : q < news.length * sz := by rw [← S.len]; exact (List.getElem?_eq_some_iff.1 hq).1
 have hqi : q / sz < news.length := Nat.div_lt_of_lt_mul (by rw [Nat.mul_comm]; exact hql)
 have hqk2 : q / sz < k := Nat.div_lt_of_lt_mul (by rw [Nat.mul_comm]; exact hqk)
 have hqj : q % sz < sz := Nat.mod_lt _ h0
 have hc0 : news[q / sz]? = some news[q / sz] := List.getElem?_eq_getElem hqi
 have hcl := S.sz' _ (List.getElem_mem hqi)
 have hx0 : (news[q / sz])[q % sz]? = some ((news[q / sz])[q % sz]'(by omega)) := List.getElem?_eq_getElem (by omega)
 obtain ⟨v',e1,e2⟩ := S.rv _ _ _ _ hc0 hx0
 have : q / sz * sz + q % sz = q := by rw [Nat.mul_comm]; exact Nat.div_add_mod q sz
 rw [this,hq] at e1
 cases e1
 refine RV.oneCell e2 (hone _ ?_ _ (List.getElem_mem _))
 refine List.mem_of_getElem? (i := q / sz) ?_
 rw [List.getElem?_take,if_pos hqk2]; exact hc0
theorem r_cpy (hr : RelB K β env H a w) {o : Oper} {c : Call} {d x : Operand} {d' x' : O} {dt xt e : TypeId} {sz : Nat} {dd : Option Nat} (hd : ∀ n,dd = some n → n < K.N) (ho : o.op = .call c) (hc : c.callee = .builtin .copy)
   (ha : c.args.toList = [d,x]) (hat : c.argTypes.toList = [dt,xt]) (hdt : K.P.underlying dt = some (.slice e)) (hs : tsz K.P e = some sz) (h0 : sz ≠ 0) (hdx : co K.G d = some d') (hx : co K.G x = some x') {y : AV} {H' : Hp}
   (hy : cpyV sz (ev env d') (ev env x') H = some (y,H')) : StepR K env a w o dd y H' := by
 have ha' : c.args = #[d,x] := by cases hh : c.args; simp_all
 have hat' : c.argTypes = #[dt,xt] := by cases hh : c.argTypes; simp_all
 have hexec : (execOp a.eval o).run K.P w = ((Builtin.copy_ #[dt,xt] o.type #[a.eval d,a.eval x]).run K.P w).andThen fun v w' => .ok (.value v) w' := by
   simp [execOp,ho,resolve,hc,ha',hat',invoke,builtin]
 unfold cpyV at hy
 obtain ⟨news,hn,hy⟩ := Option.bind_eq_some_iff.1 hy
 obtain ⟨vals,S⟩ := src_run hr hx (by omega) hn
 have hdv := hr.ev hdx
 obtain ⟨⟨l,s0,i,n⟩,hp,hy⟩ := Option.bind_eq_some_iff.1 hy
 simp only at hy
 split at hy
 · simp at hy
 · rename_i hone
   have hone : ∀ cs ∈ news.take (Nat.min news.length n),AV.one1 cs := Classical.byContradiction hone
   have hvone := news_oneK (by omega) S (Nat.min news.length n) hone
   obtain ⟨hll,ad,c0,h1,h2,h3,h5⟩ := slP_rv hp hdv
   split at hy
   · rename_i r hl
     split at hy
     · rename_i hcond
       obtain ⟨rfl,hrs,hin⟩ := hcond
       simp only [Option.some.injEq,Prod.mk.injEq] at hy
       obtain ⟨rfl,rfl⟩ := hy
       have hk : Nat.min news.length n ≤ news.length := Nat.min_le_left _ _
       have hkn : Nat.min news.length n ≤ n := Nat.min_le_right _ _
       have htl : (news.take (Nat.min news.length n)).length = Nat.min news.length n := by rw [List.length_take]; omega
       obtain ⟨w',q1,q2⟩ := write_sl hr hl (sz := s0) (i := i) (n := n) (news := news.take (Nat.min news.length n)) (vals := vals.take (Nat.min news.length n * s0)) hrs h2 (h5 ⟨r,hl⟩) (by omega) (by omega)
         (fun cs hcs => by rw [hrs]; exact S.sz' cs (List.mem_of_mem_take hcs)) (fun cs hcs => S.ment cs (List.mem_of_mem_take hcs))
         (by rw [List.length_take,S.len,htl,hrs,Nat.min_eq_left (Nat.mul_le_mul_right _ hk)])
         (fun i' j cs x0 hi' hj' => by
           rw [List.getElem?_take] at hi'
           split at hi'
           · rename_i hlt
             obtain ⟨v,e1,e2⟩ := S.rv i' j cs x0 hi' hj'
             refine ⟨v,?_,e2⟩
             rw [hrs,List.getElem?_take,if_pos]
             · exact e1
             · have hjs : j < s0 := by
                 have := S.sz' cs (List.mem_of_getElem? hi')
                 have := (List.getElem?_eq_some_iff.1 hj').1
                 omega
               have := Nat.mul_le_mul_right s0 (show i' + 1 ≤ Nat.min news.length n by omega)
               rw [Nat.add_mul] at this
               omega
           · simp at hi')
         (fun v hv => hvone v hv)
       have h4 := q2.step (Below.refl _ _) (d := dd) (x := .int .i64 ((Nat.min news.length n : Nat) : Int)) (v := .int .i64 ((Nat.min news.length n : Nat) : Int)) hd (fun _ => by simp [RV]) (fun _ => by simp [AV.lbs])
       refine ⟨_,_,_,_,?_,.inl rfl,h4⟩
       rw [hexec,h1]
       have hcells := S.cellsK _ hk w (.inl rfl)
       have hgo : (Builtin.copy_ #[dt,xt] o.type #[.slice ad n c0,a.eval x]).run K.P w = .ok (.int .i64 ((Nat.min news.length n : Nat) : Int)) w' := by
         cases ad with
         | none =>
           simp only [Sem.run_pure,Result.ok.injEq,true_and] at q1
           subst q1
           simp [Builtin.copy_,run_underlying hdt,S.lenOf,run_sizeOf' hs,hcells,goInt]
         | some q =>
           simp only at q1
           simp [Builtin.copy_,run_underlying hdt,S.lenOf,run_sizeOf' hs,hcells,goInt,q1]
       rw [hgo]; rfl
     · simp at hy
   · simp at hy
theorem zeros_get (z : Array Value) (zs : List AV) (n : Nat) (h : RVs w β H (Im K β H) zs z.toList) (hz : 0 < z.size) : ∀ i j cs x,(List.replicate n zs)[i]? = some cs → cs[j]? = some x →
   ∃ v,(Builtin.zeroCells z n).toList[i * z.size + j]? = some v ∧ RV w β H (Im K β H) x v := by
 intro i j cs x hi hj
 rw [List.getElem?_replicate] at hi
 split at hi
 · rename_i hlt
   simp only [Option.some.injEq] at hi; subst hi
   obtain ⟨v,e1,e2⟩ := RVs.get _ _ j x h hj
   refine ⟨v,?_,e2⟩
   have hjl : j < z.size := by
     have := (List.getElem?_eq_some_iff.1 e1).1
     simpa using this
   have hb : i * z.size + j < n * z.size := by
     have := Nat.mul_le_mul_right z.size (show i + 1 ≤ n by omega)
     rw [Nat.add_mul] at this; omega
   have hm : (i * z.size + j) % z.size = j := by rw [Nat.add_comm,Nat.add_mul_mod_self_right,Nat.mod_eq_of_lt hjl]
   have hzj : z[j]? = some v := by simpa using e1
   have hg := Array.getElem?_eq_some_iff.1 hzj
   simp [Builtin.zeroCells,hb,hm,getElem!_def,hzj]
 · simp at hi
theorem one_zeros (z : Array Value) (n : Nat) (hz : 0 < z.size) (h : ∀ v ∈ z.toList,v.oneCell' = true) : ∀ v ∈ (Builtin.zeroCells z n).toList,v.oneCell' = true := by
 intro v hv
 simp only [Builtin.zeroCells,Array.toList_map,Array.toList_range,List.mem_map,List.mem_range] at hv
 obtain ⟨i,hi,rfl⟩ := hv
 have hlt : i % z.size < z.size := Nat.mod_lt _ hz
 refine h _ ?_
 rw [show z[i % z.size]! = z[i % z.size] by simp [hlt]]
 simp
theorem RVs_one : ∀ (zs : List AV) (vs : List Value),AV.one1 zs → RVs w β H (Im K β H) zs vs → ∀ v ∈ vs,v.oneCell' = true
 | [],vs,_,h,v,hv => by simp [RVs] at h; subst h; simp at hv
 | x :: r,vs,h1,h,v,hv => by
   simp only [RVs] at h
   obtain ⟨u,us,rfl,h2,h3⟩ := h
   rcases List.mem_cons.1 hv with rfl | hv
   · exact RV.oneCell h2 (h1 x (by simp))
   · exact RVs_one r us (fun y hy => h1 y (by simp [hy])) h3 v hv
theorem r_clr (hr : RelB K β env H a w) {o : Oper} {c : Call} {x : Operand} {x' : O} {e : TypeId} {i : TypeInfo} {z : Value} {zs : List AV} {dd : Option Nat} (hd : ∀ n,dd = some n → n < K.N) (ho : o.op = .call c) (hc : c.callee = .builtin .clear)
   (ha : c.args.toList = [x]) (ht : c.argTypes[0]?.bind K.P.underlying = some (.slice e)) (hi : K.P.info? e = some i) (hz : i.zero = some z) (hzs : z.cells.size = i.size) (h0 : 0 < i.size)
   (hcv : cvs z.cells.toList = some zs) (hx : co K.G x = some x') {H' : Hp} (hy : clrV i.size zs (ev env x') H = some H') : StepR K env a w o dd (.tup []) H' := by
 have ha' : c.args = #[x] := by cases hh : c.args; simp_all
 obtain ⟨t,ht0,ht1⟩ := Option.bind_eq_some_iff.1 ht
 have hexec : (execOp a.eval o).run K.P w = ((Builtin.clear_ c.argTypes o.type #[a.eval x]).run K.P w).andThen fun v w' => .ok (.value v) w' := by
   simp [execOp,ho,resolve,hc,ha',invoke,builtin]
 have hxv := hr.ev hx
 unfold clrV at hy
 split at hy
 · simp at hy
 · rename_i hone
   have hone : AV.one1 zs := Classical.byContradiction hone
   obtain ⟨⟨l,s0,j,n⟩,hp,hy⟩ := Option.bind_eq_some_iff.1 hy
   obtain ⟨hll,ad,c0,h1,h2,h3,h5⟩ := slP_rv hp hxv
   simp only at hy
   split at hy
   · rename_i r hl
     split at hy
     · rename_i hcond
       obtain ⟨rfl,hrs,hin⟩ := hcond
       simp only [Option.some.injEq] at hy
       subst hy
       have hzl : zs.length = i.size := by have := RVs.len _ _ (cvs_rv _ _ hcv w β H (Im K β H)); simp at this; omega
       have hrv := cvs_rv _ _ hcv w β H (Im K β H)
       obtain ⟨w',q1,q2⟩ := write_sl hr hl (sz := i.size) (i := j) (n := n) (news := List.replicate n zs) (vals := (Builtin.zeroCells z.cells n).toList) hrs h2 (h5 ⟨r,hl⟩) (by simp) (by simpa using hin)
         (fun cs hcs => by rw [List.eq_of_mem_replicate hcs,hrs,hzl]) (fun cs hcs q hq => by rw [List.eq_of_mem_replicate hcs,lbss_cvs _ _ hcv] at hq; simp at hq)
         (by rw [zeroCells_len,hzs,hrs]; simp) (by rw [hrs,← hzs]; exact zeros_get z.cells zs n hrv (by omega))
         (one_zeros z.cells n (by omega) (RVs_one _ _ hone hrv))
       have h4 := q2.step (Below.refl _ _) (d := dd) (x := .tup []) (v := .tuple #[]) hd (fun _ => by simp [RV,RVs]) (fun _ => by simp [AV.lbs,lbss])
       refine ⟨_,_,_,_,?_,.inl rfl,h4⟩
       rw [hexec,h1]
       have hgo : (Builtin.clear_ c.argTypes o.type #[.slice ad n c0]).run K.P w = .ok (.tuple #[]) w' := by
         cases ad with
         | none =>
           simp only [Sem.run_pure,Result.ok.injEq,true_and] at q1
           subst q1
           simp [Builtin.clear_,ht0,run_underlying ht1]
         | some q =>
           simp only at q1
           cases n with
           | zero =>
             have hw : w' = w := by
               have hz0 : (Builtin.zeroCells z.cells 0).toList = [] := by simp [Builtin.zeroCells]
               rw [hz0] at q1
               simp [storeCells] at q1
               exact q1.symm
             rw [hw]
             simp [Builtin.clear_,ht0,run_underlying ht1]
           | succ n =>
             simp [Builtin.clear_,ht0,run_underlying ht1,zeroValue,typeInfo,hi,hz,q1]
       rw [hgo]; rfl
     · simp at hy
   · simp at hy
theorem r_mks (hr : RelB K β env H a w) {o : Oper} {t e : TypeId} {n c : Operand} {n' c' : O} {i : TypeInfo} {z : Value} {zs : List AV} {d : Nat} (hd : d < K.N) (ho : o.op = .makeSlice t n c) (ht : K.P.underlying t = some (.slice e))
   (hi : K.P.info? e = some i) (hz : i.zero = some z) (hzs : z.cells.size = i.size) (h0 : 0 < i.size) (hb : 0 < i.bytes) (hcv : cvs z.cells.toList = some zs) (hn : co K.G n = some n') (hc : co K.G c = some c') {y : AV} {H' : Hp}
   (hy : mksV i.size i.bytes d zs (ev env n') (ev env c') H = some (y,H')) : StepR K env a w o (some d) y H' := by
 have hnv := hr.ev hn
 have hcv' := hr.ev hc
 unfold mksV at hy
 split at hy
 · rename_i k m k' m' e1 e2
   rw [e1] at hnv; rw [e2] at hcv'
   simp only [RV] at hnv hcv'
   split at hy
   · rename_i hcond
     obtain ⟨rfl,hm0,hmb,hu⟩ := hcond
     simp only [Option.some.injEq,Prod.mk.injEq] at hy
     obtain ⟨rfl,rfl⟩ := hy
     obtain ⟨q,rfl⟩ := Int.eq_ofNat_of_zero_le hm0
     simp only [Int.toNat_natCast] at hmb ⊢
     have hqb : q ≤ q * i.bytes := Nat.le_mul_of_pos_right _ hb
     have hrun := run_make (P := K.P) w t e i z ht hi hz k k' (q : Int) (q : Int) hm0 (Int.le_refl _) (by
       have : ((q * i.bytes : Nat) : Int) ≤ 140737488355328 := by omega
       rw [Int.natCast_mul,Int.mul_comm] at this; omega) (by omega)
     simp only [Int.toNat_natCast] at hrun
     have hzl : zs.length = i.size := by have := RVs.len _ _ (cvs_rv _ _ hcv w β H (Im K β H)); simp at this; omega
     have hzc : madeCells z.cells (q * i.size) = Builtin.zeroCells z.cells q := by rw [← hzs]; rfl
     have hex : (execOp a.eval o).run K.P w = .ok (.value (.slice (some ⟨w.heap.size,0,none⟩) q q)) (w.alloc (.cells (Builtin.zeroCells z.cells q) e)) := by
       rw [← hzc]
       simp [execOp,ho,hnv,hcv',hrun,Result.andThen]
     have gw := grew_alloc w (.cells (Builtin.zeroCells z.cells q) e)
     have keep := keepNew hr (H' := upd H (.loc d) (.live ⟨i.size,List.replicate q zs⟩)) (lb := .loc d) (b := some w.heap.size) gw hu (by simp) (fun p hp ⟨r,h⟩ => by rw [upd_ne _ _ hp] at h; exact ⟨r,h⟩)
     have hrow : RowR (w.alloc (.cells (Builtin.zeroCells z.cells q) e)) (upd β (.loc d) (some w.heap.size)) (upd H (.loc d) (.live ⟨i.size,List.replicate q zs⟩))
         (Im K (upd β (.loc d) (some w.heap.size)) (upd H (.loc d) (.live ⟨i.size,List.replicate q zs⟩))) (.loc d) ⟨i.size,List.replicate q zs⟩ := by
       refine ⟨h0,fun cs hcs => by rw [List.eq_of_mem_replicate hcs,hzl],?_⟩
       simp only [upd_same]
       refine ⟨Builtin.zeroCells z.cells q,e,q,heap_alloc_new w _,by rw [size_zeroCells,hzs],by simp only [maxLen]; omega,by simp,fun i' j cs x hi' hj' => ?_⟩
       obtain ⟨v,q1,q2⟩ := zeros_get (H := H) z.cells zs q (cvs_rv _ _ hcv w β H (Im K β H)) (by omega) i' j cs x hi' hj'
       rw [hzs] at q1
       refine ⟨v,by simpa using q1,RV.mono _ _ (keep _ (fun p hp => ?_)) q2⟩
       rw [List.getElem?_replicate] at hi'
       split at hi'
       · simp only [Option.some.injEq] at hi'; subst hi'
         have := lbss_get _ _ _ hj' p hp
         rw [lbss_cvs _ _ hcv] at this; simp at this
       · simp at hi'
     have h3 := hr.addRow (.loc d) hu gw (some w.heap.size) (by simp) (fun cs hcs p hp => by rw [List.eq_of_mem_replicate hcs,lbss_cvs _ _ hcv] at hp; simp at hp) hrow
     have h4 := h3.step (Below.refl _ _) (d := some d) (x := .sl (.loc d) i.size 0 q) (v := .slice (some ⟨w.heap.size,0,none⟩) q q) (by simpa using hd)
       (fun _ => by
         simp only [RV]
         refine ⟨_,_,rfl,Nat.le_refl _,by simp only [maxLen]; omega,by simp,fun _ => .inr ⟨w.heap.size,q * i.size,by simp,by simp,?_,by simp⟩⟩
         have hh : (w.alloc (.cells (Builtin.zeroCells z.cells q) e)).heap[w.heap.size]? = some (.cells (Builtin.zeroCells z.cells q) e) := heap_alloc_new w _
         unfold bsz
         rw [hh]
         simp only [size_zeroCells,hzs]) (by simp [AV.lbs])
     exact ⟨_,_,_,_,hex,.inl rfl,h4⟩
   · simp at hy
 · simp at hy
theorem s_cap (hr : RelB K β env H a w) {o : Oper} {c : Call} {x : Operand} {x' : O} {e : TypeId} (ho : o.op = .call c) (hc : c.callee = .builtin .cap) (ha : c.args.toList = [x])
   (ht : c.argTypes[0]?.bind K.P.underlying = some (.slice e)) (hx : co K.G x = some x') {R : Nat → Prop} (hy : capR (ev env x') = some R) : ∃ m,R m ∧ m ≤ maxLen ∧ StepV K β H a w o (.int .i64 (m : Int)) := by
 have h := hr.ev hx
 obtain ⟨t,ht0,ht1⟩ := Option.bind_eq_some_iff.1 ht
 have ha' : c.args = #[x] := by cases hh : c.args; simp_all
 have sl : ∀ (ad : Option Addr) (n c' : Nat),a.eval x = .slice ad n c' → (execOp a.eval o).run K.P w = .ok (.value (.int .i64 c')) w := by
   intro ad n c' hv
   simp [execOp,ho,resolve,hc,ha',hv,invoke,builtin,Builtin.cap_,ht0,run_underlying ht1,goInt]
 have fin : ∀ (ad : Option Addr) (n c' : Nat),a.eval x = .slice ad n c' → StepV K β H a w o (.int .i64 (c' : Int)) := fun ad n c' hv => StepV.same (sl ad n c' hv) (by simp [RV]) (by simp [AV.lbs])
 unfold capR at hy
 split at hy <;> simp only [Option.some.injEq,reduceCtorEq] at hy
 · rename_i l sz i n m hs
   rw [hs] at h
   simp only [RV] at h
   obtain ⟨ad,h1,h2,h3,_⟩ := h
   subst hy
   exact ⟨m,rfl,h3,fin _ _ _ h1⟩
 · rename_i l sz i n hs
   rw [hs] at h
   simp only [RV] at h
   obtain ⟨ad,m,h1,h2,h3,_⟩ := h
   subst hy
   exact ⟨m,h2,h3,fin _ _ _ h1⟩
 · rename_i xs hs
   rw [hs] at h
   simp only [RV,IVR] at h
   obtain ⟨ad,m,h1,h2,h3,_⟩ := h
   subst hy
   exact ⟨m,h2,h3,fin _ _ _ h1⟩
 · rename_i hs
   rw [hs] at h
   simp only [RV] at h
   obtain ⟨ad,h1⟩ := h
   subst hy
   exact ⟨0,rfl,by simp [maxLen],fin _ _ _ h1⟩
theorem s_slca (hr : RelB K β env H a w) {o : Oper} {t e : TypeId} {x : Operand} {n s : Nat} {x' : O} (ho : o.op = .slice t x none none none) (ht : K.P.underlying t = some (.array n e))
   (hs : tsz K.P e = some s) (hs0 : s ≠ 0) (hx : co K.G x = some x') {y : AV} (hy : stillV (.slca x' n s) env = some y) : StepV K β H a w o y := by
 have h := hr.ev hx
 simp only [stillV] at hy
 split at hy
 · rename_i cs e1
   rw [e1] at h
   split at hy
   · rename_i hcond
     obtain ⟨hl,hmx,hone⟩ := hcond
     simp only [Option.some.injEq] at hy; subst hy
     simp only [RV] at h
     obtain ⟨b,o',h1,h2,h3,h4⟩ := h
     have hce := chunks_elems (sz := s) (by omega) n cs b o' hl hone h4
     refine StepV.same (v := .slice (some ⟨b,o',none⟩) n n) ?_ ?_ (by simp [AV.lbs])
     · simp [execOp,ho,h1,Instr.sliceAt,run_underlying ht,Instr.sliceBounds,Instr.sureAddr,run_sizeOf' hs,Result.andThen,addr_add]
     · simp only [RV,IVR]
       refine ⟨some ⟨b,o',none⟩,n,by rw [hce.2],by rw [hce.2]; exact Nat.le_refl _,hmx,.inr ⟨b,o',s,rfl,h2,h3,by omega,hce.1⟩⟩
   · simp at hy
 · simp at hy
theorem RV_av1 {w : World} {β : Lb → Option Nat} {H : Hp} {I I' : Nat → Prop} (hk : Keeps w w I I') : ∀ {y : IV} {v : Value},(∀ cs,y ≠ .agg cs) → RV w β H I y.av1 v → IVR w I' y v := by
 intro y v hy h
 cases y with
 | agg cs => exact absurd rfl (hy cs)
 | list xs => simp only [IV.av1,RV] at h; exact IVR.mono hk _ _ h
 | bool b => simpa [IV.av1,RV,IVR] using h
 | int k n => simpa [IV.av1,RV,IVR] using h
 | str s => simpa [IV.av1,RV,IVR] using h
theorem CellsR_of {w : World} {I : Nat → Prop} : ∀ (cs : List IV) (b o : Nat),(∀ j z,cs[j]? = some z → ∃ v,w.cell? ⟨b,o + j,none⟩ = some v ∧ IVR w I z v) → CellsR w I cs b o
 | [],b,o,_ => by simp [CellsR]
 | z :: r,b,o,h => by
   simp only [CellsR]
   refine ⟨by simpa using h 0 z (by simp),CellsR_of r b (o + 1) (fun j y hj => ?_)⟩
   have := h (j + 1) y (by simpa using hj)
   rwa [show o + (j + 1) = o + 1 + j by omega] at this
theorem ElemsR_of {w : World} {I : Nat → Prop} {sz : Nat} : ∀ (xs : List IV) (b o : Nat),(∀ k y,xs[k]? = some y → ElemR w I y b (o + k * sz) sz) → ElemsR w I xs b o sz
 | [],b,o,_ => by simp [ElemsR]
 | y :: r,b,o,h => by
   simp only [ElemsR]
   refine ⟨by simpa using h 0 y (by simp),ElemsR_of r b (o + sz) (fun k z hk => ?_)⟩
   have := h (k + 1) z (by simpa using hk)
   rwa [Nat.add_mul,Nat.one_mul,show o + (k * sz + sz) = o + sz + k * sz by omega] at this
theorem s_appi (hr : RelB K β env H a w) {o : Oper} {c : Call} {s x : Operand} {s' x' : O} {st xt e : TypeId} {i : TypeInfo} {z : Value} {dx : TypeDesc} (ho : o.op = .call c) (hc : c.callee = .builtin .append)
   (ha : c.args.toList = [s,x]) (hat : c.argTypes.toList = [st,xt]) (hst : K.P.underlying st = some (.slice e)) (hi : K.P.info? e = some i) (hz : i.zero = some z) (hzs : z.cells.size = i.size) (h0 : 0 < i.size)
   (hxt : K.P.underlying xt = some dx) (hdx : dx = .string ∨ ∃ e2,dx = .slice e2) (hs : co K.G s = some s') (hx : co K.G x = some x') {y : AV}
   (hy : stillV (.appi s' x' i.size i.bytes) env = some y) : StepV K β H a w o y := by
 have ha' : c.args = #[s,x] := by cases hh : c.args; simp_all
 have hat' : c.argTypes = #[st,xt] := by cases hh : c.argTypes; simp_all
 have hexec : (execOp a.eval o).run K.P w = ((Builtin.append_ #[st,xt] o.type #[a.eval s,a.eval x]).run K.P w).andThen fun v w' => .ok (.value v) w' := by
   simp [execOp,ho,resolve,hc,ha',hat',invoke,builtin]
 have hsv := hr.ev hs
 have none0 : ∀ (news : List (List AV)) (vals : List Value),news.length = 0 → Src K β H w i.size (a.eval x) news vals → ev env s' = .nil0 → StepV K β H a w o (.list []) := by
   intro news vals hm0 S e1
   rw [e1] at hsv
   simp only [RV] at hsv
   obtain ⟨ad,hsv⟩ := hsv
   have hne : news = [] := List.eq_nil_of_length_eq_zero hm0
   subst hne
   have hve : vals = [] := List.eq_nil_of_length_eq_zero (by simpa using S.len)
   subst hve
   have hr1 := run_append_in (ty := o.type) hst hi hxt hdx ad 0 0 0 (a.eval x) #[] S.lenOf (S.cells w (.inl rfl)) (by omega)
   refine StepV.same (v := .slice ad 0 0) ?_ ?_ (by simp [AV.lbs])
   · rw [hexec,hsv,hr1]
     cases ad <;> simp [storeCells]
   · simp only [RV,IVR]
     exact ⟨ad,0,rfl,Nat.le_refl _,by simp [maxLen],.inl rfl⟩
 simp only [stillV] at hy
 split at hy
 · rename_i xs e1 e2
   split at hy
   · rename_i hcond
     obtain ⟨hel,hfl,hb,hb0,_⟩ := hcond
     simp only [Option.some.injEq] at hy; subst hy
     have hn : srcE i.size (ev env x') H = some (xs.map fun y => y.cells.map IV.av1) := by rw [e2]; simp [srcE,hel]
     obtain ⟨vals,S⟩ := src_run hr hx h0 hn
     by_cases hm0 : xs.length = 0
     · have : xs = [] := List.eq_nil_of_length_eq_zero hm0
       subst this
       exact none0 _ _ (by simp) S e1
     · rw [e1] at hsv
       simp only [RV] at hsv
       obtain ⟨ad,hsv⟩ := hsv
       have hnl : (xs.map fun y => y.cells.map IV.av1).length = xs.length := List.length_map _
       have hold0 : (Builtin.firstCells i.size 0 (.slice ad 0 0)).run K.P w.drew = .ok #[] w.drew := by
         cases ad with
         | none => simp [Builtin.firstCells]
         | some q => simp [Builtin.firstCells,loadCells,loadCellsFrom]
       have hlen := S.lenOf
       have hcells := S.cells w.drew (.inr rfl)
       rw [hnl] at hlen hcells
       have hr1 := run_append_out (ty := o.type) hst hi hz hxt hdx ad 0 0 xs.length (a.eval x) vals.toArray #[] hlen hcells hold0 (by omega) (by simpa using hb) hb0
       have hge := grownCap_ge w (0 + xs.length) 0 e
       have hcm := grownCap_le_maxLen w (0 + xs.length) 0 e (by
         have := Nat.le_mul_of_pos_right xs.length hb0
         simp only [maxLen]; omega)
       have gw := (grew_drew w).trans (grew_alloc w.drew (.cells (#[] ++ vals.toArray ++ Builtin.zeroCells z.cells (grownCap w (0 + xs.length) 0 e - (0 + xs.length))) e))
       refine ⟨.slice (some ⟨w.heap.size,0,none⟩) (0 + xs.length) (grownCap w (0 + xs.length) 0 e),_,by rw [hexec,hsv,hr1]; rfl,gw,?_,by simp [AV.lbs]⟩
       simp only [RV,IVR]
       refine ⟨_,_,by rw [Nat.zero_add],by omega,hcm,.inr ⟨w.heap.size,0,i.size,rfl,hr.fresh,?_,h0,?_⟩⟩
       · have hh := heap_alloc_new w.drew (.cells (#[] ++ vals.toArray ++ Builtin.zeroCells z.cells (grownCap w (0 + xs.length) 0 e - (0 + xs.length))) e)
         exact (Array.getElem?_eq_some_iff.1 hh).1
       · refine ElemsR_of _ _ _ (fun k y hyk => ?_)
         rw [ElemR_iff]
         have hcl : y.cells.length = i.size := hel y (List.mem_of_getElem? hyk)
         refine ⟨hcl.symm,CellsR_of _ _ _ (fun j q hq => ?_)⟩
         obtain ⟨v,q1,q2⟩ := S.rv k j (y.cells.map IV.av1) q.av1 (by simp [hyk]) (by simp [hq])
         refine ⟨v,?_,IVR.mono (Grew.keep2 gw β H (Im K β H) []).toKeeps _ _ (RV_av1 (I := Im K β H) (w := w) ⟨fun k hk hs => ⟨hk,hs,rfl⟩⟩ (hfl y (List.mem_of_getElem? hyk) q (List.mem_of_getElem? hq)) q2)⟩
         have hh : (w.drew.alloc (.cells (#[] ++ vals.toArray ++ Builtin.zeroCells z.cells (grownCap w (0 + xs.length) 0 e - (0 + xs.length))) e)).heap[w.heap.size]? = some (.cells (#[] ++ vals.toArray ++ Builtin.zeroCells z.cells (grownCap w (0 + xs.length) 0 e - (0 + xs.length))) e) := heap_alloc_new w.drew _
         rw [cell_of_row _ _ _ _ _ _ hh]
         have hlt : k * i.size + j < vals.length := (List.getElem?_eq_some_iff.1 q1).1
         simp only [Nat.zero_add]
         rw [Array.getElem?_append_left (by simpa using hlt)]
         simpa using q1
   · simp at hy
 · rename_i e1 e2
   split at hy
   · simp only [Option.some.injEq] at hy; subst hy
     have hn : srcE i.size (ev env x') H = some [] := by rw [e2]; simp [srcE]
     obtain ⟨vals,S⟩ := src_run hr hx h0 hn
     exact none0 _ _ rfl S e1
   · exact absurd h0 ‹_›
 · simp at hy
theorem run_append_zeros {P : Program} {w : World} {st xt ty e : TypeId} {i : TypeInfo} {z : Value} {k0 : IntKind} (hu : P.underlying st = some (.slice e)) (hi : P.info? e = some i) (hz : i.zero = some z) (hx : P.underlying xt = some (.int k0))
   (ad : Option Addr) (n c m : Nat) (k : IntKind) (olds : Array Value) (h0 : 0 < m * i.size)
   (ho : (Builtin.firstCells i.size n (.slice ad n c)).run P w.drew = .ok olds w.drew) (hgt : c < n + m) (hb : (n + m) * i.bytes ≤ 140737488355328) (hb0 : 0 < i.bytes) :
   (Builtin.append_ #[st,xt] ty #[.slice ad n c,.int k (m : Int)]).run P w = .ok (.slice (some ⟨w.heap.size,0,none⟩) (n + m) (grownCap w (n + m) c e))
     (w.drew.alloc (.cells (olds ++ Builtin.zeroCells z.cells m ++ Builtin.zeroCells z.cells (grownCap w (n + m) c e - (n + m))) e)) := by
 have hn : ¬ (n + m ≤ c) := by omega
 have h63 : n + m ≤ (n + m) * i.bytes := Nat.le_mul_of_pos_right _ hb0
 have h63' : ¬ (9223372036854775807 < ((n : Int) + (m : Int))) := by omega
 have h48' : ¬ (281474976710656 < Builtin.nextslicecap (n + m) c * i.bytes) := by have := growslice_fits hgt hb; omega
 have hw : IntKind.i64.wrap (m : Int) = m := by rw [IntKind.wrap_i64]; omega
 have hneg : ¬ ((m : Int) < 0) := by omega
 have h48i : ¬ (281474976710656 < (m : Int) * (i.bytes : Int)) := by
   rw [← Int.natCast_mul]
   have : m * i.bytes ≤ (n + m) * i.bytes := Nat.mul_le_mul_right _ (by omega)
   omega
 have hns : ¬ (m * i.size = 0) := by omega
 have hns1 : m ≠ 0 := fun h => hns (by simp [h])
 have hns2 : i.size ≠ 0 := fun h => hns (by simp [h])
 simp [Builtin.append_,run_underlying hu,run_underlying hx,sizeOf,typeInfo,zeroValue,hi,hz,asInt,asIntOf,hw,hn,hneg,hns1,hns2,h63',h48',h48i,Question.forced,ho,newRow,grownCap]
 intro h; exact absurd h hns
theorem r_appz (hr : RelB K β env H a w) {o : Oper} {c : Call} {s x : Operand} {s' x' : O} {st xt e : TypeId} {i : TypeInfo} {z : Value} {zs : List AV} {k0 : IntKind} {d : Nat} (hd : d < K.N) (ho : o.op = .call c) (hc : c.callee = .builtin .append)
   (ha : c.args.toList = [s,x]) (hat : c.argTypes.toList = [st,xt]) (hst : K.P.underlying st = some (.slice e)) (hi : K.P.info? e = some i) (hz : i.zero = some z) (hzs : z.cells.size = i.size) (h0 : 0 < i.size) (hb0 : 0 < i.bytes)
   (hxt : K.P.underlying xt = some (.int k0)) (hcv : cvs z.cells.toList = some zs) (hs : co K.G s = some s') (hx : co K.G x = some x') {y : AV} {H' : Hp}
   (hy : appzV i.size i.bytes d zs (ev env s') (ev env x') H = some (y,H')) : StepR K env a w o (some d) y H' := by
 have ha' : c.args = #[s,x] := by cases hh : c.args; simp_all
 have hat' : c.argTypes = #[st,xt] := by cases hh : c.argTypes; simp_all
 have hexec : (execOp a.eval o).run K.P w = ((Builtin.append_ #[st,xt] o.type #[a.eval s,a.eval x]).run K.P w).andThen fun v w' => .ok (.value v) w' := by
   simp [execOp,ho,resolve,hc,ha',hat',invoke,builtin]
 have hsv := hr.ev hs
 have hxv := hr.ev hx
 unfold appzV at hy
 split at hy
 · rename_i l s0 i0 n c0 k m e1 e2
   rw [e1] at hsv; rw [e2] at hxv
   simp only [RV] at hsv hxv
   obtain ⟨ad,h1,h2,h3,h4,h5⟩ := hsv
   split at hy
   · rename_i r hl
     split at hy
     · rename_i hcond
       obtain ⟨rfl,hrs,rfl,hnl,hm0,hgt,hb,hu⟩ := hcond
       obtain ⟨q,rfl⟩ := Int.eq_ofNat_of_zero_le hm0
       simp only [Int.toNat_natCast] at hgt hb hy
       simp only [Option.some.injEq,Prod.mk.injEq] at hy
       obtain ⟨rfl,rfl⟩ := hy
       have hAl : (r.els.take n).length = n := by simp; omega
       have hAs : ∀ cs ∈ r.els.take n,cs.length = i.size := fun cs hcs => by rw [← hrs]; exact (hr.rows l r hl).2.1 cs (List.mem_of_mem_take hcs)
       have hAm : ∀ cs ∈ r.els.take n,∀ q ∈ lbss cs,H q ≠ .unused := fun cs hcs => hr.rment l r hl cs (List.mem_of_mem_take hcs)
       have hzl : zs.length = i.size := by have := RVs.len _ _ (cvs_rv _ _ hcv w β H (Im K β H)); simp at this; omega
       have hrv := cvs_rv _ _ hcv w β H (Im K β H)
       have hge := grownCap_ge w (n + q) c0 e
       have hcm := grownCap_le_maxLen w (n + q) c0 e (by
         have := Nat.le_mul_of_pos_right (n + q) hb0
         simp only [maxLen]; omega)
       have olds : ∃ olds : List Value,olds.length = n * i.size ∧ (∀ i' j cs x0,(r.els.take n)[i']? = some cs → cs[j]? = some x0 → ∃ v,olds[i' * i.size + j]? = some v ∧ RV w β H (Im K β H) x0 v) ∧
           (Builtin.firstCells i.size n (.slice ad n c0)).run K.P w.drew = .ok olds.toArray w.drew := by
         by_cases hcz : c0 = 0
         · have hn0 : n = 0 := by omega
           subst hn0
           refine ⟨[],by simp,by simp,?_⟩
           cases ad with
           | none => simp [Builtin.firstCells]
           | some q => simp [Builtin.firstCells,loadCells,loadCellsFrom]
         · rcases h5 ⟨r,hl⟩ with h6 | ⟨g,Sz,g1,rfl,g3,g4⟩
           · exact absurd h6 hcz
           · obtain ⟨cur,e0,cap,k1,k2,k3,k4,k5⟩ := (hr.rows l r hl).block g1
             rw [hrs] at k2
             have hnsz : n * i.size ≤ cur.size := by rw [k2]; exact Nat.mul_le_mul_right _ (by omega)
             have holen : (cur.toList.take (n * i.size)).length = n * i.size := by simp; omega
             refine ⟨cur.toList.take (n * i.size),holen,?_,?_⟩
             · intro i' j cs x0 hi' hj'
               rw [List.getElem?_take] at hi'
               split at hi'
               · rename_i hlt
                 obtain ⟨v,q1,q2⟩ := k5 i' j cs x0 hi' hj'
                 rw [hrs] at q1
                 refine ⟨v,?_,q2⟩
                 have hjs : j < i.size := by
                   have := (hr.rows l r hl).2.1 cs (List.mem_of_getElem? hi')
                   have := (List.getElem?_eq_some_iff.1 hj').1
                   omega
                 have hlt2 : i' * i.size + j < n * i.size := by
                   have := Nat.mul_le_mul_right i.size (show i' + 1 ≤ n by omega)
                   rw [Nat.add_mul] at this; omega
                 rw [List.getElem?_take,if_pos hlt2]
                 simpa using q1
               · simp at hi'
             · exact run_firstCells_some (P := K.P) w.drew i.size n ⟨g,0 * i.size,none⟩ n c0 _ holen (fun j v hj => by
                 rw [addr_add,Nat.zero_mul,Nat.zero_add]
                 have : w.cell? ⟨g,j,none⟩ = some v := by
                   rw [cell_of_row w g _ cur e0 (0,0) k1]
                   rw [List.getElem?_take] at hj
                   split at hj
                   · simpa using hj
                   · simp at hj
                 simpa using this)
       obtain ⟨olds,ho1,ho2,ho3⟩ := olds
       have hmp : 0 < q * i.size := Nat.mul_pos (by omega) h0
       have hr1 := run_append_zeros (ty := o.type) hst hi hz hxt ad n c0 q k olds.toArray hmp ho3 hgt hb hb0
       have hAz : (List.replicate q zs).length = q := List.length_replicate
       have := app_fresh hr hr (fun _ h => h) (fun _ h => h) (o := o) hd (e := e) (n := n) (m := q) (A := r.els.take n) (news := List.replicate q zs) (olds := olds) (vals := (Builtin.zeroCells z.cells q).toList)
         (rest := (Builtin.zeroCells z.cells (grownCap w (n + q) c0 e - (n + q))).toList) h0 hu hu hAl hAz hAs (fun cs hcs => by rw [List.eq_of_mem_replicate hcs,hzl]) hAm
         (fun cs hcs p hp => by rw [List.eq_of_mem_replicate hcs,lbss_cvs _ _ hcv] at hp; simp at hp) ho1 (by rw [zeroCells_len,hzs,hAz]) ho2 (by rw [← hzs]; exact zeros_get z.cells zs q hrv (by omega))
         (cap := grownCap w (n + q) c0 e) (by
           have h9 := len_eq (sz := i.size) hge
           simp only [List.length_append,ho1,zeroCells_len,hzs]
           rw [← Nat.add_mul]
           exact h9) hcm hge (by
           rw [hexec,h1,hxv,hr1]
           exact ok_arr _ _ (by simp))
       exact this
     · simp at hy
   · simp at hy
 · simp at hy
theorem cells_lbs {x : AV} (h : x.stb = true) : ∀ l ∈ lbss x.cells,l ∈ x.lbs := by
 intro l hl
 cases x <;> simp [AV.cells,lbss] at hl <;> simp [AV.lbs] at hl ⊢ <;> exact hl
theorem lbss_append (l m : List AV) : lbss (l ++ m) = lbss l ++ lbss m := by
 induction l with
 | nil => rfl
 | cons x r ih => simp [lbss,ih]
theorem fillA_lbs : ∀ (qs : List (Nat × Nat × AV)) (c c' : List AV),fillA c qs = some c' → ∀ l ∈ lbss c',l ∈ lbss c ∨ ∃ q ∈ qs,l ∈ q.2.2.lbs
 | [],c,c',h,l,hl => by simp [fillA] at h; subst h; exact .inl hl
 | (off,sz,x) :: qs,c,c',h,l,hl => by
   simp only [fillA] at h
   split at h
   · rename_i hc
     rcases fillA_lbs qs _ _ h l hl with h1 | ⟨q,h1,h2⟩
     · rw [lbss_append,lbss_append,List.mem_append,List.mem_append] at h1
       rcases h1 with (h1 | h1) | h1
       · left
         have := lbss_append (c.take off) (c.drop off)
         rw [List.take_append_drop] at this
         rw [this,List.mem_append]; exact .inl h1
       · exact .inr ⟨(off,sz,x),by simp,cells_lbs hc.1 l h1⟩
       · left
         have := lbss_append (c.take (off + sz)) (c.drop (off + sz))
         rw [List.take_append_drop] at this
         rw [this,List.mem_append]; exact .inr h1
     · exact .inr ⟨q,by simp [h1],h2⟩
   · simp at h
theorem r_litso (hr : RelB K β env H a w) {o : Oper} {t e : TypeId} {ps : Array (Nat × Operand)} {i : TypeInfo} {z : Value} {zs : List AV} {xs : List O} {d : Nat} (hd : d < K.N) (ho : o.op = .buildSlice t 1 ps)
   (ht : K.P.underlying t = some (.slice e)) (hi : K.P.info? e = some i) (hz : i.zero = some z) (hzs : z.cells.size = i.size) (h0 : 0 < i.size) (hn : 1 * i.size ≤ 2 ^ 24)
   (hcv : cvs z.cells.toList = some zs) (hxs : cos K.G (ps.toList.map (·.2)) = some xs) {y : AV} {H' : Hp}
   (hy : litV i.size d zs (((ps.toList.map (·.1)).zip xs).map fun p => (p.1,ev env p.2)) H = some (y,H')) : StepR K env a w o (some d) y H' := by
 unfold litV at hy
 obtain ⟨cs,h1,hy⟩ := Option.bind_eq_some_iff.1 hy
 split at hy
 · rename_i hcond
   obtain ⟨hu,hlen,_⟩ := hcond
   simp only [Option.some.injEq,Prod.mk.injEq] at hy
   obtain ⟨rfl,rfl⟩ := hy
   have hz0 := cvs_rv _ _ hcv w β H (Im K β H)
   have hzero := zeros_rv z.cells zs w β H (Im K β H) hz0 (by omega) 1
   have hm : ∀ l ∈ lbss cs,H l ≠ .unused := by
     intro l hl
     rcases fillA_lbs _ _ _ h1 l hl with h2 | ⟨q,h2,h3⟩
     · rw [lbss_cvs _ _ hcv] at h2; simp at h2
     · simp only [List.map_map,List.mem_map,Function.comp] at h2
       obtain ⟨p,hp,rfl⟩ := h2
       simp only at h3
       have hp2 : p.2 ∈ xs := (List.of_mem_zip (a := p.1) (b := p.2) hp).2
       obtain ⟨k,hk⟩ := List.getElem?_of_mem hp2
       exact cos_ment hr _ _ hxs l (lbss_get _ k _ (by rw [List.getElem?_map,hk]; rfl) l h3)
   have hlx : xs.length = ps.toList.length := by
     have := RVs.len _ _ (cos_rv hr _ _ hxs)
     simp at this
     simpa using this.symm
   have hall := parts_all2 hr (fun j => some (j * i.size,i.size)) ps.toList xs (((ps.toList.map (·.1)).zip xs).map fun p => (p.1 * i.size,i.size,p.2)) hxs
     (by simp at hlx; simp [hlx])
     (by
       intro j p x q g1 g2 g3
       simp only [List.getElem?_map,List.getElem?_zip_eq_some,Option.map_eq_some_iff] at g3
       obtain ⟨⟨u,v⟩,⟨⟨p',e1,e2⟩,e3⟩,rfl⟩ := g3
       simp only at e1 e2 e3
       rw [g1] at e1; cases e1
       rw [g2] at e3; cases e3
       exact ⟨rfl,by simp [e2]⟩)
   obtain ⟨cur',f1,f2⟩ := fill_run (fun j => some (j * i.size,i.size)) _ _ _ cs _ hzero (by simpa [List.map_map,Function.comp_def] using h1) hall
   have hfill : Instr.fill (fun j => some (j * i.size,i.size)) ((Array.range (1 * i.size)).map (z.cells[· % z.cells.size]!)) (ps.toList.map fun p => (p.1,a.eval p.2)) = some cur' := by
     rw [← hzs]
     rw [← hzs] at f1
     exact f1
   have hne' : ¬ 1 * i.size = 0 := by omega
   have hso := run_sizeOf' (P := K.P) (t := e) (s := i.size) (by simp [tsz,hi]) w
   have hrun : (execOp a.eval o).run K.P w = .ok (.value (.slice (some ⟨w.heap.size,0,none⟩) 1 1)) (w.alloc (.cells cur' e)) := by
     simp only [execOp,ho,Instr.buildSlice,Sem.run_bind,run_underlying ht,Result.andThen_ok,hso,Sem.run_ite,hne',if_false,zeroValue,typeInfo,run_program,hi,hz,
       Array.toList_map,show ¬ 1 * i.size > 2 ^ 24 by omega,Sem.run_pure,Result.andThen,hfill]
     simp [newRow,hfill]
   have hsize : cur'.size = i.size := by have := RVs.len _ _ f2; simp at this; omega
   have gw := grew_alloc w (.cells cur' e)
   have keep := keepNew hr (H' := upd H (.loc d) (.live ⟨i.size,[cs]⟩)) (lb := .loc d) (b := some w.heap.size) gw hu (by simp) (fun p hp ⟨r,h⟩ => by rw [upd_ne _ _ hp] at h; exact ⟨r,h⟩)
   have hrow : RowR (w.alloc (.cells cur' e)) (upd β (.loc d) (some w.heap.size)) (upd H (.loc d) (.live ⟨i.size,[cs]⟩))
       (Im K (upd β (.loc d) (some w.heap.size)) (upd H (.loc d) (.live ⟨i.size,[cs]⟩))) (.loc d) ⟨i.size,[cs]⟩ := by
     refine ⟨h0,by simp [hlen],?_⟩
     simp only [upd_same]
     refine ⟨cur',e,1,heap_alloc_new w _,by simp [hsize],by simp [maxLen],by simp,fun i' j cs' x hi' hj' => ?_⟩
     cases i' with
     | succ i' => simp at hi'
     | zero =>
       simp at hi'; subst hi'
       obtain ⟨v,k1,k2⟩ := RVs.get _ _ _ _ f2 hj'
       exact ⟨v,by simpa using k1,RV.mono _ _ (keep _ (fun l hl => hm l (lbss_get _ _ _ hj' l hl))) k2⟩
   have h3 := hr.addRow (.loc d) hu gw (some w.heap.size) (by simp) (by simpa using hm) hrow
   have h4 := h3.step (Below.refl _ _) (d := some d) (x := .sl (.loc d) i.size 0 1) (v := .slice (some ⟨w.heap.size,0,none⟩) 1 1) (by simpa using hd)
     (fun _ => by
       simp only [RV]
       refine ⟨_,1,rfl,Nat.le_refl _,by simp [maxLen],by simp,fun _ => .inr ⟨w.heap.size,i.size,by simp,by simp,?_,by simp⟩⟩
       have hh : (w.alloc (.cells cur' e)).heap[w.heap.size]? = some (.cells cur' e) := heap_alloc_new w _
       unfold bsz
       rw [hh]
       simp only [hsize]) (by simp [AV.lbs])
   exact ⟨_,_,_,_,hrun,.inl rfl,h4⟩
 · simp at hy
end
end Go.Am
