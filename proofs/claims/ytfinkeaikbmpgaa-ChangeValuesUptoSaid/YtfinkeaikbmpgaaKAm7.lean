import Derived.Test.YtfinkeaikbmpgaaKAm5
import Derived.Laws.AppendOwn
import Derived.Laws.IdiomStrings
import Derived.Laws.BytesString
set_option linter.unusedSimpArgs false
set_option linter.unusedVariables false
set_option linter.unnecessarySimpa false
set_option linter.defProp false
/- THE ABSTRACT MACHINE, part 7: structs made, boxed, loaded from memory that nobody writes. -/
namespace Go.Am
open Go Go.RowKit
theorem splice_foldl (off : Nat) : ∀ (l : List Value) (k : Nat) (arr : Array Value),off + k + l.length ≤ arr.size →
   ((l.zipIdx k).foldl (fun cs (p : Value × Nat) => cs.setIfInBounds (off + p.2) p.1) arr).toList = arr.toList.take (off + k) ++ l ++ arr.toList.drop (off + k + l.length)
 | [],k,arr,h => by simp
 | v :: r,k,arr,h => by
   simp only [List.length_cons] at h
   simp only [List.zipIdx_cons,List.foldl_cons]
   rw [splice_foldl off r (k + 1) (arr.setIfInBounds (off + k) v) (by simp; omega)]
   simp only [Array.toList_setIfInBounds,List.length_cons]
   rw [show off + (k + 1) + r.length = off + k + (r.length + 1) by omega,show off + (k + 1) = off + k + 1 by omega]
   have hlt : off + k < arr.toList.length := by simp; omega
   have h1 : (arr.toList.set (off + k) v).take (off + k + 1) = arr.toList.take (off + k) ++ [v] := by
     have hl : (arr.toList.take (off + k)).length = off + k := by rw [List.length_take]; omega
     rw [List.take_set,List.take_succ_eq_append_getElem hlt,List.set_append_right _ _ (by omega),hl,Nat.sub_self]
     rfl
   have h2 : (arr.toList.set (off + k) v).drop (off + k + (r.length + 1)) = arr.toList.drop (off + k + (r.length + 1)) := by
     rw [List.drop_set_of_lt (by omega)]
   rw [h1,h2]
   simp
section
variable {w : World} {β : Lb → Option Nat} {H : Hp} {I : Nat → Prop}
theorem RVs.cells_len {x : AV} {v : Value} (h : RV w β H I x v) (hx : (∃ cs,x = .agg cs) ∨ x.one = true) : v.cells.size = x.cells.length ∧ RVs w β H I x.cells v.cells.toList := by
 have h2 : RVs w β H I x.cells v.cells.toList := RV.cells h (fun _ _ => trivial) (by
   rcases hx with hx | hx
   · exact .inl hx
   · exact .inr (RV.oneCell h hx))
 exact ⟨by rw [← RVs.len _ _ h2]; simp,h2⟩
theorem AV.stb_or {x : AV} (h : x.stb = true) : (∃ cs,x = .agg cs) ∨ x.one = true := by
 cases x <;> first | exact .inl ⟨_,rfl⟩ | exact .inr (by simpa [AV.stb] using h)
inductive All2 {α γ : Type} (R : α → γ → Prop) : List α → List γ → Prop
 | nil : All2 R [] []
 | cons {a : α} {b : γ} {l : List α} {m : List γ} : R a b → All2 R l m → All2 R (a :: l) (b :: m)
theorem fill_run (place : Nat → Option (Nat × Nat)) : ∀ (ps : List (Nat × Value)) (qs : List (Nat × Nat × AV)) (cs cs' : List AV) (cur : Array Value),
   RVs w β H I cs cur.toList → fillA cs qs = some cs' →
   All2 (fun (p : Nat × Value) (q : Nat × Nat × AV) => place p.1 = some (q.1,q.2.1) ∧ RV w β H I q.2.2 p.2) ps qs →
   ∃ cur',Instr.fill place cur ps = some cur' ∧ RVs w β H I cs' cur'.toList
 | [],qs,cs,cs',cur,h,hf,ha => by
   cases ha
   simp only [fillA,Option.some.injEq] at hf
   subst hf
   exact ⟨cur,rfl,h⟩
 | p :: ps,qs,cs,cs',cur,h,hf,ha => by
   cases ha with
   | @cons _ q _ qs hq hqs =>
     obtain ⟨off,sz,x⟩ := q
     obtain ⟨i,v⟩ := p
     obtain ⟨h1,h2⟩ := hq
     simp only at h1 h2
     simp only [fillA] at hf
     split at hf
     · rename_i hsz
       obtain ⟨h3,hsz⟩ := hsz
       obtain ⟨k1,k2⟩ := RVs.cells_len h2 (AV.stb_or h3)
       have hlen : cur.size = cs.length := by rw [← RVs.len _ _ h]; simp
       have hc1 : ¬ (v.cells.size ≠ sz || decide (off + v.cells.size > cur.size)) = true := by
         simp only [Bool.or_eq_true,decide_eq_true_eq,not_or]
         omega
       have hsp := splice_foldl off v.cells.toList 0 cur (by simp; omega)
       simp only [Nat.add_zero] at hsp
       obtain ⟨cur',e1,e2⟩ := fill_run place ps qs _ cs' (v.cells.zipIdx.foldl (fun cs (p : Value × Nat) => cs.setIfInBounds (off + p.2) p.1) cur) (by
         rw [← Array.foldl_toList,Array.toList_zipIdx,hsp]
         have : v.cells.toList.length = sz := by simp; omega
         rw [this]
         exact RVs.append _ _ _ _ (RVs.append _ _ _ _ (RVs.take _ _ _ h) k2) (RVs.drop _ _ _ h)) hf hqs
       refine ⟨cur',?_,e2⟩
       simp only [Instr.fill,h1]
       rw [if_neg hc1]
       exact e1
     · simp at hf
end
section
variable {K : Kx} {β : Lb → Option Nat} {env : Env} {H : Hp} {a : Act} {w : World}
theorem run_loadVar_agg {P : Program} {t : TypeId} {m : Nat} (hm : mOf P t = some (some m)) (ad : Addr) (cs : List Value) (hl : cs.length = m)
   (h : ∀ j v,cs[j]? = some v → w.cell? (ad.add j) = some v) : (loadVar t ad).run P w = .ok (.agg cs.toArray) w := by
 have hu : (isAgg t).run P w = .ok true w ∧ tsz P t = some m := by
   unfold mOf at hm
   split at hm
   · rename_i fs hfs
     obtain ⟨s,h1,h2⟩ := Option.map_eq_some_iff.1 hm
     cases h2
     exact ⟨by simp [isAgg,run_underlying hfs],h1⟩
   · rename_i n e hfs
     obtain ⟨s,h1,h2⟩ := Option.map_eq_some_iff.1 hm
     cases h2
     exact ⟨by simp [isAgg,run_underlying hfs],h1⟩
   · simp at hm
   · simp at hm
 subst hl
 simp [loadVar,hu.1,run_sizeOf' hu.2,run_loadCells_list (P := P) w ad cs h,Result.andThen]
theorem run_loadVar_one {P : Program} {t : TypeId} (hm : mOf P t = some none) (ad : Addr) (v : Value) (h : w.cell? ad = some v) : (loadVar t ad).run P w = .ok v w := by
 have hu : (isAgg t).run P w = .ok false w := by
   unfold mOf at hm
   split at hm
   · simp at hm
   · simp at hm
   · rename_i d h1 h2 hd
     have h1' : ∀ f,d ≠ .struct f := fun f e => h1 f e
     have h2' : ∀ n e,d ≠ .array n e := fun n e q => h2 n e q
     cases d <;> simp [isAgg,run_underlying hd]
     · exact (h2' _ _ rfl).elim
     · exact (h1' _ rfl).elim
   · simp at hm
 simp [loadVar,hu,h]
theorem lbss_map_av1 : ∀ (cs : List IV),lbss (cs.map IV.av1) = []
 | [] => by simp [lbss]
 | x :: r => by
   simp only [List.map_cons,lbss,lbss_map_av1 r,List.append_nil]
   cases x <;> simp [IV.av1,AV.lbs]
theorem CellsR_take {w : World} {I : Nat → Prop} : ∀ (n : Nat) (cs : List IV) (b o : Nat),CellsR w I cs b o → CellsR w I (cs.take n) b o
 | 0,_,_,_,_ => by simp [CellsR]
 | n + 1,[],_,_,_ => by simp [CellsR]
 | n + 1,x :: r,b,o,h => by
   simp only [CellsR] at h
   simp only [List.take_succ_cons,CellsR]
   exact ⟨h.1,CellsR_take n r b (o + 1) h.2⟩
theorem s_loadi (hr : RelB K β env H a w) {o : Oper} {t : TypeId} {x : Operand} {x' : O} {m : Option Nat} (ho : o.op = .load t x) (hm : mOf K.P t = some m) (hx : co K.G x = some x') {y : AV}
   (hy : stillV (.load m x') env = some y) : StepV K β H a w o y := by
 have h := hr.ev hx
 simp only [stillV] at hy
 split at hy
 · rename_i cs e
   rw [e] at h
   simp only [RV] at h
   obtain ⟨b,of,h1,h2,h3,h4⟩ := h
   obtain ⟨vs,k1,k2,k3⟩ := RVs.map_av1 (β := β) (H := H) cs b of h4
   have run : ∀ v,(loadVar t ⟨b,of,none⟩).run K.P w = .ok v w → (execOp a.eval o).run K.P w = .ok (.value v) w := by
     intro v hv
     simp [execOp,ho,h1,Instr.loadAt,Instr.sureAddr,hv]
   cases m with
   | none =>
     simp only [Option.map_eq_some_iff] at hy
     obtain ⟨z,hz,rfl⟩ := hy
     obtain ⟨v,e1,e2⟩ := RVs.get _ _ 0 (z.av1) k1 (by simp [hz])
     refine StepV.same (run v (run_loadVar_one hm _ _ (by simpa using k3 0 v e1))) e2 ?_
     cases z <;> simp [IV.av1,AV.lbs]
   | some k =>
     simp only at hy
     split at hy
     · rename_i hk
       simp only [Option.some.injEq] at hy; subst hy
       refine StepV.same (run (.agg (vs.take k).toArray) (run_loadVar_agg hm _ _ (by simp; omega) (fun j v hj => ?_))) ?_ ?_
       · rw [List.getElem?_take] at hj
         split at hj
         · rw [addr_add]; exact k3 j v hj
         · simp at hj
       · simp only [RV]
         exact ⟨_,rfl,by rw [List.map_take]; exact RVs.take _ _ _ k1⟩
       · intro l hl; simp only [AV.lbs,lbss_map_av1] at hl; simp at hl
     · simp at hy
 · simp at hy
theorem RelB.fresh (hr : RelB K β env H a w) : Im K β H w.heap.size := by
 refine ⟨.inr hr.frame.size,fun l hl hb => ?_⟩
 obtain ⟨r,hr'⟩ := hl
 obtain ⟨_,_,h3⟩ := hr.rows l r hr'
 simp only [hb] at h3
 obtain ⟨cur,e,cap,h4,_⟩ := h3
 have := (Array.getElem?_eq_some_iff.1 h4).1
 omega
theorem grew_alloc (w : World) (o : Obj) : Grew w (w.alloc o) := (Below.refl _ _).alloc (Nat.le_refl _) o
theorem grew_drew (w : World) : Grew w w.drew := (Below.refl _ _).drew
theorem alloc_cell (w : World) (c : Array Value) (e : TypeId) (j : Nat) : (w.alloc (.cells c e)).cell? ⟨w.heap.size,j,none⟩ = c[j]? := by
 simp
theorem s_boxi (hr : RelB K β env H a w) {o : Oper} {t : TypeId} {x : Operand} {x' : O} (ho : o.op = .box t x) (hx : co K.G x = some x') {y : AV}
   (hy : stillV (.boxi x') env = some y) : StepV K β H a w o y := by
 have h := hr.ev hx
 simp only [stillV,Option.map_eq_some_iff] at hy
 obtain ⟨ys,h1,rfl⟩ := hy
 have hone : (∃ cs,ev env x' = .agg cs) ∨ (ev env x').one = true := by
   cases hc : ev env x' <;> simp [hc,AV.cells,ivs,AV.iv] at h1 <;> first | exact .inl ⟨_,rfl⟩ | exact .inr rfl
 obtain ⟨k1,k2⟩ := RVs.cells_len h hone
 have hg := grew_alloc w (.cells (a.eval x).cells t)
 refine ⟨.pointer (some ⟨w.heap.size,0,none⟩),w.alloc (.cells (a.eval x).cells t),?_,hg,?_,by simp [AV.lbs]⟩
 · simp [execOp,ho,Instr.box,newVar,newRow]
 · simp only [RV]
   refine ⟨_,0,rfl,hr.fresh,by simp,?_⟩
   refine CellsR_of_RVs _ _ _ _ _ h1 (RVs.mono _ _ (hg.keep2 β H _ _) k2) (fun j v hj => ?_)
   rw [Nat.zero_add,alloc_cell]
   simpa using hj
theorem cvs_rv : ∀ (l : List Value) (xs : List AV),cvs l = some xs → ∀ (w : World) (β : Lb → Option Nat) (H : Hp) (I : Nat → Prop),RVs w β H I xs l
 | [],xs,h,w,β,H,I => by simp [cvs] at h; subst h; simp [RVs]
 | v :: r,xs,h,w,β,H,I => by
   simp only [cvs,Option.bind_eq_some_iff,Option.map_eq_some_iff] at h
   obtain ⟨x,h1,s,h2,rfl⟩ := h
   simp only [RVs]
   exact ⟨v,r,rfl,cv_rv h1 _ _ _ _,cvs_rv r s h2 w β H I⟩
theorem zeros_rv (z : Array Value) (zs : List AV) (w : World) (β : Lb → Option Nat) (H : Hp) (I : Nat → Prop) (h : RVs w β H I zs z.toList) (hz : 0 < z.size) : ∀ n : Nat,
   RVs w β H I ((List.replicate n zs).flatten) ((Array.range (n * z.size)).map (fun i => z[i % z.size]!)).toList
 | 0 => by simp [RVs]
 | n + 1 => by
   have ih := zeros_rv z zs w β H I h hz n
   have e1 : (List.replicate (n + 1) zs).flatten = (List.replicate n zs).flatten ++ zs := by
     rw [List.replicate_succ']; simp
   have e2 : ((Array.range ((n + 1) * z.size)).map (fun i => z[i % z.size]!)).toList = ((Array.range (n * z.size)).map (fun i => z[i % z.size]!)).toList ++ z.toList := by
     simp only [Array.toList_map,Array.toList_range]
     rw [Nat.add_mul,Nat.one_mul,List.range_add,List.map_append]
     congr 1
     rw [List.map_map]
     apply List.ext_getElem
     · simp
     · intro i h1 h2
       simp at h1 h2
       simp [Nat.mod_eq_of_lt h1,h1]
   rw [e1,e2]
   exact RVs.append _ _ _ _ ih h
theorem parts_all2 (hr : RelB K β env H a w) (place : Nat → Option (Nat × Nat)) : ∀ (ps : List (Nat × Operand)) (xs : List O) (qs : List (Nat × Nat × O)),cos K.G (ps.map (·.2)) = some xs →
   qs.length = ps.length → (∀ (i : Nat) (p : Nat × Operand) (x : O) (q : Nat × Nat × O),ps[i]? = some p → xs[i]? = some x → qs[i]? = some q → q.2.2 = x ∧ place p.1 = some (q.1,q.2.1)) →
   All2 (fun (p : Nat × Value) (q : Nat × Nat × AV) => place p.1 = some (q.1,q.2.1) ∧ RV w β H (Im K β H) q.2.2 p.2)
     (ps.map fun p => (p.1,a.eval p.2)) (qs.map fun q => (q.1,q.2.1,ev env q.2.2))
 | [],xs,qs,h,hl,hp => by
   have : qs = [] := List.eq_nil_of_length_eq_zero (by simpa using hl)
   subst this
   exact .nil
 | p :: ps,xs,qs,h,hl,hp => by
   cases qs with
   | nil => simp at hl
   | cons q qs =>
     simp only [List.map_cons,cos,Option.bind_eq_some_iff,Option.map_eq_some_iff] at h
     obtain ⟨y,h1,s,h2,rfl⟩ := h
     obtain ⟨k1,k2⟩ := hp 0 p y q (by simp) (by simp) (by simp)
     simp only [List.map_cons]
     refine .cons ⟨k2,?_⟩ (parts_all2 hr place ps s qs h2 (by simpa using hl)
       (fun i p' x' q' g1 g2 g3 => hp (i + 1) p' x' q' (by simpa using g1) (by simpa using g2) (by simpa using g3)))
     simp only
     rw [k1]
     exact hr.ev h1
theorem mkE_cells (ys : List IV) (h : ∀ y ∈ ys,y.cells = [y]) (hn : ys ≠ []) : (mkE ys).cells = ys := by
 cases ys with
 | nil => exact absurd rfl hn
 | cons y r =>
   cases r with
   | nil => simpa [mkE] using h y (by simp)
   | cons z r => simp [mkE,IV.cells]
theorem ivs_cells : ∀ (cs : List AV) (ys : List IV),ivs cs = some ys → ∀ y ∈ ys,y.cells = [y]
 | [],ys,h => by simp [ivs] at h; subst h; simp
 | x :: r,ys,h => by
   simp only [ivs,Option.bind_eq_some_iff,Option.map_eq_some_iff] at h
   obtain ⟨y,h1,s,h2,rfl⟩ := h
   intro z hz
   simp at hz
   rcases hz with rfl | hz
   · exact iv_cells h1
   · exact ivs_cells r s h2 z hz
theorem chunks_elems {w : World} {I : Nat → Prop} {sz : Nat} (hsz : 0 < sz) : ∀ (n : Nat) (ys : List IV) (b o : Nat),ys.length = n * sz → (∀ y ∈ ys,y.cells = [y]) → CellsR w I ys b o →
   ElemsR w I (chunks sz n ys) b o sz ∧ (chunks sz n ys).length = n
 | 0,ys,b,o,_,_,_ => by simp [chunks,ElemsR]
 | n + 1,ys,b,o,hl,hc,h => by
   have hl' : ys.length = n * sz + sz := by rw [hl,Nat.add_mul]; omega
   have ih := chunks_elems hsz n (ys.drop sz) b (o + sz) (by simp; omega) (fun y hy => hc y (List.mem_of_mem_drop hy)) (CellsR_drop _ _ _ _ h)
   have hlt : (ys.take sz).length = sz := by simp; omega
   have hce : (mkE (ys.take sz)).cells = ys.take sz := mkE_cells _ (fun y hy => hc y (List.mem_of_mem_take hy)) (by intro e; rw [e] at hlt; simp at hlt; omega)
   simp only [chunks,ElemsR,List.length_cons]
   refine ⟨⟨?_,ih.1⟩,by rw [ih.2]⟩
   rw [ElemR_iff,hce]
   exact ⟨hlt.symm,CellsR_take _ _ _ _ h⟩
theorem s_lits (hr : RelB K β env H a w) {o : Oper} {t e : TypeId} {n : Nat} {ps : Array (Nat × Operand)} {i : TypeInfo} {z : Value} {zs : List AV} {xs : List O} (ho : o.op = .buildSlice t n ps)
   (ht : K.P.underlying t = some (.slice e)) (hi : K.P.info? e = some i) (hz : i.zero = some z) (hzs : z.cells.size = i.size) (h0 : 0 < i.size) (hn : n * i.size ≤ 2 ^ 24)
   (hcv : cvs z.cells.toList = some zs) (hxs : cos K.G (ps.toList.map (·.2)) = some xs) {y : AV}
   (hy : stillV (.lits n i.size zs ((ps.toList.map (·.1)).zip xs)) env = some y) : StepV K β H a w o y := by
 simp only [stillV] at hy
 split at hy
 · split at hy
   · rename_i hn0
     obtain ⟨rfl,hemp⟩ := hn0
     simp only [Option.some.injEq] at hy
     subst hy
     have hlx : xs.length = ps.toList.length := by
       have := RVs.len _ _ (cos_rv hr _ _ hxs)
       simp at this
       simpa using this.symm
     have hps : ps.toList = [] := by
       have h1 : ((ps.toList.map (·.1)).zip xs) = [] := by simpa using hemp
       have h2 : ((ps.toList.map (·.1)).zip xs).length = 0 := by rw [h1]; rfl
       rw [List.length_zip,List.length_map,hlx,Nat.min_self] at h2
       exact List.length_eq_zero_iff.1 h2
     have hps' : ps = #[] := by simpa using hps
     subst hps'
     refine ⟨.slice (some ⟨w.heap.size,0,none⟩) 0 0,w.alloc (.cells #[] e),?_,grew_alloc w _,by simp [RV],by simp [AV.lbs]⟩
     have hso := run_sizeOf' (P := K.P) (t := e) (s := i.size) (by simp [tsz,hi]) w
     simp [execOp,ho,Instr.buildSlice,run_underlying ht,hso,Instr.fill,newRow,show Array.range 0 = #[] from rfl]
   · simp at hy
 · rename_i hne
   simp only [Option.bind_eq_some_iff,Option.map_eq_some_iff] at hy
   obtain ⟨cs,h1,ys,h2,rfl⟩ := hy
   have hn0 : n ≠ 0 := fun e => hne (by simp [e])
   have hz0 := cvs_rv _ _ hcv w β H (Im K β H)
   have hzero := zeros_rv z.cells zs w β H (Im K β H) hz0 (by omega) n
   have hlx : xs.length = ps.toList.length := by
     have := RVs.len _ _ (cos_rv hr _ _ hxs)
     simp at this
     simpa using this.symm
   have hall := parts_all2 hr (fun j => some (j * i.size,i.size)) ps.toList xs (((ps.toList.map (·.1)).zip xs).map fun p => (p.1 * i.size,i.size,p.2)) hxs
     (by simp at hlx; simp [hlx])
     (by
       intro j p x q g1 g2 g3
       simp only [List.getElem?_map,List.getElem?_zip_eq_some,Option.map_eq_some_iff] at g3
       obtain ⟨⟨u,v⟩,⟨⟨p',e1,e2⟩,e3⟩,rfl⟩ := g3
       simp only at e1 e2 e3
       rw [g1] at e1; cases e1
       rw [g2] at e3; cases e3
       exact ⟨rfl,by simp [e2]⟩)
   obtain ⟨cur',f1,f2⟩ := fill_run (fun j => some (j * i.size,i.size)) _ _ _ cs _ hzero (by simpa [List.map_map,Function.comp_def] using h1) hall
   have hlen : cs.length = n * i.size := by
     have e1 := RVs.len _ _ hzero
     have e2 : ∀ (qs : List (Nat × Nat × AV)) (c c' : List AV),fillA c qs = some c' → c'.length = c.length := by
       intro qs
       induction qs with
       | nil => intro c c' h; simp [fillA] at h; rw [h]
       | cons q qs ih =>
         intro c c' h
         obtain ⟨off,sz,x⟩ := q
         simp only [fillA] at h
         split at h
         · rename_i hh
           obtain ⟨_,hh⟩ := hh
           rw [ih _ _ h]
           simp
           omega
         · simp at h
     rw [e2 _ _ _ h1,← e1]
     simp [hzs]
   have hg := grew_alloc w (.cells cur' e)
   have hyl : ys.length = n * i.size := by rw [ivs_len _ _ h2,hlen]
   have hcells : CellsR (w.alloc (.cells cur' e)) (Im K β H) ys w.heap.size 0 :=
     CellsR_of_RVs _ _ _ _ _ h2 (RVs.mono _ _ (hg.keep2 β H _ _) f2) (fun j v hj => by rw [Nat.zero_add,alloc_cell]; simpa using hj)
   have hch := chunks_elems h0 n ys w.heap.size 0 hyl (ivs_cells _ _ h2) hcells
   refine ⟨.slice (some ⟨w.heap.size,0,none⟩) n n,w.alloc (.cells cur' e),?_,hg,?_,by simp [AV.lbs]⟩
   · have hfill : Instr.fill (fun j => some (j * i.size,i.size)) ((Array.range (n * i.size)).map (z.cells[· % z.cells.size]!)) (ps.toList.map fun p => (p.1,a.eval p.2)) = some cur' := by
       rw [← hzs]
       rw [← hzs] at f1
       exact f1
     have hne' : ¬ n * i.size = 0 := by rw [Nat.mul_comm]; exact hne
     have hso := run_sizeOf' (P := K.P) (t := e) (s := i.size) (by simp [tsz,hi]) w
     simp only [execOp,ho,Instr.buildSlice,Sem.run_bind,run_underlying ht,Result.andThen_ok,hso,Sem.run_ite,hne',if_false,zeroValue,typeInfo,run_program,hi,hz,
       Array.toList_map,show ¬ n * i.size > 2 ^ 24 by omega,Sem.run_pure,Result.andThen,hfill]
     simp [newRow,hfill]
   · simp only [RV,IVR]
     refine ⟨_,n,by rw [hch.2],by rw [hch.2]; exact Nat.le_refl _,?_,.inr ⟨w.heap.size,0,i.size,rfl,hr.fresh,by simp,h0,hch.1⟩⟩
     have : n ≤ n * i.size := Nat.le_mul_of_pos_right n h0
     simp only [maxLen]; omega
theorem bldPs_all2 (hr : RelB K β env H a w) (pl : List (Nat × Nat)) : ∀ (ps : List (Nat × Operand)) (xs : List O) (qs : List (Nat × Nat × O)),cos K.G (ps.map (·.2)) = some xs →
   bldPs pl (ps.map (·.1)) xs = some qs →
   All2 (fun (p : Nat × Value) (q : Nat × Nat × AV) => pl.toArray[p.1]? = some (q.1,q.2.1) ∧ RV w β H (Im K β H) q.2.2 p.2)
     (ps.map fun p => (p.1,a.eval p.2)) (qs.map fun q => (q.1,q.2.1,ev env q.2.2))
 | [],xs,qs,h,hb => by
   simp [cos] at h; subst h
   simp [bldPs] at hb; subst hb
   exact .nil
 | p :: ps,xs,qs,h,hb => by
   simp only [List.map_cons,cos,Option.bind_eq_some_iff,Option.map_eq_some_iff] at h
   obtain ⟨y,h1,s,h2,rfl⟩ := h
   simp only [List.map_cons,bldPs,Option.bind_eq_some_iff,Option.map_eq_some_iff] at hb
   obtain ⟨q,e1,r,e2,rfl⟩ := hb
   simp only [List.map_cons]
   exact .cons ⟨by simpa using e1,hr.ev h1⟩ (bldPs_all2 hr pl ps s r h2 e2)
theorem s_bld (hr : RelB K β env H a w) {o : Oper} {t : TypeId} {fs : Array Field} {ps : Array (Nat × Operand)} {i : TypeInfo} {z : Value} {zs : List AV} {xs : List O} {pl : List (Nat × Nat)}
   {qs : List (Nat × Nat × O)} (ho : o.op = .build t ps)
   (ht : K.P.underlying t = some (.struct fs)) (hi : K.P.info? t = some i) (hz : i.zero = some z) (hpl : fs.toList.mapM (fun f => (K.P.info? f.type).map fun i => (f.offset,i.size)) = some pl)
   (hcv : cvs z.cells.toList = some zs) (hxs : cos K.G (ps.toList.map (·.2)) = some xs) (hqs : bldPs pl (ps.toList.map (·.1)) xs = some qs) {y : AV}
   (hy : stillV (.bld zs qs) env = some y) : StepV K β H a w o y := by
 simp only [stillV,Option.map_eq_some_iff] at hy
 obtain ⟨cs,h1,rfl⟩ := hy
 obtain ⟨cur',f1,f2⟩ := fill_run (β := β) (H := H) (I := Im K β H) (w := w) (fun j => pl.toArray[j]?) _ _ _ cs z.cells (cvs_rv _ _ hcv w β H _) h1 (bldPs_all2 hr pl _ _ _ hxs hqs)
 refine StepV.same (v := .agg cur') ?_ ⟨cur'.toList,by simp,f2⟩ ?_
 · have hb : K.P.built t (ps.map fun (i,x) => (i,a.eval x)).toList = some cur' := by
     simp only [Program.built,hi,ht,hz,hpl]
     simpa using f1
   simp only [execOp,ho,Sem.run_bind,run_build w t _ cur' hb,Result.andThen_ok,Sem.run_pure]
 · have hm0 : ∀ (l : List Value) (xs : List AV),cvs l = some xs → lbss xs = [] := by
     intro l
     induction l with
     | nil => intro xs h; simp [cvs] at h; subst h; rfl
     | cons v r ih =>
       intro xs h
       simp only [cvs,Option.bind_eq_some_iff,Option.map_eq_some_iff] at h
       obtain ⟨x,h1,s,h2,rfl⟩ := h
       simp [lbss,cv_lbs h1,ih s h2]
   have hmq : ∀ (ids : List Nat) (xs : List O) (qs : List (Nat × Nat × O)),bldPs pl ids xs = some qs → ∀ q ∈ qs,q.2.2 ∈ xs := by
     intro ids
     induction ids with
     | nil => intro xs qs h; cases xs <;> simp [bldPs] at h; subst h; simp
     | cons j js ih =>
       intro xs qs h
       cases xs with
       | nil => simp [bldPs] at h
       | cons x xs =>
         simp only [bldPs,Option.bind_eq_some_iff,Option.map_eq_some_iff] at h
         obtain ⟨p,e1,r,e2,rfl⟩ := h
         intro q hq
         simp at hq
         rcases hq with rfl | hq
         · simp
         · exact List.mem_cons_of_mem _ (ih xs r e2 q hq)
   have hmx : ∀ x ∈ xs,∀ l ∈ (ev env x).lbs,H l ≠ .unused := by
     intro x hx l hl
     refine cos_ment hr _ _ hxs l ?_
     obtain ⟨k,hk⟩ := List.getElem?_of_mem hx
     exact lbss_get _ k _ (by simp [hk]) l hl
   have happ : ∀ (l m : List AV),lbss (l ++ m) = lbss l ++ lbss m := by
     intro l m
     induction l with
     | nil => rfl
     | cons x r ih => simp [lbss,ih]
   have hsub : ∀ (l : List AV) (n : Nat),(∀ q ∈ lbss (l.take n),q ∈ lbss l) ∧ (∀ q ∈ lbss (l.drop n),q ∈ lbss l) := by
     intro l n
     have := happ (l.take n) (l.drop n)
     rw [List.take_append_drop] at this
     rw [this]
     exact ⟨fun q hq => List.mem_append.2 (.inl hq),fun q hq => List.mem_append.2 (.inr hq)⟩
   have hf : ∀ (qs : List (Nat × Nat × AV)) (c c' : List AV),fillA c qs = some c' → (∀ l ∈ lbss c,H l ≠ .unused) → (∀ q ∈ qs,∀ l ∈ q.2.2.lbs,H l ≠ .unused) → ∀ l ∈ lbss c',H l ≠ .unused := by
     intro qs
     induction qs with
     | nil => intro c c' h h1 _; simp [fillA] at h; subst h; exact h1
     | cons q qs ih =>
       intro c c' h h1 h2
       obtain ⟨off,sz,x⟩ := q
       simp only [fillA] at h
       split at h
       · refine ih _ _ h ?_ (fun q hq => h2 q (by simp [hq]))
         intro l hl
         rw [happ,happ,List.mem_append,List.mem_append] at hl
         rcases hl with (hl | hl) | hl
         · exact h1 l ((hsub c off).1 l hl)
         · have := h2 (off,sz,x) (by simp) l
           refine this ?_
           cases x <;> simp [AV.cells,lbss] at hl <;> simp [AV.lbs] at hl ⊢ <;> exact hl
         · exact h1 l ((hsub c (off + sz)).2 l hl)
       · simp at h
   simp only [AV.lbs]
   refine hf _ _ _ h1 (by rw [hm0 _ _ hcv]; simp) ?_
   intro q hq
   simp only [List.mem_map] at hq
   obtain ⟨q0,hq0,rfl⟩ := hq
   exact hmx _ (hmq _ _ _ hqs q0 hq0)
theorem s_getf (hr : RelB K β env H a w) {o : Oper} {t : TypeId} {x : Operand} {f : Nat} {fs : Array Field} {fd : Field} {x' : O} {m : Option Nat} (ho : o.op = .field t x f)
   (ht : K.P.underlying t = some (.struct fs)) (hf : fs[f]? = some fd) (hm : mOf K.P fd.type = some m) (hx : co K.G x = some x') {y : AV}
   (hy : stillV (.getf x' fd.offset m) env = some y) : StepV K β H a w o y := by
 have h := hr.ev hx
 have hmt := hr.ev_ment hx
 simp only [stillV] at hy
 split at hy
 · rename_i cs e
   rw [e] at h hmt
   simp only [RV] at h
   obtain ⟨vs,h1,h2⟩ := h
   have run : ∀ v,(part fd.type vs.toArray fd.offset).run K.P w = .ok v w → (execOp a.eval o).run K.P w = .ok (.value v) w := by
     intro v hv
     simp [execOp,ho,Instr.field,run_underlying ht,hf,h1,asAgg,hv,Result.andThen]
   cases m with
   | none =>
     simp only at hy
     obtain ⟨v,k1,k2⟩ := RVs.get _ _ _ _ h2 hy
     have hag : (isAgg fd.type).run K.P w = .ok false w := by
       unfold mOf at hm
       split at hm
       · simp at hm
       · simp at hm
       · rename_i d h1 h2 hd
         cases d <;> simp [isAgg,run_underlying hd]
         · exact (h2 _ _ rfl).elim
         · exact (h1 _ rfl).elim
       · simp at hm
     refine StepV.same (run v ?_) k2 (fun l hl => hmt l (by simpa [AV.lbs] using lbss_get _ _ _ hy l hl))
     simp [part,hag,k1]
   | some k =>
     simp only at hy
     split at hy
     · rename_i hk
       simp only [Option.some.injEq] at hy; subst hy
       have hag : (isAgg fd.type).run K.P w = .ok true w ∧ tsz K.P fd.type = some k := by
         unfold mOf at hm
         split at hm
         · rename_i fs hfs
           obtain ⟨s,h1,h2⟩ := Option.map_eq_some_iff.1 hm
           cases h2
           exact ⟨by simp [isAgg,run_underlying hfs],h1⟩
         · rename_i n e hfs
           obtain ⟨s,h1,h2⟩ := Option.map_eq_some_iff.1 hm
           cases h2
           exact ⟨by simp [isAgg,run_underlying hfs],h1⟩
         · simp at hm
         · simp at hm
       refine StepV.same (run (.agg ((vs.drop fd.offset).take k).toArray) ?_) ⟨_,rfl,RVs.take _ _ _ (RVs.drop _ _ _ h2)⟩ ?_
       · simp [part,hag.1,run_sizeOf' hag.2,Result.andThen,List.extract]
       · intro l hl
         simp only [AV.lbs] at hl hmt
         refine hmt l ?_
         have happ : ∀ (l m : List AV),lbss (l ++ m) = lbss l ++ lbss m := by
           intro l m
           induction l with
           | nil => rfl
           | cons x r ih => simp [lbss,ih]
         have e1 := happ (cs.take fd.offset) (cs.drop fd.offset)
         rw [List.take_append_drop] at e1
         have e2 := happ ((cs.drop fd.offset).take k) ((cs.drop fd.offset).drop k)
         rw [List.take_append_drop] at e2
         rw [e1,e2]
         exact List.mem_append.2 (.inr (List.mem_append.2 (.inl hl)))
     · simp at hy
 · simp at hy
theorem eqs_run {P : Program} : ∀ (fs : List Field) (ks : List Kd) (n d : Nat) (xs ys : List AV) (vs us : List Value) (b : Bool),plainKinds P n fs = some ks → eqs ks xs ys = some b →
   RVs w β H (Im K β H) xs (vs.drop n) → RVs w β H (Im K β H) ys (us.drop n) →
   (Op.eqFields (d + 1) vs.toArray us.toArray fs).run P w = .ok b w
 | [],ks,n,d,xs,ys,vs,us,b,hp,he,hx,hy => by
   simp [plainKinds] at hp; subst hp
   cases xs <;> cases ys <;> simp [eqs] at he
   subst he
   simp [Op.eqFields]
 | f :: fs,ks,n,d,xs,ys,vs,us,b,hp,he,hx,hy => by
   simp only [plainKinds] at hp
   split at hp
   · rename_i hh
     simp only [Bool.and_eq_true,bne_iff_ne,ne_eq,beq_iff_eq] at hh
     obtain ⟨h1,h2⟩ := hh
     obtain ⟨k,ks',rfl,hp',hk⟩ : ∃ k ks',ks = k :: ks' ∧ plainKinds P (n + 1) fs = some ks' ∧ ((k = .s ∧ P.underlying f.type = some .string) ∨ (k = .b ∧ P.underlying f.type = some .bool) ∨ (k = .i ∧ ∃ j,P.underlying f.type = some (.int j))) := by
       split at hp
       · obtain ⟨s,q1,q2⟩ := Option.map_eq_some_iff.1 hp
         exact ⟨_,s,q2.symm,q1,.inl ⟨rfl,by assumption⟩⟩
       · obtain ⟨s,q1,q2⟩ := Option.map_eq_some_iff.1 hp
         exact ⟨_,s,q2.symm,q1,.inr (.inl ⟨rfl,by assumption⟩)⟩
       · obtain ⟨s,q1,q2⟩ := Option.map_eq_some_iff.1 hp
         exact ⟨_,s,q2.symm,q1,.inr (.inr ⟨rfl,_,by assumption⟩)⟩
       · simp at hp
     cases xs with
     | nil => simp [eqs] at he
     | cons x xs =>
     cases ys with
     | nil => simp [eqs] at he
     | cons y ys =>
     simp only [eqs,Option.bind_eq_some_iff,Option.map_eq_some_iff] at he
     obtain ⟨b1,e1,b2,e2,rfl⟩ := he
     simp only [RVs] at hx hy
     obtain ⟨v,vs',hv,rx,hxs⟩ := hx
     obtain ⟨u,us',hu,ry,hys⟩ := hy
     have gv : vs[n]? = some v := by rw [← List.head?_drop,hv]; rfl
     have gu : us[n]? = some u := by rw [← List.head?_drop,hu]; rfl
     have dv : vs.drop (n + 1) = vs' := by rw [← List.tail_drop,hv]; rfl
     have du : us.drop (n + 1) = us' := by rw [← List.tail_drop,hu]; rfl
     have ih := eqs_run (P := P) fs ks' (n + 1) d xs ys vs us b2 hp' e2 (by rw [dv]; exact hxs) (by rw [du]; exact hys)
     have hag : (isAgg f.type).run P w = .ok false w := by
       rcases hk with ⟨_,hk⟩ | ⟨_,hk⟩ | ⟨_,j,hk⟩ <;> simp [isAgg,run_underlying hk]
     have pv : (part f.type vs.toArray f.offset).run P w = .ok v w := by simp [part,hag,h2,gv]
     have pu : (part f.type us.toArray f.offset).run P w = .ok u w := by simp [part,hag,h2,gu]
     have heq : (Op.equalIn (d + 1) f.type v u).run P w = .ok b1 w := by
       rcases hk with ⟨rfl,hk⟩ | ⟨rfl,hk⟩ | ⟨rfl,j,hk⟩ <;> cases x <;> cases y <;> simp [eq1] at e1 <;> simp only [RV] at rx ry <;> subst rx <;> subst ry
       · rw [run_equalIn_string w d f.type _ _ hk]; simp [ByteArray.toList_mk,← e1]
       · rw [run_equalIn_bool' w d f.type _ _ hk]; simp [← e1]
       · obtain ⟨rfl,e1⟩ := e1
         rw [run_equalIn_int w d f.type _ _ _ _ hk]; simp [← e1]
     simp only [Op.eqFields,ne_eq,h1,not_false_eq_true,if_true,Sem.run_bind,pv,pu,heq,Result.andThen_ok,Sem.run_ite,ih]
     cases b1 <;> simp
   · simp at hp
theorem eqNeg_op {op : BinOp} {n : Bool} (h : eqNeg op = some n) : (op = .eql ∧ n = false) ∨ (op = .neq ∧ n = true) := by
 cases op <;> simp [eqNeg] at h <;> subst h <;> simp
theorem s_eqst (hr : RelB K β env H a w) {o : Oper} {op : BinOp} {t t2 : TypeId} {x y : Operand} {x' y' : O} {ks : List Kd} {n : Bool} (ho : o.op = .binOp op t x y t2) (hn : eqNeg op = some n)
   (hks : plainStruct K.P t = some ks) (hx : co K.G x = some x') (hy : co K.G y = some y') {z : AV} (hz : stillV (.eqst n ks x' y') env = some z) : StepV K β H a w o z := by
 have h := hr.ev hx
 have h2 := hr.ev hy
 unfold plainStruct at hks
 split at hks
 · rename_i fs hfs
   split at hks
   · rename_i hc
     simp only [Bool.and_eq_true,Bool.not_eq_true'] at hc
     simp only [stillV] at hz
     split at hz
     · rename_i xs ys e1 e2
       rw [e1] at h; rw [e2] at h2
       simp only [RV] at h h2
       obtain ⟨vs,h3,h4⟩ := h
       obtain ⟨us,h5,h6⟩ := h2
       obtain ⟨b,hb,rfl⟩ := Option.map_eq_some_iff.1 hz
       have hfo : K.P.underlying t = some (.struct (K.P.fieldsOf t)) := by simp [Program.fieldsOf,hfs]
       have hfe : (K.P.fieldsOf t).toList = fs.toList := by simp [Program.fieldsOf,hfs]
       have hq : (Op.equalIn 10000 t (.agg vs.toArray) (.agg us.toArray)).run K.P w = .ok b w := by
         rw [show (10000 : Nat) = 9998 + 1 + 1 from rfl,run_equalIn_struct w _ t _ _ hfo hc.1,hfe]
         exact eqs_run fs.toList ks 0 9998 xs ys vs us b hks hb (by simpa using h4) (by simpa using h6)
       refine StepV.same (v := .bool (n ^^ b)) ?_ (by simp [RV]) (by simp [AV.lbs])
       rcases eqNeg_op hn with ⟨rfl,rfl⟩ | ⟨rfl,rfl⟩
       · simp only [execOp,ho,h3,h5,Sem.run_bind,run_eqGuard_agg w _ t x y _ _ hc.2,Result.andThen_ok,run_eql_struct,hq]
         simp
       · simp only [execOp,ho,h3,h5,Sem.run_bind,run_eqGuard_agg w _ t x y _ _ hc.2,Result.andThen_ok,run_neq_struct,hq]
         simp
     · simp at hz
   · simp at hks
 · simp at hks
theorem s_eqb (hr : RelB K β env H a w) {o : Oper} {op : BinOp} {t t2 : TypeId} {x y : Operand} {x' y' : O} {n : Bool} (ho : o.op = .binOp op t x y t2) (hn : eqNeg op = some n)
   (ht : K.P.underlying t = some .bool) (hx : co K.G x = some x') (hy : co K.G y = some y') {z : AV} (hz : stillV (.eqb n x' y') env = some z) : StepV K β H a w o z := by
 have h := hr.ev hx
 have h2 := hr.ev hy
 simp only [stillV] at hz
 split at hz
 · rename_i p q e1 e2
   rw [e1] at h; rw [e2] at h2
   simp only [RV,Option.some.injEq] at h h2 hz
   subst hz
   refine StepV.same (v := .bool (n ^^ (p == q))) ?_ (by simp [RV]) (by simp [AV.lbs])
   have hq : (Op.equal t (.bool p) (.bool q)).run K.P w = .ok (p == q) w := run_equalIn_bool' w 9999 t p q ht
   rcases eqNeg_op hn with ⟨rfl,rfl⟩ | ⟨rfl,rfl⟩
   · simp [execOp,ho,h,h2,eqGuard,binOp,hq]
   · simp [execOp,ho,h,h2,eqGuard,binOp,hq]
 · simp at hz
theorem equalIn_np (d : Nat) {P : Program} {t e : TypeId} (ht : P.underlying t = some (.pointer e)) (q : Option Addr) : (Op.equalIn (d + 1) t (.pointer none) (.pointer q)).run P w = .ok q.isNone w := by
 simp [Op.equalIn,run_underlying ht]
theorem equalIn_pn (d : Nat) {P : Program} {t e : TypeId} (ht : P.underlying t = some (.pointer e)) (q : Addr) : (Op.equalIn (d + 1) t (.pointer (some q)) (.pointer none)).run P w = .ok false w := by
 simp [Op.equalIn,run_underlying ht]
theorem equalIn_nn (d : Nat) {P : Program} {t : TypeId} {ms : Array (String × TypeId)} (ht : P.underlying t = some (.interface ms)) : (Op.equalIn (d + 1) t .nilIface .nilIface).run P w = .ok true w := by
 simp [Op.equalIn,run_underlying ht]
theorem equalIn_in (d : Nat) {P : Program} {t u : TypeId} {v : Value} {ms : Array (String × TypeId)} (ht : P.underlying t = some (.interface ms)) : (Op.equalIn (d + 1) t (.iface u v) .nilIface).run P w = .ok false w := by
 simp [Op.equalIn,run_underlying ht]
theorem s_eqp (hr : RelB K β env H a w) {o : Oper} {op : BinOp} {t t2 e : TypeId} {x y : Operand} {x' y' : O} {n : Bool} (ho : o.op = .binOp op t x y t2) (hn : eqNeg op = some n)
   (ht : K.P.underlying t = some (.pointer e)) (hx : co K.G x = some x') (hy : co K.G y = some y') {z : AV} (hz : stillV (.eqp n x' y') env = some z) : StepV K β H a w o z := by
 have h := hr.ev hx
 have h2 := hr.ev hy
 simp only [stillV,Option.map_eq_some_iff] at hz
 obtain ⟨b,hb,rfl⟩ := hz
 have key : ∀ p q,a.eval x = .pointer p → a.eval y = .pointer q → (Op.equal t (.pointer p) (.pointer q)).run K.P w = .ok b w → StepV K β H a w o (.bool (n ^^ b)) := by
   intro p q h3 h4 h5
   refine StepV.same (v := .bool (n ^^ b)) ?_ (by simp [RV]) (by simp [AV.lbs])
   rcases eqNeg_op hn with ⟨rfl,rfl⟩ | ⟨rfl,rfl⟩
   · simp [execOp,ho,h3,h4,eqGuard,binOp,h5]
   · simp [execOp,ho,h3,h4,eqGuard,binOp,h5]
 have hnn : ∀ q,(Op.equal t (.pointer none) (.pointer q)).run K.P w = .ok q.isNone w := by
   intro q; exact equalIn_np 9999 ht q
 have hsn : ∀ q,(Op.equal t (.pointer (some q)) (.pointer none)).run K.P w = .ok false w := by
   intro q; exact equalIn_pn 9999 ht q
 cases e1 : ev env x' <;> cases e2 : ev env y' <;> rw [e1] at h <;> rw [e2] at h2 <;> rw [e1,e2] at hb <;> simp [eqP] at hb <;> simp only [RV] at h h2 <;> subst hb
 · exact key _ _ h h2 (hnn _)
 · obtain ⟨q,h2,_⟩ := h2; exact key _ _ h h2 (hnn _)
 · obtain ⟨q,q2,h2,_⟩ := h2; exact key _ _ h h2 (hnn _)
 · obtain ⟨q,h,_⟩ := h; exact key _ _ h h2 (hsn _)
 · obtain ⟨q,q2,h,_⟩ := h; exact key _ _ h h2 (hsn _)
theorem s_eqi (hr : RelB K β env H a w) {o : Oper} {op : BinOp} {t t2 : TypeId} {ms : Array (String × TypeId)} {x y : Operand} {x' y' : O} {n : Bool} (ho : o.op = .binOp op t x y t2) (hn : eqNeg op = some n)
   (ht : K.P.underlying t = some (.interface ms)) (hc : isNilC y = true) (hx : co K.G x = some x') {z : AV} (hz : stillV (.eqi n x' y') env = some z) : StepV K β H a w o z := by
 have h := hr.ev hx
 have hy : y = .const .nilIface := by
   cases y <;> simp [isNilC] at hc
   rename_i v; cases v <;> simp at hc; rfl
 subst hy
 simp only [stillV] at hz
 split at hz
 · rename_i e1
   rw [e1] at h
   simp only [RV,Option.some.injEq] at h hz
   subst hz
   refine StepV.same (v := .bool (n ^^ true)) ?_ (by simp [RV]) (by simp [AV.lbs])
   have hq : (Op.equal t .nilIface .nilIface).run K.P w = .ok true w := equalIn_nn 9999 ht
   rcases eqNeg_op hn with ⟨rfl,rfl⟩ | ⟨rfl,rfl⟩
   · simp [execOp,ho,h,show a.eval (.const .nilIface) = .nilIface from rfl,eqGuard,binOp,hq]
   · simp [execOp,ho,h,show a.eval (.const .nilIface) = .nilIface from rfl,eqGuard,binOp,hq]
 · rename_i t' x0 e1
   rw [e1] at h
   simp only [RV,Option.some.injEq] at h hz
   subst hz
   obtain ⟨u,h,_⟩ := h
   refine StepV.same (v := .bool (n ^^ false)) ?_ (by simp [RV]) (by simp [AV.lbs])
   have hq : (Op.equal t (.iface t' u) .nilIface).run K.P w = .ok false w := equalIn_in 9999 ht
   rcases eqNeg_op hn with ⟨rfl,rfl⟩ | ⟨rfl,rfl⟩
   · simp [execOp,ho,h,show a.eval (.const .nilIface) = .nilIface from rfl,eqGuard,binOp,hq]
   · simp [execOp,ho,h,show a.eval (.const .nilIface) = .nilIface from rfl,eqGuard,binOp,hq]
 · simp at hz
end
end Go.Am

/- THE ABSTRACT MACHINE, part 36: bytes of strings and back. -/
namespace Go.Am
open Go Go.RowKit
def u8s (s : List UInt8) : List IV := s.map fun c => .int .u8 (c.toNat : Int)
theorem cells_u8 {w : World} {I : Nat → Prop} (b : Nat) : ∀ (s : List UInt8) (o : Nat),(∀ j c,s[j]? = some c → w.cell? ⟨b,o + j,none⟩ = some (.int .u8 (c.toNat : Int))) → ElemsR w I (u8s s) b o 1
 | [],o,_ => by simp [u8s,ElemsR]
 | c :: r,o,h => by
   simp only [u8s,List.map_cons,ElemsR,ElemR]
   refine ⟨⟨trivial,_,by simpa using h 0 c rfl,rfl⟩,cells_u8 b r (o + 1) fun j d hj => ?_⟩
   have := h (j + 1) d (by simpa using hj)
   rw [← this]; congr 2; omega
section
variable {K : Kx} {β : Lb → Option Nat} {env : Env} {H : Hp} {a : Act} {w : World}
theorem s_cvb (hr : RelB K β env H a w) {o : Oper} {s d e : TypeId} {x : Operand} {x' : O} (ho : o.op = .convert s d x) (hs : K.P.underlying s = some .string) (hd : K.P.underlying d = some (.slice e)) (he : K.P.underlying e = some (.int .u8))
   (hx : co K.G x = some x') {y : AV} (hy : stillV (.cvb x') env = some y) : StepV K β H a w o y := by
 have h := hr.ev hx
 simp only [stillV] at hy
 split at hy
 · rename_i t e1
   split at hy
   · rename_i hlen
     rw [e1] at h
     simp only [RV,IVR,Option.some.injEq] at h hy
     subst hy
     have hrun := run_bytes_of_string (P := K.P) w s d e ⟨t.toArray⟩ hs hd he
     have hge := grownCap_ge w t.length 0 e
     have hcm := grownCap_le_maxLen w t.length 0 e (by simp only [maxLen]; omega)
     have hsz : (⟨t.toArray⟩ : ByteArray).size = t.length := by simp [ByteArray.size]
     rw [hsz] at hrun
     have hcell : ∀ j c,t[j]? = some c → (w.drew.alloc (.cells (bytesRow ⟨t.toArray⟩ (grownCap w t.length 0 e)) e ((bytesRow ⟨t.toArray⟩ (grownCap w t.length 0 e)).size,(bytesRow ⟨t.toArray⟩ (grownCap w t.length 0 e)).size + 1))).cell? ⟨w.heap.size,0 + j,none⟩ = some (.int .u8 (c.toNat : Int)) := by
       intro j c hj
       have h1 := World.cell?_alloc_mark w.drew (bytesRow ⟨t.toArray⟩ (grownCap w t.length 0 e)) e ((bytesRow ⟨t.toArray⟩ (grownCap w t.length 0 e)).size,(bytesRow ⟨t.toArray⟩ (grownCap w t.length 0 e)).size + 1) j
       have h2 : w.drew.heap.size = w.heap.size := rfl
       rw [h2] at h1
       rw [Nat.zero_add,h1]
       have hjl := (List.getElem?_eq_some_iff.1 hj).1
       unfold bytesRow
       rw [Array.getElem?_append_left (by simpa using hjl)]
       simp [hj]
     refine ⟨.slice (some ⟨w.heap.size,0,none⟩) t.length (grownCap w t.length 0 e),_,?_,(grew_drew w).trans (grew_alloc w.drew (.cells (bytesRow ⟨t.toArray⟩ (grownCap w t.length 0 e)) e ((bytesRow ⟨t.toArray⟩ (grownCap w t.length 0 e)).size,(bytesRow ⟨t.toArray⟩ (grownCap w t.length 0 e)).size + 1))),?_,by simp [AV.lbs]⟩
     · simp only [execOp,ho,h,Sem.run_bind,hrun,Result.andThen,Sem.run_pure]
     · simp only [RV,IVR]
       exact ⟨_,_,by rw [List.length_map],by rw [List.length_map]; exact hge,hcm,.inr ⟨w.heap.size,0,1,rfl,hr.fresh,by simp,by decide,cells_u8 _ t 0 hcell⟩⟩
   · simp at hy
 · simp at hy
theorem byteL_cells {w : World} {I : Nat → Prop} {b sz : Nat} : ∀ (xs : List IV) (s : List UInt8) (o : Nat),byteL xs = some s → ElemsR w I xs b o sz → xs = [] ∨ sz = 1 →
   ∃ ns : List Int,ns.length = xs.length ∧ ns.map (fun n => UInt8.ofNat n.toNat) = s ∧ ∀ j n,ns[j]? = some n → w.cell? ⟨b,o + j,none⟩ = some (.int .u8 n)
 | [],s,o,h,_,_ => by simp [byteL] at h; subst h; exact ⟨[],rfl,rfl,by simp⟩
 | x :: r,s,o,h,he,hz => by
   have hz1 : sz = 1 := by simpa using hz
   subst hz1
   cases x with
   | int k n =>
     cases k <;> simp only [byteL,reduceCtorEq,Option.map_eq_some_iff] at h
     obtain ⟨s',h1,rfl⟩ := h
     simp only [ElemsR,ElemR] at he
     obtain ⟨⟨_,v,hv,rfl⟩,he2⟩ := he
     obtain ⟨ns,e1,e2,e3⟩ := byteL_cells r s' (o + 1) h1 he2 (.inr rfl)
     refine ⟨n :: ns,by simp [e1],by simp [e2],fun j m hj => ?_⟩
     cases j with
     | zero => simp at hj; subst hj; exact hv
     | succ j =>
       have := e3 j m (by simpa using hj)
       rw [← this]; congr 2; omega
   | _ => simp [byteL] at h
theorem fold_push : ∀ (ns : List Int) (r : ByteArray),ns.foldl (fun r n => r.push (UInt8.ofNat n.toNat)) r = ⟨r.data ++ (ns.map fun n => UInt8.ofNat n.toNat).toArray⟩
 | [],r => by simp
 | n :: ns,r => by
   simp only [List.foldl_cons]
   rw [fold_push ns]
   simp [ByteArray.push]
theorem s_cvt (hr : RelB K β env H a w) {o : Oper} {s d e : TypeId} {x : Operand} {x' : O} (ho : o.op = .convert s d x) (hs : K.P.underlying s = some (.slice e)) (he : K.P.underlying e = some (.int .u8)) (hd : K.P.underlying d = some .string)
   (hx : co K.G x = some x') {y : AV} (hy : stillV (.cvt x') env = some y) : StepV K β H a w o y := by
 simp only [stillV] at hy
 have h := hr.ev hx
 have key : ∀ (ad : Option Addr) (n c : Nat) (t : List UInt8),a.eval x = .slice ad n c → (convert s d (.slice ad n c)).run K.P w = .ok (.string ⟨t.toArray⟩) w → StepV K β H a w o (.str t) := by
   intro ad n c t h1 h2
   exact StepV.same (v := .string ⟨t.toArray⟩) (by simp only [execOp,ho,h1,Sem.run_bind,h2,Result.andThen,Sem.run_pure]) (by simp [RV,IVR]) (by simp [AV.lbs])
 unfold cvtV at hy
 split at hy
 · rename_i xs e1
   rw [e1] at h
   simp only [RV,IVR] at h
   obtain ⟨t,ht,rfl⟩ := Option.map_eq_some_iff.1 hy
   obtain ⟨ad,c,h1,hn,hc,hcase⟩ := h
   refine key ad xs.length c t h1 ?_
   cases ad with
   | none =>
     rw [run_convert_bytes_string w s d e none _ c hs he hd]
     rcases hcase with h0 | ⟨b,o,sz,h2,_⟩
     · have : xs = [] := List.length_eq_zero_iff.1 h0
       subst this
       simp [byteL] at ht; subst ht
       simp [Conv.bytesToString]
       rfl
     · cases h2
   | some ad =>
     rw [run_convert_bytes_string w s d e (some ad) _ c hs he hd]
     have hns : ∃ ns : List Int,ns.length = xs.length ∧ ns.map (fun n => UInt8.ofNat n.toNat) = t ∧ ∀ j n,ns[j]? = some n → w.cell? (ad.add j) = some (.int .u8 n) := by
       rcases hcase with h0 | ⟨b,o,sz,h2,_,_,hsz,hel⟩
       · have : xs = [] := List.length_eq_zero_iff.1 h0
         subst this
         simp [byteL] at ht; subst ht
         exact ⟨[],rfl,rfl,by simp⟩
       · cases h2
         have hz : xs = [] ∨ sz = 1 := by
           cases xs with
           | nil => exact .inl rfl
           | cons x r =>
             right
             cases x with
             | int k n => simp only [ElemsR,ElemR] at hel; exact hel.1.1
             | _ => simp [byteL] at ht
         obtain ⟨ns,e1,e2,e3⟩ := byteL_cells xs t o ht hel hz
         refine ⟨ns,e1,e2,fun j n hj => ?_⟩
         have := e3 j n hj
         have hplain : (⟨b,o,none⟩ : Addr).add j = ⟨b,o + j,none⟩ := by unfold Addr.add; split <;> simp_all
         rw [← this,hplain]
     obtain ⟨ns,e1,e2,e3⟩ := hns
     have hl := run_loadCells_list (P := K.P) w ad (ns.map (Value.int .u8)) (fun j v hj => by
       rw [List.getElem?_map] at hj
       obtain ⟨n,hn,rfl⟩ := Option.map_eq_some_iff.1 hj
       exact e3 j n hn)
     rw [List.length_map,e1] at hl
     rw [run_bytesToString w ad xs.length c ns hl,fold_push,e2]
     simp [show ByteArray.empty.data = #[] from rfl]
 · rename_i e1
   rw [e1] at h
   simp only [RV] at h
   obtain ⟨ad,h1⟩ := h
   simp only [Option.some.injEq] at hy
   subst hy
   refine key ad 0 0 [] h1 ?_
   rw [run_convert_bytes_string w s d e ad 0 0 hs he hd]
   cases ad with
   | none => simp [Conv.bytesToString]; rfl
   | some ad =>
     have hl := run_loadCells_list (P := K.P) w ad ([].map (Value.int .u8)) (fun j v hj => by simp at hj)
     rw [run_bytesToString w ad 0 0 [] hl]
     rfl
 · simp at hy
end
end Go.Am
