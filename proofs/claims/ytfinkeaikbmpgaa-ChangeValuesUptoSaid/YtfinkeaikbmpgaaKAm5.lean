import Derived.Test.YtfinkeaikbmpgaaKAm1
set_option linter.unusedSimpArgs false
set_option linter.unusedVariables false
set_option linter.unnecessarySimpa false
set_option linter.defProp false
/- THE ABSTRACT MACHINE, part 5: cuts, comparisons, structs: the rest of the instructions that leave the rows alone. -/
namespace Go.Am
open Go Go.RowKit
section
variable {K : Kx} {β : Lb → Option Nat} {env : Env} {H : Hp} {a : Act} {w : World}
theorem bnd_run (hr : RelB K β env H a w) {lo : Option Operand} {lo' : Option O} {d m n : Nat} (hc : coOpt K.G lo = some lo') (h : bnd env lo' d m = some n) :
   (lo = none ∧ lo' = none ∧ n = d) ∨ ∃ x k v,lo = some x ∧ lo'.isSome = true ∧ a.eval x = .int k v ∧ 0 ≤ v ∧ v.toNat ≤ m ∧ n = v.toNat := by
 cases lo with
 | none =>
   simp [coOpt] at hc
   subst hc
   simp [bnd] at h
   exact .inl ⟨rfl,rfl,h.symm⟩
 | some x =>
   simp only [coOpt,Option.map_eq_some_iff] at hc
   obtain ⟨y,h1,rfl⟩ := hc
   have h2 := hr.ev h1
   simp only [bnd] at h
   split at h
   · rename_i k v e
     rw [e] at h2
     simp only [RV] at h2
     split at h
     · rename_i hv
       simp only [Option.some.injEq] at h
       exact .inr ⟨x,k,v,rfl,rfl,h2,hv.1,hv.2,h.symm⟩
     · simp at h
   · simp at h
theorem run_sliceBound {P : Program} {w : World} {k : IntKind} {v : Int} {y : Nat} (code : BoundsCode) (h0 : 0 ≤ v) (h1 : v.toNat ≤ y) : (Instr.sliceBound (.int k v) y code).run P w = .ok v.toNat w := by
 have : v ≤ (y : Int) := by omega
 simp [Instr.sliceBound,asIntOf,h0,this,Result.andThen]
theorem run_cutB (hr : RelB K β env H a w) {lo hi mx : Option Operand} {lo' hi' mx' : Option O} {n c l h : Nat} {m : Option Nat} (hlo : coOpt K.G lo = some lo') (hhi : coOpt K.G hi = some hi')
   (hmx : coOpt K.G mx = some mx') (hnc : n ≤ c) (hb : cutB env lo' hi' mx' n = some (l,h,m)) :
   (Instr.sliceBounds true n c (lo.map a.eval) (hi.map a.eval) (mx.map a.eval)).run K.P w = .ok (l,h,m.getD c) w ∧ l ≤ h ∧ h ≤ n ∧ h ≤ m.getD c ∧ m.getD c ≤ c := by
 unfold cutB at hb
 cases mx' with
 | none =>
   simp only [Option.bind_eq_some_iff,Option.map_eq_some_iff,Prod.mk.injEq] at hb
   obtain ⟨h',h1,l',h2,rfl,rfl,rfl⟩ := hb
   have hmx0 : mx = none := by cases mx with
     | none => rfl
     | some x => simp [coOpt] at hmx
   subst hmx0
   rcases bnd_run hr hhi h1 with ⟨rfl,rfl,rfl⟩ | ⟨x,k,v,rfl,_,e1,e2,e3,rfl⟩
   · rcases bnd_run hr hlo h2 with ⟨rfl,rfl,rfl⟩ | ⟨y,k,u,rfl,_,e4,e5,e6,rfl⟩
     · exact ⟨by simp [Instr.sliceBounds],by omega,by omega,by simpa using hnc,by simp⟩
     · exact ⟨by simp [Instr.sliceBounds,e4,run_sliceBound _ e5 e6],by omega,by omega,by simpa using hnc,by simp⟩
   · rcases bnd_run hr hlo h2 with ⟨rfl,rfl,rfl⟩ | ⟨y,k',u,rfl,_,e4,e5,e6,rfl⟩
     · exact ⟨by simp [Instr.sliceBounds,e1,run_sliceBound _ e2 (show v.toNat ≤ c by omega)],by omega,e3,by simp; omega,by simp⟩
     · exact ⟨by simp [Instr.sliceBounds,e1,e4,run_sliceBound _ e2 (show v.toNat ≤ c by omega),run_sliceBound _ e5 e6],e6,e3,by simp; omega,by simp⟩
 | some m0 =>
   simp only at hb
   split at hb
   · simp at hb
   · rename_i hns
     simp only [Option.bind_eq_some_iff,Option.map_eq_some_iff,Prod.mk.injEq] at hb
     obtain ⟨m',h0,h',h1,l',h2,rfl,rfl,rfl⟩ := hb
     rcases bnd_run hr hmx h0 with ⟨rfl,h9,rfl⟩ | ⟨x1,k1,v1,rfl,_,e1,e2,e3,rfl⟩
     · simp at h9
     · rcases bnd_run hr hhi h1 with ⟨rfl,rfl,rfl⟩ | ⟨x2,k2,v2,rfl,_,f1,f2,f3,rfl⟩
       · simp at hns
       · have q1 : v1.toNat ≤ c := by omega
         rcases bnd_run hr hlo h2 with ⟨rfl,rfl,rfl⟩ | ⟨x3,k3,v3,rfl,_,g1,g2,g3,rfl⟩
         · exact ⟨by simp [Instr.sliceBounds,e1,f1,run_sliceBound _ e2 q1,run_sliceBound _ f2 f3],by omega,by omega,f3,q1⟩
         · exact ⟨by simp [Instr.sliceBounds,e1,f1,g1,run_sliceBound _ e2 q1,run_sliceBound _ f2 f3,run_sliceBound _ g2 g3],g3,by omega,f3,q1⟩
theorem run_cutK (hr : RelB K β env H a w) {lo hi mx : Option Operand} {lo' hi' mx' : Option O} {n c l h : Nat} {m : Option Nat} (hlo : coOpt K.G lo = some lo') (hhi : coOpt K.G hi = some hi')
   (hmx : coOpt K.G mx = some mx') (hnc : n ≤ c) (hb : cutK env lo' hi' mx' n c = some (l,h,m)) :
   (Instr.sliceBounds true n c (lo.map a.eval) (hi.map a.eval) (mx.map a.eval)).run K.P w = .ok (l,h,m.getD c) w ∧ l ≤ h ∧ h ≤ c ∧ h ≤ m.getD c ∧ m.getD c ≤ c := by
 unfold cutK at hb
 cases mx' with
 | none =>
   simp only [Option.bind_eq_some_iff,Option.map_eq_some_iff,Prod.mk.injEq] at hb
   obtain ⟨h',h1,l',h2,rfl,rfl,rfl⟩ := hb
   have hmx0 : mx = none := by cases mx with
     | none => rfl
     | some x => simp [coOpt] at hmx
   subst hmx0
   rcases bnd_run hr hhi h1 with ⟨rfl,rfl,rfl⟩ | ⟨x,k,v,rfl,_,e1,e2,e3,rfl⟩
   · rcases bnd_run hr hlo h2 with ⟨rfl,rfl,rfl⟩ | ⟨y,k,u,rfl,_,e4,e5,e6,rfl⟩
     · exact ⟨by simp [Instr.sliceBounds],by omega,by omega,by simpa using hnc,by simp⟩
     · exact ⟨by simp [Instr.sliceBounds,e4,run_sliceBound _ e5 e6],by omega,by omega,by simpa using hnc,by simp⟩
   · rcases bnd_run hr hlo h2 with ⟨rfl,rfl,rfl⟩ | ⟨y,k',u,rfl,_,e4,e5,e6,rfl⟩
     · exact ⟨by simp [Instr.sliceBounds,e1,run_sliceBound _ e2 (show v.toNat ≤ c by omega)],by omega,e3,by simp; omega,by simp⟩
     · exact ⟨by simp [Instr.sliceBounds,e1,e4,run_sliceBound _ e2 (show v.toNat ≤ c by omega),run_sliceBound _ e5 e6],e6,e3,by simp; omega,by simp⟩
 | some m0 =>
   simp only at hb
   split at hb
   · simp at hb
   · rename_i hns
     simp only [Option.bind_eq_some_iff,Option.map_eq_some_iff,Prod.mk.injEq] at hb
     obtain ⟨m',h0,h',h1,l',h2,rfl,rfl,rfl⟩ := hb
     rcases bnd_run hr hmx h0 with ⟨rfl,h9,rfl⟩ | ⟨x1,k1,v1,rfl,_,e1,e2,e3,rfl⟩
     · simp at h9
     · rcases bnd_run hr hhi h1 with ⟨rfl,rfl,rfl⟩ | ⟨x2,k2,v2,rfl,_,f1,f2,f3,rfl⟩
       · simp at hns
       · have q1 : v1.toNat ≤ c := by omega
         rcases bnd_run hr hlo h2 with ⟨rfl,rfl,rfl⟩ | ⟨x3,k3,v3,rfl,_,g1,g2,g3,rfl⟩
         · exact ⟨by simp [Instr.sliceBounds,e1,f1,run_sliceBound _ e2 q1,run_sliceBound _ f2 f3],by omega,by omega,f3,q1⟩
         · exact ⟨by simp [Instr.sliceBounds,e1,f1,g1,run_sliceBound _ e2 q1,run_sliceBound _ f2 f3,run_sliceBound _ g2 g3],g3,by omega,f3,q1⟩
theorem ElemsR_take {w : World} {I : Nat → Prop} {sz : Nat} : ∀ (n : Nat) (xs : List IV) (b o : Nat),ElemsR w I xs b o sz → ElemsR w I (xs.take n) b o sz
 | 0,_,_,_,_ => by simp [ElemsR]
 | n + 1,[],_,_,_ => by simp [ElemsR]
 | n + 1,x :: r,b,o,h => by
   simp only [ElemsR] at h
   simp only [List.take_succ_cons,ElemsR]
   exact ⟨h.1,ElemsR_take n r b (o + sz) h.2⟩
theorem ElemsR_drop {w : World} {I : Nat → Prop} {sz : Nat} : ∀ (n : Nat) (xs : List IV) (b o : Nat),ElemsR w I xs b o sz → ElemsR w I (xs.drop n) b (o + n * sz) sz
 | 0,_,_,_,h => by simpa using h
 | n + 1,[],_,_,_ => by simp [ElemsR]
 | n + 1,x :: r,b,o,h => by
   simp only [ElemsR] at h
   simp only [List.drop_succ_cons]
   have := ElemsR_drop n r b (o + sz) h.2
   rwa [show o + sz + n * sz = o + (n + 1) * sz by rw [Nat.add_mul]; omega] at this
theorem ElemsR_sz {w : World} {I : Nat → Prop} {sz s : Nat} {xs : List IV} {b o : Nat} (h : ElemsR w I xs b o sz) (hs : Elsz s xs) (hn : 0 < xs.length) : sz = s := by
 cases xs with
 | nil => simp at hn
 | cons x r =>
   simp only [ElemsR] at h
   have := (ElemR_iff w I x b o sz).1 h.1
   rw [this.1]; exact hs x (by simp)
theorem SlV_cut {xs : List IV} {I : Nat → Prop} {ad : Option Addr} {c s l h m : Nat} (hel : Elsz s xs) (hl : l ≤ h) (hh : h ≤ xs.length) (hm : h ≤ m) (hmc : m ≤ c) (hc : c ≤ maxLen)
   (hx : xs.length = 0 ∨ ∃ b o sz,ad = some ⟨b,o,none⟩ ∧ I b ∧ b < w.heap.size ∧ 0 < sz ∧ ElemsR w I xs b o sz) :
   IVR w I (.list ((xs.take h).drop l)) (.slice (if m = l then ad else ad.map (·.add (l * s))) (h - l) (m - l)) := by
 simp only [IVR]
 have hlen : ((xs.take h).drop l).length = h - l := by simp; omega
 refine ⟨_,m - l,by rw [hlen],by omega,by omega,?_⟩
 rw [hlen]
 by_cases e : h - l = 0
 · exact .inl e
 · right
   rcases hx with hx | ⟨b,o,sz,rfl,e1,e2,e3,e4⟩
   · omega
   · have hsz : sz = s := ElemsR_sz e4 hel (by omega)
     subst hsz
     refine ⟨b,o + l * sz,sz,?_,e1,e2,e3,ElemsR_drop _ _ _ _ (ElemsR_take _ _ _ _ e4)⟩
     rw [if_neg (by omega)]
     simp [addr_add]
theorem s_slc (hr : RelB K β env H a w) {o : Oper} {t e : TypeId} {x : Operand} {lo hi mx : Option Operand} {s : Nat} {x' : O} {lo' hi' mx' : Option O} (ho : o.op = .slice t x lo hi mx)
   (ht : K.P.underlying t = some (.slice e)) (hs : tsz K.P e = some s) (hx : co K.G x = some x') (hlo : coOpt K.G lo = some lo') (hhi : coOpt K.G hi = some hi') (hmx : coOpt K.G mx = some mx') {y : AV}
   (hy : stillV (.slc x' lo' hi' mx' s) env = some y) : StepV K β H a w o y := by
 have hv := hr.ev hx
 have hm := hr.ev_ment hx
 have run : ∀ (ad : Option Addr) (n c l h m : Nat),a.eval x = .slice ad n c → (Instr.sliceBounds true n c (lo.map a.eval) (hi.map a.eval) (mx.map a.eval)).run K.P w = .ok (l,h,m) w →
     (execOp a.eval o).run K.P w = .ok (.value (.slice (if m = l then ad else ad.map (·.add (l * s))) (h - l) (m - l))) w := by
   intro ad n c l h m e1 e2
   simp [execOp,ho,Instr.sliceAt,run_underlying ht,Instr.slice,e1,e2,run_sizeOf' hs,Result.andThen]
 simp only [stillV,slcV] at hy
 split at hy
 · rename_i e1
   rw [e1] at hv
   simp only [RV] at hv
   obtain ⟨ad,hv⟩ := hv
   simp only [Option.map_eq_some_iff] at hy
   obtain ⟨⟨l,h,m⟩,h1,rfl⟩ := hy
   obtain ⟨r1,r2,r3,r4,r5⟩ := run_cutB hr hlo hhi hmx (Nat.le_refl 0) h1
   refine StepV.same (run ad 0 0 l h _ hv r1) ?_ (by simp [AV.lbs])
   have z1 : h - l = 0 := by omega
   have z2 : m.getD 0 - l = 0 := by omega
   rw [z1,z2]
   exact ⟨_,rfl⟩
 · rename_i xs e1
   rw [e1] at hv
   simp only [RV,IVR] at hv
   split at hy
   · rename_i hel
     obtain ⟨ad,c,h3,h4,h5,h6⟩ := hv
     simp only [Option.map_eq_some_iff] at hy
     obtain ⟨⟨l,h,m⟩,h1,rfl⟩ := hy
     obtain ⟨r1,r2,r3,r4,r5⟩ := run_cutB hr hlo hhi hmx h4 h1
     refine StepV.same (run ad _ c l h _ h3 r1) ?_ (by split <;> simp [AV.lbs])
     split
     · rename_i hm'
       simp only at hm'
       subst hm'
       simp only [Option.getD_some] at r4 ⊢
       have z1 : h - l = 0 := by omega
       rw [z1]
       simp only [Nat.sub_self,if_true]
       exact ⟨_,rfl⟩
     · simp only [RV]
       exact SlV_cut hel r2 r3 r4 r5 h5 h6
   · simp at hy
 · rename_i lb s' i n e1
   rw [e1] at hv hm
   simp only [RV] at hv
   split at hy
   · rename_i hs'
     subst hs'
     obtain ⟨ad,c,h3,h4,h5,h6,h7⟩ := hv
     simp only [Option.bind_eq_some_iff] at hy
     obtain ⟨⟨l,h,m⟩,h1,h2⟩ := hy
     obtain ⟨r1,r2,r3,r4,r5⟩ := run_cutB hr hlo hhi hmx h4 h1
     cases m with
     | some m => simp at h2
     | none =>
       simp only [Option.isSome_none,Bool.false_eq_true,if_false,Option.some.injEq] at h2
       subst h2
       simp only [Option.getD_none] at r1 r4 r5
       refine StepV.same (run ad _ c l h _ h3 r1) ?_ (by simpa [AV.lbs] using hm)
       refine ⟨_,_,rfl,by omega,by omega,fun hn => ?_,fun hl => ?_⟩
       · obtain ⟨q,rfl⟩ := Option.isSome_iff_exists.1 (h6 (by omega))
         split <;> simp
       · by_cases hc : c = l
         · exact .inl (by omega)
         · right
           rcases h7 hl with h8 | ⟨g,S,k1,k2,k3,k4⟩
           · omega
           · subst k2
             refine ⟨g,S,k1,?_,k3,?_⟩
             · rw [if_neg hc]; simp [addr_add,Nat.add_mul]
             · rw [← k4]; congr 1; omega
   · simp at hy
 · rename_i lb s' i n c0 e1
   rw [e1] at hv hm
   simp only [RV] at hv
   split at hy
   · rename_i hs'
     subst hs'
     obtain ⟨ad,h3,h4,h5,h6,h7⟩ := hv
     simp only [Option.bind_eq_some_iff] at hy
     obtain ⟨⟨l,h,m⟩,h1,h2⟩ := hy
     obtain ⟨r1,r2,r3,r4,r5⟩ := run_cutK hr hlo hhi hmx h4 h1
     cases m with
     | some m =>
       simp only [Option.isSome_some,if_true,Option.some.injEq] at h2
       subst h2
       exact StepV.same (run ad _ c0 l h _ h3 r1) (by simp [RV]) (by simp [AV.lbs])
     | none =>
       simp only [Option.isSome_none,Bool.false_eq_true,if_false,Option.some.injEq] at h2
       subst h2
       simp only [Option.getD_none] at r1 r4 r5
       refine StepV.same (run ad _ c0 l h _ h3 r1) ?_ (by simpa [AV.lbs] using hm)
       refine ⟨_,rfl,by omega,by omega,fun hn => ?_,fun hl => ?_⟩
       · obtain ⟨q,rfl⟩ := Option.isSome_iff_exists.1 (h6 (by omega))
         split <;> simp
       · by_cases hc : c0 = l
         · exact .inl (by omega)
         · right
           rcases h7 hl with h8 | ⟨g,S,k1,k2,k3,k4⟩
           · omega
           · subst k2
             refine ⟨g,S,k1,?_,k3,?_⟩
             · rw [if_neg hc]; simp [addr_add,Nat.add_mul]
             · rw [← k4]; congr 1; omega
   · simp at hy
 · simp at hy
theorem s_slcs (hr : RelB K β env H a w) {o : Oper} {t : TypeId} {x : Operand} {lo hi : Option Operand} {x' : O} {lo' hi' : Option O} (ho : o.op = .slice t x lo hi none)
   (ht : K.P.underlying t = some .string) (hx : co K.G x = some x') (hlo : coOpt K.G lo = some lo') (hhi : coOpt K.G hi = some hi') {y : AV}
   (hy : stillV (.slcs x' lo' hi') env = some y) : StepV K β H a w o y := by
 have hv := hr.ev hx
 simp only [stillV] at hy
 split at hy
 · rename_i s e1
   rw [e1] at hv
   simp only [RV] at hv
   simp only [Option.bind_eq_some_iff,Option.map_eq_some_iff] at hy
   obtain ⟨h,h1,l,h2,rfl⟩ := hy
   have hb : cutB env lo' hi' none s.length = some (l,h,none) := by simp [cutB,h1,h2]
   have hcut : ∀ isS,(Instr.sliceBounds isS s.length s.length (lo.map a.eval) (hi.map a.eval) none).run K.P w = .ok (l,h,s.length) w := by
     intro isS
     rcases bnd_run hr hhi h1 with ⟨rfl,rfl,rfl⟩ | ⟨x,k,v,rfl,_,e1,e2,e3,rfl⟩
     · rcases bnd_run hr hlo h2 with ⟨rfl,rfl,rfl⟩ | ⟨y,k,u,rfl,_,e4,e5,e6,rfl⟩
       · simp [Instr.sliceBounds]
       · simp [Instr.sliceBounds,e4,run_sliceBound _ e5 e6]
     · rcases bnd_run hr hlo h2 with ⟨rfl,rfl,rfl⟩ | ⟨y,k',u,rfl,_,e4,e5,e6,rfl⟩
       · simp [Instr.sliceBounds,e1,run_sliceBound _ e2 e3]
       · simp [Instr.sliceBounds,e1,e4,run_sliceBound _ e2 e3,run_sliceBound _ e5 e6]
   obtain ⟨_,r2,r3,_,_⟩ := run_cutB hr hlo hhi (mx := none) (mx' := none) (by simp [coOpt]) (Nat.le_refl _) hb
   refine StepV.same (v := .string ((⟨s.toArray⟩ : ByteArray).extract l h)) ?_ ?_ (by simp [AV.lbs])
   · simp [execOp,ho,Instr.sliceAt,run_underlying ht,Instr.slice,hv,size_str,hcut,Result.andThen]
   · simp only [RV]
     congr 1
     apply ByteArray.ext
     show ((⟨s.toArray⟩ : ByteArray).extract l h).data = ((s.take h).drop l).toArray
     rw [ByteArray.data_extract]
     simp only [List.extract_toArray]
     congr 1
     simp [List.extract,List.drop_take]
 · simp at hy
end
end Go.Am

/- THE ABSTRACT MACHINE, part 6: comparisons, structs and new memory that nobody writes. -/
namespace Go.Am
open Go Go.RowKit
section
variable {w : World} {β : Lb → Option Nat} {H : Hp} {I : Nat → Prop}
theorem RVs.len : ∀ (cs : List AV) (vs : List Value),RVs w β H I cs vs → vs.length = cs.length
 | [],vs,h => by simp [RVs] at h; simp [h]
 | x :: r,vs,h => by
   simp only [RVs] at h
   obtain ⟨v,us,rfl,_,h2⟩ := h
   simp [RVs.len r us h2]
theorem RVs.get : ∀ (cs : List AV) (vs : List Value) (i : Nat) (x : AV),RVs w β H I cs vs → cs[i]? = some x → ∃ v,vs[i]? = some v ∧ RV w β H I x v
 | [],vs,i,x,h,hx => by simp at hx
 | y :: r,vs,0,x,h,hx => by
   simp only [RVs] at h
   obtain ⟨v,us,rfl,h1,h2⟩ := h
   simp at hx; subst hx
   exact ⟨v,by simp,h1⟩
 | y :: r,vs,i + 1,x,h,hx => by
   simp only [RVs] at h
   obtain ⟨v,us,rfl,h1,h2⟩ := h
   obtain ⟨u,k1,k2⟩ := RVs.get r us i x h2 (by simpa using hx)
   exact ⟨u,by simpa using k1,k2⟩
theorem RVs.drop : ∀ (n : Nat) (cs : List AV) (vs : List Value),RVs w β H I cs vs → RVs w β H I (cs.drop n) (vs.drop n)
 | 0,_,_,h => by simpa using h
 | n + 1,[],vs,h => by simp [RVs] at h; simp [h,RVs]
 | n + 1,x :: r,vs,h => by
   simp only [RVs] at h
   obtain ⟨v,us,rfl,h1,h2⟩ := h
   simpa using RVs.drop n r us h2
theorem RVs.take : ∀ (n : Nat) (cs : List AV) (vs : List Value),RVs w β H I cs vs → RVs w β H I (cs.take n) (vs.take n)
 | 0,_,_,_ => by simp [RVs]
 | n + 1,[],vs,h => by simp [RVs] at h; simp [h,RVs]
 | n + 1,x :: r,vs,h => by
   simp only [RVs] at h
   obtain ⟨v,us,rfl,h1,h2⟩ := h
   simp only [List.take_succ_cons,RVs]
   exact ⟨v,us.take n,rfl,h1,RVs.take n r us h2⟩
theorem RVs.append : ∀ (cs : List AV) (vs : List Value) (ds : List AV) (us : List Value),RVs w β H I cs vs → RVs w β H I ds us → RVs w β H I (cs ++ ds) (vs ++ us)
 | [],vs,ds,us,h,h2 => by simp [RVs] at h; subst h; simpa using h2
 | x :: r,vs,ds,us,h,h2 => by
   simp only [RVs] at h
   obtain ⟨v,vs',rfl,h1,h3⟩ := h
   simp only [List.cons_append,RVs]
   exact ⟨v,vs' ++ us,rfl,h1,RVs.append r vs' ds us h3 h2⟩
theorem RVs.map_av1 : ∀ (cs : List IV) (b o : Nat),CellsR w I cs b o → ∃ vs : List Value,RVs w β H I (cs.map IV.av1) vs ∧ vs.length = cs.length ∧ ∀ j v,vs[j]? = some v → w.cell? ⟨b,o + j,none⟩ = some v
 | [],b,o,h => ⟨[],by simp [RVs],rfl,by simp⟩
 | x :: r,b,o,h => by
   simp only [CellsR] at h
   obtain ⟨⟨v,h1,h2⟩,h3⟩ := h
   obtain ⟨vs,k1,k2,k3⟩ := RVs.map_av1 r b (o + 1) h3
   refine ⟨v :: vs,?_,by simp [k2],?_⟩
   · simp only [List.map_cons,RVs]
     refine ⟨v,vs,rfl,?_,k1⟩
     cases x <;> simp [IVR] at h2 <;> simp [IV.av1,RV,h2]
     simpa [IVR] using h2
   · intro j u hj
     cases j with
     | zero => simp at hj; subst hj; exact h1
     | succ j =>
       have := k3 j u (by simpa using hj)
       rwa [show o + 1 + j = o + (j + 1) by omega] at this
theorem RV.iv : ∀ {x : AV} {y : IV} {v : Value},x.iv = some y → RV w β H I x v → IVR w I y v := by
 intro x y v h hv
 cases x <;> simp [AV.iv] at h <;> subst h <;> simp only [RV] at hv <;> simp only [IVR]
 case nil0 =>
   obtain ⟨a,rfl⟩ := hv
   exact ⟨a,0,rfl,by simp,by simp [maxLen],.inl (by simp)⟩
 all_goals first | exact hv | simpa [IVR] using hv
theorem iv_cells {x : AV} {y : IV} (h : x.iv = some y) : y.cells = [y] := by
 cases x <;> simp [AV.iv] at h <;> subst h <;> rfl
theorem CellsR_of_RVs : ∀ (cs : List AV) (ys : List IV) (vs : List Value) (b o : Nat),ivs cs = some ys → RVs w β H I cs vs → (∀ j v,vs[j]? = some v → w.cell? ⟨b,o + j,none⟩ = some v) → CellsR w I ys b o
 | [],ys,vs,b,o,h,_,_ => by simp [ivs] at h; subst h; simp [CellsR]
 | x :: r,ys,vs,b,o,h,hv,hc => by
   simp only [ivs,Option.bind_eq_some_iff,Option.map_eq_some_iff] at h
   obtain ⟨y,h1,s,h2,rfl⟩ := h
   simp only [RVs] at hv
   obtain ⟨v,us,rfl,k1,k2⟩ := hv
   simp only [CellsR]
   refine ⟨⟨v,by simpa using hc 0 v (by simp),RV.iv h1 k1⟩,CellsR_of_RVs r s us b (o + 1) h2 k2 (fun j u hj => ?_)⟩
   have := hc (j + 1) u (by simpa using hj)
   rwa [show o + (j + 1) = o + 1 + j by omega] at this
theorem ivs_len : ∀ (cs : List AV) (ys : List IV),ivs cs = some ys → ys.length = cs.length
 | [],ys,h => by simp [ivs] at h; subst h; rfl
 | x :: r,ys,h => by
   simp only [ivs,Option.bind_eq_some_iff,Option.map_eq_some_iff] at h
   obtain ⟨y,h1,s,h2,rfl⟩ := h
   simp [ivs_len r s h2]
theorem RV.cells {x : AV} {v : Value} (h : RV w β H I x v) (hx : ∀ cs,x = .agg cs → True) (ha : (∃ cs,x = .agg cs) ∨ v.oneCell' = true) : RVs w β H I x.cells v.cells.toList := by
 cases x
 case agg cs =>
   simp only [RV] at h
   obtain ⟨vs,rfl,h1⟩ := h
   simpa [AV.cells,Value.cells] using h1
 all_goals
   rcases ha with ⟨cs,hc⟩ | ha
   · cases hc
   · have : v.cells = #[v] := by cases v <;> simp_all [Value.cells,Value.oneCell']
     simp only [AV.cells,RVs,this]
     exact ⟨v,[],by simp,h,rfl⟩
theorem RV.oneCell {x : AV} {v : Value} (h : RV w β H I x v) (hx : x.one = true) : v.oneCell' = true := by
 cases x <;> simp [AV.one] at hx <;> simp only [RV,IVR] at h
 case list => obtain ⟨a,c,rfl,_⟩ := h; rfl
 case nil0 => obtain ⟨a,rfl⟩ := h; rfl
 case sl => obtain ⟨a,c,rfl,_⟩ := h; rfl
 case slk => obtain ⟨a,rfl,_⟩ := h; rfl
 case ptr => obtain ⟨a,rfl,_⟩ := h; rfl
 case lptr => obtain ⟨b,o,rfl,_⟩ := h; rfl
 case fn => obtain ⟨vs,us,rfl,_⟩ := h; rfl
 case ifc => obtain ⟨u,rfl,_⟩ := h; rfl
 all_goals (subst h; rfl)
end
section
variable {K : Kx} {β : Lb → Option Nat} {env : Env} {H : Hp} {a : Act} {w : World}
theorem s_not (hr : RelB K β env H a w) {o : Oper} {t : TypeId} {x : Operand} {x' : O} (ho : o.op = .unOp .not t x) (hx : co K.G x = some x') {y : AV}
   (hy : stillV (.not x') env = some y) : StepV K β H a w o y := by
 have h := hr.ev hx
 simp only [stillV] at hy
 split at hy
 · rename_i b e
   rw [e] at h
   simp only [RV,Option.some.injEq] at h hy
   subst hy
   exact StepV.same (v := .bool !b) (by simp [execOp,ho,h,Op.unary]) (by simp [RV]) (by simp [AV.lbs])
 · simp at hy
theorem s_neg (hr : RelB K β env H a w) {o : Oper} {t : TypeId} {x : Operand} {x' : O} (ho : o.op = .unOp .neg t x) (hx : co K.G x = some x') {y : AV}
   (hy : stillV (.neg x') env = some y) : StepV K β H a w o y := by
 have h := hr.ev hx
 simp only [stillV] at hy
 split at hy
 · rename_i k n e
   rw [e] at h
   simp only [RV,Option.some.injEq] at h hy
   subst hy
   exact StepV.same (v := .int k (k.wrap (0 - n))) (by simp [execOp,ho,h,Op.unary,Op.intArith]) (by simp [RV]) (by simp [AV.lbs])
 · simp at hy
theorem s_max (hr : RelB K β env H a w) {o : Oper} {c : Call} {x y : Operand} {x' y' : O} (ho : o.op = .call c) (hc : c.callee = .builtin .max) (ha : c.args.toList = [x,y])
   (hx : co K.G x = some x') (hy : co K.G y = some y') {z : AV} (hz : stillV (.max x' y') env = some z) : StepV K β H a w o z := by
 have h := hr.ev hx
 have h2 := hr.ev hy
 have ha' : c.args = #[x,y] := by cases hh : c.args; simp_all
 simp only [stillV] at hz
 split at hz
 · rename_i k m k' n e1 e2
   rw [e1] at h; rw [e2] at h2
   simp only [RV] at h h2
   split at hz
   · simp only [Option.some.injEq] at hz; subst hz
     refine StepV.same (v := .int k (if n > m then n else m)) ?_ (by simp [RV]) (by simp [AV.lbs])
     simp [execOp,ho,resolve,hc,ha',h,h2,invoke,builtin,Builtin.max_,Builtin.max2,List.foldlM]
   · simp at hz
 · simp at hz
theorem s_min (hr : RelB K β env H a w) {o : Oper} {c : Call} {x y : Operand} {x' y' : O} (ho : o.op = .call c) (hc : c.callee = .builtin .min) (ha : c.args.toList = [x,y])
   (hx : co K.G x = some x') (hy : co K.G y = some y') {z : AV} (hz : stillV (.min x' y') env = some z) : StepV K β H a w o z := by
 have h := hr.ev hx
 have h2 := hr.ev hy
 have ha' : c.args = #[x,y] := by cases hh : c.args; simp_all
 simp only [stillV] at hz
 split at hz
 · rename_i k m k' n e1 e2
   rw [e1] at h; rw [e2] at h2
   simp only [RV] at h h2
   split at hz
   · simp only [Option.some.injEq] at hz; subst hz
     refine StepV.same (v := .int k (if n < m then n else m)) ?_ (by simp [RV]) (by simp [AV.lbs])
     simp [execOp,ho,resolve,hc,ha',h,h2,invoke,builtin,Builtin.min_,Builtin.min2,List.foldlM]
   · simp at hz
 · simp at hz
theorem lbss_get : ∀ (cs : List AV) (i : Nat) (x : AV),cs[i]? = some x → ∀ l ∈ x.lbs,l ∈ lbss cs
 | [],i,x,h => by simp at h
 | y :: r,0,x,h => by simp at h; subst h; intro l hl; simp [lbss,hl]
 | y :: r,i + 1,x,h => by
   intro l hl
   have := lbss_get r i x (by simpa using h) l hl
   simp [lbss,this]
theorem s_ext (hr : RelB K β env H a w) {o : Oper} {x : Operand} {i : Nat} {x' : O} (ho : o.op = .extract x i) (hx : co K.G x = some x') {y : AV}
   (hy : stillV (.ext x' i) env = some y) : StepV K β H a w o y := by
 have h := hr.ev hx
 have hm := hr.ev_ment hx
 simp only [stillV] at hy
 split at hy
 · rename_i cs e
   rw [e] at h hm
   simp only [RV] at h
   obtain ⟨vs,h1,h2⟩ := h
   obtain ⟨v,k1,k2⟩ := RVs.get _ _ _ _ h2 hy
   refine StepV.same (v := v) ?_ k2 (fun l hl => hm l (by simpa [AV.lbs] using lbss_get _ _ _ hy l hl))
   simp [execOp,ho,h1,Instr.extract,k1]
 · simp at hy
theorem s_nchk (hr : RelB K β env H a w) {o : Oper} {x : Operand} {x' : O} (ho : o.op = .nilCheck x) (hx : co K.G x = some x') {y : AV}
   (hy : stillV (.nchk x') env = some y) : StepV K β H a w o y := by
 have h := hr.ev hx
 have hm := hr.ev_ment hx
 simp only [stillV] at hy
 split at hy
 · rename_i l sz i j e
   simp only [Option.some.injEq] at hy; subst hy
   rw [e] at h hm
   have h' := h
   simp only [RV] at h
   obtain ⟨ad,h1,h2⟩ := h
   exact StepV.same (v := a.eval x) (by simp [execOp,ho,h1]) h' hm
 · rename_i cs e
   simp only [Option.some.injEq] at hy; subst hy
   rw [e] at h hm
   have h' := h
   simp only [RV] at h
   obtain ⟨b,o',h1,h2⟩ := h
   exact StepV.same (v := a.eval x) (by simp [execOp,ho,h1]) h' hm
 · rename_i f p q e
   simp only [Option.some.injEq] at hy; subst hy
   rw [e] at h hm
   have h' := h
   simp only [RV] at h
   obtain ⟨vs,us,h1,h2⟩ := h
   exact StepV.same (v := a.eval x) (by simp [execOp,ho,h1]) h' hm
 · simp at hy
theorem cos_rv (hr : RelB K β env H a w) : ∀ (xs : List Operand) (ys : List O),cos K.G xs = some ys → RVs w β H (Im K β H) (ys.map (ev env)) (xs.map a.eval)
 | [],ys,h => by simp [cos] at h; subst h; simp [RVs]
 | x :: r,ys,h => by
   simp only [cos,Option.bind_eq_some_iff,Option.map_eq_some_iff] at h
   obtain ⟨y,h1,s,h2,rfl⟩ := h
   simp only [List.map_cons,RVs]
   exact ⟨_,_,rfl,hr.ev h1,cos_rv hr r s h2⟩
theorem cos_ment (hr : RelB K β env H a w) : ∀ (xs : List Operand) (ys : List O),cos K.G xs = some ys → ∀ l ∈ lbss (ys.map (ev env)),H l ≠ .unused
 | [],ys,h => by simp [cos] at h; subst h; simp [lbss]
 | x :: r,ys,h => by
   simp only [cos,Option.bind_eq_some_iff,Option.map_eq_some_iff] at h
   obtain ⟨y,h1,s,h2,rfl⟩ := h
   intro l hl
   simp only [List.map_cons,lbss,List.mem_append] at hl
   exact hl.elim (hr.ev_ment h1 l) (cos_ment hr r s h2 l)
theorem s_mkf (hr : RelB K β env H a w) {o : Oper} {f : Nat} {first cap : Array Operand} {cs : List O} (ho : o.op = .makeFunc (.func f) first cap) (hf : first.isEmpty = true)
   (hc : cos K.G cap.toList = some cs) {y : AV} (hy : stillV (.mkf f cs) env = some y) : StepV K β H a w o y := by
 simp only [stillV,Option.some.injEq] at hy; subst hy
 have hf' : first = #[] := by simpa using hf
 refine StepV.same (v := .func (.func f) #[] (cap.toList.map a.eval).toArray) ?_ ?_ ?_
 · simp [execOp,ho,Instr.makeFunc,hf']
   cases cap
   simp
 · simp only [RV,RVs]
   exact ⟨[],_,by simp,rfl,cos_rv hr _ _ hc⟩
 · simpa [AV.lbs,lbss] using cos_ment hr _ _ hc
theorem s_mkm (hr : RelB K β env H a w) {o : Oper} {f : Nat} {first cap : Array Operand} {qs cs : List O} (ho : o.op = .makeFunc (.func f) first cap) (hq : cos K.G first.toList = some qs)
   (hc : cos K.G cap.toList = some cs) {y : AV} (hy : stillV (.mkm f qs cs) env = some y) : StepV K β H a w o y := by
 simp only [stillV,Option.some.injEq] at hy; subst hy
 refine StepV.same (v := .func (.func f) (first.toList.map a.eval).toArray (cap.toList.map a.eval).toArray) ?_ ?_ ?_
 · simp [execOp,ho,Instr.makeFunc]
   cases cap
   cases first
   simp
 · simp only [RV]
   exact ⟨_,_,rfl,cos_rv hr _ _ hq,cos_rv hr _ _ hc⟩
 · intro l hl
   simp only [AV.lbs,List.mem_append] at hl
   rcases hl with hl | hl
   · exact cos_ment hr _ _ hq l hl
   · exact cos_ment hr _ _ hc l hl
theorem s_cvi (hr : RelB K β env H a w) {o : Oper} {s d : TypeId} {x : Operand} {x' : O} {k k' : IntKind} (ho : o.op = .convert s d x) (hs : K.P.underlying s = some (.int k')) (hd : K.P.underlying d = some (.int k))
   (hx : co K.G x = some x') {y : AV} (hy : stillV (.cvi k x') env = some y) : StepV K β H a w o y := by
 have h := hr.ev hx
 simp only [stillV] at hy
 split at hy
 · rename_i j n e
   rw [e] at h
   simp only [RV,Option.some.injEq] at h hy
   subst hy
   exact StepV.same (v := .int k (k.wrap n)) (by simp [execOp,ho,h,convert,run_underlying hs,run_underlying hd,Conv.intToInt]) (by simp [RV]) (by simp [AV.lbs])
 · simp at hy
theorem s_cvs (hr : RelB K β env H a w) {o : Oper} {s d : TypeId} {x : Operand} {x' : O} (ho : o.op = .convert s d x) (hs : K.P.underlying s = some .string) (hd : K.P.underlying d = some .string)
   (hx : co K.G x = some x') {y : AV} (hy : stillV (.cvs x') env = some y) : StepV K β H a w o y := by
 have h := hr.ev hx
 simp only [stillV] at hy
 split at hy
 · rename_i t e
   rw [e] at h
   simp only [RV,Option.some.injEq] at h hy
   subst hy
   exact StepV.same (v := a.eval x) (by simp [execOp,ho,h,convert,run_underlying hs,run_underlying hd]) (by simpa [RV] using h) (by simp [AV.lbs])
 · simp at hy
theorem s_mkif (hr : RelB K β env H a w) {o : Oper} {t : TypeId} {x : Operand} {x' : O} {d : TypeDesc} (ho : o.op = .makeInterface t x) (ht : K.P.underlying t = some d) (hd : ∀ ms,d ≠ .interface ms)
   (hx : co K.G x = some x') {y : AV} (hy : stillV (.mkif t x') env = some y) : StepV K β H a w o y := by
 have h := hr.ev hx
 simp only [stillV,Option.some.injEq] at hy; subst hy
 refine StepV.same (v := .iface t (a.eval x)) ?_ ⟨_,rfl,h⟩ (by simpa [AV.lbs] using hr.ev_ment hx)
 cases d <;> simp [execOp,ho,Instr.makeInterface,run_underlying ht]
 exact absurd rfl (hd _)
end
end Go.Am
