import Derived.Test.YtfinkeaikbmpgaaKAm7
import Derived.Test.YtfinkeaikbmpgaaAm12
set_option linter.unusedSimpArgs false
set_option linter.unusedVariables false
set_option linter.unnecessarySimpa false
set_option linter.defProp false
/- THE ABSTRACT MACHINE, part 13: a region's operations do what the instructions say. -/
namespace Go.Am
open Go Go.RowKit
section
variable {K : Kx} {β : Lb → Option Nat} {env : Env} {H : Hp} {a : Act} {w : World}
def After (K : Kx) (env : Env) (d : Option Nat) (k : AV → Hp → Prop) (a' : Act) (w' : World) : Prop := ∃ x H',k x H' ∧ ∃ β',RelB K β' (putO env d x) H' a' w'
theorem wp_of_stepV (hr : RelB K β env H a w) {o : Oper} (hd : ∀ n,o.dst = some n → n < K.N) {x : AV} {k : AV → Hp → Prop} {Q : Exit → Act → World → Prop} (h : StepV K β H a w o x) (hk : k x H) :
   o.wp K.P a w (After K env o.dst k) Q := by
 obtain ⟨v,w',h1,h2,h3,h4⟩ := h
 unfold Oper.wp
 rw [h1]
 exact ⟨x,H,hk,β,hr.step h2 hd (fun _ => h3) (fun _ => h4)⟩
theorem wp_of_stepR {o : Oper} {x : AV} {H' : Hp} {k : AV → Hp → Prop} {Q : Exit → Act → World → Prop} (h : StepR K env a w o o.dst x H') (hk : k x H') :
   o.wp K.P a w (After K env o.dst k) Q := by
 obtain ⟨nx,w',β',v,h1,h2,h3⟩ := h
 unfold Oper.wp
 rw [h1]
 rcases h2 with rfl | ⟨rfl,rfl⟩
 · exact ⟨x,H',hk,β',h3⟩
 · exact ⟨x,H',hk,β',h3⟩
theorem wp_call (hr : RelB K β env H a w) {o : Oper} (hd : ∀ n,o.dst = some n → n < K.N) {f : Nat} {args : List AV} {vs : List Value} {k : AV → Hp → Prop} {Q : Exit → Act → World → Prop}
   (hrun : (execOp a.eval o).run K.P w = .ok (.enter f vs.toArray) w) (hv : RVs w β H (Im K β H) args vs) (hc : CallT ⟨K.P,K.G,K.N⟩ f args H k) : o.wp K.P a w (After K env o.dst k) Q := by
 unfold Oper.wp
 rw [hrun]
 rcases hc with ⟨res,hp,hk⟩ | ⟨cargs,res,ha,hp,hres,hk⟩ | ⟨ρ,Hin,cargs,Q',h1,rfl,h3,h4,h5,h6,h6',h7,h8⟩
 · refine (call_pure hr hp hv trivial).mono ?_
   rintro e w' ⟨v,rfl,gw,hx⟩
   exact ⟨res,H,hk,β,hr.step gw hd (fun _ => hx) (fun _ l hl => by rw [hp.2.1] at hl; simp at hl)⟩
 · refine (call_lend hr ha hp hres hv).mono ?_
   rintro e w' ⟨v,rfl,gw,hx⟩
   exact ⟨res,H,hk,β,hr.step gw hd (fun _ => hx) (fun _ l hl => by rw [hp.2.1] at hl; simp at hl)⟩
 · refine (call_rows hr h1 h3 h4 h5 h6 h6' h7 hv).mono ?_
   rintro e w' ⟨v,x,H',rfl,hq,hall⟩
   obtain ⟨ρ',H'',p1,p2,p3,p4,p5,p6,p7,p8,hk⟩ := h8 x H' hq
   obtain ⟨β'',q1,q2⟩ := hall ρ' H'' p1 p2 p3 p4 p5 p6 p7 p8
   exact ⟨_,H'',hk,β'',q1.step (Below.refl _ _) hd (fun _ => q2) (fun _ l hl => by
     rw [ren_lbs,List.mem_map] at hl
     obtain ⟨l0,h0,rfl⟩ := hl
     exact p5 l0 h0)⟩
theorem bnone {α γ : Type} {x : Option α} {f : α → Option γ} {y : γ} (h : x.bind f = some y) : ∃ a,x = some a ∧ f a = some y := Option.bind_eq_some_iff.1 h
theorem mnone {α γ : Type} {x : Option α} {f : α → γ} {y : γ} (h : x.map f = some y) : ∃ a,x = some a ∧ f a = y := Option.map_eq_some_iff.1 h
theorem asIs_box {i : Ins} {x : O} (h : i.asIs = .box x) : i = .box x ∨ i = .boxi x := by
 cases i <;> simp [Ins.asIs] at h <;> simp [h]
theorem asIs_app {i : Ins} {s x : O} {sz b : Nat} (h : i.asIs = .app s x sz b) : i = .app s x sz b ∨ i = .appi s x sz b := by
 cases i <;> simp [Ins.asIs] at h <;> simp [h]
theorem asIs_lits {i : Ins} {n sz : Nat} {z : List AV} {ps : List (Nat × O)} (h : i.asIs = .lits n sz z ps) : i = .lits n sz z ps ∨ (n = 1 ∧ i = .litso sz z ps) := by
 cases i <;> simp [Ins.asIs] at h <;> simp [h]
def Ins.hard : Ins → Bool
 | .box _ | .app .. | .lits .. => true
 | _ => false
theorem asIs_else {i j : Ins} (h : i.asIs = j) (hj : j.hard = false) : i = j := by
 subst h
 cases i <;> first | rfl | (simp [Ins.asIs,Ins.hard] at hj)
def Ins.plain : Ins → Bool
 | .load .. | .box _ | .new _ | .store .. | .app .. | .call .. | .callv .. | .mks .. | .cpy .. | .eqn .. | .cap .. | .clr .. | .callx .. | .appz .. | .litso .. => false
 | _ => true
theorem act_plain {S : St} {d : Option Nat} {i : Ins} {k : AV → Hp → Prop} (h : i.plain = true) (ha : Act1 S d i env H k) : ∃ x,stillV i env = some x ∧ k x H := by
 cases i <;> simp [Ins.plain] at h <;> exact ha
theorem equalIn_slice (d : Nat) {P : Program} {t e : TypeId} (ht : P.underlying t = some (.slice e)) (a : Option Addr) (n c : Nat) :
   (Op.equalIn (d + 1) t (.slice a n c) (.slice none 0 0)).run P w = .ok a.isNone w := by
 cases a <;> simp [Op.equalIn,run_underlying ht]
theorem s_eqn (hr : RelB K β env H a w) {o : Oper} {op : BinOp} {t t2 e : TypeId} {x y : Operand} {x' : O} {n : Bool} (ho : o.op = .binOp op t x y t2) (hn : eqNeg op = some n)
   (ht : K.P.underlying t = some (.slice e)) (hc : isNilS y = true) (hx : co K.G x = some x') {bs : List Bool} (hz : nilV (ev env x') = some bs) : ∃ b,b ∈ bs ∧ StepV K β H a w o (.bool (n ^^ b)) := by
 have h := hr.ev hx
 have hy : a.eval y = .slice none 0 0 := by
   unfold isNilS at hc
   split at hc
   · rfl
   · cases hc
 have key : ∀ (ad : Option Addr) (m c : Nat),a.eval x = .slice ad m c → ad.isNone ∈ bs → ∃ b,b ∈ bs ∧ StepV K β H a w o (.bool (n ^^ b)) := by
   intro ad m c h3 h4
   refine ⟨ad.isNone,h4,StepV.same (v := .bool (n ^^ ad.isNone)) ?_ (by simp [RV]) (by simp [AV.lbs])⟩
   have h5 : (Op.equal t (.slice ad m c) (.slice none 0 0)).run K.P w = .ok ad.isNone w := equalIn_slice 9999 ht ad m c
   rcases eqNeg_op hn with ⟨rfl,rfl⟩ | ⟨rfl,rfl⟩
   · simp [execOp,ho,h3,hy,eqGuard,binOp,h5]
   · simp [execOp,ho,h3,hy,eqGuard,binOp,h5]
 have anyb : ∀ b : Bool,b ∈ [true,false] := by intro b; cases b <;> simp
 cases e1 : ev env x' <;> rw [e1] at h hz
 case list xs =>
   simp only [RV,IVR] at h
   obtain ⟨ad,c,h1,_,_,h4⟩ := h
   cases xs with
   | nil => simp only [nilV,Option.some.injEq] at hz; subst hz; exact key _ _ _ h1 (anyb _)
   | cons y0 r =>
     simp only [nilV,Option.some.injEq] at hz; subst hz
     rcases h4 with h4 | ⟨b,o',sz,h4,_⟩
     · simp at h4
     · refine key _ _ _ h1 ?_
       rw [h4]; simp
 case nil0 =>
   simp only [RV] at h
   obtain ⟨ad,h1⟩ := h
   simp only [nilV,Option.some.injEq] at hz; subst hz
   exact key _ _ _ h1 (anyb _)
 case slk l sz i m c =>
   simp only [RV] at h
   obtain ⟨ad,h1,h2,_,h4,_⟩ := h
   simp only [nilV,Option.some.injEq] at hz; subst hz
   refine key _ _ _ h1 ?_
   by_cases hm : 0 < m
   · rw [if_pos hm]
     have := h4 (by omega)
     cases ad with
     | none => simp at this
     | some q => simp
   · rw [if_neg hm]; exact anyb _
 case sl l sz i m =>
   simp only [RV] at h
   obtain ⟨ad,c,h1,_,_,h4,_⟩ := h
   simp only [nilV,Option.some.injEq] at hz; subst hz
   refine key _ _ _ h1 ?_
   by_cases hm : 0 < m
   · rw [if_pos hm]
     have := h4 hm
     cases ad with
     | none => simp at this
     | some q => simp
   · rw [if_neg hm]; exact anyb _
 all_goals simp [nilV] at hz
set_option maxHeartbeats 1000000 in
theorem act_sound0 (hr : RelB K β env H a w) {o : Oper} {i : Ins} {k : AV → Hp → Prop} {Q : Exit → Act → World → Prop} (hd : ∀ n,o.dst = some n → n < K.N) (hc : comp0 K.P K.G o = some i.asIs)
   (ha : Act1 ⟨K.P,K.G,K.N⟩ o.dst i env H k) : o.wp K.P a w (After K env o.dst k) Q := by
 have plain : ∀ j : Ins,i.asIs = j → j.hard = false → j.plain = true → (∀ x,stillV j env = some x → StepV K β H a w o x) → o.wp K.P a w (After K env o.dst k) Q := by
   intro j hj hnb hp hs
   have e := asIs_else hj hnb
   subst e
   obtain ⟨x,h1,h2⟩ := act_plain hp ha
   exact wp_of_stepV hr hd (hs x h1) h2
 unfold comp0 at hc
 split at hc
 · rename_i x ho
   obtain ⟨y,h1,h2⟩ := mnone hc
   exact plain _ h2.symm rfl rfl (fun z hz => by simp only [stillV,Option.some.injEq] at hz; subst hz; exact s_mov hr (.inl ho) h1)
 · rename_i x ho
   obtain ⟨y,h1,h2⟩ := mnone hc
   exact plain _ h2.symm rfl rfl (fun z hz => by simp only [stillV,Option.some.injEq] at hz; subst hz; exact s_mov hr (.inr ho) h1)
 · rename_i c x y ho
   obtain ⟨c',h1,hc⟩ := bnone hc
   obtain ⟨x',h2,hc⟩ := bnone hc
   obtain ⟨y',h3,h4⟩ := mnone hc
   refine plain _ h4.symm rfl rfl (fun z hz => ?_)
   simp only [stillV] at hz
   split at hz
   · rename_i t ht
     simp only [Option.some.injEq] at hz; subst hz
     exact s_pick hr ho h1 h2 h3 ht
   · simp at hz
 · rename_i t x f ho
   split at hc
   · rename_i fs ht
     obtain ⟨fd,h1,hc⟩ := bnone hc
     obtain ⟨s,h2,hc⟩ := bnone hc
     split at hc
     · simp at hc
     · rename_i hs0
       obtain ⟨x',h3,h4⟩ := mnone hc
       exact plain _ h4.symm rfl rfl (fun z hz => s_fld hr ho ht h1 h2 hs0 h3 hz)
   · simp at hc
 · rename_i t x j ho
   split at hc
   · rename_i e ht
     obtain ⟨s,h2,hc⟩ := bnone hc
     obtain ⟨x',h3,hc⟩ := bnone hc
     obtain ⟨j',h4,h5⟩ := mnone hc
     exact plain _ h5.symm rfl rfl (fun z hz => s_ixa hr ho ht h2 h3 h4 hz)
   · rename_i n e ht
     obtain ⟨s,h2,hc⟩ := bnone hc
     obtain ⟨x',h3,hc⟩ := bnone hc
     obtain ⟨j',h4,h5⟩ := mnone hc
     exact plain _ h5.symm rfl rfl (fun z hz => s_ixp hr ho ht h2 h3 h4 hz)
   · simp at hc
 · rename_i t x j ho
   split at hc
   · rename_i ht
     obtain ⟨x',h3,hc⟩ := bnone hc
     obtain ⟨j',h4,h5⟩ := mnone hc
     exact plain _ h5.symm rfl rfl (fun z hz => s_ixs hr ho ht h3 h4 hz)
   · simp at hc
 · rename_i t x lo hi mx ho
   split at hc
   · rename_i e ht
     obtain ⟨s,h2,hc⟩ := bnone hc
     obtain ⟨x',h3,hc⟩ := bnone hc
     obtain ⟨lo',h4,hc⟩ := bnone hc
     obtain ⟨hi',h5,hc⟩ := bnone hc
     obtain ⟨mx',h6,h7⟩ := mnone hc
     exact plain _ h7.symm rfl rfl (fun z hz => s_slc hr ho ht h2 h3 h4 h5 h6 hz)
   · rename_i ht
     split at hc
     · simp at hc
     · rename_i hmx
       obtain ⟨x',h3,hc⟩ := bnone hc
       obtain ⟨lo',h4,hc⟩ := bnone hc
       obtain ⟨hi',h5,h7⟩ := mnone hc
       have : mx = none := by cases mx <;> simp_all
       subst this
       exact plain _ h7.symm rfl rfl (fun z hz => s_slcs hr ho ht h3 h4 h5 hz)
   · rename_i n e ht
     split at hc
     · rename_i hnone
       simp only [Bool.and_eq_true,Option.isNone_iff_eq_none] at hnone
       obtain ⟨⟨rfl,rfl⟩,rfl⟩ := hnone
       obtain ⟨s,h2,hc⟩ := bnone hc
       split at hc
       · simp at hc
       · rename_i hs0
         obtain ⟨x',h3,h5⟩ := mnone hc
         exact plain _ h5.symm rfl rfl (fun z hz => s_slca hr ho ht h2 hs0 h3 hz)
     · simp at hc
   · simp at hc
 · -- makeSlice
   rename_i t n c ho
   split at hc
   · rename_i e ht
     split at hc
     · rename_i ti hti
       split at hc
       · rename_i z hz
         split at hc
         · rename_i hcond
           obtain ⟨zs,h1,hc⟩ := bnone hc
           obtain ⟨n',h2,hc⟩ := bnone hc
           obtain ⟨c',h3,h5⟩ := mnone hc
           have e5 := asIs_else h5.symm rfl
           subst e5
           obtain ⟨q,g1,y,H',g2,g3⟩ := ha
           exact wp_of_stepR (by rw [g1]; exact r_mks hr (hd q g1) ho ht hti hz hcond.1 hcond.2.1 hcond.2.2 h1 h2 h3 g2) g3
         · simp at hc
       · simp at hc
     · simp at hc
   · simp at hc
 · rename_i op t x y t2 ho
   split at hc
   · obtain ⟨x',h3,hc⟩ := bnone hc
     obtain ⟨y',h4,h5⟩ := mnone hc
     exact plain _ h5.symm rfl rfl (fun z hz => s_bin hr ho h3 h4 hz)
   · obtain ⟨x',h3,hc⟩ := bnone hc
     obtain ⟨y',h4,h5⟩ := mnone hc
     exact plain _ h5.symm rfl rfl (fun z hz => s_bin hr ho h3 h4 hz)
   · rename_i ht
     obtain ⟨n,h2,hc⟩ := bnone hc
     obtain ⟨x',h3,hc⟩ := bnone hc
     obtain ⟨y',h4,h5⟩ := mnone hc
     exact plain _ h5.symm rfl rfl (fun z hz => s_eqb hr ho h2 ht h3 h4 hz)
   · rename_i e ht
     obtain ⟨n,h2,hc⟩ := bnone hc
     obtain ⟨x',h3,hc⟩ := bnone hc
     obtain ⟨y',h4,h5⟩ := mnone hc
     exact plain _ h5.symm rfl rfl (fun z hz => s_eqp hr ho h2 ht h3 h4 hz)
   · rename_i ms ht
     split at hc
     · rename_i hnil
       obtain ⟨n,h2,hc⟩ := bnone hc
       obtain ⟨x',h3,hc⟩ := bnone hc
       obtain ⟨y',h4,h5⟩ := mnone hc
       exact plain _ h5.symm rfl rfl (fun z hz => s_eqi hr ho h2 ht hnil h3 hz)
     · simp at hc
   · rename_i fs ht
     obtain ⟨ks,h1,hc⟩ := bnone hc
     obtain ⟨n,h2,hc⟩ := bnone hc
     obtain ⟨x',h3,hc⟩ := bnone hc
     obtain ⟨y',h4,h5⟩ := mnone hc
     exact plain _ h5.symm rfl rfl (fun z hz => s_eqst hr ho h2 h1 h3 h4 hz)
   · -- a slice,held against nil
     rename_i e ht
     split at hc
     · rename_i hnil
       obtain ⟨n,h2,hc⟩ := bnone hc
       obtain ⟨x',h3,h5⟩ := mnone hc
       have e5 := asIs_else h5.symm rfl
       subst e5
       obtain ⟨bs,g1,g2⟩ := ha
       obtain ⟨b,hb,hst⟩ := s_eqn hr ho h2 ht hnil h3 g1
       exact wp_of_stepV hr hd hst (g2 b hb)
     · simp at hc
   · simp at hc
 · rename_i t x ho
   obtain ⟨x',h3,h5⟩ := mnone hc
   exact plain _ h5.symm rfl rfl (fun z hz => s_not hr ho h3 hz)
 · rename_i t x ho
   obtain ⟨x',h3,h5⟩ := mnone hc
   exact plain _ h5.symm rfl rfl (fun z hz => s_neg hr ho h3 hz)
 · rename_i x j ho
   obtain ⟨x',h3,h5⟩ := mnone hc
   exact plain _ h5.symm rfl rfl (fun z hz => s_ext hr ho h3 hz)
 · rename_i x ho
   obtain ⟨x',h3,h5⟩ := mnone hc
   exact plain _ h5.symm rfl rfl (fun z hz => s_nchk hr ho h3 hz)
 · -- box
   rename_i t x ho
   obtain ⟨x',h3,h5⟩ := mnone hc
   rcases asIs_box h5.symm with rfl | rfl
   · obtain ⟨n,g1,g2,g3,g4,g5,g6⟩ := ha
     exact wp_of_stepR (by rw [g1]; exact r_box hr (hd n g1) ho h3 g3 g4 g5 g2) g6
   · obtain ⟨y,h1,h2⟩ := act_plain rfl ha
     exact wp_of_stepV hr hd (s_boxi hr ho h3 h1) h2
 · rename_i f first cap ho
   split at hc
   · rename_i hf
     obtain ⟨cs,h3,h5⟩ := mnone hc
     exact plain _ h5.symm rfl rfl (fun z hz => s_mkf hr ho hf h3 hz)
   · obtain ⟨qs,h2,hc⟩ := bnone hc
     obtain ⟨cs,h3,h5⟩ := mnone hc
     exact plain _ h5.symm rfl rfl (fun z hz => s_mkm hr ho h2 h3 hz)
 · -- load
   rename_i t x ho
   obtain ⟨m,h1,hc⟩ := bnone hc
   obtain ⟨x',h3,h5⟩ := mnone hc
   have e := asIs_else h5.symm rfl
   subst e
   rcases ha with ⟨y,g1,g2⟩ | ⟨y,g1,g2⟩
   · exact wp_of_stepV hr hd (s_loadi hr ho h1 h3 g1) g2
   · exact wp_of_stepV hr hd (r_load hr ho h1 h3 g1) g2
 · -- alloc
   rename_i t ho
   split at hc
   · rename_i ti hti
     split at hc
     · rename_i z hz
       split at hc
       · obtain ⟨cs,h3,h5⟩ := mnone hc
         have e := asIs_else h5.symm rfl
         subst e
         obtain ⟨n,g1,g2,g3,g4,g5⟩ := ha
         exact wp_of_stepR (by rw [g1]; exact r_alloc hr (hd n g1) ho hti hz h3 g3 g4 g2) g5
       · simp at hc
     · simp at hc
   · simp at hc
 · -- store
   rename_i t x y ho
   obtain ⟨s,h1,hc⟩ := bnone hc
   obtain ⟨x',h3,hc⟩ := bnone hc
   obtain ⟨y',h4,h5⟩ := mnone hc
   have e := asIs_else h5.symm rfl
   subst e
   obtain ⟨g1,H',g2,g3⟩ := ha
   exact wp_of_stepR (by rw [g1]; exact r_store hr ho h1 h3 h4 g2) g3
 · -- convert
   rename_i s d x ho
   split at hc
   · rename_i k1 k2 hs hd'
     obtain ⟨x',h3,h5⟩ := mnone hc
     exact plain _ h5.symm rfl rfl (fun z hz => s_cvi hr ho hs hd' h3 hz)
   · rename_i hs hd'
     obtain ⟨x',h3,h5⟩ := mnone hc
     exact plain _ h5.symm rfl rfl (fun z hz => s_cvs hr ho hs hd' h3 hz)
   · rename_i e hs hd'
     split at hc
     · rename_i he
       obtain ⟨x',h3,h5⟩ := mnone hc
       exact plain _ h5.symm rfl rfl (fun z hz => s_cvb hr ho hs hd' he h3 hz)
     · simp at hc
   · rename_i e hs hd'
     split at hc
     · rename_i he
       obtain ⟨x',h3,h5⟩ := mnone hc
       exact plain _ h5.symm rfl rfl (fun z hz => s_cvt hr ho hs he hd' h3 hz)
     · simp at hc
   · simp at hc
 · rename_i t x ho
   split at hc
   · simp at hc
   · rename_i d hni ht
     obtain ⟨x',h3,h5⟩ := mnone hc
     exact plain _ h5.symm rfl rfl (fun z hz => s_mkif hr ho ht (fun ms e => hni ms e) h3 hz)
   · simp at hc
 · rename_i t x f ho
   split at hc
   · rename_i fs ht
     obtain ⟨fd,h1,hc⟩ := bnone hc
     obtain ⟨m,h2,hc⟩ := bnone hc
     obtain ⟨x',h3,h5⟩ := mnone hc
     exact plain _ h5.symm rfl rfl (fun z hz => s_getf hr ho ht h1 h2 h3 hz)
   · simp at hc
 · -- buildSlice
   rename_i t n ps ho
   split at hc
   · rename_i e ht
     split at hc
     · rename_i ti hti
       split at hc
       · rename_i z hz
         split at hc
         · rename_i hcond
           obtain ⟨zs,h1,hc⟩ := bnone hc
           obtain ⟨xs,h2,h5⟩ := mnone hc
           rcases asIs_lits h5.symm with rfl | ⟨rfl,rfl⟩
           · obtain ⟨y,g1,g2⟩ := act_plain rfl ha
             exact wp_of_stepV hr hd (s_lits hr ho ht hti hz hcond.1 hcond.2.1 hcond.2.2 h1 h2 g1) g2
           · obtain ⟨q,g1,y,H',g2,g3⟩ := ha
             exact wp_of_stepR (by rw [g1]; exact r_litso hr (hd q g1) ho ht hti hz hcond.1 hcond.2.1 hcond.2.2 h1 h2 g2) g3
         · simp at hc
       · simp at hc
     · simp at hc
   · simp at hc
 · -- build
   rename_i t ps ho
   split at hc
   · rename_i ti fs hti ht
     split at hc
     · rename_i z pl hz hpl
       obtain ⟨zs,h1,hc⟩ := bnone hc
       obtain ⟨xs,h2,hc⟩ := bnone hc
       obtain ⟨qs,h3,h5⟩ := mnone hc
       exact plain _ h5.symm rfl rfl (fun y hy => s_bld hr ho ht hti hz hpl h1 h2 h3 hy)
     · simp at hc
   · simp at hc
 · -- call
   rename_i c ho
   split at hc
   · -- len
     rename_i hcal
     split at hc
     · rename_i x h1 h2
       obtain ⟨x',h3,h5⟩ := mnone hc
       exact plain _ h5.symm rfl rfl (fun z hz => s_lens hr ho hcal h1 h2 h3 hz)
     · rename_i x e h1 h2
       obtain ⟨x',h3,h5⟩ := mnone hc
       exact plain _ h5.symm rfl rfl (fun z hz => s_len hr ho hcal h1 h2 h3 hz)
     · simp at hc
   · -- max
     rename_i hcal
     split at hc
     · rename_i x y h1
       obtain ⟨x',h3,hc⟩ := bnone hc
       obtain ⟨y',h4,h5⟩ := mnone hc
       exact plain _ h5.symm rfl rfl (fun z hz => s_max hr ho hcal h1 h3 h4 hz)
     · simp at hc
   · -- min
     rename_i hcal
     split at hc
     · rename_i x y h1
       obtain ⟨x',h3,hc⟩ := bnone hc
       obtain ⟨y',h4,h5⟩ := mnone hc
       exact plain _ h5.symm rfl rfl (fun z hz => s_min hr ho hcal h1 h3 h4 hz)
     · simp at hc
   · -- append
     rename_i hcal
     split at hc
     · rename_i s x st xt h1 h2
       split at hc
       · rename_i e hst
         split at hc
         · rename_i ti hti
           split at hc
           · rename_i hcond
             simp only [Bool.and_eq_true,beq_iff_eq,decide_eq_true_eq] at hcond
             obtain ⟨⟨q1,q2⟩,q3⟩ := hcond
             obtain ⟨z,hz,hz2⟩ := mnone q1
             obtain ⟨s',h3,hc⟩ := bnone hc
             obtain ⟨x',h4,h5⟩ := mnone hc
             obtain ⟨dx,hxt,hdx⟩ : ∃ dx,K.P.underlying xt = some dx ∧ (dx = .string ∨ ∃ e2,dx = .slice e2) := by
               unfold srcT at q3
               split at q3
               · rename_i hh; exact ⟨_,hh,.inl rfl⟩
               · rename_i hh; exact ⟨_,hh,.inr ⟨_,rfl⟩⟩
               · simp at q3
             rcases asIs_app h5.symm with rfl | rfl
             · obtain ⟨n,g1,y,H',g3,g4⟩ := ha
               exact wp_of_stepR (by rw [g1]; exact r_app hr (hd n g1) ho hcal h1 h2 hst hti hz hz2 q2 hxt hdx h3 h4 g3) g4
             · obtain ⟨y,g3,g4⟩ := act_plain rfl ha
               exact wp_of_stepV hr hd (s_appi hr ho hcal h1 h2 hst hti hz hz2 q2 hxt hdx h3 h4 g3) g4
           · split at hc
             · rename_i k0 z hxt hz
               split at hc
               · rename_i hcond2
                 obtain ⟨zs,h5,hc⟩ := bnone hc
                 obtain ⟨s',h3,hc⟩ := bnone hc
                 obtain ⟨x',h4,h6⟩ := mnone hc
                 have e6 := asIs_else h6.symm rfl
                 subst e6
                 obtain ⟨n,g1,y,H',g3,g4⟩ := ha
                 exact wp_of_stepR (by rw [g1]; exact r_appz hr (hd n g1) ho hcal h1 h2 hst hti hz hcond2.1 hcond2.2.1 hcond2.2.2 hxt h5 h3 h4 g3) g4
               · simp at hc
             · simp at hc
         · simp at hc
       · simp at hc
     · simp at hc
   · -- cap
     rename_i hcal
     split at hc
     · rename_i x e h1 h2
       obtain ⟨x',h3,h5⟩ := mnone hc
       have e5 := asIs_else h5.symm rfl
       subst e5
       obtain ⟨R,g1,g2⟩ := ha
       obtain ⟨m,q1,q2,q3⟩ := s_cap hr ho hcal h1 h2 h3 g1
       exact wp_of_stepV hr hd q3 (g2 m q1 q2)
     · simp at hc
   · -- copy
     rename_i hcal
     split at hc
     · rename_i dd x dt xt h1 h2
       split at hc
       · rename_i e hdt
         obtain ⟨s,h3,hc⟩ := bnone hc
         split at hc
         · simp at hc
         · rename_i hs0
           obtain ⟨d',h4,hc⟩ := bnone hc
           obtain ⟨x',h6,h5⟩ := mnone hc
           have e5 := asIs_else h5.symm rfl
           subst e5
           obtain ⟨y,H',g1,g2⟩ := ha
           exact wp_of_stepR (r_cpy hr hd ho hcal h1 h2 hdt h3 hs0 h4 h6 g1) g2
       · simp at hc
     · simp at hc
   · -- clear
     rename_i hcal
     split at hc
     · rename_i x e h1 h2
       split at hc
       · rename_i ti hti
         split at hc
         · rename_i z hz
           split at hc
           · rename_i hcond
             obtain ⟨zs,h3,hc⟩ := bnone hc
             obtain ⟨x',h4,h5⟩ := mnone hc
             have e5 := asIs_else h5.symm rfl
             subst e5
             obtain ⟨H',g1,g2⟩ := ha
             exact wp_of_stepR (r_clr hr hd ho hcal h1 h2 hti hz hcond.1 hcond.2 h3 h4 g1) g2
           · simp at hc
         · simp at hc
       · simp at hc
     · simp at hc
   · simp at hc
   · simp at hc
   · -- a function
     rename_i f hcal
     split at hc
     · rename_i hb
       obtain ⟨xs,h3,h5⟩ := mnone hc
       have e := asIs_else h5.symm rfl
       subst e
       obtain ⟨fn, hf, hfn⟩ : ∃ fn, K.P.funcs[f]? = some fn ∧ (fn.body.isSome = true ∧ (fn.name != "runtime.NumGoroutine") = true) := by
         unfold goBody at hb
         cases hq : K.P.funcs[f]? with
         | none => simp [hq] at hb
         | some fn => simp only [hq,Option.any_some,Bool.and_eq_true] at hb; exact ⟨fn,rfl,hb⟩
       refine wp_call hr hd (vs := c.args.toList.map a.eval) ?_ (cos_rv hr _ _ h3) ha
       have h1 : ¬ fn.name = "runtime.NumGoroutine" := by simpa using hfn.2
       have h2 : ¬ fn.body = none := by intro hh; simp [hh] at hfn
       simp [execOp,ho,resolve,hcal,Act.eval,Deferred.ofValue,invoke,callFunc,hf,h1,h2]
       cases c.args
       simp
     · -- without a body
       obtain ⟨xs,h3,h5⟩ := mnone hc
       have e5 := asIs_else h5.symm rfl
       subst e5
       obtain ⟨res,g1,g2⟩ := ha
       obtain ⟨v,w',q1,q2,q3,q4⟩ := g1 K β env a w (c.args.toList.map a.eval) rfl hr (cos_rv hr _ _ h3)
       refine wp_of_stepV hr hd ⟨v,w',?_,q2,q3,q4⟩ g2
       have hargs : (c.args.toList.map a.eval).toArray = c.args.map a.eval := by cases c.args; simp
       rw [hargs] at q1
       simp [execOp,ho,resolve,hcal,Act.eval,Deferred.ofValue,invoke,q1]
   · -- a function value
     rename_i f hnf hcal
     obtain ⟨y,h2,hc⟩ := bnone hc
     obtain ⟨xs,h3,h5⟩ := mnone hc
     have e := asIs_else h5.symm rfl
     subst e
     obtain ⟨f',first,cap,g1,hb,g2⟩ := ha
     have hv := hr.ev h2
     rw [g1] at hv
     simp only [RV] at hv
     obtain ⟨vs,us,k1,k2,k3⟩ := hv
     obtain ⟨fn, hf, hfn⟩ : ∃ fn, K.P.funcs[f']? = some fn ∧ (fn.body.isSome = true ∧ (fn.name != "runtime.NumGoroutine") = true) := by
       unfold goBody at hb
       cases hq : K.P.funcs[f']? with
       | none => simp [hq] at hb
       | some fn => simp only [hq,Option.any_some,Bool.and_eq_true] at hb; exact ⟨fn,rfl,hb⟩
     refine wp_call hr hd (vs := vs ++ c.args.toList.map a.eval ++ us) ?_ (RVs.append _ _ _ _ (RVs.append _ _ _ _ k2 (cos_rv hr _ _ h3)) k3) g2
     have h1 : ¬ fn.name = "runtime.NumGoroutine" := by simpa using hfn.2
     have h2 : ¬ fn.body = none := by intro hh; simp [hh] at hfn
     simp [execOp,ho,resolve,hcal,k1,Deferred.ofValue,invoke,callFunc,hf,h1,h2]
 · simp at hc
theorem act_sound (hr : RelB K β env H a w) {o : Oper} {i : Ins} {k : AV → Hp → Prop} {Q : Exit → Act → World → Prop} (hd : ∀ n,o.dst = some n → n < K.N) (hc : comp K.P K.G o = some i.asIs)
   (ha : Act1 ⟨K.P,K.G,K.N⟩ o.dst i env H k) : o.wp K.P a w (After K env o.dst k) Q := by
 unfold comp at hc
 split at hc
 · rename_i j hj
   simp only [Option.some.injEq] at hc
   exact act_sound0 hr hd (by rw [hj,hc]) ha
 · simp only [Option.some.injEq] at hc
   have e : i = .stuck := asIs_else hc.symm rfl
   subst e
   obtain ⟨x,h1,_⟩ := act_plain rfl ha
   simp [stillV] at h1
end
end Go.Am

/- THE ABSTRACT MACHINE, part 14: regions. -/
namespace Go.Am
open Go Go.RowKit
section
variable {K : Kx} {env : Env} {H : Hp} {a : Act} {w : World}
theorem gW_wanted {β : Lb → Option Nat} (hr : RelB K β env H a w) {ops : Array Oper} {o : Oper} {i : LIns} (hc : compL K.P K.G ops o = some i) {b : Bool} (hg : gW i.g env = some b) :
   Region.wanted o (yielded ops a.tmps) = b := by
 unfold compL at hc
 split at hc
 · rename_i h0
   obtain ⟨j,_,rfl⟩ := mnone hc
   simp only [gW,Option.some.injEq] at hg
   subst hg
   simp [Region.wanted,h0]
 · rename_i j t h0
   obtain ⟨s,h1,hc⟩ := bnone hc
   obtain ⟨q,_,rfl⟩ := mnone hc
   simp only [gW] at hg
   have hv := hr.regs s
   split at hg
   · rename_i c e
     simp only [Option.some.injEq] at hg
     subst hg
     rw [e] at hv
     simp only [RV] at hv
     have : a.tmps[s]? = some (.bool c) := by
       rw [Array.getD_eq_getD_getElem?] at hv
       cases hq : a.tmps[s]? with
       | none => rw [hq] at hv; cases hv
       | some u => rw [hq] at hv; simpa using hv
     simp [Region.wanted,h0,yielded,h1,this]
   · rename_i e
     simp only [Option.some.injEq] at hg
     subst hg
     rw [e] at hv
     simp only [RV] at hv
     have : a.tmps[s]? = none ∨ a.tmps[s]? = some undef := by
       rw [Array.getD_eq_getD_getElem?] at hv
       cases hq : a.tmps[s]? with
       | none => exact .inl rfl
       | some u => rw [hq] at hv; right; simpa using hv
     rcases this with h | h <;> simp [Region.wanted,h0,yielded,h1,h,undef]
   · simp at hg
theorem compL_parts {P : Program} {G : Nat → Option (List IV)} {ops : Array Oper} {o : Oper} {i : LIns} (hc : compL P G ops o = some i) : i.d = o.dst ∧ comp P G o = some i.i := by
 unfold compL at hc
 split at hc
 · obtain ⟨j,h1,rfl⟩ := mnone hc
   exact ⟨rfl,h1⟩
 · obtain ⟨s,_,hc⟩ := bnone hc
   obtain ⟨q,h1,rfl⟩ := mnone hc
   exact ⟨rfl,h1⟩
theorem step_sound {β : Lb → Option Nat} (hr : RelB K β env H a w) {ops : Array Oper} {o : Oper} {i : LIns} (hc : compL K.P K.G ops o = some i.asIs) {k : Env → Hp → Prop} {Q : Exit → Act → World → Prop} {KK : Act → World → Prop}
   (hk : ∀ env' H' β' a' w',k env' H' → RelB K β' env' H' a' w' → KK a' w')
   (ha : (gW i.g env = some true ∧ (∀ n,i.d = some n → n < K.N) ∧ Act1 ⟨K.P,K.G,K.N⟩ i.d i.i env H fun x H' => k (putO env i.d x) H') ∨
     (gW i.g env = some false ∧ (∀ n,i.d = some n → n < K.N) ∧ k (putO env i.d .un) H)) :
   if Region.wanted o (yielded ops a.tmps) then o.wp K.P a w KK Q ∨ (o.asks K.P a w ∧ LetsOut Q) else KK (a.put o.dst undef) w := by
 obtain ⟨h1,h2⟩ := compL_parts hc
 have hdd : i.d = o.dst := h1
 rcases ha with ⟨hg,hd,ha⟩ | ⟨hg,hd,ha⟩
 · have hw : Region.wanted o (yielded ops a.tmps) = true := gW_wanted hr (i := i.asIs) hc hg
   rw [if_pos hw]
   left
   rw [hdd] at ha hd
   exact Oper.wp_mono (fun a' w' ⟨x,H',hx,β',hr'⟩ => hk _ _ _ _ _ hx hr') (act_sound hr hd h2 ha)
 · have hw : Region.wanted o (yielded ops a.tmps) = false := gW_wanted hr (i := i.asIs) hc hg
   rw [if_neg (by simp [hw])]
   rw [hdd] at ha hd
   exact hk _ _ _ _ _ ha (hr.step (Below.refl _ _) hd (fun _ => by simp [RV]) (fun _ => by simp [AV.lbs]))
theorem ao_sound {ops : Array Oper} {k : Env → Hp → Prop} {Q : Exit → Act → World → Prop} (hk : ∀ env' H' β' a' w',k env' H' → RelB K β' env' H' a' w' → Q .normal a' w') :
   ∀ (l : List Oper) (is : List LIns) (env : Env) (H : Hp) (a : Act) (w : World) (β : Lb → Option Nat),All2 (fun o i => compL K.P K.G ops o = some (LIns.asIs i)) l is → AO ⟨K.P,K.G,K.N⟩ is env H k → RelB K β env H a w →
     wpList K.P ops Q l a w
 | [],_,env,H,a,w,β,h,ha,hr => by
   cases h
   exact hk _ _ _ _ _ ha hr
 | o :: l,_,env,H,a,w,β,h,ha,hr => by
   cases h with
   | @cons _ i _ is h1 h2 =>
     simp only [AO] at ha
     unfold wpList
     exact step_sound hr h1 (k := fun env' H' => AO ⟨K.P,K.G,K.N⟩ is env' H' k) (fun env' H' β' a' w' q1 q2 => ao_sound hk l is env' H' a' w' β' h2 q1 q2) ha
end
end Go.Am

/- THE ABSTRACT MACHINE, part 17: regions whose order is drawn. -/
namespace Go.Am
open Go Go.RowKit
def Ins.os : Ins → List O
 | .mov x | .fld x _ | .len x | .lens x | .not x | .neg x | .ext x _ | .getf x _ _ | .boxi x | .nchk x | .cvi _ x | .cvs x | .cvb x | .cvt x | .mkif _ x | .load _ x | .box x | .eqn _ x | .cap x | .clr x _ _ | .slca x _ _ => [x]
 | .pick c a b => [c,a,b]
 | .ixa x i _ | .ixs x i | .ixp x i _ _ => [x,i]
 | .slc x lo hi mx _ => x :: (lo.toList ++ hi.toList ++ mx.toList)
 | .slcs x lo hi => x :: (lo.toList ++ hi.toList)
 | .bin _ x y | .eqb _ x y | .eqp _ x y | .eqi _ x y | .eqst _ _ x y | .max x y | .min x y | .store _ x y | .app x y _ _ | .appi x y _ _ | .appz x y _ _ _ | .cpy x y _ => [x,y]
 | .bld _ ps => ps.map (·.2.2)
 | .lits _ _ _ ps => ps.map (·.2)
 | .litso _ _ ps => ps.map (·.2)
 | .mkm _ qs cs => qs ++ cs
 | .mkf _ cs => cs
 | .new _ => []
 | .stuck => []
 | .mks n c _ _ _ => [n,c]
 | .call _ args => args
 | .callx _ args => args
 | .callv x args => x :: args
def O.us : O → List Nat
 | .t n => [n]
 | .c _ => []
def LIns.us (i : LIns) : List Nat := i.i.os.flatMap O.us ++ (match i.g with | some (s,_) => [s] | none => [])
theorem ev_put {env : Env} {d : Option Nat} {y : AV} {x : O} (h : ∀ n,d = some n → n ∉ x.us) : ev (putO env d y) x = ev env x := by
 cases x with
 | c x => rfl
 | t n =>
   cases d with
   | none => rfl
   | some m =>
     have := h m rfl
     simp [O.us] at this
     simp [ev,putO,put,Ne.symm this]
section
variable {env env' : Env}
theorem bnd_cong {o : Option O} (h : ∀ x ∈ o.toList,ev env x = ev env' x) (m n : Nat) : bnd env o m n = bnd env' o m n := by
 cases o with
 | none => rfl
 | some x => simp only [bnd]; rw [h x (by simp)]
theorem cutB_cong {lo hi mx : Option O} (h : ∀ x ∈ lo.toList ++ hi.toList ++ mx.toList,ev env x = ev env' x) (n : Nat) : cutB env lo hi mx n = cutB env' lo hi mx n := by
 have h1 := fun m n => bnd_cong (o := lo) (fun x hx => h x (by simp at hx ⊢; simp [hx])) m n
 have h2 := fun m n => bnd_cong (o := hi) (fun x hx => h x (by simp at hx ⊢; simp [hx])) m n
 have h3 := fun m n => bnd_cong (o := mx) (fun x hx => h x (by simp at hx ⊢; simp [hx])) m n
 cases mx with
 | none => simp only [cutB,h1,h2]
 | some m => simp only [cutB,h1,h2,h3]
theorem cutK_cong {lo hi mx : Option O} (h : ∀ x ∈ lo.toList ++ hi.toList ++ mx.toList,ev env x = ev env' x) (n c : Nat) : cutK env lo hi mx n c = cutK env' lo hi mx n c := by
 have h1 := fun m n => bnd_cong (o := lo) (fun x hx => h x (by simp at hx ⊢; simp [hx])) m n
 have h2 := fun m n => bnd_cong (o := hi) (fun x hx => h x (by simp at hx ⊢; simp [hx])) m n
 have h3 := fun m n => bnd_cong (o := mx) (fun x hx => h x (by simp at hx ⊢; simp [hx])) m n
 cases mx with
 | none => simp only [cutK,h1,h2]
 | some m => simp only [cutK,h1,h2,h3]
theorem stillV_cong {i : Ins} (h : ∀ x ∈ i.os,ev env x = ev env' x) : stillV i env = stillV i env' := by
 cases i with
 | slc x lo hi mx sz =>
   simp only [stillV]
   rw [h x (by simp [Ins.os])]
   have := cutB_cong (env := env) (env' := env') (lo := lo) (hi := hi) (mx := mx) (fun y hy => h y (by simp only [Ins.os,List.mem_cons]; exact .inr hy))
   have this2 := cutK_cong (env := env) (env' := env') (lo := lo) (hi := hi) (mx := mx) (fun y hy => h y (by simp only [Ins.os,List.mem_cons]; exact .inr hy))
   unfold slcV
   simp only [this,this2]
 | slcs x lo hi =>
   simp only [stillV]
   rw [h x (by simp [Ins.os])]
   have h1 := fun m n => bnd_cong (env := env) (env' := env') (o := lo) (fun y hy => h y (by simp only [Ins.os,List.mem_cons,List.mem_append]; exact .inr (.inl hy))) m n
   have h2 := fun m n => bnd_cong (env := env) (env' := env') (o := hi) (fun y hy => h y (by simp only [Ins.os,List.mem_cons,List.mem_append]; exact .inr (.inr hy))) m n
   simp only [h1,h2]
 | bld z ps =>
   simp only [stillV]
   have : (ps.map fun p => (p.1,p.2.1,ev env p.2.2)) = ps.map fun p => (p.1,p.2.1,ev env' p.2.2) :=
     List.map_congr_left fun p hp => by rw [h p.2.2 (by simp only [Ins.os]; exact List.mem_map_of_mem (f := fun p : Nat × Nat × O => p.2.2) hp)]
   rw [this]
 | lits n sz z ps =>
   simp only [stillV]
   have : (ps.map fun p => (p.1 * sz,sz,ev env p.2)) = ps.map fun p => (p.1 * sz,sz,ev env' p.2) :=
     List.map_congr_left fun p hp => by rw [h p.2 (by simp only [Ins.os]; exact List.mem_map_of_mem (f := fun p : Nat × O => p.2) hp)]
   rw [this]
 | mkf f cap =>
   simp only [stillV]
   have : cap.map (ev env) = cap.map (ev env') := List.map_congr_left fun p hp => h p (by simpa [Ins.os] using hp)
   rw [this]
 | call f args => rfl
 | callv x args => rfl
 | callx f args => rfl
 | appz s n sz b z => rfl
 | litso sz z ps => rfl
 | mkm f qs cs =>
   simp only [stillV]
   have h1 : qs.map (ev env) = qs.map (ev env') := List.map_congr_left fun p hp => h p (by simp only [Ins.os,List.mem_append]; exact .inl hp)
   have h2 : cs.map (ev env) = cs.map (ev env') := List.map_congr_left fun p hp => h p (by simp only [Ins.os,List.mem_append]; exact .inr hp)
   rw [h1,h2]
 | cap x => rfl
 | clr x sz z => rfl
 | slca x n sz => simp only [stillV,h x (by simp [Ins.os])]
 | appi x y sz b => simp only [stillV,h x (by simp [Ins.os]),h y (by simp [Ins.os])]
 | eqn n x => rfl
 | new cs => rfl
 | pick c a b => simp only [stillV,h c (by simp [Ins.os]),h a (by simp [Ins.os]),h b (by simp [Ins.os])]
 | mks n c sz b z => rfl
 | store m a x => rfl
 | app s x sz b => rfl
 | cpy s x sz => rfl
 | box x => rfl
 | cvt x => simp only [stillV,h x (by simp [Ins.os])]
 | ixp x i n sz => simp only [stillV,h x (by simp [Ins.os]),h i (by simp [Ins.os])]
 | ixa x i sz => simp only [stillV,h x (by simp [Ins.os]),h i (by simp [Ins.os])]
 | ixs x i => simp only [stillV,h x (by simp [Ins.os]),h i (by simp [Ins.os])]
 | bin op x y => simp only [stillV,h x (by simp [Ins.os]),h y (by simp [Ins.os])]
 | eqb n x y => simp only [stillV,h x (by simp [Ins.os]),h y (by simp [Ins.os])]
 | eqp n x y => simp only [stillV,h x (by simp [Ins.os]),h y (by simp [Ins.os])]
 | eqi n x y => simp only [stillV,h x (by simp [Ins.os]),h y (by simp [Ins.os])]
 | eqst n ks x y => simp only [stillV,h x (by simp [Ins.os]),h y (by simp [Ins.os])]
 | max x y => simp only [stillV,h x (by simp [Ins.os]),h y (by simp [Ins.os])]
 | min x y => simp only [stillV,h x (by simp [Ins.os]),h y (by simp [Ins.os])]
 | mov x => simp only [stillV,h x (by simp [Ins.os])]
 | fld x o => simp only [stillV,h x (by simp [Ins.os])]
 | len x => simp only [stillV,h x (by simp [Ins.os])]
 | lens x => simp only [stillV,h x (by simp [Ins.os])]
 | not x => simp only [stillV,h x (by simp [Ins.os])]
 | neg x => simp only [stillV,h x (by simp [Ins.os])]
 | ext x i => simp only [stillV,h x (by simp [Ins.os])]
 | getf x o m => simp only [stillV,h x (by simp [Ins.os])]
 | boxi x => simp only [stillV,h x (by simp [Ins.os])]
 | nchk x => simp only [stillV,h x (by simp [Ins.os])]
 | stuck => rfl
 | cvi k x => simp only [stillV,h x (by simp [Ins.os])]
 | cvs x => simp only [stillV,h x (by simp [Ins.os])]
 | cvb x => simp only [stillV,h x (by simp [Ins.os])]
 | mkif t x => simp only [stillV,h x (by simp [Ins.os])]
 | load m x => simp only [stillV,h x (by simp [Ins.os])]
theorem Act1_cong {S : St} {d : Option Nat} {i : Ins} (h : ∀ x ∈ i.os,ev env x = ev env' x) {H : Hp} {k : AV → Hp → Prop} (ha : Act1 S d i env H k) : Act1 S d i env' H k := by
 have hs := stillV_cong h
 cases i with
 | load m x =>
   simp only [Act1] at ha ⊢
   rw [← hs,← h x (by simp [Ins.os])]; exact ha
 | box x =>
   simp only [Act1] at ha ⊢
   rw [← h x (by simp [Ins.os])]; exact ha
 | new cs => exact ha
 | store m x y =>
   simp only [Act1] at ha ⊢
   rw [← h x (by simp [Ins.os]),← h y (by simp [Ins.os])]; exact ha
 | app x y sz b =>
   simp only [Act1] at ha ⊢
   rw [← h x (by simp [Ins.os]),← h y (by simp [Ins.os])]; exact ha
 | call f args =>
   simp only [Act1] at ha ⊢
   have : args.map (ev env) = args.map (ev env') := List.map_congr_left fun p hp => h p (by simpa [Ins.os] using hp)
   rw [← this]; exact ha
 | eqn n x =>
   simp only [Act1] at ha ⊢
   rw [← h x (by simp [Ins.os])]; exact ha
 | appz x y sz b z =>
   simp only [Act1] at ha ⊢
   rw [← h x (by simp [Ins.os]),← h y (by simp [Ins.os])]; exact ha
 | litso sz z ps =>
   simp only [Act1] at ha ⊢
   have : (ps.map fun p => (p.1,ev env p.2)) = ps.map fun p => (p.1,ev env' p.2) :=
     List.map_congr_left fun p hp => by rw [h p.2 (by simp only [Ins.os]; exact List.mem_map_of_mem (f := fun p : Nat × O => p.2) hp)]
   rw [← this]; exact ha
 | cap x =>
   simp only [Act1] at ha ⊢
   rw [← h x (by simp [Ins.os])]; exact ha
 | clr x sz z =>
   simp only [Act1] at ha ⊢
   rw [← h x (by simp [Ins.os])]; exact ha
 | cpy x y sz =>
   simp only [Act1] at ha ⊢
   rw [← h x (by simp [Ins.os]),← h y (by simp [Ins.os])]; exact ha
 | mks n c sz b z =>
   simp only [Act1] at ha ⊢
   rw [← h n (by simp [Ins.os]),← h c (by simp [Ins.os])]; exact ha
 | callx f args =>
   simp only [Act1] at ha ⊢
   have : args.map (ev env) = args.map (ev env') := List.map_congr_left fun p hp => h p (by simpa [Ins.os] using hp)
   rw [← this]; exact ha
 | callv x args =>
   simp only [Act1] at ha ⊢
   have : args.map (ev env) = args.map (ev env') := List.map_congr_left fun p hp => h p (by simp only [Ins.os,List.mem_cons]; exact .inr hp)
   rw [← this,← h x (by simp [Ins.os])]; exact ha
 | _ => simp only [Act1] at ha ⊢; rw [← hs]; exact ha
end
inductive Fp where
 | no
 | rw (rs ws : List Lb)
 | all
 
 | far (fs : List Lb)
def ptrL : AV → List Lb
 | .ptr l _ _ _ => [l]
 | .sl l _ _ _ => [l]
 | .slk l _ _ _ _ => [l]
 | _ => []
open Classical in
noncomputable def memV (d : Option Nat) (i : Ins) (env : Env) (H : Hp) : Option (AV × Hp) :=
 match i with
 | .load m a => (loadV m (ev env a) H).map fun x => (x,H)
 | .box x => d.bind fun n => if H (.loc n) = .unused ∧ (ev env x).stb = true ∧ 0 < (ev env x).cells.length ∧ (ev env x).cells.length ≤ maxLen then
     some (.ptr (.loc n) (ev env x).cells.length 0 0,upd H (.loc n) (.live ⟨(ev env x).cells.length,[(ev env x).cells]⟩)) else none
 | .new cs => d.bind fun n => if H (.loc n) = .unused ∧ 0 < cs.length ∧ cs.length ≤ maxLen then
     some (.ptr (.loc n) cs.length 0 0,upd H (.loc n) (.live ⟨cs.length,[cs]⟩)) else none
 | .store m a x => if d = none then (storeV m (ev env a) (ev env x) H).map fun H' => (.un,H') else none
 | .app s x sz bytes => d.bind fun n => appV sz bytes n (ev env s) (ev env x) H
 | .cpy s x sz => cpyV sz (ev env s) (ev env x) H
 | .litso sz z ps => d.bind fun q => litV sz q z (ps.map fun p => (p.1,ev env p.2)) H
 | .clr x sz z => (clrV sz z (ev env x) H).map fun H' => (.tup [],H')
 | .mks n c sz b z => d.bind fun q => mksV sz b q z (ev env n) (ev env c) H
 | _ => none
def readsL (i : Ins) (env : Env) : List Lb :=
 match i with
 | .load _ a => ptrL (ev env a)
 | .app _ x _ _ => ptrL (ev env x)
 | .cpy _ x _ => ptrL (ev env x)
 | _ => []
def writesL (d : Option Nat) (i : Ins) (env : Env) : List Lb :=
 match i with
 | .box _ | .new _ | .litso _ _ _ | .mks _ _ _ _ _ => d.toList.map .loc
 | .store _ a _ => ptrL (ev env a)
 | .app s _ _ _ => match ev env s with
   | .sl l _ _ _ => l :: d.toList.map l.app
   | .slk l _ _ _ _ => l :: d.toList.map .loc
   | _ => d.toList.map .loc
 | .cpy s _ _ => ptrL (ev env s)
 | .clr x _ _ => ptrL (ev env x)
 | _ => []
theorem loadV_loc {m : Option Nat} {x : AV} {H H1 : Hp} {y : AV} (h : loadV m x H = some y) (ha : ∀ l ∈ ptrL x,H1 l = H l) : loadV m x H1 = some y := by
 cases x with
 | ptr l sz i j => simp only [loadV,ha l (by simp [ptrL])] at h ⊢; exact h
 | _ => simp [loadV] at h
theorem srcE_loc {sz : Nat} {x : AV} {H H1 : Hp} (ha : ∀ l ∈ ptrL x,H1 l = H l) : srcE sz x H1 = srcE sz x H := by
 cases x with
 | sl l s i n => simp only [srcE,ha l (by simp [ptrL])]
 | slk l s i n c => simp only [srcE,ha l (by simp [ptrL])]
 | _ => rfl
theorem slP_ptrL {x : AV} {p : Lb × Nat × Nat × Nat} (h : slP x = some p) : ptrL x = [p.1] := by
 cases x <;> simp [slP] at h
 all_goals (subst h; rfl)
theorem memV_loc {d : Option Nat} {i : Ins} {env : Env} {H H' H1 : Hp} {x : AV} (h : memV d i env H = some (x,H')) (ha : ∀ l,l ∈ readsL i env ∨ l ∈ writesL d i env → H1 l = H l) :
   ∃ H1',memV d i env H1 = some (x,H1') ∧ (∀ l ∈ writesL d i env,H1' l = H' l) ∧ ∀ l,l ∉ writesL d i env → H1' l = H1 l := by
 cases i with
 | load m a =>
   simp only [memV,Option.map_eq_some_iff,Prod.mk.injEq] at h ⊢
   obtain ⟨y,h1,rfl,rfl⟩ := h
   exact ⟨H1,⟨y,loadV_loc h1 (fun l hl => ha l (.inl hl)),rfl,rfl⟩,by simp [writesL],fun _ _ => rfl⟩
 | box y =>
   simp only [memV] at h ⊢
   obtain ⟨n,rfl,h0⟩ := bnone h
   replace h := h0
   clear h0
   split at h
   · rename_i hc
     simp only [Option.some.injEq,Prod.mk.injEq] at h
     obtain ⟨rfl,rfl⟩ := h
     have e := ha (.loc n) (.inr (by simp [writesL]))
     refine ⟨_,by simp only [Option.bind_some]; rw [if_pos (by rw [e]; exact hc)],fun l hl => ?_,fun l hl => ?_⟩
     · simp [writesL] at hl; subst hl; simp
     · simp [writesL] at hl; rw [upd_ne _ _ hl]
   · simp at h
 | new cs =>
   simp only [memV] at h ⊢
   obtain ⟨n,rfl,h0⟩ := bnone h
   replace h := h0
   clear h0
   split at h
   · rename_i hc
     simp only [Option.some.injEq,Prod.mk.injEq] at h
     obtain ⟨rfl,rfl⟩ := h
     have e := ha (.loc n) (.inr (by simp [writesL]))
     refine ⟨_,by simp only [Option.bind_some]; rw [if_pos (by rw [e]; exact hc)],fun l hl => ?_,fun l hl => ?_⟩
     · simp [writesL] at hl; subst hl; simp
     · simp [writesL] at hl; rw [upd_ne _ _ hl]
   · simp at h
 | store m a y =>
   simp only [memV] at h ⊢
   split at h
   · rename_i hd
     rw [if_pos hd]
     simp only [Option.map_eq_some_iff,Prod.mk.injEq] at h ⊢
     obtain ⟨H2,h1,rfl,rfl⟩ := h
     unfold storeV at h1 ⊢
     split at h1
     · rename_i l sz i j e
       have e2 := ha l (.inr (by simp [writesL,e,ptrL]))
       simp only [e,e2]
       split at h1
       · rename_i r hr
         try simp only [hr]
         split at h1
         · rename_i hc
           rw [if_pos hc]
           obtain ⟨cs,hi,h1⟩ := Option.bind_eq_some_iff.1 h1
           split at h1
           · rename_i hj
             simp only [Option.some.injEq] at h1; subst h1
             refine ⟨_,⟨_,by rw [hi,Option.bind_some,if_pos hj],trivial,rfl⟩,fun q hq => ?_,fun q hq => ?_⟩
             · simp [writesL,e,ptrL] at hq; subst hq; simp
             · simp [writesL,e,ptrL] at hq; rw [upd_ne _ _ hq]
           · simp at h1
         · simp at h1
       · simp at h1
     · simp at h1
   · simp at h
 | app s y sz bytes =>
   simp only [memV] at h ⊢
   obtain ⟨n,rfl,h0⟩ := bnone h
   replace h := h0
   clear h0
   simp only [Option.bind_some]
   unfold appV at h ⊢
   obtain ⟨news,h1,h0⟩ := bnone h
   replace h := h0
   clear h0
   rw [srcE_loc (fun l hl => ha l (.inl hl))]
   simp only [h1,Option.bind_some]
   split at h
   · simp at h
   · rename_i hone
     rw [if_neg hone]
     split at h
     · rename_i e
       try simp only [e]
       split at h
       · rename_i hc
         simp only [Option.some.injEq,Prod.mk.injEq] at h
         obtain ⟨rfl,rfl⟩ := h
         have e2 := ha (.loc n) (.inr (by simp [writesL,e]))
         refine ⟨_,by rw [if_pos (by rw [e2]; exact hc)],fun l hl => ?_,fun l hl => ?_⟩
         · simp [writesL,e] at hl; subst hl; simp
         · simp [writesL,e] at hl; rw [upd_ne _ _ hl]
       · simp at h
     · rename_i l s' i0 m e
       have e1 := ha l (.inr (by simp [writesL,e]))
       have e2 := ha (l.app n) (.inr (by simp [writesL,e]))
       simp only [e1]
       split at h
       · rename_i r hr
         try simp only [hr]
         split at h
         · rename_i hc
           simp only [Option.some.injEq,Prod.mk.injEq] at h
           obtain ⟨rfl,rfl⟩ := h
           refine ⟨_,by rw [if_pos (by rw [e2]; exact hc)],fun q hq => ?_,fun q hq => ?_⟩
           · simp [writesL,e] at hq
             unfold upd
             by_cases q1 : q = l.app n
             · simp [q1]
             · rcases hq with hq | hq
               · simp [hq]
               · exact absurd hq q1
           · simp [writesL,e] at hq
             rw [upd_ne _ _ hq.2,upd_ne _ _ hq.1]
         · simp at h
       · simp at h
     · rename_i l s' i0 m c e
       have e1 := ha l (.inr (by simp [writesL,e]))
       have e2 := ha (.loc n) (.inr (by simp [writesL,e]))
       simp only [e1]
       split at h
       · rename_i r hr
         try simp only [hr]
         split at h
         · rename_i hc
           rw [if_pos hc]
           split at h
           · rename_i hf
             rw [if_pos hf]
             split at h
             · rename_i hf2
               rw [if_pos hf2]
               simp only [Option.some.injEq,Prod.mk.injEq] at h
               obtain ⟨rfl,rfl⟩ := h
               refine ⟨_,rfl,fun q hq => ?_,fun q hq => ?_⟩
               · simp [writesL,e] at hq
                 by_cases q1 : q = l
                 · subst q1; simp
                 · rw [upd_ne _ _ q1,upd_ne _ _ q1]
                   rcases hq with hq | hq
                   · exact absurd hq q1
                   · subst hq; exact e2
               · simp [writesL,e] at hq
                 rw [upd_ne _ _ hq.1]
             · simp at h
           · rename_i hf
             rw [if_neg hf]
             split at h
             · rename_i hf2
               rw [e2,if_pos hf2]
               simp only [Option.some.injEq,Prod.mk.injEq] at h
               obtain ⟨rfl,rfl⟩ := h
               refine ⟨_,rfl,fun q hq => ?_,fun q hq => ?_⟩
               · simp [writesL,e] at hq
                 by_cases q1 : q = .loc n
                 · subst q1; simp
                 · rw [upd_ne _ _ q1,upd_ne _ _ q1]
                   rcases hq with hq | hq
                   · subst hq; exact e1
                   · exact absurd hq q1
               · simp [writesL,e] at hq
                 rw [upd_ne _ _ hq.2]
             · simp at h
         · simp at h
       · simp at h
     · simp at h
 | litso sz z ps =>
   simp only [memV] at h ⊢
   obtain ⟨n,rfl,h0⟩ := bnone h
   replace h := h0
   clear h0
   simp only [Option.bind_some]
   unfold litV at h ⊢
   obtain ⟨cs,h1,h0⟩ := bnone h
   replace h := h0
   clear h0
   rw [h1,Option.bind_some]
   split at h
   · rename_i hc
     simp only [Option.some.injEq,Prod.mk.injEq] at h
     obtain ⟨rfl,rfl⟩ := h
     have e := ha (.loc n) (.inr (by simp [writesL]))
     refine ⟨_,by rw [if_pos (by rw [e]; exact hc)],fun l hl => ?_,fun l hl => ?_⟩
     · simp [writesL] at hl; subst hl; simp
     · simp [writesL] at hl; rw [upd_ne _ _ hl]
   · simp at h
 | mks x y sz b z =>
   simp only [memV] at h ⊢
   obtain ⟨n,rfl,h0⟩ := bnone h
   replace h := h0
   clear h0
   simp only [Option.bind_some]
   unfold mksV at h ⊢
   split at h
   · split at h
     · rename_i hc
       simp only [Option.some.injEq,Prod.mk.injEq] at h
       obtain ⟨rfl,rfl⟩ := h
       have e := ha (.loc n) (.inr (by simp [writesL]))
       refine ⟨_,by rw [if_pos (by rw [e]; exact hc)],fun l hl => ?_,fun l hl => ?_⟩
       · simp [writesL] at hl; subst hl; simp
       · simp [writesL] at hl; rw [upd_ne _ _ hl]
     · simp at h
   · simp at h
 | cpy s y sz =>
   simp only [memV] at h ⊢
   unfold cpyV at h ⊢
   obtain ⟨news,h1,h0⟩ := bnone h
   replace h := h0
   clear h0
   rw [srcE_loc (fun l hl => ha l (.inl hl))]
   simp only [h1,Option.bind_some]
   obtain ⟨p,hp,h0⟩ := bnone h
   replace h := h0
   clear h0
   simp only [hp,Option.bind_some]
   split at h
   · simp at h
   · rename_i hone
     rw [if_neg hone]
     have hw : writesL d (.cpy s y sz) env = [p.1] := by simp only [writesL]; exact slP_ptrL hp
     have e1 := ha p.1 (.inr (by rw [hw]; simp))
     simp only [e1]
     split at h
     · rename_i r hr
       try simp only [hr]
       split at h
       · rename_i hc
         rw [if_pos hc]
         simp only [Option.some.injEq,Prod.mk.injEq] at h
         obtain ⟨rfl,rfl⟩ := h
         refine ⟨_,rfl,fun q hq => ?_,fun q hq => ?_⟩
         · rw [hw] at hq; simp at hq; subst hq; simp
         · rw [hw] at hq; simp at hq; rw [upd_ne _ _ hq]
       · simp at h
     · simp at h
 | clr y sz z =>
   simp only [memV,Option.map_eq_some_iff,Prod.mk.injEq] at h ⊢
   obtain ⟨H2,h,rfl,rfl⟩ := h
   unfold clrV at h ⊢
   split at h
   · simp at h
   · rename_i hone
     obtain ⟨p,hp,h0⟩ := bnone h
     replace h := h0
     clear h0
     have hw : writesL d (.clr y sz z) env = [p.1] := by simp only [writesL]; exact slP_ptrL hp
     have e1 := ha p.1 (.inr (by rw [hw]; simp))
     split at h
     · rename_i r hr
       split at h
       · rename_i hc
         simp only [Option.some.injEq] at h
         subst h
         refine ⟨_,⟨_,by rw [if_neg hone,hp]; simp only [Option.bind_some,e1,hr]; rw [if_pos hc],rfl,rfl⟩,fun q hq => ?_,fun q hq => ?_⟩
         · rw [hw] at hq; simp at hq; subst hq; simp
         · rw [hw] at hq; simp at hq; rw [upd_ne _ _ hq]
       · simp at h
     · simp at h
 | _ => simp [memV] at h
theorem memV_frame {d : Option Nat} {i : Ins} {env : Env} {H H' : Hp} {x : AV} (h : memV d i env H = some (x,H')) : ∀ l,l ∉ writesL d i env → H' l = H l := by
 obtain ⟨H1',h1,_,h3⟩ := memV_loc h (H1 := H) (fun _ _ => rfl)
 rw [h] at h1
 simp only [Option.some.injEq,Prod.mk.injEq] at h1
 obtain ⟨_,rfl⟩ := h1
 exact h3
theorem memV_cong {d : Option Nat} {i : Ins} {env env' : Env} (h : ∀ x ∈ i.os,ev env x = ev env' x) (H : Hp) : memV d i env H = memV d i env' H ∧ readsL i env = readsL i env' ∧ writesL d i env = writesL d i env' := by
 cases i with
 | load m x => simp only [memV,readsL,writesL]; rw [h x (by simp [Ins.os])]; simp
 | box x => simp only [memV,readsL,writesL]; rw [h x (by simp [Ins.os])]; simp
 | store m x y => simp only [memV,readsL,writesL]; rw [h x (by simp [Ins.os]),h y (by simp [Ins.os])]; simp
 | app x y sz b => simp only [memV,readsL,writesL]; rw [h x (by simp [Ins.os]),h y (by simp [Ins.os])]; simp
 | cpy x y sz => simp only [memV,readsL,writesL]; rw [h x (by simp [Ins.os]),h y (by simp [Ins.os])]; simp
 | litso sz z ps =>
   simp only [memV,readsL,writesL]
   have : (ps.map fun p => (p.1,ev env p.2)) = ps.map fun p => (p.1,ev env' p.2) :=
     List.map_congr_left fun p hp => by rw [h p.2 (by simp only [Ins.os]; exact List.mem_map_of_mem (f := fun p : Nat × O => p.2) hp)]
   rw [this]; simp
 | clr x sz z => simp only [memV,readsL,writesL]; rw [h x (by simp [Ins.os])]; simp
 | mks n c sz b z => simp only [memV,readsL,writesL]; rw [h n (by simp [Ins.os]),h c (by simp [Ins.os])]; simp
 | _ => simp [memV,readsL,writesL]
end Go.Am
