import Derived.Test.YtfinkeaikbmpgaaKAm13
set_option linter.unusedSimpArgs false
set_option linter.unusedVariables false
set_option linter.unnecessarySimpa false
set_option linter.defProp false
/- THE ABSTRACT MACHINE, part 19: regions whose order is drawn: whichever order, the same comes of it. -/
namespace Go.Am
open Go Go.RowKit
def Quiet (S : St) (i : Ins) (env : Env) (res : AV) : Prop :=
 match i with
 | .call f args => PureC S.P S.G f (args.map (ev env)) res
 | .callv x args => ∃ f first cap,ev env x = .fn f first cap ∧ goBody S.P f = true ∧ PureC S.P S.G f (first ++ args.map (ev env) ++ cap) res
 | _ => False
def FarC (S : St) (F : List Lb) (f : Nat) (args : List AV) (H : Hp) (k : AV → Hp → Prop) : Prop :=
 ∃ Q : AV → Hp → Prop,CallT S f args H Q ∧ (∃ x H',Q x H') ∧ ∀ x H',Q x H' → (∀ l : Lb,l.fam ∈ F → H' l = H l) ∧ k x H'
def Act1f (S : St) (fp : Fp) (d : Option Nat) (i : Ins) (env : Env) (H : Hp) (k : AV → Hp → Prop) : Prop :=
 match fp with
 | .no => ∃ x,(stillV i env = some x ∨ Quiet S i env x) ∧ k x H
 | .rw R W => ∃ x H',memV d i env H = some (x,H') ∧ (∀ l ∈ readsL i env,l.fam ∈ R ∨ l.fam ∈ W) ∧ (∀ l ∈ writesL d i env,l.fam ∈ W) ∧ k x H'
 | .all => Act1 S d i env H k
 | .far F => match i with
   | .call f args => FarC S F f (args.map (ev env)) H k
   | _ => False
theorem CallT.mono {S : St} {f : Nat} {args : List AV} {H : Hp} {k k' : AV → Hp → Prop} (hk : ∀ x H,k x H → k' x H) (h : CallT S f args H k) : CallT S f args H k' := by
 rcases h with ⟨res,h1,h2⟩ | ⟨cargs,res,h1,h2,h3,h4⟩ | ⟨ρ,Hin,cargs,Q,h1,h2,h3,h4,h5,h6,h7,h8,h9⟩
 · exact .inl ⟨res,h1,hk _ _ h2⟩
 · exact .inr (.inl ⟨cargs,res,h1,h2,h3,hk _ _ h4⟩)
 · refine .inr <| .inr ⟨ρ,Hin,cargs,Q,h1,h2,h3,h4,h5,h6,h7,h8,fun x H' hq => ?_⟩
   obtain ⟨ρ',H'',q1,q2,q3,q4,q5,q6,q7,q8,q9⟩ := h9 x H' hq
   exact ⟨ρ',H'',q1,q2,q3,q4,q5,q6,q7,q8,hk _ _ q9⟩
theorem Act1.mono {S : St} {d : Option Nat} {i : Ins} {env : Env} {H : Hp} {k k' : AV → Hp → Prop} (hk : ∀ x H,k x H → k' x H) (h : Act1 S d i env H k) : Act1 S d i env H k' := by
 cases i with
 | load m a =>
   simp only [Act1] at h ⊢
   rcases h with ⟨x,h1,h2⟩ | ⟨x,h1,h2⟩
   · exact .inl ⟨x,h1,hk _ _ h2⟩
   · exact .inr ⟨x,h1,hk _ _ h2⟩
 | box x =>
   simp only [Act1] at h ⊢
   obtain ⟨n,h1,h2,h3,h4,h5,h6⟩ := h
   exact ⟨n,h1,h2,h3,h4,h5,hk _ _ h6⟩
 | new cs =>
   simp only [Act1] at h ⊢
   obtain ⟨n,h1,h2,h3,h4,h5⟩ := h
   exact ⟨n,h1,h2,h3,h4,hk _ _ h5⟩
 | store m a x =>
   simp only [Act1] at h ⊢
   obtain ⟨h1,H',h2,h3⟩ := h
   exact ⟨h1,H',h2,hk _ _ h3⟩
 | app s x sz b =>
   simp only [Act1] at h ⊢
   obtain ⟨n,h1,y,H',h2,h3⟩ := h
   exact ⟨n,h1,y,H',h2,hk _ _ h3⟩
 | call f args => exact CallT.mono hk h
 | eqn n x =>
   simp only [Act1] at h ⊢
   obtain ⟨bs,h1,h2⟩ := h
   exact ⟨bs,h1,fun b hb => hk _ _ (h2 b hb)⟩
 | appz s n sz b z =>
   simp only [Act1] at h ⊢
   obtain ⟨q,h1,y,H',h2,h3⟩ := h
   exact ⟨q,h1,y,H',h2,hk _ _ h3⟩
 | litso sz z ps =>
   simp only [Act1] at h ⊢
   obtain ⟨q,h1,y,H',h2,h3⟩ := h
   exact ⟨q,h1,y,H',h2,hk _ _ h3⟩
 | cap x =>
   simp only [Act1] at h ⊢
   obtain ⟨R,h1,h2⟩ := h
   exact ⟨R,h1,fun m hm hm2 => hk _ _ (h2 m hm hm2)⟩
 | cpy s x sz =>
   simp only [Act1] at h ⊢
   obtain ⟨y,H',h1,h2⟩ := h
   exact ⟨y,H',h1,hk _ _ h2⟩
 | clr x sz z =>
   simp only [Act1] at h ⊢
   obtain ⟨H',h1,h2⟩ := h
   exact ⟨H',h1,hk _ _ h2⟩
 | mks n c sz b z =>
   simp only [Act1] at h ⊢
   obtain ⟨q,h1,y,H',h2,h3⟩ := h
   exact ⟨q,h1,y,H',h2,hk _ _ h3⟩
 | callx f args =>
   simp only [Act1] at h ⊢
   obtain ⟨res,h1,h2⟩ := h
   exact ⟨res,h1,hk _ _ h2⟩
 | callv x args =>
   simp only [Act1] at h ⊢
   obtain ⟨f,first,cap,h1,h2,h3⟩ := h
   exact ⟨f,first,cap,h1,h2,CallT.mono hk h3⟩
 | _ =>
   simp only [Act1] at h ⊢
   obtain ⟨x,h1,h2⟩ := h
   exact ⟨x,h1,hk _ _ h2⟩
theorem Act1f.mono {S : St} {fp : Fp} {d : Option Nat} {i : Ins} {env : Env} {H : Hp} {k k' : AV → Hp → Prop} (hk : ∀ x H,k x H → k' x H) (h : Act1f S fp d i env H k) : Act1f S fp d i env H k' := by
 cases fp with
 | no => obtain ⟨x,h1,h2⟩ := h; exact ⟨x,h1,hk _ _ h2⟩
 | rw R W => obtain ⟨x,H',h1,h2,h3,h4⟩ := h; exact ⟨x,H',h1,h2,h3,hk _ _ h4⟩
 | all => exact Act1.mono hk h
 | far F =>
   cases i <;> simp only [Act1f] at h ⊢
   obtain ⟨Q,h1,h2,h3⟩ := h
   exact ⟨Q,h1,h2,fun x H' hq => ⟨(h3 x H' hq).1,hk _ _ (h3 x H' hq).2⟩⟩
theorem Act1f.act {S : St} {fp : Fp} {d : Option Nat} {i : Ins} {env : Env} {H : Hp} {k : AV → Hp → Prop} (h : Act1f S fp d i env H k) : Act1 S d i env H k := by
 cases fp with
 | all => exact h
 | far F =>
   cases i <;> simp only [Act1f] at h
   obtain ⟨Q,h1,h2,h3⟩ := h
   exact CallT.mono (fun x H' hq => (h3 x H' hq).2) h1
 | no =>
   obtain ⟨x,h1,h2⟩ := h
   cases i with
   | load m a =>
     rcases h1 with h1 | h1
     · exact .inl ⟨x,h1,h2⟩
     · exact absurd h1 (by simp [Quiet])
   | call f args =>
     rcases h1 with h1 | h1
     · simp [stillV] at h1
     · exact .inl ⟨x,h1,h2⟩
   | callv y args =>
     rcases h1 with h1 | ⟨f,first,cap,e1,e2,e3⟩
     · simp [stillV] at h1
     · exact ⟨f,first,cap,e1,e2,.inl ⟨x,e3,h2⟩⟩
   | box _ => rcases h1 with h1 | h1 <;> simp [stillV,Quiet] at h1
   | eqn _ _ => rcases h1 with h1 | h1 <;> simp [stillV,Quiet] at h1
   | new _ => rcases h1 with h1 | h1 <;> simp [stillV,Quiet] at h1
   | store _ _ _ => rcases h1 with h1 | h1 <;> simp [stillV,Quiet] at h1
   | app _ _ _ _ => rcases h1 with h1 | h1 <;> simp [stillV,Quiet] at h1
   | cap _ => rcases h1 with h1 | h1 <;> simp [stillV,Quiet] at h1
   | appz _ _ _ _ _ => rcases h1 with h1 | h1 <;> simp [stillV,Quiet] at h1
   | litso _ _ _ => rcases h1 with h1 | h1 <;> simp [stillV,Quiet] at h1
   | cpy _ _ _ => rcases h1 with h1 | h1 <;> simp [stillV,Quiet] at h1
   | clr _ _ _ => rcases h1 with h1 | h1 <;> simp [stillV,Quiet] at h1
   | mks _ _ _ _ _ => rcases h1 with h1 | h1 <;> simp [stillV,Quiet] at h1
   | callx _ _ => rcases h1 with h1 | h1 <;> simp [stillV,Quiet] at h1
   | _ =>
     rcases h1 with h1 | h1
     · exact ⟨x,h1,h2⟩
     · exact absurd h1 (by simp [Quiet])
 | rw R W =>
   obtain ⟨x,H',h1,_,_,h2⟩ := h
   cases i with
   | load m a =>
     simp only [memV,Option.map_eq_some_iff,Prod.mk.injEq] at h1
     obtain ⟨y,h1,rfl,rfl⟩ := h1
     exact .inr ⟨y,h1,h2⟩
   | box y =>
     simp only [memV] at h1
     obtain ⟨n,rfl,h0⟩ := bnone h1
     split at h0
     · rename_i hc
       simp only [Option.some.injEq,Prod.mk.injEq] at h0
       obtain ⟨rfl,rfl⟩ := h0
       exact ⟨n,rfl,hc.1,hc.2.1,hc.2.2.1,hc.2.2.2,h2⟩
     · simp at h0
   | new cs =>
     simp only [memV] at h1
     obtain ⟨n,rfl,h0⟩ := bnone h1
     split at h0
     · rename_i hc
       simp only [Option.some.injEq,Prod.mk.injEq] at h0
       obtain ⟨rfl,rfl⟩ := h0
       exact ⟨n,rfl,hc.1,hc.2.1,hc.2.2,h2⟩
     · simp at h0
   | store m a y =>
     simp only [memV] at h1
     split at h1
     · rename_i hd
       simp only [Option.map_eq_some_iff,Prod.mk.injEq] at h1
       obtain ⟨H2,h1,rfl,rfl⟩ := h1
       exact ⟨hd,H2,h1,h2⟩
     · simp at h1
   | app s y sz bytes =>
     simp only [memV] at h1
     obtain ⟨n,rfl,h0⟩ := bnone h1
     exact ⟨n,rfl,x,H',h0,h2⟩
   | litso sz z ps =>
     simp only [memV] at h1
     obtain ⟨q,rfl,h0⟩ := bnone h1
     exact ⟨q,rfl,x,H',h0,h2⟩
   | cpy s y sz =>
     simp only [memV] at h1
     exact ⟨x,H',h1,h2⟩
   | mks n c sz b z =>
     simp only [memV] at h1
     obtain ⟨q,rfl,h0⟩ := bnone h1
     exact ⟨q,rfl,x,H',h0,h2⟩
   | clr y sz z =>
     simp only [memV,Option.map_eq_some_iff,Prod.mk.injEq] at h1
     obtain ⟨H2,h1,rfl,rfl⟩ := h1
     exact ⟨H2,h1,h2⟩
   | _ => simp [memV] at h1
theorem Quiet_cong {S : St} {i : Ins} {env env' : Env} (h : ∀ x ∈ i.os,ev env x = ev env' x) {x : AV} (hq : Quiet S i env x) : Quiet S i env' x := by
 cases i with
 | call f args =>
   simp only [Quiet] at hq ⊢
   have : args.map (ev env) = args.map (ev env') := List.map_congr_left fun p hp => h p (by simpa [Ins.os] using hp)
   rw [← this]; exact hq
 | callv y args =>
   simp only [Quiet] at hq ⊢
   have : args.map (ev env) = args.map (ev env') := List.map_congr_left fun p hp => h p (by simp only [Ins.os,List.mem_cons]; exact .inr hp)
   rw [← this,← h y (by simp [Ins.os])]; exact hq
 | _ => exact hq
theorem Act1f_cong {S : St} {fp : Fp} {d : Option Nat} {i : Ins} {env env' : Env} (h : ∀ x ∈ i.os,ev env x = ev env' x) {H : Hp} {k : AV → Hp → Prop} (ha : Act1f S fp d i env H k) : Act1f S fp d i env' H k := by
 cases fp with
 | no =>
   obtain ⟨x,h1,h2⟩ := ha
   refine ⟨x,?_,h2⟩
   rcases h1 with h1 | h1
   · exact .inl (by rw [← stillV_cong h]; exact h1)
   · exact .inr (Quiet_cong h h1)
 | rw R W =>
   obtain ⟨x,H',h1,h2,h3,h4⟩ := ha
   obtain ⟨e1,e2,e3⟩ := memV_cong (d := d) h H
   exact ⟨x,H',by rw [← e1]; exact h1,by rw [← e2]; exact h2,by rw [← e3]; exact h3,h4⟩
 | all => exact Act1_cong h ha
 | far F =>
   cases i with
   | call f args =>
     simp only [Act1f] at ha ⊢
     have : args.map (ev env) = args.map (ev env') := List.map_congr_left fun p hp => h p (by simpa [Ins.os] using hp)
     rw [← this]; exact ha
   | _ => simp only [Act1f] at ha
theorem Act1f.farF {S : St} {F : List Lb} {d : Option Nat} {i : Ins} {env : Env} {H : Hp} {k : AV → Hp → Prop} (h : Act1f S (.far F) d i env H k) : Act1f S (.far F) d i env H fun x H' => (∀ l : Lb,l.fam ∈ F → H' l = H l) ∧ k x H' := by
 cases i <;> simp only [Act1f] at h ⊢
 obtain ⟨Q,h1,h2,h3⟩ := h
 exact ⟨Q,h1,h2,fun x H' hq => ⟨(h3 x H' hq).1,h3 x H' hq⟩⟩
def St1 (S : St) (p : LIns × Fp) (env : Env) (H : Hp) (k : Env → Hp → Prop) : Prop :=
 (gW p.1.g env = some true ∧ (∀ n,p.1.d = some n → n < S.N) ∧ Act1f S p.2 p.1.d p.1.i env H fun x H' => k (putO env p.1.d x) H') ∨
   (gW p.1.g env = some false ∧ (∀ n,p.1.d = some n → n < S.N) ∧ k (putO env p.1.d .un) H)
def AOf (S : St) : List (Nat × LIns × Fp) → Env → Hp → (Env → Hp → Prop) → Prop
 | [],env,H,k => k env H
 | p :: r,env,H,k => St1 S p.2 env H fun e h => AOf S r e h k
def dstFree (d : Option Nat) (us : List Nat) : Bool := match d with | some n => !us.contains n | none => true
def regsApart (p q : LIns) : Bool := dstFree p.d q.us && dstFree q.d p.us && (p.d.isNone || p.d != q.d)
def Fp.isFar : Fp → Bool
 | .far _ => true
 | _ => false
def fpApart : Fp → Fp → Bool
 | .no,_ => true
 | .rw _ _,.no => true
 | .rw R W,.rw R' W' => W.all (fun l => !R'.contains l && !W'.contains l) && R.all (fun l => !W'.contains l)
 | .rw R W,.far F => W.isEmpty && R.all (fun l => F.contains l)
 | .far _,.no => true
 | .far F,.rw R W => W.isEmpty && R.all (fun l => F.contains l)
 | _,_ => false
def Ins.isCall : Ins → Bool
 | .call _ _ | .callv _ _ => true
 | _ => false
def indep (p q : LIns × Fp) : Bool := regsApart p.1 q.1 && (fpApart p.2 q.2 && !(p.2.isFar && q.1.i.isCall))
section
variable {S : St} {env : Env} {H : Hp}
theorem St1.mono {p : LIns × Fp} {k k' : Env → Hp → Prop} (hk : ∀ e h,k e h → k' e h) (h : St1 S p env H k) : St1 S p env H k' := by
 rcases h with ⟨h1,h2,h3⟩ | ⟨h1,h2,h3⟩
 · exact .inl ⟨h1,h2,h3.mono fun _ _ => hk _ _⟩
 · exact .inr ⟨h1,h2,hk _ _ h3⟩
theorem AOf.mono {k k' : Env → Hp → Prop} (hk : ∀ e h,k e h → k' e h) : ∀ (l : List (Nat × LIns × Fp)) (env : Env) (H : Hp),AOf S l env H k → AOf S l env H k'
 | [],env,H,h => hk _ _ h
 | p :: r,env,H,h => St1.mono (fun e h' => AOf.mono hk r e h') h
theorem putO_comm {d d' : Option Nat} (h : d = none ∨ d ≠ d') (x y : AV) : putO (putO env d x) d' y = putO (putO env d' y) d x := by
 cases d with
 | none => rfl
 | some n =>
   cases d' with
   | none => rfl
   | some m =>
     have : n ≠ m := by rcases h with h | h; simp at h; simpa using h
     funext q
     simp only [putO,put]
     by_cases e1 : q = n
     · by_cases e2 : q = m
       · exact absurd (e1.symm.trans e2) this
       · simp [e1,this]
     · by_cases e2 : q = m
       · simp [e2,Ne.symm this]
       · simp [e1,e2]
theorem gW_put {g : Option (Nat × Bool)} {d : Option Nat} {x : AV} (h : ∀ n,d = some n → n ∉ (match g with | some (s,_) => [s] | none => ([] : List Nat))) : gW g (putO env d x) = gW g env := by
 cases g with
 | none => rfl
 | some p =>
   obtain ⟨s,t⟩ := p
   cases d with
   | none => rfl
   | some m =>
     have := h m rfl
     simp at this
     simp [gW,putO,put,Ne.symm this]
theorem dstFree_spec {d : Option Nat} {us : List Nat} (h : dstFree d us = true) : ∀ n,d = some n → n ∉ us := by
 rintro n rfl
 simpa [dstFree] using h
theorem seen_put {q : LIns} {d : Option Nat} (h : dstFree d q.us = true) (x : AV) (env : Env) : gW q.g (putO env d x) = gW q.g env ∧ ∀ o ∈ q.i.os,ev (putO env d x) o = ev env o := by
 have h' := dstFree_spec h
 refine ⟨gW_put fun n hn hm => h' n hn (by simp only [LIns.us,List.mem_append]; exact .inr hm),fun o ho => ev_put fun n hn hm => h' n hn ?_⟩
 simp only [LIns.us,List.mem_append,List.mem_flatMap]
 exact .inl ⟨o,ho,hm⟩
theorem St1.shift {q : LIns × Fp} {d : Option Nat} (h : dstFree d q.1.us = true) (hd : d = none ∨ d ≠ q.1.d) {x : AV} {k : Env → Hp → Prop} (hs : St1 S q (putO env d x) H k) :
   St1 S q env H fun e h => k (putO e d x) h ∧ ∃ y,e = putO env q.1.d y := by
 obtain ⟨e1,e2⟩ := seen_put h x env
 rcases hs with ⟨h1,h2,h3⟩ | ⟨h1,h2,h3⟩
 · exact .inl ⟨by rw [← e1]; exact h1,h2,(Act1f_cong e2 h3).mono fun y H' hk => ⟨by rw [← putO_comm hd]; exact hk,y,rfl⟩⟩
 · exact .inr ⟨by rw [← e1]; exact h1,h2,by rw [← putO_comm hd]; exact h3,_,rfl⟩
theorem St1.swap {p q : LIns × Fp} (hi : indep p q = true) {k : Env → Hp → Prop} (h : St1 S p env H fun e h => St1 S q e h k) : St1 S q env H fun e h => St1 S p e h k := by
 simp only [indep,regsApart,Bool.and_eq_true,Bool.or_eq_true,Option.isNone_iff_eq_none,bne_iff_ne] at hi
 obtain ⟨⟨⟨r1,r2⟩,r3⟩,hf,hfar⟩ := hi
 obtain ⟨lp,fp⟩ := p
 obtain ⟨lq,fq⟩ := q
 simp only at r1 r2 r3 hf
 have r3' : lq.d = none ∨ lq.d ≠ lp.d := by
   rcases r3 with r3 | r3
   · by_cases e : lq.d = none
     · exact .inl e
     · exact .inr (by rw [r3]; exact e)
   · exact .inr (Ne.symm r3)
 rcases h with ⟨h1,h2,h3⟩ | ⟨h1,h2,h3⟩
 · cases fp with
   | no =>
     obtain ⟨x,h4,h5⟩ := h3
     refine (h5.shift r1 r3).mono ?_
     rintro e h' ⟨hk,y,rfl⟩
     obtain ⟨e1,e2⟩ := seen_put r2 y env
     refine .inl ⟨by simp only; rw [e1]; exact h1,h2,x,?_,hk⟩
     rcases h4 with h4 | h4
     · exact .inl (by simp only; rw [stillV_cong e2]; exact h4)
     · exact .inr (Quiet_cong (fun o ho => (e2 o ho).symm) h4)
   | rw R W =>
     obtain ⟨x,H',m1,m2,m3,m4⟩ := h3
     have mem2 : ∀ y,memV lp.d lp.i (putO env lq.d y) H = some (x,H') ∧ readsL lp.i (putO env lq.d y) = readsL lp.i env ∧ writesL lp.d lp.i (putO env lq.d y) = writesL lp.d lp.i env := fun y => by
       obtain ⟨c1,c2,c3⟩ := memV_cong (d := lp.d) (seen_put r2 y env).2 H
       exact ⟨by rw [c1]; exact m1,c2,c3⟩
     obtain ⟨f1,f2⟩ := seen_put r1 x env
     have g2 : ∀ y,gW lp.g (putO env lq.d y) = some true := fun y => by rw [(seen_put r2 y env).1]; exact h1
     rcases m4 with ⟨k1,k2,k3⟩ | ⟨k1,k2,k3⟩
     · cases fq with
       | no =>
         obtain ⟨y,k4,k5⟩ := k3
         refine .inl ⟨by simp only; rw [← f1]; exact k1,k2,y,?_,?_⟩
         · rcases k4 with k4 | k4
           · exact .inl (by simp only; rw [← stillV_cong f2]; exact k4)
           · exact .inr (Quiet_cong f2 k4)
         · exact .inl ⟨g2 y,h2,x,H',(mem2 y).1,by simp only; rw [(mem2 y).2.1]; exact m2,by simp only; rw [(mem2 y).2.2]; exact m3,by simp only; rw [← putO_comm r3]; exact k5⟩
       | rw R' W' =>
         obtain ⟨y,H'',k4,k5,k6,k7⟩ := k3
         obtain ⟨c1,c2,c3⟩ := memV_cong (d := lq.d) f2 H'
         simp only at k4 k5 k6 k7
         rw [c1] at k4
         rw [c2] at k5
         rw [c3] at k6
         simp only [fpApart,Bool.and_eq_true,List.all_eq_true,Bool.not_eq_true',List.contains_eq_mem,decide_eq_false_iff_not] at hf
         obtain ⟨hf1,hf2⟩ := hf
         have pW : ∀ l,l ∈ writesL lp.d lp.i env → l.fam ∉ R' ∧ l.fam ∉ W' := fun l hl => hf1 l.fam (m3 l hl)
         have hagree : ∀ l,l ∈ readsL lq.i env ∨ l ∈ writesL lq.d lq.i env → H l = H' l := by
           intro l hl
           refine (memV_frame m1 l fun hw => ?_).symm
           rcases hl with hl | hl
           · rcases k5 l hl with e | e
             · exact (pW l hw).1 e
             · exact (pW l hw).2 e
           · exact (pW l hw).2 (k6 l hl)
         obtain ⟨H2,a1,a2,a3⟩ := memV_loc k4 hagree
         have hagree2 : ∀ l,l ∈ readsL lp.i env ∨ l ∈ writesL lp.d lp.i env → H2 l = H l := by
           intro l hl
           refine a3 l fun hw => ?_
           rcases hl with hl | hl
           · rcases m2 l hl with e | e
             · exact hf2 l.fam e (k6 l hw)
             · exact (hf1 l.fam e).2 (k6 l hw)
           · exact (pW l hl).2 (k6 l hw)
         obtain ⟨H3,b1,b2,b3⟩ := memV_loc m1 hagree2
         have hH : H3 = H'' := by
           funext l
           by_cases hw : l ∈ writesL lp.d lp.i env
           · rw [b2 l hw]
             exact (memV_frame k4 l fun hq => (pW l hw).2 (k6 l hq)).symm
           · rw [b3 l hw]
             by_cases hq : l ∈ writesL lq.d lq.i env
             · exact a2 l hq
             · rw [a3 l hq,memV_frame k4 l hq,memV_frame m1 l hw]
         subst hH
         refine .inl ⟨by simp only; rw [← f1]; exact k1,k2,y,H2,a1,k5,k6,?_⟩
         obtain ⟨d1,d2,d3⟩ := memV_cong (d := lp.d) (seen_put r2 y env).2 H2
         exact .inl ⟨g2 y,h2,x,H3,by simp only; rw [d1]; exact b1,by simp only; rw [d2]; exact m2,by simp only; rw [d3]; exact m3,by simp only; rw [← putO_comm r3]; exact k7⟩
       | all => simp [fpApart] at hf
       | far F =>
         simp only [fpApart,Bool.and_eq_true,List.isEmpty_iff,List.all_eq_true,List.contains_eq_mem,decide_eq_true_eq] at hf
         obtain ⟨rfl,hf⟩ := hf
         have hw0 : ∀ l,l ∉ writesL lp.d lp.i env := fun l hl => by simpa using m3 l hl
         have hH : H' = H := funext fun l => memV_frame m1 l (hw0 l)
         subst hH
         refine .inl ⟨by simp only; rw [← f1]; exact k1,k2,?_⟩
         refine Act1f.mono (fp := .far F) (k := fun y H2 => (∀ l : Lb,l.fam ∈ F → H2 l = H' l) ∧ k (putO (putO env lp.d x) lq.d y) H2) ?_ (Act1f_cong f2 (Act1f.farF k3))
         rintro y H2 ⟨g1,g3⟩
         have hagree2 : ∀ l,l ∈ readsL lp.i env ∨ l ∈ writesL lp.d lp.i env → H2 l = H' l := by
           intro l hl
           rcases hl with hl | hl
           · rcases m2 l hl with e | e
             · exact g1 l (hf _ e)
             · simp at e
           · exact absurd hl (hw0 l)
         obtain ⟨H3,b1,b2,b3⟩ := memV_loc m1 hagree2
         have hH : H3 = H2 := funext fun l => b3 l (hw0 l)
         subst hH
         obtain ⟨d1,d2,d3⟩ := memV_cong (d := lp.d) (seen_put r2 y env).2 H3
         exact .inl ⟨g2 y,h2,x,H3,by simp only; rw [d1]; exact b1,by simp only; rw [d2]; exact m2,by simp only; rw [d3]; exact m3,by simp only; rw [← putO_comm r3]; exact g3⟩
     · refine .inr ⟨by simp only; rw [← f1]; exact k1,k2,?_⟩
       exact .inl ⟨g2 .un,h2,x,H',(mem2 .un).1,by simp only; rw [(mem2 .un).2.1]; exact m2,by simp only; rw [(mem2 .un).2.2]; exact m3,by simp only; rw [← putO_comm r3]; exact k3⟩
   | all => cases fq <;> simp [fpApart] at hf
   | far F =>
     cases hli : lp.i with
     | call f args =>
       rw [hli] at h3
       simp only [Act1f] at h3
       obtain ⟨Q,m1,⟨x0,H0,m2⟩,m3⟩ := h3
       have hfr : ∀ x H',Q x H' → ∀ l : Lb,l.fam ∈ F → H' l = H l := fun x H' hq => (m3 x H' hq).1
       have hst : ∀ x H',Q x H' → St1 S (lq,fq) (putO env lp.d x) H' k := fun x H' hq => (m3 x H' hq).2
       have fs := fun x : AV => seen_put r1 x env
       have back : ∀ (y : AV) (k' : AV → Hp → Prop),(∀ x H',Q x H' → k' x H') → Act1f S (.far F) lp.d lp.i (putO env lq.d y) H k' := fun y k' hk' => by
         have h4 : Act1f S (.far F) lp.d lp.i env H k' := by
           rw [hli]; simp only [Act1f]
           exact ⟨Q,m1,⟨x0,H0,m2⟩,fun x H' hq => ⟨hfr x H' hq,hk' x H' hq⟩⟩
         exact Act1f_cong (fun o ho => ((seen_put r2 y env).2 o ho).symm) h4
       have g2 : ∀ y,gW lp.g (putO env lq.d y) = some true := fun y => by rw [(seen_put r2 y env).1]; exact h1
       rcases hst x0 H0 m2 with ⟨k1,k2,k3⟩ | ⟨k1,k2,k3⟩
       · simp only at k1 k2 k3
         rw [(fs x0).1] at k1
         have hall : ∀ x H',Q x H' → Act1f S fq lq.d lq.i (putO env lp.d x) H' fun y H'' => k (putO (putO env lp.d x) lq.d y) H'' := by
           intro x H' hq
           rcases hst x H' hq with ⟨e1,e2,e3⟩ | ⟨e1,e2,e3⟩
           · exact e3
           · simp only at e1; rw [(fs x).1,k1] at e1; simp at e1
         cases fq with
         | no =>
           have hnc : ∀ (y : AV) (env' : Env),Quiet S lq.i env' y → False := by
             intro y env' hq
             have : lq.i.isCall = false := by simpa [Fp.isFar] using hfar
             cases hi : lq.i <;> simp_all [Quiet,Ins.isCall]
           obtain ⟨y,k4,_⟩ := k3
           have k4 : stillV lq.i env = some y := by
             rcases k4 with k4 | k4
             · rwa [stillV_cong (fs x0).2] at k4
             · exact (hnc y _ k4).elim
           refine .inl ⟨k1,k2,y,.inl k4,?_⟩
           refine .inl ⟨g2 y,h2,back y _ fun x H' hq => ?_⟩
           obtain ⟨y',e1,e2⟩ := hall x H' hq
           have e1 : stillV lq.i env = some y' := by
             rcases e1 with e1 | e1
             · rwa [stillV_cong (fs x).2] at e1
             · exact (hnc y' _ e1).elim
           rw [k4] at e1; cases e1
           simp only; rw [← putO_comm r3]; exact e2
         | rw R W =>
           simp only [fpApart,Bool.and_eq_true,List.isEmpty_iff,List.all_eq_true,List.contains_eq_mem,decide_eq_true_eq] at hf
           obtain ⟨rfl,hf⟩ := hf
           have one : ∀ x H' ,Q x H' → ∀ y H2,memV lq.d lq.i (putO env lp.d x) H' = some (y,H2) → (∀ l ∈ readsL lq.i (putO env lp.d x),l.fam ∈ R ∨ l.fam ∈ ([] : List Lb)) → (∀ l ∈ writesL lq.d lq.i (putO env lp.d x),l.fam ∈ ([] : List Lb)) →
               memV lq.d lq.i env H = some (y,H) ∧ H2 = H' ∧ (∀ l ∈ readsL lq.i env,l.fam ∈ R ∨ l.fam ∈ ([] : List Lb)) ∧ ∀ l ∈ writesL lq.d lq.i env,l.fam ∈ ([] : List Lb) := by
             intro x H' hq y H2 e1 e2 e3
             obtain ⟨c1,c2,c3⟩ := memV_cong (d := lq.d) (fs x).2 H'
             rw [c1] at e1; rw [c2] at e2; rw [c3] at e3
             have hw0 : ∀ l,l ∉ writesL lq.d lq.i env := fun l hl => by simpa using e3 l hl
             have hag : ∀ l,l ∈ readsL lq.i env ∨ l ∈ writesL lq.d lq.i env → H l = H' l := by
               intro l hl
               rcases hl with hl | hl
               · rcases e2 l hl with e | e
                 · exact (hfr x H' hq l (hf _ e)).symm
                 · simp at e
               · exact absurd hl (hw0 l)
             obtain ⟨H3,b1,b2,b3⟩ := memV_loc e1 hag
             have hH : H3 = H := funext fun l => b3 l (hw0 l)
             subst hH
             exact ⟨b1,funext fun l => memV_frame e1 l (hw0 l),e2,e3⟩
           obtain ⟨y,H2,q1,q2,q3,_⟩ := k3
           obtain ⟨a1,_,a3,a4⟩ := one x0 H0 m2 y H2 q1 q2 q3
           refine .inl ⟨k1,k2,y,H,a1,a3,a4,?_⟩
           refine .inl ⟨g2 y,h2,back y _ fun x H' hq => ?_⟩
           obtain ⟨y',H2',p1,p2,p3,p4⟩ := hall x H' hq
           obtain ⟨b1,rfl,_,_⟩ := one x H' hq y' H2' p1 p2 p3
           rw [a1] at b1; cases b1
           simp only; rw [← putO_comm r3]; exact p4
         | all => simp [fpApart] at hf
         | far F' => simp [fpApart] at hf
       · simp only at k1 k2 k3
         rw [(fs x0).1] at k1
         refine .inr ⟨k1,k2,?_⟩
         refine .inl ⟨g2 .un,h2,back .un _ fun x H' hq => ?_⟩
         rcases hst x H' hq with ⟨e1,e2,e3⟩ | ⟨e1,e2,e3⟩
         · simp only at e1; rw [(fs x).1,k1] at e1; simp at e1
         · simp only; rw [← putO_comm r3]; exact e3
     | _ => rw [hli] at h3; simp only [Act1f] at h3
 · refine (h3.shift r1 r3).mono ?_
   rintro e h' ⟨hk,y,rfl⟩
   obtain ⟨e1,e2⟩ := seen_put r2 y env
   exact .inr ⟨by simp only; rw [e1]; exact h1,h2,hk⟩
theorem AOf.front {q : Nat × LIns × Fp} {l2 : List (Nat × LIns × Fp)} {k : Env → Hp → Prop} : ∀ (l1 : List (Nat × LIns × Fp)) (env : Env) (H : Hp),(∀ p ∈ l1,indep p.2 q.2 = true) → AOf S (l1 ++ q :: l2) env H k →
   AOf S (q :: (l1 ++ l2)) env H k
 | [],env,H,_,h => h
 | p :: l1,env,H,hi,h => by
   simp only [List.cons_append,AOf] at h ⊢
   refine St1.swap (hi p (by simp)) (h.mono fun e h' hq => ?_)
   have := AOf.front l1 e h' (fun p' hp' => hi p' (by simp [hp'])) hq
   simpa only [AOf] using this
end
end Go.Am

/- THE ABSTRACT MACHINE, part 20: regions whose order is drawn are sound. -/
namespace Go.Am
open Go Go.RowKit
def edgesOf (ops : Array Oper) : List (List Nat) := ops.toList.map fun o => (o.after.toList.filter (Region.binds .any)).map (·.on)
def items : Nat → List LIns → List Fp → List (Nat × LIns × Fp)
 | _,[],_ => []
 | n,i :: r,fs => (n,i,fs.headD .no) :: items (n + 1) r fs.tail
def pairsOK (es : List (List Nat)) : List (Nat × LIns × Fp) → Bool
 | [] => true
 | p :: r => r.all (fun q => (es.getD q.1 []).contains p.1 || indep p.2 q.2) && pairsOK es r
def closeE (acc : List (List Nat)) : List (List Nat) → List (List Nat)
 | [] => acc
 | x :: r => closeE (acc ++ [(x.flatMap fun e => acc.getD e []).foldl (fun a e => if a.contains e then a else e :: a) x]) r
inductive Rch (es : List (List Nat)) : Nat → Nat → Prop where
 | one {p q : Nat} : p ∈ es.getD q [] → Rch es p q
 | more {p r q : Nat} : r ∈ es.getD q [] → Rch es p r → Rch es p q
theorem mem_fold {l x : List Nat} {p : Nat} (h : p ∈ l.foldl (fun a e => if a.contains e then a else e :: a) x) : p ∈ x ∨ p ∈ l := by
 induction l generalizing x with
 | nil => exact .inl h
 | cons e l ih =>
   simp only [List.foldl_cons] at h
   rcases ih h with h | h
   · split at h
     · exact .inl h
     · rcases List.mem_cons.1 h with rfl | h
       · exact .inr (by simp)
       · exact .inl h
   · exact .inr (by simp [h])
theorem closeE_spec (es : List (List Nat)) : ∀ (r acc : List (List Nat)),es.drop acc.length = r → (∀ i p,p ∈ acc.getD i [] → Rch es p i) → ∀ i p,p ∈ (closeE acc r).getD i [] → Rch es p i
 | [],acc,_,h => by simpa [closeE] using h
 | x :: r,acc,hd,h => by
   simp only [closeE]
   have hx : es[acc.length]? = some x := by
     have := congrArg (fun l => l[0]?) hd
     simpa using this
   refine closeE_spec es r _ ?_ ?_
   · rw [List.length_append,List.length_singleton,← List.drop_drop,hd]; rfl
   · intro i p hp
     rw [List.getD_eq_getElem?_getD] at hp
     by_cases hi : i < acc.length
     · rw [List.getElem?_append_left hi,← List.getD_eq_getElem?_getD] at hp
       exact h i p hp
     · rw [List.getElem?_append_right (by omega)] at hp
       by_cases e : i = acc.length
       · subst e
         simp only [Nat.sub_self,List.getElem?_cons_zero,Option.getD_some] at hp
         have hxe : es.getD acc.length [] = x := by rw [List.getD_eq_getElem?_getD,hx]; rfl
         rcases mem_fold hp with hp | hp
         · exact .one (by rw [hxe]; exact hp)
         · obtain ⟨e,he,hp⟩ := List.mem_flatMap.1 hp
           exact .more (by rw [hxe]; exact he) (h e p hp)
       · rw [List.getElem?_eq_none (by simp; omega)] at hp
         simp at hp
def backOK (es : List (List Nat)) (l : List (Nat × LIns × Fp)) : Bool := l.all fun p => (es.getD p.1 []).all fun e => decide (e < p.1)
def ordOK (is : List LIns) (es : List (List Nat)) (fs : List Fp) : Bool := (pairsOK es (items 0 is fs) || pairsOK (closeE [] es) (items 0 is fs)) && backOK es (items 0 is fs)
theorem pairsOK_spec {es : List (List Nat)} : ∀ {l : List (Nat × LIns × Fp)},pairsOK es l = true → l.Pairwise fun p q => p.1 ∈ es.getD q.1 [] ∨ indep p.2 q.2 = true
 | [],_ => .nil
 | p :: r,h => by
   simp only [pairsOK,Bool.and_eq_true,List.all_eq_true,Bool.or_eq_true,List.contains_eq_mem,decide_eq_true_eq] at h
   exact .cons h.1 (pairsOK_spec h.2)
section
variable {K : Kx} {env : Env} {H : Hp} {a : Act} {w : World}
theorem ready_mem {ops : Array Oper} {listed : Array Bool} {i : Nat} : i ∈ Region.ready .any ops listed ↔
   i < ops.size ∧ listed.getD i true = false ∧ ∃ o,ops[i]? = some o ∧ ∀ e ∈ o.after,Region.binds .any e = true → listed.getD e.on false = true := by
 unfold Region.ready
 simp only [List.mem_filter,List.mem_range,Bool.and_eq_true,Bool.not_eq_true']
 constructor
 · rintro ⟨h1,h2,h3⟩
   refine ⟨h1,h2,?_⟩
   cases ho : ops[i]? with
   | none => rw [ho] at h3; simp at h3
   | some o =>
     rw [ho] at h3
     simp only [Option.map_some,Option.getD_some] at h3
     refine ⟨o,rfl,fun e he hb => ?_⟩
     have h3' := Array.all_eq_true_iff_forall_mem.1 h3
     have := h3' e he
     simpa [hb] using this
 · rintro ⟨h1,h2,o,h3,h4⟩
   refine ⟨h1,h2,?_⟩
   rw [h3]
   simp only [Option.map_some,Option.getD_some]
   refine Array.all_eq_true_iff_forall_mem.2 fun e he => ?_
   cases hb : Region.binds .any e with
   | false => rfl
   | true => simpa using h4 e he hb
theorem edgesOf_mem {ops : Array Oper} {i : Nat} {o : Oper} (ho : ops[i]? = some o) {e : Edge} (he : e ∈ o.after) (hb : Region.binds .any e = true) : e.on ∈ (edgesOf ops).getD i [] := by
 unfold edgesOf
 rw [List.getD_eq_getElem?_getD,List.getElem?_map,Array.getElem?_toList,ho]
 simp only [Option.map_some,Option.getD_some,List.mem_map,List.mem_filter,Array.mem_toList_iff]
 exact ⟨e,⟨he,hb⟩,rfl⟩
theorem any_sound {ops : Array Oper} {k : Env → Hp → Prop} {Q : Exit → Act → World → Prop} (hk : ∀ env' H' β' a' w',k env' H' → RelB K β' env' H' a' w' → Q .normal a' w') :
   ∀ (fuel : Nat) (l : List (Nat × LIns × Fp)) (listed : Array Bool) (env : Env) (H : Hp) (a : Act) (w : World) (β : Lb → Option Nat),l.length = fuel →
     l.Pairwise (fun p q => p.1 < q.1) → listed.size = ops.size → (∀ i,i < ops.size → (listed.getD i true = false ↔ ∃ p ∈ l,p.1 = i)) →
     (∀ p ∈ l,p.1 < ops.size ∧ ∃ o,ops[p.1]? = some o ∧ compL K.P K.G ops o = some p.2.1.asIs) →
     l.Pairwise (fun p q => Rch (edgesOf ops) p.1 q.1 ∨ indep p.2 q.2 = true) → (∀ i,i < ops.size → listed.getD i true = true → ∀ e ∈ (edgesOf ops).getD i [],listed.getD e false = true) → (∀ p ∈ l,∀ e ∈ (edgesOf ops).getD p.1 [],e < p.1) →
     AOf ⟨K.P,K.G,K.N⟩ l env H k → RelB K β env H a w → wpAny K.P .any ops Q fuel listed a w := by
 intro fuel
 induction fuel with
 | zero =>
   intro l listed env H a w β hlen _ _ hl _ _ _ _ hA hr
   have : l = [] := List.eq_nil_of_length_eq_zero hlen
   subst this
   refine ⟨?_,hk _ _ _ _ _ hA hr⟩
   rw [List.eq_nil_iff_forall_not_mem]
   intro i hi
   obtain ⟨h1,h2,_⟩ := ready_mem.1 hi
   obtain ⟨p,hp,_⟩ := (hl i h1).1 h2
   simp at hp
 | succ fuel ih =>
   intro l listed env H a w β hlen hsort hsz hl hops hpairs hD hback hA hr
   refine ⟨fun hnil => ?_,fun i hi => ?_⟩
   · exfalso
     cases l with
     | nil => simp at hlen
     | cons p r =>
       obtain ⟨hp1,o,hp2,hp3⟩ := hops p (by simp)
       have : p.1 ∈ Region.ready .any ops listed := by
         refine ready_mem.2 ⟨hp1,(hl p.1 hp1).2 ⟨p,by simp,rfl⟩,o,hp2,fun e he hb => ?_⟩
         have hlt := hback p (by simp) e.on (edgesOf_mem hp2 he hb)
         have hlt2 : e.on < ops.size := by omega
         have hne : ¬ listed.getD e.on true = false := by
           rw [hl e.on hlt2]
           rintro ⟨q,hq,hqe⟩
           rcases List.mem_cons.1 hq with rfl | hq
           · omega
           · have := (List.pairwise_cons.1 hsort).1 q hq
             omega
         rw [Array.getD_eq_getD_getElem?] at hne ⊢
         rw [Array.getElem?_eq_getElem (by omega)] at hne ⊢
         simpa using hne
       rw [hnil] at this
       simp at this
   · obtain ⟨h1,h2,o,h3,h4⟩ := ready_mem.1 hi
     obtain ⟨p,hp,rfl⟩ := (hl i h1).1 h2
     obtain ⟨l1,l2,rfl⟩ := List.append_of_mem hp
     obtain ⟨_,o',ho',hcomp⟩ := hops p hp
     rw [h3] at ho'; cases ho'
     have hind : ∀ q ∈ l1,indep q.2 p.2 = true := by
       intro q hq
       rcases (List.pairwise_append.1 hpairs).2.2 q hq p (by simp) with he | he
       · exfalso
         have hdir : ∀ z ∈ (edgesOf ops).getD p.1 [],listed.getD z false = true := by
           intro z he
           unfold edgesOf at he
           rw [List.getD_eq_getElem?_getD,List.getElem?_map,Array.getElem?_toList,h3] at he
           simp only [Option.map_some,Option.getD_some,List.mem_map,List.mem_filter,Array.mem_toList_iff] at he
           obtain ⟨e,⟨he1,he2⟩,rfl⟩ := he
           exact h4 e he1 he2
         have hcl : ∀ z t,Rch (edgesOf ops) z t → listed.getD t false = true → listed.getD z false = true := by
           intro z t hr
           induction hr with
           | @one t hz =>
             intro ht
             have hts : t < ops.size := by
               rw [Array.getD_eq_getD_getElem?] at ht
               cases hh : listed[t]? with
               | none => rw [hh] at ht; simp at ht
               | some b => have := (Array.getElem?_eq_some_iff.1 hh).1; omega
             refine hD t hts ?_ z hz
             rw [Array.getD_eq_getD_getElem?] at ht ⊢
             rw [Array.getElem?_eq_getElem (by omega)] at ht ⊢
             simpa using ht
           | @more r t hz _ ih =>
             intro ht
             refine ih ?_
             have hts : t < ops.size := by
               rw [Array.getD_eq_getD_getElem?] at ht
               cases hh : listed[t]? with
               | none => rw [hh] at ht; simp at ht
               | some b => have := (Array.getElem?_eq_some_iff.1 hh).1; omega
             refine hD t hts ?_ r hz
             rw [Array.getD_eq_getD_getElem?] at ht ⊢
             rw [Array.getElem?_eq_getElem (by omega)] at ht ⊢
             simpa using ht
         have hq1 : listed.getD q.1 false = true := by
           cases he with
           | one hz => exact hdir _ hz
           | more hz hr => exact hcl _ _ hr (hdir _ hz)
         have hqs := (hops q (by simp [hq])).1
         have hq2 := (hl q.1 hqs).2 ⟨q,by simp [hq],rfl⟩
         rw [Array.getD_eq_getD_getElem?] at hq1 hq2
         rw [Array.getElem?_eq_getElem (by omega)] at hq1 hq2
         simp at hq1 hq2
         rw [hq1] at hq2
         simp at hq2
       · exact he
     have hA' := AOf.front l1 env H hind hA
     simp only [AOf] at hA'
     have hne : ∀ q ∈ l1 ++ l2,q.1 ≠ p.1 := by
       intro q hq e
       rcases List.mem_append.1 hq with hq | hq
       · have := (List.pairwise_append.1 hsort).2.2 q hq p (by simp); omega
       · have := (List.pairwise_cons.1 (List.pairwise_append.1 hsort).2.1).1 q hq; omega
     have hsub : (l1 ++ l2).Sublist (l1 ++ p :: l2) := List.Sublist.append_left (List.sublist_cons_self p l2) l1
     have hmem : ∀ q ∈ l1 ++ l2,q ∈ l1 ++ p :: l2 := fun q hq => hsub.subset hq
     have hnext : ∀ env' H' β' a' w',AOf ⟨K.P,K.G,K.N⟩ (l1 ++ l2) env' H' k → RelB K β' env' H' a' w' → wpAny K.P .any ops Q fuel (listed.setIfInBounds p.1 true) a' w' := by
       intro env' H' β' a' w' q1 q2
       refine ih (l1 ++ l2) _ env' H' a' w' β' (by simp at hlen ⊢; omega) (hsort.sublist hsub) (by simp [hsz]) (fun j hj => ?_) (fun q hq => hops q (hmem q hq)) (hpairs.sublist hsub) (fun j hj hlj e he => ?_)
         (fun q hq => hback q (hmem q hq)) q1 q2
       rw [Array.getD_eq_getD_getElem?,Array.getElem?_setIfInBounds]
       by_cases e : p.1 = j
       · subst e
         simp only [if_true]
         rw [if_pos (by omega)]
         simp only [Option.getD_some,Bool.true_eq_false,false_iff]
         rintro ⟨q,hq,e⟩
         exact hne q hq e
       · rw [if_neg e,← Array.getD_eq_getD_getElem?,hl j hj]
         constructor
         · rintro ⟨q,hq,rfl⟩
           refine ⟨q,?_,rfl⟩
           simp only [List.mem_append,List.mem_cons] at hq ⊢
           rcases hq with hq | hq | hq
           · exact .inl hq
           · subst hq; exact absurd rfl e
           · exact .inr hq
         · rintro ⟨q,hq,rfl⟩
           exact ⟨q,hmem q hq,rfl⟩
       · have hup : ∀ z,listed.getD z false = true → (listed.setIfInBounds p.1 true).getD z false = true := by
           intro z hz
           rw [Array.getD_eq_getD_getElem?] at hz ⊢
           rw [Array.getElem?_setIfInBounds]
           split
           · split <;> simp_all
           · exact hz
         apply hup
         by_cases e2 : p.1 = j
         · subst e2
           unfold edgesOf at he
           rw [List.getD_eq_getElem?_getD,List.getElem?_map,Array.getElem?_toList,h3] at he
           simp only [Option.map_some,Option.getD_some,List.mem_map,List.mem_filter,Array.mem_toList_iff] at he
           obtain ⟨e,⟨he1,he2⟩,rfl⟩ := he
           exact h4 e he1 he2
         · refine hD j hj ?_ e he
           rw [Array.getD_eq_getD_getElem?,Array.getElem?_setIfInBounds,if_neg e2,← Array.getD_eq_getD_getElem?] at hlj
           exact hlj
     simp only [wpOp,h3]
     refine step_sound hr hcomp (k := fun e h => AOf ⟨K.P,K.G,K.N⟩ (l1 ++ l2) e h k) hnext ?_
     rcases hA' with ⟨g1,g2,g3⟩ | ⟨g1,g2,g3⟩
     · exact .inl ⟨g1,g2,g3.act⟩
     · exact .inr ⟨g1,g2,g3⟩
theorem items_mem : ∀ (is : List LIns) (n : Nat) (fs : List Fp) (p : Nat × LIns × Fp),p ∈ items n is fs → n ≤ p.1 ∧ is[p.1 - n]? = some p.2.1
 | [],n,fs,p,h => by simp [items] at h
 | i :: r,n,fs,p,h => by
   simp only [items,List.mem_cons] at h
   rcases h with rfl | h
   · simp
   · obtain ⟨h1,h2⟩ := items_mem r (n + 1) _ p h
     refine ⟨by omega,?_⟩
     rw [show p.1 - n = (p.1 - (n + 1)) + 1 by omega]
     simpa using h2
theorem items_sorted : ∀ (is : List LIns) (n : Nat) (fs : List Fp),(items n is fs).Pairwise fun p q => p.1 < q.1
 | [],n,fs => .nil
 | i :: r,n,fs => by
   simp only [items]
   refine .cons (fun q hq => ?_) (items_sorted r (n + 1) _)
   have := (items_mem r (n + 1) _ q hq).1
   simp only; omega
theorem items_len : ∀ (is : List LIns) (n : Nat) (fs : List Fp),(items n is fs).length = is.length
 | [],n,fs => rfl
 | i :: r,n,fs => by simp [items,items_len r]
theorem items_has : ∀ (is : List LIns) (n : Nat) (fs : List Fp) (j : Nat),j < is.length → ∃ p ∈ items n is fs,p.1 = n + j
 | [],n,fs,j,h => by simp at h
 | i :: r,n,fs,0,h => ⟨_,List.mem_cons_self ..,rfl⟩
 | i :: r,n,fs,j + 1,h => by
   obtain ⟨p,h1,h2⟩ := items_has r (n + 1) fs.tail j (by simpa using h)
   exact ⟨p,by simp only [items]; exact List.mem_cons_of_mem _ h1,by omega⟩
theorem all2_get {α β : Type} {R : α → β → Prop} : ∀ {l : List α} {m : List β},All2 R l m → l.length = m.length ∧ ∀ (i : Nat) (y : β),m[i]? = some y → ∃ x,l[i]? = some x ∧ R x y
 | _,_,.nil => ⟨rfl,by simp⟩
 | _,_,.cons h1 h2 => by
   obtain ⟨e,h⟩ := all2_get h2
   refine ⟨by simp [e],fun i y hy => ?_⟩
   cases i with
   | zero => simp at hy; subst hy; exact ⟨_,by simp,h1⟩
   | succ i => obtain ⟨x,q1,q2⟩ := h i y (by simpa using hy); exact ⟨x,by simpa using q1,q2⟩
theorem RelB.drew {β : Lb → Option Nat} (hr : RelB K β env H a w) : RelB K β env H a { w with drawn := w.drawn + 1 } := by
 have hg : Grew w { w with drawn := w.drawn + 1 } := ⟨rfl,rfl,rfl,Nat.le_refl _,fun _ _ => rfl⟩
 have := hr.step hg (d := none) (x := .un) (v := undef) (by simp) (by simp) (by simp)
 simpa [putO,Act.put] using this
theorem drawn_sound {β : Lb → Option Nat} (hr : RelB K β env H a w) {id : Nat} {ops : Array Oper} (hm : K.P.follows .mixedOrders = true) {is : List LIns} {fs : List Fp}
   (hall : All2 (fun o i => compL K.P K.G ops o = some (LIns.asIs i)) ops.toList is) (ho : ordOK is (edgesOf ops) fs = true) {k : Env → Hp → Prop} {Q : Exit → Act → World → Prop}
   (hk : ∀ env' H' β' a' w',k env' H' → RelB K β' env' H' a' w' → Q .normal a' w') (hA : AOf ⟨K.P,K.G,K.N⟩ (items 0 is fs) env H k) : (Code.region id ops true).wp K.P Q a w := by
 obtain ⟨hlen,hget⟩ := all2_get hall
 simp only [Array.length_toList] at hlen
 simp only [ordOK,Bool.and_eq_true] at ho
 obtain ⟨ho1,ho2⟩ := ho
 have hpw : (items 0 is fs).Pairwise fun p q => Rch (edgesOf ops) p.1 q.1 ∨ indep p.2 q.2 = true := by
   rcases Bool.or_eq_true_iff.1 ho1 with h | h
   · exact (pairsOK_spec h).imp fun hpq => hpq.imp .one (fun h => h)
   · exact (pairsOK_spec h).imp fun hpq => hpq.imp (closeE_spec _ _ [] rfl (by simp) _ _) (fun h => h)
 refine wp_region_any hm (any_sound hk ops.size (items 0 is fs) _ env H a _ β (by rw [items_len]; exact hlen.symm) (items_sorted is 0 fs) (by simp) (fun i hi => ?_) (fun p hp => ?_)
   hpw (fun i hi hlj => ?_) (fun p hp e he => ?_) hA hr.drew)
 · rw [Array.getD_eq_getD_getElem?,Array.getElem?_replicate,if_pos hi]
   simp only [Option.getD_some,true_iff]
   obtain ⟨p,h1,h2⟩ := items_has is 0 fs i (by omega)
   exact ⟨p,h1,by omega⟩
 · obtain ⟨h1,h2⟩ := items_mem is 0 fs p hp
   simp only [Nat.sub_zero] at h2
   obtain ⟨o,q1,q2⟩ := hget p.1 _ h2
   have := (List.getElem?_eq_some_iff.1 h2).1
   exact ⟨by omega,o,by simpa using q1,q2⟩
 · rw [Array.getD_eq_getD_getElem?,Array.getElem?_replicate,if_pos hi] at hlj
   simp at hlj
 · simp only [backOK,List.all_eq_true,decide_eq_true_eq] at ho2
   exact ho2 p hp e he
end
end Go.Am

/- THE ABSTRACT MACHINE, part 18: code, as it is walked. -/
namespace Go.Am
open Go Go.RowKit
inductive Gh where
 | keep (ns : List Nat)
 | frz (l : Lb) (d : Nat)
 | frzc (l q : Lb) (j : Nat)
 | own (d sz : Nat)
 | cut (n : Nat)
 | weak
 | sel
inductive AC where
 | skip
 | seq (a b : AC)
 | cond (x : O) (a b : AC)
 | block (id : Nat) (c : AC)
 | loop (c : AC)
 | exit (id : Nat)
 | ret
 | reg (is : List LIns)
 | dreg (is : List LIns) (es : List (List Nat)) (fs : List Fp)
 | gh (g : Gh) (c : AC)
def AC.sz : AC → Nat
 | .seq a b => a.sz + b.sz + 2
 | .cond _ a b => a.sz + b.sz + 2
 | .block _ c => c.sz + 3
 | .loop c => c.sz + 1
 | .gh _ c => c.sz + 1
 | _ => 1
inductive It where
 | code (c : AC)
 | blk (id : Nat)
def It.sz : It → Nat
 | .code c => c.sz
 | .blk _ => 1
def szs : List It → Nat
 | [] => 0
 | i :: r => i.sz + szs r
def popTo (id : Nat) : List It → Option (List It)
 | [] => none
 | .blk i :: r => if i = id then some r else popTo id r
 | _ :: r => popTo id r
theorem popTo_lt {id : Nat} : ∀ {l r : List It},popTo id l = some r → szs r ≤ szs l
 | [],r,h => by simp [popTo] at h
 | .blk i :: l,r,h => by
   simp only [popTo] at h
   split at h
   · cases h; simp [szs]
   · have := popTo_lt h; simp only [szs]; omega
 | .code c :: l,r,h => by
   simp only [popTo] at h
   have := popTo_lt h; simp only [szs]; omega
theorem AC.sz_pos (c : AC) : 0 < c.sz := by cases c <;> simp [AC.sz]
def keepE (ns : List Nat) (env : Env) : Env := fun n => if n ∈ ns then env n else .any
abbrev Post := Exit → Env → Hp → Prop
end Go.Am
