import Derived.Test.YtfinkeaikbmpgaaKAm19
import Derived.Deep.LoopGhost
set_option linter.unusedSimpArgs false
set_option linter.unusedVariables false
set_option linter.unnecessarySimpa false
set_option linter.defProp false
/- THE ABSTRACT MACHINE, part 15: code, walked. -/
namespace Go.Am
open Go Go.RowKit
inductive CIt where
 | code (c : Code)
 | blk (id : Nat)
def PH (P : Program) (Qh : Exit → Act → World → Prop) : List CIt → Exit → Act → World → Prop
 | [] => Qh
 | .code c :: k => Exit.then (c.wp P (PH P Qh k)) (PH P Qh k)
 | .blk id :: k => Exit.inBlock id (PH P Qh k)
def AC.bare : AC → AC
 | .seq a b => .seq a.bare b.bare
 | .cond x a b => .cond x a.bare b.bare
 | .block id c => .block id c.bare
 | .loop c => .loop c.bare
 | .reg is => .reg (is.map LIns.asIs)
 | .dreg is es _ => .dreg (is.map LIns.asIs) es []
 | .gh _ c => c.bare
 | c => c
def compLs (P : Program) (G : Nat → Option (List IV)) (ops : Array Oper) : List Oper → Option (List LIns)
 | [] => some []
 | o :: r => (compL P G ops o).bind fun i => (compLs P G ops r).map fun s => i :: s
def compC (P : Program) (G : Nat → Option (List IV)) : Code → Option AC
 | .skip => some .skip
 | .seq a b => (compC P G a).bind fun x => (compC P G b).map fun y => .seq x y
 | .cond c a b => (co G c).bind fun c => (compC P G a).bind fun x => (compC P G b).map fun y => .cond c x y
 | .block id c => (compC P G c).map fun x => .block id x
 | .loop c => (compC P G c).map fun x => .loop x
 | .exit id => some (.exit id)
 | .ret => some .ret
 | .region _ ops false => (compLs P G ops ops.toList).map .reg
 | .region _ ops true => if P.follows .mixedOrders = true then (compLs P G ops ops.toList).map fun is => .dreg is (edgesOf ops) [] else none
 | _ => none
inductive CIs (P : Program) (G : Nat → Option (List IV)) : CIt → It → Prop
 | code {c : Code} {x : AC} : compC P G c = some x.bare → CIs P G (.code c) (.code x)
 | blk (id : Nat) : CIs P G (.blk id) (.blk id)
def lift (K : Kx) (Q : Post) (e : Exit) (a : Act) (w : World) : Prop := ∃ env H β,Q e env H ∧ RelB K β env H a w
def SOK (K : Kx) (Q : Post) (ck : List CIt) (env : Env) (H : Hp) : Prop := ∀ β a w,RelB K β env H a w → PH K.P (lift K Q) ck .normal a w
def LoopG (S : St) (Q : Post) (c : AC) (k : List It) (env : Env) (H : Hp) : Prop :=
 ∀ (K : Kx),(⟨K.P,K.G,K.N⟩ : St) = S → (∀ l,live K.H0 l → l.entry = true) → ∀ c0 ck,compC S.P S.G c0 = some c.bare → All2 (CIs S.P S.G) ck k → SOK K Q (.code (.loop c0) :: ck) env H
def Weaker (S : St) (env : Env) (H : Hp) (env2 : Env) (H2 : Hp) : Prop :=
 ∀ (K : Kx) (β : Lb → Option Nat) (a : Act) (w : World),(⟨K.P,K.G,K.N⟩ : St) = S → (∀ l,live K.H0 l → l.entry = true) → RelB K β env H a w → ∃ β',RelB K β' env2 H2 a w
def Choice (S : St) (env : Env) (H : Hp) (T : Type) (E : T → Env) (HH : T → Hp) : Prop :=
 ∀ (K : Kx) (β : Lb → Option Nat) (a : Act) (w : World),(⟨K.P,K.G,K.N⟩ : St) = S → (∀ l,live K.H0 l → l.entry = true) → RelB K β env H a w → ∃ t β',RelB K β' (E t) (HH t) a w
def Cut (n : Nat) (f : Env → Hp → Prop) (env : Env) (H : Hp) : Prop := f env H
def go (S : St) (Q : Post) : List It → Env → Hp → Prop
 | [] => fun env H => Q .normal env H
 | .blk _ :: k => go S Q k
 | .code .skip :: k => go S Q k
 | .code (.seq a b) :: k => go S Q (.code a :: .code b :: k)
 | .code (.cond x a b) :: k => fun env H => ∃ t,ev env x = .bool t ∧ (t = true → go S Q (.code a :: k) env H) ∧ (t = false → go S Q (.code b :: k) env H)
 | .code (.block id c) :: k => go S Q (.code c :: .blk id :: k)
 | .code (.loop c) :: k => LoopG S Q c k
 | .code (.exit id) :: k => match h : popTo id k with
   | some k' => go S Q k'
   | none => fun env H => Q (.exit id) env H
 | .code .ret :: _ => fun env H => Q .ret env H
 | .code (.reg is) :: k => fun env H => AO S is env H (go S Q k)
 | .code (.dreg is es fs) :: k => fun env H => ordOK is es fs = true ∧ AOf S (items 0 is fs) env H (go S Q k)
 | .code (.gh g c) :: k => match g with
   | .keep ns => fun env H => go S Q (.code c :: k) (keepE ns env) H
   | .frz l d => fun env H => ∃ sz xs i n,env d = .sl l sz i n ∧ H l = .live ⟨sz,immE xs⟩ ∧ l.fresh = true ∧ i + n ≤ xs.length ∧ Flat xs ∧
       go S Q (.code c :: k) (put env d (.list ((xs.drop i).take n))) (upd H l .dead)
   | .frzc l q j => fun env H => ∃ sz xs i n cs,H q = .live ⟨cs.length,[cs]⟩ ∧ cs[j]? = some (.sl l sz i n) ∧ H l = .live ⟨sz,immE xs⟩ ∧ l.fresh = true ∧ l ≠ q ∧ i + n ≤ xs.length ∧ Flat xs ∧
       go S Q (.code c :: k) env (upd (upd H l .dead) q (.live ⟨cs.length,[cs.set j (.list ((xs.drop i).take n))]⟩))
   | .own d sz => fun env H => env d = .nil0 ∧ 0 < sz ∧ H (.loc d) = .unused ∧ go S Q (.code c :: k) (put env d (.sl (.loc d) sz 0 0)) (upd H (.loc d) (.live ⟨sz,[]⟩))
   | .cut n => Cut n (go S Q (.code c :: k))
   | .weak => fun env H => ∃ env2 H2,Weaker S env H env2 H2 ∧ go S Q (.code c :: k) env2 H2
   | .sel => fun env H => ∃ (T : Type) (E : T → Env) (HH : T → Hp),Choice S env H T E HH ∧ ∀ t,go S Q (.code c :: k) (E t) (HH t)
termination_by k => szs k
decreasing_by
 all_goals simp only [szs,It.sz,AC.sz]
 all_goals first | omega | (have := popTo_lt h; omega)
theorem go_exit_some {S : St} {Q : Post} {id : Nat} {k k' : List It} (h : popTo id k = some k') : go S Q (.code (.exit id) :: k) = go S Q k' := by
 rw [go]
 split
 · rename_i k'' h2
   rw [h] at h2; cases h2; rfl
 · rename_i h2
   rw [h] at h2; cases h2
theorem go_exit_none {S : St} {Q : Post} {id : Nat} {k : List It} (h : popTo id k = none) : go S Q (.code (.exit id) :: k) = Q (.exit id) := by
 rw [go]
 split
 · rename_i k'' h2
   rw [h] at h2; cases h2
 · rfl
section
variable {K : Kx} {β : Lb → Option Nat} {env : Env} {H : Hp} {a : Act} {w : World}
theorem PH_ret (P : Program) (Qh : Exit → Act → World → Prop) : ∀ (ck : List CIt) (a : Act) (w : World),Qh .ret a w → PH P Qh ck .ret a w
 | [],a,w,h => h
 | .code c :: k,a,w,h => by simp only [PH,Exit.then]; exact PH_ret P Qh k a w h
 | .blk id :: k,a,w,h => by simp only [PH,Exit.inBlock]; exact PH_ret P Qh k a w h
theorem pop_sound {P : Program} {G : Nat → Option (List IV)} (Qh : Exit → Act → World → Prop) {id : Nat} : ∀ (ck : List CIt) (k : List It),All2 (CIs P G) ck k →
   match popTo id k with
   | some k' => ∃ ck',All2 (CIs P G) ck' k' ∧ ∀ a w,PH P Qh ck' .normal a w → PH P Qh ck (.exit id) a w
   | none => ∀ a w,Qh (.exit id) a w → PH P Qh ck (.exit id) a w
 | _,_,.nil => by simp only [popTo]; exact fun a w h => h
 | _,_,@All2.cons _ _ _ _ _ ck k h1 h2 => by
   cases h1 with
   | code hc =>
     have ih := pop_sound Qh (id := id) ck k h2
     simp only [popTo]
     split <;> rename_i hp <;> rw [hp] at ih <;> simp only at ih
     · obtain ⟨ck',e1,e2⟩ := ih
       exact ⟨ck',e1,fun a w h => by simp only [PH,Exit.then]; exact e2 a w h⟩
     · exact fun a w h => by simp only [PH,Exit.then]; exact ih a w h
   | blk i =>
     have ih := pop_sound Qh (id := id) ck k h2
     simp only [popTo]
     by_cases e : i = id
     · simp only [e,if_true]
       exact ⟨ck,h2,fun a w h => by simp only [PH,Exit.inBlock,if_true]; exact h⟩
     · simp only [e,if_false]
       split <;> rename_i hp <;> rw [hp] at ih <;> simp only at ih
       · obtain ⟨ck',e1,e2⟩ := ih
         exact ⟨ck',e1,fun a w h => by simp only [PH,Exit.inBlock,Ne.symm e,if_false]; exact e2 a w h⟩
       · exact fun a w h => by simp only [PH,Exit.inBlock,Ne.symm e,if_false]; exact ih a w h
theorem compLs_all2 {P : Program} {G : Nat → Option (List IV)} {ops : Array Oper} : ∀ (l : List Oper) (is : List LIns),compLs P G ops l = some (is.map LIns.asIs) → All2 (fun o i => compL P G ops o = some (LIns.asIs i)) l is
 | [],is,h => by
   simp [compLs] at h
   have : is = [] := by cases is <;> simp_all
   subst this; exact .nil
 | o :: r,is,h => by
   simp only [compLs] at h
   obtain ⟨i,h1,h⟩ := bnone h
   obtain ⟨s,h2,h3⟩ := mnone h
   cases is with
   | nil => simp at h3
   | cons j is =>
     simp only [List.map_cons,List.cons.injEq] at h3
     obtain ⟨rfl,rfl⟩ := h3
     exact .cons h1 (compLs_all2 r is h2)
theorem RelB.keepE (hr : RelB K β env H a w) (ns : List Nat) : RelB K β (Am.keepE ns env) H a w :=
 ⟨hr.defers,hr.size,fun n => by unfold Am.keepE; split; exact hr.regs n; simp [RV],hr.rows,hr.own,hr.inj,fun n l hl => by
   unfold Am.keepE at hl; split at hl
   · exact hr.ment n l hl
   · simp [AV.lbs] at hl,hr.rment,hr.frame,hr.glob,hr.stab,hr.fr⟩
theorem setSlot (hr : RelB K β env H a w) (d : Nat) {x : AV} (hx : RV w β H (Im K β H) x (a.tmps.getD d undef)) (hm : ∀ l ∈ x.lbs, H l ≠ .unused) : RelB K β (put env d x) H a w :=
  ⟨hr.defers, hr.size, fun n => by unfold put; split; · next h => subst h; exact hx
                                   · exact hr.regs n, hr.rows, hr.own, hr.inj, fun n l hl => by
    unfold put at hl; split at hl
    · exact hm l hl
    · exact hr.ment n l hl, hr.rment, hr.frame, hr.glob, hr.stab, hr.fr⟩
theorem frz_rv (hr : RelB K β env H a w) {l : Lb} {sz : Nat} {xs : List IV} {i n : Nat} {v : Value} (hl : H l = .live ⟨sz,immE xs⟩) (hf : l.fresh = true) (hin : i + n ≤ xs.length) (hfl : Flat xs)
   (hv : RV w β H (Im K β H) (.sl l sz i n) v) : RV w β (upd H l .dead) (Im K β (upd H l .dead)) (.list ((xs.drop i).take n)) v := by
 have hlive : ∀ q,live (upd H l .dead) q → live H q ∧ q ≠ l := by
   rintro q ⟨r,h⟩
   by_cases e : q = l
   · subst e; simp at h
   · rw [upd_ne _ _ e] at h; exact ⟨⟨r,h⟩,e⟩
 have hk : Keeps w w (Im K β H) (Im K β (upd H l .dead)) := ⟨fun k hk hs => ⟨⟨hk.1,fun q hq => hk.2 q (hlive q hq).1⟩,hs,rfl⟩⟩
 simp only [RV] at hv
 obtain ⟨ad,c,rfl,h2,h3,h4,h5⟩ := hv
 simp only [RV,IVR]
 have hlen : ((xs.drop i).take n).length = n := by simp; omega
 rw [hlen]
 refine ⟨ad,c,rfl,h2,h3,?_⟩
 by_cases hn : n = 0
 · exact .inl hn
 · right
   rcases h5 ⟨_,hl⟩ with h6 | ⟨g,S,e1,e2,e3,e4⟩
   · omega
   · obtain ⟨cur,e0,cap,k1,k2,k3,k4,k5⟩ := (hr.rows l _ hl).block e1
     have hsz : 0 < sz := (hr.rows l _ hl).1
     have him : Im K β (upd H l .dead) g := ⟨.inr (hr.fr l g ⟨_,hl⟩ hf e1),fun q hq hb => (hlive q hq).2 (hr.inj q l g (hlive q hq).1 ⟨_,hl⟩ hb e1)⟩
     refine ⟨g,i * sz,sz,e2,him,(Array.getElem?_eq_some_iff.1 k1).1,hsz,ElemsR_of _ _ _ (fun k y hy => ?_)⟩
     have hy' : xs[i + k]? = some y := by
       rw [List.getElem?_take] at hy
       split at hy
       · rwa [List.getElem?_drop] at hy
       · simp at hy
     rw [ElemR_iff]
     have hcl : y.cells.length = sz := by
       have := (hr.rows l _ hl).2.1 (y.cells.map IV.av1) (by
         simp only [immE]
         exact List.mem_map_of_mem (f := fun y : IV => y.cells.map IV.av1) (List.mem_of_getElem? hy'))
       simpa using this
     refine ⟨hcl.symm,CellsR_of _ _ _ (fun j z hz => ?_)⟩
     obtain ⟨u,q1,q2⟩ := k5 (i + k) j (y.cells.map IV.av1) z.av1 (by simp [immE,hy']) (by simp [hz])
     refine ⟨u,?_,RV_av1 hk (hfl y (List.mem_of_getElem? hy') z (List.mem_of_getElem? hz)) q2⟩
     rw [cell_of_row w g _ cur e0 (0,0) k1,← q1]
     congr 1
     rw [Nat.add_mul]
theorem compC_inv {P : Program} {G : Nat → Option (List IV)} {c0 : Code} {x : AC} (h : compC P G c0 = some x) :
   match x with
   | .skip => c0 = .skip
   | .seq x y => ∃ a b,c0 = .seq a b ∧ compC P G a = some x ∧ compC P G b = some y
   | .cond o x y => ∃ c a b,c0 = .cond c a b ∧ co G c = some o ∧ compC P G a = some x ∧ compC P G b = some y
   | .block id x => ∃ a,c0 = .block id a ∧ compC P G a = some x
   | .loop x => ∃ a,c0 = .loop a ∧ compC P G a = some x
   | .exit id => c0 = .exit id
   | .ret => c0 = .ret
   | .reg is => ∃ id ops,c0 = .region id ops false ∧ compLs P G ops ops.toList = some is
   | .dreg is es fs => ∃ id ops,c0 = .region id ops true ∧ P.follows .mixedOrders = true ∧ es = edgesOf ops ∧ compLs P G ops ops.toList = some is
   | .gh _ _ => False := by
 cases c0 with
 | skip => simp only [compC,Option.some.injEq] at h; subst h; rfl
 | seq a b =>
   simp only [compC] at h
   obtain ⟨x1,h1,h⟩ := bnone h
   obtain ⟨y1,h2,rfl⟩ := mnone h
   exact ⟨a,b,rfl,h1,h2⟩
 | cond c a b =>
   simp only [compC] at h
   obtain ⟨c1,h0,h⟩ := bnone h
   obtain ⟨x1,h1,h⟩ := bnone h
   obtain ⟨y1,h2,rfl⟩ := mnone h
   exact ⟨c,a,b,rfl,h0,h1,h2⟩
 | block id a =>
   simp only [compC] at h
   obtain ⟨y1,h2,rfl⟩ := mnone h
   exact ⟨a,rfl,h2⟩
 | loop a =>
   simp only [compC] at h
   obtain ⟨y1,h2,rfl⟩ := mnone h
   exact ⟨a,rfl,h2⟩
 | exit id => simp only [compC,Option.some.injEq] at h; subst h; rfl
 | ret => simp only [compC,Option.some.injEq] at h; subst h; rfl
 | region id ops draw =>
   cases draw with
   | true =>
     simp only [compC] at h
     split at h
     · rename_i hm
       obtain ⟨is,h2,rfl⟩ := mnone h
       exact ⟨id,ops,rfl,hm,rfl,h2⟩
     · simp at h
   | false =>
     simp only [compC] at h
     obtain ⟨is,h2,rfl⟩ := mnone h
     exact ⟨id,ops,rfl,h2⟩
 | rangeFunc _ _ _ _ => simp [compC] at h
 | scope _ => simp [compC] at h
 | label _ => simp [compC] at h
 | goto _ => simp [compC] at h
 | refuse _ => simp [compC] at h
theorem go_sound (hS : ∀ l,live K.H0 l → l.entry = true) (Q : Post) : ∀ (n : Nat) (k : List It) (ck : List CIt),szs k ≤ n → All2 (CIs K.P K.G) ck k →
   ∀ env H,go ⟨K.P,K.G,K.N⟩ Q k env H → SOK K Q ck env H := by
 intro n
 induction n with
 | zero =>
   intro k ck hn hc env H hg β a w hr
   cases hc with
   | nil =>
     rw [go] at hg
     exact ⟨env,H,β,hg,hr⟩
   | @cons x i ck k h1 h2 =>
     cases i with
     | code c => have := c.sz_pos; simp only [szs,It.sz] at hn; omega
     | blk id => simp only [szs,It.sz] at hn; omega
 | succ n ih =>
   intro k ck hn hc env H hg β a w hr
   cases hc with
   | nil =>
     rw [go] at hg
     exact ⟨env,H,β,hg,hr⟩
   | @cons x i ck k h1 h2 =>
     cases h1 with
     | blk id =>
       rw [go] at hg
       simp only [PH,Exit.inBlock]
       exact ih k ck (by simp only [szs,It.sz] at hn; omega) h2 env H hg β a w hr
     | @code c0 c hcomp =>
       simp only [PH,Exit.then]
       have hpos := c.sz_pos
       cases c with
       | skip =>
         rw [go] at hg
         simp only [AC.bare] at hcomp
         have e := compC_inv hcomp
         simp only at e
         subst e
         exact wp_skip (ih k ck (by simp only [szs,It.sz,AC.sz] at hn; omega) h2 env H hg β a w hr)
       | seq x y =>
         rw [go] at hg
         obtain ⟨x0,y0,rfl,e1,e2⟩ := compC_inv hcomp
         refine wp_seq ?_
         have := ih (.code x :: .code y :: k) (.code x0 :: .code y0 :: ck) (by simp only [szs,It.sz,AC.sz] at hn ⊢; omega) (.cons (.code e1) (.cons (.code e2) h2)) env H hg β a w hr
         simpa only [PH,Exit.then] using this
       | cond x y z =>
         rw [go] at hg
         obtain ⟨o0,y0,z0,rfl,e0,e1,e2⟩ := compC_inv hcomp
         obtain ⟨t,ht,g1,g2⟩ := hg
         have hv := hr.ev e0
         rw [ht] at hv
         simp only [RV] at hv
         refine wp_cond_split hv ?_ ?_ <;> intro h
         · have := ih (.code y :: k) (.code y0 :: ck) (by simp only [szs,It.sz,AC.sz] at hn ⊢; omega) (.cons (.code e1) h2) env H (g1 h) β a w hr
           simpa only [PH,Exit.then] using this
         · have := ih (.code z :: k) (.code z0 :: ck) (by simp only [szs,It.sz,AC.sz] at hn ⊢; omega) (.cons (.code e2) h2) env H (g2 h) β a w hr
           simpa only [PH,Exit.then] using this
       | block id c =>
         rw [go] at hg
         obtain ⟨c1,rfl,e1⟩ := compC_inv hcomp
         refine wp_block ?_
         have := ih (.code c :: .blk id :: k) (.code c1 :: .blk id :: ck) (by simp only [szs,It.sz,AC.sz] at hn ⊢; omega) (.cons (.code e1) (.cons (.blk id) h2)) env H hg β a w hr
         simpa only [PH,Exit.then] using this
       | loop c =>
         rw [go] at hg
         obtain ⟨c1,rfl,e1⟩ := compC_inv hcomp
         have := hg K rfl hS c1 ck e1 h2 β a w hr
         simpa only [PH,Exit.then] using this
       | exit id =>
         simp only [AC.bare] at hcomp
         have e := compC_inv hcomp
         simp only at e
         subst e
         have hp := pop_sound (P := K.P) (G := K.G) (lift K Q) (id := id) ck k h2
         refine wp_exit ?_
         cases hk' : popTo id k with
         | some k' =>
           rw [go_exit_some hk'] at hg
           rw [hk'] at hp
           obtain ⟨ck',e1,e2⟩ := hp
           have := popTo_lt hk'
           exact e2 a w (ih k' ck' (by simp only [szs,It.sz,AC.sz] at hn; omega) e1 env H hg β a w hr)
         | none =>
           rw [go_exit_none hk'] at hg
           rw [hk'] at hp
           exact hp a w ⟨env,H,β,hg,hr⟩
       | ret =>
         simp only [AC.bare] at hcomp
         have e := compC_inv hcomp
         simp only at e
         subst e
         rw [go] at hg
         exact wp_ret (PH_ret _ _ _ _ _ ⟨env,H,β,hg,hr⟩)
       | reg is =>
         obtain ⟨id,ops,rfl,e1⟩ := compC_inv hcomp
         rw [go] at hg
         refine wp_region_list ?_
         refine ao_sound (fun env' H' β' a' w' q1 q2 => ?_) ops.toList is env H a w β (compLs_all2 _ _ e1) hg hr
         exact ih k ck (by simp only [szs,It.sz,AC.sz] at hn; omega) h2 env' H' q1 β' a' w' q2
       | dreg is es fs =>
         obtain ⟨id,ops,rfl,hm,rfl,e1⟩ := compC_inv hcomp
         rw [go] at hg
         refine drawn_sound hr hm (compLs_all2 _ _ e1) hg.1 (fun env' H' β' a' w' q1 q2 => ?_) hg.2
         exact ih k ck (by simp only [szs,It.sz,AC.sz] at hn; omega) h2 env' H' q1 β' a' w' q2
       | gh g c =>
         have hcomp' : compC K.P K.G c0 = some c.bare := hcomp
         have hrest : ∀ env' H',go ⟨K.P,K.G,K.N⟩ Q (.code c :: k) env' H' → ∀ β',RelB K β' env' H' a w → c0.wp K.P (PH K.P (lift K Q) ck) a w := by
           intro env' H' h β' hr'
           have := ih (.code c :: k) (.code c0 :: ck) (by simp only [szs,It.sz,AC.sz] at hn ⊢; omega) (.cons (.code hcomp') h2) env' H' h β' a w hr'
           simpa only [PH,Exit.then] using this
         cases g with
         | keep ns => rw [go] at hg; exact hrest _ _ hg β (hr.keepE ns)
         | cut m => rw [go] at hg; exact hrest _ _ hg β hr
         | weak =>
           rw [go] at hg
           obtain ⟨env2,H2,g1,g2⟩ := hg
           obtain ⟨β',hr'⟩ := g1 K β a w rfl hS hr
           exact hrest _ _ g2 β' hr'
         | sel =>
           rw [go] at hg
           obtain ⟨T,E,HH,g1,g2⟩ := hg
           obtain ⟨t,β',hr'⟩ := g1 K β a w rfl hS hr
           exact hrest _ _ (g2 t) β' hr'
         | own d sz =>
           rw [go] at hg
           obtain ⟨g1,g2,g3,g4⟩ := hg
           have h3 := hr.addRow (.loc d) g3 (r := ⟨sz,[]⟩) (Below.refl _ _) none (by simp) (by simp) ⟨g2,by simp,by simp⟩
           have hv := h3.regs d
           rw [g1] at hv
           simp only [RV] at hv
           obtain ⟨ad,hv⟩ := hv
           exact hrest _ _ g4 _ (setSlot h3 d (by rw [hv]; simp only [RV]; exact ⟨ad,0,rfl,Nat.le_refl _,by simp [maxLen],by simp,fun _ => .inl rfl⟩) (by simp [AV.lbs]))
         | frz l d =>
           rw [go] at hg
           obtain ⟨sz,xs,i,n,g1,g2,g3,g4,g5,g6⟩ := hg
           have hv := hr.regs d
           rw [g1] at hv
           exact hrest _ _ g6 _ (setSlot (hr.kill l (by rw [g2]; simp)) d (frz_rv hr g2 g3 g4 g5 hv) (by simp [AV.lbs]))
         | frzc l q j =>
           rw [go] at hg
           obtain ⟨sz,xs,i,n,cs,g1,g2,g3,g4,g5,g6,g7,g8⟩ := hg
           have hk := hr.kill l (by rw [g3]; simp)
           have hq : upd H l .dead q = .live ⟨cs.length,[cs]⟩ := by rw [upd_ne _ _ (Ne.symm g5)]; exact g1
           have hsz : 0 < cs.length := (hr.rows q _ g1).1
           cases hb : β q with
           | none =>
             have := (hr.rows q _ g1).2.2
             simp [hb] at this
           | some g =>
             obtain ⟨cur,e0,cap,k1,k2,k3,k4,k5⟩ := (hr.rows q _ g1).block hb
             obtain ⟨cur',e0',cap',k1',k2',k3',k4',k5'⟩ := (hk.rows q _ hq).block hb
             rw [k1] at k1'
             cases k1'
             have hjl : j < cs.length := (List.getElem?_eq_some_iff.1 g2).1
             have hset := hk.setRow q (r' := ⟨cs.length,[cs.set j (.list ((xs.drop i).take n))]⟩) (cur' := cur) (cap := cap) hq hb k1 rfl rfl k2 k3 (by simpa using k4) (by simp)
               (by
                 intro ds hds p hp
                 simp at hds; subst hds
                 have : p ∈ lbss cs := by
                   obtain ⟨y,hy,hpy⟩ : ∃ y ∈ cs.set j (.list ((xs.drop i).take n)),p ∈ y.lbs := by
                     generalize cs.set j (.list ((xs.drop i).take n)) = ds at hp
                     induction ds with
                     | nil => simp [lbss] at hp
                     | cons y r ih2 =>
                       simp only [lbss,List.mem_append] at hp
                       rcases hp with hp | hp
                       · exact ⟨y,by simp,hp⟩
                       · obtain ⟨z,hz,hpz⟩ := ih2 hp
                         exact ⟨z,by simp [hz],hpz⟩
                   rcases List.mem_or_eq_of_mem_set hy with hy | rfl
                   · obtain ⟨m,hm⟩ := List.getElem?_of_mem hy
                     exact lbss_get _ _ _ hm p hpy
                   · simp [AV.lbs] at hpy
                 have := hk.rment q _ hq cs (by simp) p this
                 exact this)
               (by
                 intro i' j' ds x0 hi' hj'
                 cases i' with
                 | succ i' => simp at hi'
                 | zero =>
                   simp at hi'; subst hi'
                   by_cases e : j' = j
                   · subst e
                     rw [List.getElem?_set_self hjl] at hj'
                     cases hj'
                     obtain ⟨v,q1,q2⟩ := k5 0 j' cs _ (by simp) g2
                     exact ⟨v,q1,frz_rv hr g3 g4 g6 g7 q2⟩
                   · rw [List.getElem?_set_ne (Ne.symm e)] at hj'
                     exact k5' 0 j' cs x0 (by simp) hj')
             have hsame : w.setRow g cur = w := setRow_self w g cur e0 (0,0) k1
             rw [hsame] at hset
             exact hrest _ _ g8 _ hset
end
end Go.Am

/- THE ABSTRACT MACHINE, part 16: functions. -/
namespace Go.Am
open Go Go.RowKit
abbrev RO := Option (Option Nat) × Nat
def compR (P : Program) : ResultVar → Option RO
 | .tmp t => some (none,t)
 | .cell a t => (mOf P t).map fun m => (some m,a)
def compRs (P : Program) : List ResultVar → Option (List RO)
 | [] => some []
 | r :: s => (compR P r).bind fun x => (compRs P s).map fun y => x :: y
def resV (r : RO) (env : Env) (H : Hp) : Option AV :=
 match r.1 with
 | none => some (env r.2)
 | some m => loadV m (env r.2) H
def resVs (env : Env) (H : Hp) : List RO → Option (List AV)
 | [] => some []
 | r :: s => (resV r env H).bind fun x => (resVs env H s).map fun y => x :: y
def oneV : List AV → AV
 | [x] => x
 | xs => .tup xs
def RetP (rs : List RO) (R : AV → Hp → Prop) : Post := fun e env H => (e = .normal ∨ e = .ret) ∧ ∃ xs,resVs env H rs = some xs ∧ R (oneV xs) H
def argE (args : List AV) : Env := fun n => args.getD n .un
def compF (P : Program) (G : Nat → Option (List IV)) (f : Nat) : Option (Nat × List RO × AC) :=
 (P.funcs[f]?).bind fun fn => fn.body.bind fun c => (compRs P fn.results.toList).bind fun rs => (compC P G c).map fun x => (fn.ntmps,rs,x)
section
variable {K : Kx} {β : Lb → Option Nat} {env : Env} {H : Hp} {a : Act} {w : World}
theorem resV_sound (hr : RelB K β env H a w) {rv : ResultVar} {r : RO} (hc : compR K.P rv = some r) {x : AV} (hx : resV r env H = some x) :
   ∃ v,(match rv with
     | .tmp t => (pure (a.tmps.getD t undef) : Sem Value)
     | .cell b t => do loadVar t (← asAddr (a.tmps.getD b undef))).run K.P w = .ok v w ∧ RV w β H (Im K β H) x v ∧ ∀ l ∈ x.lbs,H l ≠ .unused := by
 cases rv with
 | tmp t =>
   simp only [compR,Option.some.injEq] at hc; subst hc
   simp only [resV,Option.some.injEq] at hx; subst hx
   exact ⟨_,by simp,hr.regs t,hr.ment t⟩
 | cell b t =>
   simp only [compR] at hc
   obtain ⟨m,h1,rfl⟩ := mnone hc
   simp only [resV] at hx
   obtain ⟨v,q1,q3,q4⟩ := r_loadE (o := { (default : Oper) with op := .load t (.tmp b) }) (x' := .t b) hr rfl h1 rfl hx
   have hv := hr.regs b
   cases he : env b with
   | ptr l sz i j =>
     rw [he] at hv
     simp only [RV] at hv
     obtain ⟨ad,e1,e2⟩ := hv
     simp only [execOp,Act.eval,e1,Instr.loadAt,Instr.sureAddr,Sem.run_bind,Sem.run_pure,Result.andThen_ok] at q1
     refine ⟨v,?_,q3,q4⟩
     simp only [e1,asAddr,Sem.run_bind,Sem.run_pure,Result.andThen_ok]
     cases hl : (loadVar t ad).run K.P w with
     | ok u w2 =>
       rw [hl] at q1
       simp only [Result.andThen_ok,Result.ok.injEq] at q1
       obtain ⟨q1,rfl⟩ := q1
       cases q1
       rfl
     | _ => rw [hl] at q1; simp at q1
   | _ => rw [he] at hx; simp [loadV] at hx
theorem resVs_sound (hr : RelB K β env H a w) : ∀ (rvs : List ResultVar) (rs : List RO) (xs : List AV),compRs K.P rvs = some rs → resVs env H rs = some xs →
   ∃ vs,(rvs.mapM (m := Sem) fun
     | .tmp t => (pure (a.tmps.getD t undef) : Sem Value)
     | .cell b t => do loadVar t (← asAddr (a.tmps.getD b undef))).run K.P w = .ok vs w ∧ RVs w β H (Im K β H) xs vs ∧ ∀ l ∈ lbss xs,H l ≠ .unused
 | [],rs,xs,hc,hx => by
   simp only [compRs,Option.some.injEq] at hc; subst hc
   simp only [resVs,Option.some.injEq] at hx; subst hx
   exact ⟨[],by simp,by simp [RVs],by simp [lbss]⟩
 | rv :: rvs,rs,xs,hc,hx => by
   simp only [compRs] at hc
   obtain ⟨r,h1,hc⟩ := bnone hc
   obtain ⟨rs',h2,rfl⟩ := mnone hc
   simp only [resVs] at hx
   obtain ⟨x,h3,hx⟩ := bnone hx
   obtain ⟨xs',h4,rfl⟩ := mnone hx
   obtain ⟨v,e1,e2,e3⟩ := resV_sound hr h1 h3
   obtain ⟨vs,k1,k2,k3⟩ := resVs_sound hr rvs rs' xs' h2 h4
   refine ⟨v :: vs,?_,⟨v,vs,rfl,e2,k2⟩,?_⟩
   · rw [List.mapM_cons]
     simp only [Sem.run_bind,e1,Result.andThen_ok,k1,Sem.run_pure]
   · intro l hl
     simp only [lbss,List.mem_append] at hl
     rcases hl with hl | hl
     · exact e3 l hl
     · exact k3 l hl
theorem results_sound (hr : RelB K β env H a w) {fn : Func} {rs : List RO} {xs : List AV} (hc : compRs K.P fn.results.toList = some rs) (hx : resVs env H rs = some xs) :
   ∃ v,(results fn a.tmps).run K.P w = .ok v w ∧ RV w β H (Im K β H) (oneV xs) v ∧ ∀ l ∈ (oneV xs).lbs,H l ≠ .unused := by
 obtain ⟨vs,h1,h2,h3⟩ := resVs_sound hr _ _ _ hc hx
 have hlen := RVs.len _ _ h2
 have hrun : (results fn a.tmps).run K.P w = .ok (if h : vs.toArray.size = 1 then vs.toArray[0] else .tuple vs.toArray) w := by
   unfold results
   rw [Array.mapM_eq_mapM_toList]
   simp only [Sem.run_bind,Sem.run_pure,map_eq_pure_bind]
   exact (congrArg (fun r : Result (List Value) => (r.andThen fun a w' => Result.ok a.toArray w').andThen fun a w' => Result.ok (if h : a.size = 1 then a[0] else Value.tuple a) w') h1).trans rfl
 refine ⟨_,hrun,?_⟩
 match xs,h2,h3,hlen with
 | [],h2,h3,hlen =>
   simp only [RVs] at h2; subst h2
   simp [oneV,RV,RVs,AV.lbs,lbss]
 | [x],h2,h3,hlen =>
   simp only [RVs] at h2
   obtain ⟨v,us,rfl,e1,rfl⟩ := h2
   simp only [oneV]
   exact ⟨by simpa using e1,fun l hl => h3 l (by simp [lbss,hl])⟩
 | x :: y :: r,h2,h3,hlen =>
   have : vs.toArray.size ≠ 1 := by simp; simp at hlen; omega
   rw [dif_neg this]
   simp only [oneV,RV,AV.lbs]
   exact ⟨⟨vs,rfl,h2⟩,h3⟩
theorem argE_lbs (args : List AV) (n : Nat) (l : Lb) (h : l ∈ (argE args n).lbs) : l ∈ lbss args := by
 unfold argE at h
 rw [List.getD_eq_getElem?_getD] at h
 cases hx : args[n]? with
 | none => rw [hx] at h; simp [AV.lbs] at h
 | some x => rw [hx] at h; exact lbss_get _ _ _ hx l (by simpa using h)
theorem spec_of_go {P : Program} {G : Nat → Option (List IV)} {f : Nat} {n : Nat} {rs : List RO} {ac : AC} {args : List AV} {R : AV → Hp → Prop}
   (hF : compF P G f = some (n,rs,ac.bare)) (hn : args.length ≤ n) (hlab : ∀ l,live H l → l.entry = true) (hm : ∀ l ∈ lbss args,H l ≠ .unused)
   (hg : go ⟨P,G,n⟩ (RetP rs R) [.code ac] (argE args) H) : SpecC P G f args H R := by
 unfold compF at hF
 obtain ⟨fn,hf,hF⟩ := bnone hF
 obtain ⟨c,hb,hF⟩ := bnone hF
 obtain ⟨rs',hrs,hF⟩ := bnone hF
 obtain ⟨x,hac,hF⟩ := mnone hF
 simp only [Prod.mk.injEq] at hF
 obtain ⟨rfl,rfl,rfl⟩ := hF
 intro w A β vs hr hv
 have hlen := RVs.len _ _ hv
 refine calls_of_wp hf hb ?_
 have hsz : vs.toArray.size = args.length := by simpa using hlen
 let K : Kx := ⟨P,G,w,A,Owned β H,fn.ntmps,H,β⟩
 have hrel : RelB K β (argE args) H { tmps := vs.toArray ++ Array.replicate (fn.ntmps - vs.toArray.size) undef,defers := [] } w :=
   { defers := rfl
     size := by simp only [Array.size_append,Array.size_replicate,hsz,K]; omega
     regs := fun m => by
       have hget : (vs.toArray ++ Array.replicate (fn.ntmps - vs.toArray.size) undef).getD m undef = (vs[m]?).getD undef := by
         rw [Array.getD_eq_getD_getElem?]
         by_cases hmm : m < vs.length
         · rw [Array.getElem?_append_left (by simpa using hmm)]; simp
         · rw [Array.getElem?_append_right (by simp; omega),Array.getElem?_replicate]
           rw [List.getElem?_eq_none (by omega)]
           split <;> simp
       simp only
       rw [hget]
       unfold argE
       rw [List.getD_eq_getElem?_getD]
       cases hx : args[m]? with
       | none =>
         have : vs[m]? = none := by
           rw [List.getElem?_eq_none_iff] at hx ⊢; omega
         rw [this]; simp [RV,undef]
       | some y =>
         obtain ⟨u,h1,h2⟩ := RVs.get _ _ _ _ hv hx
         rw [h1]; exact h2
     rows := hr.rows
     own := hr.own
     inj := hr.inj
     ment := fun m l hl => hm l (argE_lbs args m l hl)
     rment := hr.rment
     frame := hr.frame
     glob := hr.glob
     stab := hr.stab
     fr := hr.fr }
 have hall : All2 (CIs P G) [.code c] [.code ac] := .cons (.code hac) .nil
 have := go_sound (K := K) hlab (RetP rs' R) (szs [.code ac]) [.code ac] [.code c] (Nat.le_refl _) hall (argE args) H hg β _ w hrel
 simp only [PH,Exit.then] at this
 refine wp_mono this ?_
 intro e a' w' hq
 have key : ∀ a' w',(lift K (RetP rs' R) .normal a' w' ∨ lift K (RetP rs' R) .ret a' w') → a'.defers = [] ∧ ∃ v,(results fn a'.tmps).run P w' = .ok v w' ∧
     ∃ v' x H' β',Ending.returned v = .returned v' ∧ R x H' ∧ RelB (callK P G w A β H) β' Env.any H' noAct w' ∧
     RV w' β' H' (Im (callK P G w A β H) β' H') x v' ∧ ∀ l ∈ x.lbs,H' l ≠ .unused := by
   intro a' w' h
   have : ∃ e env' H' β',RetP rs' R e env' H' ∧ RelB K β' env' H' a' w' := by
     rcases h with ⟨env',H',β',h⟩ | ⟨env',H',β',h⟩ <;> exact ⟨_,env',H',β',h⟩
   obtain ⟨e,env',H',β',⟨_,xs,h1,h2⟩,h3⟩ := this
   obtain ⟨v,k1,k2,k3⟩ := results_sound h3 hrs h1
   refine ⟨h3.defers,v,k1,v,_,H',β',rfl,h2,?_,k2,k3⟩
   exact
     { defers := rfl
       size := rfl
       regs := fun m => by simp [Env.any,RV]
       rows := h3.rows
       own := h3.own
       inj := h3.inj
       ment := fun m => by simp [Env.any,AV.lbs]
       rment := h3.rment
       frame := h3.frame
       glob := h3.glob
       stab := h3.stab
       fr := h3.fr }
 cases e with
 | normal => exact key a' w' (.inl hq)
 | ret => exact key a' w' (.inr hq)
 | panic ch => obtain ⟨_,_,_,⟨h,_⟩,_⟩ := hq; simp at h
 | exit id => obtain ⟨_,_,_,⟨h,_⟩,_⟩ := hq; simp at h
 | goto l => obtain ⟨_,_,_,⟨h,_⟩,_⟩ := hq; simp at h
 | outgrown => obtain ⟨_,_,_,⟨h,_⟩,_⟩ := hq; simp at h
theorem pure_of_go {P : Program} {G : Nat → Option (List IV)} {f : Nat} {n : Nat} {rs : List RO} {ac : AC} {args : List AV} {res : AV}
   (hF : compF P G f = some (n,rs,ac.bare)) (hn : args.length ≤ n) (hl : lbss args = []) (hl2 : res.lbs = [])
   (hg : go ⟨P,G,n⟩ (RetP rs fun x _ => x = res) [.code ac] (argE args) Hp.none) : PureC P G f args res :=
 ⟨hl,hl2,spec_of_go hF hn (fun l ⟨r,h⟩ => by simp [Hp.none] at h) (by simp [hl]) hg⟩
end
end Go.Am

/- THE ABSTRACT MACHINE, part 21: loops. -/
namespace Go.Am
open Go Go.RowKit
structure Wk (ρ : Lb → Lb) (env : Env) (H : Hp) (env2 : Env) (H2 : Hp) : Prop where
 e : ∀ n,env2 n = .any ∨ env n = ren ρ (env2 n)
 h : ∀ l r,H2 l = .live r → H (ρ l) = .live (renR ρ r)
 inj : ∀ l l',live H2 l → live H2 l' → ρ l = ρ l' → l = l'
 m : ∀ n,∀ l ∈ (env2 n).lbs,H2 l ≠ .unused
 rm : ∀ l r,H2 l = .live r → ∀ cs ∈ r.els,∀ q ∈ lbss cs,H2 q ≠ .unused
 st : ∀ l,l.entry = true → (H l ≠ .unused → H2 l ≠ .unused) ∧ (live H2 l → ρ l = l)
 fr : ∀ l,live H2 l → l.fresh = true → (ρ l).fresh = true
def LoopQ {σ : Type} (S : St) (Q : Post) (k : List It) (E : σ → Env) (HH : σ → Hp) (μ : σ → Nat) (n : Nat) : Post := fun e env H =>
 match e with
 | .normal => ∃ s,μ s < n ∧ ∃ ρ,Wk ρ env H (E s) (HH s)
 | .exit id => match popTo id k with
   | some k' => go S Q k' env H
   | none => Q (.exit id) env H
 | .ret => Q .ret env H
 | _ => False
theorem Wk.rel {K : Kx} {β : Lb → Option Nat} {env : Env} {H : Hp} {a : Act} {w : World} {ρ : Lb → Lb} {env2 : Env} {H2 : Hp} (hS : ∀ l,live K.H0 l → l.entry = true) (h : Wk ρ env H env2 H2) (hr : RelB K β env H a w) :
   RelB K (fun l => β (ρ l)) env2 H2 a w :=
 hr.weak ρ h.e h.h h.inj h.m h.rm (fun l hl => ⟨(h.st l (hS l hl)).1 (hr.stab l hl).1,(h.st l (hS l hl)).2⟩) h.fr
theorem loop_intro {σ : Type} {S : St} {Q : Post} {c : AC} {k : List It} {env : Env} {H : Hp} (E : σ → Env) (HH : σ → Hp) (μ : σ → Nat) (s0 : σ) (ρ : Lb → Lb) (h0 : Wk ρ env H (E s0) (HH s0))
   (round : ∀ s,go S (LoopQ S Q k E HH μ (μ s)) [.code c] (E s) (HH s)) : LoopG S Q c k env H := by
 intro K hKS hS c0 ck hc hall β a w hr
 subst hKS
 simp only [PH,Exit.then]
 refine wp_loop_ghost (fun n a w => ∃ s β,μ s = n ∧ RelB K β (E s) (HH s) a w) (μ s0) ⟨s0,_,rfl,h0.rel hS hr⟩ ?_
 rintro n a w ⟨s,β,rfl,hr⟩
 have hs := go_sound (K := K) hS _ (szs [.code c]) [.code c] [.code c0] (Nat.le_refl _) (.cons (.code hc) .nil) (E s) (HH s) (round s) β a w hr
 simp only [PH,Exit.then] at hs
 refine wp_mono hs ?_
 rintro e a' w' ⟨env',H',β',hq,hr'⟩
 cases e with
 | normal =>
   obtain ⟨s',hlt,ρ',hw⟩ := hq
   exact ⟨μ s',hlt,s',_,rfl,hw.rel hS hr'⟩
 | exit id =>
   have hp := pop_sound (P := K.P) (G := K.G) (lift K Q) (id := id) ck k hall
   simp only [LoopQ] at hq
   show PH K.P (lift K Q) ck (.exit id) a' w'
   cases hk' : popTo id k with
   | some k' =>
     rw [hk'] at hp hq
     obtain ⟨ck',e1,e2⟩ := hp
     exact e2 a' w' (go_sound (K := K) hS Q (szs k') k' ck' (Nat.le_refl _) e1 env' H' hq β' a' w' hr')
   | none =>
     rw [hk'] at hp hq
     exact hp a' w' ⟨env',H',β',hq,hr'⟩
 | ret => exact PH_ret _ _ _ _ _ ⟨env',H',β',hq,hr'⟩
 | goto l => exact hq.elim
 | panic ch => exact hq.elim
 | outgrown => exact hq.elim
end Go.Am

/- THE ABSTRACT MACHINE, part 22: how code is evaluated: equations. -/
namespace Go.Am
open Go Go.RowKit
inductive Tk {α : Type 1} (a : α) : Type
 | mk
inductive Tp (a c : Prop) : Type
 | mk
inductive Tv {α : Type} (a : α → Prop) : Type
 | mk
inductive Tw (a : AV → Hp → Prop) : Type
 | mk
def stK (o : Option AV) (k : AV → Prop) (_ : Tv k) : Prop := ∃ x,o = some x ∧ k x
def gB (x : AV) (t : Bool) (A B : Prop) (_ : Tp A B) : Prop :=
 match x with
 | .bool b => if b = t then A else B
 | .un => B
 | _ => False
def cK (x : AV) (A B : Prop) (_ : Tp A B) : Prop :=
 match x with
 | .bool b => if b = true then A else B
 | _ => False
def hK (o : Option Hp) (k : Hp → Prop) (_ : Tv k) : Prop := ∃ x,o = some x ∧ k x
def pK (o : Option (AV × Hp)) (k : AV → Hp → Prop) (_ : Tw k) : Prop := ∃ x h,o = some (x,h) ∧ k x h
def clK (S : St) (f : Nat) (args : List AV) (H : Hp) (k : AV → Hp → Prop) (_ : Tw k) : Prop := CallT S f args H k
def puK (S : St) (f : Nat) (args : List AV) (k : AV → Prop) (_ : Tv k) : Prop := ∃ x,PureC S.P S.G f args x ∧ k x
section
variable {S : St} {Q : Post} {env : Env} {H : Hp} {k : List It}
theorem stK_some (x : AV) (k : AV → Prop) (u : Tv k) : stK (some x) k u = k x := by simp [stK]
theorem hK_some (x : Hp) (k : Hp → Prop) (u : Tv k) : hK (some x) k u = k x := by simp [hK]
theorem pK_some (x : AV) (h : Hp) (k : AV → Hp → Prop) (u : Tw k) : pK (some (x,h)) k u = k x h := by
 simp only [pK,Option.some.injEq,Prod.mk.injEq]
 apply propext
 constructor
 · rintro ⟨_,_,⟨rfl,rfl⟩,h⟩; exact h
 · intro h; exact ⟨_,_,⟨rfl,rfl⟩,h⟩
theorem gB_t (A B : Prop) (u : Tp A B) : gB (.bool true) true A B u = A := by simp [gB]
theorem gB_f (A B : Prop) (u : Tp A B) : gB (.bool false) true A B u = B := by simp [gB]
theorem gB_t' (A B : Prop) (u : Tp A B) : gB (.bool true) false A B u = B := by simp [gB]
theorem gB_f' (A B : Prop) (u : Tp A B) : gB (.bool false) false A B u = A := by simp [gB]
theorem gB_u (t : Bool) (A B : Prop) (u : Tp A B) : gB .un t A B u = B := by simp [gB]
theorem cK_t (A B : Prop) (u : Tp A B) : cK (.bool true) A B u = A := by simp [cK]
theorem cK_f (A B : Prop) (u : Tp A B) : cK (.bool false) A B u = B := by simp [cK]
theorem ao_nil (k : Env → Hp → Prop) : AO S [] env H k = k env H := rfl
theorem ao_some (n : Nat) (i : Ins) (r : List LIns) (k : Env → Hp → Prop) :
   AO S (⟨some n,none,i⟩ :: r) env H k = (n < S.N ∧ Act1 S (some n) i env H fun x H' => AO S r (put env n x) H' k) := by
 simp [AO,gW,putO]
theorem ao_none (i : Ins) (r : List LIns) (k : Env → Hp → Prop) :
   AO S (⟨none,none,i⟩ :: r) env H k = Act1 S none i env H fun x H' => AO S r env H' k := by
 simp [AO,gW,putO]
theorem ao_guard (n s : Nat) (t : Bool) (i : Ins) (r : List LIns) (k : Env → Hp → Prop) :
   AO S (⟨some n,some (s,t),i⟩ :: r) env H k = (n < S.N ∧ gB (env s) t (Act1 S (some n) i env H fun x H' => AO S r (put env n x) H' k) (AO S r (put env n .un) H k) .mk) := by
 simp only [AO,gW,putO]
 cases he : env s <;> simp [gB,he]
 rename_i b
 cases b <;> cases t <;> simp
theorem ao_guard0 (s : Nat) (t : Bool) (i : Ins) (r : List LIns) (k : Env → Hp → Prop) :
   AO S (⟨none,some (s,t),i⟩ :: r) env H k = gB (env s) t (Act1 S none i env H fun x H' => AO S r env H' k) (AO S r env H k) .mk := by
 simp only [AO,gW,putO]
 cases he : env s <;> simp [gB,he]
 rename_i b
 cases b <;> cases t <;> simp
theorem aof_some (j n : Nat) (i : Ins) (f : Fp) (r : List (Nat × LIns × Fp)) (k : Env → Hp → Prop) :
   AOf S ((j,⟨some n,none,i⟩,f) :: r) env H k = (n < S.N ∧ Act1f S f (some n) i env H fun x H' => AOf S r (put env n x) H' k) := by
 simp [AOf,St1,gW,putO]
theorem aof_none (j : Nat) (i : Ins) (f : Fp) (r : List (Nat × LIns × Fp)) (k : Env → Hp → Prop) :
   AOf S ((j,⟨none,none,i⟩,f) :: r) env H k = Act1f S f none i env H fun x H' => AOf S r env H' k := by
 simp [AOf,St1,gW,putO]
theorem aof_guard (j n s : Nat) (t : Bool) (i : Ins) (f : Fp) (r : List (Nat × LIns × Fp)) (k : Env → Hp → Prop) :
   AOf S ((j,⟨some n,some (s,t),i⟩,f) :: r) env H k = (n < S.N ∧ gB (env s) t (Act1f S f (some n) i env H fun x H' => AOf S r (put env n x) H' k) (AOf S r (put env n .un) H k) .mk) := by
 simp only [AOf,St1,gW,putO]
 cases he : env s <;> simp [gB,he]
 rename_i b
 cases b <;> cases t <;> simp
theorem go_nil : go S Q [] env H = Q .normal env H := by rw [go]
theorem go_blk (id : Nat) : go S Q (.blk id :: k) env H = go S Q k env H := by rw [go]
theorem go_skip : go S Q (.code .skip :: k) env H = go S Q k env H := by rw [go]
theorem go_seq (a b : AC) : go S Q (.code (.seq a b) :: k) env H = go S Q (.code a :: .code b :: k) env H := by rw [go]
theorem go_cond (x : O) (a b : AC) : go S Q (.code (.cond x a b) :: k) env H = cK (ev env x) (go S Q (.code a :: k) env H) (go S Q (.code b :: k) env H) .mk := by
 rw [go]
 unfold cK
 apply propext
 constructor
 · rintro ⟨t,h1,h2,h3⟩
   rw [h1]
   cases t
   · simpa using h3 rfl
   · simpa using h2 rfl
 · intro h
   split at h
   · rename_i t e
     refine ⟨t,e,fun e2 => ?_,fun e2 => ?_⟩ <;> subst e2 <;> simpa using h
   · exact h.elim
theorem go_block (id : Nat) (c : AC) : go S Q (.code (.block id c) :: k) env H = go S Q (.code c :: .blk id :: k) env H := by rw [go]
theorem go_loop (c : AC) : go S Q (.code (.loop c) :: k) env H = LoopG S Q c k env H := by rw [go]
theorem go_ret : go S Q (.code .ret :: k) env H = Q .ret env H := by rw [go]
theorem go_reg (is : List LIns) : go S Q (.code (.reg is) :: k) env H = AO S is env H (go S Q k) := by rw [go]
theorem go_keep (ns : List Nat) (c : AC) : go S Q (.code (.gh (.keep ns) c) :: k) env H = go S Q (.code c :: k) (keepE ns env) H := by rw [go]
theorem go_frz (l : Lb) (d : Nat) (c : AC) : go S Q (.code (.gh (.frz l d) c) :: k) env H = ∃ sz xs i n,env d = .sl l sz i n ∧ H l = .live ⟨sz,immE xs⟩ ∧ l.fresh = true ∧ i + n ≤ xs.length ∧ Flat xs ∧
       go S Q (.code c :: k) (put env d (.list ((xs.drop i).take n))) (upd H l .dead) := by rw [go]
theorem go_own (d sz : Nat) (c : AC) : go S Q (.code (.gh (.own d sz) c) :: k) env H = (env d = .nil0 ∧ 0 < sz ∧ H (.loc d) = .unused ∧ go S Q (.code c :: k) (put env d (.sl (.loc d) sz 0 0)) (upd H (.loc d) (.live ⟨sz,[]⟩))) := by rw [go]
theorem go_weak (c : AC) : go S Q (.code (.gh .weak c) :: k) env H = ∃ env2 H2,Weaker S env H env2 H2 ∧ go S Q (.code c :: k) env2 H2 := by rw [go]
theorem go_sel (c : AC) : go S Q (.code (.gh .sel c) :: k) env H = ∃ (T : Type) (E : T → Env) (HH : T → Hp),Choice S env H T E HH ∧ ∀ t,go S Q (.code c :: k) (E t) (HH t) := by rw [go]
theorem go_exit (id : Nat) : go S Q (.code (.exit id) :: k) env H = match popTo id k with
   | some k' => go S Q k' env H
   | none => Q (.exit id) env H := by
 cases h : popTo id k with
 | some k' => rw [go_exit_some h]
 | none => rw [go_exit_none h]
theorem items_cons (n : Nat) (i : LIns) (is : List LIns) (f : Fp) (fs : List Fp) : items n (i :: is) (f :: fs) = (n,i,f) :: items (n + 1) is fs := rfl
theorem a1_mov d x (k : AV → Hp → Prop) : Act1 S d (.mov x) env H k = stK (stillV (.mov x) env) (fun x => k x H) .mk := rfl
theorem a1_pick d c a b (k : AV → Hp → Prop) : Act1 S d (.pick c a b) env H k = stK (stillV (.pick c a b) env) (fun x => k x H) .mk := rfl
theorem a1_fld d a off (k : AV → Hp → Prop) : Act1 S d (.fld a off) env H k = stK (stillV (.fld a off) env) (fun x => k x H) .mk := rfl
theorem a1_ixp d x i n sz (k : AV → Hp → Prop) : Act1 S d (.ixp x i n sz) env H k = stK (stillV (.ixp x i n sz) env) (fun x => k x H) .mk := rfl
theorem a1_ixa d x i sz (k : AV → Hp → Prop) : Act1 S d (.ixa x i sz) env H k = stK (stillV (.ixa x i sz) env) (fun x => k x H) .mk := rfl
theorem a1_ixs d x i (k : AV → Hp → Prop) : Act1 S d (.ixs x i) env H k = stK (stillV (.ixs x i) env) (fun x => k x H) .mk := rfl
theorem a1_len d x (k : AV → Hp → Prop) : Act1 S d (.len x) env H k = stK (stillV (.len x) env) (fun x => k x H) .mk := rfl
theorem a1_lens d x (k : AV → Hp → Prop) : Act1 S d (.lens x) env H k = stK (stillV (.lens x) env) (fun x => k x H) .mk := rfl
theorem a1_slc d x lo hi mx sz (k : AV → Hp → Prop) : Act1 S d (.slc x lo hi mx sz) env H k = stK (stillV (.slc x lo hi mx sz) env) (fun x => k x H) .mk := rfl
theorem a1_slcs d x lo hi (k : AV → Hp → Prop) : Act1 S d (.slcs x lo hi) env H k = stK (stillV (.slcs x lo hi) env) (fun x => k x H) .mk := rfl
theorem a1_bin d op x y (k : AV → Hp → Prop) : Act1 S d (.bin op x y) env H k = stK (stillV (.bin op x y) env) (fun x => k x H) .mk := rfl
theorem a1_eqb d n x y (k : AV → Hp → Prop) : Act1 S d (.eqb n x y) env H k = stK (stillV (.eqb n x y) env) (fun x => k x H) .mk := rfl
theorem a1_eqp d n x y (k : AV → Hp → Prop) : Act1 S d (.eqp n x y) env H k = stK (stillV (.eqp n x y) env) (fun x => k x H) .mk := rfl
theorem a1_eqi d n x y (k : AV → Hp → Prop) : Act1 S d (.eqi n x y) env H k = stK (stillV (.eqi n x y) env) (fun x => k x H) .mk := rfl
theorem a1_eqst d n ks x y (k : AV → Hp → Prop) : Act1 S d (.eqst n ks x y) env H k = stK (stillV (.eqst n ks x y) env) (fun x => k x H) .mk := rfl
theorem a1_not d x (k : AV → Hp → Prop) : Act1 S d (.not x) env H k = stK (stillV (.not x) env) (fun x => k x H) .mk := rfl
theorem a1_neg d x (k : AV → Hp → Prop) : Act1 S d (.neg x) env H k = stK (stillV (.neg x) env) (fun x => k x H) .mk := rfl
theorem a1_max d x y (k : AV → Hp → Prop) : Act1 S d (.max x y) env H k = stK (stillV (.max x y) env) (fun x => k x H) .mk := rfl
theorem a1_min d x y (k : AV → Hp → Prop) : Act1 S d (.min x y) env H k = stK (stillV (.min x y) env) (fun x => k x H) .mk := rfl
theorem a1_ext d x i (k : AV → Hp → Prop) : Act1 S d (.ext x i) env H k = stK (stillV (.ext x i) env) (fun x => k x H) .mk := rfl
theorem a1_bld d z ps (k : AV → Hp → Prop) : Act1 S d (.bld z ps) env H k = stK (stillV (.bld z ps) env) (fun x => k x H) .mk := rfl
theorem a1_getf d x off m (k : AV → Hp → Prop) : Act1 S d (.getf x off m) env H k = stK (stillV (.getf x off m) env) (fun x => k x H) .mk := rfl
theorem a1_lits d n sz z ps (k : AV → Hp → Prop) : Act1 S d (.lits n sz z ps) env H k = stK (stillV (.lits n sz z ps) env) (fun x => k x H) .mk := rfl
theorem a1_boxi d x (k : AV → Hp → Prop) : Act1 S d (.boxi x) env H k = stK (stillV (.boxi x) env) (fun x => k x H) .mk := rfl
theorem a1_nchk d x (k : AV → Hp → Prop) : Act1 S d (.nchk x) env H k = stK (stillV (.nchk x) env) (fun x => k x H) .mk := rfl
theorem a1_mkf d f cap (k : AV → Hp → Prop) : Act1 S d (.mkf f cap) env H k = stK (stillV (.mkf f cap) env) (fun x => k x H) .mk := rfl
theorem a1_cvi d kd x (k : AV → Hp → Prop) : Act1 S d (.cvi kd x) env H k = stK (stillV (.cvi kd x) env) (fun x => k x H) .mk := rfl
theorem a1_cvs d x (k : AV → Hp → Prop) : Act1 S d (.cvs x) env H k = stK (stillV (.cvs x) env) (fun x => k x H) .mk := rfl
theorem a1_cvb d x (k : AV → Hp → Prop) : Act1 S d (.cvb x) env H k = stK (stillV (.cvb x) env) (fun x => k x H) .mk := rfl
theorem a1_cvt d x (k : AV → Hp → Prop) : Act1 S d (.cvt x) env H k = stK (stillV (.cvt x) env) (fun x => k x H) .mk := rfl
theorem a1_mkif d t x (k : AV → Hp → Prop) : Act1 S d (.mkif t x) env H k = stK (stillV (.mkif t x) env) (fun x => k x H) .mk := rfl
theorem a1_load (d : Option Nat) (m : Option Nat) (a : O) (k : AV → Hp → Prop) : Act1 S d (.load m a) env H k = (stK (stillV (.load m a) env) (fun x => k x H) .mk ∨ stK (loadV m (ev env a) H) (fun x => k x H) .mk) := rfl
def ldV (m : Option Nat) (x : AV) (H : Hp) : Option AV :=
 match x with
 | .lptr cs => match m with
     | none => cs[0]?.map IV.av1
     | some k => if k ≤ cs.length then some (.agg ((cs.take k).map IV.av1)) else none
 | x => loadV m x H
theorem a1_ld (d : Option Nat) (m : Option Nat) (a : O) (k : AV → Hp → Prop) : Act1 S d (.load m a) env H k = stK (ldV m (ev env a) H) (fun x => k x H) .mk := by
 rw [a1_load]
 unfold ldV
 split
 · rename_i cs e
   simp only [stillV,e,loadV,stK]
   apply propext
   constructor
   · rintro (h | ⟨x,h,_⟩)
     · exact h
     · simp at h
   · exact .inl
 · rename_i x hne
   have : stillV (.load m a) env = none := by
     simp only [stillV]
   rw [this]
   simp [stK]
theorem a1_new (n : Nat) (cs : List AV) (k : AV → Hp → Prop) : Act1 S (some n) (.new cs) env H k = (H (.loc n) = .unused ∧ 0 < cs.length ∧ cs.length ≤ maxLen ∧
   k (.ptr (.loc n) cs.length 0 0) (upd H (.loc n) (.live ⟨cs.length,[cs]⟩))) := by
 simp [Act1]
def boxK (x : AV) (n : Nat) (H : Hp) (k : AV → Hp → Prop) : Prop := H (.loc n) = .unused ∧ x.stb = true ∧ 0 < x.cells.length ∧ x.cells.length ≤ maxLen ∧
 k (.ptr (.loc n) x.cells.length 0 0) (upd H (.loc n) (.live ⟨x.cells.length,[x.cells]⟩))
theorem a1_box (n : Nat) (x : O) (k : AV → Hp → Prop) : Act1 S (some n) (.box x) env H k = boxK (ev env x) n H k := by
 simp [Act1,boxK]
theorem a1_store (m : Nat) (a x : O) (k : AV → Hp → Prop) : Act1 S none (.store m a x) env H k = hK (storeV m (ev env a) (ev env x) H) (fun H' => k .un H') .mk := by
 simp [Act1,hK]
theorem a1_app (n : Nat) (s x : O) (sz b : Nat) (k : AV → Hp → Prop) : Act1 S (some n) (.app s x sz b) env H k = pK (appV sz b n (ev env s) (ev env x) H) k .mk := by
 simp only [Act1,pK,Option.some.injEq]
 apply propext
 constructor
 · rintro ⟨_,rfl,h⟩; exact h
 · intro h; exact ⟨_,rfl,h⟩
theorem a1_call (d : Option Nat) (f : Nat) (args : List O) (k : AV → Hp → Prop) : Act1 S d (.call f args) env H k = clK S f (args.map (ev env)) H k .mk := rfl
theorem callT_pure {f : Nat} {args : List AV} {res : AV} {k : AV → Hp → Prop} (h : PureC S.P S.G f args res) (hk : k res H) {u : Tw k} : clK S f args H k u := .inl ⟨res,h,hk⟩
theorem callT_lend {f : Nat} {args cargs : List AV} {res : AV} {k : AV → Hp → Prop} (h : PureC S.P S.G f cargs res) (ha : All2 (Lent H) args cargs) (hs : res.scalar = true) (hk : k res H) {u : Tw k} : clK S f args H k u := .inr (.inl ⟨cargs,res,ha,h,hs,hk⟩)
theorem puK_in {f : Nat} {args : List AV} {res : AV} {k : AV → Prop} (h : PureC S.P S.G f args res) (hk : k res) {u : Tv k} : puK S f args k u := ⟨res,h,hk⟩
theorem af_mov' d x (k : AV → Hp → Prop) : Act1f S .no d (.mov x) env H k = stK (stillV (.mov x) env) (fun x => k x H) .mk := by simp only [Act1f,Quiet,stK,or_false]
theorem af_pick' d c a b (k : AV → Hp → Prop) : Act1f S .no d (.pick c a b) env H k = stK (stillV (.pick c a b) env) (fun x => k x H) .mk := by simp only [Act1f,Quiet,stK,or_false]
theorem af_fld' d a off (k : AV → Hp → Prop) : Act1f S .no d (.fld a off) env H k = stK (stillV (.fld a off) env) (fun x => k x H) .mk := by simp only [Act1f,Quiet,stK,or_false]
theorem af_ixa' d x i sz (k : AV → Hp → Prop) : Act1f S .no d (.ixa x i sz) env H k = stK (stillV (.ixa x i sz) env) (fun x => k x H) .mk := by simp only [Act1f,Quiet,stK,or_false]
theorem af_ixp' d x i n sz (k : AV → Hp → Prop) : Act1f S .no d (.ixp x i n sz) env H k = stK (stillV (.ixp x i n sz) env) (fun x => k x H) .mk := by simp only [Act1f,Quiet,stK,or_false]
theorem af_ixs' d x i (k : AV → Hp → Prop) : Act1f S .no d (.ixs x i) env H k = stK (stillV (.ixs x i) env) (fun x => k x H) .mk := by simp only [Act1f,Quiet,stK,or_false]
theorem af_len' d x (k : AV → Hp → Prop) : Act1f S .no d (.len x) env H k = stK (stillV (.len x) env) (fun x => k x H) .mk := by simp only [Act1f,Quiet,stK,or_false]
theorem af_lens' d x (k : AV → Hp → Prop) : Act1f S .no d (.lens x) env H k = stK (stillV (.lens x) env) (fun x => k x H) .mk := by simp only [Act1f,Quiet,stK,or_false]
theorem af_slc' d x lo hi mx sz (k : AV → Hp → Prop) : Act1f S .no d (.slc x lo hi mx sz) env H k = stK (stillV (.slc x lo hi mx sz) env) (fun x => k x H) .mk := by simp only [Act1f,Quiet,stK,or_false]
theorem af_slcs' d x lo hi (k : AV → Hp → Prop) : Act1f S .no d (.slcs x lo hi) env H k = stK (stillV (.slcs x lo hi) env) (fun x => k x H) .mk := by simp only [Act1f,Quiet,stK,or_false]
theorem af_bin' d op x y (k : AV → Hp → Prop) : Act1f S .no d (.bin op x y) env H k = stK (stillV (.bin op x y) env) (fun x => k x H) .mk := by simp only [Act1f,Quiet,stK,or_false]
theorem af_eqb' d n x y (k : AV → Hp → Prop) : Act1f S .no d (.eqb n x y) env H k = stK (stillV (.eqb n x y) env) (fun x => k x H) .mk := by simp only [Act1f,Quiet,stK,or_false]
theorem af_eqp' d n x y (k : AV → Hp → Prop) : Act1f S .no d (.eqp n x y) env H k = stK (stillV (.eqp n x y) env) (fun x => k x H) .mk := by simp only [Act1f,Quiet,stK,or_false]
theorem af_eqi' d n x y (k : AV → Hp → Prop) : Act1f S .no d (.eqi n x y) env H k = stK (stillV (.eqi n x y) env) (fun x => k x H) .mk := by simp only [Act1f,Quiet,stK,or_false]
theorem af_eqst' d n ks x y (k : AV → Hp → Prop) : Act1f S .no d (.eqst n ks x y) env H k = stK (stillV (.eqst n ks x y) env) (fun x => k x H) .mk := by simp only [Act1f,Quiet,stK,or_false]
theorem af_not' d x (k : AV → Hp → Prop) : Act1f S .no d (.not x) env H k = stK (stillV (.not x) env) (fun x => k x H) .mk := by simp only [Act1f,Quiet,stK,or_false]
theorem af_neg' d x (k : AV → Hp → Prop) : Act1f S .no d (.neg x) env H k = stK (stillV (.neg x) env) (fun x => k x H) .mk := by simp only [Act1f,Quiet,stK,or_false]
theorem af_max' d x y (k : AV → Hp → Prop) : Act1f S .no d (.max x y) env H k = stK (stillV (.max x y) env) (fun x => k x H) .mk := by simp only [Act1f,Quiet,stK,or_false]
theorem af_min' d x y (k : AV → Hp → Prop) : Act1f S .no d (.min x y) env H k = stK (stillV (.min x y) env) (fun x => k x H) .mk := by simp only [Act1f,Quiet,stK,or_false]
theorem af_ext' d x i (k : AV → Hp → Prop) : Act1f S .no d (.ext x i) env H k = stK (stillV (.ext x i) env) (fun x => k x H) .mk := by simp only [Act1f,Quiet,stK,or_false]
theorem af_bld' d z ps (k : AV → Hp → Prop) : Act1f S .no d (.bld z ps) env H k = stK (stillV (.bld z ps) env) (fun x => k x H) .mk := by simp only [Act1f,Quiet,stK,or_false]
theorem af_getf' d x off m (k : AV → Hp → Prop) : Act1f S .no d (.getf x off m) env H k = stK (stillV (.getf x off m) env) (fun x => k x H) .mk := by simp only [Act1f,Quiet,stK,or_false]
theorem af_lits' d n sz z ps (k : AV → Hp → Prop) : Act1f S .no d (.lits n sz z ps) env H k = stK (stillV (.lits n sz z ps) env) (fun x => k x H) .mk := by simp only [Act1f,Quiet,stK,or_false]
theorem af_boxi' d x (k : AV → Hp → Prop) : Act1f S .no d (.boxi x) env H k = stK (stillV (.boxi x) env) (fun x => k x H) .mk := by simp only [Act1f,Quiet,stK,or_false]
theorem af_nchk' d x (k : AV → Hp → Prop) : Act1f S .no d (.nchk x) env H k = stK (stillV (.nchk x) env) (fun x => k x H) .mk := by simp only [Act1f,Quiet,stK,or_false]
theorem af_mkf' d f cap (k : AV → Hp → Prop) : Act1f S .no d (.mkf f cap) env H k = stK (stillV (.mkf f cap) env) (fun x => k x H) .mk := by simp only [Act1f,Quiet,stK,or_false]
theorem af_cvi' d kd x (k : AV → Hp → Prop) : Act1f S .no d (.cvi kd x) env H k = stK (stillV (.cvi kd x) env) (fun x => k x H) .mk := by simp only [Act1f,Quiet,stK,or_false]
theorem af_cvs' d x (k : AV → Hp → Prop) : Act1f S .no d (.cvs x) env H k = stK (stillV (.cvs x) env) (fun x => k x H) .mk := by simp only [Act1f,Quiet,stK,or_false]
theorem af_cvb' d x (k : AV → Hp → Prop) : Act1f S .no d (.cvb x) env H k = stK (stillV (.cvb x) env) (fun x => k x H) .mk := by simp only [Act1f,Quiet,stK,or_false]
theorem af_cvt' d x (k : AV → Hp → Prop) : Act1f S .no d (.cvt x) env H k = stK (stillV (.cvt x) env) (fun x => k x H) .mk := by simp only [Act1f,Quiet,stK,or_false]
theorem af_mkif' d t x (k : AV → Hp → Prop) : Act1f S .no d (.mkif t x) env H k = stK (stillV (.mkif t x) env) (fun x => k x H) .mk := by simp only [Act1f,Quiet,stK,or_false]
theorem af_load' d m a (k : AV → Hp → Prop) : Act1f S .no d (.load m a) env H k = stK (stillV (.load m a) env) (fun x => k x H) .mk := by simp only [Act1f,Quiet,stK,or_false]
theorem af_call (d : Option Nat) (f : Nat) (args : List O) (k : AV → Hp → Prop) : Act1f S .no d (.call f args) env H k = puK S f (args.map (ev env)) (fun x => k x H) .mk := by
 simp [Act1f,Quiet,stillV,puK]
theorem put_at (env : Env) (n m : Nat) (x : AV) : put env n x m = if m = n then x else env m := rfl
end
def a1_still := And.intro @a1_ixp <| And.intro @a1_mov (And.intro @a1_pick (And.intro @a1_fld (And.intro @a1_ixa (And.intro @a1_ixs (And.intro @a1_len (And.intro @a1_lens (And.intro @a1_slc (And.intro @a1_slcs (And.intro @a1_bin (And.intro @a1_eqb (And.intro @a1_eqp (And.intro @a1_eqi (And.intro @a1_eqst (And.intro @a1_not (And.intro @a1_neg (And.intro @a1_max (And.intro @a1_min (And.intro @a1_ext (And.intro @a1_bld (And.intro @a1_getf (And.intro @a1_lits (And.intro @a1_boxi (And.intro @a1_nchk (And.intro @a1_mkf (And.intro @a1_cvi (And.intro @a1_cvs (And.intro @a1_cvb (And.intro @a1_cvt (@a1_mkif)))))))))))))))))))))))))))))
def af_still := And.intro @af_ixp' <| And.intro @af_mov' (And.intro @af_pick' (And.intro @af_fld' (And.intro @af_ixa' (And.intro @af_ixs' (And.intro @af_len' (And.intro @af_lens' (And.intro @af_slc' (And.intro @af_slcs' (And.intro @af_bin' (And.intro @af_eqb' (And.intro @af_eqp' (And.intro @af_eqi' (And.intro @af_eqst' (And.intro @af_not' (And.intro @af_neg' (And.intro @af_max' (And.intro @af_min' (And.intro @af_ext' (And.intro @af_bld' (And.intro @af_getf' (And.intro @af_lits' (And.intro @af_boxi' (And.intro @af_nchk' (And.intro @af_mkf' (And.intro @af_cvi' (And.intro @af_cvs' (And.intro @af_cvb' (And.intro @af_cvt' (And.intro @af_mkif' (@af_load'))))))))))))))))))))))))))))))
end Go.Am
