import Derived.Test.YtfinkeaikbmpgaaKAm23
import Derived.Deep.LoopGhost
set_option linter.unusedSimpArgs false
set_option linter.unusedVariables false
set_option linter.unnecessarySimpa false
set_option linter.defProp false
/- THE ABSTRACT MACHINE, part 27: loops by lists of slots; forks by their sides. -/
namespace Go.Am
open Go Go.RowKit
def ofL : List (Nat × AV) → Env
 | [] => Env.any
 | (n,x) :: r => put (ofL r) n x
theorem ofL_nil : ofL [] = Env.any := rfl
theorem ofL_cons (n : Nat) (x : AV) (r : List (Nat × AV)) : ofL ((n,x) :: r) = put (ofL r) n x := rfl
def EqL (ρ : Lb → Lb) (env : Env) : List (Nat × AV) → Prop
 | [] => True
 | (n,x) :: r => env n = ren ρ x ∧ EqL ρ env r
def EqI (env : Env) : List (Nat × AV) → Prop
 | [] => True
 | (n,x) :: r => env n = x ∧ EqI env r
theorem EqL.we {ρ : Lb → Lb} {env : Env} : ∀ {ps : List (Nat × AV)},EqL ρ env ps → ∀ n,ofL ps n = .any ∨ env n = ren ρ (ofL ps n)
 | [],_ => we_any ρ env
 | (n,x) :: r,h => we_put h.1 (EqL.we h.2)
theorem EqI.eql {env : Env} : ∀ {ps : List (Nat × AV)},EqI env ps → EqL id env ps
 | [],_ => trivial
 | (n,x) :: r,h => ⟨by rw [ren_id]; exact h.1,EqI.eql h.2⟩
theorem ofL_wm {H : Hp} : ∀ {ps : List (Nat × AV)},(∀ l ∈ lbss (ps.map Prod.snd),H l ≠ .unused) → ∀ n,∀ l ∈ (ofL ps n).lbs,H l ≠ .unused
 | [],_ => wm_any H
 | (n,x) :: r,h => wm_put (fun l hl => h l (by simp [lbss,hl])) (ofL_wm fun l hl => h l (by simp only [List.map_cons,lbss,List.mem_append]; exact .inr hl))
def NF (H : Hp) : Prop := ∀ l : Lb,l.fresh = false → H l = .unused
theorem NF_none : NF Hp.none = True := by simp [NF,Hp.none]
theorem NF_upd (H : Hp) (n : Nat) (s : Slot) : NF (upd H (.loc n) s) = NF H := by
 apply propext
 constructor
 · intro h l hl
   have := h l hl
   have hne : l ≠ .loc n := by rintro rfl; simp [Lb.fresh] at hl
   rwa [upd_ne _ _ hne] at this
 · exact nf_upd
def LoopX {σ : Type} (S : St) (Q : Post) (k : List It) (W : Env → Hp → σ → Prop) (μ : σ → Nat) (n : Nat) : Post := fun e env H =>
 match e with
 | .normal => ∃ s,μ s < n ∧ W env H s
 | .exit id => match popTo id k with
   | some k' => go S Q k' env H
   | none => Q (.exit id) env H
 | .ret => Q .ret env H
 | _ => False
theorem loop_gen {σ : Type} {S : St} {Q : Post} {c : AC} {k : List It} {env : Env} {H : Hp} (E : σ → Env) (HH : σ → Hp) (W : Env → Hp → σ → Prop) (hW : ∀ env H s,W env H s → ∃ ρ,Wk ρ env H (E s) (HH s))
   (μ : σ → Nat) (s0 : σ) (h0 : W env H s0) (round : ∀ s,go S (LoopX S Q k W μ (μ s)) [.code c] (E s) (HH s)) : LoopG S Q c k env H := by
 intro K hKS hS c0 ck hc hall β a w hr
 subst hKS
 simp only [PH,Exit.then]
 obtain ⟨ρ,h0⟩ := hW _ _ _ h0
 refine wp_loop_ghost (fun n a w => ∃ s β,μ s = n ∧ RelB K β (E s) (HH s) a w) (μ s0) ⟨s0,_,rfl,h0.rel hS hr⟩ ?_
 rintro n a w ⟨s,β,rfl,hr⟩
 have hs := go_sound (K := K) hS _ (szs [.code c]) [.code c] [.code c0] (Nat.le_refl _) (.cons (.code hc) .nil) (E s) (HH s) (round s) β a w hr
 simp only [PH,Exit.then] at hs
 refine wp_mono hs ?_
 rintro e a' w' ⟨env',H',β',hq,hr'⟩
 cases e with
 | normal =>
   obtain ⟨s',hlt,hw⟩ := hq
   obtain ⟨ρ',hw⟩ := hW _ _ _ hw
   exact ⟨μ s',hlt,s',_,rfl,hw.rel hS hr'⟩
 | exit id =>
   have hp := pop_sound (P := K.P) (G := K.G) (lift K Q) (id := id) ck k hall
   simp only [LoopX] at hq
   show PH K.P (lift K Q) ck (.exit id) a' w'
   cases hk' : popTo id k with
   | some k' =>
     rw [hk'] at hp hq
     obtain ⟨ck',e1,e2⟩ := hp
     exact e2 a' w' (go_sound (K := K) hS Q (szs k') k' ck' (Nat.le_refl _) e1 env' H' hq β' a' w' hr')
   | none =>
     rw [hk'] at hp hq
     exact hp a' w' ⟨env',H',β',hq,hr'⟩
 | ret => exact PH_ret _ _ _ _ _ ⟨env',H',β',hq,hr'⟩
 | goto l => exact hq.elim
 | panic ch => exact hq.elim
 | outgrown => exact hq.elim
mutual
theorem ren_nolb (ρ : Lb → Lb) : ∀ x : AV,x.lbs = [] → ren ρ x = x
 | .sl ..,h | .slk ..,h | .ptr ..,h => by simp [AV.lbs] at h
 | .any,_ | .un,_ | .bool _,_ | .int ..,_ | .str _,_ | .list _,_ | .nil0,_ | .nilp,_ | .nilif,_ | .lptr _,_ => by simp [ren]
 | .agg cs,h => by simp only [AV.lbs] at h; simp [ren,rens_nolb ρ cs h]
 | .tup cs,h => by simp only [AV.lbs] at h; simp [ren,rens_nolb ρ cs h]
 | .fn f fs cs,h => by simp only [AV.lbs,List.append_eq_nil_iff] at h; simp [ren,rens_nolb ρ fs h.1,rens_nolb ρ cs h.2]
 | .ifc t x,h => by simp only [AV.lbs] at h; simp [ren,ren_nolb ρ x h]
theorem rens_nolb (ρ : Lb → Lb) : ∀ xs : List AV,lbss xs = [] → rens ρ xs = xs
 | [],_ => by simp [rens]
 | x :: r,h => by simp only [lbss,List.append_eq_nil_iff] at h; simp [rens,ren_nolb ρ x h.1,rens_nolb ρ r h.2]
end
def WD {σ : Type} (ps : σ → List (Nat × AV)) (env : Env) (H : Hp) (s : σ) : Prop := NF H ∧ EqI env (ps s)
theorem loop_data {σ : Type} {S : St} {Q : Post} {c : AC} {k : List It} {env : Env} {H : Hp} (ps : σ → List (Nat × AV)) (μ : σ → Nat) (s0 : σ) (hl : ∀ s,lbss ((ps s).map Prod.snd) = []) (h0 : WD ps env H s0)
   (round : ∀ s,go S (LoopX S Q k (WD ps) μ (μ s)) [.code c] (ofL (ps s)) Hp.none) : LoopG S Q c k env H :=
 loop_gen (fun s => ofL (ps s)) (fun _ => Hp.none) (WD ps) (fun env H s ⟨h1,h2⟩ => ⟨id,h2.eql.we,fun l r h => by simp [Hp.none] at h,fun _ _ ⟨r,h⟩ => by simp [Hp.none] at h,ofL_wm (by rw [hl]; simp),fun l r h => by simp [Hp.none] at h,
   fun l hl => ⟨fun h => absurd (h1 l (Lb.entry_nf hl)) h,fun _ => rfl⟩,fun l ⟨r,h⟩ => by simp [Hp.none] at h⟩) μ s0 h0 round
def WR {σ : Type} (d sz : Nat) (ps : σ → List (Nat × AV)) (xs : σ → List IV) (env : Env) (H : Hp) (s : σ) : Prop :=
 NF H ∧ EqI env (ps s) ∧ ∃ n els,env d = .sl (.loc n) sz 0 (xs s).length ∧ H (.loc n) = .live ⟨sz,els⟩ ∧ els = immE (xs s)
theorem loop_row {σ : Type} {S : St} {Q : Post} {c : AC} {k : List It} {env : Env} {H : Hp} (d sz : Nat) (ps : σ → List (Nat × AV)) (xs : σ → List IV) (μ : σ → Nat) (s0 : σ) (hl : ∀ s,lbss ((ps s).map Prod.snd) = []) (h0 : WR d sz ps xs env H s0)
   (round : ∀ s,go S (LoopX S Q k (WR d sz ps xs) μ (μ s)) [.code c] (ofL ((d,.sl (.loc d) sz 0 (xs s).length) :: ps s)) (upd Hp.none (.loc d) (.live ⟨sz,immE (xs s)⟩))) : LoopG S Q c k env H := by
 refine loop_gen (fun s => ofL ((d,.sl (.loc d) sz 0 (xs s).length) :: ps s)) (fun s => upd Hp.none (.loc d) (.live ⟨sz,immE (xs s)⟩)) (WR d sz ps xs) ?_ μ s0 h0 round
 rintro env H s ⟨h1,h2,n,els,h3,h4,rfl⟩
 have key : ∀ {r : List (Nat × AV)},EqI env r → lbss (r.map Prod.snd) = [] → EqL (fun _ => .loc n) env r := by
   intro r
   induction r with
   | nil => exact fun _ _ => trivial
   | cons p r ih =>
     obtain ⟨m,x⟩ := p
     intro h hl'
     simp only [List.map_cons,lbss,List.append_eq_nil_iff] at hl'
     refine ⟨?_,ih h.2 hl'.2⟩
     rw [h.1]
     exact (ren_nolb _ x hl'.1).symm
 refine ⟨fun _ => .loc n,Wk.one (EqL.we (ps := (d,.sl (.loc d) sz 0 (xs s).length) :: ps s) ⟨h3,key h2 (hl s)⟩) (ofL_wm ?_) h4 rfl rfl h1⟩
 simp [lbss,AV.lbs,hl s]
def ofH : List (Lb × Row) → Hp
 | [] => Hp.none
 | (l,r) :: t => upd (ofH t) l (.live r)
def rnF : List (Lb × Lb) → Lb → Lb
 | [],l => l
 | (a,b) :: t,l => if l = a then b else rnF t l
def RwL (ρ : Lb → Lb) (H : Hp) : List (Lb × Row) → Prop
 | [] => True
 | (l,r) :: t => H (ρ l) = .live (renR ρ r) ∧ RwL ρ H t
def NFx (H : Hp) (ls : List Lb) : Prop := ∀ l : Lb,l.fresh = false → H l ≠ .unused → l ∈ ls
theorem NFx_none (ls : List Lb) : NFx Hp.none ls = True := by simp [NFx,Hp.none]
theorem NFx_loc (H : Hp) (n : Nat) (s : Slot) (ls : List Lb) : NFx (upd H (.loc n) s) ls = NFx H ls := by
 apply propext
 constructor
 · intro h l hl hu
   have hne : l ≠ .loc n := by rintro rfl; simp [Lb.fresh] at hl
   exact h l hl (by rwa [upd_ne _ _ hne])
 · intro h l hl hu
   have hne : l ≠ .loc n := by rintro rfl; simp [Lb.fresh] at hl
   rw [upd_ne _ _ hne] at hu
   exact h l hl hu
structure WRs (ls : List Lb) (ps : List (Nat × AV)) (rs : List (Lb × Row)) (env : Env) (H : Hp) (m : List (Lb × Lb)) : Prop where
 nf : NFx H ls
 e : EqL (rnF m) env ps
 r : RwL (rnF m) H rs
 inj : (ls.map (rnF m)).Nodup
 fr : ∀ l ∈ ls,(l.fresh = true → (rnF m l).fresh = true) ∧ (l.fresh = false → rnF m l = l)
theorem ofH_live {rs : List (Lb × Row)} : ∀ {l : Lb} {r : Row},ofH rs l = .live r → (l,r) ∈ rs := by
 induction rs with
 | nil => intro l r h; simp [ofH,Hp.none] at h
 | cons p t ih =>
   obtain ⟨l0,r0⟩ := p
   intro l r h
   simp only [ofH,upd] at h
   split at h
   · next e => cases h; subst e; simp
   · exact List.mem_cons_of_mem _ (ih h)
theorem ofH_used {rs : List (Lb × Row)} {l : Lb} (h : l ∈ rs.map Prod.fst) : ofH rs l ≠ .unused := by
 induction rs with
 | nil => simp at h
 | cons p t ih =>
   obtain ⟨l0,r0⟩ := p
   simp only [ofH,upd]
   split
   · simp
   · next e => exact ih (by simpa [e] using h)
theorem RwL_mem {ρ : Lb → Lb} {H : Hp} : ∀ {rs : List (Lb × Row)},RwL ρ H rs → ∀ {l : Lb} {r : Row},(l,r) ∈ rs → H (ρ l) = .live (renR ρ r)
 | [],_,_,_,h => by simp at h
 | (l0,r0) :: t,h,l,r,hm => by
   simp only [List.mem_cons,Prod.mk.injEq] at hm
   rcases hm with ⟨rfl,rfl⟩ | hm
   · exact h.1
   · exact RwL_mem h.2 hm
theorem nodup_map_inj {α β : Type} [DecidableEq β] {f : α → β} : ∀ {l : List α},(l.map f).Nodup → ∀ a ∈ l,∀ b ∈ l,f a = f b → a = b
 | [],_,_,h,_,_,_ => by simp at h
 | x :: l,hd,a,ha,b,hb,e => by
   simp only [List.map_cons,List.nodup_cons,List.mem_map,not_exists,not_and] at hd
   simp only [List.mem_cons] at ha hb
   rcases ha with rfl | ha <;> rcases hb with rfl | hb
   · rfl
   · exact absurd e.symm (hd.1 b hb)
   · exact absurd e (hd.1 a ha)
   · exact nodup_map_inj hd.2 a ha b hb e
theorem WRs.wk {ls : List Lb} {ps : List (Nat × AV)} {rs : List (Lb × Row)} {env : Env} {H : Hp} {m : List (Lb × Lb)} (h : WRs ls ps rs env H m) (hls : rs.map Prod.fst = ls) (hp : ∀ l ∈ lbss (ps.map Prod.snd),l ∈ ls)
   (hr : ∀ q ∈ rs,∀ cs ∈ q.2.els,∀ l ∈ lbss cs,l ∈ ls) : Wk (rnF m) env H (ofL ps) (ofH rs) := by
 have hlv : ∀ l,live (ofH rs) l → l ∈ ls := fun l ⟨r,h⟩ => by rw [← hls]; exact List.mem_map.2 ⟨_,ofH_live h,rfl⟩
 refine ⟨h.e.we,fun l r hl => RwL_mem h.r (ofH_live hl),fun l l' h1 h2 e => nodup_map_inj h.inj l (hlv l h1) l' (hlv l' h2) e,ofL_wm fun l hl => ofH_used (by rw [hls]; exact hp l hl),fun l r hl cs hcs q hq => ?_,fun l hf => ⟨fun hu => ?_,fun hl => (h.fr l (hlv l hl)).2 (Lb.entry_nf hf)⟩,fun l hl hf => (h.fr l (hlv l hl)).1 hf⟩
 · exact ofH_used (by rw [hls]; exact hr _ (ofH_live hl) cs hcs q hq)
 · exact ofH_used (by rw [hls]; exact h.nf l (Lb.entry_nf hf) hu)
section
variable {σ : Type} {S : St} {Q : Post} {k : List It} {W : Env → Hp → σ → Prop} {μ : σ → Nat} {n : Nat} {env : Env} {H : Hp}
theorem lx_n : LoopX S Q k W μ n .normal env H = ∃ s,μ s < n ∧ W env H s := rfl
theorem lx_x (id : Nat) : LoopX S Q k W μ n (.exit id) env H = match popTo id k with
   | some k' => go S Q k' env H
   | none => Q (.exit id) env H := rfl
theorem lx_r : LoopX S Q k W μ n .ret env H = Q .ret env H := rfl
theorem EqI_nil : EqI env [] = True := rfl
theorem EqI_cons (n : Nat) (x : AV) (r : List (Nat × AV)) : EqI env ((n,x) :: r) = (env n = x ∧ EqI env r) := rfl
end
theorem cK_b {b : Bool} {A B : Prop} {u : Tp A B} (h1 : b = true → A) (h2 : b = false → B) : cK (.bool b) A B u := by
 cases b
 · exact h2 rfl
 · exact h1 rfl
theorem gB_b {b : Bool} {A B : Prop} {u : Tp A B} (h1 : b = true → A) (h2 : b = false → B) : gB (.bool b) true A B u := by
 cases b
 · rw [gB_f]; exact h2 rfl
 · rw [gB_t]; exact h1 rfl
theorem ev_t (env : Env) (n : Nat) : ev env (.t n) = env n := rfl
theorem ev_c (env : Env) (x : AV) : ev env (.c x) = x := rfl
theorem le_one (n : Nat) (h : n ≤ 4000) : (n ≤ maxLen) = True := by simp [maxLen]; omega
end Go.Am

/- THE ABSTRACT MACHINE, part 28: the walk's equations, in few words. -/
namespace Go.Am
open Go Go.RowKit
theorem cK_not (b : Bool) (A B : Prop) (u : Tp A B) : cK (.bool (!b)) A B u = cK (.bool b) B A .mk := by cases b <;> simp [cK]
theorem gB_not (b t : Bool) (A B : Prop) (u : Tp A B) : gB (.bool (!b)) t A B u = gB (.bool b) (!t) A B .mk := by cases b <;> cases t <;> simp [gB]
theorem argE_at (args : List AV) (n : Nat) : argE args n = args.getD n .un := rfl
theorem none_at (l : Lb) : Hp.none l = .unused := rfl
theorem any_at (n : Nat) : Env.any n = .any := rfl
theorem WD_at {σ : Type} (ps : σ → List (Nat × AV)) (env : Env) (H : Hp) (s : σ) : WD ps env H s = (NF H ∧ EqI env (ps s)) := rfl
theorem cells_agg (cs : List IV) : (IV.agg cs).cells = cs := rfl
theorem xor_f (b : Bool) : (false ^^ b) = b := by cases b <;> rfl
theorem xor_t (b : Bool) : (true ^^ b) = !b := by cases b <;> rfl
def evq := And.intro @List.getD_cons_zero.{0} (And.intro @List.getD_cons_succ.{0} (And.intro @List.length_map.{0,0} (And.intro @List.length_cons.{0} (And.intro @List.length_nil.{0} (And.intro @upd_at (And.intro @List.getElem?_cons_zero.{0} (And.intro @List.getElem?_cons_succ.{0} (And.intro @Option.bind_some.{0,0} (And.intro @Option.map_some.{0,0} (And.intro @List.map_cons.{0,0} (And.intro @List.map_nil.{0,0} (And.intro @Int.natCast_nonneg (And.intro @Int.toNat_natCast (And.intro @List.all_cons.{0} (And.intro @List.all_nil.{0} (And.intro @List.take_succ_cons.{0} (And.intro @List.take_zero.{0} (And.intro @List.drop_succ_cons.{0} (And.intro @List.drop_zero.{0} (And.intro @List.cons_append.{0} (And.intro @List.nil_append.{0} (And.intro @List.append_nil.{0} (And.intro @List.set_cons_zero.{0} (And.intro @List.set_cons_succ.{0} (And.intro @List.take_nil.{0} (And.intro @List.drop_nil.{0} (And.intro @List.replicate_one.{0} (And.intro @List.flatten_cons.{0} (And.intro @List.flatten_nil.{0} (And.intro @argE_at (And.intro @none_at (And.intro @any_at (And.intro @ev_t (And.intro @ev_c (And.intro @lx_n (And.intro @lx_x (And.intro @lx_r (And.intro @ofL_nil (And.intro @ofL_cons (And.intro @EqI_nil (And.intro @EqI_cons (And.intro @NF_none (And.intro @NF_upd (And.intro @cK_not (And.intro @gB_not (And.intro @WD_at (And.intro @cells_agg (And.intro @xor_f @xor_t))))))))))))))))))))))))))))))))))))))))))))))))
def evl := And.intro @Nat.zero_mul (And.intro @Nat.zero_add (And.intro @Nat.mul_one (And.intro @Nat.le_refl (And.intro @le_one (And.intro @Bool.and_self (And.intro @Bool.and_true (And.intro @Bool.true_and (And.intro @Bool.not_true (And.intro @Bool.not_false (And.intro @Bool.not_not (And.intro @true_and (And.intro @and_true (And.intro @or_false (And.intro @implies_true.{1} (And.intro @false_implies (@List.mem_cons.{0}))))))))))))))))
def capK (x : AV) (k : AV → Prop) (_ : Tv k) : Prop := ∃ R,capR x = some R ∧ ∀ m,R m → m ≤ maxLen → k (.int .i64 (m : Int))
def exK (S : St) (f : Nat) (args : List AV) (H : Hp) (k : AV → Prop) (_ : Tv k) : Prop := ∃ res,ExtC S f args H res ∧ k res
section
variable {S : St} {Q : Post} {env : Env} {H : Hp}
theorem a1_cap (d : Option Nat) (x : O) (k : AV → Hp → Prop) : Act1 S d (.cap x) env H k = capK (ev env x) (fun y => k y H) .mk := rfl
theorem a1_cpy (d : Option Nat) (s x : O) (sz : Nat) (k : AV → Hp → Prop) : Act1 S d (.cpy s x sz) env H k = pK (cpyV sz (ev env s) (ev env x) H) k .mk := rfl
theorem a1_clr (d : Option Nat) (x : O) (sz : Nat) (z : List AV) (k : AV → Hp → Prop) : Act1 S d (.clr x sz z) env H k = hK (clrV sz z (ev env x) H) (fun H' => k (.tup []) H') .mk := rfl
theorem a1_mks (q : Nat) (n c : O) (sz b : Nat) (z : List AV) (k : AV → Hp → Prop) : Act1 S (some q) (.mks n c sz b z) env H k = pK (mksV sz b q z (ev env n) (ev env c) H) k .mk := by
 simp [Act1,pK]
theorem a1_callx (d : Option Nat) (f : Nat) (args : List O) (k : AV → Hp → Prop) : Act1 S d (.callx f args) env H k = exK S f (args.map (ev env)) H (fun y => k y H) .mk := rfl
theorem a1_slca d x n sz (k : AV → Hp → Prop) : Act1 S d (.slca x n sz) env H k = stK (stillV (.slca x n sz) env) (fun x => k x H) .mk := rfl
theorem a1_appi d s x sz b (k : AV → Hp → Prop) : Act1 S d (.appi s x sz b) env H k = stK (stillV (.appi s x sz b) env) (fun x => k x H) .mk := rfl
theorem af_slca' d x n sz (k : AV → Hp → Prop) : Act1f S .no d (.slca x n sz) env H k = stK (stillV (.slca x n sz) env) (fun x => k x H) .mk := by simp only [Act1f,Quiet,stK,or_false]
theorem af_appi' d s x sz b (k : AV → Hp → Prop) : Act1f S .no d (.appi s x sz b) env H k = stK (stillV (.appi s x sz b) env) (fun x => k x H) .mk := by simp only [Act1f,Quiet,stK,or_false]
theorem af_cpy (R W : List Lb) (d : Option Nat) (s x : O) (sz : Nat) (k : AV → Hp → Prop) : Act1f S (.rw R W) d (.cpy s x sz) env H k =
   pK (cpyV sz (ev env s) (ev env x) H) (fun y H' => (∀ l ∈ ptrL (ev env x),l.fam ∈ R ∨ l.fam ∈ W) ∧ (∀ l ∈ ptrL (ev env s),l.fam ∈ W) ∧ k y H') .mk := by
 simp only [Act1f,memV,readsL,writesL,pK]
theorem af_clr (R W : List Lb) (d : Option Nat) (x : O) (sz : Nat) (z : List AV) (k : AV → Hp → Prop) : Act1f S (.rw R W) d (.clr x sz z) env H k =
   hK (clrV sz z (ev env x) H) (fun H' => (∀ l ∈ ptrL (ev env x),l.fam ∈ W) ∧ k (.tup []) H') .mk := by
 apply propext
 simp only [Act1f,memV,readsL,writesL,hK]
 constructor
 · rintro ⟨x1,H',h1,_,h2,h3⟩
   obtain ⟨H2,h5,h4⟩ := Option.map_eq_some_iff.1 h1
   simp only [Prod.mk.injEq] at h4
   obtain ⟨rfl,rfl⟩ := h4
   exact ⟨H2,h5,h2,h3⟩
 · rintro ⟨H2,h1,h2,h3⟩
   exact ⟨.tup [],H2,by rw [h1]; rfl,by simp,h2,h3⟩
theorem a1_appz (q : Nat) (s n : O) (sz b : Nat) (z : List AV) (k : AV → Hp → Prop) : Act1 S (some q) (.appz s n sz b z) env H k = pK (appzV sz b q z (ev env s) (ev env n) H) k .mk := by
 simp [Act1,pK]
theorem a1_litso (q : Nat) (sz : Nat) (z : List AV) (ps : List (Nat × O)) (k : AV → Hp → Prop) : Act1 S (some q) (.litso sz z ps) env H k = pK (litV sz q z (ps.map fun p => (p.1,ev env p.2)) H) k .mk := by
 simp [Act1,pK]
theorem af_litso (R W : List Lb) (q : Nat) (sz : Nat) (z : List AV) (ps : List (Nat × O)) (k : AV → Hp → Prop) : Act1f S (.rw R W) (some q) (.litso sz z ps) env H k =
   pK (litV sz q z (ps.map fun p => (p.1,ev env p.2)) H) (fun y H' => Lb.loc q ∈ W ∧ k y H') .mk := by
 simp [Act1f,memV,readsL,writesL,pK,Lb.fam]
theorem a1_mkm d f qs cs (k : AV → Hp → Prop) : Act1 S d (.mkm f qs cs) env H k = stK (stillV (.mkm f qs cs) env) (fun x => k x H) .mk := rfl
theorem af_mkm' d f qs cs (k : AV → Hp → Prop) : Act1f S .no d (.mkm f qs cs) env H k = stK (stillV (.mkm f qs cs) env) (fun x => k x H) .mk := by simp only [Act1f,Quiet,stK,or_false]
theorem litV_in {sz d : Nat} {z : List AV} {ps : List (Nat × AV)} {cs : List AV} (h1 : fillA z (ps.map fun p => (p.1 * sz,sz,p.2)) = some cs) (h2 : H (.loc d) = .unused) (h3 : cs.length = sz) (h4 : 0 < sz) :
   litV sz d z ps H = some (.sl (.loc d) sz 0 1,upd H (.loc d) (.live ⟨sz,[cs]⟩)) := by
 unfold litV; rw [h1,Option.bind_some,if_pos ⟨h2,h3,h4⟩]
theorem af_all (d : Option Nat) (i : Ins) (k : AV → Hp → Prop) : Act1f S .all d i env H k = Act1 S d i env H k := rfl
def farK (S : St) (F : List Lb) (f : Nat) (args : List AV) (H : Hp) (k : AV → Hp → Prop) (_ : Tw k) : Prop := FarC S F f args H k
theorem af_far (F : List Lb) (d : Option Nat) (f : Nat) (args : List O) (k : AV → Hp → Prop) : Act1f S (.far F) d (.call f args) env H k = farK S F f (args.map (ev env)) H k .mk := rfl
theorem far_lend {F : List Lb} {f : Nat} {args cargs : List AV} {res : AV} {k : AV → Hp → Prop} (h : PureC S.P S.G f cargs res) (ha : All2 (Lent H) args cargs) (hs : res.scalar = true) (hk : k res H) {u : Tw k} : farK S F f args H k u :=
 ⟨fun x H' => x = res ∧ H' = H,.inr (.inl ⟨cargs,res,ha,h,hs,rfl,rfl⟩),⟨res,H,rfl,rfl⟩,fun x H' ⟨e1,e2⟩ => by subst e1; subst e2; exact ⟨fun _ _ => rfl,hk⟩⟩
theorem exK_in {f : Nat} {args : List AV} {res : AV} {k : AV → Prop} (h : ExtC S f args H res) (hk : k res) {u : Tv k} : exK S f args H k u := ⟨res,h,hk⟩
theorem capK_slk (l : Lb) (sz i n c : Nat) (k : AV → Prop) (u : Tv k) : capK (.slk l sz i n c) k u = (c ≤ maxLen → k (.int .i64 (c : Int))) := by
 simp only [capK,capR,Option.some.injEq]
 apply propext
 constructor
 · rintro ⟨R,rfl,h⟩ hc; exact h c rfl hc
 · intro h; exact ⟨_,rfl,fun m hm hc => by subst hm; exact h hc⟩
end
def evx := And.intro @a1_appz <| And.intro @a1_litso <| And.intro @af_litso <| And.intro @a1_mkm <| And.intro @af_mkm' <| And.intro @a1_cap (And.intro @a1_cpy (And.intro @a1_clr (And.intro @a1_mks (And.intro @a1_callx (And.intro @a1_slca (And.intro @a1_appi (And.intro @af_slca' (And.intro @af_appi' (And.intro @af_cpy (And.intro @af_clr <| And.intro @af_far @af_all))))))))))
def aX := And.intro evs <| And.intro evx <| And.intro a1_still <| And.intro af_still <| And.intro @af_load <| And.intro @af_store <| And.intro @af_app <| And.intro @af_new @af_box
def mP := And.intro Lb.loc.injEq <| And.intro Lb.par.injEq <| And.intro Lb.gen.injEq <| And.intro @fam_loc <| And.intro @fam_par <| And.intro @fam_gen <| And.intro @fam_nest <| And.intro Bool.false_eq_true <| And.intro Int.le_refl Int.toNat_zero
def mX := And.intro evp (And.intro evq (And.intro evl (And.intro mP (And.intro @boxK.eq_1 (And.intro @stillV.eq_1 (And.intro @stillV.eq_2 (And.intro @stillV.eq_3 (And.intro @stillV.eq_4 (And.intro @stillV.eq_5 (And.intro @stillV.eq_6 (And.intro @stillV.eq_7 (And.intro @stillV.eq_8 (And.intro @stillV.eq_9 (And.intro @stillV.eq_10 (And.intro @stillV.eq_11 (And.intro @stillV.eq_12 (And.intro @stillV.eq_13 (And.intro @stillV.eq_14 (And.intro @stillV.eq_15 (And.intro @stillV.eq_16 (And.intro @stillV.eq_17 (And.intro @stillV.eq_18 (And.intro @stillV.eq_19 (And.intro @stillV.eq_20 (And.intro @stillV.eq_21 (And.intro @stillV.eq_22 (And.intro @stillV.eq_23 (And.intro @stillV.eq_24 (And.intro @stillV.eq_25 (And.intro @stillV.eq_26 (And.intro @stillV.eq_27 (And.intro @stillV.eq_28 (And.intro @stillV.eq_29 (And.intro @stillV.eq_30 (And.intro @stillV.eq_31 (And.intro @stillV.eq_32 (And.intro @stillV.eq_33 (And.intro @stillV.eq_34 (And.intro @stillV.eq_35 (And.intro @stillV.eq_36 (And.intro @binV.eq_1 (And.intro @binV.eq_2 (And.intro @binV.eq_3 (And.intro @binV.eq_4 (And.intro @binV.eq_5 (And.intro @binV.eq_6 (And.intro @binV.eq_7 (And.intro @binV.eq_8 (And.intro @binV.eq_9 (And.intro @binV.eq_10 (And.intro @binV.eq_11 (And.intro @binV.eq_12 (And.intro @binV.eq_13 (And.intro @binV.eq_14 (And.intro @binV.eq_15 (And.intro @binV.eq_16 (And.intro @binV.eq_17 (And.intro @binV.eq_18 (And.intro @binV.eq_19 (And.intro @binV.eq_20 (And.intro @binV.eq_21 (And.intro @binV.eq_22 (And.intro @loadV.eq_1 (And.intro @loadV.eq_2 (And.intro @storeV.eq_1 (And.intro @storeV.eq_2 (And.intro @ldV.eq_1 (And.intro @ldV.eq_2 (And.intro @ldV.eq_3 (And.intro @ptrL.eq_1 (And.intro @ptrL.eq_2 (And.intro @ptrL.eq_3 (And.intro @ptrL.eq_4 (And.intro @appL.eq_1 (And.intro @appL.eq_2 (And.intro @appL.eq_3 (And.intro @fillA.eq_1 (And.intro @fillA.eq_2 (And.intro @chunks.eq_1 (And.intro @chunks.eq_2 (And.intro @ivs.eq_1 (And.intro @ivs.eq_2 (And.intro @mkE.eq_1 (And.intro @mkE.eq_2 (And.intro @AV.cells.eq_1 (And.intro @AV.cells.eq_2 (And.intro @AV.stb.eq_1 (And.intro @AV.stb.eq_2 (And.intro @AV.one.eq_1 (And.intro @AV.one.eq_2 (And.intro @AV.one.eq_3 (And.intro @AV.one.eq_4 (And.intro @AV.one.eq_5 (And.intro @IV.av1.eq_1 (And.intro @IV.av1.eq_2 (And.intro @IV.av1.eq_3 (And.intro @IV.av1.eq_4 (And.intro @IV.av1.eq_5 (And.intro @Lb.app.eq_1 (And.intro @Lb.fresh.eq_1 (And.intro @Lb.fresh.eq_2 (And.intro @Lb.fresh.eq_3 (And.intro @AV.iv.eq_1 (And.intro @AV.iv.eq_2 (And.intro @AV.iv.eq_3 (And.intro @AV.iv.eq_4 (And.intro @AV.iv.eq_5 (And.intro @AV.iv.eq_6 (And.intro @if_true.{1} (And.intro @if_false.{1} (And.intro @List.not_mem_nil.{0} (And.intro @forall_eq.{1} (And.intro @beq_self_eq_true.{0} @List.isEmpty_nil.{0})))))))))))))))))))))))))))))))))))))))))))))))))))))))))))))))))))))))))))))))))))))))))))))))))))))))))))))))))
def lX := And.intro @ev.eq_1 (And.intro @ev.eq_2 (And.intro @argE_at (And.intro @List.getD_cons_zero.{0} (And.intro @List.getD_cons_succ.{0} (And.intro @true_and (And.intro @and_true (And.intro @List.length_map.{0,0} (And.intro @List.length_cons.{0} (And.intro @List.length_nil.{0} (And.intro @upd_at (And.intro @Lb.loc.injEq (And.intro @List.getElem?_cons_zero.{0} (And.intro @List.getElem?_cons_succ.{0} (And.intro @Option.bind_some.{0,0} (And.intro @Option.map_some.{0,0} (And.intro @List.map_cons.{0,0} (And.intro @List.map_nil.{0,0} (And.intro @Int.natCast_nonneg (And.intro @Int.toNat_natCast (And.intro @List.all_cons.{0} (And.intro @List.all_nil.{0} (And.intro @Bool.and_self (And.intro @Bool.and_true (And.intro @Bool.true_and (And.intro @List.take_succ_cons.{0} (And.intro @List.take_zero.{0} (And.intro @List.drop_succ_cons.{0} (And.intro @List.drop_zero.{0} (And.intro @List.cons_append.{0} (And.intro @List.nil_append.{0} (And.intro @List.append_nil.{0} (And.intro @List.set_cons_zero.{0} (And.intro @fam_loc (And.intro @fam_par (And.intro @fam_gen (And.intro @fam_nest (And.intro @Bool.false_eq_true (And.intro @List.mem_cons.{0} (And.intro @or_false (And.intro @false_implies (And.intro @implies_true.{1} (And.intro @none_at (And.intro @Nat.le_refl (And.intro @List.set_cons_succ.{0} (And.intro @List.replicate_one.{0} (And.intro @List.flatten_cons.{0} (And.intro @List.flatten_nil.{0} (And.intro @Nat.zero_mul (And.intro @Nat.zero_add @Nat.mul_one)))))))))))))))))))))))))))))))))))))))))))))))))
end Go.Am

/- THE ABSTRACT MACHINE, part 30: functions that are handed one row of data by a pointer. -/
namespace Go.Am
open Go Go.RowKit
open Classical in
noncomputable def killE (kp : Lb → Prop) (H : Hp) : Hp := fun l => match H l with
 | .live r => if kp l then .live r else .dead
 | s => s
theorem killE_live {kp : Lb → Prop} {H : Hp} {l : Lb} {r : Row} : killE kp H l = .live r ↔ H l = .live r ∧ kp l := by
 unfold killE
 cases h : H l with
 | live r' =>
   by_cases hk : kp l
   · simp [hk]
   · simp [hk]
 | unused => simp
 | dead => simp
theorem killE_unused {kp : Lb → Prop} {H : Hp} {l : Lb} : killE kp H l = .unused ↔ H l = .unused := by
 unfold killE
 cases h : H l with
 | live r' =>
   by_cases hk : kp l
   · simp [hk]
   · simp [hk]
 | unused => simp
 | dead => simp
section
variable {K : Kx} {β : Lb → Option Nat} {env : Env} {H : Hp} {a : Act} {w : World}
theorem RelB.killE (hr : RelB K β env H a w) (kp : Lb → Prop) : RelB K β env (Am.killE kp H) a w := by
 have := hr.weak id (env2 := env) (H2 := Am.killE kp H) (fun n => .inr (ren_id _).symm) (fun l r h => by rw [renR_id]; exact (killE_live.1 h).1) (fun _ _ _ _ h => h)
   (fun n l hl => by rw [Ne,killE_unused]; exact hr.ment n l hl) (fun l r h cs hcs q hq => by rw [Ne,killE_unused]; exact hr.rment l r (killE_live.1 h).1 cs hcs q hq)
   (fun l hl => ⟨by rw [Ne,killE_unused]; exact (hr.stab l hl).1,fun _ => rfl⟩) (fun _ _ h => h)
 exact this
theorem Im_killE {K : Kx} {β : Lb → Option Nat} {H : Hp} (kp : Lb → Prop) {k : Nat} (h : Im K β H k) : Im K β (Am.killE kp H) k :=
 ⟨h.1,fun l ⟨r,hl⟩ => h.2 l ⟨r,(killE_live.1 hl).1⟩⟩
theorem RV.killE {w : World} {β : Lb → Option Nat} {H : Hp} {x : AV} {v : Value} (kp : Lb → Prop) (h : RV w β H (Im K β H) x v) : RV w β (Am.killE kp H) (Im K β (Am.killE kp H)) x v :=
 RV.mono x v { im := fun k hk hs => ⟨Im_killE kp hk,hs,rfl⟩,lb := fun l _ ⟨r,hl⟩ => ⟨⟨r,(killE_live.1 hl).1⟩,rfl,fun _ _ _ h => h⟩ } h
end
theorem SpecC.keep {P : Program} {G : Nat → Option (List IV)} {f : Nat} {args : List AV} {H : Hp} {Q : AV → Hp → Prop} (h : SpecC P G f args H Q) (kp : Lb → Prop) :
   SpecC P G f args H fun x H' => ∃ H1,Q x H1 ∧ H' = killE kp H1 := by
 intro w A β vs hr hv
 refine (h w A β vs hr hv).mono ?_
 rintro e w' ⟨v,x,H1,β',rfl,hq,hr',hx,hm⟩
 exact ⟨v,x,killE kp H1,β',rfl,⟨H1,hq,rfl⟩,hr'.killE kp,hx.killE kp,fun l hl => by rw [Ne,killE_unused]; exact hm l hl⟩
def row1 (cs : List AV) : Hp := upd Hp.none (.par 0) (.live ⟨cs.length,[cs]⟩)
def MutC (P : Program) (G : Nat → Option (List IV)) (f : Nat) (args : List AV) (cs : List AV) (R : AV → List AV → Prop) : Prop :=
 (∀ l ∈ lbss args,l = .par 0) ∧ lbss cs = [] ∧ SpecC P G f args (row1 cs) fun x H' => ∃ cs',R x cs' ∧ x.lbs = [] ∧ lbss cs' = [] ∧ cs'.length = cs.length ∧ H' (.par 0) = .live ⟨cs.length,[cs']⟩
def atL (l : Lb) : Lb → Lb := fun q => if q = .par 0 then l else q
theorem callT_mut {S : St} {f : Nat} {args cargs : List AV} {cs : List AV} {R : AV → List AV → Prop} {H : Hp} {k : AV → Hp → Prop} {u : Tw k} {l : Lb} (h : MutC S.P S.G f cargs cs R)
   (ha : args = rens (atL l) cargs) (hl : H l = .live ⟨cs.length,[cs]⟩) (hk : ∀ x cs',R x cs' → x.lbs = [] → lbss cs' = [] → cs'.length = cs.length → k x (upd H l (.live ⟨cs.length,[cs']⟩))) : clK S f args H k u := by
 obtain ⟨h1,h2,h3⟩ := h
 have hlive : ∀ q r,row1 cs q = .live r → q = .par 0 ∧ r = ⟨cs.length,[cs]⟩ := by
   intro q r h
   by_cases e : q = .par 0
   · subst e; simp [row1] at h; exact ⟨rfl,h.symm⟩
   · rw [row1,upd_ne _ _ e] at h; simp [Hp.none] at h
 refine .inr <| .inr ⟨⟨atL l,row1 cs,cargs,_,h3.keep (fun q => q = .par 0),ha,?_,?_,?_,?_,?_,?_,?_⟩⟩
 · intro q r h
   obtain ⟨rfl,rfl⟩ := hlive q r h
   simp only [atL,if_true,hl,Slot.live.injEq,renR,Row.mk.injEq,List.map_cons,List.map_nil,true_and,List.cons.injEq,and_true]
   exact (rens_nolb _ _ h2).symm
 · intro q hq
   by_cases e : q = .par 0
   · subst e; exact ⟨_,by simp [row1]; rfl⟩
   · rw [row1,upd_ne _ _ e] at hq; simp [Hp.none] at hq
 · rintro q q' ⟨r,h⟩ ⟨r',h'⟩ _
   rw [(hlive q r h).1,(hlive q' r' h').1]
 · intro q hq
   rw [h1 q hq]; simp [row1]
 · rintro q ⟨r,h⟩
   rw [(hlive q r h).1]; rfl
 · intro q r h c hc z hz
   obtain ⟨rfl,rfl⟩ := hlive q r h
   simp only [List.mem_singleton] at hc
   subst hc
   rw [h2] at hz; simp at hz
 · rintro x H' ⟨H1,⟨cs',e1,e2,e3,e4,e5⟩,rfl⟩
   have hH : ∀ q r,killE (fun q => q = .par 0) H1 q = .live r → q = .par 0 ∧ r = ⟨cs.length,[cs']⟩ := by
     intro q r h
     obtain ⟨g1,rfl⟩ := killE_live.1 h
     rw [e5] at g1; cases g1; exact ⟨rfl,rfl⟩
   have hH0 : killE (fun q => q = .par 0) H1 (.par 0) = .live ⟨cs.length,[cs']⟩ := killE_live.2 ⟨e5,rfl⟩
   refine ⟨atL l,upd H l (.live ⟨cs.length,[cs']⟩),fun _ _ _ => rfl,?_,?_,?_,?_,?_,?_,?_,?_⟩
   · intro q r h
     by_cases e : q = l
     · subst e
       simp at h
       refine .inr ⟨.par 0,_,hH0,by simp [atL],?_⟩
       rw [← h]
       simp only [renR,Row.mk.injEq,List.map_cons,List.map_nil,true_and,List.cons.injEq,and_true]
       exact (rens_nolb _ _ e3).symm
     · rw [upd_ne _ _ e] at h
       refine .inl ⟨h,?_⟩
       rintro z ⟨r',hz⟩
       rw [(hlive z r' hz).1]
       simp only [atL,if_true]
       exact Ne.symm e
   · rintro q q' ⟨r,h⟩ ⟨r',h'⟩ _
     rw [(hH q r h).1,(hH q' r' h').1]
   · intro q hq
     by_cases e : q = l
     · subst e; simp
     · rw [upd_ne _ _ e]; exact hq
   · intro q hq; rw [e2] at hq; simp at hq
   · intro q r h c hc z hz
     obtain ⟨rfl,rfl⟩ := hH q r h
     simp only [List.mem_singleton] at hc
     subst hc
     rw [e3] at hz; simp at hz
   · rintro q ⟨r,h⟩
     obtain ⟨rfl,rfl⟩ := hH q r h
     exact .inl ⟨_,by simp [row1]; rfl⟩
   · rintro q (hq | ⟨l1,r1,c,g1,g2,g3⟩) _
     · rw [e2] at hq; simp at hq
     · obtain ⟨rfl,rfl⟩ := hH l1 r1 g1
       simp only [List.mem_singleton] at g2
       subst g2
       rw [e3] at g3; simp at g3
   · rw [ren_nolb _ _ e2]
     exact hk x cs' e1 e2 e3 e4
theorem mut_of_go {P : Program} {G : Nat → Option (List IV)} {f : Nat} {n : Nat} {rs : List RO} {ac : AC} {args cs : List AV} {R : AV → List AV → Prop}
   (hF : compF P G f = some (n,rs,ac.bare)) (hn : args.length ≤ n) (ha : ∀ l ∈ lbss args,l = .par 0) (hc : lbss cs = [])
   (hg : go ⟨P,G,n⟩ (RetP rs fun x H' => ∃ cs',R x cs' ∧ x.lbs = [] ∧ lbss cs' = [] ∧ cs'.length = cs.length ∧ H' (.par 0) = .live ⟨cs.length,[cs']⟩) [.code ac] (argE args) (row1 cs)) : MutC P G f args cs R := by
 refine ⟨ha,hc,spec_of_go hF hn ?_ ?_ hg⟩
 · rintro l ⟨r,h⟩
   by_cases e : l = .par 0
   · subst e; rfl
   · rw [row1,upd_ne _ _ e] at h; simp [Hp.none] at h
 · intro l hl
   rw [ha l hl]; simp [row1]
theorem MutC.mono {P : Program} {G : Nat → Option (List IV)} {f : Nat} {args cs : List AV} {R R' : AV → List AV → Prop} (h : MutC P G f args cs R) (hq : ∀ x c,R x c → R' x c) : MutC P G f args cs R' :=
 ⟨h.1,h.2.1,h.2.2.mono fun x H ⟨c,h1,h2⟩ => ⟨c,hq _ _ h1,h2⟩⟩
end Go.Am

/- THE ABSTRACT MACHINE, part 31: nil slices are empty lists. -/
namespace Go.Am
open Go Go.RowKit
mutual
def norm : AV → AV
 | .nil0 => .list []
 | .agg cs => .agg (norms cs)
 | .tup cs => .tup (norms cs)
 | x => x
def norms : List AV → List AV
 | [] => []
 | x :: r => norm x :: norms r
end
mutual
theorem norm_lbs : ∀ x : AV,(norm x).lbs = x.lbs
 | .nil0 => rfl
 | .agg cs => by simp [norm,AV.lbs,norms_lbs cs]
 | .tup cs => by simp [norm,AV.lbs,norms_lbs cs]
 | .sl .. | .slk .. | .ptr .. | .any | .un | .bool _ | .int .. | .str _ | .list _ | .nilp | .nilif | .lptr _ | .fn .. | .ifc .. => rfl
theorem norms_lbs : ∀ xs : List AV,lbss (norms xs) = lbss xs
 | [] => rfl
 | x :: r => by simp [norms,lbss,norm_lbs x,norms_lbs r]
end
mutual
theorem RV.norm {w : World} {β : Lb → Option Nat} {H : Hp} {I : Nat → Prop} : ∀ (x : AV) (v : Value),RV w β H I x v → RV w β H I (Am.norm x) v
 | .nil0,v,h => by
   simp only [RV] at h
   obtain ⟨a,rfl⟩ := h
   simp only [Am.norm,RV,IVR]
   exact ⟨a,0,rfl,Nat.le_refl _,by simp [maxLen],.inl rfl⟩
 | .agg cs,v,h => by
   simp only [RV,Am.norm] at h ⊢
   obtain ⟨vs,h1,h2⟩ := h
   exact ⟨vs,h1,RVs.norm cs vs h2⟩
 | .tup cs,v,h => by
   simp only [RV,Am.norm] at h ⊢
   obtain ⟨vs,h1,h2⟩ := h
   exact ⟨vs,h1,RVs.norm cs vs h2⟩
 | .sl ..,v,h | .slk ..,v,h | .ptr ..,v,h | .any,v,h | .un,v,h | .bool _,v,h | .int ..,v,h | .str _,v,h | .list _,v,h | .nilp,v,h | .nilif,v,h | .lptr _,v,h | .fn ..,v,h | .ifc ..,v,h => h
theorem RVs.norm {w : World} {β : Lb → Option Nat} {H : Hp} {I : Nat → Prop} : ∀ (xs : List AV) (vs : List Value),RVs w β H I xs vs → RVs w β H I (norms xs) vs
 | [],vs,h => h
 | x :: r,vs,h => by
   simp only [RVs,norms] at h ⊢
   obtain ⟨v,us,h1,h2,h3⟩ := h
   exact ⟨v,us,h1,RV.norm x v h2,RVs.norm r us h3⟩
end
theorem SpecC.n {P : Program} {G : Nat → Option (List IV)} {f : Nat} {args : List AV} {H : Hp} {Q : AV → Hp → Prop} (h : SpecC P G f (norms args) H Q) : SpecC P G f args H Q :=
 fun w A β vs hr hv => h w A β vs hr (RVs.norm _ _ hv)
theorem SpecC.res {P : Program} {G : Nat → Option (List IV)} {f : Nat} {args : List AV} {H : Hp} {Q : AV → Hp → Prop} (h : SpecC P G f args H Q) : SpecC P G f args H fun x H' => ∃ y,Q y H' ∧ x = norm y := by
 intro w A β vs hr hv
 refine (h w A β vs hr hv).mono ?_
 rintro e w' ⟨v,x,H',β',rfl,h1,h2,h3,h4⟩
 exact ⟨v,norm x,H',β',rfl,⟨x,h1,rfl⟩,h2,RV.norm _ _ h3,by rw [norm_lbs]; exact h4⟩
theorem PureC.n {P : Program} {G : Nat → Option (List IV)} {f : Nat} {args : List AV} {res : AV} (h : PureC P G f (norms args) res) : PureC P G f args res :=
 ⟨by have := h.1; rwa [norms_lbs] at this,h.2.1,h.2.2.n⟩
theorem PureC.of {P : Program} {G : Nat → Option (List IV)} {f : Nat} {args args' : List AV} {res : AV} (h : PureC P G f args' res) (e : norms args = args') : PureC P G f args res := PureC.n (by rw [e]; exact h)
theorem pure_of_goN {P : Program} {G : Nat → Option (List IV)} {f : Nat} {n : Nat} {rs : List RO} {ac : AC} {args : List AV} {res : AV}
   (hF : compF P G f = some (n,rs,ac.bare)) (hn : args.length ≤ n) (hl : lbss args = []) (hl2 : res.lbs = [])
   (hg : go ⟨P,G,n⟩ (RetP rs fun x _ => norm x = res) [.code ac] (argE args) Hp.none) : PureC P G f args res :=
 ⟨hl,hl2,((spec_of_go hF hn (fun l ⟨r,h⟩ => by simp [Hp.none] at h) (by simp [hl]) hg).res).mono fun x H ⟨y,h1,h2⟩ => by rw [h2]; exact h1⟩
theorem immE_get (xs : List IV) (i : Nat) : (immE xs)[i]? = xs[i]?.map fun y => y.cells.map IV.av1 := by simp [immE]
theorem immE_len (xs : List IV) : (immE xs).length = xs.length := by simp [immE]
theorem immE_set (xs : List IV) (i : Nat) (y : IV) : (immE xs).set i (y.cells.map IV.av1) = immE (xs.set i y) := by simp [immE,List.map_set]
theorem immE_app (xs ys : List IV) : immE (xs ++ ys) = immE xs ++ immE ys := by simp [immE]
theorem WR_at {σ : Type} (d sz : Nat) (ps : σ → List (Nat × AV)) (xs : σ → List IV) (env : Env) (H : Hp) (s : σ) :
   WR d sz ps xs env H s = (NF H ∧ EqI env (ps s) ∧ ∃ n els,env d = .sl (.loc n) sz 0 (xs s).length ∧ H (.loc n) = .live ⟨sz,els⟩ ∧ els = immE (xs s)) := rfl
theorem app_one {sz b d n : Nat} {l : Lb} {els : List (List AV)} {x : IV} {H : Hp} (hl : H l = .live ⟨sz,els⟩) (hn : els.length = n) (he : x.cells.length = sz) (hf : ∀ z ∈ x.cells,∀ cs,z ≠ .agg cs) (hb : (n + 1) * b ≤ 140737488355328) (h0 : 0 < b)
   (hd : l ≠ l.app d) (hu : H (l.app d) = .unused) :
   appV sz b d (.sl l sz 0 n) (.list [x]) H = some (.sl (l.app d) sz 0 (n + 1),upd (upd H l .dead) (l.app d) (.live ⟨sz,els ++ immE [x]⟩)) := by
 have := app_sl (xs := [x]) hl (Nat.le_of_eq hn.symm) (by intro y hy; simp only [List.mem_singleton] at hy; subst hy; exact he) (by intro y hy; simp only [List.mem_singleton] at hy; subst hy; exact hf) (by simpa using hb) h0 hd hu
 rw [this]
 simp only [List.length_cons,List.length_nil,Nat.zero_add,Option.some.injEq,Prod.mk.injEq,true_and]
 rw [List.take_of_length_le (Nat.le_of_eq hn)]
theorem app_loc (sz b d k : Nat) (xs : List IV) (x : IV) {n : Nat} {H : Hp} (hl : H (.loc k) = .live ⟨sz,immE xs⟩) (hn : xs.length = n) (he : x.cells.length = sz) (hf : ∀ z ∈ x.cells,∀ cs,z ≠ .agg cs) (hb : (n + 1) * b ≤ 140737488355328) (h0 : 0 < b)
   (hd : k ≠ d) (hu : H (.loc d) = .unused) :
   appV sz b d (.sl (.loc k) sz 0 n) (.list [x]) H = some (.sl (.loc d) sz 0 (n + 1),upd (upd H (.loc k) .dead) (.loc d) (.live ⟨sz,immE (xs ++ [x])⟩)) := by
 have e : (Lb.loc k).app d = .loc d := rfl
 have := app_one (l := .loc k) (d := d) hl (by rw [immE_len]; exact hn) he hf hb h0 (by rw [e]; simpa using hd) (by rw [e]; exact hu)
 rw [e] at this
 rw [this,immE_app]
end Go.Am
