import Derived.Test.YtfinkeaikbmpgaaKT8
set_option linter.unusedSimpArgs false
set_option linter.unusedVariables false
set_option linter.unnecessarySimpa false
set_option linter.defProp false
/- THE ABSTRACT MACHINE, part 33: slices held against nil; loops of calls with pointers. -/
namespace Go.Am
open Go Go.RowKit
inductive Tb (k : Bool → Prop) : Type
 | mk
def nK (o : Option (List Bool)) (k : Bool → Prop) (_ : Tb k) : Prop := ∃ bs,o = some bs ∧ ∀ b ∈ bs,k b
theorem a1_eqn {S : St} {env : Env} {H : Hp} (d : Option Nat) (n : Bool) (x : O) (k : AV → Hp → Prop) : Act1 S d (.eqn n x) env H k = nK (nilV (ev env x)) (fun b => k (.bool (n ^^ b)) H) .mk := rfl
theorem nK_list {xs : List IV} {k : Bool → Prop} {u : Tb k} (h1 : xs = [] → k true) (h2 : k false) : nK (nilV (.list xs)) k u := by
 cases xs with
 | nil => exact ⟨_,rfl,fun b _ => by cases b; exact h2; exact h1 rfl⟩
 | cons x r => exact ⟨_,rfl,fun b hb => by simp only [List.mem_singleton] at hb; subst hb; exact h2⟩
theorem app_nil' (sz b d : Nat) (xs : List IV) {H : Hp} (he : Elsz sz xs) (hf : Flat xs) (hb : xs.length * b ≤ 140737488355328) (h0 : 0 < b) (hu : H (.loc d) = .unused) :
   appV sz b d .nil0 (.list xs) H = some (.sl (.loc d) sz 0 xs.length,upd H (.loc d) (.live ⟨sz,immE xs⟩)) := app_nil he hf hb h0 hu
end Go.Am

/- Copies of slices. -/
namespace Go.Am
open Go Go.RowKit
def c_slices_Clone_Attr_Attr : AC :=
(.seq (.reg [⟨some 2,none,.mov (.c .nil0)⟩]) (.seq (.seq (.reg [⟨some 3,none,.mov (.t 0)⟩,⟨some 4,none,.eqn false (.t 3)⟩]) (.cond (.t 4) (.seq (.reg [⟨some 2,none,.mov (.c .nil0)⟩]) .ret) .skip)) (.seq (.reg [⟨some 5,none,.lits 0 2 [(.str []),(.str [])] []⟩,⟨some 6,none,.mov (.t 0)⟩,⟨some 7,none,.app (.t 5) (.t 6) 2 32⟩,⟨some 2,none,.mov (.t 7)⟩]) (.gh (.frz (.loc 7) 2) .ret))))
def c_slices_Clone_int_int : AC :=
(.seq (.reg [⟨some 2,none,.mov (.c .nil0)⟩]) (.seq (.seq (.reg [⟨some 3,none,.mov (.t 0)⟩,⟨some 4,none,.eqn false (.t 3)⟩]) (.cond (.t 4) (.seq (.reg [⟨some 2,none,.mov (.c .nil0)⟩]) .ret) .skip)) (.seq (.reg [⟨some 5,none,.lits 0 1 [(.int .i64 0)] []⟩,⟨some 6,none,.mov (.t 0)⟩,⟨some 7,none,.app (.t 5) (.t 6) 1 8⟩,⟨some 2,none,.mov (.t 7)⟩]) (.gh (.frz (.loc 7) 2) .ret))))
theorem pCloneA {P : Program} {G : Nat → Option (List IV)} {f_slices_Clone_Attr_Attr : Nat} (hF : compF P G f_slices_Clone_Attr_Attr = some (8,[(none,2)],c_slices_Clone_Attr_Attr.bare)) (xs : List Attr) (hx : xs.length ≤ B) : PureC P G f_slices_Clone_Attr_Attr [.list (ivA xs)] (.list (ivA xs)) := by
 refine pure_of_goN hF (by simp) (by simp [lbss,AV.lbs]) (by simp [AV.lbs]) ?_
 unfold c_slices_Clone_Attr_Attr
 simp only [↓aX,mX,reduceCtorEq,Nat.reduceEqDiff,Nat.reduceLT,Nat.reduceLeDiff,Nat.reduceAdd,Nat.reduceMul,Int.reduceToNat,Int.reduceLE,Int.reduceLT,a1_eqn]
 refine nK_list (fun h => ?_) ?_
 · simp only [↓aX,mX,reduceCtorEq,Nat.reduceEqDiff,Nat.reduceLT,Nat.reduceLeDiff,Nat.reduceAdd,Nat.reduceMul,Int.reduceToNat,Int.reduceLE,Int.reduceLT,norm,h]
 · simp only [↓aX,mX,reduceCtorEq,Nat.reduceEqDiff,Nat.reduceLT,Nat.reduceLeDiff,Nat.reduceAdd,Nat.reduceMul,Int.reduceToNat,Int.reduceLE,Int.reduceLT,norm]
   rw [app_nil' 2 32 7 (ivA xs) (elszA _) (flatA _) (by rw [ivA_len]; unfold B at hx; omega) (by decide) rfl]
   simp only [↓aX,mX,reduceCtorEq,Nat.reduceEqDiff,Nat.reduceLT,Nat.reduceLeDiff,Nat.reduceAdd,Nat.reduceMul,Int.reduceToNat,Int.reduceLE,Int.reduceLT,norm]
   exact ⟨2,ivA xs,0,_,rfl,rfl,by simp,flatA _,by simp⟩
end Go.Am

/- THE ABSTRACT MACHINE, part 34: a list of structs behind a pointer. -/
namespace Go.Am
open Go Go.RowKit
theorem app_far (sz b d : Nat) (l : Lb) (xs : List IV) (x : IV) {n : Nat} {H : Hp} (hf : l.fresh = false) (hl : H l = .live ⟨sz,immE xs⟩) (hn : xs.length = n) (he : x.cells.length = sz) (hfl : ∀ z ∈ x.cells,∀ cs,z ≠ .agg cs) (hb : (n + 1) * b ≤ 140737488355328) (h0 : 0 < b)
   (hd : l ≠ .gen d) (hu : H (.gen d) = .unused) :
   appV sz b d (.sl l sz 0 n) (.list [x]) H = some (.sl (.gen d) sz 0 (n + 1),upd (upd H l .dead) (.gen d) (.live ⟨sz,immE (xs ++ [x])⟩)) := by
 have e : l.app d = .gen d := by unfold Lb.app; rw [hf]; rfl
 have := app_one (l := l) (d := d) hl (by rw [immE_len]; exact hn) he hfl hb h0 (by rw [e]; exact hd) (by rw [e]; exact hu)
 rw [e] at this
 rw [this,immE_app]
def ofU (u : Lb → Bool) (rs : List (Lb × Row)) : Hp := fun q => match ofH rs q with
 | .unused => if u q then .dead else .unused
 | s => s
theorem ofU_live {u : Lb → Bool} {rs : List (Lb × Row)} {l : Lb} {r : Row} : ofU u rs l = .live r ↔ ofH rs l = .live r := by
 unfold ofU
 cases h : ofH rs l with
 | unused => by_cases hu : u l = true <;> simp [hu]
 | dead => simp
 | live r' => simp
theorem ofU_used {u : Lb → Bool} {rs : List (Lb × Row)} {l : Lb} (h : l ∈ rs.map Prod.fst ∨ u l = true) : ofU u rs l ≠ .unused := by
 unfold ofU
 rcases h with h | h
 · have := ofH_used h
   cases h2 : ofH rs l with
   | unused => exact absurd h2 this
   | dead => simp
   | live r => simp
 · cases h2 : ofH rs l with
   | unused => simp [h]
   | dead => simp
   | live r => simp
structure WU (ls : List Lb) (u : Lb → Bool) (ps : List (Nat × AV)) (rs : List (Lb × Row)) (env : Env) (H : Hp) (m : List (Lb × Lb)) : Prop where
 nf : ∀ l : Lb,l.fresh = false → H l ≠ .unused → l ∈ ls ∨ u l = true
 e : EqL (rnF m) env ps
 r : RwL (rnF m) H rs
 inj : (ls.map (rnF m)).Nodup
 fr : ∀ l ∈ ls,(l.fresh = true → (rnF m l).fresh = true) ∧ (l.fresh = false → rnF m l = l)
theorem WU.wk {ls : List Lb} {u : Lb → Bool} {ps : List (Nat × AV)} {rs : List (Lb × Row)} {env : Env} {H : Hp} {m : List (Lb × Lb)} (h : WU ls u ps rs env H m) (hls : rs.map Prod.fst = ls) (hp : ∀ l ∈ lbss (ps.map Prod.snd),l ∈ ls)
   (hr : ∀ q ∈ rs,∀ cs ∈ q.2.els,∀ l ∈ lbss cs,l ∈ ls) : Wk (rnF m) env H (ofL ps) (ofU u rs) := by
 have hlv : ∀ l,live (ofU u rs) l → l ∈ ls := fun l ⟨r,h⟩ => by rw [← hls]; exact List.mem_map.2 ⟨_,ofH_live (ofU_live.1 h),rfl⟩
 refine ⟨h.e.we,fun l r hl => RwL_mem h.r (ofH_live (ofU_live.1 hl)),fun l l' h1 h2 e => nodup_map_inj h.inj l (hlv l h1) l' (hlv l' h2) e,ofL_wm fun l hl => ofU_used (.inl (by rw [hls]; exact hp l hl)),fun l r hl cs hcs q hq => ?_,
   fun l hf => ⟨fun hu => ?_,fun hl => (h.fr l (hlv l hl)).2 (Lb.entry_nf hf)⟩,fun l hl hf => (h.fr l (hlv l hl)).1 hf⟩
 · exact ofU_used (.inl (by rw [hls]; exact hr _ (ofH_live (ofU_live.1 hl)) cs hcs q hq))
 · exact ofU_used (by rw [hls]; exact h.nf l (Lb.entry_nf hf) hu)
theorem loop_used {σ : Type} {S : St} {Q : Post} {c : AC} {k : List It} {env : Env} {H : Hp} (ls : σ → List Lb) (u : σ → Lb → Bool) (ps : σ → List (Nat × AV)) (rs : σ → List (Lb × Row)) (μ : σ → Nat) (s0 : σ)
   (hls : ∀ s,(rs s).map Prod.fst = ls s) (hp : ∀ s,∀ l ∈ lbss ((ps s).map Prod.snd),l ∈ ls s) (hr : ∀ s,∀ q ∈ rs s,∀ cs ∈ q.2.els,∀ l ∈ lbss cs,l ∈ ls s) (h0 : ∃ m,WU (ls s0) (u s0) (ps s0) (rs s0) env H m)
   (round : ∀ s,go S (LoopX S Q k (fun env H s => ∃ m,WU (ls s) (u s) (ps s) (rs s) env H m) μ (μ s)) [.code c] (ofL (ps s)) (ofU (u s) (rs s))) : LoopG S Q c k env H :=
 loop_gen (fun s => ofL (ps s)) (fun s => ofU (u s) (rs s)) _ (fun _ _ s ⟨m,h⟩ => ⟨_,h.wk (hls s) (hp s) (hr s)⟩) μ s0 h0 round
def LstAt (sz : Nat) (l : Lb) (o : Option Lb) (xs : List IV) (H : Hp) : Prop := match o with
 | none => H l = .live ⟨1,[[.nil0]]⟩ ∧ xs = []
 | some L => L ≠ l ∧ H l = .live ⟨1,[[.sl L sz 0 xs.length]]⟩ ∧ H L = .live ⟨sz,immE xs⟩
def lstIn (sz : Nat) (xs : List IV) : Bool → Hp
 | false => upd Hp.none (.par 0) (.live ⟨1,[[.nil0]]⟩)
 | true => upd (upd Hp.none (.par 1) (.live ⟨sz,immE xs⟩)) (.par 0) (.live ⟨1,[[.sl (.par 1) sz 0 xs.length]]⟩)
def LstC (P : Program) (G : Nat → Option (List IV)) (sz f : Nat) (args : List AV) (xs : List IV) (res : AV) (ys : List IV) : Prop :=
 (∀ l ∈ lbss args,l = .par 0) ∧ res.lbs = [] ∧ ∀ b : Bool,(b = false → xs = []) → SpecC P G f args (lstIn sz xs b) fun x H' => x = res ∧ ∃ L,LstAt sz (.par 0) (some L) ys H'
theorem renR_immE (ρ : Lb → Lb) (sz : Nat) (xs : List IV) : renR ρ ⟨sz,immE xs⟩ = ⟨sz,immE xs⟩ := renR_imm ρ sz xs
theorem SpecC.keepH {P : Program} {G : Nat → Option (List IV)} {f : Nat} {args : List AV} {H : Hp} {Q : AV → Hp → Prop} (h : SpecC P G f args H Q) (kp : Hp → Lb → Prop) :
   SpecC P G f args H fun x H' => ∃ H1,Q x H1 ∧ H' = killE (kp H1) H1 := by
 intro w A β vs hr hv
 refine (h w A β vs hr hv).mono ?_
 rintro e w' ⟨v,x,H1,β',rfl,hq,hr',hx,hm⟩
 exact ⟨v,x,killE (kp H1) H1,β',rfl,⟨H1,hq,rfl⟩,hr'.killE _,hx.killE _,fun l hl => by rw [Ne,killE_unused]; exact hm l hl⟩
mutual
theorem ren_congr {ρ ρ' : Lb → Lb} : ∀ x : AV,(∀ l ∈ x.lbs,ρ l = ρ' l) → ren ρ x = ren ρ' x
 | .sl l ..,h | .slk l ..,h | .ptr l ..,h => by simp [ren,h l (by simp [AV.lbs])]
 | .any,_ | .un,_ | .bool _,_ | .int ..,_ | .str _,_ | .list _,_ | .nil0,_ | .nilp,_ | .nilif,_ | .lptr _,_ => by simp [ren]
 | .agg cs,h => by simp only [AV.lbs] at h; simp [ren,rens_congr cs h]
 | .tup cs,h => by simp only [AV.lbs] at h; simp [ren,rens_congr cs h]
 | .fn f fs cs,h => by
   simp only [AV.lbs,List.mem_append] at h
   simp [ren,rens_congr fs (fun l hl => h l (.inl hl)),rens_congr cs (fun l hl => h l (.inr hl))]
 | .ifc t x,h => by simp only [AV.lbs] at h; simp [ren,ren_congr x h]
theorem rens_congr {ρ ρ' : Lb → Lb} : ∀ xs : List AV,(∀ l ∈ lbss xs,ρ l = ρ' l) → rens ρ xs = rens ρ' xs
 | [],_ => by simp [rens]
 | x :: r,h => by
   simp only [lbss,List.mem_append] at h
   simp [rens,ren_congr x (fun l hl => h l (.inl hl)),rens_congr r (fun l hl => h l (.inr hl))]
end
theorem lstIn_live {sz : Nat} {xs : List IV} {b : Bool} {q : Lb} {r : Row} (h : lstIn sz xs b q = .live r) :
   (q = .par 0 ∧ r = ⟨1,[[if b then .sl (.par 1) sz 0 xs.length else .nil0]]⟩) ∨ (b = true ∧ q = .par 1 ∧ r = ⟨sz,immE xs⟩) := by
 cases b with
 | false =>
   simp only [lstIn] at h
   by_cases e : q = .par 0
   · subst e; simp at h; exact .inl ⟨rfl,by rw [← h]; rfl⟩
   · rw [upd_ne _ _ e] at h; simp [Hp.none] at h
 | true =>
   simp only [lstIn] at h
   by_cases e : q = .par 0
   · subst e; simp at h; exact .inl ⟨rfl,by rw [← h]; rfl⟩
   · rw [upd_ne _ _ e] at h
     by_cases e1 : q = .par 1
     · subst e1; simp at h; exact .inr ⟨rfl,rfl,h.symm⟩
     · rw [upd_ne _ _ e1] at h; simp [Hp.none] at h
open Classical in
theorem callT_lst {S : St} {sz f : Nat} {args cargs : List AV} {xs ys : List IV} {res : AV} {H : Hp} {k : AV → Hp → Prop} {u : Tw k} {l N : Lb} {o : Option Lb} (h : LstC S.P S.G sz f cargs xs res ys)
   (ha : args = rens (atL l) cargs) (hl : LstAt sz l o xs H) (hN : H N = .unused) (hNf : N.fresh = true → l.fresh = true ∧ ∀ L,o = some L → L.fresh = true)
   (hk : ∀ L' H'',(L' = N ∨ o = some L') → LstAt sz l (some L') ys H'' → (∀ q,q ≠ l → q ≠ N → o ≠ some q → H'' q = H q) → (∀ q,H q ≠ .unused → H'' q ≠ .unused) → k res H'') : clK S f args H k u := by
 obtain ⟨h1,h2,h3⟩ := h
 have hob : o.isSome = false → xs = [] := by
   intro ho
   cases o with
   | none => exact hl.2
   | some L => simp at ho
 have hspec := (h3 o.isSome hob).keepH fun H1 q => q = .par 0 ∨ ∃ n,H1 (.par 0) = .live ⟨1,[[.sl q sz 0 n]]⟩
 let L0 : Lb := o.getD N
 let ρ : Lb → Lb := fun q => if q = .par 0 then l else if q = .par 1 then L0 else q
 have hρ0 : ρ (.par 0) = l := by simp [ρ]
 have hρ1 : ρ (.par 1) = L0 := by simp [ρ]
 have hHl : H l ≠ .unused := by cases o with
   | none => rw [hl.1]; simp
   | some L => rw [hl.2.1]; simp
 have hNl : N ≠ l := by rintro rfl; exact hHl hN
 have hL0l : L0 ≠ l := by cases o with
   | none => exact hNl
   | some L => exact hl.1
 refine .inr <| .inr ⟨⟨ρ,lstIn sz xs o.isSome,cargs,_,hspec,?_,?_,?_,?_,?_,?_,?_,?_⟩⟩
 · rw [ha]
   exact rens_congr _ fun q hq => by rw [h1 q hq]; simp [atL,ρ]
 · intro q r hq
   rcases lstIn_live hq with ⟨rfl,rfl⟩ | ⟨hb,rfl,rfl⟩
   · rw [hρ0]
     cases o with
     | none => rw [hl.1]; simp [renR,rens,ren]
     | some L => rw [hl.2.1]; simp [renR,rens,ren,ρ,L0]
   · rw [hρ1,renR_immE]
     cases o with
     | none => simp at hb
     | some L => exact hl.2.2
 · intro q hq
   cases hb : o.isSome with
   | false =>
     rw [hb] at hq
     simp only [lstIn] at hq
     by_cases e : q = .par 0
     · subst e; exact ⟨_,by simp [lstIn]; rfl⟩
     · rw [upd_ne _ _ e] at hq; simp [Hp.none] at hq
   | true =>
     rw [hb] at hq
     simp only [lstIn] at hq
     by_cases e : q = .par 0
     · subst e; exact ⟨_,by simp [lstIn]; rfl⟩
     · rw [upd_ne _ _ e] at hq
       by_cases e1 : q = .par 1
       · subst e1; exact ⟨_,by simp [lstIn,upd]; rfl⟩
       · rw [upd_ne _ _ e1] at hq; simp [Hp.none] at hq
 · rintro q q' ⟨r,hq⟩ ⟨r',hq'⟩ he
   rcases lstIn_live hq with ⟨rfl,_⟩ | ⟨_,rfl,_⟩ <;> rcases lstIn_live hq' with ⟨rfl,_⟩ | ⟨_,rfl,_⟩
   · rfl
   · rw [hρ0,hρ1] at he; exact absurd he.symm hL0l
   · rw [hρ0,hρ1] at he; exact absurd he hL0l
   · rfl
 · intro q hq
   rw [h1 q hq]
   cases o.isSome <;> simp [lstIn]
 · rintro q ⟨r,hq⟩
   rcases lstIn_live hq with ⟨rfl,_⟩ | ⟨_,rfl,_⟩ <;> rfl
 · intro q r hq cs hcs z hz
   rcases lstIn_live hq with ⟨rfl,rfl⟩ | ⟨hb,rfl,rfl⟩
   · simp only [List.mem_singleton] at hcs
     subst hcs
     cases hb : o.isSome with
     | false => rw [hb] at hz; simp [lbss,AV.lbs] at hz
     | true => rw [hb] at hz; simp [lbss,AV.lbs] at hz; subst hz; simp [lstIn,upd]
   · rw [lbss_immE hcs] at hz; simp at hz
 · rintro x H' ⟨H1,⟨rfl,L,hLa⟩,rfl⟩
   obtain ⟨hL0,hp,hLr⟩ := hLa
   let L1 : Lb := if L = .par 1 ∧ o.isSome = true then L0 else N
   have hL1 : L1 = N ∨ o = some L1 := by
     by_cases e : L = .par 1 ∧ o.isSome = true
     · right
       simp only [L1,if_pos e,L0]
       cases o with
       | none => simp at e
       | some Lo => rfl
     · left; simp only [L1,if_neg e]
   have hL1l : L1 ≠ l := by
     rcases hL1 with e | e
     · rw [e]; exact hNl
     · intro e2
       rw [e2] at e
       cases o with
       | none => simp at e
       | some Lo => simp only [Option.some.injEq] at e; exact hl.1 e
   let ρ' : Lb → Lb := fun q => if q = .par 0 then l else if q = L then L1 else q
   have hρ0' : ρ' (.par 0) = l := by simp [ρ']
   have hρL' : ρ' L = L1 := by simp [ρ',hL0]
   let Hk : Hp := match o with
     | some Lo => upd H Lo .dead
     | none => H
   have hHk : ∀ q,o ≠ some q → Hk q = H q := by
     intro q hq
     cases o with
     | none => rfl
     | some Lo => exact upd_ne _ _ (fun e => hq (by rw [e]))
   have hHkd : ∀ q,o = some q → Hk q = .dead := by
     intro q hq
     subst hq
     simp [Hk]
   have hlive : ∀ q r,killE (fun q => q = .par 0 ∨ ∃ n,H1 (.par 0) = .live ⟨1,[[.sl q sz 0 n]]⟩) H1 q = .live r → (q = .par 0 ∧ r = ⟨1,[[.sl L sz 0 ys.length]]⟩) ∨ (q = L ∧ r = ⟨sz,immE ys⟩) := by
     intro q r hq
     obtain ⟨g1,g2⟩ := killE_live.1 hq
     rcases g2 with rfl | ⟨n,g2⟩
     · rw [hp] at g1; cases g1; exact .inl ⟨rfl,rfl⟩
     · rw [hp] at g2
       simp only [Slot.live.injEq,Row.mk.injEq,List.cons.injEq,and_true,true_and,AV.sl.injEq] at g2
       obtain ⟨rfl,_⟩ := g2
       rw [hLr] at g1; cases g1; exact .inr ⟨rfl,rfl⟩
   have hlive0 : killE (fun q => q = .par 0 ∨ ∃ n,H1 (.par 0) = .live ⟨1,[[.sl q sz 0 n]]⟩) H1 (.par 0) = .live ⟨1,[[.sl L sz 0 ys.length]]⟩ := killE_live.2 ⟨hp,.inl rfl⟩
   have hliveL : killE (fun q => q = .par 0 ∨ ∃ n,H1 (.par 0) = .live ⟨1,[[.sl q sz 0 n]]⟩) H1 L = .live ⟨sz,immE ys⟩ := killE_live.2 ⟨hLr,.inr ⟨_,hp⟩⟩
   let H'' : Hp := upd (upd Hk l (.live ⟨1,[[.sl L1 sz 0 ys.length]]⟩)) L1 (.live ⟨sz,immE ys⟩)
   have hH1 : H'' L1 = .live ⟨sz,immE ys⟩ := by simp [H'']
   have hHl' : H'' l = .live ⟨1,[[.sl L1 sz 0 ys.length]]⟩ := by
     show upd _ L1 _ l = _
     rw [upd_ne _ _ (Ne.symm hL1l)]; simp
   have hHo : ∀ q,q ≠ L1 → q ≠ l → H'' q = Hk q := by
     intro q e1 e2
     show upd _ L1 _ q = _
     rw [upd_ne _ _ e1,upd_ne _ _ e2]
   have hused : ∀ q,H q ≠ .unused → H'' q ≠ .unused := by
     intro q hq
     by_cases e1 : q = L1
     · rw [e1,hH1]; simp
     · by_cases e2 : q = l
       · rw [e2,hHl']; simp
       · rw [hHo q e1 e2]
         by_cases e3 : o = some q
         · rw [hHkd q e3]; simp
         · rw [hHk q e3]; exact hq
   refine ⟨ρ',H'',?_,?_,?_,hused,?_,?_,?_,?_,?_⟩
   · rintro q ⟨r,hq⟩ ⟨r',hq'⟩
     rcases lstIn_live hq with ⟨rfl,_⟩ | ⟨hb,rfl,_⟩
     · rw [hρ0,hρ0']
     · rcases hlive _ _ hq' with ⟨e,_⟩ | ⟨e,_⟩
       · cases e
       · rw [hρ1,e,hρL']
         simp only [L1,if_pos (⟨e.symm,hb⟩ : L = .par 1 ∧ o.isSome = true)]
   · intro q r hq
     by_cases e1 : q = L1
     · subst e1
       rw [hH1] at hq
       simp only [Slot.live.injEq] at hq
       exact .inr ⟨L,_,hliveL,hρL',by rw [renR_immE]; exact hq.symm⟩
     · by_cases e2 : q = l
       · subst e2
         rw [hHl'] at hq
         simp only [Slot.live.injEq] at hq
         refine .inr ⟨.par 0,_,hlive0,hρ0',?_⟩
         rw [← hq]
         simp [renR,rens,ren,hρL']
       · rw [hHo q e1 e2] at hq
         by_cases e3 : o = some q
         · rw [hHkd q e3] at hq; cases hq
         · rw [hHk q e3] at hq
           refine .inl ⟨hq,?_⟩
           rintro z ⟨r',hz⟩ hzq
           rcases lstIn_live hz with ⟨rfl,_⟩ | ⟨hb,rfl,_⟩
           · rw [hρ0] at hzq; exact e2 hzq.symm
           · rw [hρ1] at hzq
             apply e3
             cases o with
             | none => simp at hb
             | some Lo => simp only [L0,Option.getD_some] at hzq; rw [hzq]
   · rintro q q' ⟨r,hq⟩ ⟨r',hq'⟩ he
     rcases hlive _ _ hq with ⟨rfl,_⟩ | ⟨rfl,_⟩ <;> rcases hlive _ _ hq' with ⟨rfl,_⟩ | ⟨rfl,_⟩
     · rfl
     · rw [hρ0',hρL'] at he; exact absurd he.symm hL1l
     · rw [hρ0',hρL'] at he; exact absurd he hL1l
     · rfl
   · intro q hq; rw [h2] at hq; simp at hq
   · intro q r hq cs hcs z hz
     rcases hlive _ _ hq with ⟨rfl,rfl⟩ | ⟨rfl,rfl⟩
     · simp only [List.mem_singleton] at hcs
       subst hcs
       simp only [lbss,AV.lbs,List.append_nil,List.mem_singleton] at hz
       subst hz
       rw [hρL',hH1]; simp
     · rw [lbss_immE hcs] at hz; simp at hz
   · rintro q ⟨r,hq⟩
     rcases hlive _ _ hq with ⟨rfl,_⟩ | ⟨rfl,_⟩
     · left
       cases o.isSome <;> exact ⟨_,by simp [lstIn]; rfl⟩
     · by_cases e : q = .par 1 ∧ o.isSome = true
       · left
         rw [e.1,e.2]
         exact ⟨_,by simp [lstIn,upd]; rfl⟩
       · right
         rw [hρL']
         simp only [L1,if_neg e]
         refine ⟨hN,fun hf => .inr ?_⟩
         obtain ⟨g1,g2⟩ := hNf hf
         rintro z ⟨r',hz⟩
         rcases lstIn_live hz with ⟨rfl,_⟩ | ⟨hb,rfl,_⟩
         · rw [hρ0]; exact g1
         · rw [hρ1]
           cases o with
           | none => simp at hb
           | some Lo => exact g2 Lo rfl
   · rintro q (hq | ⟨l1,r1,cs,g1,g2,g3⟩) _
     · rw [h2] at hq; simp at hq
     · rcases hlive _ _ g1 with ⟨rfl,rfl⟩ | ⟨rfl,rfl⟩
       · simp only [List.mem_singleton] at g2
         subst g2
         simp only [lbss,AV.lbs,List.append_nil,List.mem_singleton] at g3
         subst g3
         exact ⟨_,hliveL⟩
       · rw [lbss_immE g2] at g3; simp at g3
   · rw [ren_nolb _ _ h2]
     refine hk L1 H'' hL1 ⟨hL1l,hHl',hH1⟩ ?_ hused
     intro q e1 e2 e3
     have : q ≠ L1 := by
       rintro rfl
       rcases hL1 with e | e
       · exact e2 e
       · exact e3 e
     rw [hHo q this e1,hHk q e3]
end Go.Am

/- A tree is put behind a document's nodes. -/
namespace Go.Am
open Go Go.RowKit
def c_doc_put (f_slices_Clone_Attr_Attr f_doc_put : Nat) : AC :=
(.seq (.reg [⟨some 4,none,.box (.t 1)⟩,⟨some 6,none,.mov (.c (.int .i64 0))⟩]) (.seq (.reg [⟨some 11,none,.mov (.t 0)⟩,⟨some 12,none,.nchk (.t 11)⟩,⟨some 13,none,.fld (.t 12) 0⟩,⟨some 14,none,.load none (.t 13)⟩,⟨some 15,none,.len (.t 14)⟩,⟨some 7,none,.mov (.t 15)⟩]) (.seq (.dreg [⟨some 16,none,.mov (.t 0)⟩,⟨some 17,none,.mov (.t 0)⟩,⟨some 18,none,.nchk (.t 17)⟩,⟨some 19,none,.fld (.t 18) 0⟩,⟨some 20,none,.load none (.t 19)⟩,⟨some 21,none,.fld (.t 4) 0⟩,⟨some 22,none,.load none (.t 21)⟩,⟨some 23,none,.fld (.t 4) 1⟩,⟨some 24,none,.load none (.t 23)⟩,⟨some 25,none,.fld (.t 4) 2⟩,⟨some 26,none,.load none (.t 25)⟩,⟨some 27,none,.call f_slices_Clone_Attr_Attr [(.t 26)]⟩,⟨some 28,none,.mov (.t 2)⟩,⟨some 29,none,.bld [(.bool false),(.str []),.nil0,(.int .i64 0),.nil0] [(0,(1,(.t 22))),(1,(1,(.t 24))),(2,(1,(.t 27))),(3,(1,(.t 28)))]⟩,⟨some 30,none,.lits 1 5 [(.bool false),(.str []),.nil0,(.int .i64 0),.nil0] [(0,(.t 29))]⟩,⟨some 31,none,.app (.t 20) (.t 30) 5 80⟩,⟨some 32,none,.nchk (.t 16)⟩,⟨some 33,none,.fld (.t 32) 0⟩,⟨none,none,.store 1 (.t 33) (.t 31)⟩] [[],[],[1],[2],[3],[],[5],[],[7],[],[9],[10],[],[6,8,11,12],[13],[4,14,11],[0,0,1,2,3,4,5,6,7,8,9,10,11,12,13,14,15],[16,0,1,2,3,4,5,6,7,8,9,10,11,12,13,14,15],[17,15,15,0,1,2,3,4,5,6,7,8,9,10,11,12,13,14,15]] [.no,.no,.no,.no,(.rw [.par 0] []),.no,.rw [.loc 4] [],.no,.rw [.loc 4] [],.no,.rw [.loc 4] [],.no,.no,.no,.no,(.rw [] [.par 1,.gen 31,.loc 31]),.no,.no,(.rw [] [.par 0])]) (.seq (.reg [⟨some 8,none,.mov (.c .nil0)⟩]) (.gh (.own 8 1) (.seq (.seq (.reg [⟨some 34,none,.fld (.t 4) 3⟩,⟨some 35,none,.load none (.t 34)⟩,⟨some 36,none,.len (.t 35)⟩,⟨some 37,none,.mov (.c (.int .i64 0))⟩]) (.block 0 (.loop (.seq (.reg [⟨some 38,none,.bin .lss (.t 37) (.t 36)⟩]) (.seq (.cond (.t 38) .skip (.exit 0)) (.seq (.block 1 (.seq (.reg [⟨some 39,none,.ixa (.t 35) (.t 37) 4⟩,⟨some 40,none,.load (some 4) (.t 39)⟩,⟨some 10,none,.new [(.bool false),(.str []),.nil0,.nil0]⟩,⟨none,none,.store 4 (.t 10) (.t 40)⟩]) (.reg [⟨some 41,none,.mov (.t 8)⟩,⟨some 42,none,.mov (.t 0)⟩,⟨some 43,none,.load (some 4) (.t 10)⟩,⟨some 44,none,.mov (.t 7)⟩,⟨some 45,none,.call f_doc_put [(.t 42),(.t 43),(.t 44)]⟩,⟨some 46,none,.lits 1 1 [(.int .i64 0)] [(0,(.t 45))]⟩,⟨some 47,none,.app (.t 41) (.t 46) 1 8⟩,⟨some 8,none,.mov (.t 47)⟩]))) (.reg [⟨some 48,none,.bin .add (.t 37) (.c (.int .i64 1))⟩,⟨some 37,none,.mov (.t 48)⟩]))))))) (.gh (.frz (.loc 8) 8) (.seq (.reg [⟨some 49,none,.mov (.t 0)⟩,⟨some 50,none,.nchk (.t 49)⟩,⟨some 51,none,.fld (.t 50) 0⟩,⟨some 52,none,.load none (.t 51)⟩,⟨some 53,none,.mov (.t 7)⟩,⟨some 54,none,.mov (.t 8)⟩,⟨some 55,none,.ixa (.t 52) (.t 53) 5⟩,⟨some 56,none,.fld (.t 55) 4⟩,⟨none,none,.store 1 (.t 56) (.t 54)⟩]) (.seq (.reg [⟨some 57,none,.mov (.t 7)⟩,⟨some 6,none,.mov (.t 57)⟩]) .ret)))))))))
def Tree.node0 (x : Tree) (p : Int) : Node := ⟨x.text,x.s,x.attrs,p,[]⟩
def putN (d : Doc) (x : Tree) (p : Int) (i : Nat) : Doc := d ++ [x.node0 p] ++ flats (d.length + 1) d.length (x.kids.take i)
theorem putN_len (d : Doc) (x : Tree) (p : Int) (i : Nat) : (putN d x p i).length = d.length + 1 + cntT (x.kids.take i) := by simp [putN,flats_len]; omega
theorem putN_succ {d : Doc} {x : Tree} {p : Int} {i : Nat} {k : Tree} (h : x.kids[i]? = some k) : putN d x p (i + 1) = putN d x p i ++ k.flat (putN d x p i).length d.length := by
 rw [putN_len]
 unfold putN
 rw [List.take_add_one,h,flats_app]
 simp [flats]
structure PutS (x : Tree) where
 i : Nat
 L : Lb
 u : Lb → Bool
 hi : i ≤ x.kids.length
 l0 : L ≠ .par 0
 l8 : L ≠ .loc 8
 l10 : L ≠ .loc 10
 l47 : L ≠ .loc 47
 lg : ∀ j,i ≤ j → L ≠ .gen (1000 + j)
 u10 : u (.loc 10) = false
 u47 : u (.loc 47) = false
 ug : ∀ j,i ≤ j → u (.gen (1000 + j)) = false
def putLs {x : Tree} (q : PutS x) : List Lb := [.par 0,q.L,.loc 8]
def putPs (d : Doc) {x : Tree} (q : PutS x) : List (Nat × AV) :=
 [(0,.ptr (.par 0) 1 0 0),(7,.int .i64 d.length),(8,.sl (.loc 8) 1 0 (kidsAt (d.length + 1) (x.kids.take q.i)).length),(35,.list (ivT x.kids)),(36,.int .i64 x.kids.length),(37,.int .i64 q.i)]
def putRs (d : Doc) (p : Int) {x : Tree} (q : PutS x) : List (Lb × Row) :=
 [(.par 0,⟨1,[[.sl q.L 5 0 (putN d x p q.i).length]]⟩),(q.L,⟨5,immE ((putN d x p q.i).map Node.iv)⟩),(.loc 8,⟨1,immE ((kidsAt (d.length + 1) (x.kids.take q.i)).map intIV)⟩)]
theorem lbss_rows {x : Tree} (d : Doc) (p : Int) (q : PutS x) : ∀ r ∈ putRs d p q,∀ cs ∈ r.2.els,∀ l ∈ lbss cs,l ∈ putLs q := by
 intro r hr cs hcs l hl
 simp only [putRs,List.mem_cons,List.not_mem_nil,or_false] at hr
 rcases hr with rfl | rfl | rfl
 · simp only [List.mem_singleton] at hcs
   subst hcs
   simp only [lbss,AV.lbs,List.append_nil,List.mem_singleton] at hl
   subst hl; simp [putLs]
 · rw [lbss_immE hcs] at hl; simp at hl
 · rw [lbss_immE hcs] at hl; simp at hl
theorem pPut {P : Program} {G : Nat → Option (List IV)} {f_doc_put f_slices_Clone_Attr_Attr : Nat} (hF : compF P G f_doc_put = some (58,[(none,6)],(c_doc_put f_slices_Clone_Attr_Attr f_doc_put).bare)) (x : Tree) (d : Doc) (p : Int) (hx : d.length + x.wt ≤ B)
   (hC : PureC P G f_slices_Clone_Attr_Attr [.list (ivA x.attrs)] (.list (ivA x.attrs)))
   (hK : ∀ k ∈ x.kids,∀ (d' : Doc),d'.length + k.wt ≤ d.length + x.wt → LstC P G 5 f_doc_put [.ptr (.par 0) 1 0 0,k.av,.int .i64 d.length] (d'.map Node.iv) (.int .i64 d'.length) ((d' ++ k.flat d'.length d.length).map Node.iv)) :
   LstC P G 5 f_doc_put [.ptr (.par 0) 1 0 0,x.av,.int .i64 p] (d.map Node.iv) (.int .i64 d.length) ((d ++ x.flat d.length p).map Node.iv) := by
 refine ⟨by simp [lbss,AV.lbs,Tree.av],rfl,fun b hb => ?_⟩
 refine spec_of_go hF (by simp) ?_ ?_ ?_
 · rintro l ⟨r,h⟩
   rcases lstIn_live h with ⟨rfl,_⟩ | ⟨_,rfl,_⟩ <;> rfl
 · intro l hl
   simp [lbss,AV.lbs,Tree.av] at hl
   subst hl
   cases b <;> simp [lstIn]
 have hlB : d.length ≤ B := by omega
 have hwx := x.wt_eq
 have hkl := wtT_len x.kids
 unfold c_doc_put
 have hnode : (x.node0 p).iv = .agg [.bool x.text,.str x.s,.list (ivA x.attrs),.int .i64 p,.list []] := rfl
 cases b with
 | true =>
   simp only [↓aX,mX,reduceCtorEq,Nat.reduceEqDiff,Nat.reduceLT,Nat.reduceLeDiff,Nat.reduceAdd,Nat.reduceMul,Int.reduceToNat,Int.reduceLE,Int.reduceLT,lstIn,Tree.av,List.length_map]
   refine ⟨rfl,puK_in hC ?_⟩
   simp only [↓aX,mX,reduceCtorEq,Nat.reduceEqDiff,Nat.reduceLT,Nat.reduceLeDiff,Nat.reduceAdd,Nat.reduceMul,Int.reduceToNat,Int.reduceLE,Int.reduceLT]
   rw [app_far 5 80 31 (.par 1) (d.map Node.iv) (.agg [.bool x.text,.str x.s,.list (ivA x.attrs),.int .i64 p,.list []]) rfl (by simp [upd_at]) (by simp) rfl (by simp [IV.cells]) (by unfold B at hlB; omega) (by decide) (by simp) (by simp [upd_at,Hp.none])]
   simp only [↓aX,mX,reduceCtorEq,Nat.reduceEqDiff,Nat.reduceLT,Nat.reduceLeDiff,Nat.reduceAdd,Nat.reduceMul,Int.reduceToNat,Int.reduceLE,Int.reduceLT,ivT_len]
   refine ⟨by rintro l (rfl | rfl) <;> simp [Lb.fam],?_⟩
   refine loop_used (σ := PutS x) putLs (fun q => q.u) (putPs d) (putRs d p) (fun q => x.kids.length - q.i)
     { i := 0,L := .gen 31,u := fun q => decide (q = .par 1),hi := Nat.zero_le _,l0 := by simp,l8 := by simp,l10 := by simp,l47 := by simp,lg := fun j _ => by simp; omega,u10 := by simp,u47 := by simp,ug := fun j _ => by simp }
     (fun _ => rfl) (fun q => by simp [lbss,AV.lbs,putPs,putLs]) (lbss_rows d p) ⟨[],?_⟩ ?_
   · refine ⟨?_,?_,?_,by simp [putLs,rnF],fun l _ => ⟨id,fun _ => rfl⟩⟩
     · intro l hf hu
       by_cases e0 : l = .par 0
       · subst e0; simp [putLs]
       · by_cases e1 : l = .gen 31
         · subst e1; simp [putLs]
         · by_cases e2 : l = .par 1
           · subst e2; simp
           · exfalso; apply hu
             cases l <;> simp_all [Lb.fresh,upd_at,Hp.none]
     · simp [putPs,EqL,rnF,ren,kidsAt,put,argE]
     · simp [putRs,RwL,rnF,upd_at,renR,rens,ren,putN,flats,kidsAt,immE,Node.iv,Node.cs,Tree.node0,IV.cells,IV.av1,rens_imm]
   · intro q
     have a0 : ofU q.u (putRs d p q) (.par 0) = .live ⟨1,[[.sl q.L 5 0 (putN d x p q.i).length]]⟩ := by simp [ofU,putRs,ofH,upd]
     have aL : ofU q.u (putRs d p q) q.L = .live ⟨5,immE ((putN d x p q.i).map Node.iv)⟩ := by simp [ofU,putRs,ofH,upd,q.l0]
     have a8 : ofU q.u (putRs d p q) (.loc 8) = .live ⟨1,immE ((kidsAt (d.length + 1) (x.kids.take q.i)).map intIV)⟩ := by simp [ofU,putRs,ofH,upd,Ne.symm q.l8]
     have a10 : ofU q.u (putRs d p q) (.loc 10) = .unused := by simp [ofU,putRs,ofH,upd,Ne.symm q.l10,q.u10,Hp.none]
     have a47 : ofU q.u (putRs d p q) (.loc 47) = .unused := by simp [ofU,putRs,ofH,upd,Ne.symm q.l47,q.u47,Hp.none]
     have ag : ofU q.u (putRs d p q) (.gen (1000 + q.i)) = .unused := by simp [ofU,putRs,ofH,upd,Ne.symm (q.lg q.i (Nat.le_refl _)),q.ug q.i (Nat.le_refl _),Hp.none]
     have anf : ∀ l : Lb,l.fresh = false → ofU q.u (putRs d p q) l ≠ .unused → l = .par 0 ∨ l = q.L ∨ q.u l = true := by
       intro l hf hu
       by_cases e0 : l = .par 0
       · exact .inl e0
       · by_cases e1 : l = q.L
         · exact .inr (.inl e1)
         · by_cases e2 : q.u l = true
           · exact .inr (.inr e2)
           · exfalso; apply hu
             have e3 : l ≠ .loc 8 := by rintro rfl; simp [Lb.fresh] at hf
             simp [ofU,putRs,ofH,upd,e0,e1,e2,e3,Hp.none]
     have hls : lbss ((putPs d q).map Prod.snd) = [.par 0,.loc 8] := by simp [lbss,AV.lbs,putPs]
     generalize ofU q.u (putRs d p q) = H0 at *
     have hn10 := q.l10
     have hn8 := q.l8
     have hn47 := q.l47
     have hi := q.hi
     have hkn : (kidsAt (d.length + 1) (x.kids.take q.i)).length = q.i := by rw [kidsAt_len,List.length_take]; omega
     have hct := cntT_le (x.kids.take q.i)
     have hwt := wtT_take x.kids q.i
     simp only [↓aX,mX,reduceCtorEq,Nat.reduceEqDiff,Nat.reduceLT,Nat.reduceLeDiff,Nat.reduceAdd,Nat.reduceMul,Int.reduceToNat,Int.reduceLE,Int.reduceLT,putPs]
     refine cK_b (fun h => ?_) (fun h => ?_)
     · have hlt : q.i < x.kids.length := by simpa using h
       obtain ⟨k,hki⟩ : ∃ k,x.kids[q.i]? = some k := ⟨_,List.getElem?_eq_getElem hlt⟩
       have hw : IntKind.i64.wrap ((q.i : Int) + 1) = ((q.i + 1 : Nat) : Int) := wrap64 (by omega) (by unfold B at hx; omega)
       have htk : x.kids.take (q.i + 1) = x.kids.take q.i ++ [k] := take_snoc' hki
       have hwk : wtT (x.kids.take q.i) + k.wt ≤ wtT x.kids := by
         have := wtT_take x.kids (q.i + 1)
         rw [htk,wtT_app] at this
         simp only [wtT] at this; omega
       simp only [↓aX,mX,reduceCtorEq,Nat.reduceEqDiff,Nat.reduceLT,Nat.reduceLeDiff,Nat.reduceAdd,Nat.reduceMul,Int.reduceToNat,Int.reduceLE,Int.reduceLT,ivT_get,hki,elszT,Tree.cells_eq,Tree.cs,a10]
       refine callT_lst (l := .par 0) (N := .gen (1000 + q.i)) (o := some q.L) (hK k (List.mem_of_getElem? hki) (putN d x p q.i) (by rw [putN_len]; omega)) rfl ⟨q.l0,by simp only [↓aX,mX,reduceCtorEq,Nat.reduceEqDiff,Nat.reduceLT,Nat.reduceLeDiff,Nat.reduceAdd,Nat.reduceMul,Int.reduceToNat,Int.reduceLE,Int.reduceLT,a0,List.length_map],by simp only [↓aX,mX,reduceCtorEq,Nat.reduceEqDiff,Nat.reduceLT,Nat.reduceLeDiff,Nat.reduceAdd,Nat.reduceMul,Int.reduceToNat,Int.reduceLE,Int.reduceLT,aL,if_neg hn10]⟩ (by simp only [↓aX,mX,reduceCtorEq,Nat.reduceEqDiff,Nat.reduceLT,Nat.reduceLeDiff,Nat.reduceAdd,Nat.reduceMul,Int.reduceToNat,Int.reduceLE,Int.reduceLT,ag]) (by intro h; simp [Lb.fresh] at h) ?_
       rintro L' H'' hL' ⟨b1,b2,b3⟩ hsame hused
       have c8 : H'' (.loc 8) = .live ⟨1,immE ((kidsAt (d.length + 1) (x.kids.take q.i)).map intIV)⟩ := by
         rw [hsame _ (by simp) (by simp) (by simpa using hn8)]; simp only [↓aX,mX,reduceCtorEq,Nat.reduceEqDiff,Nat.reduceLT,Nat.reduceLeDiff,Nat.reduceAdd,Nat.reduceMul,Int.reduceToNat,Int.reduceLE,Int.reduceLT,a8]
       have c47 : H'' (.loc 47) = .unused := by
         rw [hsame _ (by simp) (by simp) (by simpa using hn47)]; simp only [↓aX,mX,reduceCtorEq,Nat.reduceEqDiff,Nat.reduceLT,Nat.reduceLeDiff,Nat.reduceAdd,Nat.reduceMul,Int.reduceToNat,Int.reduceLE,Int.reduceLT,a47]
       simp only [↓aX,mX,reduceCtorEq,Nat.reduceEqDiff,Nat.reduceLT,Nat.reduceLeDiff,Nat.reduceAdd,Nat.reduceMul,Int.reduceToNat,Int.reduceLE,Int.reduceLT]
       rw [app_loc 1 8 47 8 ((kidsAt (d.length + 1) (x.kids.take q.i)).map intIV) (.int .i64 (putN d x p q.i).length) c8 (by rw [List.length_map]) rfl (by simp [IV.cells]) (by rw [hkn]; unfold B at hx; omega) (by decide) (by decide) c47]
       simp only [↓aX,mX,reduceCtorEq,Nat.reduceEqDiff,Nat.reduceLT,Nat.reduceLeDiff,Nat.reduceAdd,Nat.reduceMul,Int.reduceToNat,Int.reduceLE,Int.reduceLT,hw]
       have hL8 : L' ≠ .loc 8 := by rcases hL' with rfl | e; simp; simp only [Option.some.injEq] at e; rw [← e]; exact hn8
       have hL10 : L' ≠ .loc 10 := by rcases hL' with rfl | e; simp; simp only [Option.some.injEq] at e; rw [← e]; exact hn10
       have hL47 : L' ≠ .loc 47 := by rcases hL' with rfl | e; simp; simp only [Option.some.injEq] at e; rw [← e]; exact hn47
       refine ⟨{ i := q.i + 1,L := L',u := fun l => q.u l || (decide (l = q.L) || decide (l = .gen (1000 + q.i))),hi := hlt,l0 := b1,l8 := hL8,l10 := hL10,l47 := hL47,lg := ?_,u10 := ?_,u47 := ?_,ug := ?_ },by simp only; omega,[(.loc 8,.loc 47)],?_⟩
       · intro j hj
         rcases hL' with rfl | e
         · simp; omega
         · simp only [Option.some.injEq] at e; rw [← e]; exact q.lg j (by omega)
       · simp [q.u10,Ne.symm hn10]
       · simp [q.u47,Ne.symm hn47]
       · intro j hj
         have := Ne.symm (q.lg j (by omega))
         simp [q.ug j (by omega),this]; omega
       have hP := putN_succ (d := d) (p := p) hki
       have hkid : kidsAt (d.length + 1) (x.kids.take (q.i + 1)) = kidsAt (d.length + 1) (x.kids.take q.i) ++ [((putN d x p q.i).length : Int)] := by
         rw [htk,kidsAt_app,putN_len]; simp [kidsAt]
       refine ⟨?_,?_,?_,?_,?_⟩
       · intro l hf hu
         by_cases e0 : l = .par 0
         · subst e0; simp [putLs]
         · by_cases e1 : l = q.L
           · right; simp [e1]
           · by_cases e2 : l = .gen (1000 + q.i)
             · right; simp [e2]
             · have e3 : l ≠ .loc 47 := by rintro rfl; simp [Lb.fresh] at hf
               have e4 : l ≠ .loc 8 := by rintro rfl; simp [Lb.fresh] at hf
               have e5 : l ≠ .loc 10 := by rintro rfl; simp [Lb.fresh] at hf
               rw [upd_ne _ _ e3,upd_ne _ _ e4,hsame l e0 e2 (by simpa using Ne.symm e1),upd_ne _ _ e5,upd_ne _ _ e5] at hu
               rcases anf l hf hu with h | h | h
               · exact absurd h e0
               · exact absurd h e1
               · right; simp [h]
       · simp [putPs,EqL,rnF,ren,put,hkn,htk,kidsAt_app,kidsAt]
       · have r0 : rnF [(.loc 8,.loc 47)] (.par 0) = .par 0 := rfl
         have rL : rnF [(.loc 8,.loc 47)] L' = L' := by simp [rnF,hL8]
         have r8 : rnF [(.loc 8,.loc 47)] (.loc 8) = .loc 47 := rfl
         refine ⟨?_,?_,?_,trivial⟩
         · show upd (upd H'' (.loc 8) .dead) (.loc 47) _ (.par 0) = .live (renR (rnF [(.loc 8,.loc 47)]) ⟨1,[[.sl L' 5 0 (putN d x p (q.i + 1)).length]]⟩)
           rw [upd_ne _ _ (by simp),upd_ne _ _ (by simp),b2,hP]
           simp [renR,rens,ren,rL]
         · show upd (upd H'' (.loc 8) .dead) (.loc 47) _ (rnF [(.loc 8,.loc 47)] L') = .live (renR (rnF [(.loc 8,.loc 47)]) ⟨5,immE ((putN d x p (q.i + 1)).map Node.iv)⟩)
           rw [rL,upd_ne _ _ hL47,upd_ne _ _ hL8,b3,renR_immE,hP]
         · show upd (upd H'' (.loc 8) .dead) (.loc 47) _ (.loc 47) = .live (renR (rnF [(.loc 8,.loc 47)]) ⟨1,immE ((kidsAt (d.length + 1) (x.kids.take (q.i + 1))).map intIV)⟩)
           rw [renR_immE,hkid,List.map_append]
           simp only [↓aX,mX,reduceCtorEq,Nat.reduceEqDiff,Nat.reduceLT,Nat.reduceLeDiff,Nat.reduceAdd,Nat.reduceMul,Int.reduceToNat,Int.reduceLE,Int.reduceLT]
           rfl
       · simp [putLs,rnF,hL8,Ne.symm b1,hL47]
       · intro l hl
         simp only [putLs,List.mem_cons,List.not_mem_nil,or_false] at hl
         rcases hl with rfl | rfl | rfl
         · exact ⟨id,fun _ => rfl⟩
         · have rL : rnF [(.loc 8,.loc 47)] l = l := by simp [rnF,hL8]
           rw [rL]; exact ⟨id,fun _ => rfl⟩
         · exact ⟨fun _ => rfl,fun h => by simp [Lb.fresh] at h⟩
     · have hil : q.i = x.kids.length := by simp at h; omega
       have htl : x.kids.take q.i = x.kids := by rw [hil,List.take_length]
       rw [htl] at a8
       have hnl := putN_len d x p q.i
       have hlt : d.length < (putN d x p q.i).length := by omega
       have hget : (immE ((putN d x p q.i).map Node.iv))[d.length]? = some [.bool x.text,.str x.s,.list (ivA x.attrs),.int .i64 p,.list []] := by
         rw [immE_get,List.getElem?_map,putN,List.append_assoc,List.getElem?_append_right (Nat.le_refl _),Nat.sub_self]
         rfl
       simp only [↓aX,mX,reduceCtorEq,Nat.reduceEqDiff,Nat.reduceLT,Nat.reduceLeDiff,Nat.reduceAdd,Nat.reduceMul,Int.reduceToNat,Int.reduceLE,Int.reduceLT,h,htl]
       refine ⟨1,(kidsAt (d.length + 1) x.kids).map intIV,0,_,rfl,a8,by simp,flatI _,?_⟩
       simp only [↓aX,mX,reduceCtorEq,Nat.reduceEqDiff,Nat.reduceLT,Nat.reduceLeDiff,Nat.reduceAdd,Nat.reduceMul,Int.reduceToNat,Int.reduceLE,Int.reduceLT,a0,aL,hlt,hn8,hget,immE_len,List.length_map]
       have hfin : (immE ((putN d x p q.i).map Node.iv)).set d.length ((x.node d.length p).iv.cells.map IV.av1) = immE ((d ++ x.flat d.length p).map Node.iv) := by
         rw [x.flat_eq,immE_set,putN,htl]
         congr 1
         simp [List.set_append]
       have hlen2 : (d ++ x.flat d.length p).length = (putN d x p q.i).length := by
         rw [List.length_append,x.flat_len,hnl,htl,x.cnt_eq]; omega
       refine ⟨q.L,q.l0,?_,?_⟩
       · rw [upd_ne _ _ (Ne.symm q.l0),upd_ne _ _ (by simp),a0,List.length_map,hlen2]
       · rw [← hfin]
         have : (List.take (kidsAt (d.length + 1) x.kids).length ((kidsAt (d.length + 1) x.kids).map intIV)) = (kidsAt (d.length + 1) x.kids).map intIV := List.take_of_length_le (by simp)
         rw [this]
         simp only [↓aX,mX,reduceCtorEq,Nat.reduceEqDiff,Nat.reduceLT,Nat.reduceLeDiff,Nat.reduceAdd,Nat.reduceMul,Int.reduceToNat,Int.reduceLE,Int.reduceLT]
         rfl
 | false =>
   have hd : d = [] := by simpa using hb rfl
   have hd0 : d.length = 0 := by rw [hd]; rfl
   simp only [↓aX,mX,reduceCtorEq,Nat.reduceEqDiff,Nat.reduceLT,Nat.reduceLeDiff,Nat.reduceAdd,Nat.reduceMul,Int.reduceToNat,Int.reduceLE,Int.reduceLT,lstIn,Tree.av]
   refine ⟨rfl,puK_in hC ?_⟩
   simp only [↓aX,mX,reduceCtorEq,Nat.reduceEqDiff,Nat.reduceLT,Nat.reduceLeDiff,Nat.reduceAdd,Nat.reduceMul,Int.reduceToNat,Int.reduceLE,Int.reduceLT]
   rw [app_nil' 5 80 31 [.agg [.bool x.text,.str x.s,.list (ivA x.attrs),.int .i64 p,.list []]] (by simp [Elsz,IV.cells]) (by simp [Flat,IV.cells]) (by simp) (by decide) (by simp [upd_at,Hp.none])]
   simp only [↓aX,mX,reduceCtorEq,Nat.reduceEqDiff,Nat.reduceLT,Nat.reduceLeDiff,Nat.reduceAdd,Nat.reduceMul,Int.reduceToNat,Int.reduceLE,Int.reduceLT,ivT_len]
   refine ⟨by simp,?_⟩
   refine loop_used (σ := PutS x) putLs (fun q => q.u) (putPs d) (putRs d p) (fun q => x.kids.length - q.i)
     { i := 0,L := .loc 31,u := fun q => false,hi := Nat.zero_le _,l0 := by simp,l8 := by simp,l10 := by simp,l47 := by simp,lg := fun j _ => by simp,u10 := rfl,u47 := rfl,ug := fun j _ => rfl }
     (fun _ => rfl) (fun q => by simp [lbss,AV.lbs,putPs,putLs]) (lbss_rows d p) ⟨[],?_⟩ ?_
   · refine ⟨?_,?_,?_,by simp [putLs,rnF],fun l _ => ⟨id,fun _ => rfl⟩⟩
     · intro l hf hu
       by_cases e0 : l = .par 0
       · subst e0; simp [putLs]
       · exfalso; apply hu
         cases l <;> simp_all [Lb.fresh,upd_at,Hp.none]
     · simp [putPs,EqL,rnF,ren,kidsAt,put,argE,hd]
     · simp [putRs,RwL,rnF,upd_at,renR,rens,ren,putN,flats,kidsAt,immE,Node.iv,Node.cs,Tree.node0,IV.cells,IV.av1,rens_imm,hd]
   · intro q
     have a0 : ofU q.u (putRs d p q) (.par 0) = .live ⟨1,[[.sl q.L 5 0 (putN d x p q.i).length]]⟩ := by simp [ofU,putRs,ofH,upd]
     have aL : ofU q.u (putRs d p q) q.L = .live ⟨5,immE ((putN d x p q.i).map Node.iv)⟩ := by simp [ofU,putRs,ofH,upd,q.l0]
     have a8 : ofU q.u (putRs d p q) (.loc 8) = .live ⟨1,immE ((kidsAt (d.length + 1) (x.kids.take q.i)).map intIV)⟩ := by simp [ofU,putRs,ofH,upd,Ne.symm q.l8]
     have a10 : ofU q.u (putRs d p q) (.loc 10) = .unused := by simp [ofU,putRs,ofH,upd,Ne.symm q.l10,q.u10,Hp.none]
     have a47 : ofU q.u (putRs d p q) (.loc 47) = .unused := by simp [ofU,putRs,ofH,upd,Ne.symm q.l47,q.u47,Hp.none]
     have ag : ofU q.u (putRs d p q) (.gen (1000 + q.i)) = .unused := by simp [ofU,putRs,ofH,upd,Ne.symm (q.lg q.i (Nat.le_refl _)),q.ug q.i (Nat.le_refl _),Hp.none]
     have anf : ∀ l : Lb,l.fresh = false → ofU q.u (putRs d p q) l ≠ .unused → l = .par 0 ∨ l = q.L ∨ q.u l = true := by
       intro l hf hu
       by_cases e0 : l = .par 0
       · exact .inl e0
       · by_cases e1 : l = q.L
         · exact .inr (.inl e1)
         · by_cases e2 : q.u l = true
           · exact .inr (.inr e2)
           · exfalso; apply hu
             have e3 : l ≠ .loc 8 := by rintro rfl; simp [Lb.fresh] at hf
             simp [ofU,putRs,ofH,upd,e0,e1,e2,e3,Hp.none]
     have hls : lbss ((putPs d q).map Prod.snd) = [.par 0,.loc 8] := by simp [lbss,AV.lbs,putPs]
     generalize ofU q.u (putRs d p q) = H0 at *
     have hn10 := q.l10
     have hn8 := q.l8
     have hn47 := q.l47
     have hi := q.hi
     have hkn : (kidsAt (d.length + 1) (x.kids.take q.i)).length = q.i := by rw [kidsAt_len,List.length_take]; omega
     have hct := cntT_le (x.kids.take q.i)
     have hwt := wtT_take x.kids q.i
     simp only [↓aX,mX,reduceCtorEq,Nat.reduceEqDiff,Nat.reduceLT,Nat.reduceLeDiff,Nat.reduceAdd,Nat.reduceMul,Int.reduceToNat,Int.reduceLE,Int.reduceLT,putPs]
     refine cK_b (fun h => ?_) (fun h => ?_)
     · have hlt : q.i < x.kids.length := by simpa using h
       obtain ⟨k,hki⟩ : ∃ k,x.kids[q.i]? = some k := ⟨_,List.getElem?_eq_getElem hlt⟩
       have hw : IntKind.i64.wrap ((q.i : Int) + 1) = ((q.i + 1 : Nat) : Int) := wrap64 (by omega) (by unfold B at hx; omega)
       have htk : x.kids.take (q.i + 1) = x.kids.take q.i ++ [k] := take_snoc' hki
       have hwk : wtT (x.kids.take q.i) + k.wt ≤ wtT x.kids := by
         have := wtT_take x.kids (q.i + 1)
         rw [htk,wtT_app] at this
         simp only [wtT] at this; omega
       simp only [↓aX,mX,reduceCtorEq,Nat.reduceEqDiff,Nat.reduceLT,Nat.reduceLeDiff,Nat.reduceAdd,Nat.reduceMul,Int.reduceToNat,Int.reduceLE,Int.reduceLT,ivT_get,hki,elszT,Tree.cells_eq,Tree.cs,a10]
       refine callT_lst (l := .par 0) (N := .gen (1000 + q.i)) (o := some q.L) (hK k (List.mem_of_getElem? hki) (putN d x p q.i) (by rw [putN_len]; omega)) rfl ⟨q.l0,by simp only [↓aX,mX,reduceCtorEq,Nat.reduceEqDiff,Nat.reduceLT,Nat.reduceLeDiff,Nat.reduceAdd,Nat.reduceMul,Int.reduceToNat,Int.reduceLE,Int.reduceLT,a0,List.length_map],by simp only [↓aX,mX,reduceCtorEq,Nat.reduceEqDiff,Nat.reduceLT,Nat.reduceLeDiff,Nat.reduceAdd,Nat.reduceMul,Int.reduceToNat,Int.reduceLE,Int.reduceLT,aL,if_neg hn10]⟩ (by simp only [↓aX,mX,reduceCtorEq,Nat.reduceEqDiff,Nat.reduceLT,Nat.reduceLeDiff,Nat.reduceAdd,Nat.reduceMul,Int.reduceToNat,Int.reduceLE,Int.reduceLT,ag]) (by intro h; simp [Lb.fresh] at h) ?_
       rintro L' H'' hL' ⟨b1,b2,b3⟩ hsame hused
       have c8 : H'' (.loc 8) = .live ⟨1,immE ((kidsAt (d.length + 1) (x.kids.take q.i)).map intIV)⟩ := by
         rw [hsame _ (by simp) (by simp) (by simpa using hn8)]; simp only [↓aX,mX,reduceCtorEq,Nat.reduceEqDiff,Nat.reduceLT,Nat.reduceLeDiff,Nat.reduceAdd,Nat.reduceMul,Int.reduceToNat,Int.reduceLE,Int.reduceLT,a8]
       have c47 : H'' (.loc 47) = .unused := by
         rw [hsame _ (by simp) (by simp) (by simpa using hn47)]; simp only [↓aX,mX,reduceCtorEq,Nat.reduceEqDiff,Nat.reduceLT,Nat.reduceLeDiff,Nat.reduceAdd,Nat.reduceMul,Int.reduceToNat,Int.reduceLE,Int.reduceLT,a47]
       simp only [↓aX,mX,reduceCtorEq,Nat.reduceEqDiff,Nat.reduceLT,Nat.reduceLeDiff,Nat.reduceAdd,Nat.reduceMul,Int.reduceToNat,Int.reduceLE,Int.reduceLT]
       rw [app_loc 1 8 47 8 ((kidsAt (d.length + 1) (x.kids.take q.i)).map intIV) (.int .i64 (putN d x p q.i).length) c8 (by rw [List.length_map]) rfl (by simp [IV.cells]) (by rw [hkn]; unfold B at hx; omega) (by decide) (by decide) c47]
       simp only [↓aX,mX,reduceCtorEq,Nat.reduceEqDiff,Nat.reduceLT,Nat.reduceLeDiff,Nat.reduceAdd,Nat.reduceMul,Int.reduceToNat,Int.reduceLE,Int.reduceLT,hw]
       have hL8 : L' ≠ .loc 8 := by rcases hL' with rfl | e; simp; simp only [Option.some.injEq] at e; rw [← e]; exact hn8
       have hL10 : L' ≠ .loc 10 := by rcases hL' with rfl | e; simp; simp only [Option.some.injEq] at e; rw [← e]; exact hn10
       have hL47 : L' ≠ .loc 47 := by rcases hL' with rfl | e; simp; simp only [Option.some.injEq] at e; rw [← e]; exact hn47
       refine ⟨{ i := q.i + 1,L := L',u := fun l => q.u l || (decide (l = q.L) || decide (l = .gen (1000 + q.i))),hi := hlt,l0 := b1,l8 := hL8,l10 := hL10,l47 := hL47,lg := ?_,u10 := ?_,u47 := ?_,ug := ?_ },by simp only; omega,[(.loc 8,.loc 47)],?_⟩
       · intro j hj
         rcases hL' with rfl | e
         · simp; omega
         · simp only [Option.some.injEq] at e; rw [← e]; exact q.lg j (by omega)
       · simp [q.u10,Ne.symm hn10]
       · simp [q.u47,Ne.symm hn47]
       · intro j hj
         have := Ne.symm (q.lg j (by omega))
         simp [q.ug j (by omega),this]; omega
       have hP := putN_succ (d := d) (p := p) hki
       have hkid : kidsAt (d.length + 1) (x.kids.take (q.i + 1)) = kidsAt (d.length + 1) (x.kids.take q.i) ++ [((putN d x p q.i).length : Int)] := by
         rw [htk,kidsAt_app,putN_len]; simp [kidsAt]
       refine ⟨?_,?_,?_,?_,?_⟩
       · intro l hf hu
         by_cases e0 : l = .par 0
         · subst e0; simp [putLs]
         · by_cases e1 : l = q.L
           · right; simp [e1]
           · by_cases e2 : l = .gen (1000 + q.i)
             · right; simp [e2]
             · have e3 : l ≠ .loc 47 := by rintro rfl; simp [Lb.fresh] at hf
               have e4 : l ≠ .loc 8 := by rintro rfl; simp [Lb.fresh] at hf
               have e5 : l ≠ .loc 10 := by rintro rfl; simp [Lb.fresh] at hf
               rw [upd_ne _ _ e3,upd_ne _ _ e4,hsame l e0 e2 (by simpa using Ne.symm e1),upd_ne _ _ e5,upd_ne _ _ e5] at hu
               rcases anf l hf hu with h | h | h
               · exact absurd h e0
               · exact absurd h e1
               · right; simp [h]
       · simp [putPs,EqL,rnF,ren,put,hkn,htk,kidsAt_app,kidsAt]
       · have r0 : rnF [(.loc 8,.loc 47)] (.par 0) = .par 0 := rfl
         have rL : rnF [(.loc 8,.loc 47)] L' = L' := by simp [rnF,hL8]
         have r8 : rnF [(.loc 8,.loc 47)] (.loc 8) = .loc 47 := rfl
         refine ⟨?_,?_,?_,trivial⟩
         · show upd (upd H'' (.loc 8) .dead) (.loc 47) _ (.par 0) = .live (renR (rnF [(.loc 8,.loc 47)]) ⟨1,[[.sl L' 5 0 (putN d x p (q.i + 1)).length]]⟩)
           rw [upd_ne _ _ (by simp),upd_ne _ _ (by simp),b2,hP]
           simp [renR,rens,ren,rL]
         · show upd (upd H'' (.loc 8) .dead) (.loc 47) _ (rnF [(.loc 8,.loc 47)] L') = .live (renR (rnF [(.loc 8,.loc 47)]) ⟨5,immE ((putN d x p (q.i + 1)).map Node.iv)⟩)
           rw [rL,upd_ne _ _ hL47,upd_ne _ _ hL8,b3,renR_immE,hP]
         · show upd (upd H'' (.loc 8) .dead) (.loc 47) _ (.loc 47) = .live (renR (rnF [(.loc 8,.loc 47)]) ⟨1,immE ((kidsAt (d.length + 1) (x.kids.take (q.i + 1))).map intIV)⟩)
           rw [renR_immE,hkid,List.map_append]
           simp only [↓aX,mX,reduceCtorEq,Nat.reduceEqDiff,Nat.reduceLT,Nat.reduceLeDiff,Nat.reduceAdd,Nat.reduceMul,Int.reduceToNat,Int.reduceLE,Int.reduceLT]
           rfl
       · simp [putLs,rnF,hL8,Ne.symm b1,hL47]
       · intro l hl
         simp only [putLs,List.mem_cons,List.not_mem_nil,or_false] at hl
         rcases hl with rfl | rfl | rfl
         · exact ⟨id,fun _ => rfl⟩
         · have rL : rnF [(.loc 8,.loc 47)] l = l := by simp [rnF,hL8]
           rw [rL]; exact ⟨id,fun _ => rfl⟩
         · exact ⟨fun _ => rfl,fun h => by simp [Lb.fresh] at h⟩
     · have hil : q.i = x.kids.length := by simp at h; omega
       have htl : x.kids.take q.i = x.kids := by rw [hil,List.take_length]
       rw [htl] at a8
       have hnl := putN_len d x p q.i
       have hlt : d.length < (putN d x p q.i).length := by omega
       have hget : (immE ((putN d x p q.i).map Node.iv))[d.length]? = some [.bool x.text,.str x.s,.list (ivA x.attrs),.int .i64 p,.list []] := by
         rw [immE_get,List.getElem?_map,putN,List.append_assoc,List.getElem?_append_right (Nat.le_refl _),Nat.sub_self]
         rfl
       simp only [↓aX,mX,reduceCtorEq,Nat.reduceEqDiff,Nat.reduceLT,Nat.reduceLeDiff,Nat.reduceAdd,Nat.reduceMul,Int.reduceToNat,Int.reduceLE,Int.reduceLT,h,htl]
       refine ⟨1,(kidsAt (d.length + 1) x.kids).map intIV,0,_,rfl,a8,by simp,flatI _,?_⟩
       simp only [↓aX,mX,reduceCtorEq,Nat.reduceEqDiff,Nat.reduceLT,Nat.reduceLeDiff,Nat.reduceAdd,Nat.reduceMul,Int.reduceToNat,Int.reduceLE,Int.reduceLT,a0,aL,hlt,hn8,hget,immE_len,List.length_map]
       have hfin : (immE ((putN d x p q.i).map Node.iv)).set d.length ((x.node d.length p).iv.cells.map IV.av1) = immE ((d ++ x.flat d.length p).map Node.iv) := by
         rw [x.flat_eq,immE_set,putN,htl]
         congr 1
         simp [List.set_append]
       have hlen2 : (d ++ x.flat d.length p).length = (putN d x p q.i).length := by
         rw [List.length_append,x.flat_len,hnl,htl,x.cnt_eq]; omega
       refine ⟨q.L,q.l0,?_,?_⟩
       · rw [upd_ne _ _ (Ne.symm q.l0),upd_ne _ _ (by simp),a0,List.length_map,hlen2]
       · rw [← hfin]
         have : (List.take (kidsAt (d.length + 1) x.kids).length ((kidsAt (d.length + 1) x.kids).map intIV)) = (kidsAt (d.length + 1) x.kids).map intIV := List.take_of_length_le (by simp)
         rw [this]
         simp only [↓aX,mX,reduceCtorEq,Nat.reduceEqDiff,Nat.reduceLT,Nat.reduceLeDiff,Nat.reduceAdd,Nat.reduceMul,Int.reduceToNat,Int.reduceLE,Int.reduceLT]
         rfl
end Go.Am

/- THE ABSTRACT MACHINE, part 35: an empty slice in a cell, owned. -/
namespace Go.Am
open Go Go.RowKit
theorem mem_lbss {p : Lb} : ∀ {ds : List AV},p ∈ lbss ds → ∃ y ∈ ds,p ∈ y.lbs
 | [],h => by simp [lbss] at h
 | y :: r,h => by
   simp only [lbss,List.mem_append] at h
   rcases h with h | h
   · exact ⟨y,by simp,h⟩
   · obtain ⟨z,hz,hp⟩ := mem_lbss h
     exact ⟨z,by simp [hz],hp⟩
theorem weaker_ownc {S : St} {env : Env} {H : Hp} {q : Lb} {cs : List AV} {j d sz : Nat} (g1 : H q = .live ⟨cs.length,[cs]⟩) (g2 : cs[j]? = some .nil0) (g3 : H (.loc d) = .unused) (g4 : 0 < sz) :
   Weaker S env H env (upd (upd H (.loc d) (.live ⟨sz,[]⟩)) q (.live ⟨cs.length,[cs.set j (.sl (.loc d) sz 0 0)]⟩)) := by
 intro K β a w hKS hS hr
 have hk := hr.addRow (.loc d) g3 (r := ⟨sz,[]⟩) (Below.refl _ _) none (by simp) (by simp) ⟨g4,by simp,by simp⟩
 have hqd : q ≠ .loc d := by rintro rfl; rw [g1] at g3; cases g3
 have hq : upd H (.loc d) (.live ⟨sz,[]⟩) q = .live ⟨cs.length,[cs]⟩ := by rw [upd_ne _ _ hqd]; exact g1
 have hsz : 0 < cs.length := (hr.rows q _ g1).1
 have hbq : upd β (.loc d) none q = β q := upd_ne _ _ hqd
 cases hb : β q with
 | none =>
   have := (hr.rows q _ g1).2.2
   simp [hb] at this
 | some g =>
   obtain ⟨cur,e0,cap,k1,k2,k3,k4,k5⟩ := (hk.rows q _ hq).block (hbq.trans hb)
   have hjl : j < cs.length := (List.getElem?_eq_some_iff.1 g2).1
   have hset := hk.setRow q (r' := ⟨cs.length,[cs.set j (.sl (.loc d) sz 0 0)]⟩) (cur' := cur) (cap := cap) hq (hbq.trans hb) k1 rfl rfl k2 k3 (by simpa using k4) (by simp)
     (by
       intro ds hds p hp
       simp at hds; subst hds
       obtain ⟨y,hy,hpy⟩ := mem_lbss hp
       rcases List.mem_or_eq_of_mem_set hy with hy | rfl
       · obtain ⟨m,hm⟩ := List.getElem?_of_mem hy
         exact hk.rment q _ hq cs (by simp) p (lbss_get _ _ _ hm p hpy)
       · simp only [AV.lbs,List.mem_singleton] at hpy
         subst hpy; simp)
     (by
       intro i' j' ds x0 hi' hj'
       cases i' with
       | succ i' => simp at hi'
       | zero =>
         simp at hi'; subst hi'
         by_cases e : j' = j
         · subst e
           rw [List.getElem?_set_self hjl] at hj'
           cases hj'
           obtain ⟨v,q1,q2⟩ := k5 0 j' cs _ (by simp) g2
           simp only [RV] at q2
           obtain ⟨ad,rfl⟩ := q2
           refine ⟨_,q1,?_⟩
           simp only [RV]
           exact ⟨ad,0,rfl,Nat.le_refl _,by simp [maxLen],by simp,fun _ => .inl rfl⟩
         · rw [List.getElem?_set_ne (Ne.symm e)] at hj'
           exact k5 0 j' cs x0 (by simp) hj')
   have hsame : w.setRow g cur = w := setRow_self w g cur e0 (0,0) k1
   rw [hsame] at hset
   exact ⟨_,hset⟩
section
variable {env : Env} {H : Hp}
theorem retm2_r (m : Option Nat) (t u : Nat) (R : AV → Hp → Prop) : RetP [(some m,t),(none,u)] R .ret env H = stK (loadV m (env t) H) (fun x => R (.tup [x,env u]) H) .mk := by
 simp only [RetP,resVs,resV,stK]
 cases loadV m (env t) H <;> simp [oneV]
end
end Go.Am

/- Trees, level by level; how a document is made by a stack. -/
namespace Go.Am
open Go Go.RowKit
def kidsOf (j : Int) (ps : List (Nat × Int)) : List Int := (ps.filter fun x => x.2 == j).map fun x => (x.1 : Int)
def fill (ps : List (Nat × Int)) : Nat → List Node → List Node
 | _,[] => []
 | j,x :: r => { x with kids := x.kids ++ kidsOf j ps } :: fill ps (j + 1) r
end Go.Am

/- Documents, by who has which parent. -/
namespace Go.Am
open Go Go.RowKit
def parPos (m : Int) : Nat → List Node → List Nat
 | _,[] => []
 | j,x :: r => (if x.parent = m then [j] else []) ++ parPos m (j + 1) r
theorem parPos_app (m : Int) : ∀ (j : Nat) (a b : List Node),parPos m j (a ++ b) = parPos m j a ++ parPos m (j + a.length) b
 | j,[],b => by simp [parPos]
 | j,x :: a,b => by simp only [List.cons_append,parPos,parPos_app m (j + 1) a b,List.length_cons,List.append_assoc,Nat.add_comm 1,Nat.add_assoc]
theorem parPos_mem (m : Int) : ∀ (j : Nat) (a : List Node) (k : Nat),k ∈ parPos m j a ↔ j ≤ k ∧ ∃ x,a[k - j]? = some x ∧ x.parent = m
 | j,[],k => by simp [parPos]
 | j,x :: a,k => by
   simp only [parPos,List.mem_append,parPos_mem m (j + 1) a k]
   constructor
   · rintro (h | ⟨h1,y,h2,h3⟩)
     · split at h
       · rename_i hp; simp only [List.mem_singleton] at h; subst h; exact ⟨Nat.le_refl _,x,by simp,hp⟩
       · simp at h
     · exact ⟨by omega,y,by rw [show k - j = (k - (j + 1)) + 1 by omega]; simpa using h2,h3⟩
   · rintro ⟨h1,y,h2,h3⟩
     by_cases e : k = j
     · subst e
       simp only [Nat.sub_self,List.getElem?_cons_zero,Option.some.injEq] at h2
       subst h2
       left; rw [if_pos h3]; simp
     · right
       rw [show k - j = (k - (j + 1)) + 1 by omega,List.getElem?_cons_succ] at h2
       exact ⟨by omega,y,h2,h3⟩
mutual
theorem Tree.par_out (off : Nat) (p m : Int) : ∀ x : Tree,(m < off ∨ (off + x.cnt : Nat) ≤ m) → parPos m off (x.flat off p) = if p = m then [off] else []
 | .mk t s as ks,h => by
   simp only [Tree.flat,parPos]
   simp only [Tree.cnt] at h
   rw [pars_out (off + 1) off m ks (by omega) (by omega)]; simp
theorem pars_out (off p : Nat) (m : Int) : ∀ xs : List Tree,(m < off ∨ (off + cntT xs : Nat) ≤ m) → (p : Int) ≠ m → parPos m off (flats off p xs) = []
 | [],_,_ => rfl
 | k :: r,h,hp => by
   simp only [cntT] at h
   simp only [flats,parPos_app,k.flat_len]
   rw [k.par_out off p m (by omega),pars_out (off + k.cnt) p m r (by omega) hp,if_neg hp]; rfl
end
def kidsN (off : Nat) : List Tree → List Nat
 | [] => []
 | k :: r => off :: kidsN (off + k.cnt) r
theorem kidsN_int : ∀ (off : Nat) (xs : List Tree),(kidsN off xs).map (fun k : Nat => (k : Int)) = kidsAt off xs
 | _,[] => rfl
 | off,k :: r => by simp [kidsN,kidsAt,kidsN_int _ r]
theorem pars_kids (off p : Nat) : ∀ xs : List Tree,p < off → parPos p off (flats off p xs) = kidsN off xs
 | [],_ => rfl
 | k :: r,h => by
   simp only [flats,parPos_app,k.flat_len,kidsN]
   rw [k.par_out off p p (by omega),pars_kids (off + k.cnt) p r (by omega)]; simp
theorem Sub.pars {off : Nat} {p : Int} {t : Tree} {n : Nat} {q : Int} {y : Tree} (h : Sub off p t n q y) : p < off → parPos n off (t.flat off p) = kidsN (n + 1) y.kids := by
 induction h with
 | self off p t =>
   intro hp
   rw [t.flat_eq]
   simp only [parPos]
   rw [if_neg (show ¬ (t.node off p).parent = (off : Int) by show ¬ p = (off : Int); omega),pars_kids (off + 1) off t.kids (by omega)]; rfl
 | @kid off p t n q y a b k hk hs ih =>
   intro hp
   have hr := hs.rng
   have h1 := t.cnt_eq
   rw [hk,cntT_app] at h1
   simp only [cntT] at h1
   have hy := y.cnt_pos
   rw [t.flat_eq,hk,flats_app]
   simp only [parPos,parPos_app,flats_len,flats,k.flat_len]
   rw [if_neg (show ¬ (t.node off p).parent = (n : Int) by show ¬ p = (n : Int); omega),pars_out (off + 1) off n a (by omega) (by omega),ih (by omega),pars_out (off + 1 + cntT a + k.cnt) off n b (by omega) (by omega)]; simp
theorem doc_pars {t : Tree} {n : Nat} {q : Int} {y : Tree} (h : Sub 0 (-1) t n q y) : parPos n 0 (docOf t) = kidsN (n + 1) y.kids := h.pars (by omega)
def treeOfN (d : Doc) : Nat → Nat → Tree
 | 0,_ => .mk false [] [] []
 | f + 1,n => match d[n]? with
   | some x => .mk x.text x.s x.attrs ((parPos n (n + 1) (d.drop (n + 1))).map (treeOfN d f))
   | none => .mk false [] [] []
theorem parPos_drop {d : Doc} {m : Int} {n : Nat} (h : ∀ k ∈ parPos m 0 d,n ≤ k) (hn : n ≤ d.length) : parPos m n (d.drop n) = parPos m 0 d := by
 have e : d = d.take n ++ d.drop n := (List.take_append_drop n d).symm
 have h2 : parPos m 0 d = parPos m 0 (d.take n) ++ parPos m n (d.drop n) := by
   conv => lhs; rw [e]
   rw [parPos_app,List.length_take,Nat.min_eq_left hn,Nat.zero_add]
 have h3 : parPos m 0 (d.take n) = [] := by
   apply List.eq_nil_iff_forall_not_mem.2
   intro k hk
   have := h k (by rw [h2]; simp [hk])
   obtain ⟨_,x,hx,_⟩ := (parPos_mem m 0 _ k).1 hk
   have := (List.getElem?_eq_some_iff.1 hx).1
   simp at this; omega
 rw [h2,h3]; rfl
theorem kidsN_ge : ∀ (off : Nat) (xs : List Tree),∀ k ∈ kidsN off xs,off ≤ k
 | _,[],k,h => by simp [kidsN] at h
 | off,x :: r,k,h => by
   simp only [kidsN,List.mem_cons] at h
   rcases h with rfl | h
   · exact Nat.le_refl _
   · have := kidsN_ge _ r k h; omega
theorem treeOfN_sub {t : Tree} : ∀ (f : Nat) (n : Nat) (q : Int) (y : Tree),Sub 0 (-1) t n q y → y.dep ≤ f → treeOfN (docOf t) f n = y := by
 intro f
 induction f with
 | zero => intro n q y _ h; rw [y.dep_eq] at h; omega
 | succ f ih =>
   intro n q y hs hd
   have hl := hs.lies (docOf t) ⟨[],by simp [docOf]⟩
   have hnode := hl.node
   have hlen := hl.len
   have hp := doc_pars hs
   have hy := y.cnt_pos
   unfold treeOfN
   rw [hnode]
   simp only [Tree.node]
   rw [parPos_drop (by rw [hp]; exact kidsN_ge _ _) (by omega),hp]
   have kids : ∀ (b a : List Tree),y.kids = a ++ b → (kidsN (n + 1 + cntT a) b).map (treeOfN (docOf t) f) = b := by
     intro b
     induction b with
     | nil => intro a _; rfl
     | cons k b ihb =>
       intro a hk
       simp only [kidsN,List.map_cons]
       have hdk : k.dep ≤ f := by
         have h1 := y.dep_eq
         rw [hk,depT_app] at h1
         simp only [depT] at h1
         omega
       rw [ih _ n k (hs.trans (.kid a b k hk (.self _ _ _))) hdk]
       have := ihb (a ++ [k]) (by rw [hk]; simp)
       rw [cntT_app] at this
       simp only [cntT,Nat.add_zero] at this
       rw [show n + 1 + cntT a + k.cnt = n + 1 + (cntT a + k.cnt) by omega,this]
   have := kids y.kids [] rfl
   simp only [cntT,Nat.add_zero] at this
   rw [this]
   cases y; rfl
end Go.Am
