import Derived.Test.YtfinkeaikbmpgaaKAm33
import Derived.Laws.Externs
set_option linter.unusedSimpArgs false
set_option linter.unusedVariables false
set_option linter.unnecessarySimpa false
set_option linter.defProp false
/- THE ABSTRACT MACHINE, part 40: functions that are handed a row of data by a slice. -/
namespace Go.Am
open Go Go.RowKit
def rowX (sz : Nat) (xs : List IV) : Hp := upd Hp.none (.par 0) (.live ⟨sz,immE xs⟩)
def RowC (P : Program) (G : Nat → Option (List IV)) (f : Nat) (args : List AV) (sz : Nat) (xs : List IV) (R : AV → List IV → Prop) : Prop :=
 (∀ l ∈ lbss args,l = .par 0) ∧ SpecC P G f args (rowX sz xs) fun x H' => ∃ xs',R x xs' ∧ x.lbs = [] ∧ xs'.length = xs.length ∧ H' (.par 0) = .live ⟨sz,immE xs'⟩
theorem RowC.mono {P : Program} {G : Nat → Option (List IV)} {f : Nat} {args : List AV} {sz : Nat} {xs : List IV} {R R' : AV → List IV → Prop} (h : RowC P G f args sz xs R) (hq : ∀ x c,R x c → R' x c) : RowC P G f args sz xs R' :=
 ⟨h.1,h.2.mono fun x H ⟨c,h1,h2⟩ => ⟨c,hq _ _ h1,h2⟩⟩
end Go.Am

/- THE ABSTRACT MACHINE, part 41: functions that are handed a slice that grows, and hand it back. -/
namespace Go.Am
open Go Go.RowKit
theorem SpecC.keepX {P : Program} {G : Nat → Option (List IV)} {f : Nat} {args : List AV} {H : Hp} {Q : AV → Hp → Prop} (h : SpecC P G f args H Q) (kp : AV → Lb → Prop) :
   SpecC P G f args H fun x H' => ∃ H1,Q x H1 ∧ H' = killE (kp x) H1 := by
 intro w A β vs hr hv
 refine (h w A β vs hr hv).mono ?_
 rintro e w' ⟨v,x,H1,β',rfl,hq,hr',hx,hm⟩
 exact ⟨v,x,killE (kp x) H1,β',rfl,⟨H1,hq,rfl⟩,hr'.killE _,hx.killE _,fun l hl => by rw [Ne,killE_unused]; exact hm l hl⟩
def GrwC (P : Program) (G : Nat → Option (List IV)) (sz f : Nat) (args : List AV) (xs ys : List IV) : Prop :=
 (∀ l ∈ lbss args,l = .par 0) ∧ SpecC P G f args (rowX sz xs) fun x H' => ∃ L,x = .sl L sz 0 ys.length ∧ H' L = .live ⟨sz,immE ys⟩
theorem callT_grw {S : St} {f : Nat} {args cargs : List AV} {sz : Nat} {xs ys : List IV} {H : Hp} {k : AV → Hp → Prop} {u : Tw k} {l N : Lb} (h : GrwC S.P S.G sz f cargs xs ys)
   (ha : args = rens (atL l) cargs) (hl : H l = .live ⟨sz,immE xs⟩) (hN : H N = .unused) (hNf : N.fresh = true → l.fresh = true)
   (hk1 : k (.sl N sz 0 ys.length) (upd (upd H l .dead) N (.live ⟨sz,immE ys⟩))) (hk2 : k (.sl l sz 0 ys.length) (upd (upd H l .dead) l (.live ⟨sz,immE ys⟩))) : clK S f args H k u := by
 obtain ⟨h1,h3⟩ := h
 have hlive : ∀ q r,rowX sz xs q = .live r → q = .par 0 ∧ r = ⟨sz,immE xs⟩ := by
   intro q r h
   by_cases e : q = .par 0
   · subst e; simp [rowX] at h; exact ⟨rfl,h.symm⟩
   · rw [rowX,upd_ne _ _ e] at h; simp [Hp.none] at h
 have hHl : H l ≠ .unused := by rw [hl]; simp
 have hNl : N ≠ l := by rintro rfl; exact hHl hN
 refine .inr <| .inr ⟨⟨atL l,rowX sz xs,cargs,_,h3.keepX (fun x q => q ∈ x.lbs),ha,?_,?_,?_,?_,?_,?_,?_⟩⟩
 · intro q r h
   obtain ⟨rfl,rfl⟩ := hlive q r h
   rw [renR_immE]
   simp only [atL,if_true,hl]
 · intro q hq
   by_cases e : q = .par 0
   · subst e; exact ⟨_,by simp [rowX]; rfl⟩
   · rw [rowX,upd_ne _ _ e] at hq; simp [Hp.none] at hq
 · rintro q q' ⟨r,h⟩ ⟨r',h'⟩ _
   rw [(hlive q r h).1,(hlive q' r' h').1]
 · intro q hq
   rw [h1 q hq]; simp [rowX]
 · rintro q ⟨r,h⟩
   rw [(hlive q r h).1]; rfl
 · intro q r h c hc z hz
   obtain ⟨rfl,rfl⟩ := hlive q r h
   rw [lbss_immE hc] at hz; simp at hz
 · rintro x H' ⟨H1,⟨L,rfl,e5⟩,rfl⟩
   obtain ⟨L1,hL1⟩ : ∃ L1,L1 = (if L = .par 0 then l else N) := ⟨_,rfl⟩
   have hmem : ∀ q,q ∈ (AV.sl L sz 0 ys.length).lbs ↔ q = L := fun q => by simp [AV.lbs]
   have hH : ∀ q r,killE (fun q => q ∈ (AV.sl L sz 0 ys.length).lbs) H1 q = .live r → q = L ∧ r = ⟨sz,immE ys⟩ := by
     intro q r h
     obtain ⟨g1,g2⟩ := killE_live.1 h
     rw [hmem] at g2
     subst g2
     rw [e5] at g1; cases g1; exact ⟨rfl,rfl⟩
   have hH0 : killE (fun q => q ∈ (AV.sl L sz 0 ys.length).lbs) H1 L = .live ⟨sz,immE ys⟩ := killE_live.2 ⟨e5,(hmem L).2 rfl⟩
   have hρ : (fun q => if q = L then L1 else q) L = L1 := by simp
   have hused : ∀ q,H q ≠ .unused → upd (upd H l .dead) L1 (.live ⟨sz,immE ys⟩) q ≠ .unused := by
     intro q hq
     by_cases e : q = L1
     · subst e; simp
     · rw [upd_ne _ _ e]
       by_cases e2 : q = l
       · subst e2; simp
       · rw [upd_ne _ _ e2]; exact hq
   refine ⟨fun q => if q = L then L1 else q,upd (upd H l .dead) L1 (.live ⟨sz,immE ys⟩),?_,?_,?_,hused,?_,?_,?_,?_,?_⟩
   · rintro q ⟨r,g1⟩ ⟨r',g2⟩
     have e1 := (hlive q r g1).1
     have e2 := (hH q r' g2).1
     subst e1
     subst e2
     simp only [if_true,hL1,atL]
   · intro q r h
     by_cases e : q = L1
     · subst e
       simp at h
       refine .inr ⟨L,_,hH0,by simp,?_⟩
       rw [← h,renR_immE]
     · rw [upd_ne _ _ e] at h
       by_cases e2 : q = l
       · subst e2; simp at h
       · rw [upd_ne _ _ e2] at h
         refine .inl ⟨h,?_⟩
         rintro z ⟨r',hz⟩
         rw [(hlive z r' hz).1]
         simp only [atL,if_true]
         exact Ne.symm e2
   · rintro q q' ⟨r,h⟩ ⟨r',h'⟩ _
     rw [(hH q r h).1,(hH q' r' h').1]
   · intro q hq
     rw [hmem] at hq; subst hq
     simp
   · intro q r h c hc z hz
     obtain ⟨rfl,rfl⟩ := hH q r h
     rw [lbss_immE hc] at hz; simp at hz
   · rintro q ⟨r,h⟩
     obtain ⟨rfl,rfl⟩ := hH q r h
     by_cases e : q = .par 0
     · subst e; exact .inl ⟨_,by simp [rowX]; rfl⟩
     · right
       simp only [if_true,hL1,if_neg e]
       refine ⟨hN,fun hf => .inr ?_⟩
       rintro z ⟨r',hz⟩
       rw [(hlive z r' hz).1]
       simp only [atL,if_true]
       exact hNf hf
   · rintro q (hq | ⟨l1,r1,c,g1,g2,g3⟩) _
     · rw [hmem] at hq; subst hq; exact ⟨_,hH0⟩
     · obtain ⟨rfl,rfl⟩ := hH l1 r1 g1
       rw [lbss_immE g2] at g3; simp at g3
   · simp only [ren,if_true]
     rw [hL1]
     split
     · exact hk2
     · exact hk1
theorem far_grw {S : St} {F : List Lb} {sz f : Nat} {args cargs : List AV} {xs ys : List IV} {H : Hp} {k : AV → Hp → Prop} {u : Tw k} {l N : Lb} (h : GrwC S.P S.G sz f cargs xs ys)
   (ha : args = rens (atL l) cargs) (hl : H l = .live ⟨sz,immE xs⟩) (hN : H N = .unused) (hNf : N.fresh = true → l.fresh = true) (h1 : l.fam ∉ F) (h2 : N.fam ∉ F)
   (hk1 : k (.sl N sz 0 ys.length) (upd (upd H l .dead) N (.live ⟨sz,immE ys⟩))) (hk2 : k (.sl l sz 0 ys.length) (upd (upd H l .dead) l (.live ⟨sz,immE ys⟩))) : farK S F f args H k u := by
 refine ⟨fun x H' => (x = .sl N sz 0 ys.length ∧ H' = upd (upd H l .dead) N (.live ⟨sz,immE ys⟩)) ∨ (x = .sl l sz 0 ys.length ∧ H' = upd (upd H l .dead) l (.live ⟨sz,immE ys⟩)),?_,⟨_,_,.inl ⟨rfl,rfl⟩⟩,?_⟩
 · exact callT_grw (k := fun x H' => (x = .sl N sz 0 ys.length ∧ H' = upd (upd H l .dead) N (.live ⟨sz,immE ys⟩)) ∨ (x = .sl l sz 0 ys.length ∧ H' = upd (upd H l .dead) l (.live ⟨sz,immE ys⟩))) (u := .mk) h ha hl hN hNf (.inl ⟨rfl,rfl⟩) (.inr ⟨rfl,rfl⟩)
 · have key : ∀ q : Lb,q.fam ∈ F → q ≠ l ∧ q ≠ N := fun q hq => ⟨fun e => h1 (e ▸ hq),fun e => h2 (e ▸ hq)⟩
   rintro x H' (⟨rfl,rfl⟩ | ⟨rfl,rfl⟩)
   · refine ⟨fun q hq => ?_,hk1⟩
     obtain ⟨e1,e2⟩ := key q hq
     rw [upd_ne _ _ e2,upd_ne _ _ e1]
   · refine ⟨fun q hq => ?_,hk2⟩
     obtain ⟨e1,e2⟩ := key q hq
     rw [upd_ne _ _ e1,upd_ne _ _ e1]
end Go.Am

/- THE ABSTRACT MACHINE, part 42: loops in which a row that was handed in grows: only what was handed in keeps its name. -/
namespace Go.Am
open Go Go.RowKit
structure WE (ls : List Lb) (u : Lb → Bool) (ps : List (Nat × AV)) (rs : List (Lb × Row)) (env : Env) (H : Hp) (m : List (Lb × Lb)) : Prop where
 nf : ∀ l : Lb,l.entry = true → H l ≠ .unused → l ∈ ls ∨ u l = true
 e : EqL (rnF m) env ps
 r : RwL (rnF m) H rs
 inj : (ls.map (rnF m)).Nodup
 fr : ∀ l ∈ ls,(l.fresh = true → (rnF m l).fresh = true) ∧ (l.entry = true → rnF m l = l)
theorem WE.wk {ls : List Lb} {u : Lb → Bool} {ps : List (Nat × AV)} {rs : List (Lb × Row)} {env : Env} {H : Hp} {m : List (Lb × Lb)} (h : WE ls u ps rs env H m) (hls : rs.map Prod.fst = ls) (hp : ∀ l ∈ lbss (ps.map Prod.snd),l ∈ ls)
   (hr : ∀ q ∈ rs,∀ cs ∈ q.2.els,∀ l ∈ lbss cs,l ∈ ls) : Wk (rnF m) env H (ofL ps) (ofU u rs) := by
 have hlv : ∀ l,live (ofU u rs) l → l ∈ ls := fun l ⟨r,h⟩ => by rw [← hls]; exact List.mem_map.2 ⟨_,ofH_live (ofU_live.1 h),rfl⟩
 refine ⟨h.e.we,fun l r hl => RwL_mem h.r (ofH_live (ofU_live.1 hl)),fun l l' h1 h2 e => nodup_map_inj h.inj l (hlv l h1) l' (hlv l' h2) e,ofL_wm fun l hl => ofU_used (.inl (by rw [hls]; exact hp l hl)),fun l r hl cs hcs q hq => ?_,
   fun l hf => ⟨fun hu => ?_,fun hl => (h.fr l (hlv l hl)).2 hf⟩,fun l hl hf => (h.fr l (hlv l hl)).1 hf⟩
 · exact ofU_used (.inl (by rw [hls]; exact hr _ (ofH_live (ofU_live.1 hl)) cs hcs q hq))
 · exact ofU_used (by rw [hls]; exact h.nf l hf hu)
end Go.Am

/- THE ABSTRACT MACHINE, part 43: functions that are handed rows of any shape, and hand rows back. -/
namespace Go.Am
open Go Go.RowKit
structure Shp where
 row : (Nat → Lb) → Nat → Option Row
 nat : ∀ (lab : Nat → Lb) (ρ : Lb → Lb) (p : Nat),row (fun i => ρ (lab i)) p = (row lab p).map (renR ρ)
 lbs : ∀ (lab : Nat → Lb) (p : Nat) (r : Row),row lab p = some r → ∀ cs ∈ r.els,∀ q ∈ lbss cs,∃ p',(row lab p').isSome = true ∧ q = lab p'
def Shp.ok (R : Shp) (p : Nat) : Prop := (R.row Lb.par p).isSome = true
theorem Shp.ok_iff (R : Shp) (lab : Nat → Lb) (p : Nat) : (R.row lab p).isSome = true ↔ R.ok p := by
 have h := R.nat Lb.par (fun q => match q with | .par i => lab i | q => q) p
 simp only at h
 unfold Shp.ok
 rw [show R.row lab p = _ from h]
 simp
structure ShAt (lab : Nat → Lb) (R : Shp) (H : Hp) : Prop where
 row : ∀ p r,R.row lab p = some r → H (lab p) = .live r
 inj : ∀ p q,R.ok p → R.ok q → lab p = lab q → p = q
theorem ShAt.live {lab : Nat → Lb} {R : Shp} {H : Hp} (h : ShAt lab R H) {p : Nat} (hp : R.ok p) : Am.live H (lab p) := by
 obtain ⟨r,hr⟩ := Option.isSome_iff_exists.1 ((R.ok_iff lab p).2 hp)
 exact ⟨r,h.row p r hr⟩
open Classical in
noncomputable def shH (lab : Nat → Lb) (R : Shp) (H : Hp) : Hp := fun q =>
 if h : ∃ p,R.ok p ∧ lab p = q then (match R.row lab (Classical.choose h) with | some r => .live r | none => .dead) else H q
theorem shH_at {lab : Nat → Lb} {R : Shp} (hi : ∀ p q,R.ok p → R.ok q → lab p = lab q → p = q) (H : Hp) {p : Nat} {r : Row} (hp : R.row lab p = some r) : shH lab R H (lab p) = .live r := by
 have hok : R.ok p := (R.ok_iff lab p).1 (by rw [hp]; rfl)
 have h : ∃ p',R.ok p' ∧ lab p' = lab p := ⟨p,hok,rfl⟩
 have hc := Classical.choose_spec h
 have e : Classical.choose h = p := hi _ _ hc.1 hok hc.2
 unfold shH
 rw [dif_pos h,e,hp]
theorem shH_ne {lab : Nat → Lb} {R : Shp} (H : Hp) {q : Lb} (h : ∀ p,R.ok p → lab p ≠ q) : shH lab R H q = H q := by
 unfold shH
 rw [dif_neg (by rintro ⟨p,h1,h2⟩; exact h p h1 h2)]
theorem shH_live {lab : Nat → Lb} {R : Shp} (hi : ∀ p q,R.ok p → R.ok q → lab p = lab q → p = q) {H : Hp} {q : Lb} {r : Row} (h : shH lab R H q = .live r) :
   (∃ p,R.ok p ∧ lab p = q ∧ R.row lab p = some r) ∨ ((∀ p,R.ok p → lab p ≠ q) ∧ H q = .live r) := by
 by_cases e : ∃ p,R.ok p ∧ lab p = q
 · obtain ⟨p,h1,rfl⟩ := e
   obtain ⟨r',hr⟩ := Option.isSome_iff_exists.1 ((R.ok_iff lab p).2 h1)
   rw [shH_at hi H hr] at h
   cases h
   exact .inl ⟨p,h1,rfl,hr⟩
 · have e' : ∀ p,R.ok p → lab p ≠ q := fun p h1 h2 => e ⟨p,h1,h2⟩
   rw [shH_ne H e'] at h
   exact .inr ⟨e',h⟩
theorem ShAt.of_shH {lab : Nat → Lb} {R : Shp} (hi : ∀ p q,R.ok p → R.ok q → lab p = lab q → p = q) (H : Hp) : ShAt lab R (shH lab R H) := ⟨fun _ _ hp => shH_at hi H hp,hi⟩
theorem par_inj : ∀ p q : Nat,Lb.par p = Lb.par q → p = q := fun p q h => by cases h; rfl
noncomputable def inS (R : Shp) : Hp := shH Lb.par R Hp.none
theorem inS_at (R : Shp) : ShAt Lb.par R (inS R) := .of_shH (fun p q _ _ h => par_inj p q h) _
theorem inS_live {R : Shp} {q : Lb} {r : Row} (h : inS R q = .live r) : ∃ p,R.ok p ∧ Lb.par p = q ∧ R.row Lb.par p = some r := by
 rcases shH_live (fun p q _ _ h => par_inj p q h) h with h | ⟨_,h⟩
 · exact h
 · simp [Hp.none] at h
theorem inS_used {R : Shp} {q : Lb} (h : inS R q ≠ .unused) : ∃ p,R.ok p ∧ q = .par p := by
 by_cases e : ∃ p,R.ok p ∧ Lb.par p = q
 · obtain ⟨p,h1,h2⟩ := e; exact ⟨p,h1,h2.symm⟩
 · refine absurd ?_ h
   unfold inS
   rw [shH_ne Hp.none fun p h1 h2 => e ⟨p,h1,h2⟩]; rfl
theorem SpecC.keepT {T : Type} {P : Program} {G : Nat → Option (List IV)} {f : Nat} {args : List AV} {H : Hp} {Q : T → AV → Hp → Prop} (h : SpecC P G f args H fun x H' => ∃ t,Q t x H') (kp : T → Lb → Prop) :
   SpecC P G f args H fun x H' => ∃ t H1,Q t x H1 ∧ H' = killE (kp t) H1 := by
 intro w A β vs hr hv
 refine (h w A β vs hr hv).mono ?_
 rintro e w' ⟨v,x,H1,β',rfl,⟨t,hq⟩,hr',hx,hm⟩
 exact ⟨v,x,killE (kp t) H1,β',rfl,⟨t,H1,hq,rfl⟩,hr'.killE _,hx.killE _,fun l hl => by rw [Ne,killE_unused]; exact hm l hl⟩
def ShC (P : Program) (G : Nat → Option (List IV)) (f : Nat) (args : List AV) (R : Shp) (fx : List Nat) (Q : ((Nat → Lb) → AV) → Shp → Prop) : Prop :=
 (∀ l ∈ lbss args,∃ p,R.ok p ∧ l = .par p) ∧ SpecC P G f args (inS R) fun x H' => ∃ t : ((Nat → Lb) → AV) × Shp × (Nat → Lb),
   Q t.1 t.2.1 ∧ (∀ ρ,ren ρ (t.1 t.2.2) = t.1 fun i => ρ (t.2.2 i)) ∧ (∀ l ∈ x.lbs,∃ p,t.2.1.ok p ∧ l = t.2.2 p) ∧ x = t.1 t.2.2 ∧ ShAt t.2.2 t.2.1 H' ∧ ∀ p ∈ fx,t.2.2 p = .par p
def inR (lab : Nat → Lb) : Lb → Lb := fun q => match q with
 | .par i => lab i
 | q => q
open Classical in
theorem callT_sh {S : St} {f : Nat} {args cargs : List AV} {R : Shp} {fx : List Nat} {Q : ((Nat → Lb) → AV) → Shp → Prop} {H : Hp} {k : AV → Hp → Prop} {u : Tw k} {lab : Nat → Lb} (N : Lb → Lb) (h : ShC S.P S.G f cargs R fx Q)
   (ha : args = rens (inR lab) cargs) (hl : ShAt lab R H) (hN : ∀ l,H (N l) = .unused) (hNi : ∀ l l',N l = N l' → l = l') (hNf : ∀ l,(N l).fresh = true → l.fresh = true ∨ ∀ p,R.ok p → (lab p).fresh = true) (hfx : ∀ p ∈ fx,R.ok p)
   (hk : ∀ X R2 lab2 H2,Q X R2 → ShAt lab2 R2 H2 → (∀ p ∈ fx,lab2 p = lab p) → (∀ p,R2.ok p → (∃ p0,R.ok p0 ∧ lab2 p = lab p0) ∨ ∃ l,lab2 p = N l) →
     (∀ q,(∀ p,R.ok p → q ≠ lab p) → (∀ l,q ≠ N l) → H2 q = H q) → (∀ q,H q ≠ .unused → H2 q ≠ .unused) → (∀ l,(∀ p,R2.ok p → lab2 p ≠ N l) → H2 (N l) = .unused) → k (X lab2) H2) : clK S f args H k u := by
 obtain ⟨h1,h3⟩ := h
 refine .inr <| .inr ⟨⟨inR lab,inS R,cargs,_,h3.keepT (fun t q => ∃ p,t.2.1.ok p ∧ t.2.2 p = q),ha,?_,?_,?_,?_,?_,?_,?_⟩⟩
 · intro q r hq
   obtain ⟨p,h4,rfl,h5⟩ := inS_live hq
   refine hl.row p _ ?_
   have := R.nat Lb.par (inR lab) p
   simp only [inR] at this
   rw [show R.row lab p = _ from this,h5]; rfl
 · intro q hq
   obtain ⟨p,h4,rfl⟩ := inS_used hq
   exact (inS_at R).live h4
 · rintro q q' ⟨r,hq⟩ ⟨r',hq'⟩ e
   obtain ⟨p,h4,rfl,_⟩ := inS_live hq
   obtain ⟨p',h4',rfl,_⟩ := inS_live hq'
   rw [hl.inj p p' h4 h4' e]
 · intro q hq
   obtain ⟨p,h4,rfl⟩ := h1 q hq
   obtain ⟨r,hr⟩ := (inS_at R).live h4
   rw [hr]; simp
 · rintro q ⟨r,hq⟩
   obtain ⟨p,_,rfl,_⟩ := inS_live hq
   rfl
 · intro q r hq cs hcs z hz
   obtain ⟨p,h4,rfl,h5⟩ := inS_live hq
   obtain ⟨p',h6,rfl⟩ := R.lbs Lb.par p r h5 cs hcs z hz
   obtain ⟨r',hr⟩ := (inS_at R).live ((R.ok_iff _ _).1 h6)
   rw [hr]; simp
 · rintro x H' ⟨⟨X,R2,lab1⟩,H1,⟨e1,e2,e3,rfl,e5,e6⟩,rfl⟩
   simp only at e1 e2 e3 e5 e6 ⊢
   have hH : ∀ q,Am.live (killE (fun q => ∃ p,R2.ok p ∧ lab1 p = q) H1) q → ∃ p,R2.ok p ∧ lab1 p = q := by
     rintro q ⟨r,hq⟩
     exact (killE_live.1 hq).2
   have hH0 : ∀ p r,R2.row lab1 p = some r → killE (fun q => ∃ p,R2.ok p ∧ lab1 p = q) H1 (lab1 p) = .live r := fun p r hp =>
     killE_live.2 ⟨e5.row p r hp,p,(R2.ok_iff lab1 p).1 (by rw [hp]; rfl),rfl⟩
   obtain ⟨ρ',hρ⟩ : ∃ ρ' : Lb → Lb,ρ' = fun q => if Am.live (inS R) q then inR lab q else N q := ⟨_,rfl⟩
   have hin : ∀ q,Am.live (inS R) q → ∃ p,R.ok p ∧ q = .par p := by
     rintro q ⟨r,hq⟩
     obtain ⟨p,h4,rfl,_⟩ := inS_live hq
     exact ⟨p,h4,rfl⟩
   have hρin : ∀ p,R.ok p → ρ' (.par p) = lab p := fun p hp => by rw [hρ]; simp only [(inS_at R).live hp,if_true,inR]
   have hρcase : ∀ q,(∃ p,R.ok p ∧ q = .par p ∧ ρ' q = lab p) ∨ (¬ Am.live (inS R) q ∧ ρ' q = N q) := by
     intro q
     by_cases e : Am.live (inS R) q
     · obtain ⟨p,h4,rfl⟩ := hin q e
       exact .inl ⟨p,h4,rfl,hρin p h4⟩
     · exact .inr ⟨e,by rw [hρ]; simp only [e,if_false]⟩
   have hNl : ∀ l p,R.ok p → N l ≠ lab p := fun l p hp e => by
     obtain ⟨r,hr⟩ := hl.live hp
     have := hN l
     rw [e,hr] at this; cases this
   have hρi : ∀ q q',ρ' q = ρ' q' → q = q' := by
     intro q q' e
     rcases hρcase q with ⟨p,g1,rfl,g2⟩ | ⟨g1,g2⟩
     · rcases hρcase q' with ⟨p',g1',rfl,g2'⟩ | ⟨g1',g2'⟩
       · rw [g2,g2'] at e; rw [hl.inj p p' g1 g1' e]
       · rw [g2,g2'] at e; exact absurd e.symm (hNl _ p g1)
     · rcases hρcase q' with ⟨p',g1',rfl,g2'⟩ | ⟨g1',g2'⟩
       · rw [g2,g2'] at e; exact absurd e (hNl _ p' g1')
       · rw [g2,g2'] at e; exact hNi _ _ e
   obtain ⟨lab2,hlab2⟩ : ∃ lab2 : Nat → Lb,lab2 = fun i => ρ' (lab1 i) := ⟨_,rfl⟩
   have hinj2 : ∀ p q,R2.ok p → R2.ok q → lab2 p = lab2 q → p = q := fun p q hp hq e => by
     rw [hlab2] at e
     exact e5.inj p q hp hq (hρi _ _ e)
   obtain ⟨Hd,hHd⟩ : ∃ Hd : Hp,Hd = fun q => if ∃ p,R.ok p ∧ lab p = q then Slot.dead else H q := ⟨_,rfl⟩
   have hHdN : ∀ l,Hd (N l) = .unused := fun l => by
     rw [hHd]; simp only
     rw [if_neg (by rintro ⟨p,g1,g2⟩; exact hNl l p g1 g2.symm)]; exact hN l
   have hnat2 : ∀ p r,R2.row lab1 p = some r → R2.row lab2 p = some (renR ρ' r) := fun p r hp => by
     rw [hlab2,R2.nat lab1 ρ' p,hp]; rfl
   have hused : ∀ q,Hd q ≠ .unused → shH lab2 R2 Hd q ≠ .unused := by
     intro q hq
     by_cases e : ∃ p,R2.ok p ∧ lab2 p = q
     · obtain ⟨p,g1,rfl⟩ := e
       obtain ⟨r,hr⟩ := (ShAt.of_shH hinj2 Hd).live g1
       rw [hr]; simp
     · rw [shH_ne Hd fun p g1 g2 => e ⟨p,g1,g2⟩]; exact hq
   have huse2 : ∀ q,H q ≠ .unused → Hd q ≠ .unused := by
     intro q hq
     rw [hHd]; simp only
     split
     · simp
     · exact hq
   have hliv2 : ∀ p,R2.ok p → shH lab2 R2 Hd (lab2 p) ≠ .unused := fun p hp => by
     obtain ⟨r,hr⟩ := (ShAt.of_shH hinj2 Hd).live hp
     rw [hr]; simp
   refine ⟨ρ',shH lab2 R2 Hd,?_,?_,?_,fun q hq => hused q (huse2 q hq),?_,?_,?_,?_,?_⟩
   · intro q g1 g2
     obtain ⟨p,h4,rfl⟩ := hin q g1
     rw [hρin p h4]; rfl
   · intro q r hq
     rcases shH_live hinj2 hq with ⟨p,g1,rfl,g2⟩ | ⟨g1,g2⟩
     · right
       obtain ⟨r0,hr0⟩ := Option.isSome_iff_exists.1 ((R2.ok_iff lab1 p).2 g1)
       have := hnat2 p r0 hr0
       rw [g2] at this
       simp only [Option.some.injEq] at this
       exact ⟨lab1 p,r0,hH0 p r0 hr0,by rw [hlab2],this⟩
     · left
       rw [hHd] at g2; simp only at g2
       split at g2
       · cases g2
       · rename_i hno
         refine ⟨g2,fun l hlv e => ?_⟩
         obtain ⟨p,h4,rfl⟩ := hin l hlv
         exact hno ⟨p,h4,e⟩
   · intro q q' _ _ e
     exact hρi _ _ e
   · intro q hq
     obtain ⟨p,g1,rfl⟩ := e3 q hq
     have := hliv2 p g1
     rw [hlab2] at this; rw [hlab2]; exact this
   · intro q r hq cs hcs z hz
     obtain ⟨g0,p,g1,rfl⟩ := killE_live.1 hq
     obtain ⟨r0,hr0⟩ := Option.isSome_iff_exists.1 ((R2.ok_iff lab1 p).2 g1)
     have := e5.row p r0 hr0
     rw [g0] at this; cases this
     obtain ⟨p',h6,rfl⟩ := R2.lbs lab1 p _ hr0 cs hcs z hz
     have := hliv2 p' ((R2.ok_iff lab1 p').1 h6)
     rw [hlab2] at this; rw [hlab2]; exact this
   · intro q hq
     obtain ⟨p,g1,rfl⟩ := hH q hq
     rcases hρcase (lab1 p) with ⟨p',g2,g3,g4⟩ | ⟨g2,g3⟩
     · left; rw [g3]; exact (inS_at R).live g2
     · right
       rw [g3]
       refine ⟨hN _,fun hf => ?_⟩
       rcases hNf _ hf with hf | hf
       · exact .inl hf
       · right
         intro z hz
         obtain ⟨p',h4,rfl⟩ := hin z hz
         exact hf p' h4
   · rintro q hq _
     have key : ∃ p,R2.ok p ∧ lab1 p = q := by
       rcases hq with hq | ⟨l1,r1,cs,g1,g2,g3⟩
       · obtain ⟨p,g1,rfl⟩ := e3 q hq; exact ⟨p,g1,rfl⟩
       · obtain ⟨g0,p,g4,rfl⟩ := killE_live.1 g1
         obtain ⟨r0,hr0⟩ := Option.isSome_iff_exists.1 ((R2.ok_iff lab1 p).2 g4)
         have := e5.row p r0 hr0
         rw [g0] at this; cases this
         obtain ⟨p',h6,rfl⟩ := R2.lbs lab1 p _ hr0 cs g2 q g3
         exact ⟨p',(R2.ok_iff lab1 p').1 h6,rfl⟩
     obtain ⟨p,g1,rfl⟩ := key
     obtain ⟨r0,hr0⟩ := Option.isSome_iff_exists.1 ((R2.ok_iff lab1 p).2 g1)
     exact ⟨r0,hH0 p r0 hr0⟩
   · rw [e2 ρ']
     have := hk X R2 lab2 (shH lab2 R2 Hd) e1 (.of_shH hinj2 Hd) ?_ ?_ ?_ (fun q hq => hused q (huse2 q hq)) ?_
     · rw [hlab2] at this; rw [hlab2]; exact this
     · intro p hp
       rw [hlab2]; simp only
       rw [e6 p hp]
       exact hρin p (hfx p hp)
     · intro p hp
       rw [hlab2]; simp only
       rcases hρcase (lab1 p) with ⟨p',g2,g3,g4⟩ | ⟨g2,g3⟩
       · exact .inl ⟨p',g2,g4⟩
       · exact .inr ⟨_,g3⟩
     · intro q g1 g2
       rw [shH_ne Hd,hHd]
       · simp only
         rw [if_neg (by rintro ⟨p,g3,g4⟩; exact g1 p g3 g4.symm)]
       · intro p hp e
         rw [hlab2] at e; simp only at e
         rcases hρcase (lab1 p) with ⟨p',g3,g4,g5⟩ | ⟨g3,g4⟩
         · exact g1 p' g3 (e.symm.trans g5)
         · exact g2 _ (e.symm.trans g4)
     · intro l hno
       rw [shH_ne Hd hno]; exact hHdN l
theorem sh_of_go {P : Program} {G : Nat → Option (List IV)} {f : Nat} {n : Nat} {rs : List RO} {ac : AC} {args : List AV} {R : Shp} {fx : List Nat} {Q : ((Nat → Lb) → AV) → Shp → Prop}
   (hF : compF P G f = some (n,rs,ac.bare)) (hn : args.length ≤ n) (ha : ∀ l ∈ lbss args,∃ p,R.ok p ∧ l = .par p)
   (hg : go ⟨P,G,n⟩ (RetP rs fun x H' => ∃ t : ((Nat → Lb) → AV) × Shp × (Nat → Lb),
     Q t.1 t.2.1 ∧ (∀ ρ,ren ρ (t.1 t.2.2) = t.1 fun i => ρ (t.2.2 i)) ∧ (∀ l ∈ x.lbs,∃ p,t.2.1.ok p ∧ l = t.2.2 p) ∧ x = t.1 t.2.2 ∧ ShAt t.2.2 t.2.1 H' ∧ ∀ p ∈ fx,t.2.2 p = .par p) [.code ac] (argE args) (inS R)) : ShC P G f args R fx Q := by
 refine ⟨ha,spec_of_go hF hn ?_ ?_ hg⟩
 · rintro l ⟨r,h⟩
   obtain ⟨p,_,rfl,_⟩ := inS_live h
   rfl
 · intro l hl
   obtain ⟨p,h4,rfl⟩ := ha l hl
   obtain ⟨r,hr⟩ := (inS_at R).live h4
   rw [hr]; simp
theorem ShC.mono {P : Program} {G : Nat → Option (List IV)} {f : Nat} {args : List AV} {R : Shp} {fx : List Nat} {Q Q' : ((Nat → Lb) → AV) → Shp → Prop} (h : ShC P G f args R fx Q) (hq : ∀ X R,Q X R → Q' X R) : ShC P G f args R fx Q' :=
 ⟨h.1,h.2.mono fun x H ⟨t,h1,h2⟩ => ⟨t,hq _ _ h1,h2⟩⟩
end Go.Am

/- THE ABSTRACT MACHINE, part 37: many rows become data at once. -/
namespace Go.Am
open Go Go.RowKit
mutual
def fzV (X : Lb → Option (Nat × List IV)) : AV → AV
 | .sl l sz i n => match X l with
   | some (s,xs) => if s = sz ∧ i + n ≤ xs.length then .list ((xs.drop i).take n) else .sl l sz i n
   | none => .sl l sz i n
 | .agg cs => .agg (fzVs X cs)
 | .tup cs => .tup (fzVs X cs)
 | x => x
def fzVs (X : Lb → Option (Nat × List IV)) : List AV → List AV
 | [] => []
 | x :: r => fzV X x :: fzVs X r
end
def fzH (X : Lb → Option (Nat × List IV)) (H : Hp) : Hp := fun l => match X l with
 | some _ => .dead
 | none => match H l with
   | .live r => .live ⟨r.sz,r.els.map (fzVs X)⟩
   | s => s
theorem fzVs_len (X : Lb → Option (Nat × List IV)) : ∀ xs,(fzVs X xs).length = xs.length
 | [] => rfl
 | x :: r => by simp [fzVs,fzVs_len X r]
theorem fzVs_get (X : Lb → Option (Nat × List IV)) : ∀ (xs : List AV) (i : Nat),(fzVs X xs)[i]? = xs[i]?.map (fzV X)
 | [],i => by simp [fzVs]
 | x :: r,0 => by simp [fzVs]
 | x :: r,i + 1 => by simp [fzVs,fzVs_get X r]
mutual
theorem fzV_lbs (X : Lb → Option (Nat × List IV)) : ∀ (x : AV) (l : Lb),l ∈ (fzV X x).lbs → l ∈ x.lbs
 | .sl q sz i n,l,h => by
   simp only [fzV] at h
   split at h
   · split at h
     · simp [AV.lbs] at h
     · exact h
   · exact h
 | .agg cs,l,h => by simp only [fzV,AV.lbs] at h ⊢; exact fzVs_lbs X cs l h
 | .tup cs,l,h => by simp only [fzV,AV.lbs] at h ⊢; exact fzVs_lbs X cs l h
 | .slk ..,l,h | .ptr ..,l,h | .any,l,h | .un,l,h | .bool _,l,h | .int ..,l,h | .str _,l,h | .list _,l,h | .nilp,l,h | .nil0,l,h | .nilif,l,h | .lptr _,l,h | .fn ..,l,h | .ifc ..,l,h => h
theorem fzVs_lbs (X : Lb → Option (Nat × List IV)) : ∀ (xs : List AV) (l : Lb),l ∈ lbss (fzVs X xs) → l ∈ lbss xs
 | [],l,h => h
 | x :: r,l,h => by
   simp only [fzVs,lbss,List.mem_append] at h ⊢
   exact h.imp (fzV_lbs X x l) (fzVs_lbs X r l)
end
theorem fzH_live {X : Lb → Option (Nat × List IV)} {H : Hp} {l : Lb} {r : Row} (h : fzH X H l = .live r) : X l = none ∧ ∃ r0,H l = .live r0 ∧ r = ⟨r0.sz,r0.els.map (fzVs X)⟩ := by
 unfold fzH at h
 split at h
 · cases h
 · rename_i e
   split at h
   · rename_i r0 h0
     simp only [Slot.live.injEq] at h
     exact ⟨e,r0,h0,h.symm⟩
   · rename_i hn
     exact absurd h (hn r)
theorem fzH_used {X : Lb → Option (Nat × List IV)} {H : Hp} {l : Lb} (h : H l ≠ .unused) : fzH X H l ≠ .unused := by
 unfold fzH
 split
 · simp
 · split
   · simp
   · exact h
section
variable {K : Kx} {β : Lb → Option Nat} {env : Env} {H : Hp} {a : Act} {w : World} {X : Lb → Option (Nat × List IV)}
theorem fzH_sub (l : Lb) (h : live (fzH X H) l) : live H l := by
 obtain ⟨r,h⟩ := h
 obtain ⟨_,r0,h0,_⟩ := fzH_live h
 exact ⟨r0,h0⟩
theorem fz_keeps (ls : List Lb) : Keeps2 w w β β H (fzH X H) (Im K β H) (Im K β (fzH X H)) ls :=
 ⟨⟨fun k hk hs => ⟨⟨hk.1,fun l hl => hk.2 l (fzH_sub l hl)⟩,hs,rfl⟩⟩,fun l _ hl => ⟨fzH_sub l hl,rfl,fun _ _ _ h => h⟩⟩
mutual
theorem fz_rv (hr : RelB K β env H a w) (hX : ∀ l sz xs,X l = some (sz,xs) → H l = .live ⟨sz,immE xs⟩ ∧ l.fresh = true ∧ Flat xs) : ∀ (x : AV) (v : Value),RV w β H (Im K β H) x v → RV w β (fzH X H) (Im K β (fzH X H)) (fzV X x) v
 | .sl l sz i n,v,h => by
   simp only [fzV]
   split
   · rename_i s xs e
     split
     · rename_i hc
       obtain ⟨rfl,hin⟩ := hc
       obtain ⟨h1,h2,h3⟩ := hX l _ _ e
       have h4 := frz_rv hr h1 h2 hin h3 h
       simp only [RV] at h4 ⊢
       refine IVR.mono ⟨fun k hk hs => ⟨⟨hk.1,fun q hq => hk.2 q ?_⟩,hs,rfl⟩⟩ _ _ h4
       obtain ⟨r,hq⟩ := hq
       obtain ⟨q1,r0,q2,_⟩ := fzH_live hq
       refine ⟨r0,?_⟩
       rw [upd_ne _ _ (by rintro rfl; rw [e] at q1; cases q1)]
       exact q2
     · exact RV.mono _ _ (fz_keeps _) h
   · exact RV.mono _ _ (fz_keeps _) h
 | .agg cs,v,h => by
   simp only [fzV,RV] at h ⊢
   obtain ⟨vs,rfl,h1⟩ := h
   exact ⟨vs,rfl,fz_rvs hr hX cs vs h1⟩
 | .tup cs,v,h => by
   simp only [fzV,RV] at h ⊢
   obtain ⟨vs,rfl,h1⟩ := h
   exact ⟨vs,rfl,fz_rvs hr hX cs vs h1⟩
 | .slk ..,v,h | .ptr ..,v,h | .any,v,h | .un,v,h | .bool _,v,h | .int ..,v,h | .str _,v,h | .list _,v,h | .nilp,v,h | .nil0,v,h | .nilif,v,h | .lptr _,v,h | .fn ..,v,h | .ifc ..,v,h => RV.mono _ _ (fz_keeps _) h
theorem fz_rvs (hr : RelB K β env H a w) (hX : ∀ l sz xs,X l = some (sz,xs) → H l = .live ⟨sz,immE xs⟩ ∧ l.fresh = true ∧ Flat xs) : ∀ (xs : List AV) (vs : List Value),RVs w β H (Im K β H) xs vs → RVs w β (fzH X H) (Im K β (fzH X H)) (fzVs X xs) vs
 | [],vs,h => h
 | x :: r,vs,h => by
   simp only [fzVs,RVs] at h ⊢
   obtain ⟨v,us,rfl,h1,h2⟩ := h
   exact ⟨v,us,rfl,fz_rv hr hX x v h1,fz_rvs hr hX r us h2⟩
end
theorem RelB.fz (hr : RelB K β env H a w) (hX : ∀ l sz xs,X l = some (sz,xs) → H l = .live ⟨sz,immE xs⟩ ∧ l.fresh = true ∧ Flat xs) {env2 : Env} (he : ∀ n,env2 n = .any ∨ env2 n = fzV X (env n)) : RelB K β env2 (fzH X H) a w where
 defers := hr.defers
 size := hr.size
 regs n := by
   rcases he n with e | e
   · rw [e]; simp [RV]
   · rw [e]; exact fz_rv hr hX _ _ (hr.regs n)
 rows l r hl := by
   obtain ⟨_,r0,h0,rfl⟩ := fzH_live hl
   obtain ⟨h1,h2,h3⟩ := hr.rows l r0 h0
   refine ⟨h1,?_,?_⟩
   · intro cs hcs
     obtain ⟨c0,hc0,rfl⟩ := List.mem_map.1 hcs
     rw [fzVs_len]; exact h2 c0 hc0
   · cases hb : β l with
     | none => rw [hb] at h3; simp only at h3; simp [h3]
     | some g =>
       rw [hb] at h3
       simp only at h3 ⊢
       obtain ⟨cur,e,cap,e1,e2,e3,e4,e5⟩ := h3
       refine ⟨cur,e,cap,e1,e2,e3,by simpa using e4,?_⟩
       intro i j cs x hi hj
       rw [List.getElem?_map,Option.map_eq_some_iff] at hi
       obtain ⟨c0,hi,rfl⟩ := hi
       rw [fzVs_get,Option.map_eq_some_iff] at hj
       obtain ⟨x0,hj,rfl⟩ := hj
       obtain ⟨v,k1,k2⟩ := e5 i j c0 x0 hi hj
       exact ⟨v,k1,fz_rv hr hX _ _ k2⟩
 own l g hl := hr.own l g (fzH_sub l hl)
 inj l l' g hl hl' := hr.inj l l' g (fzH_sub l hl) (fzH_sub l' hl')
 ment n l hl := by
   rcases he n with e | e
   · rw [e] at hl; simp [AV.lbs] at hl
   · rw [e] at hl; exact fzH_used (hr.ment n l (fzV_lbs X _ l hl))
 rment l r hl cs hcs q hq := by
   obtain ⟨_,r0,h0,rfl⟩ := fzH_live hl
   obtain ⟨c0,hc0,rfl⟩ := List.mem_map.1 hcs
   exact fzH_used (hr.rment l r0 h0 c0 hc0 q (fzVs_lbs X _ q hq))
 frame := hr.frame
 glob g cs hg := by
   obtain ⟨h1,h2,h3⟩ := hr.glob g cs hg
   have hk := (fz_keeps (K := K) (β := β) (H := H) (X := X) (w := w) []).toKeeps
   exact ⟨(hk.im g h1 h2).1,h2,CellsR.mono hk cs g 0 h1 h2 h3⟩
 stab l hl := ⟨fzH_used (hr.stab l hl).1,fun h => (hr.stab l hl).2 (fzH_sub l h)⟩
 fr l g hl := hr.fr l g (fzH_sub l hl)
end
theorem weaker_fz {S : St} {env : Env} {H : Hp} (X : Lb → Option (Nat × List IV)) (hX : ∀ l sz xs,X l = some (sz,xs) → H l = .live ⟨sz,immE xs⟩ ∧ l.fresh = true ∧ Flat xs) {env2 : Env}
   (he : ∀ n,env2 n = .any ∨ env2 n = fzV X (env n)) : Weaker S env H env2 (fzH X H) :=
 fun K β a w _ _ hr => ⟨β,hr.fz hX he⟩
theorem Weaker.trans {S : St} {env env2 env3 : Env} {H H2 H3 : Hp} (h1 : Weaker S env H env2 H2) (h2 : Weaker S env2 H2 env3 H3) : Weaker S env H env3 H3 := fun K β a w e hf hr => by
 obtain ⟨β',hr'⟩ := h1 K β a w e hf hr
 exact h2 K β' a w e hf hr'
theorem fzH_none {X : Lb → Option (Nat × List IV)} {H : Hp} {l : Lb} {r : Row} (h : X l = none) (hl : H l = .live r) : fzH X H l = .live ⟨r.sz,r.els.map (fzVs X)⟩ := by simp [fzH,h,hl]
end Go.Am

/- THE ABSTRACT MACHINE, part 44: loops over rows of any shape. -/
namespace Go.Am
open Go Go.RowKit
open Classical in
noncomputable def rhoS (labC lab : Nat → Lb) (R : Shp) (m : List (Lb × Lb)) : Lb → Lb := fun q =>
 if h : ∃ p,R.ok p ∧ labC p = q then lab (Classical.choose h) else rnF m q
theorem rhoS_at {labC lab : Nat → Lb} {R : Shp} {m : List (Lb × Lb)} (hi : ∀ p q,R.ok p → R.ok q → labC p = labC q → p = q) {p : Nat} (hp : R.ok p) : rhoS labC lab R m (labC p) = lab p := by
 have h : ∃ p',R.ok p' ∧ labC p' = labC p := ⟨p,hp,rfl⟩
 have hc := Classical.choose_spec h
 unfold rhoS
 rw [dif_pos h,hi _ _ hc.1 hp hc.2]
theorem rhoS_ne {labC lab : Nat → Lb} {R : Shp} {m : List (Lb × Lb)} {q : Lb} (h : ∀ p,R.ok p → labC p ≠ q) : rhoS labC lab R m q = rnF m q := by
 unfold rhoS
 rw [dif_neg (by rintro ⟨p,h1,h2⟩; exact h p h1 h2)]
structure WH (labC : Nat → Lb) (R : Shp) (ls : List Lb) (u : Lb → Bool) (ps : List (Nat × AV)) (rs : List (Lb × Row)) (env : Env) (H : Hp) (lab : Nat → Lb) (m : List (Lb × Lb)) : Prop where
 at' : ShAt lab R H
 nf : ∀ l : Lb,l.entry = true → H l ≠ .unused → (∃ p,R.ok p ∧ labC p = l) ∨ l ∈ ls ∨ u l = true
 e : EqL (rhoS labC lab R m) env ps
 r : ∀ q ∈ rs,H (rnF m q.1) = .live (renR (rhoS labC lab R m) q.2)
 inj : (ls.map (rnF m)).Nodup
 ap : ∀ l ∈ ls,∀ p,R.ok p → lab p ≠ rnF m l
 fr : ∀ l ∈ ls,(l.fresh = true → (rnF m l).fresh = true) ∧ (l.entry = true → rnF m l = l)
 fp : ∀ p,R.ok p → ((labC p).fresh = true → (lab p).fresh = true) ∧ ((labC p).entry = true → lab p = labC p)
theorem WH.wk {labC : Nat → Lb} {R : Shp} {ls : List Lb} {u : Lb → Bool} {ps : List (Nat × AV)} {rs : List (Lb × Row)} {env : Env} {H : Hp} {lab : Nat → Lb} {m : List (Lb × Lb)} (h : WH labC R ls u ps rs env H lab m)
   (hi : ∀ p q,R.ok p → R.ok q → labC p = labC q → p = q) (hls : rs.map Prod.fst = ls) (hC : ∀ l ∈ ls,∀ p,R.ok p → labC p ≠ l) (hp : ∀ l ∈ lbss (ps.map Prod.snd),l ∈ ls ∨ ∃ p,R.ok p ∧ labC p = l)
   (hr : ∀ q ∈ rs,∀ cs ∈ q.2.els,∀ l ∈ lbss cs,l ∈ ls ∨ ∃ p,R.ok p ∧ labC p = l) : Wk (rhoS labC lab R m) env H (ofL ps) (shH labC R (ofU u rs)) := by
 have hlv : ∀ l,live (shH labC R (ofU u rs)) l → (∃ p,R.ok p ∧ labC p = l) ∨ ((∀ p,R.ok p → labC p ≠ l) ∧ l ∈ ls) := by
   rintro l ⟨r,hl⟩
   rcases shH_live hi hl with ⟨p,h1,h2,_⟩ | ⟨h1,h2⟩
   · exact .inl ⟨p,h1,h2⟩
   · exact .inr ⟨h1,by rw [← hls]; exact List.mem_map.2 ⟨_,ofH_live (ofU_live.1 h2),rfl⟩⟩
 have hus : ∀ l,(l ∈ ls ∨ ∃ p,R.ok p ∧ labC p = l) → shH labC R (ofU u rs) l ≠ .unused := by
   intro l hl
   by_cases e : ∃ p,R.ok p ∧ labC p = l
   · obtain ⟨p,h1,rfl⟩ := e
     obtain ⟨r,hr⟩ := (ShAt.of_shH hi (ofU u rs)).live h1
     rw [hr]; simp
   · rw [shH_ne _ fun p h1 h2 => e ⟨p,h1,h2⟩]
     rcases hl with hl | hl
     · exact ofU_used (.inl (by rw [hls]; exact hl))
     · exact absurd hl e
 refine ⟨h.e.we,?_,?_,ofL_wm fun l hl => hus l (hp l hl),?_,?_,?_⟩
 · intro l r hl
   rcases shH_live hi hl with ⟨p,h1,rfl,h2⟩ | ⟨h1,h2⟩
   · rw [rhoS_at hi h1]
     have := R.nat labC (rhoS labC lab R m) p
     have e : R.row (fun i => rhoS labC lab R m (labC i)) p = R.row lab p := by
       have h0 := R.nat Lb.par (inR (fun i => rhoS labC lab R m (labC i))) p
       have h0' := R.nat Lb.par (inR lab) p
       simp only [inR] at h0 h0'
       rw [h0,h0']
       cases hrow : R.row Lb.par p with
       | none => rfl
       | some r0 =>
         simp only [Option.map_some,Option.some.injEq,renR,Row.mk.injEq,true_and]
         refine List.map_congr_left fun cs hcs => rens_congr cs fun z hz => ?_
         obtain ⟨p',h6,rfl⟩ := R.lbs Lb.par p r0 hrow cs hcs z hz
         simp only [inR]
         exact rhoS_at hi ((R.ok_iff _ _).1 h6)
     rw [e,h2] at this
     exact h.at'.row p _ this
   · rw [rhoS_ne h1]
     exact h.r _ (ofH_live (ofU_live.1 h2))
 · intro l l' g1 g2 e
   rcases hlv l g1 with ⟨p,h1,rfl⟩ | ⟨h1,h1'⟩ <;> rcases hlv l' g2 with ⟨p',h2,rfl⟩ | ⟨h2,h2'⟩
   · rw [rhoS_at hi h1,rhoS_at hi h2] at e
     rw [h.at'.inj p p' h1 h2 e]
   · rw [rhoS_at hi h1,rhoS_ne h2] at e
     exact absurd e (h.ap _ h2' p h1)
   · rw [rhoS_ne h1,rhoS_at hi h2] at e
     exact absurd e.symm (h.ap _ h1' p' h2)
   · rw [rhoS_ne h1,rhoS_ne h2] at e
     exact nodup_map_inj h.inj l h1' l' h2' e
 · intro l r hl cs hcs q hq
   rcases shH_live hi hl with ⟨p,h1,rfl,h2⟩ | ⟨h1,h2⟩
   · obtain ⟨p',h6,rfl⟩ := R.lbs labC p r h2 cs hcs q hq
     exact hus _ (.inr ⟨p',(R.ok_iff _ _).1 h6,rfl⟩)
   · exact hus q (hr _ (ofH_live (ofU_live.1 h2)) cs hcs q hq)
 · intro l hf
   refine ⟨fun hu => ?_,fun hl => ?_⟩
   · rcases h.nf l hf hu with ⟨p,h1,h2⟩ | h1 | h1
     · exact hus l (.inr ⟨p,h1,h2⟩)
     · exact hus l (.inl h1)
     · by_cases e : ∃ p,R.ok p ∧ labC p = l
       · exact hus l (.inr e)
       · rw [shH_ne _ fun p h1 h2 => e ⟨p,h1,h2⟩]
         exact ofU_used (.inr h1)
   · rcases hlv l hl with ⟨p,h1,rfl⟩ | ⟨h1,h2⟩
     · rw [rhoS_at hi h1]; exact (h.fp p h1).2 hf
     · rw [rhoS_ne h1]; exact (h.fr l h2).2 hf
 · intro l hl hf
   rcases hlv l hl with ⟨p,h1,rfl⟩ | ⟨h1,h2⟩
   · rw [rhoS_at hi h1]; exact (h.fp p h1).1 hf
   · rw [rhoS_ne h1]; exact (h.fr l h2).1 hf
theorem loop_sh {σ : Type} {S : St} {Q : Post} {c : AC} {k : List It} {env : Env} {H : Hp} (labC : Nat → Lb) (R : σ → Shp) (ls : List Lb) (u : Lb → Bool) (ps : σ → List (Nat × AV)) (rs : σ → List (Lb × Row)) (μ : σ → Nat) (s0 : σ)
   (hi : ∀ s p q,(R s).ok p → (R s).ok q → labC p = labC q → p = q) (hls : ∀ s,(rs s).map Prod.fst = ls) (hC : ∀ s,∀ l ∈ ls,∀ p,(R s).ok p → labC p ≠ l) (hp : ∀ s,∀ l ∈ lbss ((ps s).map Prod.snd),l ∈ ls ∨ ∃ p,(R s).ok p ∧ labC p = l)
   (hr : ∀ s,∀ q ∈ rs s,∀ cs ∈ q.2.els,∀ l ∈ lbss cs,l ∈ ls ∨ ∃ p,(R s).ok p ∧ labC p = l) (h0 : ∃ lab m,WH labC (R s0) ls u (ps s0) (rs s0) env H lab m)
   (round : ∀ s,go S (LoopX S Q k (fun env H s => ∃ lab m,WH labC (R s) ls u (ps s) (rs s) env H lab m) μ (μ s)) [.code c] (ofL (ps s)) (shH labC (R s) (ofU u (rs s)))) : LoopG S Q c k env H :=
 loop_gen (fun s => ofL (ps s)) (fun s => shH labC (R s) (ofU u (rs s))) _ (fun _ _ s ⟨lab,m,h⟩ => ⟨_,h.wk (hi s) (hls s) (hC s) (hp s) (hr s)⟩) μ s0 h0 round
end Go.Am

/- THE ABSTRACT MACHINE, part 49: names for what a call makes; nil handed back as one's own. -/
namespace Go.Am
open Go Go.RowKit
def p2 (a b : Nat) : Nat := 2 ^ a * (2 * b + 1)
theorem p2_inj : ∀ {a b c d : Nat},p2 a b = p2 c d → a = c ∧ b = d
 | 0,b,0,d,h => by simp [p2] at h; omega
 | 0,b,c + 1,d,h => by
   simp only [p2,Nat.pow_succ,Nat.pow_zero,Nat.one_mul] at h
   have : 2 ^ c * 2 * (2 * d + 1) = 2 * (2 ^ c * (2 * d + 1)) := by rw [Nat.mul_comm (2 ^ c) 2,Nat.mul_assoc]
   omega
 | a + 1,b,0,d,h => by
   simp only [p2,Nat.pow_succ,Nat.pow_zero,Nat.one_mul] at h
   have : 2 ^ a * 2 * (2 * b + 1) = 2 * (2 ^ a * (2 * b + 1)) := by rw [Nat.mul_comm (2 ^ a) 2,Nat.mul_assoc]
   omega
 | a + 1,b,c + 1,d,h => by
   have h2 : p2 a b = p2 c d := by
     simp only [p2,Nat.pow_succ] at h ⊢
     have e1 : 2 ^ a * 2 * (2 * b + 1) = 2 * (2 ^ a * (2 * b + 1)) := by rw [Nat.mul_comm (2 ^ a) 2,Nat.mul_assoc]
     have e2 : 2 ^ c * 2 * (2 * d + 1) = 2 * (2 ^ c * (2 * d + 1)) := by rw [Nat.mul_comm (2 ^ c) 2,Nat.mul_assoc]
     omega
   have := p2_inj h2
   omega
def Lb.enc : Lb → Nat
 | .loc n => p2 0 n
 | .par n => p2 1 n
 | .gen n => p2 2 n
 | .nest l i j => p2 3 (p2 l.enc (p2 i j))
theorem Lb.enc_inj : ∀ l l' : Lb,l.enc = l'.enc → l = l'
 | .loc n,.loc m,h => by rw [(p2_inj h).2]
 | .par n,.par m,h => by rw [(p2_inj h).2]
 | .gen n,.gen m,h => by rw [(p2_inj h).2]
 | .nest l i j,.nest l' i' j',h => by
   have h1 := p2_inj (p2_inj h).2
   have h2 := p2_inj h1.2
   rw [Lb.enc_inj l l' h1.1,h2.1,h2.2]
 | .loc n,.par m,h => by have := (p2_inj h).1; omega
 | .loc n,.gen m,h => by have := (p2_inj h).1; omega
 | .loc n,.nest _ _ _,h => by have := (p2_inj h).1; omega
 | .par n,.loc m,h => by have := (p2_inj h).1; omega
 | .par n,.gen m,h => by have := (p2_inj h).1; omega
 | .par n,.nest _ _ _,h => by have := (p2_inj h).1; omega
 | .gen n,.loc m,h => by have := (p2_inj h).1; omega
 | .gen n,.par m,h => by have := (p2_inj h).1; omega
 | .gen n,.nest _ _ _,h => by have := (p2_inj h).1; omega
 | .nest _ _ _,.loc m,h => by have := (p2_inj h).1; omega
 | .nest _ _ _,.par m,h => by have := (p2_inj h).1; omega
 | .nest _ _ _,.gen m,h => by have := (p2_inj h).1; omega
def NW (c : Nat) (l : Lb) : Lb := .nest (.loc c) l.enc 1
theorem NW_inj (c : Nat) : ∀ l l',NW c l = NW c l' → l = l' := fun l l' h => Lb.enc_inj _ _ (by simpa [NW] using h)
def NC (c : Nat) (l : Lb) : Lb := .nest l c 2
theorem NC_inj (c : Nat) : ∀ l l',NC c l = NC c l' → l = l' := fun l l' h => by simpa [NC] using h
def rwSh (sz : Nat) (xs : List IV) : Shp where
 row _ p := if p = 0 then some ⟨sz,immE xs⟩ else none
 nat lab ρ p := by by_cases h : p = 0 <;> simp [h,renR_immE]
 lbs lab p r h cs hcs q hq := by
   by_cases h0 : p = 0
   · simp [h0] at h; subst h
     rw [lbss_immE hcs] at hq; simp at hq
   · simp [h0] at h
theorem rwSh_ok {sz : Nat} {xs : List IV} {p : Nat} : (rwSh sz xs).ok p ↔ p = 0 := by
 unfold Shp.ok rwSh; by_cases h : p = 0 <;> simp [h]
def noSh : Shp where
 row _ _ := none
 nat _ _ _ := rfl
 lbs _ _ _ h := by cases h
theorem noSh_ok {p : Nat} : ¬ noSh.ok p := by simp [Shp.ok,noSh]
theorem inS_no : inS noSh = Hp.none := by
 funext q
 exact shH_ne _ fun p hp => absurd hp noSh_ok
abbrev OwnC (P : Program) (G : Nat → Option (List IV)) (f : Nat) (args : List AV) (sz : Nat) (xs : List IV) : Prop :=
 ShC P G f args noSh [] fun X R2 => X = (fun lab => .sl (lab 0) sz 0 xs.length) ∧ R2 = rwSh sz xs
theorem own_of_go {P : Program} {G : Nat → Option (List IV)} {f : Nat} {n : Nat} {rs : List RO} {ac : AC} {args : List AV} {sz : Nat} {xs : List IV}
   (hF : compF P G f = some (n,rs,ac.bare)) (hn : args.length ≤ n) (ha : lbss args = [])
   (hg : go ⟨P,G,n⟩ (RetP rs fun x H' => ∃ L,x = .sl L sz 0 xs.length ∧ H' L = .live ⟨sz,immE xs⟩) [.code ac] (argE args) Hp.none) : OwnC P G f args sz xs := by
 refine ⟨by rw [ha]; simp,?_⟩
 rw [inS_no]
 refine (spec_of_go hF hn (by intro l ⟨r,h⟩; simp [Hp.none] at h) (by rw [ha]; simp) hg).mono ?_
 rintro x H ⟨L,hx,hL⟩
 refine ⟨⟨fun lab => .sl (lab 0) sz 0 xs.length,rwSh sz xs,fun _ => L⟩,⟨rfl,rfl⟩,fun ρ => rfl,fun l hl => ⟨0,rwSh_ok.2 rfl,?_⟩,hx,⟨fun p r hr => ?_,fun p q hp hq _ => (rwSh_ok.1 hp).trans (rwSh_ok.1 hq).symm⟩,by simp⟩
 · rw [hx] at hl; simpa [AV.lbs] using hl
 · simp only [rwSh] at hr
   by_cases h : p = 0
   · simp [h] at hr; subst hr; exact hL
   · simp [h] at hr
end Go.Am

/- THE ABSTRACT MACHINE, part 39: a slice's room, made known; rows cut short. -/
namespace Go.Am
open Go Go.RowKit
section
variable {S : St} {env : Env} {H : Hp}
theorem RelB.row_same {K : Kx} {β : Lb → Option Nat} {a : Act} {w : World} (hr : RelB K β env H a w) {l : Lb} {sz : Nat} {els els' : List (List AV)} (hl : H l = .live ⟨sz,els⟩) (g : Nat) (hb : β l = some g)
   (hlen : ∀ cur e cap,w.heap[g]? = some (.cells cur e (0,0)) → cur.size = cap * sz → els.length ≤ cap → els'.length ≤ cap) (hcs : ∀ cs ∈ els',cs.length = sz) (hm : ∀ cs ∈ els',∀ q ∈ lbss cs,H q ≠ .unused)
   (hc : ∀ (i j : Nat) cs x,els'[i]? = some cs → cs[j]? = some x → x = .any ∨ ∃ cs0,els[i]? = some cs0 ∧ cs0[j]? = some x) : RelB K β env (upd H l (.live ⟨sz,els'⟩)) a w := by
 obtain ⟨cur,e0,cap,k1,k2,k3,k4,k5⟩ := (hr.rows l _ hl).block hb
 have hset := hr.setRow l (r' := ⟨sz,els'⟩) (cur' := cur) (cap := cap) hl hb k1 rfl rfl k2 k3 (hlen cur e0 cap k1 k2 k4) hcs hm (by
   intro i j cs x hi hj
   rcases hc i j cs x hi hj with rfl | ⟨cs0,h1,h2⟩
   · have hjs : j < sz := by
       have := hcs cs (List.mem_of_getElem? hi)
       have := (List.getElem?_eq_some_iff.1 hj).1
       omega
     have hil : i < els'.length := (List.getElem?_eq_some_iff.1 hi).1
     have hcap := hlen cur e0 cap k1 k2 k4
     have : i * sz + j < cur.size := by
       rw [k2]
       have := Nat.mul_le_mul_right sz (show i + 1 ≤ cap by omega)
       rw [Nat.add_mul] at this
       simp only at this ⊢
       omega
     exact ⟨cur[i * sz + j],Array.getElem?_eq_getElem this,by simp [RV]⟩
   · exact k5 i j cs0 x h1 h2)
 rw [setRow_self w g cur e0 (0,0) k1] at hset
 exact hset
theorem upd_self' {l : Lb} {r : Row} (h : H l = .live r) : upd H l (.live r) = H := by
 funext q
 by_cases e : q = l
 · subst e; simp [h]
 · rw [upd_ne _ _ e]
theorem choice_cap {d : Nat} {l : Lb} {sz n : Nat} {els : List (List AV)} (hd : env d = .sl l sz 0 n) (hl : H l = .live ⟨sz,els⟩) :
   Choice S env H { c : Nat // n ≤ c ∧ c ≤ maxLen } (fun c => put env d (.slk l sz 0 n c.1)) (fun c => upd H l (.live ⟨sz,els ++ List.replicate (c.1 - els.length) (List.replicate sz .any)⟩)) := by
 intro K β a w hS hf hr
 have hv := hr.regs d
 rw [hd] at hv
 simp only [RV] at hv
 obtain ⟨ad,c,h1,h2,h3,h4,h5⟩ := hv
 have hsz : 0 < sz := (hr.rows l _ hl).1
 refine ⟨⟨c,h2,h3⟩,β,?_⟩
 have hrow : RelB K β env (upd H l (.live ⟨sz,els ++ List.replicate (c - els.length) (List.replicate sz .any)⟩)) a w := by
   rcases h5 ⟨_,hl⟩ with h6 | ⟨g,Sz,g1,g2,g3,g4⟩
   · subst h6
     simp only [Nat.zero_sub,List.replicate_zero,List.append_nil]
     rw [upd_self' hl]
     exact hr
   · refine hr.row_same hl g g1 ?_ ?_ ?_ ?_
     · intro cur e cap k1 k2 k4
       have hS : cur.size = Sz := by
         unfold bsz at g3
         simp only [k1] at g3
         simpa using g3
       have : (0 + c) * sz = cap * sz := by rw [g4,← hS,k2]
       have := Nat.eq_of_mul_eq_mul_right hsz this
       simp; omega
     · intro cs hcs
       rcases List.mem_append.1 hcs with h | h
       · exact (hr.rows l _ hl).2.1 cs h
       · rw [List.eq_of_mem_replicate h]; simp
     · intro cs hcs q hq
       rcases List.mem_append.1 hcs with h | h
       · exact hr.rment l _ hl cs h q hq
       · rw [List.eq_of_mem_replicate h] at hq
         have : ∀ m : Nat,lbss (List.replicate m AV.any) = [] := by
           intro m
           induction m with
           | zero => rfl
           | succ m ih => simp [List.replicate_succ,lbss,AV.lbs,ih]
         rw [this] at hq; simp at hq
     · intro i j cs x hi hj
       by_cases h : i < els.length
       · rw [List.getElem?_append_left h] at hi
         exact .inr ⟨cs,hi,hj⟩
       · rw [List.getElem?_append_right (by omega),List.getElem?_replicate] at hi
         split at hi
         · simp only [Option.some.injEq] at hi; subst hi
           rw [List.getElem?_replicate] at hj
           split at hj
           · simp only [Option.some.injEq] at hj
             exact .inl hj.symm
           · simp at hj
         · simp at hi
 refine setSlot hrow d ?_ (by simp [AV.lbs])
 simp only [RV]
 refine ⟨ad,h1,h2,h3,?_,fun _ => h5 ⟨_,hl⟩⟩
 intro hc
 rcases h5 ⟨_,hl⟩ with h6 | ⟨g,Sz,g1,g2,g3,g4⟩
 · omega
 · rw [g2]; rfl
end
end Go.Am

/- THE ABSTRACT MACHINE, part 45: slices whose room was looked at, handed back; slices.overlaps. -/
namespace Go.Am
open Go Go.RowKit
section
variable {K : Kx} {β : Lb → Option Nat} {env : Env} {H : Hp} {a : Act} {w : World}
theorem RelB.trim (hr : RelB K β env H a w) {l : Lb} {sz : Nat} {els : List (List AV)} (k : Nat) (hl : H l = .live ⟨sz,els⟩) : RelB K β env (upd H l (.live ⟨sz,els.take k⟩)) a w := by
 cases hb : β l with
 | none =>
   have := (hr.rows l _ hl).2.2
   simp only [hb] at this
   subst this
   simp only [List.take_nil]
   rw [upd_self' hl]
   exact hr
 | some g =>
   refine hr.row_same hl g hb ?_ ?_ ?_ ?_
   · intro cur e cap k1 k2 k4
     rw [List.length_take]; omega
   · exact fun cs hcs => (hr.rows l _ hl).2.1 cs (List.mem_of_mem_take hcs)
   · exact fun cs hcs => hr.rment l _ hl cs (List.mem_of_mem_take hcs)
   · intro i j cs x hi hj
     rw [List.getElem?_take] at hi
     split at hi
     · exact .inr ⟨cs,hi,hj⟩
     · simp at hi
end
theorem grw_of_goK {P : Program} {G : Nat → Option (List IV)} {f : Nat} {n : Nat} {rs : List RO} {ac : AC} {args : List AV} {sz : Nat} {xs ys : List IV}
   (hF : compF P G f = some (n,rs,ac.bare)) (hn : args.length ≤ n) (ha : ∀ l ∈ lbss args,l = .par 0)
   (hg : go ⟨P,G,n⟩ (RetP rs fun x H' => ∃ L c els,(x = .sl L sz 0 ys.length ∨ x = .slk L sz 0 ys.length c) ∧ H' L = .live ⟨sz,immE ys ++ els⟩) [.code ac] (argE args) (rowX sz xs)) : GrwC P G sz f args xs ys := by
 refine ⟨ha,?_⟩
 have h0 := spec_of_go hF hn ?_ ?_ hg
 · intro w A β vs hr hv
   refine (h0 w A β vs hr hv).mono ?_
   rintro e w' ⟨v,x,H1,β',rfl,⟨L,c,els,hx,hL⟩,hr',hxv,hm⟩
   have ht := hr'.trim ys.length hL
   rw [show (immE ys ++ els).take ys.length = immE ys by rw [← immE_len ys,List.take_left]] at ht
   have hlive : ∀ q,live (upd H1 L (.live ⟨sz,immE ys⟩)) q → live H1 q := by
     rintro q ⟨r,hq⟩
     by_cases e : q = L
     · subst e; exact ⟨_,hL⟩
     · rw [upd_ne _ _ e] at hq; exact ⟨r,hq⟩
   refine ⟨v,.sl L sz 0 ys.length,_,β',rfl,⟨L,rfl,by simp⟩,ht,?_,by simp [AV.lbs]⟩
   simp only [RV]
   rcases hx with rfl | rfl
   · simp only [RV] at hxv
     obtain ⟨ad,c,g1,g2,g3,g4,g5⟩ := hxv
     exact ⟨ad,c,g1,g2,g3,g4,fun hl => g5 (hlive _ hl)⟩
   · simp only [RV] at hxv
     obtain ⟨ad,g1,g2,g3,g4,g5⟩ := hxv
     exact ⟨ad,c,g1,g2,g3,fun h => g4 (by omega),fun hl => g5 (hlive _ hl)⟩
 · rintro l ⟨r,h⟩
   by_cases e : l = .par 0
   · subst e; rfl
   · rw [rowX,upd_ne _ _ e] at h; simp [Hp.none] at h
 · intro l hl
   rw [ha l hl]; simp [rowX]
theorem ext_overlaps {S : St} {f : Nat} {fn : Func} (hf : S.P.funcs[f]? = some fn) (hname : (fn.name == "runtime.NumGoroutine") = false) (hb : fn.body.isNone = true)
   (hn : Extern.findNext fn = none) {tS tR e : TypeId} (he : Extern.find fn = some (Extern.SlicesOverlaps.overlaps #[tS,tS] #[tR])) (ht : S.P.underlying tS = some (.slice e)) {size : Nat} (hz : ∀ w,(Go.sizeOf e).run S.P w = .ok size w)
   {vs : List IV} (hv : vs ≠ []) {l : Lb} {sz i n c : Nat} {r : Row} {H : Hp} (hl : H l = .live r) (h0 : 0 < n) : ExtC S f [.list vs,.slk l sz i n c] H (.bool false) := by
 intro K β env a w ws hS hrel hws
 subst hS
 match ws,hws with
 | [u,v],h =>
   simp only [RVs] at h
   obtain ⟨_,_,e0,h1,_,_,e2,h3,e4⟩ := h
   cases e0; cases e2; cases e4
   simp only [RV,IVR] at h1 h3
   obtain ⟨ad,c1,rfl,g1,g2,g3⟩ := h1
   obtain ⟨ad2,rfl,k1,k2,k3,k4⟩ := h3
   have hvl : vs.length ≠ 0 := fun e => hv (List.length_eq_zero_iff.1 e)
   rcases g3 with g3 | ⟨b,o,s2,rfl,g4,g5,g6,g7⟩
   · exact absurd g3 hvl
   rcases k4 ⟨_,hl⟩ with k4 | ⟨g,Sz,q1,rfl,q3,q4⟩
   · omega
   have hrow := hrel.rows l r hl
   obtain ⟨cur,ee,cap,p1,p2,p3,p4,p5⟩ := hrow.block q1
   obtain ⟨y,vs',rfl⟩ : ∃ y vs',vs = y :: vs' := by cases vs with | nil => exact absurd rfl hv | cons y q => exact ⟨y,q,rfl⟩
   simp only [ElemsR] at g7
   have hcell : ∃ z,w.cell? ⟨b,o,none⟩ = some z := by
     have := g7.1
     rw [ElemR_iff] at this
     obtain ⟨hs,hc⟩ := this
     cases hcs : y.cells with
     | nil => rw [hcs] at hs; simp at hs; omega
     | cons c0 cr =>
       rw [hcs] at hc
       simp only [CellsR] at hc
       obtain ⟨⟨z,hz,_⟩,_⟩ := hc
       exact ⟨z,hz⟩
   obtain ⟨z,hz1⟩ := hcell
   obtain ⟨cb,eb,fb,hblk⟩ : ∃ cb eb fb,w.heap[b]? = some (.cells cb eb fb) := by
     unfold World.cell? at hz1
     simp only at hz1
     split at hz1
     · rename_i cb eb fb hb
       exact ⟨cb,eb,fb,hb⟩
     · cases hz1
   have hcb : cb.size ≠ 0 := by
     intro e
     unfold World.cell? at hz1
     simp only [hblk] at hz1
     simp at hz1
     have : cb = #[] := Array.eq_empty_of_size_eq_zero e
     subst this
     simp at hz1
   have hne : b ≠ g := by
     rintro rfl
     exact g4.2 l ⟨_,hl⟩ q1
   have hnb : (b != g) = true := by simpa using hne
   have hnb' : (b == g) = false := by simpa using hne
   refine ⟨.bool false,w,?_,Below.refl _ _,by simp [RV],by simp [AV.lbs]⟩
   rw [run_callFunc_extern hf hname hb hn he]
   have hover : (Extern.SlicesOverlaps.overlaps #[tS,tS] #[tR] #[.slice (some ⟨b,o,none⟩) (y :: vs').length c1,.slice (some ⟨g,i * sz,none⟩) n c]).run K.P w = .ok (.bool false) w := by
     unfold Extern.SlicesOverlaps.overlaps
     rw[show ∀(p:Option Addr) (k d:Nat) (q:Option Addr) (k' d':Nat) (h1:Option Addr→Nat→Nat→Option Addr→Nat→Nat→Sem Value) (h2:Array Value→Sem Value),Extern.SlicesOverlaps.overlaps.match_4 (fun _=>Sem Value) #[.slice p k d,.slice q k' d'] h1 h2=h1 p k d q k' d' from fun _ _ _ _ _ _ _ _=>rfl]
     have hsa : w.shape? b = some (eb,cb.size) := by simp [World.shape?,hblk]
     have hsb : w.shape? g = some (ee,cur.size) := by simp [World.shape?,p1]
     have hfz : ∀ off,w.frozen? ⟨g,off,none⟩ = false := fun off => by simp [World.frozen?,p1]
     obtain ⟨kB,hkB⟩ : ∃ kB,cb.size = kB + 1 := ⟨cb.size - 1,by omega⟩
     by_cases h0 : (y :: vs').length = 0 ∨ n = 0 ∨ size = 0
     · simp [run_underlying ht,hz,h0]
       rcases h0 with h0 | h0 | h0
       · simp at h0
       · omega
       · simp [h0]
     · have hz0 : size ≠ 0 := fun e => h0 (.inr (.inr e))
       have hn0 : n ≠ 0 := by omega
       cases hfa : w.frozen? ⟨b,o,none⟩ <;> cases hfe : w.frozen? ⟨b,cb.size,none⟩ <;>
         simp [run_underlying ht,hz,h0,hnb,hnb',frozen,noView,viewAt,mayBeOne,stringish,shape,Sem.run,hsa,hsb,hfz,hkB,hfa,hz0,hn0] <;> rw [hkB] at hfe <;> simp [hfe]
   rw [hover]
   rfl
end Go.Am
