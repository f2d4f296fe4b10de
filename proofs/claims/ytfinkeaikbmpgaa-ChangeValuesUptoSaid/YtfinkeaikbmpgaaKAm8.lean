import Derived.Test.YtfinkeaikbmpgaaKAm7
set_option linter.unusedSimpArgs false
set_option linter.unusedVariables false
set_option linter.unnecessarySimpa false
set_option linter.defProp false
/- THE ABSTRACT MACHINE, part 8: what new rows, dead rows, turned rows do to the relation. -/
namespace Go.Am
open Go Go.RowKit
def upd {γ : Type} (f : Lb → γ) (l : Lb) (x : γ) : Lb → γ := fun l' => if l' = l then x else f l'
@[simp] theorem upd_same {γ : Type} (f : Lb → γ) (l : Lb) (x : γ) : upd f l x l = x := by simp [upd]
theorem upd_ne {γ : Type} (f : Lb → γ) {l l' : Lb} (x : γ) (h : l' ≠ l) : upd f l x l' = f l' := by simp [upd,h]
section
variable {K : Kx} {β : Lb → Option Nat} {env : Env} {H : Hp} {a : Act} {w : World}
theorem RelB.blk_lt (hr : RelB K β env H a w) {l : Lb} {g : Nat} (hl : live H l) (hb : β l = some g) : g < w.heap.size := by
 obtain ⟨r,hr'⟩ := hl
 obtain ⟨_,_,h3⟩ := hr.rows l r hr'
 simp only [hb] at h3
 obtain ⟨cur,e,cap,h4,_⟩ := h3
 exact (Array.getElem?_eq_some_iff.1 h4).1
theorem bsz_lt {w : World} {g S : Nat} (h : bsz w g = some S) : g < w.heap.size := by
 unfold bsz at h
 cases hg : w.heap[g]? with
 | none => simp [hg] at h
 | some o => exact (Array.getElem?_eq_some_iff.1 hg).1
theorem RelB.kill (hr : RelB K β env H a w) (l : Lb) (hu : H l ≠ .unused) : RelB K β env (upd H l .dead) a w := by
 have hlive : ∀ l',live (upd H l .dead) l' → live H l' ∧ l' ≠ l := by
   intro l' ⟨r,h⟩
   by_cases e : l' = l
   · subst e; simp at h
   · rw [upd_ne _ _ e] at h; exact ⟨⟨r,h⟩,e⟩
 have keep : ∀ ls,Keeps2 w w β β H (upd H l .dead) (Im K β H) (Im K β (upd H l .dead)) ls := fun ls =>
   { im := fun k hk hs => ⟨⟨hk.1,fun l' hl' => hk.2 l' (hlive l' hl').1⟩,hs,rfl⟩
     lb := fun l' _ hl' => ⟨(hlive l' hl').1,rfl,fun _ _ _ h => h⟩ }
 refine ⟨hr.defers,hr.size,fun n => RV.mono _ _ (keep _) (hr.regs n),?_,fun l' g h => hr.own l' g (hlive l' h).1,fun l1 l2 g h1 h2 => hr.inj l1 l2 g (hlive l1 h1).1 (hlive l2 h2).1,?_,?_,hr.frame,?_,?_,fun l' g h => hr.fr l' g (hlive l' h).1⟩
 · intro l' r h
   have hne := (hlive l' ⟨r,h⟩).2
   rw [upd_ne _ _ hne] at h
   obtain ⟨h1,h2,h3⟩ := hr.rows l' r h
   refine ⟨h1,h2,?_⟩
   cases hb : β l' with
   | none => simpa [hb] using h3
   | some g =>
     simp only [hb] at h3 ⊢
     obtain ⟨cur,e,cap,e1,e2,e3,e4,e5⟩ := h3
     exact ⟨cur,e,cap,e1,e2,e3,e4,fun i j cs x hi hj => let ⟨v,k1,k2⟩ := e5 i j cs x hi hj; ⟨v,k1,RV.mono _ _ (keep _) k2⟩⟩
 · intro n l' hl'
   by_cases e : l' = l
   · subst e; simp
   · rw [upd_ne _ _ e]; exact hr.ment n l' hl'
 · intro l1 r h cs hcs l' hl'
   have hne := (hlive l1 ⟨r,h⟩).2
   rw [upd_ne _ _ hne] at h
   by_cases e : l' = l
   · subst e; simp
   · rw [upd_ne _ _ e]; exact hr.rment l1 r h cs hcs l' hl'
 · intro g cs hg
   obtain ⟨h1,h2,h3⟩ := hr.glob g cs hg
   exact ⟨((keep []).im g h1 h2).1,h2,CellsR.mono (keep []).toKeeps cs g 0 h1 h2 h3⟩
 · intro l' hl'
   obtain ⟨h1,h2⟩ := hr.stab l' hl'
   refine ⟨?_,fun h => h2 (hlive l' h).1⟩
   by_cases e : l' = l
   · subst e; simp
   · rw [upd_ne _ _ e]; exact h1
theorem RelB.addRow (hr : RelB K β env H a w) (l : Lb) (hu : H l = .unused) {r : Row} {w' : World} (gw : Grew w w') (b : Option Nat)
   (hb : ∀ g,b = some g → w.heap.size ≤ g) (hm : ∀ cs ∈ r.els,∀ l' ∈ lbss cs,H l' ≠ .unused)
   (hrow : RowR w' (upd β l b) (upd H l (.live r)) (Im K (upd β l b) (upd H l (.live r))) l r) : RelB K (upd β l b) env (upd H l (.live r)) a w' := by
 have hlive : ∀ l',live (upd H l (.live r)) l' → l' ≠ l → live H l' := by
   intro l' ⟨r',h⟩ e
   rw [upd_ne _ _ e] at h; exact ⟨r',h⟩
 have keep : ∀ ls,(∀ l' ∈ ls,H l' ≠ .unused) → Keeps2 w w' β (upd β l b) H (upd H l (.live r)) (Im K β H) (Im K (upd β l b) (upd H l (.live r))) ls := fun ls hls =>
   { im := fun k hk hs => ⟨⟨hk.1,fun l' hl' => by
       by_cases e : l' = l
       · subst e
         simp only [upd_same]
         intro hbk
         have := hb k hbk
         omega
       · rw [upd_ne _ _ e]; exact hk.2 l' (hlive l' hl' e)⟩,Nat.lt_of_lt_of_le hs gw.size,gw.block k hs⟩
     lb := fun l' hl'' hl' => by
       have e : l' ≠ l := fun e => hls l' hl'' (e ▸ hu)
       refine ⟨hlive l' hl' e,upd_ne _ _ e,fun g S _ hS => ?_⟩
       unfold bsz at *
       rwa [gw.block g (bsz_lt hS)] }
 have hold : ∀ l' r',l' ≠ l → H l' = .live r' → RowR w' (upd β l b) (upd H l (.live r)) (Im K (upd β l b) (upd H l (.live r))) l' r' := by
   intro l' r' e h
   obtain ⟨h1,h2,h3⟩ := hr.rows l' r' h
   refine ⟨h1,h2,?_⟩
   rw [upd_ne _ _ e]
   cases hb' : β l' with
   | none => simpa [hb'] using h3
   | some g =>
     simp only [hb'] at h3 ⊢
     obtain ⟨cur,e0,cap,e1,e2,e3,e4,e5⟩ := h3
     refine ⟨cur,e0,cap,(gw.block g (Array.getElem?_eq_some_iff.1 e1).1).trans e1,e2,e3,e4,fun i j cs x hi hj => ?_⟩
     obtain ⟨v,k1,k2⟩ := e5 i j cs x hi hj
     exact ⟨v,k1,RV.mono _ _ (keep _ (fun q hq => hr.rment l' r' h cs (List.mem_of_getElem? hi) q (lbss_get _ _ _ hj q hq))) k2⟩
 refine ⟨hr.defers,hr.size,fun n => RV.mono _ _ (keep _ (hr.ment n)) (hr.regs n),?_,?_,?_,?_,?_,hr.frame.grew gw,?_,?_,?_⟩
 · intro l' r' h
   by_cases e : l' = l
   · subst e
     simp at h; subst h
     exact hrow
   · rw [upd_ne _ _ e] at h
     exact hold l' r' e h
 · intro l' g h hg
   by_cases e : l' = l
   · subst e
     simp at hg
     exact .inr (Nat.le_trans hr.frame.size (hb g hg))
   · rw [upd_ne _ _ e] at hg
     exact hr.own l' g (hlive l' h e) hg
 · intro l1 l2 g h1 h2 g1 g2
   by_cases e1 : l1 = l
   · by_cases e2 : l2 = l
     · rw [e1,e2]
     · subst e1
       simp at g1
       rw [upd_ne _ _ e2] at g2
       have := hb g g1
       have := hr.blk_lt (hlive l2 h2 e2) g2
       omega
   · rw [upd_ne _ _ e1] at g1
     by_cases e2 : l2 = l
     · subst e2
       simp at g2
       have := hb g g2
       have := hr.blk_lt (hlive l1 h1 e1) g1
       omega
     · rw [upd_ne _ _ e2] at g2
       exact hr.inj l1 l2 g (hlive l1 h1 e1) (hlive l2 h2 e2) g1 g2
 · intro n l' hl'
   by_cases e : l' = l
   · subst e; simp
   · rw [upd_ne _ _ e]; exact hr.ment n l' hl'
 · intro l1 r1 h cs hcs l' hl'
   by_cases e : l' = l
   · subst e; simp
   · rw [upd_ne _ _ e]
     by_cases e1 : l1 = l
     · subst e1
       simp at h; subst h
       exact hm cs hcs l' hl'
     · rw [upd_ne _ _ e1] at h
       exact hr.rment l1 r1 h cs hcs l' hl'
 · intro g cs hg
   obtain ⟨h1,h2,h3⟩ := hr.glob g cs hg
   exact ⟨((keep [] (by simp)).im g h1 h2).1,Nat.lt_of_lt_of_le h2 gw.size,CellsR.mono (keep [] (by simp)).toKeeps cs g 0 h1 h2 h3⟩
 · intro l' hl'
   obtain ⟨h1,h2⟩ := hr.stab l' hl'
   have e : l' ≠ l := fun e => h1 (e ▸ hu)
   refine ⟨by rw [upd_ne _ _ e]; exact h1,fun h => ?_⟩
   rw [upd_ne _ _ e]; exact h2 (hlive l' h e)
 · intro l' g h hf hg
   by_cases e : l' = l
   · subst e
     simp at hg
     exact Nat.le_trans hr.frame.size (hb g hg)
   · rw [upd_ne _ _ e] at hg
     exact hr.fr l' g (hlive l' h e) hf hg
theorem RelB.relabel (hr : RelB K β env H a w) (l l' : Lb) {r : Row} (hl : H l = .live r) (hu : H l' = .unused) (hf : l'.fresh = true → l.fresh = true) : RelB K (upd β l' (β l)) env (upd (upd H l .dead) l' (.live r)) a w := by
 have hne : l ≠ l' := fun e => by rw [e,hu] at hl; cases hl
 have hlive : ∀ q,live (upd (upd H l .dead) l' (.live r)) q → q ≠ l' → live H q ∧ q ≠ l := by
   intro q ⟨r',h⟩ e
   rw [upd_ne _ _ e] at h
   by_cases e2 : q = l
   · subst e2; simp at h
   · rw [upd_ne _ _ e2] at h; exact ⟨⟨r',h⟩,e2⟩
 have keep : ∀ ls,(∀ q ∈ ls,H q ≠ .unused) → Keeps2 w w β (upd β l' (β l)) H (upd (upd H l .dead) l' (.live r)) (Im K β H) (Im K (upd β l' (β l)) (upd (upd H l .dead) l' (.live r))) ls := fun ls hls =>
   { im := fun k hk hs => ⟨⟨hk.1,fun q hq => by
       by_cases e : q = l'
       · subst e
         simp only [upd_same]
         exact hk.2 l ⟨r,hl⟩
       · rw [upd_ne _ _ e]; exact hk.2 q (hlive q hq e).1⟩,hs,rfl⟩
     lb := fun q hq hq' => by
       have e : q ≠ l' := fun e => hls q hq (e ▸ hu)
       exact ⟨(hlive q hq' e).1,upd_ne _ _ e,fun _ _ _ h => h⟩ }
 have hold : ∀ q r',H q = .live r' → ∀ (b : Option Nat),b = β q → 0 < r'.sz ∧ (∀ cs ∈ r'.els,cs.length = r'.sz) ∧
     match b with
     | none => r'.els = []
     | some g => ∃ cur e cap,w.heap[g]? = some (.cells cur e (0,0)) ∧ cur.size = cap * r'.sz ∧ cap ≤ maxLen ∧ r'.els.length ≤ cap ∧
         ∀ i j cs x,r'.els[i]? = some cs → cs[j]? = some x → ∃ v,cur[i * r'.sz + j]? = some v ∧ RV w (upd β l' (β l)) (upd (upd H l .dead) l' (.live r)) (Im K (upd β l' (β l)) (upd (upd H l .dead) l' (.live r))) x v := by
   intro q r' h b hb
   subst hb
   obtain ⟨h1,h2,h3⟩ := hr.rows q r' h
   refine ⟨h1,h2,?_⟩
   cases hb' : β q with
   | none => simpa [hb'] using h3
   | some g =>
     simp only [hb'] at h3 ⊢
     obtain ⟨cur,e0,cap,e1,e2,e3,e4,e5⟩ := h3
     refine ⟨cur,e0,cap,e1,e2,e3,e4,fun i j cs x hi hj => ?_⟩
     obtain ⟨v,k1,k2⟩ := e5 i j cs x hi hj
     exact ⟨v,k1,RV.mono _ _ (keep _ (fun p hp => hr.rment q r' h cs (List.mem_of_getElem? hi) p (lbss_get _ _ _ hj p hp))) k2⟩
 refine ⟨hr.defers,hr.size,fun n => RV.mono _ _ (keep _ (hr.ment n)) (hr.regs n),?_,?_,?_,?_,?_,hr.frame,?_,?_,?_⟩
 · intro q r' h
   by_cases e : q = l'
   · subst e
     simp at h; subst h
     exact hold l r hl _ (by simp)
   · rw [upd_ne _ _ e] at h
     by_cases e2 : q = l
     · subst e2; simp at h
     · rw [upd_ne _ _ e2] at h
       exact hold q r' h _ (upd_ne _ _ e)
 · intro q g h hg
   by_cases e : q = l'
   · subst e
     simp at hg
     exact hr.own l g ⟨r,hl⟩ hg
   · rw [upd_ne _ _ e] at hg
     exact hr.own q g (hlive q h e).1 hg
 · intro l1 l2 g h1 h2 g1 g2
   by_cases e1 : l1 = l'
   · by_cases e2 : l2 = l'
     · rw [e1,e2]
     · subst e1
       simp at g1
       rw [upd_ne _ _ e2] at g2
       exact absurd (hr.inj l2 l g (hlive l2 h2 e2).1 ⟨r,hl⟩ g2 g1) (hlive l2 h2 e2).2
   · rw [upd_ne _ _ e1] at g1
     by_cases e2 : l2 = l'
     · subst e2
       simp at g2
       exact absurd (hr.inj l1 l g (hlive l1 h1 e1).1 ⟨r,hl⟩ g1 g2) (hlive l1 h1 e1).2
     · rw [upd_ne _ _ e2] at g2
       exact hr.inj l1 l2 g (hlive l1 h1 e1).1 (hlive l2 h2 e2).1 g1 g2
 · intro n q hq
   by_cases e : q = l'
   · subst e; simp
   · rw [upd_ne _ _ e]
     by_cases e2 : q = l
     · subst e2; simp
     · rw [upd_ne _ _ e2]; exact hr.ment n q hq
 · intro l1 r1 h cs hcs q hq
   by_cases e : q = l'
   · subst e; simp
   · rw [upd_ne _ _ e]
     by_cases e2 : q = l
     · subst e2; simp
     · rw [upd_ne _ _ e2]
       by_cases e1 : l1 = l'
       · subst e1
         simp at h; subst h
         exact hr.rment l r hl cs hcs q hq
       · rw [upd_ne _ _ e1] at h
         by_cases e3 : l1 = l
         · subst e3; simp at h
         · rw [upd_ne _ _ e3] at h
           exact hr.rment l1 r1 h cs hcs q hq
 · intro g cs hg
   obtain ⟨h1,h2,h3⟩ := hr.glob g cs hg
   exact ⟨((keep [] (by simp)).im g h1 h2).1,h2,CellsR.mono (keep [] (by simp)).toKeeps cs g 0 h1 h2 h3⟩
 · intro q hq
   obtain ⟨h1,h2⟩ := hr.stab q hq
   have e : q ≠ l' := fun e => h1 (e ▸ hu)
   refine ⟨?_,fun h => ?_⟩
   · rw [upd_ne _ _ e]
     by_cases e2 : q = l
     · subst e2; simp
     · rw [upd_ne _ _ e2]; exact h1
   · rw [upd_ne _ _ e]; exact h2 (hlive q h e).1
 · intro q g h hq hg
   by_cases e : q = l'
   · subst e
     simp at hg
     exact hr.fr l g ⟨r,hl⟩ (hf hq) hg
   · rw [upd_ne _ _ e] at hg
     exact hr.fr q g (hlive q h e).1 hq hg
theorem bsz_setRow {w : World} {g : Nat} {cur cur' : Array Value} {e : TypeId} {fr : Nat × Nat} (hg : w.heap[g]? = some (.cells cur e fr)) (hs : cur'.size = cur.size) (k S : Nat) (h : bsz w k = some S) :
   bsz (w.setRow g cur') k = some S := by
 by_cases e : k = g
 · subst e
   unfold bsz at *
   rw [setRow_heap w k cur cur' _ fr hg]
   simp only [hg] at h
   simp only [hs]; exact h
 · unfold bsz at *
   rwa [setRow_other w g k cur' e]
theorem RelB.setRow (hr : RelB K β env H a w) (l : Lb) {r r' : Row} {g : Nat} {cur cur' : Array Value} {e : TypeId} {cap : Nat} (hl : H l = .live r) (hb : β l = some g)
   (hg : w.heap[g]? = some (.cells cur e (0,0))) (hs : cur'.size = cur.size) (hsz : r'.sz = r.sz) (hcap : cur.size = cap * r.sz) (hcm : cap ≤ maxLen) (hlen : r'.els.length ≤ cap)
   (hcs : ∀ cs ∈ r'.els,cs.length = r.sz) (hm : ∀ cs ∈ r'.els,∀ l' ∈ lbss cs,H l' ≠ .unused)
   (hc : ∀ i j cs x,r'.els[i]? = some cs → cs[j]? = some x → ∃ v,cur'[i * r.sz + j]? = some v ∧ RV w β H (Im K β H) x v) :
   RelB K β env (upd H l (.live r')) a (w.setRow g cur') := by
 have hlive : ∀ q,live (upd H l (.live r')) q ↔ live H q := by
   intro q
   by_cases e : q = l
   · subst e; simp [live,hl]
   · simp [live,upd_ne _ _ e]
 have him : ∀ k,Im K β (upd H l (.live r')) k ↔ Im K β H k := by
   intro k
   simp only [Im,hlive]
 have keep : ∀ ls,Keeps2 w (w.setRow g cur') β β H (upd H l (.live r')) (Im K β H) (Im K β (upd H l (.live r'))) ls := fun ls =>
   { im := fun k hk hk2 => by
       have hne : k ≠ g := fun e => hk.2 l ⟨r,hl⟩ (e ▸ hb)
       exact ⟨(him k).2 hk,by simpa [World.setRow] using hk2,setRow_other w g k cur' hne⟩
     lb := fun q _ hq => ⟨(hlive q).1 hq,rfl,fun g' S _ h => bsz_setRow hg hs g' S h⟩ }
 refine ⟨hr.defers,hr.size,fun n => RV.mono _ _ (keep _) (hr.regs n),?_,fun q g' h => hr.own q g' ((hlive q).1 h),fun l1 l2 g' h1 h2 => hr.inj l1 l2 g' ((hlive l1).1 h1) ((hlive l2).1 h2),?_,?_,?_,?_,?_,fun q g' h => hr.fr q g' ((hlive q).1 h)⟩
 · intro q r1 h
   by_cases e1 : q = l
   · subst e1
     simp at h; subst h
     refine ⟨by rw [hsz]; exact (hr.rows q r hl).1,by rw [hsz]; exact hcs,?_⟩
     simp only [hb]
     refine ⟨cur',e,cap,setRow_heap w g cur cur' e (0,0) hg,by rw [hs,hcap,hsz],hcm,hlen,fun i j cs x hi hj => ?_⟩
     obtain ⟨v,k1,k2⟩ := hc i j cs x hi hj
     exact ⟨v,by rw [hsz]; exact k1,RV.mono _ _ (keep _) k2⟩
   · rw [upd_ne _ _ e1] at h
     obtain ⟨h1,h2,h3⟩ := hr.rows q r1 h
     refine ⟨h1,h2,?_⟩
     cases hb' : β q with
     | none => simpa [hb'] using h3
     | some g' =>
       simp only [hb'] at h3 ⊢
       have hne : g' ≠ g := fun e => e1 (hr.inj q l g ⟨r1,h⟩ ⟨r,hl⟩ (e ▸ hb') hb)
       obtain ⟨cur1,e0,cap1,k1,k2,k3,k4,k5⟩ := h3
       refine ⟨cur1,e0,cap1,(setRow_other w g g' cur' hne).trans k1,k2,k3,k4,fun i j cs x hi hj => ?_⟩
       obtain ⟨v,j1,j2⟩ := k5 i j cs x hi hj
       exact ⟨v,j1,RV.mono _ _ (keep _) j2⟩
 · intro n q hq
   by_cases e1 : q = l
   · subst e1; simp
   · rw [upd_ne _ _ e1]; exact hr.ment n q hq
 · intro l1 r1 h cs hcs' q hq
   by_cases e1 : q = l
   · subst e1; simp
   · rw [upd_ne _ _ e1]
     by_cases e2 : l1 = l
     · subst e2
       simp at h; subst h
       exact hm cs hcs' q hq
     · rw [upd_ne _ _ e2] at h
       exact hr.rment l1 r1 h cs hcs' q hq
 · refine ⟨hr.frame.os,hr.frame.tape,hr.frame.output,by simpa [World.setRow] using hr.frame.size,fun k hk hd => ?_,fun k S hS => bsz_setRow hg hs k S (hr.frame.bs k S hS)⟩
   have hne : k ≠ g := by
     intro e1
     subst e1
     rcases hr.own l k ⟨r,hl⟩ hb with h1 | h1
     · exact hd h1
     · omega
   rw [setRow_other w g k cur' hne]
   exact hr.frame.block k hk hd
 · intro k cs hk
   obtain ⟨h1,h2,h3⟩ := hr.glob k cs hk
   exact ⟨((keep []).im k h1 h2).1,((keep []).im k h1 h2).2.1,CellsR.mono (keep []).toKeeps cs k 0 h1 h2 h3⟩
 · intro q hq
   obtain ⟨h1,h2⟩ := hr.stab q hq
   refine ⟨?_,fun h => h2 ((hlive q).1 h)⟩
   by_cases e1 : q = l
   · subst e1; simp
   · rw [upd_ne _ _ e1]; exact h1
end
end Go.Am

/- THE ABSTRACT MACHINE, part 9: the instructions that read, make and write owned rows. -/
namespace Go.Am
open Go Go.RowKit
def loadV (m : Option Nat) (x : AV) (H : Hp) : Option AV :=
 match x with
 | .ptr l sz i j => match H l with
   | .live r => if r.sz = sz then (r.els[i]?).bind fun cs => match m with
       | none => cs[j]?
       | some k => if j + k ≤ cs.length then some (.agg ((cs.drop j).take k)) else none
     else none
   | _ => none
 | _ => none
def storeV (m : Nat) (a x : AV) (H : Hp) : Option Hp :=
 match a with
 | .ptr l sz i j => match H l with
   | .live r => if r.sz = sz ∧ x.stb = true ∧ x.cells.length = m then (r.els[i]?).bind fun cs =>
       if j + m ≤ cs.length then some (upd H l (.live ⟨sz,r.els.set i (cs.take j ++ x.cells ++ cs.drop (j + m))⟩)) else none
     else none
   | _ => none
 | _ => none
def StepR (K : Kx) (env : Env) (a : Act) (w : World) (o : Oper) (d : Option Nat) (x : AV) (H' : Hp) : Prop :=
 ∃ nx w' β' v,(execOp a.eval o).run K.P w = .ok nx w' ∧ (nx = .value v ∨ (nx = .skip ∧ v = undef)) ∧ RelB K β' (putO env d x) H' (a.put d v) w'
section
variable {K : Kx} {β : Lb → Option Nat} {env : Env} {H : Hp} {a : Act} {w : World}
theorem StepV.r {o : Oper} {x : AV} {d : Option Nat} (hr : RelB K β env H a w) (hd : ∀ n,d = some n → n < K.N) (h : StepV K β H a w o x) : StepR K env a w o d x H := by
 obtain ⟨v,w',h1,h2,h3,h4⟩ := h
 exact ⟨_,w',β,v,h1,.inl rfl,hr.step h2 hd (fun _ => h3) (fun _ => h4)⟩
theorem RowR.block {l : Lb} {r : Row} {g : Nat} {I : Nat → Prop} (h : RowR w β H I l r) (hb : β l = some g) :
   ∃ cur e cap,w.heap[g]? = some (.cells cur e (0,0)) ∧ cur.size = cap * r.sz ∧ cap ≤ maxLen ∧ r.els.length ≤ cap ∧
     ∀ i j cs x,r.els[i]? = some cs → cs[j]? = some x → ∃ v,cur[i * r.sz + j]? = some v ∧ RV w β H I x v := by
 obtain ⟨_,_,h3⟩ := h
 simpa only [hb] using h3
theorem elem_vals {r : Row} {cur : Array Value} {I : Nat → Prop} {i : Nat} {cs : List AV} (hi : r.els[i]? = some cs)
   (h : ∀ i j cs x,r.els[i]? = some cs → cs[j]? = some x → ∃ v,cur[i * r.sz + j]? = some v ∧ RV w β H I x v) :
   ∃ vs : List Value,vs.length = cs.length ∧ RVs w β H I cs vs ∧ ∀ j v,vs[j]? = some v → cur[i * r.sz + j]? = some v := by
 have key : ∀ (n : Nat) (ds : List AV),ds = cs.drop n → ∃ vs : List Value,vs.length = ds.length ∧ RVs w β H I ds vs ∧ ∀ j v,vs[j]? = some v → cur[i * r.sz + (n + j)]? = some v := by
   intro n ds
   induction ds generalizing n with
   | nil => intro _; exact ⟨[],rfl,by simp [RVs],by simp⟩
   | cons x ds ih =>
     intro e
     have hx : cs[n]? = some x := by rw [← List.head?_drop,← e]; rfl
     have hd : ds = cs.drop (n + 1) := by rw [← List.tail_drop,← e]; rfl
     obtain ⟨v,h1,h2⟩ := h i n cs x hi hx
     obtain ⟨vs,k1,k2,k3⟩ := ih (n + 1) hd
     refine ⟨v :: vs,by simp [k1],⟨v,vs,rfl,h2,k2⟩,?_⟩
     intro j u hj
     cases j with
     | zero => simp at hj; subst hj; simpa using h1
     | succ j =>
       have := k3 j u (by simpa using hj)
       rwa [show n + 1 + j = n + (j + 1) by omega] at this
 obtain ⟨vs,k1,k2,k3⟩ := key 0 cs (by simp)
 exact ⟨vs,k1,k2,fun j v hj => by simpa using k3 j v hj⟩
theorem AV.stb_cells {x : AV} (h : x.stb = true) : ∀ y ∈ x.cells,y.one = true := by
 cases x <;> simp [AV.stb,AV.one] at h <;> simp [AV.cells,AV.one]
 exact h
def StepE (K : Kx) (β : Lb → Option Nat) (H : Hp) (a : Act) (w : World) (o : Oper) (x : AV) : Prop :=
 ∃ v,(execOp a.eval o).run K.P w = .ok (.value v) w ∧ RV w β H (Im K β H) x v ∧ ∀ l ∈ x.lbs,H l ≠ .unused
theorem StepE.v {o : Oper} {x : AV} (h : StepE K β H a w o x) : StepV K β H a w o x := by
 obtain ⟨v,h1,h2,h3⟩ := h
 exact .same h1 h2 h3
theorem StepE.same {o : Oper} {x : AV} {v : Value} (h : (execOp a.eval o).run K.P w = .ok (.value v) w)
   (hv : RV w β H (Im K β H) x v) (hm : ∀ l ∈ x.lbs,H l ≠ .unused) : StepE K β H a w o x := ⟨v,h,hv,hm⟩
theorem r_loadE (hr : RelB K β env H a w) {o : Oper} {t : TypeId} {x : Operand} {x' : O} {m : Option Nat} (ho : o.op = .load t x) (hm : mOf K.P t = some m) (hx : co K.G x = some x') {y : AV}
   (hy : loadV m (ev env x') H = some y) : StepE K β H a w o y := by
 have h := hr.ev hx
 unfold loadV at hy
 split at hy
 · rename_i l sz i j e
   rw [e] at h
   simp only [RV] at h
   obtain ⟨ad,h1,h2⟩ := h
   split at hy
   · rename_i r hl
     split at hy
     · rename_i hsz
       subst hsz
       obtain ⟨cs,hi,hy⟩ := Option.bind_eq_some_iff.1 hy
       obtain ⟨g,hb,rfl⟩ := h2 ⟨r,hl⟩
       obtain ⟨cur,e0,cap,k1,k2,k3,k4,k5⟩ := (hr.rows l r hl).block hb
       obtain ⟨vs,v1,v2,v3⟩ := elem_vals hi k5
       have hcell : ∀ q v,vs[q]? = some v → w.cell? ⟨g,i * r.sz + q,none⟩ = some v := by
         intro q v hq
         rw [cell_of_row w g _ cur e0 (0,0) k1]
         exact v3 q v hq
       have run : ∀ v,(loadVar t ⟨g,i * r.sz + j,none⟩).run K.P w = .ok v w → (execOp a.eval o).run K.P w = .ok (.value v) w := by
         intro v hv
         simp [execOp,ho,h1,Instr.loadAt,Instr.sureAddr,hv]
       have hment : ∀ q ∈ lbss cs,H q ≠ .unused := hr.rment l r hl cs (List.mem_of_getElem? hi)
       cases m with
       | none =>
         simp only at hy
         obtain ⟨v,e1,e2⟩ := RVs.get _ _ _ _ v2 hy
         exact StepE.same (run v (run_loadVar_one hm _ _ (hcell j v e1))) e2 (fun q hq => hment q (lbss_get _ _ _ hy q hq))
       | some k =>
         simp only at hy
         split at hy
         · rename_i hk
           simp only [Option.some.injEq] at hy; subst hy
           refine StepE.same (run (.agg ((vs.drop j).take k).toArray) (run_loadVar_agg hm _ _ (by simp; omega) (fun q v hq => ?_))) ⟨_,rfl,RVs.take _ _ _ (RVs.drop _ _ _ v2)⟩ ?_
           · rw [List.getElem?_take] at hq
             split at hq
             · rw [List.getElem?_drop] at hq
               rw [addr_add,Nat.add_assoc]
               exact hcell _ v hq
             · simp at hq
           · intro q hq
             simp only [AV.lbs] at hq
             refine hment q ?_
             have happ : ∀ (l m : List AV),lbss (l ++ m) = lbss l ++ lbss m := by
               intro l m
               induction l with
               | nil => rfl
               | cons x r ih => simp [lbss,ih]
             have e1 := happ (cs.take j) (cs.drop j)
             rw [List.take_append_drop] at e1
             have e2 := happ ((cs.drop j).take k) ((cs.drop j).drop k)
             rw [List.take_append_drop] at e2
             rw [e1,e2]
             exact List.mem_append.2 (.inr (List.mem_append.2 (.inl hq)))
         · simp at hy
     · simp at hy
   · simp at hy
 · simp at hy
theorem r_load (hr : RelB K β env H a w) {o : Oper} {t : TypeId} {x : Operand} {x' : O} {m : Option Nat} (ho : o.op = .load t x) (hm : mOf K.P t = some m) (hx : co K.G x = some x') {y : AV}
   (hy : loadV m (ev env x') H = some y) : StepV K β H a w o y := (r_loadE hr ho hm hx hy).v
theorem r_new (hr : RelB K β env H a w) {o : Oper} {c : Array Value} {e : TypeId} {cs : List AV} {d : Nat} (hd : d < K.N)
   (hrun : (execOp a.eval o).run K.P w = .ok (.value (.pointer (some ⟨w.heap.size,0,none⟩))) (w.alloc (.cells c e)))
   (hc : RVs w β H (Im K β H) cs c.toList) (h0 : 0 < cs.length) (hmax : cs.length ≤ maxLen) (hm : ∀ l ∈ lbss cs,H l ≠ .unused) (hu : H (.loc d) = .unused) :
   StepR K env a w o (some d) (.ptr (.loc d) cs.length 0 0) (upd H (.loc d) (.live ⟨cs.length,[cs]⟩)) := by
 have gw := grew_alloc w (.cells c e)
 have hlen : c.size = cs.length := by rw [← RVs.len _ _ hc]; simp
 have keep : Keeps2 w (w.alloc (.cells c e)) β (upd β (.loc d) (some w.heap.size)) H (upd H (.loc d) (.live ⟨cs.length,[cs]⟩)) (Im K β H)
     (Im K (upd β (.loc d) (some w.heap.size)) (upd H (.loc d) (.live ⟨cs.length,[cs]⟩))) (lbss cs) :=
   { im := fun k hk hs => ⟨⟨hk.1,fun l' ⟨r',hl'⟩ => by
       by_cases e1 : l' = .loc d
       · subst e1; simp; omega
       · rw [upd_ne _ _ e1] at hl' ⊢; exact hk.2 l' ⟨r',hl'⟩⟩,Nat.lt_of_lt_of_le hs gw.size,gw.block k hs⟩
     lb := fun l' hl'' ⟨r',hl'⟩ => by
       have e1 : l' ≠ .loc d := fun e1 => hm l' hl'' (e1 ▸ hu)
       rw [upd_ne _ _ e1] at hl'
       refine ⟨⟨r',hl'⟩,upd_ne _ _ e1,fun g S _ hS => ?_⟩
       unfold bsz at *
       rwa [gw.block g (bsz_lt hS)] }
 have hrow : RowR (w.alloc (.cells c e)) (upd β (.loc d) (some w.heap.size)) (upd H (.loc d) (.live ⟨cs.length,[cs]⟩))
     (Im K (upd β (.loc d) (some w.heap.size)) (upd H (.loc d) (.live ⟨cs.length,[cs]⟩))) (.loc d) ⟨cs.length,[cs]⟩ := by
   refine ⟨h0,by simp,?_⟩
   simp only [upd_same]
   refine ⟨c,e,1,heap_alloc_new w (.cells c e),by simp [hlen],by simp [maxLen],by simp,fun i j cs' x hi hj => ?_⟩
   cases i with
   | succ i => simp at hi
   | zero =>
     simp at hi; subst hi
     obtain ⟨v,k1,k2⟩ := RVs.get _ _ _ _ hc hj
     refine ⟨v,by simpa using k1,RV.mono _ _ (keep.sub (fun l hl => lbss_get _ _ _ hj l hl)) k2⟩
 have h2 := hr.addRow (.loc d) hu gw (some w.heap.size) (by simp) (by simpa using hm) hrow
 have h3 := h2.step (Below.refl _ _) (d := some d) (x := .ptr (.loc d) cs.length 0 0) (v := .pointer (some ⟨w.heap.size,0,none⟩)) (by simpa using hd)
   (fun _ => by simp only [RV]; exact ⟨_,rfl,fun _ => ⟨w.heap.size,by simp,by simp⟩⟩) (by simp [AV.lbs])
 exact ⟨_,_,_,_,hrun,.inl rfl,h3⟩
theorem r_box (hr : RelB K β env H a w) {o : Oper} {t : TypeId} {x : Operand} {x' : O} {d : Nat} (hd : d < K.N) (ho : o.op = .box t x) (hx : co K.G x = some x') (hst : (ev env x').stb = true)
   (h0 : 0 < (ev env x').cells.length) (hmax : (ev env x').cells.length ≤ maxLen) (hu : H (.loc d) = .unused) :
   StepR K env a w o (some d) (.ptr (.loc d) (ev env x').cells.length 0 0) (upd H (.loc d) (.live ⟨(ev env x').cells.length,[(ev env x').cells]⟩)) := by
 have h := hr.ev hx
 have hm := hr.ev_ment hx
 obtain ⟨k1,k2⟩ := RVs.cells_len h (AV.stb_or hst)
 refine r_new hr hd (c := (a.eval x).cells) (e := t) ?_ k2 h0 hmax ?_ hu
 · simp [execOp,ho,Instr.box,newVar,newRow]
 · intro l hl
   refine hm l ?_
   cases hc : ev env x' <;> simp [hc,AV.cells,lbss] at hl <;> simp [AV.lbs] at hl ⊢ <;> exact hl
theorem lbss_cvs : ∀ (l : List Value) (xs : List AV),cvs l = some xs → lbss xs = []
 | [],xs,h => by simp [cvs] at h; subst h; rfl
 | v :: r,xs,h => by
   simp only [cvs,Option.bind_eq_some_iff,Option.map_eq_some_iff] at h
   obtain ⟨x,h1,s,h2,rfl⟩ := h
   simp [lbss,cv_lbs h1,lbss_cvs r s h2]
theorem r_alloc (hr : RelB K β env H a w) {o : Oper} {t : TypeId} {i : TypeInfo} {z : Value} {cs : List AV} {d : Nat} (hd : d < K.N) (ho : o.op = .alloc t) (hi : K.P.info? t = some i) (hz : i.zero = some z)
   (hcv : cvs z.cells.toList = some cs) (h0 : 0 < cs.length) (hmax : cs.length ≤ maxLen) (hu : H (.loc d) = .unused) :
   StepR K env a w o (some d) (.ptr (.loc d) cs.length 0 0) (upd H (.loc d) (.live ⟨cs.length,[cs]⟩)) := by
 refine r_new hr hd (c := z.cells) (e := t) ?_ (cvs_rv _ _ hcv _ _ _ _) h0 hmax (by simp [lbss_cvs _ _ hcv]) hu
 simp [execOp,ho,Instr.alloc,zeroValue,typeInfo,hi,hz,newVar,newRow]
theorem r_store (hr : RelB K β env H a w) {o : Oper} {t : TypeId} {x y : Operand} {x' y' : O} {m : Nat} (ho : o.op = .store t x y) (hm : tsz K.P t = some m) (hx : co K.G x = some x') (hy : co K.G y = some y') {H' : Hp}
   (hs : storeV m (ev env x') (ev env y') H = some H') : StepR K env a w o none .un H' := by
 have h := hr.ev hx
 have h2 := hr.ev hy
 have hmy := hr.ev_ment hy
 unfold storeV at hs
 split at hs
 · rename_i l sz i j e
   rw [e] at h
   simp only [RV] at h
   obtain ⟨ad,h1,h3⟩ := h
   split at hs
   · rename_i r hl
     split at hs
     · rename_i hc
       obtain ⟨hsz,hst,hlen⟩ := hc
       subst hsz
       obtain ⟨cs,hi,hs⟩ := Option.bind_eq_some_iff.1 hs
       split at hs
       · rename_i hjm
         simp only [Option.some.injEq] at hs; subst hs
         obtain ⟨g,hb,rfl⟩ := h3 ⟨r,hl⟩
         obtain ⟨cur,e0,cap,k1,k2,k3,k4,k5⟩ := (hr.rows l r hl).block hb
         obtain ⟨c1,c2⟩ := RVs.cells_len h2 (AV.stb_or hst)
         have hil : i < r.els.length := (List.getElem?_eq_some_iff.1 hi).1
         have hcl : cs.length = r.sz := (hr.rows l r hl).2.1 cs (List.mem_of_getElem? hi)
         have hbound : i * r.sz + r.sz ≤ cur.size := by
           rw [k2,← Nat.succ_mul]
           exact Nat.mul_le_mul_right _ (by omega)
         have hvl : (a.eval y).cells.toList.length = m := by simp; omega
         have hst' := run_storeCells_at K.P g (i * r.sz + j) e0 (a.eval y).cells.toList 0 cur w k1 (by omega) (by
           intro u hu
           obtain ⟨q,hq⟩ := List.getElem?_of_mem hu
           have hql : q < (ev env y').cells.length := by
             have := (List.getElem?_eq_some_iff.1 hq).1
             omega
           obtain ⟨u',e1,e2⟩ := RVs.get _ _ q _ c2 (List.getElem?_eq_getElem hql)
           rw [hq] at e1; cases e1
           exact RV.oneCell e2 (AV.stb_cells hst _ (List.getElem_mem hql)))
         simp only [Nat.add_zero] at hst'
         have hrun : (execOp a.eval o).run K.P w = .ok .skip (w.setRow g (cur.toList.take (i * r.sz + j) ++ (a.eval y).cells.toList ++ cur.toList.drop (i * r.sz + j + (a.eval y).cells.toList.length)).toArray) := by
           have hne : ¬ (a.eval y).cells.size ≠ m := by simp at hvl; simp [hvl]
           simp only [execOp,ho,h1,Instr.storeAt,Instr.sureAddr,Sem.run_bind,Sem.run_pure,Result.andThen_ok,storeVar,run_sizeOf' hm,Sem.run_ite,hne,if_false,hst']
         have hsize : (cur.toList.take (i * r.sz + j) ++ (a.eval y).cells.toList ++ cur.toList.drop (i * r.sz + j + (a.eval y).cells.toList.length)).toArray.size = cur.size := by
           simp only [List.size_toArray,List.length_append,List.length_take,List.length_drop,Array.length_toList]
           simp at hvl
           omega
         have hrel := hr.setRow l (r' := ⟨r.sz,r.els.set i (cs.take j ++ (ev env y').cells ++ cs.drop (j + m))⟩) hl hb k1 hsize rfl k2 k3 (by simpa using k4) ?_ ?_ ?_
         · have := hrel.step (Below.refl _ _) (d := none) (x := .un) (v := undef) (by simp) (by simp) (by simp)
           exact ⟨_,_,_,_,hrun,.inr ⟨rfl,rfl⟩,this⟩
         · intro ds hds
           rcases List.mem_or_eq_of_mem_set hds with hds | rfl
           · exact (hr.rows l r hl).2.1 ds hds
           · simp; omega
         · intro ds hds q hq
           rcases List.mem_or_eq_of_mem_set hds with hds | rfl
           · exact hr.rment l r hl ds hds q hq
           · have happ : ∀ (l m : List AV),lbss (l ++ m) = lbss l ++ lbss m := by
               intro l m
               induction l with
               | nil => rfl
               | cons x r ih => simp [lbss,ih]
             rw [happ,happ,List.mem_append,List.mem_append] at hq
             have hcs := hr.rment l r hl cs (List.mem_of_getElem? hi)
             rcases hq with (hq | hq) | hq
             · have e1 := happ (cs.take j) (cs.drop j)
               rw [List.take_append_drop] at e1
               exact hcs q (by rw [e1]; exact List.mem_append.2 (.inl hq))
             · refine hmy q ?_
               cases hc : ev env y' <;> simp [hc,AV.cells,lbss] at hq <;> simp [AV.lbs] at hq ⊢ <;> exact hq
             · have e1 := happ (cs.take (j + m)) (cs.drop (j + m))
               rw [List.take_append_drop] at e1
               exact hcs q (by rw [e1]; exact List.mem_append.2 (.inr hq))
         · intro i' j' ds x hi' hj'
           have hlc : (a.eval y).cells.toList.length = m := hvl
           have hget : ∀ n,((cur.toList.take (i * r.sz + j) ++ (a.eval y).cells.toList ++ cur.toList.drop (i * r.sz + j + (a.eval y).cells.toList.length)).toArray)[n]? =
               if n < i * r.sz + j then cur[n]? else if n < i * r.sz + j + m then (a.eval y).cells.toList[n - (i * r.sz + j)]? else cur[n]? := by
             intro n
             rw [hlc]
             have ht : (cur.toList.take (i * r.sz + j)).length = i * r.sz + j := by simp; omega
             simp only [List.getElem?_toArray]
             by_cases hn1 : n < i * r.sz + j
             · rw [if_pos hn1,List.append_assoc,List.getElem?_append_left (by omega),List.getElem?_take,if_pos hn1]; simp
             · rw [if_neg hn1]
               by_cases hn2 : n < i * r.sz + j + m
               · rw [if_pos hn2,List.append_assoc,List.getElem?_append_right (by omega),ht,List.getElem?_append_left (by omega)]
               · rw [if_neg hn2,List.getElem?_append_right (by simp only [List.length_append]; omega)]
                 simp only [List.length_append,ht,hlc,List.getElem?_drop,Array.getElem?_toList]
                 congr 1; omega
           by_cases e1 : i' = i
           · subst e1
             rw [List.getElem?_set_self hil] at hi'
             simp only [Option.some.injEq] at hi'; subst hi'
             have htl : (cs.take j).length = j := by simp; omega
             rw [List.append_assoc] at hj'
             by_cases hj1 : j' < j
             · rw [List.getElem?_append_left (by omega),List.getElem?_take,if_pos hj1] at hj'
               obtain ⟨v,q1,q2⟩ := k5 i' j' cs x hi hj'
               exact ⟨v,by rw [hget,if_pos (by omega)]; exact q1,q2⟩
             · rw [List.getElem?_append_right (by omega),htl] at hj'
               by_cases hj2 : j' < j + m
               · rw [List.getElem?_append_left (by omega)] at hj'
                 obtain ⟨v,q1,q2⟩ := RVs.get _ _ _ _ c2 hj'
                 refine ⟨v,?_,q2⟩
                 rw [hget,if_neg (by omega),if_pos (by omega),show i' * r.sz + j' - (i' * r.sz + j) = j' - j by omega]
                 exact q1
               · rw [List.getElem?_append_right (by omega),List.getElem?_drop] at hj'
                 have hjj : j + m + (j' - j - (ev env y').cells.length) = j' := by omega
                 rw [hjj] at hj'
                 obtain ⟨v,q1,q2⟩ := k5 i' j' cs x hi hj'
                 exact ⟨v,by rw [hget,if_neg (by omega),if_neg (by omega)]; exact q1,q2⟩
           · rw [List.getElem?_set_ne (Ne.symm e1)] at hi'
             obtain ⟨v,q1,q2⟩ := k5 i' j' ds x hi' hj'
             refine ⟨v,?_,q2⟩
             have hj'' : j' < r.sz := by
               have := (hr.rows l r hl).2.1 ds (List.mem_of_getElem? hi')
               have := (List.getElem?_eq_some_iff.1 hj').1
               omega
             have hdis : i' * r.sz + j' < i * r.sz ∨ i * r.sz + r.sz ≤ i' * r.sz + j' := by
               rcases Nat.lt_or_gt_of_ne e1 with hlt | hgt
               · left
                 have := Nat.mul_le_mul_right r.sz (show i' + 1 ≤ i by omega)
                 rw [Nat.add_mul] at this; omega
               · right
                 have := Nat.mul_le_mul_right r.sz (show i + 1 ≤ i' by omega)
                 rw [Nat.add_mul] at this; omega
             rw [hget]
             rcases hdis with hdis | hdis
             · rw [if_pos (by omega)]; exact q1
             · rw [if_neg (by omega),if_neg (by omega)]; exact q1
       · simp at hs
     · simp at hs
   · simp at hs
 · simp at hs
end
end Go.Am

/- THE ABSTRACT MACHINE, part 10: append. -/
namespace Go.Am
open Go Go.RowKit
open Classical in
noncomputable def srcE (sz : Nat) (x : AV) (H : Hp) : Option (List (List AV)) :=
 match x with
 | .nil0 => some []
 | .list xs => if Elsz sz xs then some (xs.map fun y => y.cells.map IV.av1) else none
 | .str s => if sz = 1 then some (s.map fun c => [.int .u8 c.toNat]) else none
 | .sl l s i n => match H l with
   | .live r => if s = sz ∧ r.sz = sz ∧ i + n ≤ r.els.length then some ((r.els.drop i).take n) else none
   | _ => none
 | .slk l s i n _ => match H l with
   | .live r => if s = sz ∧ r.sz = sz ∧ i + n ≤ r.els.length then some ((r.els.drop i).take n) else none
   | _ => none
 | _ => none
def AV.one1 (x : List AV) : Prop := ∀ y ∈ x,y.one = true
open Classical in
noncomputable def appV (sz bytes d : Nat) (s x : AV) (H : Hp) : Option (AV × Hp) :=
 (srcE sz x H).bind fun news => if ¬ (∀ cs ∈ news,AV.one1 cs) then none else
   match s with
   | .nil0 => if news.length * bytes ≤ 140737488355328 ∧ 0 < bytes ∧ H (.loc d) = .unused then some (.sl (.loc d) sz 0 news.length,upd H (.loc d) (.live ⟨sz,news⟩)) else none
   | .sl l s' i n => match H l with
     | .live r => if s' = sz ∧ r.sz = sz ∧ i = 0 ∧ n ≤ r.els.length ∧ (n + news.length) * bytes ≤ 140737488355328 ∧ 0 < bytes ∧ l ≠ l.app d ∧ H (l.app d) = .unused then
         some (.sl (l.app d) sz 0 (n + news.length),upd (upd H l .dead) (l.app d) (.live ⟨sz,r.els.take n ++ news⟩)) else none
     | _ => none
   | .slk l s' i n c => match H l with
     | .live r => if s' = sz ∧ r.sz = sz ∧ i = 0 ∧ n ≤ r.els.length ∧ 0 < bytes ∧ l ≠ .loc d then
         (if n + news.length ≤ c then (if n + news.length ≤ r.els.length then some (.slk l sz 0 (n + news.length) c,upd H l (.live ⟨sz,r.els.take n ++ news ++ r.els.drop (n + news.length)⟩)) else none)
         else (if (n + news.length) * bytes ≤ 140737488355328 ∧ H (.loc d) = .unused then some (.sl (.loc d) sz 0 (n + news.length),upd H (.loc d) (.live ⟨sz,r.els.take n ++ news⟩)) else none)) else none
     | _ => none
   | _ => none
section
variable {P : Program} {w : World}
theorem run_append_in {st xt ty e : TypeId} {i : TypeInfo} (hu : P.underlying st = some (.slice e)) (hi : P.info? e = some i) {d : TypeDesc} (hx : P.underlying xt = some d) (hd : d = .string ∨ ∃ e2,d = .slice e2)
   (ad : Option Addr) (n c m : Nat) (xv : Value) (vals : Array Value) (hlen : (Builtin.lenOf xv).run P w = .ok m w) (hf : (Builtin.firstCells i.size m xv).run P w = .ok vals w) (hle : n + m ≤ c) :
   (Builtin.append_ #[st,xt] ty #[.slice ad n c,xv]).run P w = match ad with
     | none => .ok (.slice none (n + m) c) w
     | some q => ((storeCells (q.add (n * i.size)) vals.toList).run P w).andThen fun _ w' => .ok (.slice (some q) (n + m) c) w' := by
 rcases hd with rfl | ⟨e2,rfl⟩ <;> cases ad <;> simp [Builtin.append_,run_underlying hu,run_underlying hx,sizeOf,typeInfo,hi,hlen,hf,hle]
theorem run_append_out {st xt ty e : TypeId} {i : TypeInfo} {z : Value} (hu : P.underlying st = some (.slice e)) (hi : P.info? e = some i) (hz : i.zero = some z) {d : TypeDesc} (hx : P.underlying xt = some d) (hd : d = .string ∨ ∃ e2,d = .slice e2)
   (ad : Option Addr) (n c m : Nat) (xv : Value) (vals olds : Array Value) (hlen : (Builtin.lenOf xv).run P w = .ok m w) (hf : (Builtin.firstCells i.size m xv).run P w.drew = .ok vals w.drew)
   (ho : (Builtin.firstCells i.size n (.slice ad n c)).run P w.drew = .ok olds w.drew) (hgt : c < n + m) (hb : (n + m) * i.bytes ≤ 140737488355328) (hb0 : 0 < i.bytes) :
   (Builtin.append_ #[st,xt] ty #[.slice ad n c,xv]).run P w = .ok (.slice (some ⟨w.heap.size,0,none⟩) (n + m) (grownCap w (n + m) c e))
     (w.drew.alloc (.cells (olds ++ vals ++ Builtin.zeroCells z.cells (grownCap w (n + m) c e - (n + m))) e)) := by
 have hn : ¬ (n + m ≤ c) := by omega
 have h63 : n + m ≤ (n + m) * i.bytes := Nat.le_mul_of_pos_right _ hb0
 have h63' : ¬ (9223372036854775807 < ((n : Int) + (m : Int))) := by omega
 have h48' : ¬ (281474976710656 < Builtin.nextslicecap (n + m) c * i.bytes) := by have := growslice_fits hgt hb; omega
 rcases hd with rfl | ⟨e2,rfl⟩ <;> simp [Builtin.append_,run_underlying hu,run_underlying hx,sizeOf,typeInfo,zeroValue,hi,hz,hlen,hn,h63',h48',Question.forced,hf,ho,newRow,grownCap]
end
section
variable {K : Kx} {β : Lb → Option Nat} {env : Env} {H : Hp} {a : Act} {w : World}
theorem elems_vals {I : Nat → Prop} {sz : Nat} (h0 : 0 < sz) : ∀ (xs : List IV) (b o : Nat),Elsz sz xs → ElemsR w I xs b o sz →
   ∃ vals : List Value,vals.length = xs.length * sz ∧ (∀ j v,vals[j]? = some v → w.cell? ⟨b,o + j,none⟩ = some v) ∧
     ∀ i j x y,xs[i]? = some x → (x.cells.map IV.av1)[j]? = some y → ∃ v,vals[i * sz + j]? = some v ∧ RV w β H I y v
 | [],b,o,_,_ => ⟨[],by simp,by simp,by simp⟩
 | x :: r,b,o,hs,he => by
   simp only [ElemsR] at he
   obtain ⟨h1,h2⟩ := he
   obtain ⟨vr,k1,k2,k3⟩ := elems_vals h0 r b (o + sz) (fun y hy => hs y (by simp [hy])) h2
   have hx := (ElemR_iff w I x b o sz).1 h1
   obtain ⟨vx,e1,e2,e3⟩ := RVs.map_av1 (β := β) (H := H) x.cells b o hx.2
   have hl : vx.length = sz := by rw [e2,hx.1]
   refine ⟨vx ++ vr,by simp [hl,k1,Nat.add_mul]; omega,?_,?_⟩
   · intro j v hj
     by_cases hjs : j < sz
     · rw [List.getElem?_append_left (by omega)] at hj
       exact e3 j v hj
     · rw [List.getElem?_append_right (by omega),hl] at hj
       have := k2 _ v hj
       rwa [show o + sz + (j - sz) = o + j by omega] at this
   · intro i j x' y hi hj
     cases i with
     | zero =>
       simp at hi; subst hi
       obtain ⟨v,q1,q2⟩ := RVs.get _ _ _ _ e1 hj
       refine ⟨v,?_,q2⟩
       have : j < vx.length := (List.getElem?_eq_some_iff.1 q1).1
       simp only [Nat.zero_mul,Nat.zero_add]
       rw [List.getElem?_append_left this]; exact q1
     | succ i =>
       obtain ⟨v,q1,q2⟩ := k3 i j x' y (by simpa using hi) hj
       refine ⟨v,?_,q2⟩
       rw [Nat.add_mul,Nat.one_mul,List.getElem?_append_right (by omega),hl,show i * sz + sz + j - sz = i * sz + j by omega]
       exact q1
structure Src (K : Kx) (β : Lb → Option Nat) (H : Hp) (w : World) (sz : Nat) (xv : Value) (news : List (List AV)) (vals : List Value) : Prop where
 len : vals.length = news.length * sz
 lenOf : (Builtin.lenOf xv).run K.P w = .ok news.length w
 cellsK : ∀ k,k ≤ news.length → ∀ w1,(w1 = w ∨ w1 = w.drew) → (Builtin.firstCells sz k xv).run K.P w1 = .ok (vals.take (k * sz)).toArray w1
 rv : ∀ i j cs y,news[i]? = some cs → cs[j]? = some y → ∃ v,vals[i * sz + j]? = some v ∧ RV w β H (Im K β H) y v
 sz' : ∀ cs ∈ news,cs.length = sz
 ment : ∀ cs ∈ news,∀ l ∈ lbss cs,H l ≠ .unused
theorem Src.cells {K : Kx} {β : Lb → Option Nat} {H : Hp} {w : World} {sz : Nat} {xv : Value} {news : List (List AV)} {vals : List Value} (S : Src K β H w sz xv news vals) :
   ∀ w1,(w1 = w ∨ w1 = w.drew) → (Builtin.firstCells sz news.length xv).run K.P w1 = .ok vals.toArray w1 := fun w1 hw1 => by
 rw [S.cellsK _ (Nat.le_refl _) w1 hw1,List.take_of_length_le (Nat.le_of_eq S.len)]
theorem src_run (hr : RelB K β env H a w) {x : Operand} {x' : O} {sz : Nat} {news : List (List AV)} (hx : co K.G x = some x') (h0 : 0 < sz) (hs : srcE sz (ev env x') H = some news) :
   ∃ vals,Src K β H w sz (a.eval x) news vals := by
 have h := hr.ev hx
 unfold srcE at hs
 split at hs
 · rename_i e
   rw [e] at h
   simp only [Option.some.injEq] at hs; subst hs
   simp only [RV] at h
   obtain ⟨ad,h⟩ := h
   rw [h]
   refine ⟨[],by simp,by simp [Builtin.lenOf],?_,by simp,by simp,by simp⟩
   intro k hk w1 _
   have hk0 : k = 0 := by simpa using hk
   subst hk0
   cases ad with
   | none => simp [Builtin.firstCells]
   | some q => simp [Builtin.firstCells,loadCells,loadCellsFrom]
 · rename_i xs e
   rw [e] at h
   split at hs
   · rename_i hel
     simp only [Option.some.injEq] at hs; subst hs
     simp only [RV,IVR] at h
     obtain ⟨ad,c,h1,h2,h3,h4⟩ := h
     rw [h1]
     rcases h4 with h4 | ⟨b,o',sz',rfl,e1,e2,e3,e4⟩
     · have : xs = [] := List.eq_nil_of_length_eq_zero h4
       subst this
       refine ⟨[],by simp,by simp [Builtin.lenOf],?_,by simp,by simp,by simp⟩
       intro k hk w1 _
       have hk0 : k = 0 := by simpa using hk
       subst hk0
       cases ad with
       | none => simp [Builtin.firstCells]
       | some q => simp [Builtin.firstCells,loadCells,loadCellsFrom]
     · by_cases hn : xs = []
       · subst hn
         refine ⟨[],by simp,by simp [Builtin.lenOf],?_,by simp,by simp,by simp⟩
         intro k hk w1 _
         have hk0 : k = 0 := by simpa using hk
         subst hk0
         simp [Builtin.firstCells,loadCells,loadCellsFrom]
       · have hsz := ElemsR_sz e4 hel (List.length_pos_iff.2 hn)
         subst hsz
         obtain ⟨vals,k1,k2,k3⟩ := elems_vals (β := β) (H := H) h0 xs b o' hel e4
         refine ⟨vals,by simpa using k1,by simp [Builtin.lenOf],?_,?_,?_,?_⟩
         · intro k hk w1 hw1
           simp only [List.length_map] at hk
           have hkl : k * sz' ≤ vals.length := by rw [k1]; exact Nat.mul_le_mul_right _ (by simpa using hk)
           refine run_firstCells_some (P := K.P) w1 _ k ⟨b,o',none⟩ xs.length c _ (by rw [List.length_take]; omega) (fun j v hj => ?_)
           rw [addr_add]
           replace hj : vals[j]? = some v := by
             rw [List.getElem?_take] at hj
             split at hj
             · exact hj
             · simp at hj
           rcases hw1 with rfl | rfl
           · exact k2 j v hj
           · simpa using k2 j v hj
         · intro i j cs y hi hj
           simp only [List.getElem?_map,Option.map_eq_some_iff] at hi
           obtain ⟨x0,hi,rfl⟩ := hi
           exact k3 i j x0 y hi hj
         · intro cs hcs
           simp only [List.mem_map] at hcs
           obtain ⟨x0,hx0,rfl⟩ := hcs
           simpa using hel x0 hx0
         · intro cs hcs l hl
           simp only [List.mem_map] at hcs
           obtain ⟨x0,hx0,rfl⟩ := hcs
           simp [lbss_map_av1] at hl
   · simp at hs
 · rename_i s e
   rw [e] at h
   split at hs
   · rename_i h1
     subst h1
     simp only [Option.some.injEq] at hs; subst hs
     simp only [RV] at h
     rw [h]
     refine ⟨s.map fun c => .int .u8 c.toNat,by simp,by simp [Builtin.lenOf,size_str],?_,?_,?_,?_⟩
     · intro k hk w1 _
       have e1 : (⟨s.toArray⟩ : ByteArray).extract 0 k = ⟨(s.take k).toArray⟩ := by
         apply ByteArray.ext
         rw [ByteArray.data_extract]
         simp
       simp [Builtin.firstCells,e1,List.map_take]
     · intro i j cs y hi hj
       simp only [List.getElem?_map,Option.map_eq_some_iff] at hi
       obtain ⟨c,hi,rfl⟩ := hi
       cases j with
       | succ j => simp at hj
       | zero =>
         simp at hj; subst hj
         exact ⟨.int .u8 c.toNat,by simp [hi],by simp [RV]⟩
     · intro cs hcs
       simp only [List.mem_map] at hcs
       obtain ⟨c,_,rfl⟩ := hcs
       rfl
     · intro cs hcs l hl
       simp only [List.mem_map] at hcs
       obtain ⟨c,_,rfl⟩ := hcs
       simp [lbss,AV.lbs] at hl
   · simp at hs
 · rename_i l s i n e
   rw [e] at h
   split at hs
   · rename_i r hl
     split at hs
     · rename_i hc
       obtain ⟨rfl,hsz,hin⟩ := hc
       subst hsz
       simp only [Option.some.injEq] at hs; subst hs
       simp only [RV] at h
       obtain ⟨ad,c,h1,h2,h3,h4,h5⟩ := h
       rw [h1]
       have hnl : ((r.els.drop i).take n).length = n := by simp; omega
       by_cases hn : n = 0
       · subst hn
         refine ⟨[],by simp,by simp [Builtin.lenOf],?_,by simp,by simp,by simp⟩
         intro k hk w1 _
         have hk0 : k = 0 := by simpa using hk
         subst hk0
         cases ad with
         | none => simp [Builtin.firstCells]
         | some q => simp [Builtin.firstCells,loadCells,loadCellsFrom]
       · rcases h5 ⟨r,hl⟩ with h6 | ⟨g,S,e1,rfl,e3,e4⟩
         · omega
         · obtain ⟨cur,e0,cap,k1,k2,k3,k4,k5⟩ := (hr.rows l r hl).block e1
           have hS : cur.size = S := by
             unfold bsz at e3
             simp only [k1] at e3
             simpa using e3
           have hb : i * r.sz + n * r.sz ≤ cur.size := by
             rw [k2,← Nat.add_mul]
             exact Nat.mul_le_mul_right _ (by omega)
           refine ⟨(cur.toList.drop (i * r.sz)).take (n * r.sz),by rw [hnl]; simp; omega,by rw [hnl]; simp [Builtin.lenOf],?_,?_,?_,?_⟩
           · intro k hk w1 hw1
             rw [hnl] at hk
             have hkn := Nat.mul_le_mul_right r.sz hk
             refine run_firstCells_some (P := K.P) w1 _ k ⟨g,i * r.sz,none⟩ n c _ (by simp; omega) (fun j v hj => ?_)
             rw [addr_add]
             replace hj : ((cur.toList.drop (i * r.sz)).take (n * r.sz))[j]? = some v := by
               rw [List.getElem?_take] at hj
               split at hj
               · exact hj
               · simp at hj
             have hcell : w.cell? ⟨g,i * r.sz + j,none⟩ = some v := by
               rw [cell_of_row w g _ cur e0 (0,0) k1]
               rw [List.getElem?_take] at hj
               split at hj
               · simpa using hj
               · simp at hj
             rcases hw1 with rfl | rfl
             · exact hcell
             · simpa using hcell
           · intro i' j cs y hi hj
             rw [List.getElem?_take] at hi
             split at hi
             · rename_i hlt
               rw [List.getElem?_drop] at hi
               obtain ⟨v,q1,q2⟩ := k5 _ j cs y hi hj
               have hjs : j < r.sz := by
                 have := (hr.rows l r hl).2.1 cs (List.mem_of_getElem? hi)
                 have := (List.getElem?_eq_some_iff.1 hj).1
                 omega
               refine ⟨v,?_,q2⟩
               have hlt2 : i' * r.sz + j < n * r.sz := by
                 have := Nat.mul_le_mul_right r.sz (show i' + 1 ≤ n by omega)
                 rw [Nat.add_mul] at this; omega
               rw [List.getElem?_take,if_pos hlt2,List.getElem?_drop,Array.getElem?_toList,← q1]
               congr 1
               rw [Nat.add_mul]; omega
             · simp at hi
           · intro cs hcs
             exact (hr.rows l r hl).2.1 cs (List.mem_of_mem_drop (List.mem_of_mem_take hcs))
           · intro cs hcs
             exact hr.rment l r hl cs (List.mem_of_mem_drop (List.mem_of_mem_take hcs))
     · simp at hs
   · simp at hs
 · rename_i l s i n c0 e
   rw [e] at h
   split at hs
   · rename_i r hl
     split at hs
     · rename_i hc
       obtain ⟨rfl,hsz,hin⟩ := hc
       subst hsz
       simp only [Option.some.injEq] at hs; subst hs
       simp only [RV] at h
       obtain ⟨ad,h1,h2,h3,h4,h5⟩ := h
       rw [h1]
       have hnl : ((r.els.drop i).take n).length = n := by simp; omega
       by_cases hn : n = 0
       · subst hn
         refine ⟨[],by simp,by simp [Builtin.lenOf],?_,by simp,by simp,by simp⟩
         intro k hk w1 _
         have hk0 : k = 0 := by simpa using hk
         subst hk0
         cases ad with
         | none => simp [Builtin.firstCells]
         | some q => simp [Builtin.firstCells,loadCells,loadCellsFrom]
       · rcases h5 ⟨r,hl⟩ with h6 | ⟨g,S,e1,rfl,e3,e4⟩
         · omega
         · obtain ⟨cur,e0,cap,k1,k2,k3,k4,k5⟩ := (hr.rows l r hl).block e1
           have hS : cur.size = S := by
             unfold bsz at e3
             simp only [k1] at e3
             simpa using e3
           have hb : i * r.sz + n * r.sz ≤ cur.size := by
             rw [k2,← Nat.add_mul]
             exact Nat.mul_le_mul_right _ (by omega)
           refine ⟨(cur.toList.drop (i * r.sz)).take (n * r.sz),by rw [hnl]; simp; omega,by rw [hnl]; simp [Builtin.lenOf],?_,?_,?_,?_⟩
           · intro k hk w1 hw1
             rw [hnl] at hk
             have hkn := Nat.mul_le_mul_right r.sz hk
             refine run_firstCells_some (P := K.P) w1 _ k ⟨g,i * r.sz,none⟩ n c0 _ (by simp; omega) (fun j v hj => ?_)
             rw [addr_add]
             replace hj : ((cur.toList.drop (i * r.sz)).take (n * r.sz))[j]? = some v := by
               rw [List.getElem?_take] at hj
               split at hj
               · exact hj
               · simp at hj
             have hcell : w.cell? ⟨g,i * r.sz + j,none⟩ = some v := by
               rw [cell_of_row w g _ cur e0 (0,0) k1]
               rw [List.getElem?_take] at hj
               split at hj
               · simpa using hj
               · simp at hj
             rcases hw1 with rfl | rfl
             · exact hcell
             · simpa using hcell
           · intro i' j cs y hi hj
             rw [List.getElem?_take] at hi
             split at hi
             · rename_i hlt
               rw [List.getElem?_drop] at hi
               obtain ⟨v,q1,q2⟩ := k5 _ j cs y hi hj
               have hjs : j < r.sz := by
                 have := (hr.rows l r hl).2.1 cs (List.mem_of_getElem? hi)
                 have := (List.getElem?_eq_some_iff.1 hj).1
                 omega
               refine ⟨v,?_,q2⟩
               have hlt2 : i' * r.sz + j < n * r.sz := by
                 have := Nat.mul_le_mul_right r.sz (show i' + 1 ≤ n by omega)
                 rw [Nat.add_mul] at this; omega
               rw [List.getElem?_take,if_pos hlt2,List.getElem?_drop,Array.getElem?_toList,← q1]
               congr 1
               rw [Nat.add_mul]; omega
             · simp at hi
           · intro cs hcs
             exact (hr.rows l r hl).2.1 cs (List.mem_of_mem_drop (List.mem_of_mem_take hcs))
           · intro cs hcs
             exact hr.rment l r hl cs (List.mem_of_mem_drop (List.mem_of_mem_take hcs))
     · simp at hs
   · simp at hs
 · simp at hs
end
end Go.Am
