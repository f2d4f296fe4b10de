import Derived.Test.YtfinkeaikbmpgaaKT92
import Derived.Laws.Externs
import Derived.Test.YtfinkeaikbmpgaaKT8
import Derived.Test.YtfinkeaikbmpgaaKAm33
import Derived.Test.YtfinkeaikbmpgaaKAm23
import Derived.Test.YtfinkeaikbmpgaaKS3
import Derived.Lib.Bytealg
import Derived.Test.YtfinkeaikbmpgaaKAm27
import Derived.Test.YtfinkeaikbmpgaaKT4
set_option linter.unusedSimpArgs false
set_option linter.unusedVariables false
set_option linter.unnecessarySimpa false
set_option linter.defProp false
/- THE ABSTRACT MACHINE, part 49: names for what a call makes; nil handed back as one's own. -/
namespace Go.Am
open Go Go.RowKit
def p2 (a b : Nat) : Nat := 2 ^ a * (2 * b + 1)
theorem p2_inj : ∀ {a b c d : Nat},p2 a b = p2 c d → a = c ∧ b = d
 | 0,b,0,d,h => by simp [p2] at h; omega
 | 0,b,c + 1,d,h => by
   simp only [p2,Nat.pow_succ,Nat.pow_zero,Nat.one_mul] at h
   have : 2 ^ c * 2 * (2 * d + 1) = 2 * (2 ^ c * (2 * d + 1)) := by rw [Nat.mul_comm (2 ^ c) 2,Nat.mul_assoc]
   omega
 | a + 1,b,0,d,h => by
   simp only [p2,Nat.pow_succ,Nat.pow_zero,Nat.one_mul] at h
   have : 2 ^ a * 2 * (2 * b + 1) = 2 * (2 ^ a * (2 * b + 1)) := by rw [Nat.mul_comm (2 ^ a) 2,Nat.mul_assoc]
   omega
 | a + 1,b,c + 1,d,h => by
   have h2 : p2 a b = p2 c d := by
     simp only [p2,Nat.pow_succ] at h ⊢
     have e1 : 2 ^ a * 2 * (2 * b + 1) = 2 * (2 ^ a * (2 * b + 1)) := by rw [Nat.mul_comm (2 ^ a) 2,Nat.mul_assoc]
     have e2 : 2 ^ c * 2 * (2 * d + 1) = 2 * (2 ^ c * (2 * d + 1)) := by rw [Nat.mul_comm (2 ^ c) 2,Nat.mul_assoc]
     omega
   have := p2_inj h2
   omega
def Lb.enc : Lb → Nat
 | .loc n => p2 0 n
 | .par n => p2 1 n
 | .gen n => p2 2 n
 | .nest l i j => p2 3 (p2 l.enc (p2 i j))
theorem Lb.enc_inj : ∀ l l' : Lb,l.enc = l'.enc → l = l'
 | .loc n,.loc m,h => by rw [(p2_inj h).2]
 | .par n,.par m,h => by rw [(p2_inj h).2]
 | .gen n,.gen m,h => by rw [(p2_inj h).2]
 | .nest l i j,.nest l' i' j',h => by
   have h1 := p2_inj (p2_inj h).2
   have h2 := p2_inj h1.2
   rw [Lb.enc_inj l l' h1.1,h2.1,h2.2]
 | .loc n,.par m,h => by have := (p2_inj h).1; omega
 | .loc n,.gen m,h => by have := (p2_inj h).1; omega
 | .loc n,.nest _ _ _,h => by have := (p2_inj h).1; omega
 | .par n,.loc m,h => by have := (p2_inj h).1; omega
 | .par n,.gen m,h => by have := (p2_inj h).1; omega
 | .par n,.nest _ _ _,h => by have := (p2_inj h).1; omega
 | .gen n,.loc m,h => by have := (p2_inj h).1; omega
 | .gen n,.par m,h => by have := (p2_inj h).1; omega
 | .gen n,.nest _ _ _,h => by have := (p2_inj h).1; omega
 | .nest _ _ _,.loc m,h => by have := (p2_inj h).1; omega
 | .nest _ _ _,.par m,h => by have := (p2_inj h).1; omega
 | .nest _ _ _,.gen m,h => by have := (p2_inj h).1; omega
def NW (c : Nat) (l : Lb) : Lb := .nest (.loc c) l.enc 1
theorem NW_inj (c : Nat) : ∀ l l',NW c l = NW c l' → l = l' := fun l l' h => Lb.enc_inj _ _ (by simpa [NW] using h)
def NC (c : Nat) (l : Lb) : Lb := .nest l c 2
theorem NC_inj (c : Nat) : ∀ l l',NC c l = NC c l' → l = l' := fun l l' h => by simpa [NC] using h
def rwSh (sz : Nat) (xs : List IV) : Shp where
 row _ p := if p = 0 then some ⟨sz,immE xs⟩ else none
 nat lab ρ p := by by_cases h : p = 0 <;> simp [h,renR_immE]
 lbs lab p r h cs hcs q hq := by
   by_cases h0 : p = 0
   · simp [h0] at h; subst h
     rw [lbss_immE hcs] at hq; simp at hq
   · simp [h0] at h
theorem rwSh_ok {sz : Nat} {xs : List IV} {p : Nat} : (rwSh sz xs).ok p ↔ p = 0 := by
 unfold Shp.ok rwSh; by_cases h : p = 0 <;> simp [h]
def noSh : Shp where
 row _ _ := none
 nat _ _ _ := rfl
 lbs _ _ _ h := by cases h
theorem noSh_ok {p : Nat} : ¬ noSh.ok p := by simp [Shp.ok,noSh]
theorem inS_no : inS noSh = Hp.none := by
 funext q
 exact shH_ne _ fun p hp => absurd hp noSh_ok
abbrev OwnC (P : Program) (G : Nat → Option (List IV)) (f : Nat) (args : List AV) (sz : Nat) (xs : List IV) : Prop :=
 ShC P G f args noSh [] fun X R2 => X = (fun lab => .sl (lab 0) sz 0 xs.length) ∧ R2 = rwSh sz xs
theorem own_of_go {P : Program} {G : Nat → Option (List IV)} {f : Nat} {n : Nat} {rs : List RO} {ac : AC} {args : List AV} {sz : Nat} {xs : List IV}
   (hF : compF P G f = some (n,rs,ac.bare)) (hn : args.length ≤ n) (ha : lbss args = [])
   (hg : go ⟨P,G,n⟩ (RetP rs fun x H' => ∃ L,x = .sl L sz 0 xs.length ∧ H' L = .live ⟨sz,immE xs⟩) [.code ac] (argE args) Hp.none) : OwnC P G f args sz xs := by
 refine ⟨by rw [ha]; simp,?_⟩
 rw [inS_no]
 refine (spec_of_go hF hn (by intro l ⟨r,h⟩; simp [Hp.none] at h) (by rw [ha]; simp) hg).mono ?_
 rintro x H ⟨L,hx,hL⟩
 refine ⟨⟨fun lab => .sl (lab 0) sz 0 xs.length,rwSh sz xs,fun _ => L⟩,⟨rfl,rfl⟩,fun ρ => rfl,fun l hl => ⟨0,rwSh_ok.2 rfl,?_⟩,hx,⟨fun p r hr => ?_,fun p q hp hq _ => (rwSh_ok.1 hp).trans (rwSh_ok.1 hq).symm⟩,by simp⟩
 · rw [hx] at hl; simpa [AV.lbs] using hl
 · simp only [rwSh] at hr
   by_cases h : p = 0
   · simp [h] at hr; subst hr; exact hL
   · simp [h] at hr
end Go.Am

/- THE ABSTRACT MACHINE, part 39: a slice's room, made known; rows cut short. -/
namespace Go.Am
open Go Go.RowKit
section
variable {S : St} {env : Env} {H : Hp}
theorem RelB.row_same {K : Kx} {β : Lb → Option Nat} {a : Act} {w : World} (hr : RelB K β env H a w) {l : Lb} {sz : Nat} {els els' : List (List AV)} (hl : H l = .live ⟨sz,els⟩) (g : Nat) (hb : β l = some g)
   (hlen : ∀ cur e cap,w.heap[g]? = some (.cells cur e (0,0)) → cur.size = cap * sz → els.length ≤ cap → els'.length ≤ cap) (hcs : ∀ cs ∈ els',cs.length = sz) (hm : ∀ cs ∈ els',∀ q ∈ lbss cs,H q ≠ .unused)
   (hc : ∀ (i j : Nat) cs x,els'[i]? = some cs → cs[j]? = some x → x = .any ∨ ∃ cs0,els[i]? = some cs0 ∧ cs0[j]? = some x) : RelB K β env (upd H l (.live ⟨sz,els'⟩)) a w := by
 obtain ⟨cur,e0,cap,k1,k2,k3,k4,k5⟩ := (hr.rows l _ hl).block hb
 have hset := hr.setRow l (r' := ⟨sz,els'⟩) (cur' := cur) (cap := cap) hl hb k1 rfl rfl k2 k3 (hlen cur e0 cap k1 k2 k4) hcs hm (by
   intro i j cs x hi hj
   rcases hc i j cs x hi hj with rfl | ⟨cs0,h1,h2⟩
   · have hjs : j < sz := by
       have := hcs cs (List.mem_of_getElem? hi)
       have := (List.getElem?_eq_some_iff.1 hj).1
       omega
     have hil : i < els'.length := (List.getElem?_eq_some_iff.1 hi).1
     have hcap := hlen cur e0 cap k1 k2 k4
     have : i * sz + j < cur.size := by
       rw [k2]
       have := Nat.mul_le_mul_right sz (show i + 1 ≤ cap by omega)
       rw [Nat.add_mul] at this
       simp only at this ⊢
       omega
     exact ⟨cur[i * sz + j],Array.getElem?_eq_getElem this,by simp [RV]⟩
   · exact k5 i j cs0 x h1 h2)
 rw [setRow_self w g cur e0 (0,0) k1] at hset
 exact hset
theorem upd_self' {l : Lb} {r : Row} (h : H l = .live r) : upd H l (.live r) = H := by
 funext q
 by_cases e : q = l
 · subst e; simp [h]
 · rw [upd_ne _ _ e]
theorem choice_cap {d : Nat} {l : Lb} {sz n : Nat} {els : List (List AV)} (hd : env d = .sl l sz 0 n) (hl : H l = .live ⟨sz,els⟩) :
   Choice S env H { c : Nat // n ≤ c ∧ c ≤ maxLen } (fun c => put env d (.slk l sz 0 n c.1)) (fun c => upd H l (.live ⟨sz,els ++ List.replicate (c.1 - els.length) (List.replicate sz .any)⟩)) := by
 intro K β a w hS hf hr
 have hv := hr.regs d
 rw [hd] at hv
 simp only [RV] at hv
 obtain ⟨ad,c,h1,h2,h3,h4,h5⟩ := hv
 have hsz : 0 < sz := (hr.rows l _ hl).1
 refine ⟨⟨c,h2,h3⟩,β,?_⟩
 have hrow : RelB K β env (upd H l (.live ⟨sz,els ++ List.replicate (c - els.length) (List.replicate sz .any)⟩)) a w := by
   rcases h5 ⟨_,hl⟩ with h6 | ⟨g,Sz,g1,g2,g3,g4⟩
   · subst h6
     simp only [Nat.zero_sub,List.replicate_zero,List.append_nil]
     rw [upd_self' hl]
     exact hr
   · refine hr.row_same hl g g1 ?_ ?_ ?_ ?_
     · intro cur e cap k1 k2 k4
       have hS : cur.size = Sz := by
         unfold bsz at g3
         simp only [k1] at g3
         simpa using g3
       have : (0 + c) * sz = cap * sz := by rw [g4,← hS,k2]
       have := Nat.eq_of_mul_eq_mul_right hsz this
       simp; omega
     · intro cs hcs
       rcases List.mem_append.1 hcs with h | h
       · exact (hr.rows l _ hl).2.1 cs h
       · rw [List.eq_of_mem_replicate h]; simp
     · intro cs hcs q hq
       rcases List.mem_append.1 hcs with h | h
       · exact hr.rment l _ hl cs h q hq
       · rw [List.eq_of_mem_replicate h] at hq
         have : ∀ m : Nat,lbss (List.replicate m AV.any) = [] := by
           intro m
           induction m with
           | zero => rfl
           | succ m ih => simp [List.replicate_succ,lbss,AV.lbs,ih]
         rw [this] at hq; simp at hq
     · intro i j cs x hi hj
       by_cases h : i < els.length
       · rw [List.getElem?_append_left h] at hi
         exact .inr ⟨cs,hi,hj⟩
       · rw [List.getElem?_append_right (by omega),List.getElem?_replicate] at hi
         split at hi
         · simp only [Option.some.injEq] at hi; subst hi
           rw [List.getElem?_replicate] at hj
           split at hj
           · simp only [Option.some.injEq] at hj
             exact .inl hj.symm
           · simp at hj
         · simp at hi
 refine setSlot hrow d ?_ (by simp [AV.lbs])
 simp only [RV]
 refine ⟨ad,h1,h2,h3,?_,fun _ => h5 ⟨_,hl⟩⟩
 intro hc
 rcases h5 ⟨_,hl⟩ with h6 | ⟨g,Sz,g1,g2,g3,g4⟩
 · omega
 · rw [g2]; rfl
end
end Go.Am

/- THE ABSTRACT MACHINE, part 45: slices whose room was looked at, handed back; slices.overlaps. -/
namespace Go.Am
open Go Go.RowKit
section
variable {K : Kx} {β : Lb → Option Nat} {env : Env} {H : Hp} {a : Act} {w : World}
theorem RelB.trim (hr : RelB K β env H a w) {l : Lb} {sz : Nat} {els : List (List AV)} (k : Nat) (hl : H l = .live ⟨sz,els⟩) : RelB K β env (upd H l (.live ⟨sz,els.take k⟩)) a w := by
 cases hb : β l with
 | none =>
   have := (hr.rows l _ hl).2.2
   simp only [hb] at this
   subst this
   simp only [List.take_nil]
   rw [upd_self' hl]
   exact hr
 | some g =>
   refine hr.row_same hl g hb ?_ ?_ ?_ ?_
   · intro cur e cap k1 k2 k4
     rw [List.length_take]; omega
   · exact fun cs hcs => (hr.rows l _ hl).2.1 cs (List.mem_of_mem_take hcs)
   · exact fun cs hcs => hr.rment l _ hl cs (List.mem_of_mem_take hcs)
   · intro i j cs x hi hj
     rw [List.getElem?_take] at hi
     split at hi
     · exact .inr ⟨cs,hi,hj⟩
     · simp at hi
end
theorem grw_of_goK {P : Program} {G : Nat → Option (List IV)} {f : Nat} {n : Nat} {rs : List RO} {ac : AC} {args : List AV} {sz : Nat} {xs ys : List IV}
   (hF : compF P G f = some (n,rs,ac.bare)) (hn : args.length ≤ n) (ha : ∀ l ∈ lbss args,l = .par 0)
   (hg : go ⟨P,G,n⟩ (RetP rs fun x H' => ∃ L c els,(x = .sl L sz 0 ys.length ∨ x = .slk L sz 0 ys.length c) ∧ H' L = .live ⟨sz,immE ys ++ els⟩) [.code ac] (argE args) (rowX sz xs)) : GrwC P G sz f args xs ys := by
 refine ⟨ha,?_⟩
 have h0 := spec_of_go hF hn ?_ ?_ hg
 · intro w A β vs hr hv
   refine (h0 w A β vs hr hv).mono ?_
   rintro e w' ⟨v,x,H1,β',rfl,⟨L,c,els,hx,hL⟩,hr',hxv,hm⟩
   have ht := hr'.trim ys.length hL
   rw [show (immE ys ++ els).take ys.length = immE ys by rw [← immE_len ys,List.take_left]] at ht
   have hlive : ∀ q,live (upd H1 L (.live ⟨sz,immE ys⟩)) q → live H1 q := by
     rintro q ⟨r,hq⟩
     by_cases e : q = L
     · subst e; exact ⟨_,hL⟩
     · rw [upd_ne _ _ e] at hq; exact ⟨r,hq⟩
   refine ⟨v,.sl L sz 0 ys.length,_,β',rfl,⟨L,rfl,by simp⟩,ht,?_,by simp [AV.lbs]⟩
   simp only [RV]
   rcases hx with rfl | rfl
   · simp only [RV] at hxv
     obtain ⟨ad,c,g1,g2,g3,g4,g5⟩ := hxv
     exact ⟨ad,c,g1,g2,g3,g4,fun hl => g5 (hlive _ hl)⟩
   · simp only [RV] at hxv
     obtain ⟨ad,g1,g2,g3,g4,g5⟩ := hxv
     exact ⟨ad,c,g1,g2,g3,fun h => g4 (by omega),fun hl => g5 (hlive _ hl)⟩
 · rintro l ⟨r,h⟩
   by_cases e : l = .par 0
   · subst e; rfl
   · rw [rowX,upd_ne _ _ e] at h; simp [Hp.none] at h
 · intro l hl
   rw [ha l hl]; simp [rowX]
theorem ext_overlaps {S : St} {f : Nat} {fn : Func} (hf : S.P.funcs[f]? = some fn) (hname : (fn.name == "runtime.NumGoroutine") = false) (hb : fn.body.isNone = true)
   (hn : Extern.findNext fn = none) {tS tR e : TypeId} (he : Extern.find fn = some (Extern.SlicesOverlaps.overlaps #[tS,tS] #[tR])) (ht : S.P.underlying tS = some (.slice e)) {size : Nat} (hz : ∀ w,(Go.sizeOf e).run S.P w = .ok size w)
   {vs : List IV} (hv : vs ≠ []) {l : Lb} {sz i n c : Nat} {r : Row} {H : Hp} (hl : H l = .live r) (h0 : 0 < n) : ExtC S f [.list vs,.slk l sz i n c] H (.bool false) := by
 intro K β env a w ws hS hrel hws
 subst hS
 match ws,hws with
 | [u,v],h =>
   simp only [RVs] at h
   obtain ⟨_,_,e0,h1,_,_,e2,h3,e4⟩ := h
   cases e0; cases e2; cases e4
   simp only [RV,IVR] at h1 h3
   obtain ⟨ad,c1,rfl,g1,g2,g3⟩ := h1
   obtain ⟨ad2,rfl,k1,k2,k3,k4⟩ := h3
   have hvl : vs.length ≠ 0 := fun e => hv (List.length_eq_zero_iff.1 e)
   rcases g3 with g3 | ⟨b,o,s2,rfl,g4,g5,g6,g7⟩
   · exact absurd g3 hvl
   rcases k4 ⟨_,hl⟩ with k4 | ⟨g,Sz,q1,rfl,q3,q4⟩
   · omega
   have hrow := hrel.rows l r hl
   obtain ⟨cur,ee,cap,p1,p2,p3,p4,p5⟩ := hrow.block q1
   obtain ⟨y,vs',rfl⟩ : ∃ y vs',vs = y :: vs' := by cases vs with | nil => exact absurd rfl hv | cons y q => exact ⟨y,q,rfl⟩
   simp only [ElemsR] at g7
   have hcell : ∃ z,w.cell? ⟨b,o,none⟩ = some z := by
     have := g7.1
     rw [ElemR_iff] at this
     obtain ⟨hs,hc⟩ := this
     cases hcs : y.cells with
     | nil => rw [hcs] at hs; simp at hs; omega
     | cons c0 cr =>
       rw [hcs] at hc
       simp only [CellsR] at hc
       obtain ⟨⟨z,hz,_⟩,_⟩ := hc
       exact ⟨z,hz⟩
   obtain ⟨z,hz1⟩ := hcell
   obtain ⟨cb,eb,fb,hblk⟩ : ∃ cb eb fb,w.heap[b]? = some (.cells cb eb fb) := by
     unfold World.cell? at hz1
     simp only at hz1
     split at hz1
     · rename_i cb eb fb hb
       exact ⟨cb,eb,fb,hb⟩
     · cases hz1
   have hcb : cb.size ≠ 0 := by
     intro e
     unfold World.cell? at hz1
     simp only [hblk] at hz1
     simp at hz1
     have : cb = #[] := Array.eq_empty_of_size_eq_zero e
     subst this
     simp at hz1
   have hne : b ≠ g := by
     rintro rfl
     exact g4.2 l ⟨_,hl⟩ q1
   have hnb : (b != g) = true := by simpa using hne
   have hnb' : (b == g) = false := by simpa using hne
   refine ⟨.bool false,w,?_,Below.refl _ _,by simp [RV],by simp [AV.lbs]⟩
   rw [run_callFunc_extern hf hname hb hn he]
   have hover : (Extern.SlicesOverlaps.overlaps #[tS,tS] #[tR] #[.slice (some ⟨b,o,none⟩) (y :: vs').length c1,.slice (some ⟨g,i * sz,none⟩) n c]).run K.P w = .ok (.bool false) w := by
     unfold Extern.SlicesOverlaps.overlaps
     rw[show ∀(p:Option Addr) (k d:Nat) (q:Option Addr) (k' d':Nat) (h1:Option Addr→Nat→Nat→Option Addr→Nat→Nat→Sem Value) (h2:Array Value→Sem Value),Extern.SlicesOverlaps.overlaps.match_4 (fun _=>Sem Value) #[.slice p k d,.slice q k' d'] h1 h2=h1 p k d q k' d' from fun _ _ _ _ _ _ _ _=>rfl]
     have hsa : w.shape? b = some (eb,cb.size) := by simp [World.shape?,hblk]
     have hsb : w.shape? g = some (ee,cur.size) := by simp [World.shape?,p1]
     have hfz : ∀ off,w.frozen? ⟨g,off,none⟩ = false := fun off => by simp [World.frozen?,p1]
     obtain ⟨kB,hkB⟩ : ∃ kB,cb.size = kB + 1 := ⟨cb.size - 1,by omega⟩
     by_cases h0 : (y :: vs').length = 0 ∨ n = 0 ∨ size = 0
     · simp [run_underlying ht,hz,h0]
       rcases h0 with h0 | h0 | h0
       · simp at h0
       · omega
       · simp [h0]
     · have hz0 : size ≠ 0 := fun e => h0 (.inr (.inr e))
       have hn0 : n ≠ 0 := by omega
       cases hfa : w.frozen? ⟨b,o,none⟩ <;> cases hfe : w.frozen? ⟨b,cb.size,none⟩ <;>
         simp [run_underlying ht,hz,h0,hnb,hnb',frozen,noView,viewAt,mayBeOne,stringish,shape,Sem.run,hsa,hsb,hfz,hkB,hfa,hz0,hn0] <;> rw [hkB] at hfe <;> simp [hfe]
   rw [hover]
   rfl
end Go.Am

/- The bench: a document's nodes at work, as rows. -/
namespace Go.Am
open Go Go.RowKit
structure Bn where
 n0 : Nat
 nodes : List Node
 fs : List Int
 as : List Int
def Bn.at (b : Bn) (i : Nat) : List Attr := match b.nodes[i]? with | some x => x.attrs | none => []
def Bn.kd (b : Bn) (i : Nat) : List Int := match b.nodes[i]? with | some x => x.kids | none => []
theorem Bn.at_some {b : Bn} {i : Nat} {x : Node} (h : b.nodes[i]? = some x) : b.at i = x.attrs := by simp [Bn.at,h]
theorem Bn.kd_some {b : Bn} {i : Nat} {x : Node} (h : b.nodes[i]? = some x) : b.kd i = x.kids := by simp [Bn.kd,h]
def bNode (n0 : Nat) (lab : Nat → Lb) (i : Nat) (x : Node) : List AV :=
 [.bool x.text,.str x.s,if i < n0 then .sl (lab (4 + 2 * i)) 2 0 x.attrs.length else .list (ivA x.attrs),.int .i64 x.parent,if i < n0 then .sl (lab (5 + 2 * i)) 1 0 x.kids.length else .list (x.kids.map intIV)]
def bRow (b : Bn) (lab : Nat → Lb) (p : Nat) : Option Row :=
 if p = 0 then some ⟨3,[[.sl (lab 1) 5 0 b.nodes.length,.sl (lab 2) 1 0 b.fs.length,.sl (lab 3) 1 0 b.as.length]]⟩
 else if p = 1 then some ⟨5,b.nodes.mapIdx (bNode b.n0 lab)⟩
 else if p = 2 then some ⟨1,immE (b.fs.map intIV)⟩
 else if p = 3 then some ⟨1,immE (b.as.map intIV)⟩
 else if p < 4 + 2 * b.n0 then (if p % 2 = 0 then some ⟨2,immE (ivA (b.at ((p - 4) / 2)))⟩ else some ⟨1,immE ((b.kd ((p - 5) / 2)).map intIV)⟩)
 else none
theorem bNode_ren (n0 : Nat) (lab : Nat → Lb) (ρ : Lb → Lb) (i : Nat) (x : Node) : rens ρ (bNode n0 lab i x) = bNode n0 (fun i => ρ (lab i)) i x := by
 unfold bNode
 by_cases h : i < n0 <;> simp [rens,ren,h]
theorem bNode_lbs {n0 : Nat} {lab : Nat → Lb} {i : Nat} {x : Node} {q : Lb} (h : q ∈ lbss (bNode n0 lab i x)) : i < n0 ∧ (q = lab (4 + 2 * i) ∨ q = lab (5 + 2 * i)) := by
 unfold bNode at h
 by_cases hi : i < n0
 · simpa [lbss,AV.lbs,hi] using h
 · simp [lbss,AV.lbs,hi] at h
theorem bRow_some {b : Bn} {lab : Nat → Lb} {p : Nat} : (bRow b lab p).isSome = true ↔ p < 4 + 2 * b.n0 := by
 unfold bRow
 by_cases h0 : p = 0
 · simp [h0]; omega
 by_cases h1 : p = 1
 · simp [h1]; omega
 by_cases h2 : p = 2
 · simp [h2]; omega
 by_cases h3 : p = 3
 · simp [h3]; omega
 by_cases h4 : p < 4 + 2 * b.n0
 · by_cases h5 : p % 2 = 0 <;> simp [h0,h1,h2,h3,h4,h5]
 · simp [h0,h1,h2,h3,h4]
def bSh (b : Bn) : Shp where
 row := bRow b
 nat lab ρ p := by
   unfold bRow
   by_cases h0 : p = 0
   · simp [h0,renR,rens,ren]
   by_cases h1 : p = 1
   · simp only [h1,if_neg (show ¬ (1 : Nat) = 0 by decide),if_true,Option.map_some,Option.some.injEq,renR,Row.mk.injEq,true_and]
     refine List.ext_getElem? fun i => ?_
     simp only [List.getElem?_map,List.getElem?_mapIdx,Option.map_map]
     congr 1
     funext x
     exact (bNode_ren _ _ _ _ _).symm
   by_cases h2 : p = 2
   · simp [h2,renR_immE]
   by_cases h3 : p = 3
   · simp [h3,renR_immE]
   by_cases h4 : p < 4 + 2 * b.n0
   · by_cases h5 : p % 2 = 0 <;> simp [h0,h1,h2,h3,h4,h5,renR_immE]
   · simp [h0,h1,h2,h3,h4]
 lbs lab p r hr cs hcs q hq := by
   unfold bRow at hr
   by_cases h0 : p = 0
   · simp [h0] at hr; subst hr
     simp only [List.mem_singleton] at hcs; subst hcs
     simp [lbss,AV.lbs] at hq
     rcases hq with rfl | rfl | rfl
     · exact ⟨1,bRow_some.2 (by omega),rfl⟩
     · exact ⟨2,bRow_some.2 (by omega),rfl⟩
     · exact ⟨3,bRow_some.2 (by omega),rfl⟩
   by_cases h1 : p = 1
   · simp [h1] at hr; subst hr
     simp only at hcs
     obtain ⟨i,hi⟩ := List.getElem?_of_mem hcs
     rw [List.getElem?_mapIdx] at hi
     obtain ⟨x,_,rfl⟩ := Option.map_eq_some_iff.1 hi
     obtain ⟨h5,h6⟩ := bNode_lbs hq
     rcases h6 with rfl | rfl
     · exact ⟨4 + 2 * i,bRow_some.2 (by omega),rfl⟩
     · exact ⟨5 + 2 * i,bRow_some.2 (by omega),rfl⟩
   have key : ∀ (sz : Nat) (xs : List IV),r = ⟨sz,immE xs⟩ → False := by
     rintro sz xs rfl
     rw [lbss_immE hcs] at hq; simp at hq
   exfalso
   by_cases h2 : p = 2
   · simp [h2] at hr; exact key _ _ hr.symm
   by_cases h3 : p = 3
   · simp [h3] at hr; exact key _ _ hr.symm
   by_cases h4 : p < 4 + 2 * b.n0
   · by_cases h5 : p % 2 = 0
     · simp [h0,h1,h2,h3,h4,h5] at hr; exact key _ _ hr.symm
     · simp [h0,h1,h2,h3,h4,h5] at hr; exact key _ _ hr.symm
   · simp [h0,h1,h2,h3,h4] at hr
theorem bSh_ok {b : Bn} {p : Nat} : (bSh b).ok p ↔ p < 4 + 2 * b.n0 := bRow_some
theorem bRow_at {b : Bn} {lab : Nat → Lb} {i : Nat} (h : i < b.n0) : bRow b lab (4 + 2 * i) = some ⟨2,immE (ivA (b.at i))⟩ := by
 unfold bRow
 rw [if_neg (by omega),if_neg (by omega),if_neg (by omega),if_neg (by omega),if_pos (by omega),if_pos (by omega),show (4 + 2 * i - 4) / 2 = i by omega]
theorem bRow_kd {b : Bn} {lab : Nat → Lb} {i : Nat} (h : i < b.n0) : bRow b lab (5 + 2 * i) = some ⟨1,immE ((b.kd i).map intIV)⟩ := by
 unfold bRow
 rw [if_neg (by omega),if_neg (by omega),if_neg (by omega),if_neg (by omega),if_pos (by omega),if_neg (by omega),show (5 + 2 * i - 5) / 2 = i by omega]
abbrev BnAt (lab : Nat → Lb) (b : Bn) (H : Hp) : Prop := ShAt lab (bSh b) H
section
variable {lab : Nat → Lb} {b : Bn} {H H2 : Hp}
theorem BnAt.s (h : BnAt lab b H) : H (lab 0) = .live ⟨3,[[.sl (lab 1) 5 0 b.nodes.length,.sl (lab 2) 1 0 b.fs.length,.sl (lab 3) 1 0 b.as.length]]⟩ := h.row 0 _ rfl
theorem BnAt.n (h : BnAt lab b H) : H (lab 1) = .live ⟨5,b.nodes.mapIdx (bNode b.n0 lab)⟩ := h.row 1 _ rfl
theorem BnAt.f (h : BnAt lab b H) : H (lab 2) = .live ⟨1,immE (b.fs.map intIV)⟩ := h.row 2 _ rfl
theorem BnAt.a (h : BnAt lab b H) : H (lab 3) = .live ⟨1,immE (b.as.map intIV)⟩ := h.row 3 _ rfl
theorem BnAt.at' (h : BnAt lab b H) {i : Nat} {x : Node} (hi : i < b.n0) (hx : b.nodes[i]? = some x) : H (lab (4 + 2 * i)) = .live ⟨2,immE (ivA x.attrs)⟩ := by
 have := h.row _ _ (bRow_at hi)
 rwa [Bn.at_some hx] at this
theorem BnAt.kd (h : BnAt lab b H) {i : Nat} {x : Node} (hi : i < b.n0) (hx : b.nodes[i]? = some x) : H (lab (5 + 2 * i)) = .live ⟨1,immE (x.kids.map intIV)⟩ := by
 have := h.row _ _ (bRow_kd hi)
 rwa [Bn.kd_some hx] at this
theorem BnAt.ne (h : BnAt lab b H) {p q : Nat} (hp : p < 4 + 2 * b.n0) (hq : q < 4 + 2 * b.n0) (e : p ≠ q) : lab p ≠ lab q := fun e2 => e (h.inj p q (bSh_ok.2 hp) (bSh_ok.2 hq) e2)
def Bn.set (b : Bn) (i : Nat) (y : Node) : Bn := { b with nodes := b.nodes.set i y }
def Bn.put (b : Bn) (y : Node) : Bn := { b with nodes := b.nodes ++ [y] }
theorem Bn.set_n (b : Bn) (i : Nat) (y : Node) (lab : Nat → Lb) : (b.set i y).nodes.mapIdx (bNode (b.set i y).n0 lab) = (b.nodes.mapIdx (bNode b.n0 lab)).set i (bNode b.n0 lab i y) := by
 refine List.ext_getElem? fun j => ?_
 simp only [Bn.set,List.getElem?_mapIdx,List.getElem?_set,List.length_mapIdx]
 by_cases e : i = j
 · subst e
   by_cases hl : i < b.nodes.length <;> simp [hl]
 · simp [e]
theorem Bn.put_n (b : Bn) (y : Node) (lab : Nat → Lb) : (b.put y).nodes.mapIdx (bNode (b.put y).n0 lab) = b.nodes.mapIdx (bNode b.n0 lab) ++ [bNode b.n0 lab b.nodes.length y] := by
 simp [Bn.put,List.mapIdx_append]
theorem BnAt.lists (h : BnAt lab b H) {p : Nat} (h4 : 4 ≤ p) (hp : p < 4 + 2 * b.n0) : ∃ i,i < b.n0 ∧ (p = 4 + 2 * i ∨ p = 5 + 2 * i) := by
 by_cases e : p % 2 = 0
 · exact ⟨(p - 4) / 2,by omega,by omega⟩
 · exact ⟨(p - 5) / 2,by omega,by omega⟩
theorem BnAt.mk' {lab : Nat → Lb} {b : Bn} {H : Hp} (hi : ∀ p q,p < 4 + 2 * b.n0 → q < 4 + 2 * b.n0 → lab p = lab q → p = q)
   (h0 : H (lab 0) = .live ⟨3,[[.sl (lab 1) 5 0 b.nodes.length,.sl (lab 2) 1 0 b.fs.length,.sl (lab 3) 1 0 b.as.length]]⟩) (h1 : H (lab 1) = .live ⟨5,b.nodes.mapIdx (bNode b.n0 lab)⟩)
   (h2 : H (lab 2) = .live ⟨1,immE (b.fs.map intIV)⟩) (h3 : H (lab 3) = .live ⟨1,immE (b.as.map intIV)⟩)
   (h4 : ∀ i,i < b.n0 → H (lab (4 + 2 * i)) = .live ⟨2,immE (ivA (b.at i))⟩) (h5 : ∀ i,i < b.n0 → H (lab (5 + 2 * i)) = .live ⟨1,immE ((b.kd i).map intIV)⟩) : BnAt lab b H := by
 refine ⟨fun p r hp => ?_,fun p q hp hq => hi p q (bSh_ok.1 hp) (bSh_ok.1 hq)⟩
 have hlt : p < 4 + 2 * b.n0 := bRow_some.1 (show (bRow b lab p).isSome = true by change bRow b lab p = some r at hp; rw [hp]; rfl)
 change bRow b lab p = some r at hp
 by_cases e0 : p = 0
 · subst e0; cases hp; exact h0
 by_cases e1 : p = 1
 · subst e1; cases hp; exact h1
 by_cases e2 : p = 2
 · subst e2; cases hp; exact h2
 by_cases e3 : p = 3
 · subst e3; cases hp; exact h3
 by_cases e : p % 2 = 0
 · obtain ⟨i,rfl⟩ : ∃ i,p = 4 + 2 * i := ⟨(p - 4) / 2,by omega⟩
   rw [bRow_at (by omega)] at hp; cases hp
   exact h4 i (by omega)
 · obtain ⟨i,rfl⟩ : ∃ i,p = 5 + 2 * i := ⟨(p - 5) / 2,by omega⟩
   rw [bRow_kd (by omega)] at hp; cases hp
   exact h5 i (by omega)
theorem Bn.set_at (b : Bn) {i : Nat} {x y : Node} (hx : b.nodes[i]? = some x) (j : Nat) : (b.set i y).at j = if j = i then y.attrs else b.at j := by
 have hl := (List.getElem?_eq_some_iff.1 hx).1
 simp only [Bn.at,Bn.set,List.getElem?_set]
 by_cases e : i = j
 · subst e; simp [hl]
 · simp [e,Ne.symm e]
theorem Bn.set_kd (b : Bn) {i : Nat} {x y : Node} (hx : b.nodes[i]? = some x) (j : Nat) : (b.set i y).kd j = if j = i then y.kids else b.kd j := by
 have hl := (List.getElem?_eq_some_iff.1 hx).1
 simp only [Bn.kd,Bn.set,List.getElem?_set]
 by_cases e : i = j
 · subst e; simp [hl]
 · simp [e,Ne.symm e]
theorem BnAt.setS (h : BnAt lab b H) {i : Nat} {x : Node} {s : Bs} (hx : b.nodes[i]? = some x)
   (h1 : H2 (lab 1) = .live ⟨5,(b.nodes.mapIdx (bNode b.n0 lab)).set i (bNode b.n0 lab i { x with s := s })⟩) (h2 : ∀ q,q ≠ lab 1 → H2 q = H q) : BnAt lab (b.set i { x with s := s }) H2 := by
 have hne : ∀ p,p < 4 + 2 * b.n0 → p ≠ 1 → lab p ≠ lab 1 := fun p hp e => h.ne hp (by omega) e
 refine BnAt.mk' (fun p q hp hq => h.inj p q (bSh_ok.2 hp) (bSh_ok.2 hq)) ?_ ?_ ?_ ?_ ?_ ?_
 · rw [h2 _ (hne 0 (by omega) (by omega)),h.s]; simp [Bn.set]
 · rw [h1,Bn.set_n]
 · rw [h2 _ (hne 2 (by omega) (by omega)),h.f]; rfl
 · rw [h2 _ (hne 3 (by omega) (by omega)),h.a]; rfl
 · intro j hj
   change j < b.n0 at hj
   rw [h2 _ (hne _ (by omega) (by omega)),h.row _ _ (bRow_at hj),b.set_at hx]
   split
   · rename_i e; subst e; rw [Bn.at_some hx]
   · rfl
 · intro j hj
   change j < b.n0 at hj
   rw [h2 _ (hne _ (by omega) (by omega)),h.row _ _ (bRow_kd hj),b.set_kd hx]
   split
   · rename_i e; subst e; rw [Bn.kd_some hx]
   · rfl
theorem BnAt.setK (h : BnAt lab b H) {i : Nat} {x : Node} {ys : List Int} {N : Lb} (hi : i < b.n0) (hx : b.nodes[i]? = some x) (hN : N = lab (5 + 2 * i) ∨ ∀ p,p < 4 + 2 * b.n0 → lab p ≠ N)
   (h1 : H2 (lab 1) = .live ⟨5,(b.nodes.mapIdx (bNode b.n0 lab)).set i [.bool x.text,.str x.s,.sl (lab (4 + 2 * i)) 2 0 x.attrs.length,.int .i64 x.parent,.sl N 1 0 ys.length]⟩)
   (h2 : H2 N = .live ⟨1,immE (ys.map intIV)⟩) (h3 : ∀ q,q ≠ lab 1 → q ≠ N → q ≠ lab (5 + 2 * i) → H2 q = H q) :
   BnAt (fun p => if p = 5 + 2 * i then N else lab p) (b.set i { x with kids := ys }) H2 := by
 have hne : ∀ p,p < 4 + 2 * b.n0 → p ≠ 1 → lab p ≠ lab 1 := fun p hp e => h.ne hp (by omega) e
 have hne2 : ∀ p,p < 4 + 2 * b.n0 → p ≠ 5 + 2 * i → lab p ≠ lab (5 + 2 * i) := fun p hp e => h.ne hp (by omega) e
 have hne3 : ∀ p,p < 4 + 2 * b.n0 → p ≠ 5 + 2 * i → lab p ≠ N := fun p hp e => by
   rcases hN with rfl | hN
   · exact hne2 p hp e
   · exact hN p hp
 have hsame : ∀ p,p < 4 + 2 * b.n0 → p ≠ 1 → p ≠ 5 + 2 * i → H2 (lab p) = H (lab p) := fun p hp e1 e2 => h3 _ (hne p hp e1) (hne3 p hp e2) (hne2 p hp e2)
 have hj : ∀ p,p ≠ 5 + 2 * i → (if p = 5 + 2 * i then N else lab p) = lab p := fun p e => if_neg e
 refine BnAt.mk' ?_ ?_ ?_ ?_ ?_ ?_ ?_
 · intro p q hp hq e
   change p < 4 + 2 * b.n0 at hp
   change q < 4 + 2 * b.n0 at hq
   by_cases e1 : p = 5 + 2 * i <;> by_cases e2 : q = 5 + 2 * i
   · rw [e1,e2]
   · rw [if_pos e1,if_neg e2] at e; exact absurd e.symm (hne3 q hq e2)
   · rw [if_neg e1,if_pos e2] at e; exact absurd e (hne3 p hp e1)
   · rw [if_neg e1,if_neg e2] at e; exact h.inj p q (bSh_ok.2 hp) (bSh_ok.2 hq) e
 · simp only [hj 0 (by omega),hj 1 (by omega),hj 2 (by omega),hj 3 (by omega)]
   rw [hsame 0 (by omega) (by omega) (by omega),h.s]; simp [Bn.set]
 · simp only [hj 1 (by omega)]
   rw [h1,Bn.set_n]
   congr 2
   refine List.ext_getElem? fun j => ?_
   simp only [List.getElem?_set,List.length_mapIdx,List.getElem?_mapIdx]
   by_cases e : i = j
   · subst e
     simp only [if_true]
     congr 1
     simp [bNode,hi,hj (4 + 2 * i) (by omega)]
   · simp only [e,if_false]
     congr 1
     funext z
     simp only [bNode]
     rw [if_neg (show ¬ 4 + 2 * j = 5 + 2 * i by omega),if_neg (show ¬ 5 + 2 * j = 5 + 2 * i by omega)]
 · simp only [hj 2 (by omega)]
   rw [hsame 2 (by omega) (by omega) (by omega),h.f]; rfl
 · simp only [hj 3 (by omega)]
   rw [hsame 3 (by omega) (by omega) (by omega),h.a]; rfl
 · intro j hj2
   change j < b.n0 at hj2
   simp only [hj (4 + 2 * j) (by omega)]
   rw [hsame _ (by omega) (by omega) (by omega),h.row _ _ (bRow_at hj2),b.set_at hx]
   split
   · rename_i e; subst e; rw [Bn.at_some hx]
   · rfl
 · intro j hj2
   change j < b.n0 at hj2
   rw [b.set_kd hx]
   by_cases e : j = i
   · subst e
     simp only [if_true]
     exact h2
   · simp only [hj (5 + 2 * j) (by omega),e,if_false]
     rw [hsame _ (by omega) (by omega) (by omega),h.row _ _ (bRow_kd hj2)]
theorem BnAt.setA (h : BnAt lab b H) {i : Nat} {x : Node} {ys : List Attr} {N : Lb} (hi : i < b.n0) (hx : b.nodes[i]? = some x) (hN : N = lab (4 + 2 * i) ∨ ∀ p,p < 4 + 2 * b.n0 → lab p ≠ N)
   (h1 : H2 (lab 1) = .live ⟨5,(b.nodes.mapIdx (bNode b.n0 lab)).set i [.bool x.text,.str x.s,.sl N 2 0 ys.length,.int .i64 x.parent,.sl (lab (5 + 2 * i)) 1 0 x.kids.length]⟩)
   (h2 : H2 N = .live ⟨2,immE (ivA ys)⟩) (h3 : ∀ q,q ≠ lab 1 → q ≠ N → q ≠ lab (4 + 2 * i) → H2 q = H q) :
   BnAt (fun p => if p = 4 + 2 * i then N else lab p) (b.set i { x with attrs := ys }) H2 := by
 have hne : ∀ p,p < 4 + 2 * b.n0 → p ≠ 1 → lab p ≠ lab 1 := fun p hp e => h.ne hp (by omega) e
 have hne2 : ∀ p,p < 4 + 2 * b.n0 → p ≠ 4 + 2 * i → lab p ≠ lab (4 + 2 * i) := fun p hp e => h.ne hp (by omega) e
 have hne3 : ∀ p,p < 4 + 2 * b.n0 → p ≠ 4 + 2 * i → lab p ≠ N := fun p hp e => by
   rcases hN with rfl | hN
   · exact hne2 p hp e
   · exact hN p hp
 have hsame : ∀ p,p < 4 + 2 * b.n0 → p ≠ 1 → p ≠ 4 + 2 * i → H2 (lab p) = H (lab p) := fun p hp e1 e2 => h3 _ (hne p hp e1) (hne3 p hp e2) (hne2 p hp e2)
 have hj : ∀ p,p ≠ 4 + 2 * i → (if p = 4 + 2 * i then N else lab p) = lab p := fun p e => if_neg e
 refine BnAt.mk' ?_ ?_ ?_ ?_ ?_ ?_ ?_
 · intro p q hp hq e
   change p < 4 + 2 * b.n0 at hp
   change q < 4 + 2 * b.n0 at hq
   by_cases e1 : p = 4 + 2 * i <;> by_cases e2 : q = 4 + 2 * i
   · rw [e1,e2]
   · rw [if_pos e1,if_neg e2] at e; exact absurd e.symm (hne3 q hq e2)
   · rw [if_neg e1,if_pos e2] at e; exact absurd e (hne3 p hp e1)
   · rw [if_neg e1,if_neg e2] at e; exact h.inj p q (bSh_ok.2 hp) (bSh_ok.2 hq) e
 · simp only [hj 0 (by omega),hj 1 (by omega),hj 2 (by omega),hj 3 (by omega)]
   rw [hsame 0 (by omega) (by omega) (by omega),h.s]; simp [Bn.set]
 · simp only [hj 1 (by omega)]
   rw [h1,Bn.set_n]
   congr 2
   refine List.ext_getElem? fun j => ?_
   simp only [List.getElem?_set,List.length_mapIdx,List.getElem?_mapIdx]
   by_cases e : i = j
   · subst e
     simp only [if_true]
     congr 1
     simp [bNode,hi,hj (5 + 2 * i) (by omega)]
   · simp only [e,if_false]
     congr 1
     funext z
     simp only [bNode]
     rw [if_neg (show ¬ 4 + 2 * j = 4 + 2 * i by omega),if_neg (show ¬ 5 + 2 * j = 4 + 2 * i by omega)]
 · simp only [hj 2 (by omega)]
   rw [hsame 2 (by omega) (by omega) (by omega),h.f]; rfl
 · simp only [hj 3 (by omega)]
   rw [hsame 3 (by omega) (by omega) (by omega),h.a]; rfl
 · intro j hj2
   change j < b.n0 at hj2
   rw [b.set_at hx]
   by_cases e : j = i
   · subst e
     simp only [if_true]
     exact h2
   · simp only [hj (4 + 2 * j) (by omega),e,if_false]
     rw [hsame _ (by omega) (by omega) (by omega),h.row _ _ (bRow_at hj2)]
 · intro j hj2
   change j < b.n0 at hj2
   simp only [hj (5 + 2 * j) (by omega)]
   rw [hsame _ (by omega) (by omega) (by omega),h.row _ _ (bRow_kd hj2),b.set_kd hx]
   split
   · rename_i e; subst e; rw [Bn.kd_some hx]
   · rfl
theorem BnAt.push (h : BnAt lab b H) {y : Node} {N : Lb} (hn : b.n0 ≤ b.nodes.length) (hN : N = lab 1 ∨ ∀ p,p < 4 + 2 * b.n0 → lab p ≠ N)
   (h0 : H2 (lab 0) = .live ⟨3,[[.sl N 5 0 (b.nodes.length + 1),.sl (lab 2) 1 0 b.fs.length,.sl (lab 3) 1 0 b.as.length]]⟩)
   (h1 : H2 N = .live ⟨5,b.nodes.mapIdx (bNode b.n0 lab) ++ [[.bool y.text,.str y.s,.list (ivA y.attrs),.int .i64 y.parent,.list (y.kids.map intIV)]]⟩) (h3 : ∀ q,q ≠ lab 0 → q ≠ lab 1 → q ≠ N → H2 q = H q) :
   BnAt (fun p => if p = 1 then N else lab p) (b.put y) H2 := by
 have hne3 : ∀ p,p < 4 + 2 * b.n0 → p ≠ 1 → lab p ≠ N := fun p hp e => by
   rcases hN with rfl | hN
   · exact h.ne hp (by omega) e
   · exact hN p hp
 have hsame : ∀ p,p < 4 + 2 * b.n0 → p ≠ 0 → p ≠ 1 → H2 (lab p) = H (lab p) := fun p hp e0 e1 => h3 _ (h.ne hp (by omega) e0) (h.ne hp (by omega) e1) (hne3 p hp e1)
 have hj : ∀ p,p ≠ 1 → (if p = 1 then N else lab p) = lab p := fun p e => if_neg e
 have hlen : (b.put y).nodes.length = b.nodes.length + 1 := by simp [Bn.put]
 have hatk : ∀ j,j < b.n0 → (b.put y).nodes[j]? = b.nodes[j]? := fun j hj => by simp only [Bn.put]; rw [List.getElem?_append_left (by omega)]
 refine BnAt.mk' ?_ ?_ ?_ ?_ ?_ ?_ ?_
 · intro p q hp hq e
   change p < 4 + 2 * b.n0 at hp
   change q < 4 + 2 * b.n0 at hq
   by_cases e1 : p = 1 <;> by_cases e2 : q = 1
   · rw [e1,e2]
   · rw [if_pos e1,if_neg e2] at e; exact absurd e.symm (hne3 q hq e2)
   · rw [if_neg e1,if_pos e2] at e; exact absurd e (hne3 p hp e1)
   · rw [if_neg e1,if_neg e2] at e; exact h.inj p q (bSh_ok.2 hp) (bSh_ok.2 hq) e
 · simp only [hj 0 (by omega),if_true,hj 2 (by omega),hj 3 (by omega),hlen]
   exact h0
 · show H2 N = _
   rw [h1,Bn.put_n]
   have hfn : bNode b.n0 (fun p => if p = 1 then N else lab p) = bNode b.n0 lab := by
     funext j z
     simp only [bNode]
     rw [if_neg (show ¬ 4 + 2 * j = 1 by omega),if_neg (show ¬ 5 + 2 * j = 1 by omega)]
   rw [hfn]
   simp [bNode,show ¬ b.nodes.length < b.n0 by omega]
 · simp only [hj 2 (by omega)]
   rw [hsame 2 (by omega) (by omega) (by omega),h.f]; rfl
 · simp only [hj 3 (by omega)]
   rw [hsame 3 (by omega) (by omega) (by omega),h.a]; rfl
 · intro j hj2
   change j < b.n0 at hj2
   simp only [hj (4 + 2 * j) (by omega)]
   rw [hsame _ (by omega) (by omega) (by omega),h.row _ _ (bRow_at hj2)]
   simp only [Bn.at,hatk j hj2]
 · intro j hj2
   change j < b.n0 at hj2
   simp only [hj (5 + 2 * j) (by omega)]
   rw [hsame _ (by omega) (by omega) (by omega),h.row _ _ (bRow_kd hj2)]
   simp only [Bn.kd,hatk j hj2]
theorem BnAt.setD (h : BnAt lab b H) {i : Nat} {x : Node} {ys : List Int} (hi : b.n0 ≤ i) (hx : b.nodes[i]? = some x)
   (h1 : H2 (lab 1) = .live ⟨5,(b.nodes.mapIdx (bNode b.n0 lab)).set i [.bool x.text,.str x.s,.list (ivA x.attrs),.int .i64 x.parent,.list (ys.map intIV)]⟩) (h2 : ∀ q,q ≠ lab 1 → H2 q = H q) : BnAt lab (b.set i { x with kids := ys }) H2 := by
 have hne : ∀ p,p < 4 + 2 * b.n0 → p ≠ 1 → lab p ≠ lab 1 := fun p hp e => h.ne hp (by omega) e
 refine BnAt.mk' (fun p q hp hq => h.inj p q (bSh_ok.2 hp) (bSh_ok.2 hq)) ?_ ?_ ?_ ?_ ?_ ?_
 · rw [h2 _ (hne 0 (by omega) (by omega)),h.s]; simp [Bn.set]
 · rw [h1,Bn.set_n]; simp [bNode,show ¬ i < b.n0 by omega]
 · rw [h2 _ (hne 2 (by omega) (by omega)),h.f]; rfl
 · rw [h2 _ (hne 3 (by omega) (by omega)),h.a]; rfl
 · intro j hj
   change j < b.n0 at hj
   rw [h2 _ (hne _ (by omega) (by omega)),h.row _ _ (bRow_at hj),b.set_at hx,if_neg (by omega)]
 · intro j hj
   change j < b.n0 at hj
   rw [h2 _ (hne _ (by omega) (by omega)),h.row _ _ (bRow_kd hj),b.set_kd hx,if_neg (by omega)]
theorem BnAt.setF (h : BnAt lab b H) {fs : List Int} (hl : fs.length = b.fs.length) (h1 : H2 (lab 2) = .live ⟨1,immE (fs.map intIV)⟩) (h2 : ∀ q,q ≠ lab 2 → H2 q = H q) : BnAt lab { b with fs := fs } H2 := by
 have hne : ∀ p,p < 4 + 2 * b.n0 → p ≠ 2 → lab p ≠ lab 2 := fun p hp e => h.ne hp (by omega) e
 refine BnAt.mk' (fun p q hp hq => h.inj p q (bSh_ok.2 hp) (bSh_ok.2 hq)) ?_ ?_ ?_ ?_ ?_ ?_
 · rw [h2 _ (hne 0 (by omega) (by omega)),h.s]; simp [hl]
 · rw [h2 _ (hne 1 (by omega) (by omega)),h.n]
 · exact h1
 · rw [h2 _ (hne 3 (by omega) (by omega)),h.a]
 · intro j hj
   change j < b.n0 at hj
   rw [h2 _ (hne _ (by omega) (by omega)),h.row _ _ (bRow_at hj)]; rfl
 · intro j hj
   change j < b.n0 at hj
   rw [h2 _ (hne _ (by omega) (by omega)),h.row _ _ (bRow_kd hj)]; rfl
theorem BnAt.setAs (h : BnAt lab b H) {as : List Int} (hl : as.length = b.as.length) (h1 : H2 (lab 3) = .live ⟨1,immE (as.map intIV)⟩) (h2 : ∀ q,q ≠ lab 3 → H2 q = H q) : BnAt lab { b with as := as } H2 := by
 have hne : ∀ p,p < 4 + 2 * b.n0 → p ≠ 3 → lab p ≠ lab 3 := fun p hp e => h.ne hp (by omega) e
 refine BnAt.mk' (fun p q hp hq => h.inj p q (bSh_ok.2 hp) (bSh_ok.2 hq)) ?_ ?_ ?_ ?_ ?_ ?_
 · rw [h2 _ (hne 0 (by omega) (by omega)),h.s]; simp [hl]
 · rw [h2 _ (hne 1 (by omega) (by omega)),h.n]
 · rw [h2 _ (hne 2 (by omega) (by omega)),h.f]
 · exact h1
 · intro j hj
   change j < b.n0 at hj
   rw [h2 _ (hne _ (by omega) (by omega)),h.row _ _ (bRow_at hj)]; rfl
 · intro j hj
   change j < b.n0 at hj
   rw [h2 _ (hne _ (by omega) (by omega)),h.row _ _ (bRow_kd hj)]; rfl
theorem BnAt.get (h : BnAt lab b H) {i : Nat} {x : Node} (hx : b.nodes[i]? = some x) : (b.nodes.mapIdx (bNode b.n0 lab))[i]? = some (bNode b.n0 lab i x) := by
 rw [List.getElem?_mapIdx,hx]; rfl
end
end Go.Am

/- The bench: copies of one's own; where a number stands. -/
set_option pp.deepTerms false
set_option pp.deepTerms.threshold 5
namespace Go.Am
open Go Go.RowKit
section
variable {P : Program} {G : Nat → Option (List IV)}
def c_slices_Clone_Attr_AttrO : AC :=
(.seq (.reg [⟨some 2,none,.mov (.c .nil0)⟩]) (.seq (.seq (.reg [⟨some 3,none,.mov (.t 0)⟩,⟨some 4,none,.eqn false (.t 3)⟩]) (.cond (.t 4) (.seq (.reg [⟨some 2,none,.mov (.c .nil0)⟩]) (.gh (.own 2 2) .ret)) .skip)) (.seq (.reg [⟨some 5,none,.lits 0 2 [(.str []),(.str [])] []⟩,⟨some 6,none,.mov (.t 0)⟩,⟨some 7,none,.app (.t 5) (.t 6) 2 32⟩,⟨some 2,none,.mov (.t 7)⟩]) .ret)))
def c_slices_Clone_int_intO : AC :=
(.seq (.reg [⟨some 2,none,.mov (.c .nil0)⟩]) (.seq (.seq (.reg [⟨some 3,none,.mov (.t 0)⟩,⟨some 4,none,.eqn false (.t 3)⟩]) (.cond (.t 4) (.seq (.reg [⟨some 2,none,.mov (.c .nil0)⟩]) (.gh (.own 2 1) .ret)) .skip)) (.seq (.reg [⟨some 5,none,.lits 0 1 [(.int .i64 0)] []⟩,⟨some 6,none,.mov (.t 0)⟩,⟨some 7,none,.app (.t 5) (.t 6) 1 8⟩,⟨some 2,none,.mov (.t 7)⟩]) .ret)))
theorem oCloneA {f_slices_Clone_Attr_Attr : Nat} (hF : compF P G f_slices_Clone_Attr_Attr = some (8,[(none,2)],c_slices_Clone_Attr_Attr.bare)) (xs : List Attr) (hx : xs.length ≤ B) : OwnC P G f_slices_Clone_Attr_Attr [.list (ivA xs)] 2 (ivA xs) := by
 refine own_of_go (ac := c_slices_Clone_Attr_AttrO) hF (by simp) (by simp [lbss,AV.lbs]) ?_
 unfold c_slices_Clone_Attr_AttrO
 simp only [↓aX,mX,reduceCtorEq,Nat.reduceEqDiff,Nat.reduceLT,Nat.reduceLeDiff,Nat.reduceAdd,Nat.reduceMul,Int.reduceToNat,Int.reduceLE,Int.reduceLT,a1_eqn]
 refine nK_list (fun h => ?_) ?_
 · simp only [↓aX,mX,reduceCtorEq,Nat.reduceEqDiff,Nat.reduceLT,Nat.reduceLeDiff,Nat.reduceAdd,Nat.reduceMul,Int.reduceToNat,Int.reduceLE,Int.reduceLT]
   refine ⟨.loc 2,?_,?_⟩
   · rw [h]; rfl
   · rw [h]; rfl
 · simp only [↓aX,mX,reduceCtorEq,Nat.reduceEqDiff,Nat.reduceLT,Nat.reduceLeDiff,Nat.reduceAdd,Nat.reduceMul,Int.reduceToNat,Int.reduceLE,Int.reduceLT]
   rw [app_nil' 2 32 7 (ivA xs) (elszA _) (flatA _) (by rw [ivA_len]; unfold B at hx; omega) (by decide) rfl]
   simp only [↓aX,mX,reduceCtorEq,Nat.reduceEqDiff,Nat.reduceLT,Nat.reduceLeDiff,Nat.reduceAdd,Nat.reduceMul,Int.reduceToNat,Int.reduceLE,Int.reduceLT]
   exact ⟨.loc 7,rfl,by simp [upd_at]⟩
theorem oCloneI {f_slices_Clone_int_int : Nat} (hF : compF P G f_slices_Clone_int_int = some (8,[(none,2)],c_slices_Clone_int_int.bare)) (xs : List Int) (hx : xs.length ≤ B) : OwnC P G f_slices_Clone_int_int [.list (xs.map intIV)] 1 (xs.map intIV) := by
 refine own_of_go (ac := c_slices_Clone_int_intO) hF (by simp) (by simp [lbss,AV.lbs]) ?_
 unfold c_slices_Clone_int_intO
 simp only [↓aX,mX,reduceCtorEq,Nat.reduceEqDiff,Nat.reduceLT,Nat.reduceLeDiff,Nat.reduceAdd,Nat.reduceMul,Int.reduceToNat,Int.reduceLE,Int.reduceLT,a1_eqn]
 refine nK_list (fun h => ?_) ?_
 · simp only [↓aX,mX,reduceCtorEq,Nat.reduceEqDiff,Nat.reduceLT,Nat.reduceLeDiff,Nat.reduceAdd,Nat.reduceMul,Int.reduceToNat,Int.reduceLE,Int.reduceLT]
   refine ⟨.loc 2,?_,?_⟩
   · rw [List.map_eq_nil_iff.1 h]; rfl
   · rw [h]; rfl
 · simp only [↓aX,mX,reduceCtorEq,Nat.reduceEqDiff,Nat.reduceLT,Nat.reduceLeDiff,Nat.reduceAdd,Nat.reduceMul,Int.reduceToNat,Int.reduceLE,Int.reduceLT]
   rw [app_nil' 1 8 7 (xs.map intIV) (elszI _) (flatI _) (by rw [List.length_map]; unfold B at hx; omega) (by decide) rfl]
   simp only [↓aX,mX,reduceCtorEq,Nat.reduceEqDiff,Nat.reduceLT,Nat.reduceLeDiff,Nat.reduceAdd,Nat.reduceMul,Int.reduceToNat,Int.reduceLE,Int.reduceLT]
   exact ⟨.loc 7,rfl,by simp [upd_at]⟩
def idxI (xs : List Int) (v : Int) : Int := match xs.findIdx? (· == v) with | some k => (k : Int) | none => -1
theorem idxI_at {xs : List Int} {v : Int} {k : Nat} (h : xs[k]? = some v) (hb : ∀ j,j < k → xs[j]? ≠ some v) : idxI xs v = k := by
 have : xs.findIdx? (· == v) = some k := by
   rw [List.findIdx?_eq_some_iff_getElem]
   obtain ⟨hk,e⟩ := List.getElem?_eq_some_iff.1 h
   refine ⟨hk,by simp [e],fun j hj => ?_⟩
   have h2 := hb j hj
   rw [List.getElem?_eq_getElem (by omega)] at h2
   simpa using h2
 rw [idxI,this]
theorem idxI_none {xs : List Int} {v : Int} (h : ∀ j,j < xs.length → xs[j]? ≠ some v) : idxI xs v = -1 := by
 have : xs.findIdx? (· == v) = none := by
   rw [List.findIdx?_eq_none_iff]
   intro x hx
   obtain ⟨j,hj⟩ := List.getElem?_of_mem hx
   have h2 := h j (List.getElem?_eq_some_iff.1 hj).1
   rw [hj] at h2
   simpa using h2
 rw [idxI,this]
theorem intGet' (xs : List Int) (i : Nat) : (xs.map intIV)[i]? = (xs[i]?).map intIV := List.getElem?_map ..
theorem intIV_cs' (n : Int) : (intIV n).cells = [.int .i64 n] := rfl
def c_slices_Index_int_int : AC :=
(.seq (.reg [⟨some 4,none,.mov (.c (.int .i64 0))⟩]) (.seq (.seq (.reg [⟨some 6,none,.mov (.t 0)⟩,⟨some 7,none,.len (.t 6)⟩,⟨some 8,none,.mov (.c (.int .i64 0))⟩]) (.block 0 (.loop (.seq (.reg [⟨some 9,none,.bin .lss (.t 8) (.t 7)⟩]) (.seq (.cond (.t 9) .skip (.exit 0)) (.seq (.block 1 (.seq (.reg [⟨some 10,none,.mov (.t 8)⟩,⟨some 5,none,.mov (.t 10)⟩]) (.seq (.reg [⟨some 11,none,.mov (.t 1)⟩,⟨some 12,none,.mov (.t 0)⟩,⟨some 13,none,.mov (.t 5)⟩,⟨some 14,none,.ixa (.t 12) (.t 13) 1⟩,⟨some 15,none,.load none (.t 14)⟩,⟨some 16,none,.bin .eql (.t 11) (.t 15)⟩]) (.cond (.t 16) (.seq (.reg [⟨some 17,none,.mov (.t 5)⟩,⟨some 4,none,.mov (.t 17)⟩]) .ret) .skip)))) (.reg [⟨some 18,none,.bin .add (.t 8) (.c (.int .i64 1))⟩,⟨some 8,none,.mov (.t 18)⟩]))))))) (.seq (.reg [⟨some 4,none,.mov (.c (.int .i64 (-1)))⟩]) .ret)))
theorem pIndexInt {f_slices_Index_int_int : Nat} (hF : compF P G f_slices_Index_int_int = some (19,[(none,4)],c_slices_Index_int_int.bare)) (xs : List Int) (v : Int) (hx : xs.length ≤ B) :
   PureC P G f_slices_Index_int_int [.list (xs.map intIV),.int .i64 v] (.int .i64 (idxI xs v)) := by
 refine pure_of_go hF (by simp) (by simp [lbss,AV.lbs]) (by simp [AV.lbs]) ?_
 unfold c_slices_Index_int_int
 simp only [↓aX,mX,reduceCtorEq,Nat.reduceEqDiff,Nat.reduceLT,Nat.reduceLeDiff,Nat.reduceAdd,Nat.reduceMul,Int.reduceToNat,Int.reduceLE,Int.reduceLT,List.length_map]
 refine loop_data (σ := { i : Nat // i ≤ xs.length ∧ ∀ j,j < i → xs[j]? ≠ some v }) (fun q => [(0,.list (xs.map intIV)),(1,.int .i64 v),(7,.int .i64 xs.length),(8,.int .i64 q.1)]) (fun q => xs.length - q.1) ⟨0,by simp⟩ (fun _ => rfl) ?_ ?_
 · exact ⟨by simp only [↓aX,mX,reduceCtorEq,Nat.reduceEqDiff,Nat.reduceLT,Nat.reduceLeDiff,Nat.reduceAdd,Nat.reduceMul,Int.reduceToNat,Int.reduceLE,Int.reduceLT],by repeat' constructor⟩
 · rintro ⟨i,hi,hs⟩
   simp only [↓aX,mX,reduceCtorEq,Nat.reduceEqDiff,Nat.reduceLT,Nat.reduceLeDiff,Nat.reduceAdd,Nat.reduceMul,Int.reduceToNat,Int.reduceLE,Int.reduceLT,List.length_map]
   by_cases hlt : i < xs.length
   · rw [show decide ((i : Int) < (xs.length : Int)) = true by simpa using hlt]
     obtain ⟨x,hx1⟩ : ∃ x,xs[i]? = some x := ⟨_,List.getElem?_eq_getElem hlt⟩
     have hw : IntKind.i64.wrap ((i : Int) + 1) = ((i + 1 : Nat) : Int) := wrap64 (by omega) (by unfold B at hx; omega)
     simp only [↓aX,mX,reduceCtorEq,Nat.reduceEqDiff,Nat.reduceLT,Nat.reduceLeDiff,Nat.reduceAdd,Nat.reduceMul,Int.reduceToNat,Int.reduceLE,Int.reduceLT,intGet',hx1,Option.map_some,elszI,intIV_cs',hw]
     by_cases hxy : x = v
     · subst hxy
       rw [idxI_at hx1 hs]
       simp only [↓aX,mX,reduceCtorEq,Nat.reduceEqDiff,Nat.reduceLT,Nat.reduceLeDiff,Nat.reduceAdd,Nat.reduceMul,Int.reduceToNat,Int.reduceLE,Int.reduceLT]
     · rw [show (v == x) = false by simpa using fun e => hxy e.symm]
       simp only [↓aX,mX,reduceCtorEq,Nat.reduceEqDiff,Nat.reduceLT,Nat.reduceLeDiff,Nat.reduceAdd,Nat.reduceMul,Int.reduceToNat,Int.reduceLE,Int.reduceLT,hw]
       refine ⟨⟨i + 1,hlt,fun j hj => ?_⟩,by simp only; omega,rfl⟩
       by_cases e : j = i
       · rw [e,hx1]; simpa using hxy
       · exact hs j (by omega)
   · rw [show decide ((i : Int) < (xs.length : Int)) = false by simpa using hlt]
     simp only [↓aX,mX,reduceCtorEq,Nat.reduceEqDiff,Nat.reduceLT,Nat.reduceLeDiff,Nat.reduceAdd,Nat.reduceMul,Int.reduceToNat,Int.reduceLE,Int.reduceLT]
     rw [idxI_none fun j hj => hs j (by omega)]
end
end Go.Am

/- THE ABSTRACT MACHINE, part 46: room that is known: what append and copy do. -/
namespace Go.Am
open Go Go.RowKit
section
variable {H : Hp} {l : Lb} {sz b d n c i m : Nat} {els news : List (List AV)} {xs : List IV}
theorem app_slk_in (hl : H l = .live ⟨sz,els⟩) (hn : n ≤ els.length) (he : Elsz sz xs) (hf : Flat xs) (h0 : 0 < b) (hd : l ≠ .loc d) (hc : n + xs.length ≤ c) (hc2 : n + xs.length ≤ els.length) :
   appV sz b d (.slk l sz 0 n c) (.list xs) H = some (.slk l sz 0 (n + xs.length) c,upd H l (.live ⟨sz,els.take n ++ immE xs ++ els.drop (n + xs.length)⟩)) := by
 unfold appV
 rw [srcE_list he]
 have h1 : (immE xs).length = xs.length := immE_len xs
 simp only [Option.bind_some,hf.one,not_true_eq_false,if_false,hl,true_and,hn,h0,Ne.symm,ne_eq,hd,not_false_eq_true,h1,hc,hc2,if_true]
 simpa using hf.one
theorem app_slk_src {x : AV} (hs : srcE sz x H = some news) (ho : ∀ cs ∈ news,AV.one1 cs) (hl : H l = .live ⟨sz,els⟩) (hn : n ≤ els.length) (h0 : 0 < b) (hd : l ≠ .loc d) (hc : n + news.length ≤ c) (hc2 : n + news.length ≤ els.length) :
   appV sz b d (.slk l sz 0 n c) x H = some (.slk l sz 0 (n + news.length) c,upd H l (.live ⟨sz,els.take n ++ news ++ els.drop (n + news.length)⟩)) := by
 unfold appV
 simp only [hs,Option.bind_some,hl,true_and,hn,h0,ne_eq,hd,not_false_eq_true,hc,hc2,if_true]
 simpa using ho
theorem clr_in {x : AV} {z : List AV} (hz : AV.one1 z) (hp : slP x = some (l,sz,i,n)) (hl : H l = .live ⟨sz,els⟩) (hin : i + n ≤ els.length) :
   clrV sz z x H = some (upd H l (.live ⟨sz,els.take i ++ List.replicate n z ++ els.drop (i + n)⟩)) := by
 unfold clrV
 rw [if_neg (by simpa using hz)]
 simp only [hp,Option.bind_some,hl,true_and,hin,if_true,List.length_replicate]
theorem app_slk_out (hl : H l = .live ⟨sz,els⟩) (hn : n ≤ els.length) (he : Elsz sz xs) (hf : Flat xs) (h0 : 0 < b) (hd : l ≠ .loc d) (hc : c < n + xs.length) (hb : (n + xs.length) * b ≤ 140737488355328) (hu : H (.loc d) = .unused) :
   appV sz b d (.slk l sz 0 n c) (.list xs) H = some (.sl (.loc d) sz 0 (n + xs.length),upd H (.loc d) (.live ⟨sz,els.take n ++ immE xs⟩)) := by
 unfold appV
 rw [srcE_list he]
 have h1 : (immE xs).length = xs.length := immE_len xs
 have hc' : ¬ (n + xs.length ≤ c) := by omega
 simp only [Option.bind_some,hl,true_and,hn,h0,ne_eq,hd,not_false_eq_true,h1,hc',hb,hu,if_true,if_false,and_self]
 simpa using hf.one
theorem appz_out {z : List AV} {k : IntKind} (hl : H l = .live ⟨sz,els⟩) (hn : n ≤ els.length) (hc : c < n + m) (hb : (n + m) * b ≤ 140737488355328) (hu : H (.loc d) = .unused) :
   appzV sz b d z (.slk l sz 0 n c) (.int k (m : Int)) H = some (.sl (.loc d) sz 0 (n + m),upd H (.loc d) (.live ⟨sz,els.take n ++ List.replicate m z⟩)) := by
 unfold appzV
 simp only [hl,true_and,hn,Int.natCast_nonneg,Int.toNat_natCast,hc,hb,hu,and_self,if_true]
theorem cpy_in {x y : AV} (hs : srcE sz x H = some news) (hp : slP y = some (l,sz,i,n)) (hl : H l = .live ⟨sz,els⟩) (hin : i + n ≤ els.length) (hm : m = Nat.min news.length n) (ho : ∀ cs ∈ news.take m,AV.one1 cs) :
   cpyV sz y x H = some (.int .i64 (m : Int),upd H l (.live ⟨sz,els.take i ++ news.take m ++ els.drop (i + m)⟩)) := by
 unfold cpyV
 subst hm
 simp only [hs,Option.bind_some,hp,hl,true_and,hin,if_true]
 rw [if_neg (by simpa using ho)]
 have : (news.take (Nat.min news.length n)).length = Nat.min news.length n := by rw [List.length_take]; exact Nat.min_eq_left (Nat.min_le_left _ _)
 rw [this]
end
theorem imm_part {xs : List IV} {rest : List (List AV)} {i k : Nat} (h : i + k ≤ xs.length) : ((immE xs ++ rest).drop i).take k = immE ((xs.drop i).take k) := by
 have h1 := immE_len xs
 rw [List.drop_append_of_le_length (by omega),List.take_append_of_le_length (by simp; omega)]
 simp [immE,List.map_drop,List.map_take]
theorem imm_take {xs : List IV} {rest : List (List AV)} {k : Nat} (h : k ≤ xs.length) : (immE xs ++ rest).take k = immE (xs.take k) := by
 have h1 := immE_len xs
 rw [List.take_append_of_le_length (by omega)]
 simp [immE,List.map_take]
theorem Flat.part {xs : List IV} (h : Flat xs) (i k : Nat) : Flat ((xs.drop i).take k) := fun y hy => h y (List.mem_of_mem_drop (List.mem_of_mem_take hy))
end Go.Am

/- Trees out of their own text. -/
namespace Go.Am
open Go Go.RowKit
theorem u8_lt_irr (a : UInt8) : ¬ a < a := by rw [UInt8.lt_iff_toNat_lt]; omega
theorem u8_lt_tr {a b c : UInt8} (h : a < b) (h2 : b < c) : a < c := by rw [UInt8.lt_iff_toNat_lt] at *; omega
theorem u8_tri (a b : UInt8) : a < b ∨ a = b ∨ b < a := by
 simp only [UInt8.lt_iff_toNat_lt]
 rcases Nat.lt_trichotomy a.toNat b.toNat with h | h | h
 · exact .inl h
 · exact .inr (.inl (UInt8.toNat.inj h))
 · exact .inr (.inr h)
theorem bl_irr : ∀ x : Bs,Op.bytesLess x x = false
 | [] => rfl
 | a :: x => by simp [Op.bytesLess,u8_lt_irr,bl_irr x]
theorem bl_tr : ∀ {x y z : Bs},Op.bytesLess x y = true → Op.bytesLess y z = true → Op.bytesLess x z = true
 | [],[],_,h,_ => by simp [Op.bytesLess] at h
 | [],_ :: _,[],_,h => by simp [Op.bytesLess] at h
 | [],_ :: _,_ :: _,_,_ => rfl
 | _ :: _,[],_,h,_ => by simp [Op.bytesLess] at h
 | _ :: _,_ :: _,[],_,h => by simp [Op.bytesLess] at h
 | a :: x,b :: y,c :: z,h1,h2 => by
   simp only [Op.bytesLess,Bool.or_eq_true,decide_eq_true_eq,Bool.and_eq_true,beq_iff_eq] at h1 h2 ⊢
   rcases h1 with h1 | ⟨rfl,h1⟩
   · rcases h2 with h2 | ⟨rfl,h2⟩
     · exact .inl (u8_lt_tr h1 h2)
     · exact .inl h1
   · rcases h2 with h2 | ⟨rfl,h2⟩
     · exact .inl h2
     · exact .inr ⟨rfl,bl_tr h1 h2⟩
theorem bl_asym {x y : Bs} (h : Op.bytesLess x y = true) : Op.bytesLess y x = false := by
 cases h2 : Op.bytesLess y x with
 | false => rfl
 | true => have := bl_tr h h2; rw [bl_irr] at this; cases this
theorem bl_tri : ∀ x y : Bs,Op.bytesLess x y = true ∨ x = y ∨ Op.bytesLess y x = true
 | [],[] => .inr (.inl rfl)
 | [],_ :: _ => .inl rfl
 | _ :: _,[] => .inr (.inr rfl)
 | a :: x,b :: y => by
   simp only [Op.bytesLess,Bool.or_eq_true,decide_eq_true_eq,Bool.and_eq_true,beq_iff_eq,List.cons.injEq]
   rcases u8_tri a b with h | rfl | h
   · exact .inl (.inl h)
   · rcases bl_tri x y with h | rfl | h
     · exact .inl (.inr ⟨rfl,h⟩)
     · exact .inr (.inl ⟨rfl,rfl⟩)
     · exact .inr (.inr (.inr ⟨rfl,h⟩))
   · exact .inr (.inr (.inl h))
def risA : List Attr → Bool
 | [] => true
 | [_] => true
 | a :: b :: r => Op.bytesLess a.name b.name && risA (b :: r)
theorem okAttr_cons (a : Attr) (l : List Attr) (i : Nat) : okAttr (a :: l) (i + 1) = (okAttr l i && (if i = 0 then match l[0]? with | some b => Op.bytesLess a.name b.name | none => true else true)) := by
 unfold okAttr
 cases i with
 | zero =>
   simp only [List.getElem?_cons_succ,Nat.zero_add,Nat.add_sub_cancel,List.getElem?_cons_zero,if_true]
   cases l[0]? <;> simp [Bool.and_assoc]
 | succ i =>
   simp only [List.getElem?_cons_succ,Nat.add_sub_cancel]
   cases l[i + 1]? <;> simp
theorem goodAttrs_iff (as : List Attr) : goodAttrs as = true ↔ (∀ a ∈ as,named a.name = true ∧ plain a.val = true) ∧ risA as = true ∧ as.length ≤ 4 := by
 have key : ∀ as : List Attr,(∀ i,i < as.length → okAttr as i = true) ↔ (∀ a ∈ as,named a.name = true ∧ plain a.val = true) ∧ risA as = true := by
   intro as
   induction as with
   | nil => simp [risA]
   | cons a l ih =>
     constructor
     · intro h
       have h0 := h 0 (by simp)
       have ih' := ih.1 fun i hi => by
         have := h (i + 1) (by simpa using hi)
         rw [okAttr_cons,Bool.and_eq_true] at this; exact this.1
       simp only [okAttr,List.getElem?_cons_zero,Bool.and_eq_true] at h0
       refine ⟨fun x hx => ?_,?_⟩
       · simp only [List.mem_cons] at hx
         rcases hx with rfl | hx
         · exact ⟨h0.1,h0.2.1⟩
         · exact ih'.1 x hx
       · cases l with
         | nil => rfl
         | cons b r =>
           have := h 1 (by simp)
           rw [okAttr_cons,Bool.and_eq_true] at this
           simp only [risA,Bool.and_eq_true]
           exact ⟨by simpa using this.2,ih'.2⟩
     · rintro ⟨h1,h2⟩ i hi
       have hl : ∀ i,i < l.length → okAttr l i = true := ih.2 ⟨fun x hx => h1 x (by simp [hx]),by
         cases l with
         | nil => rfl
         | cons b r => simp only [risA,Bool.and_eq_true] at h2; exact h2.2⟩
       cases i with
       | zero => simp [okAttr,(h1 a (by simp)).1,(h1 a (by simp)).2]
       | succ i =>
         rw [okAttr_cons,hl i (by simpa using hi)]
         cases l with
         | nil => simp at hi
         | cons b r =>
           simp only [risA,Bool.and_eq_true] at h2
           by_cases e : i = 0
           · simp [e,h2.1]
           · simp [e]
 unfold goodAttrs
 rw [Bool.and_eq_true,List.all_eq_true,← and_assoc,← key]
 constructor
 · rintro ⟨h1,h2⟩
   simp only [decide_eq_true_eq] at h2
   exact ⟨fun i hi => h1 i (by simpa using hi),by omega⟩
 · rintro ⟨h1,h2⟩
   exact ⟨fun i hi => h1 i (by simpa using hi),by simp only [decide_eq_true_eq]; omega⟩
theorem risA_lt : ∀ {a : Attr} {l : List Attr},risA (a :: l) = true → ∀ b ∈ l,Op.bytesLess a.name b.name = true
 | _,[],_,b,hb => by simp at hb
 | a,c :: r,h,b,hb => by
   simp only [risA,Bool.and_eq_true] at h
   simp only [List.mem_cons] at hb
   rcases hb with rfl | hb
   · exact h.1
   · exact bl_tr h.1 (risA_lt h.2 b hb)
theorem risA_tail {a : Attr} {l : List Attr} (h : risA (a :: l) = true) : risA l = true := by
 cases l with
 | nil => rfl
 | cons b r => simp only [risA,Bool.and_eq_true] at h; exact h.2
end Go.Am

/- Letters: sets of bytes; a string cut at both ends. -/
namespace Go.Am
open Go Go.RowKit
def setA (f : Nat → Bool) : List AV := (List.range 256).map fun i => .bool (f i)
end Go.Am

/- Strings cut and split. -/
namespace Go.Am
open Go Go.RowKit
theorem ext_of {S : St} {f : Nat} {fn : Func} {e : Array Value → Sem Value} {args : List AV} {H : Hp} {res : AV} (hf : S.P.funcs[f]? = some fn) (hname : (fn.name == "runtime.NumGoroutine") = false) (hb : fn.body.isNone = true)
   (hn : Extern.findNext fn = none) (he : Extern.find fn = some e) (hr : ∀ (w : World) (β : Lb → Option Nat) (I : Nat → Prop) (vs : List Value),RVs w β H I args vs → ∃ v,(e vs.toArray).run S.P w = .ok v w ∧ RV w β H I res v) (hl : res.lbs = []) :
   ExtC S f args H res := by
 intro K β env a w vs hS hrel hv
 subst hS
 obtain ⟨v,h1,h2⟩ := hr w β _ vs hv
 refine ⟨v,w,?_,Below.refl _ _,h2,by simp [hl]⟩
 rw [run_callFunc_extern hf hname hb hn he,h1]
 rfl
theorem rvs2 {w : World} {β : Lb → Option Nat} {H : Hp} {I : Nat → Prop} {x y : AV} {vs : List Value} (h : RVs w β H I [x,y] vs) : ∃ u v,vs = [u,v] ∧ RV w β H I x u ∧ RV w β H I y v := by
 match vs,h with
 | [u,v],h =>
   simp only [RVs] at h
   obtain ⟨_,_,h0,h1,_,_,h2,h3,h4⟩ := h
   cases h0; cases h2; cases h4
   exact ⟨u,v,rfl,h1,h3⟩
theorem ext_compare {S : St} {f : Nat} {fn : Func} (hf : S.P.funcs[f]? = some fn) (hname : (fn.name == "runtime.NumGoroutine") = false) (hb : fn.body.isNone = true)
   (hn : Extern.findNext fn = none) (he : Extern.find fn = some Extern.BytealgCompare.compare) (s t : Bs) (H : Hp) : ExtC S f [.str s,.str t] H (.int .i64 (Lib.compareBytes s t)) := by
 refine ext_of hf hname hb hn he (fun w β I vs hv => ?_) rfl
 obtain ⟨u,v,rfl,h1,h2⟩ := rvs2 hv
 simp only [RV] at h1 h2
 subst h1; subst h2
 exact ⟨_,Lib.run_compareString _ _ _,by simp [RV]⟩
def splitC (c : UInt8) : Bs → List Bs
 | [] => [[]]
 | b :: r => if b = c then [] :: splitC c r else match splitC c r with
   | w :: ws => (b :: w) :: ws
   | [] => [[b]]
section
variable {P : Program} {G : Nat → Option (List IV)}
end
end Go.Am

/- THE ABSTRACT MACHINE, part 47: calls of values. -/
namespace Go.Am
open Go Go.RowKit
section
variable {S : St} {env : Env} {H : Hp}
def cvK (S : St) (x : AV) (args : List AV) (H : Hp) (k : AV → Hp → Prop) (_ : Tw k) : Prop := ∃ f first cap,x = .fn f first cap ∧ goBody S.P f = true ∧ CallT S f (first ++ args ++ cap) H k
theorem a1_callv (d : Option Nat) (x : O) (args : List O) (k : AV → Hp → Prop) : Act1 S d (.callv x args) env H k = cvK S (ev env x) (args.map (ev env)) H k .mk := rfl
theorem cvK_fn (f : Nat) (first cap args : List AV) (k : AV → Hp → Prop) (u : Tw k) : cvK S (.fn f first cap) args H k u = (goBody S.P f = true ∧ clK S f (first ++ args ++ cap) H k .mk) := by
 simp only [cvK,clK,AV.fn.injEq,eq_iff_iff]
 constructor
 · rintro ⟨_,_,_,⟨rfl,rfl,rfl⟩,h⟩; exact h
 · intro h; exact ⟨_,_,_,⟨rfl,rfl,rfl⟩,h⟩
end
end Go.Am

/- Reading: attributes. -/
set_option pp.deepTerms false
set_option pp.deepTerms.threshold 5
namespace Go.Am
open Go Go.RowKit
theorem wtA_app : ∀ l m : List Attr,wtA (l ++ m) = wtA l + wtA m
 | [],m => by simp [wtA]
 | a :: r,m => by simp [wtA,wtA_app r m]; omega
section
variable {P : Program} {G : Nat → Option (List IV)}
end
end Go.Am
