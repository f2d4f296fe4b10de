import Derived.Test.YtfinkeaikbmpgaaKT66
import Derived.Test.YtfinkeaikbmpgaaKS3
import Derived.Test.YtfinkeaikbmpgaaKT8
set_option linter.unusedSimpArgs false
set_option linter.unusedVariables false
set_option linter.unnecessarySimpa false
set_option linter.defProp false
/- The bench: trees put in as kids. -/
set_option pp.deepTerms false
set_option pp.deepTerms.threshold 5
namespace Go.Am
open Go Go.RowKit
def Bn.adds (b : Bn) (p : Nat) (l : List Tree) : Bn := { b with nodes := b.nodes ++ flats b.nodes.length p l }
def Bn.ins (b : Bn) (p pl : Nat) (l : List Tree) : Bn := match b.nodes[p]? with
 | some x => (b.adds p l).set p { x with kids := x.kids.take pl ++ kidsAt b.nodes.length l ++ x.kids.drop pl }
 | none => b
def Bn.but2 (b : Bn) (p q : Nat) : List Nat := (List.range (4 + 2 * b.n0)).filter fun i => i ≠ p ∧ i ≠ q
theorem but2_mem {b : Bn} {p q i : Nat} : i ∈ b.but2 p q ↔ i < 4 + 2 * b.n0 ∧ i ≠ p ∧ i ≠ q := by simp [Bn.but2]
def InsI (P : Program) (G : Nat → Option (List IV)) (f : Nat) : Prop := ∀ (xs vs : List Int) (i : Nat),i ≤ xs.length → xs.length + vs.length ≤ B →
 GrwC P G 1 f [.sl (.par 0) 1 0 xs.length,.int .i64 i,.list (vs.map intIV)] (xs.map intIV) ((xs.take i ++ vs ++ xs.drop i).map intIV)
def DelI (P : Program) (G : Nat → Option (List IV)) (f : Nat) : Prop := ∀ (xs : List Int) (i : Nat),i < xs.length → xs.length ≤ B →
 GrwC P G 1 f [.sl (.par 0) 1 0 xs.length,.int .i64 i,.int .i64 ((i + 1 : Nat) : Int)] (xs.map intIV) ((xs.take i ++ xs.drop (i + 1)).map intIV)
def AddC (P : Program) (G : Nat → Option (List IV)) (f : Nat) : Prop := ∀ (t : Tree) (b : Bn),b.n0 ≤ b.nodes.length → ∀ (p : Int),b.nodes.length + t.wt ≤ B →
   ShC P G f [.ptr (.par 0) 3 0 0,t.av,.int .i64 p] (bSh b) (b.but 1) fun X R2 => X = (fun _ => .int .i64 b.nodes.length) ∧ R2 = bSh (b.add t p)
section
variable {P : Program} {G : Nat → Option (List IV)}
def c_change_bench_insert (f_change_bench_add f_slices_Insert_int_int : Nat) : AC :=
(.seq (.reg [⟨some 8,none,.mov (.c .nil0)⟩]) (.gh (.own 8 1) (.seq (.seq (.reg [⟨some 11,none,.mov (.t 3)⟩,⟨some 12,none,.len (.t 11)⟩,⟨some 13,none,.mov (.c (.int .i64 0))⟩]) (.block 0 (.loop (.seq (.reg [⟨some 14,none,.bin .lss (.t 13) (.t 12)⟩]) (.seq (.cond (.t 14) .skip (.exit 0)) (.seq (.block 1 (.seq (.reg [⟨some 15,none,.ixa (.t 11) (.t 13) 4⟩,⟨some 16,none,.load (some 4) (.t 15)⟩,⟨some 10,none,.new [(.bool false),(.str []),.nil0,.nil0]⟩,⟨none,none,.store 4 (.t 10) (.t 16)⟩]) (.reg [⟨some 17,none,.mov (.t 8)⟩,⟨some 18,none,.mov (.t 0)⟩,⟨some 19,none,.load (some 4) (.t 10)⟩,⟨some 20,none,.mov (.t 1)⟩,⟨some 21,none,.call f_change_bench_add [(.t 18),(.t 19),(.t 20)]⟩,⟨some 22,none,.lits 1 1 [(.int .i64 0)] [(0,(.t 21))]⟩,⟨some 23,none,.app (.t 17) (.t 22) 1 8⟩,⟨some 8,none,.mov (.t 23)⟩]))) (.reg [⟨some 24,none,.bin .add (.t 13) (.c (.int .i64 1))⟩,⟨some 13,none,.mov (.t 24)⟩]))))))) (.gh (.frz (.loc 8) 8) (.dreg [⟨some 25,none,.mov (.t 0)⟩,⟨some 26,none,.nchk (.t 25)⟩,⟨some 27,none,.fld (.t 26) 0⟩,⟨some 28,none,.load none (.t 27)⟩,⟨some 29,none,.mov (.t 1)⟩,⟨some 30,none,.mov (.t 0)⟩,⟨some 31,none,.nchk (.t 30)⟩,⟨some 32,none,.fld (.t 31) 0⟩,⟨some 33,none,.load none (.t 32)⟩,⟨some 34,none,.mov (.t 1)⟩,⟨some 35,none,.ixa (.t 33) (.t 34) 5⟩,⟨some 36,none,.fld (.t 35) 4⟩,⟨some 37,none,.load none (.t 36)⟩,⟨some 38,none,.mov (.t 2)⟩,⟨some 39,none,.mov (.t 8)⟩,⟨some 40,none,.call f_slices_Insert_int_int [(.t 37),(.t 38),(.t 39)]⟩,⟨some 41,none,.ixa (.t 28) (.t 29) 5⟩,⟨some 42,none,.fld (.t 41) 4⟩,⟨none,none,.store 1 (.t 42) (.t 40)⟩] [[],[0],[1],[2],[],[],[5],[6],[7],[],[8,9],[10],[11],[],[],[12,13,14],[3,4,0,1,2,3,4,5,6,7,8,9,10,11,12,13,14,15],[16,0,1,2,3,4,5,6,7,8,9,10,11,12,13,14,15],[17,15,15,0,1,2,3,4,5,6,7,8,9,10,11,12,13,14,15]] [.no,.no,.no,(.rw [(.par 0)] []),.no,.no,.no,.no,(.rw [(.par 0)] []),.no,.no,.no,(.rw [(.gen 0)] []),.no,.no,(.far [(.par 0)]),.no,.no,(.rw [] [(.gen 0)])])))))
structure InsS (l : List Tree) where
 i : Nat
 hi : i ≤ l.length
def insPs (b : Bn) (p pl : Nat) (l : List Tree) (q : InsS l) : List (Nat × AV) :=
 [(0,.ptr (.par 0) 3 0 0),(1,.int .i64 p),(2,.int .i64 pl),(8,.sl (.loc 8) 1 0 q.i),(11,.list (ivT l)),(12,.int .i64 l.length),(13,.int .i64 q.i)]
def insRs (b : Bn) (l : List Tree) (q : InsS l) : List (Lb × Row) :=
 [(.loc 8,⟨1,immE ((kidsAt b.nodes.length (l.take q.i)).map intIV)⟩)]
theorem cInsert {f_change_bench_insert f_change_bench_add f_slices_Insert_int_int : Nat} (hF : compF P G f_change_bench_insert = some (43,[],(c_change_bench_insert f_change_bench_add f_slices_Insert_int_int).bare)) (b : Bn) (hn : b.n0 ≤ b.nodes.length) (p pl : Nat) (hp : p < b.n0) (x : Node) (hx : b.nodes[p]? = some x) (hpl : pl ≤ x.kids.length)
   (l : List Tree) (hb : b.nodes.length + wtT l ≤ B) (hxk : x.kids.length + l.length ≤ B) (hA : AddC P G f_change_bench_add) (hI : InsI P G f_slices_Insert_int_int) :
   ShC P G f_change_bench_insert [.ptr (.par 0) 3 0 0,.int .i64 p,.int .i64 pl,.list (ivT l)] (bSh b) (b.but2 1 (5 + 2 * p)) fun X R2 => X = (fun _ => .tup []) ∧ R2 = bSh (b.ins p pl l) := by
 refine sh_of_go hF (by simp) (by simp [lbss,AV.lbs,bSh_ok,Tree.av]; omega) ?_
 have hA0 : BnAt Lb.par b (inS (bSh b)) := inS_at _
 have hU : ∀ q : Lb,(∀ p,p < 4 + 2 * b.n0 → q ≠ .par p) → inS (bSh b) q = .unused := fun q hq => shH_ne _ fun p hp e => hq p (bSh_ok.1 hp) e.symm
 have h8 : inS (bSh b) (.loc 8) = .unused := hU _ (by simp)
 have hkl := wtT_len l
 have hBv : B = 1073741824 := rfl
 have hi1 : ∀ p',p' ≠ 1 → Lb.gen 0 ≠ .par p' := by simp
 have hI0 : ∀ q : InsS l,bSh (b.adds p (l.take q.i)) = bSh (b.adds p (l.take q.i)) := fun _ => rfl
 unfold c_change_bench_insert
 simp only [↓aX,mX,reduceCtorEq,Nat.reduceEqDiff,Nat.reduceLT,Nat.reduceLeDiff,Nat.reduceAdd,Nat.reduceMul,Int.reduceToNat,Int.reduceLE,Int.reduceLT,h8]
 refine loop_sh (σ := InsS l) (lab1 (.gen 0)) (fun q => bSh (b.adds p (l.take q.i))) [.loc 8] (fun l => l == .par 1) (insPs b p pl l) (insRs b l) (fun q => l.length - q.i) ⟨0,Nat.zero_le _⟩
   (fun q p1 p2 _ _ e => lab1_inj hi1 e) (fun _ => rfl) (by simp [lab1]; intro _ p' _; split <;> simp) ?_ ?_ ?_ ?_
 · intro q l' hl
   simp [lbss,AV.lbs,insPs] at hl
   rcases hl with rfl | rfl
   · right; exact ⟨0,bSh_ok.2 (by omega),by simp [lab1]⟩
   · left; simp
 · intro q z hz cs hcs l' hl
   simp only [insRs,List.mem_singleton] at hz
   subst hz
   rw [lbss_immE hcs] at hl; simp at hl
 · have hb0 : b.adds p (l.take 0) = b := by simp [Bn.adds,flats]
   refine ⟨Lb.par,[],?_⟩
   have r0 : rhoS (lab1 (.gen 0)) Lb.par (bSh (b.adds p (l.take 0))) [] (.par 0) = .par 0 :=
     rhoS_at (labC := lab1 (.gen 0)) (fun p1 p2 _ _ e => lab1_inj hi1 e) (p := 0) (bSh_ok.2 (by omega))
   have r8 : rhoS (lab1 (.gen 0)) Lb.par (bSh (b.adds p (l.take 0))) [] (.loc 8) = .loc 8 := rhoS_ne (by intro p' _; simp [lab1]; split <;> simp)
   refine ⟨?_,?_,?_,?_,by simp [rnF],?_,by simp [rnF,Lb.fresh,Lb.entry],?_⟩
   · simp only [hb0]; exact hA0.upd' (by simp)
   · intro l' he hu
     cases l' with
     | par k =>
       by_cases h1 : k = 1
       · subst h1; right; right; rfl
       · left
         refine ⟨k,bSh_ok.2 ?_,by simp [lab1,h1]⟩
         refine Decidable.byContradiction fun hk => hu ?_
         simp only [upd_at,reduceCtorEq,if_false]
         exact hU _ fun p' hp' e => hk (by simp only [Lb.par.injEq] at e; subst e; exact hp')
     | _ => simp [Lb.entry] at he
   · simp [insPs,EqL,ren,put,argE,ivT_len]
     exact ⟨r0.symm,r8.symm⟩
   · intro z hz
     simp only [insRs,List.mem_singleton] at hz
     subst hz
     simp [rnF,upd_at,renR_immE]
     simp [kidsAt,immE]
   · intro l' hl p' hp'
     simp only [List.mem_singleton] at hl
     subst hl
     simp [rnF]
   · intro p' hp'
     refine ⟨by simp [lab1]; split <;> simp [Lb.fresh],?_⟩
     unfold lab1; split <;> simp [Lb.entry]
 · intro q
   obtain ⟨H0,hH0⟩ : ∃ H0,H0 = shH (lab1 (.gen 0)) (bSh (b.adds p (l.take q.i))) (ofU (fun l => l == .par 1) (insRs b l q)) := ⟨_,rfl⟩
   rw [← hH0]
   have hB : BnAt (lab1 (.gen 0)) (b.adds p (l.take q.i)) H0 := by rw [hH0]; exact ShAt.of_shH (fun p1 p2 _ _ e => lab1_inj hi1 e) _
   have hO : ∀ l' : Lb,(∀ p',lab1 (.gen 0) p' ≠ l') → H0 l' = ofU (fun l => l == .par 1) (insRs b l q) l' := fun l' hl => by rw [hH0]; exact shH_ne _ fun p' _ => hl p'
   have a8 : H0 (.loc 8) = .live ⟨1,immE ((kidsAt b.nodes.length (l.take q.i)).map intIV)⟩ := (hO _ (by intro p'; simp [lab1]; split <;> simp)).trans (by simp [ofU,insRs,ofH,upd])
   have a10 : H0 (.loc 10) = .unused := (hO _ (by intro p'; simp [lab1]; split <;> simp)).trans (by simp [ofU,insRs,ofH,upd,Hp.none])
   have a23 : H0 (.loc 23) = .unused := (hO _ (by intro p'; simp [lab1]; split <;> simp)).trans (by simp [ofU,insRs,ofH,upd,Hp.none])
   have ag : H0 (.gen 40) = .unused := (hO _ (by intro p'; simp [lab1]; split <;> simp)).trans (by simp [ofU,insRs,ofH,upd,Hp.none])
   have aN : ∀ l,H0 (NC 9 l) = .unused := fun l' => (hO _ (by intro p'; simp [lab1,NC]; split <;> simp)).trans (by simp [ofU,insRs,ofH,upd,Hp.none,NC])
   have anf : ∀ k,H0 (.par k) ≠ .unused → k < 4 + 2 * b.n0 := by
     intro k hu
     refine Decidable.byContradiction fun hk => hu ?_
     rw [hH0,shH_ne _ fun p' hp' e => ?_]
     · have : k ≠ 1 := by omega
       simp [ofU,insRs,ofH,upd,Hp.none,this]
     · have h2 := (bSh_ok (b := b.adds p (l.take q.i))).1 hp'
       unfold lab1 at e; split at e <;> simp at e
       subst e; exact hk h2
   clear hH0 hO
   have hi := q.hi
   have hkn : (kidsAt b.nodes.length (l.take q.i)).length = q.i := by rw [kidsAt_len,List.length_take]; omega
   have hct := cntT_le (l.take q.i)
   have hwt2 := wtT_take l q.i
   simp only [↓aX,mX,reduceCtorEq,Nat.reduceEqDiff,Nat.reduceLT,Nat.reduceLeDiff,Nat.reduceAdd,Nat.reduceMul,Int.reduceToNat,Int.reduceLE,Int.reduceLT,insPs]
   refine cK_b (fun h => ?_) (fun h => ?_)
   · have hlt : q.i < l.length := by simpa using h
     obtain ⟨k,hki⟩ : ∃ k,l[q.i]? = some k := ⟨_,List.getElem?_eq_getElem hlt⟩
     have hw : IntKind.i64.wrap ((q.i : Int) + 1) = ((q.i + 1 : Nat) : Int) := wrap64 (by omega) (by omega)
     have htk : l.take (q.i + 1) = l.take q.i ++ [k] := take_snoc' hki
     have hwk : wtT (l.take q.i) + k.wt ≤ wtT l := by
       have := wtT_take l (q.i + 1)
       rw [htk,wtT_app] at this
       simp only [wtT] at this; omega
     simp only [↓aX,mX,reduceCtorEq,Nat.reduceEqDiff,Nat.reduceLT,Nat.reduceLeDiff,Nat.reduceAdd,Nat.reduceMul,Int.reduceToNat,Int.reduceLE,Int.reduceLT,ivT_get,hki,elszT,Tree.cells_eq,Tree.cs,a10]
     have hoff : (b.adds p (l.take q.i)).nodes.length = b.nodes.length + cntT (l.take q.i) := by simp [Bn.adds,flats_len]
     refine callT_sh (lab := lab1 (.gen 0)) (N := NC 9) (hA k (b.adds p (l.take q.i)) (by rw [hoff]; show b.n0 ≤ _; omega) p (by rw [hoff]; omega)) ?_ ?_ ?_ (NC_inj 9) (fun l h => .inl h) (fun p' hp' => bSh_ok.2 (but_mem.1 hp').1) ?_
     · simp [rens,ren,inR,lab1,Tree.av]
     · exact (hB.upd' (by intro p' _; simp [lab1]; split <;> simp)).upd' (by intro p' _; simp [lab1]; split <;> simp)
     · intro l'; rw [upd_ne _ _ (by simp [NC]),upd_ne _ _ (by simp [NC])]; exact aN l'
     · rintro X R2 lab2 H2 ⟨rfl,rfl⟩ g1 g2 g3 g4 g5 g6
       have hfar : ∀ n : Nat,n ≠ 10 → H2 (.loc n) = H0 (.loc n) := fun n hn => by
         rw [g4 (.loc n) (by intro p' _; simp [lab1]; split <;> simp) (by simp [NC]),upd_ne _ _ (by simpa using hn),upd_ne _ _ (by simpa using hn)]
       have hl2 : ∀ p' : Nat,(bSh ((b.adds p (l.take q.i)).add k p)).ok p' → ∀ n,lab2 p' ≠ .loc n := by
         intro p' hp' n
         rcases g3 p' hp' with ⟨p0,_,e⟩ | ⟨l,e⟩ <;> rw [e]
         · simp [lab1]; split <;> simp
         · simp [NC]
       have hl3 : ∀ p',p' < 4 + 2 * b.n0 → p' ≠ 1 → lab2 p' = .par p' := fun p' h1 h2 => by rw [g2 p' (but_mem.2 ⟨h1,h2⟩)]; simp [lab1,h2]
       simp only [↓aX,mX,reduceCtorEq,Nat.reduceEqDiff,Nat.reduceLT,Nat.reduceLeDiff,Nat.reduceAdd,Nat.reduceMul,Int.reduceToNat,Int.reduceLE,Int.reduceLT]
       rw [app_loc 1 8 23 8 ((kidsAt b.nodes.length (l.take q.i)).map intIV) (.int .i64 (b.adds p (l.take q.i)).nodes.length) (by rw [hfar 8 (by decide),a8]) (by rw [List.length_map,hkn]) rfl (by simp [IV.cells]) (by omega) (by decide) (by decide) (by rw [hfar 23 (by decide),a23])]
       simp only [↓aX,mX,reduceCtorEq,Nat.reduceEqDiff,Nat.reduceLT,Nat.reduceLeDiff,Nat.reduceAdd,Nat.reduceMul,Int.reduceToNat,Int.reduceLE,Int.reduceLT,hw]
       have hkid : kidsAt b.nodes.length (l.take (q.i + 1)) = kidsAt b.nodes.length (l.take q.i) ++ [((b.adds p (l.take q.i)).nodes.length : Int)] := by
         rw [htk,kidsAt_app,hoff]; simp [kidsAt]
       have hbn : (b.adds p (l.take q.i)).add k p = b.adds p (l.take (q.i + 1)) := by
         show ({ (b.adds p (l.take q.i)) with nodes := (b.adds p (l.take q.i)).nodes ++ k.flat (b.adds p (l.take q.i)).nodes.length p } : Bn) = _
         rw [hoff]
         simp [Bn.adds,htk,flats_app,flats]
       rw [hbn] at g1 hl2
       refine ⟨⟨q.i + 1,hlt⟩,by simp only; omega,lab2,[(.loc 8,.loc 23)],?_⟩
       have r0 : rhoS (lab1 (.gen 0)) lab2 (bSh (b.adds p (l.take (q.i + 1)))) [(.loc 8,.loc 23)] (.par 0) = .par 0 :=
         (rhoS_at (labC := lab1 (.gen 0)) (fun p1 p2 _ _ e => lab1_inj hi1 e) (p := 0) (bSh_ok.2 (by omega))).trans (hl3 0 (by omega) (by decide))
       have r8 : rhoS (lab1 (.gen 0)) lab2 (bSh (b.adds p (l.take (q.i + 1)))) [(.loc 8,.loc 23)] (.loc 8) = .loc 23 := (rhoS_ne (by intro p' _; simp [lab1]; split <;> simp)).trans (by simp [rnF])
       refine ⟨(g1.upd' fun p' hp' => hl2 p' hp' 8).upd' fun p' hp' => hl2 p' hp' 23,?_,?_,?_,by simp [rnF],?_,by simp [rnF,Lb.fresh,Lb.entry],?_⟩
       · intro l' he hu
         cases l' with
         | par k' =>
           by_cases h1 : k' = 1
           · subst h1; right; right; rfl
           · left
             refine ⟨k',bSh_ok.2 ?_,by simp [lab1,h1]⟩
             refine Decidable.byContradiction fun hk' => hk' ?_
             refine anf k' ?_
             rw [upd_ne _ _ (by simp),upd_ne _ _ (by simp),g4 (.par k') ?_ (by simp [NC]),upd_ne _ _ (by simp),upd_ne _ _ (by simp)] at hu
             · exact hu
             · intro p' hp' e
               simp only [lab1] at e; split at e <;> simp at e
               subst e; exact hk' ((bSh_ok (b := b.adds p (l.take q.i))).1 hp')
         | _ => simp [Lb.entry] at he
       · simp [insPs,EqL,ren,put,ofL,r0,r8]
       · intro z hz
         simp only [insRs,List.mem_singleton] at hz
         subst hz
         simp [rnF,upd_at,renR_immE]
         rw [hkid]; simp [immE,intIV]
       · intro l' hl p' hp'
         simp only [List.mem_singleton] at hl
         subst hl
         simpa [rnF] using hl2 p' hp' 23
       · intro p' hp'
         refine ⟨by simp [lab1]; split <;> simp [Lb.fresh],?_⟩
         unfold lab1; split
         · simp [Lb.entry]
         · rename_i h1; intro _; exact hl3 p' ((bSh_ok (b := b.adds p (l.take (q.i + 1)))).1 hp') h1
   · have he : q.i = l.length := by simp at h; omega
     have htk : l.take q.i = l := by rw [he]; simp
     rw [htk] at a8 hkn hB
     have hs : H0 (.par 0) = .live ⟨3,[[.sl (.gen 0) 5 0 (b.adds p l).nodes.length,.sl (.par 2) 1 0 b.fs.length,.sl (.par 3) 1 0 b.as.length]]⟩ := hB.s
     have hnd : H0 (.gen 0) = .live ⟨5,(b.adds p l).nodes.mapIdx (bNode b.n0 (lab1 (.gen 0)))⟩ := hB.n
     have hlp : p < b.nodes.length := by omega
     have hx2 : (b.adds p l).nodes[p]? = some x := by simp only [Bn.adds]; rw [List.getElem?_append_left hlp]; exact hx
     have hlen : p < (b.adds p l).nodes.length := (List.getElem?_eq_some_iff.1 hx2).1
     have h5 : ¬ 5 + 2 * p = 1 := by omega
     have hkd : H0 (.par (5 + 2 * p)) = .live ⟨1,immE (x.kids.map intIV)⟩ := by
       have := hB.kd hp hx2
       simpa [lab1,h5] using this
     have hget : ((b.adds p l).nodes.mapIdx (bNode b.n0 (lab1 (.gen 0))))[p]? = some [.bool x.text,.str x.s,.sl (.par (4 + 2 * p)) 2 0 x.attrs.length,.int .i64 x.parent,.sl (.par (5 + 2 * p)) 1 0 x.kids.length] := by
       have := hB.get hx2
       rw [show (b.adds p l).n0 = b.n0 from rfl,bNode_lt hp] at this
       rw [this]
       have h4 : ¬ 4 + 2 * p = 1 := by omega
       simp [lab1,h4,h5]
     have hkt : ((kidsAt b.nodes.length l).map intIV).take q.i = (kidsAt b.nodes.length l).map intIV := List.take_of_length_le (by rw [List.length_map,hkn]; omega)
     simp only [↓aX,mX,reduceCtorEq,Nat.reduceEqDiff,Nat.reduceLT,Nat.reduceLeDiff,Nat.reduceAdd,Nat.reduceMul,Int.reduceToNat,Int.reduceLE,Int.reduceLT]
     refine ⟨1,(kidsAt b.nodes.length l).map intIV,0,q.i,rfl,a8,by rw [List.length_map,hkn]; omega,flatI _,?_⟩
     simp only [↓aX,mX,reduceCtorEq,Nat.reduceEqDiff,Nat.reduceLT,Nat.reduceLeDiff,Nat.reduceAdd,Nat.reduceMul,Int.reduceToNat,Int.reduceLE,Int.reduceLT,hs,hnd,List.length_mapIdx,hlen,Int.natCast_nonneg,Int.toNat_natCast,and_self,true_and,Nat.zero_add,hget,hkt]
     refine ⟨rfl,?_⟩
     have hkl2 : (kidsAt b.nodes.length l).length = l.length := kidsAt_len _ _
     have hins : b.ins p pl l = (b.adds p l).set p { x with kids := x.kids.take pl ++ kidsAt b.nodes.length l ++ x.kids.drop pl } := by unfold Bn.ins; rw [hx]
     have hne1 : ∀ k,lab1 (.gen 0) k ≠ .loc 8 := by intro p'; simp [lab1]; split <;> simp
     have hB' : BnAt (lab1 (.gen 0)) (b.adds p l) (upd H0 (.loc 8) .dead) := hB.upd' fun p' _ => hne1 p'
     have key : ∀ N : Lb,(N = .par (5 + 2 * p) ∨ N = .gen 40) → ∀ H2 : Hp,H2 (.gen 0) = .live ⟨5,((b.adds p l).nodes.mapIdx (bNode b.n0 (lab1 (.gen 0)))).set p [.bool x.text,.str x.s,.sl (.par (4 + 2 * p)) 2 0 x.attrs.length,.int .i64 x.parent,.sl N 1 0 (x.kids.take pl ++ kidsAt b.nodes.length l ++ x.kids.drop pl).length]⟩ →
         H2 N = .live ⟨1,immE ((x.kids.take pl ++ kidsAt b.nodes.length l ++ x.kids.drop pl).map intIV)⟩ → (∀ q,q ≠ .gen 0 → q ≠ N → q ≠ .par (5 + 2 * p) → H2 q = upd H0 (.loc 8) .dead q) →
         ∃ t : ((Nat → Lb) → AV) × Shp × (Nat → Lb),(t.1 = (fun _ => .tup []) ∧ t.2.1 = bSh (b.ins p pl l)) ∧ (∀ ρ,ren ρ (t.1 t.2.2) = t.1 fun i => ρ (t.2.2 i)) ∧ (∀ l ∈ (AV.tup []).lbs,∃ p,t.2.1.ok p ∧ l = t.2.2 p) ∧ AV.tup [] = t.1 t.2.2 ∧ ShAt t.2.2 t.2.1 H2 ∧ ∀ p' ∈ b.but2 1 (5 + 2 * p),t.2.2 p' = .par p' := by
       intro N hN H2 e1 e2 e3
       refine ⟨⟨fun _ => .tup [],bSh (b.ins p pl l),fun p' => if p' = 5 + 2 * p then N else lab1 (.gen 0) p'⟩,⟨rfl,rfl⟩,fun ρ => by simp [ren,rens],by simp [AV.lbs,lbss],rfl,?_,?_⟩
       · rw [hins]
         have h4 : ¬ 4 + 2 * p = 1 := by omega
         refine BnAt.setK hB' hp hx2 ?_ (by rw [show lab1 (.gen 0) (4 + 2 * p) = .par (4 + 2 * p) by simp [lab1,h4]]; exact e1) e2 (fun q g1 g2 g3 => e3 q g1 g2 (by simpa [lab1,h5] using g3))
         rcases hN with rfl | rfl
         · left; simp [lab1,h5]
         · right; intro p' _; simp [lab1]; split <;> simp
       · intro p' hp'
         obtain ⟨_,q1,q2⟩ := but2_mem.1 hp'
         simp [q1,q2,lab1]
     refine far_grw (l := .par (5 + 2 * p)) (N := .gen 40) (hI x.kids (kidsAt b.nodes.length l) pl hpl (by rw [hkl2]; exact hxk)) rfl (by rw [upd_ne _ _ (by simp)]; exact hkd) (by rw [upd_ne _ _ (by simp)]; exact ag) (by simp [Lb.fresh]) (by simp [Lb.fam]) (by simp [Lb.fam]) ?_ ?_
     · simp only [↓aX,mX,reduceCtorEq,Nat.reduceEqDiff,Nat.reduceLT,Nat.reduceLeDiff,Nat.reduceAdd,Nat.reduceMul,Int.reduceToNat,Int.reduceLE,Int.reduceLT,hs,hnd,List.length_mapIdx,hlen,Int.natCast_nonneg,Int.toNat_natCast,and_self,true_and,Nat.zero_add,hget,List.length_map]
       rw [ret_n]
       refine ⟨[],rfl,key (.gen 40) (.inr rfl) _ (by simp [upd_at]) (by simp [upd_at]) ?_⟩
       intro q g1 g2 g3
       simp [upd_at,g1,g2,g3]
     · simp only [↓aX,mX,reduceCtorEq,Nat.reduceEqDiff,Nat.reduceLT,Nat.reduceLeDiff,Nat.reduceAdd,Nat.reduceMul,Int.reduceToNat,Int.reduceLE,Int.reduceLT,hs,hnd,List.length_mapIdx,hlen,Int.natCast_nonneg,Int.toNat_natCast,and_self,true_and,Nat.zero_add,hget,List.length_map]
       rw [ret_n]
       refine ⟨[],rfl,key (.par (5 + 2 * p)) (.inl rfl) _ (by simp [upd_at]) (by simp [upd_at]) ?_⟩
       intro q g1 g2 g3
       simp [upd_at,g1,g2,g3]
end
end Go.Am

/- Changes: what is wrong with one. -/
namespace Go.Am
open Go Go.RowKit
structure Op where
 kind : Int
 target : Int
 content : List Tree
 name : Bs
 s : Bs
def Op.cs (x : Op) : List IV := [.int .i64 x.kind,.int .i64 x.target,.list (ivT x.content),.str x.name,.str x.s]
def Op.iv (x : Op) : IV := .agg x.cs
def Op.av (x : Op) : AV := .agg [.int .i64 x.kind,.int .i64 x.target,.list (ivT x.content),.str x.name,.str x.s]
theorem Op.cells_eq (x : Op) : x.iv.cells = x.cs := rfl
theorem elszO (xs : List Op) : Elsz 5 (xs.map Op.iv) := elsz_map Op.iv 5 (fun _ => rfl) xs
theorem opGet (l : List Op) (i : Nat) : (l.map Op.iv)[i]? = (l[i]?).map Op.iv := List.getElem?_map ..
theorem Op.cs_flat (x : Op) : ∀ z ∈ x.cs,∀ cs,z ≠ .agg cs := by
 intro z hz cs
 simp only [Op.cs,List.mem_cons,List.not_mem_nil,or_false] at hz
 rcases hz with rfl | rfl | rfl | rfl | rfl <;> simp
theorem flatO (xs : List Op) : Flat (xs.map Op.iv) := flat_map _ (fun x => x.cs_flat) _
def phaseF (k : Int) (t : Bool) : Int := if k = 3 then 2 else if k = 4 then 2 else if k = 6 then 3 else if k = 7 then (if t then 1 else 4) else if k = 5 then 5 else 1
def c_change_phase : AC :=
(.seq (.reg [⟨some 4,none,.mov (.c (.int .i64 0))⟩]) (.seq (.seq (.reg [⟨some 5,none,.mov (.t 0)⟩]) (.block 0 (.seq (.seq (.reg [⟨some 7,none,.bin .eql (.t 5) (.c (.int .i64 3))⟩,⟨some 6,none,.mov (.t 7)⟩]) (.cond (.t 6) .skip (.reg [⟨some 8,none,.bin .eql (.t 5) (.c (.int .i64 4))⟩,⟨some 6,none,.mov (.t 8)⟩]))) (.cond (.t 6) (.seq (.reg [⟨some 4,none,.mov (.c (.int .i64 2))⟩]) .ret) (.seq (.reg [⟨some 10,none,.bin .eql (.t 5) (.c (.int .i64 6))⟩,⟨some 9,none,.mov (.t 10)⟩]) (.cond (.t 9) (.seq (.reg [⟨some 4,none,.mov (.c (.int .i64 3))⟩]) .ret) (.seq (.reg [⟨some 12,none,.bin .eql (.t 5) (.c (.int .i64 7))⟩,⟨some 11,none,.mov (.t 12)⟩]) (.cond (.t 11) (.seq (.reg [⟨some 13,none,.mov (.t 1)⟩,⟨some 14,none,.not (.t 13)⟩]) (.cond (.t 14) (.seq (.reg [⟨some 4,none,.mov (.c (.int .i64 4))⟩]) .ret) .skip)) (.seq (.reg [⟨some 16,none,.bin .eql (.t 5) (.c (.int .i64 5))⟩,⟨some 15,none,.mov (.t 16)⟩]) (.cond (.t 15) (.seq (.reg [⟨some 4,none,.mov (.c (.int .i64 5))⟩]) .ret) .skip)))))))))) (.seq (.reg [⟨some 4,none,.mov (.c (.int .i64 1))⟩]) .ret)))
theorem pPhase {P : Program} {G : Nat → Option (List IV)} {f_change_phase : Nat} (hF : compF P G f_change_phase = some (17,[(none,4)],c_change_phase.bare)) (k : Int) (t : Bool) : PureC P G f_change_phase [.int .i64 k,.bool t] (.int .i64 (phaseF k t)) := by
 refine pure_of_go hF (by simp) (by simp [lbss,AV.lbs]) (by simp [AV.lbs]) ?_
 unfold c_change_phase
 by_cases h3 : k = 3
 · subst h3; simp only [↓aX,mX,reduceCtorEq,Nat.reduceEqDiff,Nat.reduceLT,Nat.reduceLeDiff,Nat.reduceAdd,Nat.reduceMul,Int.reduceToNat,Int.reduceLE,Int.reduceLT,Int.reduceBEq]; rfl
 by_cases h4 : k = 4
 · subst h4; simp only [↓aX,mX,reduceCtorEq,Nat.reduceEqDiff,Nat.reduceLT,Nat.reduceLeDiff,Nat.reduceAdd,Nat.reduceMul,Int.reduceToNat,Int.reduceLE,Int.reduceLT,Int.reduceBEq]; rfl
 by_cases h6 : k = 6
 · subst h6; simp only [↓aX,mX,reduceCtorEq,Nat.reduceEqDiff,Nat.reduceLT,Nat.reduceLeDiff,Nat.reduceAdd,Nat.reduceMul,Int.reduceToNat,Int.reduceLE,Int.reduceLT,Int.reduceBEq]; rfl
 by_cases h7 : k = 7
 · subst h7
   cases t
   · simp only [↓aX,mX,reduceCtorEq,Nat.reduceEqDiff,Nat.reduceLT,Nat.reduceLeDiff,Nat.reduceAdd,Nat.reduceMul,Int.reduceToNat,Int.reduceLE,Int.reduceLT,Int.reduceBEq,Bool.not_false]; rfl
   · simp only [↓aX,mX,reduceCtorEq,Nat.reduceEqDiff,Nat.reduceLT,Nat.reduceLeDiff,Nat.reduceAdd,Nat.reduceMul,Int.reduceToNat,Int.reduceLE,Int.reduceLT,Int.reduceBEq,Bool.not_true]; rfl
 by_cases h5 : k = 5
 · subst h5; simp only [↓aX,mX,reduceCtorEq,Nat.reduceEqDiff,Nat.reduceLT,Nat.reduceLeDiff,Nat.reduceAdd,Nat.reduceMul,Int.reduceToNat,Int.reduceLE,Int.reduceLT,Int.reduceBEq]; rfl
 simp only [↓aX,mX,reduceCtorEq,Nat.reduceEqDiff,Nat.reduceLT,Nat.reduceLeDiff,Nat.reduceAdd,Nat.reduceMul,Int.reduceToNat,Int.reduceLE,Int.reduceLT,beq_eq_false_iff_ne.2 h3,beq_eq_false_iff_ne.2 h4,beq_eq_false_iff_ne.2 h6,beq_eq_false_iff_ne.2 h7,beq_eq_false_iff_ne.2 h5]
 simp only [phaseF,h3,h4,h5,h6,h7,if_false]
def attrK (k : Int) : Bool := k == 9 || k == 10
def againstF (a b : Op) : Bool := a.target == b.target && ((attrK a.kind && attrK b.kind && a.name == b.name) || (a.kind == b.kind && decide (6 ≤ a.kind) && decide (a.kind ≤ 8)))
def c_change_Against : AC :=
(.seq (.reg [⟨some 2,none,.box (.t 0)⟩,⟨some 3,none,.box (.t 1)⟩,⟨some 4,none,.mov (.c (.bool false))⟩]) (.seq (.seq (.reg [⟨some 6,none,.fld (.t 2) 1⟩,⟨some 7,none,.load none (.t 6)⟩,⟨some 8,none,.fld (.t 3) 1⟩,⟨some 9,none,.load none (.t 8)⟩,⟨some 10,none,.bin .neq (.t 7) (.t 9)⟩]) (.cond (.t 10) (.seq (.reg [⟨some 4,none,.mov (.c (.bool false))⟩]) .ret) .skip)) (.seq (.reg [⟨some 11,none,.fld (.t 2) 0⟩,⟨some 12,none,.load none (.t 11)⟩,⟨some 13,none,.bin .eql (.t 12) (.c (.int .i64 9))⟩,⟨some 14,none,.mov (.t 13)⟩,⟨some 15,(some (14,false)),(.fld (.t 2) 0)⟩,⟨some 16,(some (14,false)),(.load none (.t 15))⟩,⟨some 17,(some (14,false)),(.bin .eql (.t 16) (.c (.int .i64 10)))⟩,⟨some 18,none,.pick (.t 14) (.c (.bool true)) (.t 17)⟩,⟨some 19,none,.mov (.t 18)⟩,⟨some 20,(some (19,true)),(.fld (.t 3) 0)⟩,⟨some 21,(some (19,true)),(.load none (.t 20))⟩,⟨some 22,(some (19,true)),(.bin .eql (.t 21) (.c (.int .i64 9)))⟩,⟨some 23,(some (19,true)),(.mov (.t 22))⟩,⟨some 24,(some (23,false)),(.fld (.t 3) 0)⟩,⟨some 25,(some (23,false)),(.load none (.t 24))⟩,⟨some 26,(some (23,false)),(.bin .eql (.t 25) (.c (.int .i64 10)))⟩,⟨some 27,(some (19,true)),(.pick (.t 23) (.c (.bool true)) (.t 26))⟩,⟨some 28,none,.pick (.t 19) (.t 27) (.c (.bool false))⟩,⟨some 5,none,.mov (.t 28)⟩]) (.seq (.reg [⟨some 29,none,.mov (.t 5)⟩,⟨some 30,none,.mov (.t 29)⟩,⟨some 31,(some (30,true)),(.fld (.t 2) 3)⟩,⟨some 32,(some (30,true)),(.load none (.t 31))⟩,⟨some 33,(some (30,true)),(.fld (.t 3) 3)⟩,⟨some 34,(some (30,true)),(.load none (.t 33))⟩,⟨some 35,(some (30,true)),(.bin .eql (.t 32) (.t 34))⟩,⟨some 36,none,.pick (.t 30) (.t 35) (.c (.bool false))⟩,⟨some 37,none,.mov (.t 36)⟩,⟨some 38,(some (37,false)),(.fld (.t 2) 0)⟩,⟨some 39,(some (37,false)),(.load none (.t 38))⟩,⟨some 40,(some (37,false)),(.fld (.t 3) 0)⟩,⟨some 41,(some (37,false)),(.load none (.t 40))⟩,⟨some 42,(some (37,false)),(.bin .eql (.t 39) (.t 41))⟩,⟨some 43,(some (37,false)),(.mov (.t 42))⟩,⟨some 44,(some (43,true)),(.fld (.t 2) 0)⟩,⟨some 45,(some (43,true)),(.load none (.t 44))⟩,⟨some 46,(some (43,true)),(.bin .geq (.t 45) (.c (.int .i64 6)))⟩,⟨some 47,(some (37,false)),(.pick (.t 43) (.t 46) (.c (.bool false)))⟩,⟨some 48,(some (37,false)),(.mov (.t 47))⟩,⟨some 49,(some (48,true)),(.fld (.t 2) 0)⟩,⟨some 50,(some (48,true)),(.load none (.t 49))⟩,⟨some 51,(some (48,true)),(.bin .leq (.t 50) (.c (.int .i64 8)))⟩,⟨some 52,(some (37,false)),(.pick (.t 48) (.t 51) (.c (.bool false)))⟩,⟨some 53,none,.pick (.t 37) (.c (.bool true)) (.t 52)⟩,⟨some 4,none,.mov (.t 53)⟩]) .ret))))
set_option maxHeartbeats 1600000 in
theorem pAgainst {P : Program} {G : Nat → Option (List IV)} {f_change_Against : Nat} (hF : compF P G f_change_Against = some (54,[(none,4)],c_change_Against.bare)) (a b : Op) : PureC P G f_change_Against [a.av,b.av] (.bool (againstF a b)) := by
 refine pure_of_go hF (by simp) (by simp [lbss,AV.lbs,Op.av]) (by simp [AV.lbs]) ?_
 unfold c_change_Against
 simp only [↓aX,mX,reduceCtorEq,Nat.reduceEqDiff,Nat.reduceLT,Nat.reduceLeDiff,Nat.reduceAdd,Nat.reduceMul,Int.reduceToNat,Int.reduceLE,Int.reduceLT,Op.av,List.length_cons,List.length_nil]
 clear hF
 cases h0 : (a.target != b.target)
 case false =>
   simp only [↓aX,mX,reduceCtorEq,Nat.reduceEqDiff,Nat.reduceLT,Nat.reduceLeDiff,Nat.reduceAdd,Nat.reduceMul,Int.reduceToNat,Int.reduceLE,Int.reduceLT,h0,ge_iff_le,Bool.not_true,Bool.not_false,List.length_cons,List.length_nil]
   cases h1 : (a.kind == 9)
   case false =>
     simp only [↓aX,mX,reduceCtorEq,Nat.reduceEqDiff,Nat.reduceLT,Nat.reduceLeDiff,Nat.reduceAdd,Nat.reduceMul,Int.reduceToNat,Int.reduceLE,Int.reduceLT,h0,h1,ge_iff_le,Bool.not_true,Bool.not_false,List.length_cons,List.length_nil]
     cases h2 : (a.kind == 10)
     case false =>
       simp only [↓aX,mX,reduceCtorEq,Nat.reduceEqDiff,Nat.reduceLT,Nat.reduceLeDiff,Nat.reduceAdd,Nat.reduceMul,Int.reduceToNat,Int.reduceLE,Int.reduceLT,h0,h1,h2,ge_iff_le,Bool.not_true,Bool.not_false,List.length_cons,List.length_nil]
       cases h6 : (a.kind == b.kind)
       case false =>
         simp only [↓aX,mX,reduceCtorEq,Nat.reduceEqDiff,Nat.reduceLT,Nat.reduceLeDiff,Nat.reduceAdd,Nat.reduceMul,Int.reduceToNat,Int.reduceLE,Int.reduceLT,h0,h1,h2,h6,ge_iff_le,Bool.not_true,Bool.not_false,List.length_cons,List.length_nil]
         first | (simp_all [againstF,attrK]; done) | (simp_all [againstF,attrK]; omega)
       case true =>
         simp only [↓aX,mX,reduceCtorEq,Nat.reduceEqDiff,Nat.reduceLT,Nat.reduceLeDiff,Nat.reduceAdd,Nat.reduceMul,Int.reduceToNat,Int.reduceLE,Int.reduceLT,h0,h1,h2,h6,ge_iff_le,Bool.not_true,Bool.not_false,List.length_cons,List.length_nil]
         cases h7 : decide (6 ≤ a.kind)
         case false =>
           simp only [↓aX,mX,reduceCtorEq,Nat.reduceEqDiff,Nat.reduceLT,Nat.reduceLeDiff,Nat.reduceAdd,Nat.reduceMul,Int.reduceToNat,Int.reduceLE,Int.reduceLT,h0,h1,h2,h6,h7,ge_iff_le,Bool.not_true,Bool.not_false,List.length_cons,List.length_nil]
           first | (simp_all [againstF,attrK]; done) | (simp_all [againstF,attrK]; omega)
         case true =>
           simp only [↓aX,mX,reduceCtorEq,Nat.reduceEqDiff,Nat.reduceLT,Nat.reduceLeDiff,Nat.reduceAdd,Nat.reduceMul,Int.reduceToNat,Int.reduceLE,Int.reduceLT,h0,h1,h2,h6,h7,ge_iff_le,Bool.not_true,Bool.not_false,List.length_cons,List.length_nil]
           first | (simp_all [againstF,attrK]; done) | (simp_all [againstF,attrK]; omega)
     case true =>
       simp only [↓aX,mX,reduceCtorEq,Nat.reduceEqDiff,Nat.reduceLT,Nat.reduceLeDiff,Nat.reduceAdd,Nat.reduceMul,Int.reduceToNat,Int.reduceLE,Int.reduceLT,h0,h1,h2,ge_iff_le,Bool.not_true,Bool.not_false,List.length_cons,List.length_nil]
       cases h3 : (b.kind == 9)
       case false =>
         simp only [↓aX,mX,reduceCtorEq,Nat.reduceEqDiff,Nat.reduceLT,Nat.reduceLeDiff,Nat.reduceAdd,Nat.reduceMul,Int.reduceToNat,Int.reduceLE,Int.reduceLT,h0,h1,h2,h3,ge_iff_le,Bool.not_true,Bool.not_false,List.length_cons,List.length_nil]
         cases h4 : (b.kind == 10)
         case false =>
           simp only [↓aX,mX,reduceCtorEq,Nat.reduceEqDiff,Nat.reduceLT,Nat.reduceLeDiff,Nat.reduceAdd,Nat.reduceMul,Int.reduceToNat,Int.reduceLE,Int.reduceLT,h0,h1,h2,h3,h4,ge_iff_le,Bool.not_true,Bool.not_false,List.length_cons,List.length_nil]
           cases h6 : (a.kind == b.kind)
           case false =>
             simp only [↓aX,mX,reduceCtorEq,Nat.reduceEqDiff,Nat.reduceLT,Nat.reduceLeDiff,Nat.reduceAdd,Nat.reduceMul,Int.reduceToNat,Int.reduceLE,Int.reduceLT,h0,h1,h2,h3,h4,h6,ge_iff_le,Bool.not_true,Bool.not_false,List.length_cons,List.length_nil]
             first | (simp_all [againstF,attrK]; done) | (simp_all [againstF,attrK]; omega)
           case true =>
             simp only [↓aX,mX,reduceCtorEq,Nat.reduceEqDiff,Nat.reduceLT,Nat.reduceLeDiff,Nat.reduceAdd,Nat.reduceMul,Int.reduceToNat,Int.reduceLE,Int.reduceLT,h0,h1,h2,h3,h4,h6,ge_iff_le,Bool.not_true,Bool.not_false,List.length_cons,List.length_nil]
             cases h7 : decide (6 ≤ a.kind)
             case false =>
               simp only [↓aX,mX,reduceCtorEq,Nat.reduceEqDiff,Nat.reduceLT,Nat.reduceLeDiff,Nat.reduceAdd,Nat.reduceMul,Int.reduceToNat,Int.reduceLE,Int.reduceLT,h0,h1,h2,h3,h4,h6,h7,ge_iff_le,Bool.not_true,Bool.not_false,List.length_cons,List.length_nil]
               first | (simp_all [againstF,attrK]; done) | (simp_all [againstF,attrK]; omega)
             case true =>
               simp only [↓aX,mX,reduceCtorEq,Nat.reduceEqDiff,Nat.reduceLT,Nat.reduceLeDiff,Nat.reduceAdd,Nat.reduceMul,Int.reduceToNat,Int.reduceLE,Int.reduceLT,h0,h1,h2,h3,h4,h6,h7,ge_iff_le,Bool.not_true,Bool.not_false,List.length_cons,List.length_nil]
               first | (simp_all [againstF,attrK]; done) | (simp_all [againstF,attrK]; omega)
         case true =>
           simp only [↓aX,mX,reduceCtorEq,Nat.reduceEqDiff,Nat.reduceLT,Nat.reduceLeDiff,Nat.reduceAdd,Nat.reduceMul,Int.reduceToNat,Int.reduceLE,Int.reduceLT,h0,h1,h2,h3,h4,ge_iff_le,Bool.not_true,Bool.not_false,List.length_cons,List.length_nil]
           cases h5 : (a.name == b.name)
           case false =>
             simp only [↓aX,mX,reduceCtorEq,Nat.reduceEqDiff,Nat.reduceLT,Nat.reduceLeDiff,Nat.reduceAdd,Nat.reduceMul,Int.reduceToNat,Int.reduceLE,Int.reduceLT,h0,h1,h2,h3,h4,h5,ge_iff_le,Bool.not_true,Bool.not_false,List.length_cons,List.length_nil]
             cases h6 : (a.kind == b.kind)
             case false =>
               simp only [↓aX,mX,reduceCtorEq,Nat.reduceEqDiff,Nat.reduceLT,Nat.reduceLeDiff,Nat.reduceAdd,Nat.reduceMul,Int.reduceToNat,Int.reduceLE,Int.reduceLT,h0,h1,h2,h3,h4,h5,h6,ge_iff_le,Bool.not_true,Bool.not_false,List.length_cons,List.length_nil]
               first | (simp_all [againstF,attrK]; done) | (simp_all [againstF,attrK]; omega)
             case true =>
               simp only [↓aX,mX,reduceCtorEq,Nat.reduceEqDiff,Nat.reduceLT,Nat.reduceLeDiff,Nat.reduceAdd,Nat.reduceMul,Int.reduceToNat,Int.reduceLE,Int.reduceLT,h0,h1,h2,h3,h4,h5,h6,ge_iff_le,Bool.not_true,Bool.not_false,List.length_cons,List.length_nil]
               cases h7 : decide (6 ≤ a.kind)
               case false =>
                 simp only [↓aX,mX,reduceCtorEq,Nat.reduceEqDiff,Nat.reduceLT,Nat.reduceLeDiff,Nat.reduceAdd,Nat.reduceMul,Int.reduceToNat,Int.reduceLE,Int.reduceLT,h0,h1,h2,h3,h4,h5,h6,h7,ge_iff_le,Bool.not_true,Bool.not_false,List.length_cons,List.length_nil]
                 first | (simp_all [againstF,attrK]; done) | (simp_all [againstF,attrK]; omega)
               case true =>
                 simp only [↓aX,mX,reduceCtorEq,Nat.reduceEqDiff,Nat.reduceLT,Nat.reduceLeDiff,Nat.reduceAdd,Nat.reduceMul,Int.reduceToNat,Int.reduceLE,Int.reduceLT,h0,h1,h2,h3,h4,h5,h6,h7,ge_iff_le,Bool.not_true,Bool.not_false,List.length_cons,List.length_nil]
                 first | (simp_all [againstF,attrK]; done) | (simp_all [againstF,attrK]; omega)
           case true =>
             simp only [↓aX,mX,reduceCtorEq,Nat.reduceEqDiff,Nat.reduceLT,Nat.reduceLeDiff,Nat.reduceAdd,Nat.reduceMul,Int.reduceToNat,Int.reduceLE,Int.reduceLT,h0,h1,h2,h3,h4,h5,ge_iff_le,Bool.not_true,Bool.not_false,List.length_cons,List.length_nil]
             first | (simp_all [againstF,attrK]; done) | (simp_all [againstF,attrK]; omega)
       case true =>
         simp only [↓aX,mX,reduceCtorEq,Nat.reduceEqDiff,Nat.reduceLT,Nat.reduceLeDiff,Nat.reduceAdd,Nat.reduceMul,Int.reduceToNat,Int.reduceLE,Int.reduceLT,h0,h1,h2,h3,ge_iff_le,Bool.not_true,Bool.not_false,List.length_cons,List.length_nil]
         cases h5 : (a.name == b.name)
         case false =>
           simp only [↓aX,mX,reduceCtorEq,Nat.reduceEqDiff,Nat.reduceLT,Nat.reduceLeDiff,Nat.reduceAdd,Nat.reduceMul,Int.reduceToNat,Int.reduceLE,Int.reduceLT,h0,h1,h2,h3,h5,ge_iff_le,Bool.not_true,Bool.not_false,List.length_cons,List.length_nil]
           cases h6 : (a.kind == b.kind)
           case false =>
             simp only [↓aX,mX,reduceCtorEq,Nat.reduceEqDiff,Nat.reduceLT,Nat.reduceLeDiff,Nat.reduceAdd,Nat.reduceMul,Int.reduceToNat,Int.reduceLE,Int.reduceLT,h0,h1,h2,h3,h5,h6,ge_iff_le,Bool.not_true,Bool.not_false,List.length_cons,List.length_nil]
             first | (simp_all [againstF,attrK]; done) | (simp_all [againstF,attrK]; omega)
           case true =>
             simp only [↓aX,mX,reduceCtorEq,Nat.reduceEqDiff,Nat.reduceLT,Nat.reduceLeDiff,Nat.reduceAdd,Nat.reduceMul,Int.reduceToNat,Int.reduceLE,Int.reduceLT,h0,h1,h2,h3,h5,h6,ge_iff_le,Bool.not_true,Bool.not_false,List.length_cons,List.length_nil]
             cases h7 : decide (6 ≤ a.kind)
             case false =>
               simp only [↓aX,mX,reduceCtorEq,Nat.reduceEqDiff,Nat.reduceLT,Nat.reduceLeDiff,Nat.reduceAdd,Nat.reduceMul,Int.reduceToNat,Int.reduceLE,Int.reduceLT,h0,h1,h2,h3,h5,h6,h7,ge_iff_le,Bool.not_true,Bool.not_false,List.length_cons,List.length_nil]
               first | (simp_all [againstF,attrK]; done) | (simp_all [againstF,attrK]; omega)
             case true =>
               simp only [↓aX,mX,reduceCtorEq,Nat.reduceEqDiff,Nat.reduceLT,Nat.reduceLeDiff,Nat.reduceAdd,Nat.reduceMul,Int.reduceToNat,Int.reduceLE,Int.reduceLT,h0,h1,h2,h3,h5,h6,h7,ge_iff_le,Bool.not_true,Bool.not_false,List.length_cons,List.length_nil]
               first | (simp_all [againstF,attrK]; done) | (simp_all [againstF,attrK]; omega)
         case true =>
           simp only [↓aX,mX,reduceCtorEq,Nat.reduceEqDiff,Nat.reduceLT,Nat.reduceLeDiff,Nat.reduceAdd,Nat.reduceMul,Int.reduceToNat,Int.reduceLE,Int.reduceLT,h0,h1,h2,h3,h5,ge_iff_le,Bool.not_true,Bool.not_false,List.length_cons,List.length_nil]
           first | (simp_all [againstF,attrK]; done) | (simp_all [againstF,attrK]; omega)
   case true =>
     simp only [↓aX,mX,reduceCtorEq,Nat.reduceEqDiff,Nat.reduceLT,Nat.reduceLeDiff,Nat.reduceAdd,Nat.reduceMul,Int.reduceToNat,Int.reduceLE,Int.reduceLT,h0,h1,ge_iff_le,Bool.not_true,Bool.not_false,List.length_cons,List.length_nil]
     cases h3 : (b.kind == 9)
     case false =>
       simp only [↓aX,mX,reduceCtorEq,Nat.reduceEqDiff,Nat.reduceLT,Nat.reduceLeDiff,Nat.reduceAdd,Nat.reduceMul,Int.reduceToNat,Int.reduceLE,Int.reduceLT,h0,h1,h3,ge_iff_le,Bool.not_true,Bool.not_false,List.length_cons,List.length_nil]
       cases h4 : (b.kind == 10)
       case false =>
         simp only [↓aX,mX,reduceCtorEq,Nat.reduceEqDiff,Nat.reduceLT,Nat.reduceLeDiff,Nat.reduceAdd,Nat.reduceMul,Int.reduceToNat,Int.reduceLE,Int.reduceLT,h0,h1,h3,h4,ge_iff_le,Bool.not_true,Bool.not_false,List.length_cons,List.length_nil]
         cases h6 : (a.kind == b.kind)
         case false =>
           simp only [↓aX,mX,reduceCtorEq,Nat.reduceEqDiff,Nat.reduceLT,Nat.reduceLeDiff,Nat.reduceAdd,Nat.reduceMul,Int.reduceToNat,Int.reduceLE,Int.reduceLT,h0,h1,h3,h4,h6,ge_iff_le,Bool.not_true,Bool.not_false,List.length_cons,List.length_nil]
           first | (simp_all [againstF,attrK]; done) | (simp_all [againstF,attrK]; omega)
         case true =>
           simp only [↓aX,mX,reduceCtorEq,Nat.reduceEqDiff,Nat.reduceLT,Nat.reduceLeDiff,Nat.reduceAdd,Nat.reduceMul,Int.reduceToNat,Int.reduceLE,Int.reduceLT,h0,h1,h3,h4,h6,ge_iff_le,Bool.not_true,Bool.not_false,List.length_cons,List.length_nil]
           cases h7 : decide (6 ≤ a.kind)
           case false =>
             simp only [↓aX,mX,reduceCtorEq,Nat.reduceEqDiff,Nat.reduceLT,Nat.reduceLeDiff,Nat.reduceAdd,Nat.reduceMul,Int.reduceToNat,Int.reduceLE,Int.reduceLT,h0,h1,h3,h4,h6,h7,ge_iff_le,Bool.not_true,Bool.not_false,List.length_cons,List.length_nil]
             first | (simp_all [againstF,attrK]; done) | (simp_all [againstF,attrK]; omega)
           case true =>
             simp only [↓aX,mX,reduceCtorEq,Nat.reduceEqDiff,Nat.reduceLT,Nat.reduceLeDiff,Nat.reduceAdd,Nat.reduceMul,Int.reduceToNat,Int.reduceLE,Int.reduceLT,h0,h1,h3,h4,h6,h7,ge_iff_le,Bool.not_true,Bool.not_false,List.length_cons,List.length_nil]
             first | (simp_all [againstF,attrK]; done) | (simp_all [againstF,attrK]; omega)
       case true =>
         simp only [↓aX,mX,reduceCtorEq,Nat.reduceEqDiff,Nat.reduceLT,Nat.reduceLeDiff,Nat.reduceAdd,Nat.reduceMul,Int.reduceToNat,Int.reduceLE,Int.reduceLT,h0,h1,h3,h4,ge_iff_le,Bool.not_true,Bool.not_false,List.length_cons,List.length_nil]
         cases h5 : (a.name == b.name)
         case false =>
           simp only [↓aX,mX,reduceCtorEq,Nat.reduceEqDiff,Nat.reduceLT,Nat.reduceLeDiff,Nat.reduceAdd,Nat.reduceMul,Int.reduceToNat,Int.reduceLE,Int.reduceLT,h0,h1,h3,h4,h5,ge_iff_le,Bool.not_true,Bool.not_false,List.length_cons,List.length_nil]
           cases h6 : (a.kind == b.kind)
           case false =>
             simp only [↓aX,mX,reduceCtorEq,Nat.reduceEqDiff,Nat.reduceLT,Nat.reduceLeDiff,Nat.reduceAdd,Nat.reduceMul,Int.reduceToNat,Int.reduceLE,Int.reduceLT,h0,h1,h3,h4,h5,h6,ge_iff_le,Bool.not_true,Bool.not_false,List.length_cons,List.length_nil]
             first | (simp_all [againstF,attrK]; done) | (simp_all [againstF,attrK]; omega)
           case true =>
             simp only [↓aX,mX,reduceCtorEq,Nat.reduceEqDiff,Nat.reduceLT,Nat.reduceLeDiff,Nat.reduceAdd,Nat.reduceMul,Int.reduceToNat,Int.reduceLE,Int.reduceLT,h0,h1,h3,h4,h5,h6,ge_iff_le,Bool.not_true,Bool.not_false,List.length_cons,List.length_nil]
             cases h7 : decide (6 ≤ a.kind)
             case false =>
               simp only [↓aX,mX,reduceCtorEq,Nat.reduceEqDiff,Nat.reduceLT,Nat.reduceLeDiff,Nat.reduceAdd,Nat.reduceMul,Int.reduceToNat,Int.reduceLE,Int.reduceLT,h0,h1,h3,h4,h5,h6,h7,ge_iff_le,Bool.not_true,Bool.not_false,List.length_cons,List.length_nil]
               first | (simp_all [againstF,attrK]; done) | (simp_all [againstF,attrK]; omega)
             case true =>
               simp only [↓aX,mX,reduceCtorEq,Nat.reduceEqDiff,Nat.reduceLT,Nat.reduceLeDiff,Nat.reduceAdd,Nat.reduceMul,Int.reduceToNat,Int.reduceLE,Int.reduceLT,h0,h1,h3,h4,h5,h6,h7,ge_iff_le,Bool.not_true,Bool.not_false,List.length_cons,List.length_nil]
               first | (simp_all [againstF,attrK]; done) | (simp_all [againstF,attrK]; omega)
         case true =>
           simp only [↓aX,mX,reduceCtorEq,Nat.reduceEqDiff,Nat.reduceLT,Nat.reduceLeDiff,Nat.reduceAdd,Nat.reduceMul,Int.reduceToNat,Int.reduceLE,Int.reduceLT,h0,h1,h3,h4,h5,ge_iff_le,Bool.not_true,Bool.not_false,List.length_cons,List.length_nil]
           first | (simp_all [againstF,attrK]; done) | (simp_all [againstF,attrK]; omega)
     case true =>
       simp only [↓aX,mX,reduceCtorEq,Nat.reduceEqDiff,Nat.reduceLT,Nat.reduceLeDiff,Nat.reduceAdd,Nat.reduceMul,Int.reduceToNat,Int.reduceLE,Int.reduceLT,h0,h1,h3,ge_iff_le,Bool.not_true,Bool.not_false,List.length_cons,List.length_nil]
       cases h5 : (a.name == b.name)
       case false =>
         simp only [↓aX,mX,reduceCtorEq,Nat.reduceEqDiff,Nat.reduceLT,Nat.reduceLeDiff,Nat.reduceAdd,Nat.reduceMul,Int.reduceToNat,Int.reduceLE,Int.reduceLT,h0,h1,h3,h5,ge_iff_le,Bool.not_true,Bool.not_false,List.length_cons,List.length_nil]
         cases h6 : (a.kind == b.kind)
         case false =>
           simp only [↓aX,mX,reduceCtorEq,Nat.reduceEqDiff,Nat.reduceLT,Nat.reduceLeDiff,Nat.reduceAdd,Nat.reduceMul,Int.reduceToNat,Int.reduceLE,Int.reduceLT,h0,h1,h3,h5,h6,ge_iff_le,Bool.not_true,Bool.not_false,List.length_cons,List.length_nil]
           first | (simp_all [againstF,attrK]; done) | (simp_all [againstF,attrK]; omega)
         case true =>
           simp only [↓aX,mX,reduceCtorEq,Nat.reduceEqDiff,Nat.reduceLT,Nat.reduceLeDiff,Nat.reduceAdd,Nat.reduceMul,Int.reduceToNat,Int.reduceLE,Int.reduceLT,h0,h1,h3,h5,h6,ge_iff_le,Bool.not_true,Bool.not_false,List.length_cons,List.length_nil]
           cases h7 : decide (6 ≤ a.kind)
           case false =>
             simp only [↓aX,mX,reduceCtorEq,Nat.reduceEqDiff,Nat.reduceLT,Nat.reduceLeDiff,Nat.reduceAdd,Nat.reduceMul,Int.reduceToNat,Int.reduceLE,Int.reduceLT,h0,h1,h3,h5,h6,h7,ge_iff_le,Bool.not_true,Bool.not_false,List.length_cons,List.length_nil]
             first | (simp_all [againstF,attrK]; done) | (simp_all [againstF,attrK]; omega)
           case true =>
             simp only [↓aX,mX,reduceCtorEq,Nat.reduceEqDiff,Nat.reduceLT,Nat.reduceLeDiff,Nat.reduceAdd,Nat.reduceMul,Int.reduceToNat,Int.reduceLE,Int.reduceLT,h0,h1,h3,h5,h6,h7,ge_iff_le,Bool.not_true,Bool.not_false,List.length_cons,List.length_nil]
             first | (simp_all [againstF,attrK]; done) | (simp_all [againstF,attrK]; omega)
       case true =>
         simp only [↓aX,mX,reduceCtorEq,Nat.reduceEqDiff,Nat.reduceLT,Nat.reduceLeDiff,Nat.reduceAdd,Nat.reduceMul,Int.reduceToNat,Int.reduceLE,Int.reduceLT,h0,h1,h3,h5,ge_iff_le,Bool.not_true,Bool.not_false,List.length_cons,List.length_nil]
         first | (simp_all [againstF,attrK]; done) | (simp_all [againstF,attrK]; omega)
 case true =>
   simp only [↓aX,mX,reduceCtorEq,Nat.reduceEqDiff,Nat.reduceLT,Nat.reduceLeDiff,Nat.reduceAdd,Nat.reduceMul,Int.reduceToNat,Int.reduceLE,Int.reduceLT,h0,ge_iff_le,Bool.not_true,Bool.not_false,List.length_cons,List.length_nil]
   first | (simp_all [againstF,attrK]; done) | (simp_all [againstF,attrK]; omega)
end Go.Am
