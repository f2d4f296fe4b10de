import Derived.Test.YtfinkeaikbmpgaaKB1
import Derived.Test.YtfinkeaikbmpgaaKAm33
set_option linter.unusedSimpArgs false
set_option linter.unusedVariables false
set_option linter.unnecessarySimpa false
set_option linter.defProp false
/- The bench: where a node stands; one tree more. -/
set_option pp.deepTerms false
set_option pp.deepTerms.threshold 5
namespace Go.Am
open Go Go.RowKit
theorem bNode_lt {n0 i : Nat} {lab : Nat → Lb} {x : Node} (h : i < n0) : bNode n0 lab i x = [.bool x.text,.str x.s,.sl (lab (4 + 2 * i)) 2 0 x.attrs.length,.int .i64 x.parent,.sl (lab (5 + 2 * i)) 1 0 x.kids.length] := by simp [bNode,h]
theorem bNode_ge {n0 i : Nat} {lab : Nat → Lb} {x : Node} (h : n0 ≤ i) : bNode n0 lab i x = [.bool x.text,.str x.s,.list (ivA x.attrs),.int .i64 x.parent,.list (x.kids.map intIV)] := by simp [bNode,Nat.not_lt.2 h]
def Bn.all (b : Bn) : List Nat := List.range (4 + 2 * b.n0)
theorem lent_all {H : Hp} {l : Lb} {sz n : Nat} {xs : List IV} (h : H l = .live ⟨sz,immE xs⟩) (hf : Flat xs) (hn : n = xs.length) : Lent H (.sl l sz 0 n) (.list xs) := by
 subst hn
 have := Lent.row l sz 0 xs.length xs h (by omega) hf
 simpa using this
section
variable {P : Program} {G : Nat → Option (List IV)}
def c_change_bench_place (f_slices_Index_int_int : Nat) : AC :=
(.seq (.reg [⟨some 4,none,.mov (.c (.int .i64 0))⟩,⟨some 5,none,.mov (.c (.int .i64 0))⟩]) (.seq (.reg [⟨some 7,none,.mov (.t 0)⟩,⟨some 8,none,.nchk (.t 7)⟩,⟨some 9,none,.fld (.t 8) 0⟩,⟨some 10,none,.load none (.t 9)⟩,⟨some 11,none,.mov (.t 1)⟩,⟨some 12,none,.ixa (.t 10) (.t 11) 5⟩,⟨some 13,none,.fld (.t 12) 3⟩,⟨some 14,none,.load none (.t 13)⟩,⟨some 6,none,.mov (.t 14)⟩]) (.seq (.reg [⟨some 15,none,.mov (.t 6)⟩,⟨some 16,none,.mov (.t 0)⟩,⟨some 17,none,.nchk (.t 16)⟩,⟨some 18,none,.fld (.t 17) 0⟩,⟨some 19,none,.load none (.t 18)⟩,⟨some 20,none,.mov (.t 6)⟩,⟨some 21,none,.ixa (.t 19) (.t 20) 5⟩,⟨some 22,none,.fld (.t 21) 4⟩,⟨some 23,none,.load none (.t 22)⟩,⟨some 24,none,.mov (.t 1)⟩,⟨some 25,none,.call f_slices_Index_int_int [(.t 23),(.t 24)]⟩,⟨some 4,none,.mov (.t 15)⟩,⟨some 5,none,.mov (.t 25)⟩]) .ret)))
theorem cPlace {f_change_bench_place f_slices_Index_int_int : Nat} (hF : compF P G f_change_bench_place = some (26,[(none,4),(none,5)],(c_change_bench_place f_slices_Index_int_int).bare)) (b : Bn) (n p : Nat) (x y : Node) (hx : b.nodes[n]? = some x) (hp : x.parent = p) (hy : b.nodes[p]? = some y) (hpn : p < b.n0)
   (hI : PureC P G f_slices_Index_int_int [.list (y.kids.map intIV),.int .i64 n] (.int .i64 (idxI y.kids n))) :
   ShC P G f_change_bench_place [.ptr (.par 0) 3 0 0,.int .i64 n] (bSh b) b.all fun X R2 => X = (fun _ => .tup [.int .i64 p,.int .i64 (idxI y.kids n)]) ∧ R2 = bSh b := by
 refine sh_of_go hF (by simp) (by simp [lbss,AV.lbs,bSh_ok]; omega) ?_
 have hA : BnAt Lb.par b (inS (bSh b)) := inS_at _
 obtain ⟨hn1,-⟩ := List.getElem?_eq_some_iff.1 hx
 obtain ⟨hn2,-⟩ := List.getElem?_eq_some_iff.1 hy
 unfold c_change_bench_place
 simp only [↓aX,mX,reduceCtorEq,Nat.reduceEqDiff,Nat.reduceLT,Nat.reduceLeDiff,Nat.reduceAdd,Nat.reduceMul,Int.reduceToNat,Int.reduceLE,Int.reduceLT,hA.s,hA.n,Int.natCast_nonneg,Int.toNat_natCast,hn1,hn2,and_self,true_and,Nat.zero_add,hA.get hx,hA.get hy,bNode_lt hpn]
 simp only [↓aX,mX,reduceCtorEq,Nat.reduceEqDiff,Nat.reduceLT,Nat.reduceLeDiff,Nat.reduceAdd,Nat.reduceMul,Int.reduceToNat,Int.reduceLE,Int.reduceLT,bNode,hA.s,hA.n,Int.natCast_nonneg,Int.toNat_natCast,hn1,hn2,and_self,true_and,Nat.zero_add,hA.get hx,hA.get hy,bNode_lt hpn,hp]
 rw [if_pos hpn]
 refine callT_lend hI (.cons (lent_all (hA.kd hpn hy) (flatI _) (by simp)) (.cons (.same _) .nil)) rfl ?_
 simp only [↓aX,mX,reduceCtorEq,Nat.reduceEqDiff,Nat.reduceLT,Nat.reduceLeDiff,Nat.reduceAdd,Nat.reduceMul,Int.reduceToNat,Int.reduceLE,Int.reduceLT,ret_r,resVs,resV,Option.some.injEq,exists_eq_left',oneV]
 refine ⟨⟨(fun _ => .tup [.int .i64 p,.int .i64 (idxI y.kids n)]),bSh b,Lb.par⟩,⟨rfl,rfl⟩,fun ρ => by simp [ren,rens],by simp [AV.lbs,lbss],rfl,hA,fun _ _ => rfl⟩
def c_change_bench_add (f_slices_Clone_Attr_Attr f_change_bench_add : Nat) : AC :=
(.seq (.reg [⟨some 4,none,.box (.t 1)⟩,⟨some 6,none,.mov (.c (.int .i64 0))⟩]) (.seq (.reg [⟨some 11,none,.mov (.t 0)⟩,⟨some 12,none,.nchk (.t 11)⟩,⟨some 13,none,.fld (.t 12) 0⟩,⟨some 14,none,.load none (.t 13)⟩,⟨some 15,none,.len (.t 14)⟩,⟨some 7,none,.mov (.t 15)⟩]) (.seq (.dreg [⟨some 16,none,.mov (.t 0)⟩,⟨some 17,none,.mov (.t 0)⟩,⟨some 18,none,.nchk (.t 17)⟩,⟨some 19,none,.fld (.t 18) 0⟩,⟨some 20,none,.load none (.t 19)⟩,⟨some 21,none,.fld (.t 4) 0⟩,⟨some 22,none,.load none (.t 21)⟩,⟨some 23,none,.fld (.t 4) 1⟩,⟨some 24,none,.load none (.t 23)⟩,⟨some 25,none,.fld (.t 4) 2⟩,⟨some 26,none,.load none (.t 25)⟩,⟨some 27,none,.call f_slices_Clone_Attr_Attr [(.t 26)]⟩,⟨some 28,none,.mov (.t 2)⟩,⟨some 29,none,.bld [(.bool false),(.str []),.nil0,(.int .i64 0),.nil0] [(0,(1,(.t 22))),(1,(1,(.t 24))),(2,(1,(.t 27))),(3,(1,(.t 28)))]⟩,⟨some 30,none,.lits 1 5 [(.bool false),(.str []),.nil0,(.int .i64 0),.nil0] [(0,(.t 29))]⟩,⟨some 31,none,.app (.t 20) (.t 30) 5 80⟩,⟨some 32,none,.nchk (.t 16)⟩,⟨some 33,none,.fld (.t 32) 0⟩,⟨none,none,.store 1 (.t 33) (.t 31)⟩] [[],[],[1],[2],[3],[],[5],[],[7],[],[9],[10],[],[6,8,11,12],[13],[4,14,11],[0,0,1,2,3,4,5,6,7,8,9,10,11,12,13,14,15],[16,0,1,2,3,4,5,6,7,8,9,10,11,12,13,14,15],[17,15,15,0,1,2,3,4,5,6,7,8,9,10,11,12,13,14,15]] [.no,.no,.no,.no,(.rw [(.par 0)] []),.no,.rw [.loc 4] [],.no,.rw [.loc 4] [],.no,.rw [.loc 4] [],.no,.no,.no,.no,(.rw [] [(.par 1),(.gen 31)]),.no,.no,(.rw [] [(.par 0)])]) (.seq (.reg [⟨some 8,none,.mov (.c .nil0)⟩]) (.gh (.own 8 1) (.seq (.seq (.reg [⟨some 34,none,.fld (.t 4) 3⟩,⟨some 35,none,.load none (.t 34)⟩,⟨some 36,none,.len (.t 35)⟩,⟨some 37,none,.mov (.c (.int .i64 0))⟩]) (.block 0 (.loop (.seq (.reg [⟨some 38,none,.bin .lss (.t 37) (.t 36)⟩]) (.seq (.cond (.t 38) .skip (.exit 0)) (.seq (.block 1 (.seq (.reg [⟨some 39,none,.ixa (.t 35) (.t 37) 4⟩,⟨some 40,none,.load (some 4) (.t 39)⟩,⟨some 10,none,.new [(.bool false),(.str []),.nil0,.nil0]⟩,⟨none,none,.store 4 (.t 10) (.t 40)⟩]) (.reg [⟨some 41,none,.mov (.t 8)⟩,⟨some 42,none,.mov (.t 0)⟩,⟨some 43,none,.load (some 4) (.t 10)⟩,⟨some 44,none,.mov (.t 7)⟩,⟨some 45,none,.call f_change_bench_add [(.t 42),(.t 43),(.t 44)]⟩,⟨some 46,none,.lits 1 1 [(.int .i64 0)] [(0,(.t 45))]⟩,⟨some 47,none,.app (.t 41) (.t 46) 1 8⟩,⟨some 8,none,.mov (.t 47)⟩]))) (.reg [⟨some 48,none,.bin .add (.t 37) (.c (.int .i64 1))⟩,⟨some 37,none,.mov (.t 48)⟩]))))))) (.gh (.frz (.loc 8) 8) (.seq (.reg [⟨some 49,none,.mov (.t 0)⟩,⟨some 50,none,.nchk (.t 49)⟩,⟨some 51,none,.fld (.t 50) 0⟩,⟨some 52,none,.load none (.t 51)⟩,⟨some 53,none,.mov (.t 7)⟩,⟨some 54,none,.mov (.t 8)⟩,⟨some 55,none,.ixa (.t 52) (.t 53) 5⟩,⟨some 56,none,.fld (.t 55) 4⟩,⟨none,none,.store 1 (.t 56) (.t 54)⟩]) (.seq (.reg [⟨some 57,none,.mov (.t 7)⟩,⟨some 6,none,.mov (.t 57)⟩]) .ret)))))))))
def Bn.add (b : Bn) (t : Tree) (p : Int) : Bn := { b with nodes := b.nodes ++ t.flat b.nodes.length p }
def Bn.addI (b : Bn) (t : Tree) (p : Int) (i : Nat) : Bn := { b with nodes := b.nodes ++ ⟨t.text,t.s,t.attrs,p,[]⟩ :: flats (b.nodes.length + 1) b.nodes.length (t.kids.take i) }
def Bn.but (b : Bn) (p : Nat) : List Nat := (List.range (4 + 2 * b.n0)).filter (· ≠ p)
theorem but_mem {b : Bn} {p q : Nat} : q ∈ b.but p ↔ q < 4 + 2 * b.n0 ∧ q ≠ p := by simp [Bn.but]
def lab1 (N : Lb) : Nat → Lb := fun p => if p = 1 then N else .par p
theorem lab1_inj {N : Lb} (h : ∀ p,p ≠ 1 → N ≠ .par p) {p q : Nat} (e : lab1 N p = lab1 N q) : p = q := by
 unfold lab1 at e
 split at e <;> split at e
 · omega
 · exact absurd e (h _ (by omega))
 · exact absurd e.symm (h _ (by omega))
 · simpa using e
structure AddS (t : Tree) where
 i : Nat
 hi : i ≤ t.kids.length
def addPs (b : Bn) (t : Tree) (q : AddS t) : List (Nat × AV) :=
 [(0,.ptr (.par 0) 3 0 0),(7,.int .i64 b.nodes.length),(8,.sl (.loc 8) 1 0 q.i),(35,.list (ivT t.kids)),(36,.int .i64 t.kids.length),(37,.int .i64 q.i)]
def addRs (b : Bn) (t : Tree) (q : AddS t) : List (Lb × Row) :=
 [(.loc 8,⟨1,immE ((kidsAt (b.nodes.length + 1) (t.kids.take q.i)).map intIV)⟩)]
theorem ShAt.upd' {lab : Nat → Lb} {R : Shp} {H : Hp} (h : ShAt lab R H) {q : Lb} {s : Slot} (hq : ∀ p,R.ok p → lab p ≠ q) : ShAt lab R (upd H q s) :=
 ⟨fun p r hr => by rw [upd_ne _ _ (hq p ((R.ok_iff lab p).1 (by rw [hr]; rfl)))]; exact h.row p r hr,h.inj⟩
theorem cAdd1 {f_change_bench_add f_slices_Clone_Attr_Attr : Nat} (hF : compF P G f_change_bench_add = some (58,[(none,6)],(c_change_bench_add f_slices_Clone_Attr_Attr f_change_bench_add).bare)) (b : Bn) (hn : b.n0 ≤ b.nodes.length) (t : Tree) (p : Int) (hb : b.nodes.length + t.wt ≤ B)
   (hC : PureC P G f_slices_Clone_Attr_Attr [.list (ivA t.attrs)] (.list (ivA t.attrs)))
   (hR : ∀ (b' : Bn) (k : Tree),k ∈ t.kids → b'.n0 = b.n0 → b.n0 ≤ b'.nodes.length → b'.nodes.length + k.wt ≤ B → ShC P G f_change_bench_add [.ptr (.par 0) 3 0 0,k.av,.int .i64 b.nodes.length] (bSh b') (b.but 1) fun X R2 => X = (fun _ => .int .i64 b'.nodes.length) ∧ R2 = bSh (b'.add k b.nodes.length)) :
   ShC P G f_change_bench_add [.ptr (.par 0) 3 0 0,t.av,.int .i64 p] (bSh b) (b.but 1) fun X R2 => X = (fun _ => .int .i64 b.nodes.length) ∧ R2 = bSh (b.add t p) := by
 refine sh_of_go hF (by simp) (by simp [lbss,AV.lbs,bSh_ok,Tree.av]; omega) ?_
 have hA : BnAt Lb.par b (inS (bSh b)) := inS_at _
 have hU : ∀ q : Lb,(∀ p,p < 4 + 2 * b.n0 → q ≠ .par p) → inS (bSh b) q = .unused := fun q hq => shH_ne _ fun p hp e => hq p (bSh_ok.1 hp) e.symm
 have h4 : inS (bSh b) (.loc 4) = .unused := hU _ (by simp)
 have h8 : inS (bSh b) (.loc 8) = .unused := hU _ (by simp)
 have hg : inS (bSh b) (.gen 31) = .unused := hU _ (by simp)
 have hwt := t.wt_eq
 have hkl := wtT_len t.kids
 have hBv : B = 1073741824 := rfl
 unfold c_change_bench_add
 simp only [↓aX,mX,reduceCtorEq,Nat.reduceEqDiff,Nat.reduceLT,Nat.reduceLeDiff,Nat.reduceAdd,Nat.reduceMul,Int.reduceToNat,Int.reduceLE,Int.reduceLT,Tree.av,hA.s,hA.n,h4,List.length_mapIdx]
 refine ⟨rfl,?_⟩
 refine puK_in hC ?_
 simp only [↓aX,mX,reduceCtorEq,Nat.reduceEqDiff,Nat.reduceLT,Nat.reduceLeDiff,Nat.reduceAdd,Nat.reduceMul,Int.reduceToNat,Int.reduceLE,Int.reduceLT,Tree.av,hA.s,hA.n,h4]
 rw [app_sl (l := .par 1) (els := b.nodes.mapIdx (bNode b.n0 Lb.par)) (xs := [.agg [.bool t.text,.str t.s,.list (ivA t.attrs),.int .i64 p,.list []]]) (by simp [upd_at,hA.n]) (by simp) (by simp [Elsz,IV.cells]) (by simp [Flat,IV.cells]) (by simp; omega) (by decide) (by simp [Lb.app,Lb.fresh]) (by simp [Lb.app,Lb.fresh,upd_at,hg])]
 simp only [↓aX,mX,reduceCtorEq,Nat.reduceEqDiff,Nat.reduceLT,Nat.reduceLeDiff,Nat.reduceAdd,Nat.reduceMul,Int.reduceToNat,Int.reduceLE,Int.reduceLT,hA.s,h8,h4]
 refine ⟨by rintro l (rfl | rfl) <;> simp [Lb.fam],?_⟩
 have hPush : ∀ H2 : Hp,H2 (.par 0) = .live ⟨3,[[.sl (.gen 31) 5 0 (b.nodes.length + 1),.sl (.par 2) 1 0 b.fs.length,.sl (.par 3) 1 0 b.as.length]]⟩ →
     H2 (.gen 31) = .live ⟨5,b.nodes.mapIdx (bNode b.n0 Lb.par) ++ [[.bool t.text,.str t.s,.list (ivA t.attrs),.int .i64 p,.list []]]⟩ → (∀ q,q ≠ .par 0 → q ≠ .par 1 → q ≠ .gen 31 → q ≠ .loc 4 → q ≠ .loc 8 → H2 q = inS (bSh b) q) →
     BnAt (lab1 (.gen 31)) (b.addI t p 0) H2 := by
   intro H2 e0 e1 e2
   have := BnAt.push (H2 := fun q => if q = .loc 4 ∨ q = .loc 8 then inS (bSh b) q else H2 q) hA (y := ⟨t.text,t.s,t.attrs,p,[]⟩) (N := .gen 31) hn (.inr (by simp)) (by simp [e0]) (by simp [e1]) (by
     intro q g1 g2 g3
     by_cases g4 : q = .loc 4 ∨ q = .loc 8
     · simp [g4]
     · simp only [g4,if_false]; exact e2 q g1 g2 g3 (fun e => g4 (.inl e)) (fun e => g4 (.inr e)))
   refine ⟨fun q r hr => ?_,this.inj⟩
   have h1 := this.row q r hr
   have h2 : ¬ (lab1 (.gen 31) q = .loc 4 ∨ lab1 (.gen 31) q = .loc 8) := by unfold lab1; split <;> simp
   exact (if_neg h2).symm.trans h1
 have hok : ∀ q : AddS t,∀ p',(bSh (b.addI t p q.i)).ok p' ↔ p' < 4 + 2 * b.n0 := fun q p' => bSh_ok
 have hi1 : ∀ p',p' ≠ 1 → Lb.gen 0 ≠ .par p' := by simp
 refine loop_sh (σ := AddS t) (lab1 (.gen 0)) (fun q => bSh (b.addI t p q.i)) [.loc 8] (fun l => l == .par 1) (addPs b t) (addRs b t) (fun q => t.kids.length - q.i) ⟨0,Nat.zero_le _⟩
   (fun q p1 p2 _ _ e => lab1_inj hi1 e) (fun _ => rfl) (by simp [lab1]; intro _ p' _; split <;> simp) ?_ ?_ ?_ ?_
 · intro q l hl
   simp [lbss,AV.lbs,addPs] at hl
   rcases hl with rfl | rfl
   · right; exact ⟨0,(hok _ _).2 (by omega),by simp [lab1]⟩
   · left; simp
 · intro q z hz cs hcs l hl
   simp only [addRs,List.mem_singleton] at hz
   subst hz
   rw [lbss_immE hcs] at hl; simp at hl
 · refine ⟨lab1 (.gen 31),[],?_⟩
   have r0 : rhoS (lab1 (.gen 0)) (lab1 (.gen 31)) (bSh (b.addI t p 0)) [] (.par 0) = .par 0 :=
     rhoS_at (labC := lab1 (.gen 0)) (fun p1 p2 _ _ e => lab1_inj hi1 e) (p := 0) (bSh_ok.2 (by omega))
   have r8 : rhoS (lab1 (.gen 0)) (lab1 (.gen 31)) (bSh (b.addI t p 0)) [] (.loc 8) = .loc 8 := rhoS_ne (by intro p' _; simp [lab1]; split <;> simp)
   refine ⟨hPush _ (by simp [upd_at]) (by simp [upd_at,immE,IV.cells,IV.av1,List.take_of_length_le]) (by intro q g1 g2 g3 g4 g5; simp [upd_at,g1,g2,g3,g4,g5]),?_,?_,?_,by simp [rnF],?_,by simp [rnF,Lb.fresh,Lb.entry],?_⟩
   · intro l he hu
     cases l with
     | par k =>
       by_cases h1 : k = 1
       · subst h1; right; right; rfl
       · left
         refine ⟨k,bSh_ok.2 ?_,by simp [lab1,h1]⟩
         refine Decidable.byContradiction fun hk => hu ?_
         by_cases h0 : k = 0
         · subst h0; exact absurd (by simp [Bn.addI]; omega) hk
         · simp only [upd_at,Lb.par.injEq,h0,h1,reduceCtorEq,if_false]
           exact hU _ fun p' hp' e => hk (by simp only [Lb.par.injEq] at e; subst e; exact hp')
     | _ => simp [Lb.entry] at he
   · simp [addPs,EqL,ren,put,argE,r0,r8,ivT_len]
   · intro z hz
     simp only [addRs,List.mem_singleton] at hz
     subst hz
     simp [rnF,upd_at,renR_immE]
     simp [kidsAt,immE]
   · intro l hl p' hp'
     simp only [List.mem_singleton] at hl
     subst hl
     simp [rnF,lab1]; split <;> simp
   · intro p' hp'
     refine ⟨by simp [lab1]; split <;> simp [Lb.fresh],?_⟩
     unfold lab1; split <;> simp [Lb.entry]
 · intro q
   obtain ⟨H0,hH0⟩ : ∃ H0,H0 = shH (lab1 (.gen 0)) (bSh (b.addI t p q.i)) (ofU (fun l => l == .par 1) (addRs b t q)) := ⟨_,rfl⟩
   rw [← hH0]
   have hB : BnAt (lab1 (.gen 0)) (b.addI t p q.i) H0 := by rw [hH0]; exact ShAt.of_shH (fun p1 p2 _ _ e => lab1_inj hi1 e) _
   have hO : ∀ l : Lb,(∀ p',lab1 (.gen 0) p' ≠ l) → H0 l = ofU (fun l => l == .par 1) (addRs b t q) l := fun l hl => by rw [hH0]; exact shH_ne _ fun p' _ => hl p'
   have a8 : H0 (.loc 8) = .live ⟨1,immE ((kidsAt (b.nodes.length + 1) (t.kids.take q.i)).map intIV)⟩ := (hO _ (by intro p'; simp [lab1]; split <;> simp)).trans (by simp [ofU,addRs,ofH,upd])
   have a10 : H0 (.loc 10) = .unused := (hO _ (by intro p'; simp [lab1]; split <;> simp)).trans (by simp [ofU,addRs,ofH,upd,Hp.none])
   have a47 : H0 (.loc 47) = .unused := (hO _ (by intro p'; simp [lab1]; split <;> simp)).trans (by simp [ofU,addRs,ofH,upd,Hp.none])
   have aN : ∀ l,H0 (NC 9 l) = .unused := fun l => (hO _ (by intro p'; simp [lab1,NC]; split <;> simp)).trans (by simp [ofU,addRs,ofH,upd,Hp.none,NC])
   have anf : ∀ k,H0 (.par k) ≠ .unused → k < 4 + 2 * b.n0 := by
     intro k hu
     refine Decidable.byContradiction fun hk => hu ?_
     rw [hH0,shH_ne _ fun p' hp' e => ?_]
     · have : k ≠ 1 := by omega
       simp [ofU,addRs,ofH,upd,Hp.none,this]
     · have h2 := bSh_ok.1 hp'
       unfold lab1 at e; split at e <;> simp at e
       subst e; exact hk h2
   clear hH0 hO
   have hi := q.hi
   have hkn : (kidsAt (b.nodes.length + 1) (t.kids.take q.i)).length = q.i := by rw [kidsAt_len,List.length_take]; omega
   have hct := cntT_le (t.kids.take q.i)
   have hwt2 := wtT_take t.kids q.i
   simp only [↓aX,mX,reduceCtorEq,Nat.reduceEqDiff,Nat.reduceLT,Nat.reduceLeDiff,Nat.reduceAdd,Nat.reduceMul,Int.reduceToNat,Int.reduceLE,Int.reduceLT,addPs]
   refine cK_b (fun h => ?_) (fun h => ?_)
   · have hlt : q.i < t.kids.length := by simpa using h
     obtain ⟨k,hki⟩ : ∃ k,t.kids[q.i]? = some k := ⟨_,List.getElem?_eq_getElem hlt⟩
     have hw : IntKind.i64.wrap ((q.i : Int) + 1) = ((q.i + 1 : Nat) : Int) := wrap64 (by omega) (by omega)
     have htk : t.kids.take (q.i + 1) = t.kids.take q.i ++ [k] := take_snoc' hki
     have hwk : wtT (t.kids.take q.i) + k.wt ≤ wtT t.kids := by
       have := wtT_take t.kids (q.i + 1)
       rw [htk,wtT_app] at this
       simp only [wtT] at this; omega
     simp only [↓aX,mX,reduceCtorEq,Nat.reduceEqDiff,Nat.reduceLT,Nat.reduceLeDiff,Nat.reduceAdd,Nat.reduceMul,Int.reduceToNat,Int.reduceLE,Int.reduceLT,ivT_get,hki,elszT,Tree.cells_eq,Tree.cs,a10]
     have hoff : (b.addI t p q.i).nodes.length = b.nodes.length + 1 + cntT (t.kids.take q.i) := by simp [Bn.addI,flats_len]; omega
     refine callT_sh (lab := lab1 (.gen 0)) (N := NC 9) (hR (b.addI t p q.i) k (List.mem_of_getElem? hki) rfl (by rw [hoff]; omega) (by rw [hoff]; omega)) ?_ ?_ ?_ (NC_inj 9) (fun l h => .inl h) (fun p' hp' => bSh_ok.2 (but_mem.1 hp').1) ?_
     · simp [rens,ren,inR,lab1,Tree.av]
     · exact (hB.upd' (by intro p' _; simp [lab1]; split <;> simp)).upd' (by intro p' _; simp [lab1]; split <;> simp)
     · intro l; rw [upd_ne _ _ (by simp [NC]),upd_ne _ _ (by simp [NC])]; exact aN l
     · rintro X R2 lab2 H2 ⟨rfl,rfl⟩ g1 g2 g3 g4 g5 g6
       have hfar : ∀ n : Nat,n ≠ 10 → H2 (.loc n) = H0 (.loc n) := fun n hn => by
         rw [g4 (.loc n) (by intro p' _; simp [lab1]; split <;> simp) (by simp [NC]),upd_ne _ _ (by simpa using hn),upd_ne _ _ (by simpa using hn)]
       have hl2 : ∀ p' : Nat,(bSh ((b.addI t p q.i).add k b.nodes.length)).ok p' → ∀ n,lab2 p' ≠ .loc n := by
         intro p' hp' n
         rcases g3 p' hp' with ⟨p0,_,e⟩ | ⟨l,e⟩ <;> rw [e]
         · simp [lab1]; split <;> simp
         · simp [NC]
       have hl3 : ∀ p',p' < 4 + 2 * b.n0 → p' ≠ 1 → lab2 p' = .par p' := fun p' h1 h2 => by rw [g2 p' (but_mem.2 ⟨h1,h2⟩)]; simp [lab1,h2]
       simp only [↓aX,mX,reduceCtorEq,Nat.reduceEqDiff,Nat.reduceLT,Nat.reduceLeDiff,Nat.reduceAdd,Nat.reduceMul,Int.reduceToNat,Int.reduceLE,Int.reduceLT]
       rw [app_loc 1 8 47 8 ((kidsAt (b.nodes.length + 1) (t.kids.take q.i)).map intIV) (.int .i64 (b.addI t p q.i).nodes.length) (by rw [hfar 8 (by decide),a8]) (by rw [List.length_map,hkn]) rfl (by simp [IV.cells]) (by omega) (by decide) (by decide) (by rw [hfar 47 (by decide),a47])]
       simp only [↓aX,mX,reduceCtorEq,Nat.reduceEqDiff,Nat.reduceLT,Nat.reduceLeDiff,Nat.reduceAdd,Nat.reduceMul,Int.reduceToNat,Int.reduceLE,Int.reduceLT,hw]
       have hkid : kidsAt (b.nodes.length + 1) (t.kids.take (q.i + 1)) = kidsAt (b.nodes.length + 1) (t.kids.take q.i) ++ [((b.addI t p q.i).nodes.length : Int)] := by
         rw [htk,kidsAt_app,hoff]; simp [kidsAt]
       have hbn : (b.addI t p q.i).add k b.nodes.length = b.addI t p (q.i + 1) := by
         show ({ (b.addI t p q.i) with nodes := (b.addI t p q.i).nodes ++ k.flat (b.addI t p q.i).nodes.length b.nodes.length } : Bn) = _
         rw [hoff]
         simp [Bn.addI,htk,flats_app,flats]
       rw [hbn] at g1 hl2
       refine ⟨⟨q.i + 1,hlt⟩,by simp only; omega,lab2,[(.loc 8,.loc 47)],?_⟩
       have r0 : rhoS (lab1 (.gen 0)) lab2 (bSh (b.addI t p (q.i + 1))) [(.loc 8,.loc 47)] (.par 0) = .par 0 :=
         (rhoS_at (labC := lab1 (.gen 0)) (fun p1 p2 _ _ e => lab1_inj hi1 e) (p := 0) (bSh_ok.2 (by omega))).trans (hl3 0 (by omega) (by decide))
       have r8 : rhoS (lab1 (.gen 0)) lab2 (bSh (b.addI t p (q.i + 1))) [(.loc 8,.loc 47)] (.loc 8) = .loc 47 := (rhoS_ne (by intro p' _; simp [lab1]; split <;> simp)).trans (by simp [rnF])
       refine ⟨(g1.upd' fun p' hp' => hl2 p' hp' 8).upd' fun p' hp' => hl2 p' hp' 47,?_,?_,?_,by simp [rnF],?_,by simp [rnF,Lb.fresh,Lb.entry],?_⟩
       · intro l he hu
         cases l with
         | par k' =>
           by_cases h1 : k' = 1
           · subst h1; right; right; rfl
           · left
             refine ⟨k',bSh_ok.2 ?_,by simp [lab1,h1]⟩
             refine Decidable.byContradiction fun hk' => hk' ?_
             refine anf k' ?_
             rw [upd_ne _ _ (by simp),upd_ne _ _ (by simp),g4 (.par k') ?_ (by simp [NC]),upd_ne _ _ (by simp),upd_ne _ _ (by simp)] at hu
             · exact hu
             · intro p' hp' e
               simp only [lab1] at e; split at e <;> simp at e
               subst e; exact hk' ((bSh_ok (b := b.addI t p q.i)).1 hp')
         | _ => simp [Lb.entry] at he
       · simp [addPs,EqL,ren,put,ofL,r0,r8]
       · intro z hz
         simp only [addRs,List.mem_singleton] at hz
         subst hz
         simp [rnF,upd_at,renR_immE]
         rw [hkid]; simp [immE,intIV]
       · intro l hl p' hp'
         simp only [List.mem_singleton] at hl
         subst hl
         simpa [rnF] using hl2 p' hp' 47
       · intro p' hp'
         refine ⟨by simp [lab1]; split <;> simp [Lb.fresh],?_⟩
         unfold lab1; split
         · simp [Lb.entry]
         · rename_i h1; intro _; exact hl3 p' ((bSh_ok (b := b.addI t p (q.i + 1))).1 hp') h1
   · have he : q.i = t.kids.length := by simp at h; omega
     have hs : H0 (.par 0) = .live ⟨3,[[.sl (.gen 0) 5 0 (b.addI t p q.i).nodes.length,.sl (.par 2) 1 0 b.fs.length,.sl (.par 3) 1 0 b.as.length]]⟩ := hB.s
     have hnd : H0 (.gen 0) = .live ⟨5,(b.addI t p q.i).nodes.mapIdx (bNode b.n0 (lab1 (.gen 0)))⟩ := hB.n
     have htk : t.kids.take q.i = t.kids := by rw [he]; simp
     rw [htk] at a8 hkn
     have hx : (b.addI t p q.i).nodes[b.nodes.length]? = some ⟨t.text,t.s,t.attrs,p,[]⟩ := by simp [Bn.addI]
     have hlen : b.nodes.length < (b.addI t p q.i).nodes.length := (List.getElem?_eq_some_iff.1 hx).1
     simp only [↓aX,mX,reduceCtorEq,Nat.reduceEqDiff,Nat.reduceLT,Nat.reduceLeDiff,Nat.reduceAdd,Nat.reduceMul,Int.reduceToNat,Int.reduceLE,Int.reduceLT]
     refine ⟨1,(kidsAt (b.nodes.length + 1) t.kids).map intIV,0,q.i,rfl,a8,by rw [List.length_map,hkn]; omega,flatI _,?_⟩
     simp only [↓aX,mX,reduceCtorEq,Nat.reduceEqDiff,Nat.reduceLT,Nat.reduceLeDiff,Nat.reduceAdd,Nat.reduceMul,Int.reduceToNat,Int.reduceLE,Int.reduceLT,hs,hnd,List.length_mapIdx,hlen,Int.natCast_nonneg,Int.toNat_natCast,and_self,true_and,Nat.zero_add,hB.get hx,bNode_ge hn]
     have hget : ((b.addI t p q.i).nodes.mapIdx (bNode b.n0 (lab1 (.gen 0))))[b.nodes.length]? = some [.bool t.text,.str t.s,.list (ivA t.attrs),.int .i64 p,.list []] := by
       have := hB.get hx
       rw [show (b.addI t p q.i).n0 = b.n0 from rfl,bNode_ge hn] at this
       exact this
     have hkt : ((kidsAt (b.nodes.length + 1) t.kids).map intIV).take q.i = (kidsAt (b.nodes.length + 1) t.kids).map intIV := List.take_of_length_le (by rw [List.length_map,hkn]; omega)
     simp only [↓aX,mX,reduceCtorEq,Nat.reduceEqDiff,Nat.reduceLT,Nat.reduceLeDiff,Nat.reduceAdd,Nat.reduceMul,Int.reduceToNat,Int.reduceLE,Int.reduceLT,hget,hkt]
     have hend : (b.addI t p q.i).set b.nodes.length { (⟨t.text,t.s,t.attrs,p,[]⟩ : Node) with kids := kidsAt (b.nodes.length + 1) t.kids } = b.add t p := by
       unfold Bn.set Bn.addI Bn.add
       simp only [htk,Tree.flat_eq,Tree.node]
       rw [List.set_append_right _ _ (Nat.le_refl _)]
       simp
     refine ⟨⟨fun _ => .int .i64 b.nodes.length,bSh (b.add t p),lab1 (.gen 0)⟩,⟨rfl,rfl⟩,fun ρ => rfl,by simp [AV.lbs],rfl,?_,?_⟩
     · rw [← hend]
       refine BnAt.setD (H := upd H0 (.loc 8) .dead) (hB.upd' (by intro p' _; simp [lab1]; split <;> simp)) (i := b.nodes.length) hn hx ?_ ?_
       · show upd _ _ _ (Lb.gen 0) = _
         simp [upd_at]
         rfl
       · intro l hl
         have : l ≠ .gen 0 := hl
         simp [upd_at,this]
     · intro p' hp'
       have := (but_mem.1 hp').2
       simp [lab1,this]
theorem cntT_mem : ∀ {l : List Tree} {k : Tree},k ∈ l → k.cnt ≤ cntT l
 | x :: r,k,h => by
   rcases List.mem_cons.1 h with rfl | h
   · simp only [cntT]; omega
   · have := cntT_mem h; simp only [cntT]; omega
def CloneA (P : Program) (G : Nat → Option (List IV)) (f : Nat) : Prop := ∀ xs : List Attr,xs.length ≤ B → PureC P G f [.list (ivA xs)] (.list (ivA xs))
theorem cAdd {f_change_bench_add f_slices_Clone_Attr_Attr : Nat} (hF : compF P G f_change_bench_add = some (58,[(none,6)],(c_change_bench_add f_slices_Clone_Attr_Attr f_change_bench_add).bare)) (hC : CloneA P G f_slices_Clone_Attr_Attr) : ∀ (m : Nat) (t : Tree),t.cnt ≤ m → ∀ (b : Bn),b.n0 ≤ b.nodes.length → ∀ (p : Int),b.nodes.length + t.wt ≤ B →
   ShC P G f_change_bench_add [.ptr (.par 0) 3 0 0,t.av,.int .i64 p] (bSh b) (b.but 1) fun X R2 => X = (fun _ => .int .i64 b.nodes.length) ∧ R2 = bSh (b.add t p)
 | 0,t,h,_,_,_,_ => by have := t.cnt_pos; omega
 | m + 1,t,h,b,hn,p,hb => by
   have hw := t.wt_eq
   have hl := wtA_len t.attrs
   refine cAdd1 hF b hn t p hb (hC _ (by omega)) fun b' k hk h0 h1 h2 => ?_
   have h3 : b'.but 1 = b.but 1 := by unfold Bn.but; rw [h0]
   rw [← h3]
   obtain ⟨i,hi⟩ := List.getElem?_of_mem hk
   have := cntT_mem hk
   exact cAdd hF hC m k (by rw [t.cnt_eq] at h; omega) b' (by omega) _ h2
end
end Go.Am

/- The bench: trees put in as kids. -/
set_option pp.deepTerms false
set_option pp.deepTerms.threshold 5
namespace Go.Am
open Go Go.RowKit
def Bn.adds (b : Bn) (p : Nat) (l : List Tree) : Bn := { b with nodes := b.nodes ++ flats b.nodes.length p l }
def Bn.ins (b : Bn) (p pl : Nat) (l : List Tree) : Bn := match b.nodes[p]? with
 | some x => (b.adds p l).set p { x with kids := x.kids.take pl ++ kidsAt b.nodes.length l ++ x.kids.drop pl }
 | none => b
def Bn.but2 (b : Bn) (p q : Nat) : List Nat := (List.range (4 + 2 * b.n0)).filter fun i => i ≠ p ∧ i ≠ q
theorem but2_mem {b : Bn} {p q i : Nat} : i ∈ b.but2 p q ↔ i < 4 + 2 * b.n0 ∧ i ≠ p ∧ i ≠ q := by simp [Bn.but2]
def InsI (P : Program) (G : Nat → Option (List IV)) (f : Nat) : Prop := ∀ (xs vs : List Int) (i : Nat),i ≤ xs.length → xs.length + vs.length ≤ B →
 GrwC P G 1 f [.sl (.par 0) 1 0 xs.length,.int .i64 i,.list (vs.map intIV)] (xs.map intIV) ((xs.take i ++ vs ++ xs.drop i).map intIV)
def DelI (P : Program) (G : Nat → Option (List IV)) (f : Nat) : Prop := ∀ (xs : List Int) (i : Nat),i < xs.length → xs.length ≤ B →
 GrwC P G 1 f [.sl (.par 0) 1 0 xs.length,.int .i64 i,.int .i64 ((i + 1 : Nat) : Int)] (xs.map intIV) ((xs.take i ++ xs.drop (i + 1)).map intIV)
def AddC (P : Program) (G : Nat → Option (List IV)) (f : Nat) : Prop := ∀ (t : Tree) (b : Bn),b.n0 ≤ b.nodes.length → ∀ (p : Int),b.nodes.length + t.wt ≤ B →
   ShC P G f [.ptr (.par 0) 3 0 0,t.av,.int .i64 p] (bSh b) (b.but 1) fun X R2 => X = (fun _ => .int .i64 b.nodes.length) ∧ R2 = bSh (b.add t p)
section
variable {P : Program} {G : Nat → Option (List IV)}
def c_change_bench_insert (f_change_bench_add f_slices_Insert_int_int : Nat) : AC :=
(.seq (.reg [⟨some 8,none,.mov (.c .nil0)⟩]) (.gh (.own 8 1) (.seq (.seq (.reg [⟨some 11,none,.mov (.t 3)⟩,⟨some 12,none,.len (.t 11)⟩,⟨some 13,none,.mov (.c (.int .i64 0))⟩]) (.block 0 (.loop (.seq (.reg [⟨some 14,none,.bin .lss (.t 13) (.t 12)⟩]) (.seq (.cond (.t 14) .skip (.exit 0)) (.seq (.block 1 (.seq (.reg [⟨some 15,none,.ixa (.t 11) (.t 13) 4⟩,⟨some 16,none,.load (some 4) (.t 15)⟩,⟨some 10,none,.new [(.bool false),(.str []),.nil0,.nil0]⟩,⟨none,none,.store 4 (.t 10) (.t 16)⟩]) (.reg [⟨some 17,none,.mov (.t 8)⟩,⟨some 18,none,.mov (.t 0)⟩,⟨some 19,none,.load (some 4) (.t 10)⟩,⟨some 20,none,.mov (.t 1)⟩,⟨some 21,none,.call f_change_bench_add [(.t 18),(.t 19),(.t 20)]⟩,⟨some 22,none,.lits 1 1 [(.int .i64 0)] [(0,(.t 21))]⟩,⟨some 23,none,.app (.t 17) (.t 22) 1 8⟩,⟨some 8,none,.mov (.t 23)⟩]))) (.reg [⟨some 24,none,.bin .add (.t 13) (.c (.int .i64 1))⟩,⟨some 13,none,.mov (.t 24)⟩]))))))) (.gh (.frz (.loc 8) 8) (.dreg [⟨some 25,none,.mov (.t 0)⟩,⟨some 26,none,.nchk (.t 25)⟩,⟨some 27,none,.fld (.t 26) 0⟩,⟨some 28,none,.load none (.t 27)⟩,⟨some 29,none,.mov (.t 1)⟩,⟨some 30,none,.mov (.t 0)⟩,⟨some 31,none,.nchk (.t 30)⟩,⟨some 32,none,.fld (.t 31) 0⟩,⟨some 33,none,.load none (.t 32)⟩,⟨some 34,none,.mov (.t 1)⟩,⟨some 35,none,.ixa (.t 33) (.t 34) 5⟩,⟨some 36,none,.fld (.t 35) 4⟩,⟨some 37,none,.load none (.t 36)⟩,⟨some 38,none,.mov (.t 2)⟩,⟨some 39,none,.mov (.t 8)⟩,⟨some 40,none,.call f_slices_Insert_int_int [(.t 37),(.t 38),(.t 39)]⟩,⟨some 41,none,.ixa (.t 28) (.t 29) 5⟩,⟨some 42,none,.fld (.t 41) 4⟩,⟨none,none,.store 1 (.t 42) (.t 40)⟩] [[],[0],[1],[2],[],[],[5],[6],[7],[],[8,9],[10],[11],[],[],[12,13,14],[3,4,0,1,2,3,4,5,6,7,8,9,10,11,12,13,14,15],[16,0,1,2,3,4,5,6,7,8,9,10,11,12,13,14,15],[17,15,15,0,1,2,3,4,5,6,7,8,9,10,11,12,13,14,15]] [.no,.no,.no,(.rw [(.par 0)] []),.no,.no,.no,.no,(.rw [(.par 0)] []),.no,.no,.no,(.rw [(.gen 0)] []),.no,.no,(.far [(.par 0)]),.no,.no,(.rw [] [(.gen 0)])])))))
structure InsS (l : List Tree) where
 i : Nat
 hi : i ≤ l.length
def insPs (b : Bn) (p pl : Nat) (l : List Tree) (q : InsS l) : List (Nat × AV) :=
 [(0,.ptr (.par 0) 3 0 0),(1,.int .i64 p),(2,.int .i64 pl),(8,.sl (.loc 8) 1 0 q.i),(11,.list (ivT l)),(12,.int .i64 l.length),(13,.int .i64 q.i)]
def insRs (b : Bn) (l : List Tree) (q : InsS l) : List (Lb × Row) :=
 [(.loc 8,⟨1,immE ((kidsAt b.nodes.length (l.take q.i)).map intIV)⟩)]
theorem cInsert {f_change_bench_insert f_change_bench_add f_slices_Insert_int_int : Nat} (hF : compF P G f_change_bench_insert = some (43,[],(c_change_bench_insert f_change_bench_add f_slices_Insert_int_int).bare)) (b : Bn) (hn : b.n0 ≤ b.nodes.length) (p pl : Nat) (hp : p < b.n0) (x : Node) (hx : b.nodes[p]? = some x) (hpl : pl ≤ x.kids.length)
   (l : List Tree) (hb : b.nodes.length + wtT l ≤ B) (hxk : x.kids.length + l.length ≤ B) (hA : AddC P G f_change_bench_add) (hI : InsI P G f_slices_Insert_int_int) :
   ShC P G f_change_bench_insert [.ptr (.par 0) 3 0 0,.int .i64 p,.int .i64 pl,.list (ivT l)] (bSh b) (b.but2 1 (5 + 2 * p)) fun X R2 => X = (fun _ => .tup []) ∧ R2 = bSh (b.ins p pl l) := by
 refine sh_of_go hF (by simp) (by simp [lbss,AV.lbs,bSh_ok,Tree.av]; omega) ?_
 have hA0 : BnAt Lb.par b (inS (bSh b)) := inS_at _
 have hU : ∀ q : Lb,(∀ p,p < 4 + 2 * b.n0 → q ≠ .par p) → inS (bSh b) q = .unused := fun q hq => shH_ne _ fun p hp e => hq p (bSh_ok.1 hp) e.symm
 have h8 : inS (bSh b) (.loc 8) = .unused := hU _ (by simp)
 have hkl := wtT_len l
 have hBv : B = 1073741824 := rfl
 have hi1 : ∀ p',p' ≠ 1 → Lb.gen 0 ≠ .par p' := by simp
 have hI0 : ∀ q : InsS l,bSh (b.adds p (l.take q.i)) = bSh (b.adds p (l.take q.i)) := fun _ => rfl
 unfold c_change_bench_insert
 simp only [↓aX,mX,reduceCtorEq,Nat.reduceEqDiff,Nat.reduceLT,Nat.reduceLeDiff,Nat.reduceAdd,Nat.reduceMul,Int.reduceToNat,Int.reduceLE,Int.reduceLT,h8]
 refine loop_sh (σ := InsS l) (lab1 (.gen 0)) (fun q => bSh (b.adds p (l.take q.i))) [.loc 8] (fun l => l == .par 1) (insPs b p pl l) (insRs b l) (fun q => l.length - q.i) ⟨0,Nat.zero_le _⟩
   (fun q p1 p2 _ _ e => lab1_inj hi1 e) (fun _ => rfl) (by simp [lab1]; intro _ p' _; split <;> simp) ?_ ?_ ?_ ?_
 · intro q l' hl
   simp [lbss,AV.lbs,insPs] at hl
   rcases hl with rfl | rfl
   · right; exact ⟨0,bSh_ok.2 (by omega),by simp [lab1]⟩
   · left; simp
 · intro q z hz cs hcs l' hl
   simp only [insRs,List.mem_singleton] at hz
   subst hz
   rw [lbss_immE hcs] at hl; simp at hl
 · have hb0 : b.adds p (l.take 0) = b := by simp [Bn.adds,flats]
   refine ⟨Lb.par,[],?_⟩
   have r0 : rhoS (lab1 (.gen 0)) Lb.par (bSh (b.adds p (l.take 0))) [] (.par 0) = .par 0 :=
     rhoS_at (labC := lab1 (.gen 0)) (fun p1 p2 _ _ e => lab1_inj hi1 e) (p := 0) (bSh_ok.2 (by omega))
   have r8 : rhoS (lab1 (.gen 0)) Lb.par (bSh (b.adds p (l.take 0))) [] (.loc 8) = .loc 8 := rhoS_ne (by intro p' _; simp [lab1]; split <;> simp)
   refine ⟨?_,?_,?_,?_,by simp [rnF],?_,by simp [rnF,Lb.fresh,Lb.entry],?_⟩
   · simp only [hb0]; exact hA0.upd' (by simp)
   · intro l' he hu
     cases l' with
     | par k =>
       by_cases h1 : k = 1
       · subst h1; right; right; rfl
       · left
         refine ⟨k,bSh_ok.2 ?_,by simp [lab1,h1]⟩
         refine Decidable.byContradiction fun hk => hu ?_
         simp only [upd_at,reduceCtorEq,if_false]
         exact hU _ fun p' hp' e => hk (by simp only [Lb.par.injEq] at e; subst e; exact hp')
     | _ => simp [Lb.entry] at he
   · simp [insPs,EqL,ren,put,argE,ivT_len]
     exact ⟨r0.symm,r8.symm⟩
   · intro z hz
     simp only [insRs,List.mem_singleton] at hz
     subst hz
     simp [rnF,upd_at,renR_immE]
     simp [kidsAt,immE]
   · intro l' hl p' hp'
     simp only [List.mem_singleton] at hl
     subst hl
     simp [rnF]
   · intro p' hp'
     refine ⟨by simp [lab1]; split <;> simp [Lb.fresh],?_⟩
     unfold lab1; split <;> simp [Lb.entry]
 · intro q
   obtain ⟨H0,hH0⟩ : ∃ H0,H0 = shH (lab1 (.gen 0)) (bSh (b.adds p (l.take q.i))) (ofU (fun l => l == .par 1) (insRs b l q)) := ⟨_,rfl⟩
   rw [← hH0]
   have hB : BnAt (lab1 (.gen 0)) (b.adds p (l.take q.i)) H0 := by rw [hH0]; exact ShAt.of_shH (fun p1 p2 _ _ e => lab1_inj hi1 e) _
   have hO : ∀ l' : Lb,(∀ p',lab1 (.gen 0) p' ≠ l') → H0 l' = ofU (fun l => l == .par 1) (insRs b l q) l' := fun l' hl => by rw [hH0]; exact shH_ne _ fun p' _ => hl p'
   have a8 : H0 (.loc 8) = .live ⟨1,immE ((kidsAt b.nodes.length (l.take q.i)).map intIV)⟩ := (hO _ (by intro p'; simp [lab1]; split <;> simp)).trans (by simp [ofU,insRs,ofH,upd])
   have a10 : H0 (.loc 10) = .unused := (hO _ (by intro p'; simp [lab1]; split <;> simp)).trans (by simp [ofU,insRs,ofH,upd,Hp.none])
   have a23 : H0 (.loc 23) = .unused := (hO _ (by intro p'; simp [lab1]; split <;> simp)).trans (by simp [ofU,insRs,ofH,upd,Hp.none])
   have ag : H0 (.gen 40) = .unused := (hO _ (by intro p'; simp [lab1]; split <;> simp)).trans (by simp [ofU,insRs,ofH,upd,Hp.none])
   have aN : ∀ l,H0 (NC 9 l) = .unused := fun l' => (hO _ (by intro p'; simp [lab1,NC]; split <;> simp)).trans (by simp [ofU,insRs,ofH,upd,Hp.none,NC])
   have anf : ∀ k,H0 (.par k) ≠ .unused → k < 4 + 2 * b.n0 := by
     intro k hu
     refine Decidable.byContradiction fun hk => hu ?_
     rw [hH0,shH_ne _ fun p' hp' e => ?_]
     · have : k ≠ 1 := by omega
       simp [ofU,insRs,ofH,upd,Hp.none,this]
     · have h2 := (bSh_ok (b := b.adds p (l.take q.i))).1 hp'
       unfold lab1 at e; split at e <;> simp at e
       subst e; exact hk h2
   clear hH0 hO
   have hi := q.hi
   have hkn : (kidsAt b.nodes.length (l.take q.i)).length = q.i := by rw [kidsAt_len,List.length_take]; omega
   have hct := cntT_le (l.take q.i)
   have hwt2 := wtT_take l q.i
   simp only [↓aX,mX,reduceCtorEq,Nat.reduceEqDiff,Nat.reduceLT,Nat.reduceLeDiff,Nat.reduceAdd,Nat.reduceMul,Int.reduceToNat,Int.reduceLE,Int.reduceLT,insPs]
   refine cK_b (fun h => ?_) (fun h => ?_)
   · have hlt : q.i < l.length := by simpa using h
     obtain ⟨k,hki⟩ : ∃ k,l[q.i]? = some k := ⟨_,List.getElem?_eq_getElem hlt⟩
     have hw : IntKind.i64.wrap ((q.i : Int) + 1) = ((q.i + 1 : Nat) : Int) := wrap64 (by omega) (by omega)
     have htk : l.take (q.i + 1) = l.take q.i ++ [k] := take_snoc' hki
     have hwk : wtT (l.take q.i) + k.wt ≤ wtT l := by
       have := wtT_take l (q.i + 1)
       rw [htk,wtT_app] at this
       simp only [wtT] at this; omega
     simp only [↓aX,mX,reduceCtorEq,Nat.reduceEqDiff,Nat.reduceLT,Nat.reduceLeDiff,Nat.reduceAdd,Nat.reduceMul,Int.reduceToNat,Int.reduceLE,Int.reduceLT,ivT_get,hki,elszT,Tree.cells_eq,Tree.cs,a10]
     have hoff : (b.adds p (l.take q.i)).nodes.length = b.nodes.length + cntT (l.take q.i) := by simp [Bn.adds,flats_len]
     refine callT_sh (lab := lab1 (.gen 0)) (N := NC 9) (hA k (b.adds p (l.take q.i)) (by rw [hoff]; show b.n0 ≤ _; omega) p (by rw [hoff]; omega)) ?_ ?_ ?_ (NC_inj 9) (fun l h => .inl h) (fun p' hp' => bSh_ok.2 (but_mem.1 hp').1) ?_
     · simp [rens,ren,inR,lab1,Tree.av]
     · exact (hB.upd' (by intro p' _; simp [lab1]; split <;> simp)).upd' (by intro p' _; simp [lab1]; split <;> simp)
     · intro l'; rw [upd_ne _ _ (by simp [NC]),upd_ne _ _ (by simp [NC])]; exact aN l'
     · rintro X R2 lab2 H2 ⟨rfl,rfl⟩ g1 g2 g3 g4 g5 g6
       have hfar : ∀ n : Nat,n ≠ 10 → H2 (.loc n) = H0 (.loc n) := fun n hn => by
         rw [g4 (.loc n) (by intro p' _; simp [lab1]; split <;> simp) (by simp [NC]),upd_ne _ _ (by simpa using hn),upd_ne _ _ (by simpa using hn)]
       have hl2 : ∀ p' : Nat,(bSh ((b.adds p (l.take q.i)).add k p)).ok p' → ∀ n,lab2 p' ≠ .loc n := by
         intro p' hp' n
         rcases g3 p' hp' with ⟨p0,_,e⟩ | ⟨l,e⟩ <;> rw [e]
         · simp [lab1]; split <;> simp
         · simp [NC]
       have hl3 : ∀ p',p' < 4 + 2 * b.n0 → p' ≠ 1 → lab2 p' = .par p' := fun p' h1 h2 => by rw [g2 p' (but_mem.2 ⟨h1,h2⟩)]; simp [lab1,h2]
       simp only [↓aX,mX,reduceCtorEq,Nat.reduceEqDiff,Nat.reduceLT,Nat.reduceLeDiff,Nat.reduceAdd,Nat.reduceMul,Int.reduceToNat,Int.reduceLE,Int.reduceLT]
       rw [app_loc 1 8 23 8 ((kidsAt b.nodes.length (l.take q.i)).map intIV) (.int .i64 (b.adds p (l.take q.i)).nodes.length) (by rw [hfar 8 (by decide),a8]) (by rw [List.length_map,hkn]) rfl (by simp [IV.cells]) (by omega) (by decide) (by decide) (by rw [hfar 23 (by decide),a23])]
       simp only [↓aX,mX,reduceCtorEq,Nat.reduceEqDiff,Nat.reduceLT,Nat.reduceLeDiff,Nat.reduceAdd,Nat.reduceMul,Int.reduceToNat,Int.reduceLE,Int.reduceLT,hw]
       have hkid : kidsAt b.nodes.length (l.take (q.i + 1)) = kidsAt b.nodes.length (l.take q.i) ++ [((b.adds p (l.take q.i)).nodes.length : Int)] := by
         rw [htk,kidsAt_app,hoff]; simp [kidsAt]
       have hbn : (b.adds p (l.take q.i)).add k p = b.adds p (l.take (q.i + 1)) := by
         show ({ (b.adds p (l.take q.i)) with nodes := (b.adds p (l.take q.i)).nodes ++ k.flat (b.adds p (l.take q.i)).nodes.length p } : Bn) = _
         rw [hoff]
         simp [Bn.adds,htk,flats_app,flats]
       rw [hbn] at g1 hl2
       refine ⟨⟨q.i + 1,hlt⟩,by simp only; omega,lab2,[(.loc 8,.loc 23)],?_⟩
       have r0 : rhoS (lab1 (.gen 0)) lab2 (bSh (b.adds p (l.take (q.i + 1)))) [(.loc 8,.loc 23)] (.par 0) = .par 0 :=
         (rhoS_at (labC := lab1 (.gen 0)) (fun p1 p2 _ _ e => lab1_inj hi1 e) (p := 0) (bSh_ok.2 (by omega))).trans (hl3 0 (by omega) (by decide))
       have r8 : rhoS (lab1 (.gen 0)) lab2 (bSh (b.adds p (l.take (q.i + 1)))) [(.loc 8,.loc 23)] (.loc 8) = .loc 23 := (rhoS_ne (by intro p' _; simp [lab1]; split <;> simp)).trans (by simp [rnF])
       refine ⟨(g1.upd' fun p' hp' => hl2 p' hp' 8).upd' fun p' hp' => hl2 p' hp' 23,?_,?_,?_,by simp [rnF],?_,by simp [rnF,Lb.fresh,Lb.entry],?_⟩
       · intro l' he hu
         cases l' with
         | par k' =>
           by_cases h1 : k' = 1
           · subst h1; right; right; rfl
           · left
             refine ⟨k',bSh_ok.2 ?_,by simp [lab1,h1]⟩
             refine Decidable.byContradiction fun hk' => hk' ?_
             refine anf k' ?_
             rw [upd_ne _ _ (by simp),upd_ne _ _ (by simp),g4 (.par k') ?_ (by simp [NC]),upd_ne _ _ (by simp),upd_ne _ _ (by simp)] at hu
             · exact hu
             · intro p' hp' e
               simp only [lab1] at e; split at e <;> simp at e
               subst e; exact hk' ((bSh_ok (b := b.adds p (l.take q.i))).1 hp')
         | _ => simp [Lb.entry] at he
       · simp [insPs,EqL,ren,put,ofL,r0,r8]
       · intro z hz
         simp only [insRs,List.mem_singleton] at hz
         subst hz
         simp [rnF,upd_at,renR_immE]
         rw [hkid]; simp [immE,intIV]
       · intro l' hl p' hp'
         simp only [List.mem_singleton] at hl
         subst hl
         simpa [rnF] using hl2 p' hp' 23
       · intro p' hp'
         refine ⟨by simp [lab1]; split <;> simp [Lb.fresh],?_⟩
         unfold lab1; split
         · simp [Lb.entry]
         · rename_i h1; intro _; exact hl3 p' ((bSh_ok (b := b.adds p (l.take (q.i + 1)))).1 hp') h1
   · have he : q.i = l.length := by simp at h; omega
     have htk : l.take q.i = l := by rw [he]; simp
     rw [htk] at a8 hkn hB
     have hs : H0 (.par 0) = .live ⟨3,[[.sl (.gen 0) 5 0 (b.adds p l).nodes.length,.sl (.par 2) 1 0 b.fs.length,.sl (.par 3) 1 0 b.as.length]]⟩ := hB.s
     have hnd : H0 (.gen 0) = .live ⟨5,(b.adds p l).nodes.mapIdx (bNode b.n0 (lab1 (.gen 0)))⟩ := hB.n
     have hlp : p < b.nodes.length := by omega
     have hx2 : (b.adds p l).nodes[p]? = some x := by simp only [Bn.adds]; rw [List.getElem?_append_left hlp]; exact hx
     have hlen : p < (b.adds p l).nodes.length := (List.getElem?_eq_some_iff.1 hx2).1
     have h5 : ¬ 5 + 2 * p = 1 := by omega
     have hkd : H0 (.par (5 + 2 * p)) = .live ⟨1,immE (x.kids.map intIV)⟩ := by
       have := hB.kd hp hx2
       simpa [lab1,h5] using this
     have hget : ((b.adds p l).nodes.mapIdx (bNode b.n0 (lab1 (.gen 0))))[p]? = some [.bool x.text,.str x.s,.sl (.par (4 + 2 * p)) 2 0 x.attrs.length,.int .i64 x.parent,.sl (.par (5 + 2 * p)) 1 0 x.kids.length] := by
       have := hB.get hx2
       rw [show (b.adds p l).n0 = b.n0 from rfl,bNode_lt hp] at this
       rw [this]
       have h4 : ¬ 4 + 2 * p = 1 := by omega
       simp [lab1,h4,h5]
     have hkt : ((kidsAt b.nodes.length l).map intIV).take q.i = (kidsAt b.nodes.length l).map intIV := List.take_of_length_le (by rw [List.length_map,hkn]; omega)
     simp only [↓aX,mX,reduceCtorEq,Nat.reduceEqDiff,Nat.reduceLT,Nat.reduceLeDiff,Nat.reduceAdd,Nat.reduceMul,Int.reduceToNat,Int.reduceLE,Int.reduceLT]
     refine ⟨1,(kidsAt b.nodes.length l).map intIV,0,q.i,rfl,a8,by rw [List.length_map,hkn]; omega,flatI _,?_⟩
     simp only [↓aX,mX,reduceCtorEq,Nat.reduceEqDiff,Nat.reduceLT,Nat.reduceLeDiff,Nat.reduceAdd,Nat.reduceMul,Int.reduceToNat,Int.reduceLE,Int.reduceLT,hs,hnd,List.length_mapIdx,hlen,Int.natCast_nonneg,Int.toNat_natCast,and_self,true_and,Nat.zero_add,hget,hkt]
     refine ⟨rfl,?_⟩
     have hkl2 : (kidsAt b.nodes.length l).length = l.length := kidsAt_len _ _
     have hins : b.ins p pl l = (b.adds p l).set p { x with kids := x.kids.take pl ++ kidsAt b.nodes.length l ++ x.kids.drop pl } := by unfold Bn.ins; rw [hx]
     have hne1 : ∀ k,lab1 (.gen 0) k ≠ .loc 8 := by intro p'; simp [lab1]; split <;> simp
     have hB' : BnAt (lab1 (.gen 0)) (b.adds p l) (upd H0 (.loc 8) .dead) := hB.upd' fun p' _ => hne1 p'
     have key : ∀ N : Lb,(N = .par (5 + 2 * p) ∨ N = .gen 40) → ∀ H2 : Hp,H2 (.gen 0) = .live ⟨5,((b.adds p l).nodes.mapIdx (bNode b.n0 (lab1 (.gen 0)))).set p [.bool x.text,.str x.s,.sl (.par (4 + 2 * p)) 2 0 x.attrs.length,.int .i64 x.parent,.sl N 1 0 (x.kids.take pl ++ kidsAt b.nodes.length l ++ x.kids.drop pl).length]⟩ →
         H2 N = .live ⟨1,immE ((x.kids.take pl ++ kidsAt b.nodes.length l ++ x.kids.drop pl).map intIV)⟩ → (∀ q,q ≠ .gen 0 → q ≠ N → q ≠ .par (5 + 2 * p) → H2 q = upd H0 (.loc 8) .dead q) →
         ∃ t : ((Nat → Lb) → AV) × Shp × (Nat → Lb),(t.1 = (fun _ => .tup []) ∧ t.2.1 = bSh (b.ins p pl l)) ∧ (∀ ρ,ren ρ (t.1 t.2.2) = t.1 fun i => ρ (t.2.2 i)) ∧ (∀ l ∈ (AV.tup []).lbs,∃ p,t.2.1.ok p ∧ l = t.2.2 p) ∧ AV.tup [] = t.1 t.2.2 ∧ ShAt t.2.2 t.2.1 H2 ∧ ∀ p' ∈ b.but2 1 (5 + 2 * p),t.2.2 p' = .par p' := by
       intro N hN H2 e1 e2 e3
       refine ⟨⟨fun _ => .tup [],bSh (b.ins p pl l),fun p' => if p' = 5 + 2 * p then N else lab1 (.gen 0) p'⟩,⟨rfl,rfl⟩,fun ρ => by simp [ren,rens],by simp [AV.lbs,lbss],rfl,?_,?_⟩
       · rw [hins]
         have h4 : ¬ 4 + 2 * p = 1 := by omega
         refine BnAt.setK hB' hp hx2 ?_ (by rw [show lab1 (.gen 0) (4 + 2 * p) = .par (4 + 2 * p) by simp [lab1,h4]]; exact e1) e2 (fun q g1 g2 g3 => e3 q g1 g2 (by simpa [lab1,h5] using g3))
         rcases hN with rfl | rfl
         · left; simp [lab1,h5]
         · right; intro p' _; simp [lab1]; split <;> simp
       · intro p' hp'
         obtain ⟨_,q1,q2⟩ := but2_mem.1 hp'
         simp [q1,q2,lab1]
     refine far_grw (l := .par (5 + 2 * p)) (N := .gen 40) (hI x.kids (kidsAt b.nodes.length l) pl hpl (by rw [hkl2]; exact hxk)) rfl (by rw [upd_ne _ _ (by simp)]; exact hkd) (by rw [upd_ne _ _ (by simp)]; exact ag) (by simp [Lb.fresh]) (by simp [Lb.fam]) (by simp [Lb.fam]) ?_ ?_
     · simp only [↓aX,mX,reduceCtorEq,Nat.reduceEqDiff,Nat.reduceLT,Nat.reduceLeDiff,Nat.reduceAdd,Nat.reduceMul,Int.reduceToNat,Int.reduceLE,Int.reduceLT,hs,hnd,List.length_mapIdx,hlen,Int.natCast_nonneg,Int.toNat_natCast,and_self,true_and,Nat.zero_add,hget,List.length_map]
       rw [ret_n]
       refine ⟨[],rfl,key (.gen 40) (.inr rfl) _ (by simp [upd_at]) (by simp [upd_at]) ?_⟩
       intro q g1 g2 g3
       simp [upd_at,g1,g2,g3]
     · simp only [↓aX,mX,reduceCtorEq,Nat.reduceEqDiff,Nat.reduceLT,Nat.reduceLeDiff,Nat.reduceAdd,Nat.reduceMul,Int.reduceToNat,Int.reduceLE,Int.reduceLT,hs,hnd,List.length_mapIdx,hlen,Int.natCast_nonneg,Int.toNat_natCast,and_self,true_and,Nat.zero_add,hget,List.length_map]
       rw [ret_n]
       refine ⟨[],rfl,key (.par (5 + 2 * p)) (.inl rfl) _ (by simp [upd_at]) (by simp [upd_at]) ?_⟩
       intro q g1 g2 g3
       simp [upd_at,g1,g2,g3]
end
end Go.Am
