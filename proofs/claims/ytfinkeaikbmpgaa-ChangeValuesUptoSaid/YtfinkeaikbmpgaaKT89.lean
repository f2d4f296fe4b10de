import Derived.Test.YtfinkeaikbmpgaaT88
import Derived.Test.YtfinkeaikbmpgaaKS3
import Derived.Test.YtfinkeaikbmpgaaKC1
set_option linter.unusedSimpArgs false
set_option linter.unusedVariables false
set_option linter.unnecessarySimpa false
set_option linter.defProp false
/- The bench: the tree at a node. -/
set_option pp.deepTerms false
set_option pp.deepTerms.threshold 5
namespace Go.Am
open Go Go.RowKit
mutual
def Tree.rep (d : Doc) (n : Nat) : Tree → Prop
 | .mk t s as ks => ∃ p kd,d[n]? = some ⟨t,s,as,p,kd⟩ ∧ reps d kd ks
def reps (d : Doc) : List Int → List Tree → Prop
 | [],[] => True
 | k :: r,x :: xs => (∃ m : Nat,k = m ∧ x.rep d m) ∧ reps d r xs
 | [],_ :: _ => False
 | _ :: _,[] => False
end
theorem reps_len {d : Doc} : ∀ {ks : List Int} {xs : List Tree},reps d ks xs → ks.length = xs.length
 | [],[],_ => rfl
 | k :: r,x :: xs,h => by simp only [reps] at h; simp [reps_len h.2]
 | [],_ :: _,h => by simp [reps] at h
 | _ :: _,[],h => by simp [reps] at h
theorem reps_get {d : Doc} : ∀ {ks : List Int} {xs : List Tree},reps d ks xs → ∀ {i : Nat} {x : Tree},xs[i]? = some x → ∃ m : Nat,ks[i]? = some (m : Int) ∧ x.rep d m
 | [],[],_,i,x,hx => by simp at hx
 | k :: r,y :: xs,h,0,x,hx => by
   simp only [reps] at h
   obtain ⟨⟨m,rfl,hm⟩,_⟩ := h
   simp at hx; subst hx
   exact ⟨m,rfl,hm⟩
 | k :: r,y :: xs,h,i + 1,x,hx => by
   simp only [reps] at h
   obtain ⟨m,h1,h2⟩ := reps_get h.2 (i := i) (x := x) (by simpa using hx)
   exact ⟨m,by simpa using h1,h2⟩
 | [],_ :: _,h,i,x,hx => by simp [reps] at h
 | _ :: _,[],h,i,x,hx => by simp [reps] at h
def benchV (d : Doc) (fs as : List Int) : AV := .lptr [.list (d.map Node.iv),.list (fs.map intIV),.list (as.map intIV)]
section
variable {P : Program} {G : Nat → Option (List IV)}
def c_change_bench_tree (f_change_bench_tree : Nat) : AC :=
(.seq (.reg [⟨some 4,none,.new [(.bool false),(.str []),.nil0,.nil0]⟩]) (.seq (.reg [⟨some 9,none,.mov (.t 0)⟩,⟨some 10,none,.nchk (.t 9)⟩,⟨some 11,none,.fld (.t 10) 0⟩,⟨some 12,none,.load none (.t 11)⟩,⟨some 13,none,.mov (.t 1)⟩,⟨some 14,none,.ixa (.t 12) (.t 13) 5⟩,⟨some 15,none,.load (some 5) (.t 14)⟩,⟨some 5,none,.new [(.bool false),(.str []),.nil0,(.int .i64 0),.nil0]⟩,⟨none,none,.store 5 (.t 5) (.t 15)⟩]) (.seq (.reg [⟨some 16,none,.fld (.t 5) 0⟩,⟨some 17,none,.load none (.t 16)⟩,⟨some 18,none,.fld (.t 5) 1⟩,⟨some 19,none,.load none (.t 18)⟩,⟨some 20,none,.fld (.t 5) 2⟩,⟨some 21,none,.load none (.t 20)⟩,⟨some 22,none,.bld [(.bool false),(.str []),.nil0,.nil0] [(0,(1,(.t 17))),(1,(1,(.t 19))),(2,(1,(.t 21)))]⟩,⟨some 6,none,.new [(.bool false),(.str []),.nil0,.nil0]⟩,⟨none,none,.store 4 (.t 6) (.t 22)⟩]) (.seq (.gh .weak (.seq (.reg [⟨some 23,none,.fld (.t 5) 4⟩,⟨some 24,none,.load none (.t 23)⟩,⟨some 25,none,.len (.t 24)⟩,⟨some 26,none,.mov (.c (.int .i64 0))⟩]) (.block 0 (.loop (.seq (.reg [⟨some 27,none,.bin .lss (.t 26) (.t 25)⟩]) (.seq (.cond (.t 27) .skip (.exit 0)) (.seq (.block 1 (.seq (.reg [⟨some 28,none,.ixa (.t 24) (.t 26) 1⟩,⟨some 29,none,.load none (.t 28)⟩,⟨some 8,none,.mov (.t 29)⟩]) (.dreg [⟨some 30,none,.fld (.t 6) 3⟩,⟨some 31,none,.load none (.t 30)⟩,⟨some 32,none,.mov (.t 0)⟩,⟨some 33,none,.mov (.t 8)⟩,⟨some 34,none,.call f_change_bench_tree [(.t 32),(.t 33)]⟩,⟨some 35,none,.lits 1 4 [(.bool false),(.str []),.nil0,.nil0] [(0,(.t 34))]⟩,⟨some 36,none,.app (.t 31) (.t 35) 4 72⟩,⟨some 37,none,.fld (.t 6) 3⟩,⟨none,none,.store 1 (.t 37) (.t 36)⟩] [[],[0],[],[],[2,3],[4],[1,5,4],[0,1,2,3,4,5,6],[7,6,6,0,1,2,3,4,5,6]] [.no,.rw [.loc 6] [],.no,.no,.no,.no,(.rw [] [(.loc 50),(.loc 36)]),.no,.rw [] [.loc 6]]))) (.reg [⟨some 38,none,.bin .add (.t 26) (.c (.int .i64 1))⟩,⟨some 26,none,.mov (.t 38)⟩])))))))) (.gh (.frzc (.loc 50) (.loc 6) 3) (.seq (.reg [⟨some 39,none,.load (some 4) (.t 6)⟩,⟨none,none,.store 4 (.t 4) (.t 39)⟩]) .ret))))))
theorem pBTree1 {f_change_bench_tree : Nat} (hF : compF P G f_change_bench_tree = some (40,[((some (some 4)),4)],(c_change_bench_tree f_change_bench_tree).bare)) (d : Doc) (fs as : List Int) (hd : d.length ≤ B) (n : Nat) (x : Tree) (hL : x.rep d n) (hx : x.wt ≤ B)
   (hK : ∀ k ∈ x.kids,∀ (m : Nat),k.rep d m → PureC P G f_change_bench_tree [benchV d fs as,.int .i64 m] k.av) : PureC P G f_change_bench_tree [benchV d fs as,.int .i64 n] x.av := by
 refine pure_of_goN hF (by simp) (by simp [lbss,AV.lbs,benchV]) (by simp [AV.lbs,Tree.av,lbss]) ?_
 obtain ⟨tt,ss,aa,kk⟩ := x
 simp only [Tree.rep] at hL
 obtain ⟨p,kd,hnode,hreps⟩ := hL
 have hlt := (List.getElem?_eq_some_iff.1 hnode).1
 have hwx := (Tree.mk tt ss aa kk).wt_eq
 simp only [Tree.kids,Tree.s,Tree.attrs] at hwx
 have hkl := wtT_len kk
 have hkn := reps_len hreps
 have hgd : (d.map Node.iv)[n]? = some (⟨tt,ss,aa,p,kd⟩ : Node).iv := by rw [List.getElem?_map,hnode]; rfl
 unfold c_change_bench_tree
 simp only [↓aX,mX,reduceCtorEq,Nat.reduceEqDiff,Nat.reduceLT,Nat.reduceLeDiff,Nat.reduceAdd,Nat.reduceMul,Int.reduceToNat,Int.reduceLE,Int.reduceLT,benchV,List.length_map,hgd,elszN,Node.cells_eq,Node.cs]
 rw [go_weak]
 refine ⟨_,_,weaker_ownc (q := .loc 6) (cs := [.bool tt,.str ss,.list (ivA aa),.nil0]) (j := 3) (d := 50) (sz := 4) rfl rfl (by simp [upd_at,Hp.none]) (by decide),?_⟩
 simp only [↓aX,mX,reduceCtorEq,Nat.reduceEqDiff,Nat.reduceLT,Nat.reduceLeDiff,Nat.reduceAdd,Nat.reduceMul,Int.reduceToNat,Int.reduceLE,Int.reduceLT]
 refine loop_used (σ := { i : Nat // i ≤ kk.length }) (fun _ => [.loc 4,.loc 6,.loc 50]) (fun _ _ => false)
   (fun q => [(0,benchV d fs as),(4,.ptr (.loc 4) 4 0 0),(6,.ptr (.loc 6) 4 0 0),(24,.list (kd.map intIV)),(25,.int .i64 kk.length),(26,.int .i64 q.1)])
   (fun q => [(.loc 4,⟨4,[[.bool false,.str [],.nil0,.nil0]]⟩),(.loc 6,⟨4,[[.bool tt,.str ss,.list (ivA aa),.sl (.loc 50) 4 0 q.1]]⟩),(.loc 50,⟨4,immE (ivT (kk.take q.1))⟩)])
   (fun q => kk.length - q.1) ⟨0,Nat.zero_le _⟩ (fun _ => rfl) (fun q => by simp [lbss,AV.lbs,benchV]) ?_ ⟨[],?_⟩ ?_
 · rintro q r hr cs hcs l hl
   simp only [List.mem_cons,List.not_mem_nil,or_false] at hr
   rcases hr with rfl | rfl | rfl
   · simp only [List.mem_singleton] at hcs; subst hcs; simp [lbss,AV.lbs] at hl
   · simp only [List.mem_singleton] at hcs; subst hcs; simp [lbss,AV.lbs] at hl; subst hl; simp
   · rw [lbss_immE hcs] at hl; simp at hl
 · refine ⟨?_,?_,?_,by simp [rnF],fun l _ => ⟨id,fun _ => rfl⟩⟩
   · intro l hf hu
     exfalso; apply hu
     cases l <;> simp_all [Lb.fresh,upd_at,Hp.none]
   · simp [EqL,rnF,ren,put,hkn,benchV,argE]
   · simp [RwL,rnF,upd_at,renR,rens,ren,immE,ivT]
 · rintro ⟨i,hi⟩
   rw [ofU_f]
   simp only [↓aX,mX,reduceCtorEq,Nat.reduceEqDiff,Nat.reduceLT,Nat.reduceLeDiff,Nat.reduceAdd,Nat.reduceMul,Int.reduceToNat,Int.reduceLE,Int.reduceLT,ofH_nil,ofH_cons]
   by_cases hlt : i < kk.length
   · rw [show decide ((i : Int) < (kk.length : Int)) = true by simpa using hlt]
     obtain ⟨k,hki⟩ : ∃ k,kk[i]? = some k := ⟨_,List.getElem?_eq_getElem hlt⟩
     have hw : IntKind.i64.wrap ((i : Int) + 1) = ((i + 1 : Nat) : Int) := wrap64 (by omega) (by unfold B at hx; omega)
     obtain ⟨m,hg,hm⟩ := reps_get hreps hki
     simp only [↓aX,mX,reduceCtorEq,Nat.reduceEqDiff,Nat.reduceLT,Nat.reduceLeDiff,Nat.reduceAdd,Nat.reduceMul,Int.reduceToNat,Int.reduceLE,Int.reduceLT,intGet,hg,elszI,List.length_map,Option.map_some,intIV,IV.cells]
     have hkm := List.mem_of_getElem? hki
     have hl4 : (ivT (kk.take i)).length = i := by rw [ivT_len,List.length_take]; omega
     have hsn : ivT (kk.take (i + 1)) = ivT (kk.take i) ++ [.agg [.bool k.text,.str k.s,.list (ivA k.attrs),.list (ivT k.kids)]] := by rw [take_snoc' hki,ivT_app]; simp [ivT,Tree.iv_eq,Tree.cs]
     refine ⟨rfl,puK_in (hK k hkm m hm) ?_⟩
     simp only [↓aX,mX,reduceCtorEq,Nat.reduceEqDiff,Nat.reduceLT,Nat.reduceLeDiff,Nat.reduceAdd,Nat.reduceMul,Int.reduceToNat,Int.reduceLE,Int.reduceLT,Tree.av]
     rw [app_loc 4 72 36 50 (ivT (kk.take i)) (.agg [.bool k.text,.str k.s,.list (ivA k.attrs),.list (ivT k.kids)]) (by simp [upd_at]) hl4 rfl (by simp [IV.cells]) (by unfold B at hx; omega) (by decide) (by decide) (by simp [upd_at,Hp.none])]
     simp only [↓aX,mX,reduceCtorEq,Nat.reduceEqDiff,Nat.reduceLT,Nat.reduceLeDiff,Nat.reduceAdd,Nat.reduceMul,Int.reduceToNat,Int.reduceLE,Int.reduceLT,hw]
     refine ⟨by rintro l (rfl | rfl) <;> simp [Lb.fam],?_⟩
     refine ⟨⟨i + 1,hlt⟩,by simp only; omega,[(.loc 50,.loc 36)],?_⟩
     refine ⟨?_,?_,?_,by simp [rnF],?_⟩
     · intro l hf hu
       exfalso; apply hu
       cases l <;> simp_all [Lb.fresh,upd_at,Hp.none]
     · simp [EqL,rnF,ren,put,benchV,ofL]
     · have hr : ∀ xs : List IV,renR (rnF [(.loc 50,.loc 36)]) ⟨4,immE xs⟩ = ⟨4,immE xs⟩ := fun xs => renR_immE _ _ _
       simp [RwL,rnF,upd_at,renR,rens,ren,hsn]
       simp [immE,rens_imm]
     · intro l hl
       simp only [List.mem_cons,List.not_mem_nil,or_false] at hl
       rcases hl with rfl | rfl | rfl
       · exact ⟨fun _ => rfl,fun _ => rfl⟩
       · exact ⟨fun _ => rfl,fun _ => rfl⟩
       · exact ⟨fun _ => rfl,fun h => by simp [Lb.fresh] at h⟩
   · have hil : i = kk.length := by omega
     subst hil
     rw [show decide ((kk.length : Int) < (kk.length : Int)) = false by simp]
     simp only [↓aX,mX,reduceCtorEq,Nat.reduceEqDiff,Nat.reduceLT,Nat.reduceLeDiff,Nat.reduceAdd,Nat.reduceMul,Int.reduceToNat,Int.reduceLE,Int.reduceLT,List.take_length]
     refine ⟨4,ivT kk,0,kk.length,[.bool tt,.str ss,.list (ivA aa),.sl (.loc 50) 4 0 kk.length],rfl,rfl,rfl,by simp,by rw [ivT_len]; omega,flatT _,?_⟩
     simp only [↓aX,mX,reduceCtorEq,Nat.reduceEqDiff,Nat.reduceLT,Nat.reduceLeDiff,Nat.reduceAdd,Nat.reduceMul,Int.reduceToNat,Int.reduceLE,Int.reduceLT,List.drop_zero,List.take_of_length_le (show (ivT kk).length ≤ kk.length by rw [ivT_len]; exact Nat.le_refl _)]
     rfl
theorem pBTree {f_change_bench_tree : Nat} (hF : compF P G f_change_bench_tree = some (40,[((some (some 4)),4)],(c_change_bench_tree f_change_bench_tree).bare)) (d : Doc) (fs as : List Int) (hd : d.length ≤ B) : ∀ (m : Nat) (x : Tree),x.cnt ≤ m → ∀ (n : Nat),x.rep d n → x.wt ≤ B → PureC P G f_change_bench_tree [benchV d fs as,.int .i64 n] x.av
 | 0,x,h,_,_,_ => by have := x.cnt_pos; omega
 | m + 1,x,h,n,hL,hx => by
   have hw := x.wt_eq
   refine pBTree1 hF d fs as hd n x hL hx fun k hk n' hr => ?_
   have h1 := cntT_mem hk
   obtain ⟨i,hi⟩ := List.getElem?_of_mem hk
   have h2 := wtT_get _ _ _ hi
   exact pBTree hF d fs as hd m k (by rw [x.cnt_eq] at h; omega) n' hr (by omega)
end
end Go.Am

/- Changes: what the bench has at the end; in which order all is done. -/
namespace Go.Am
open Go Go.RowKit
mutual
theorem Lies.rep {d : Doc} : ∀ (x : Tree) (n : Nat) (q : Int),Lies d n q x → x.rep d n
 | .mk t s as ks,n,q,h => by
   simp only [Tree.rep]
   exact ⟨q,kidsAt (n + 1) ks,h.node,lies_reps n q (.mk t s as ks) h ks [] (by rfl)⟩
theorem lies_reps {d : Doc} (n : Nat) (q : Int) (x : Tree) (h : Lies d n q x) : ∀ (ks pre : List Tree),x.kids = pre ++ ks → reps d (kidsAt (n + 1 + cntT pre) ks) ks
 | [],_,_ => by simp [kidsAt,reps]
 | k :: r,pre,e => by
   simp only [kidsAt,reps]
   refine ⟨⟨_,rfl,Lies.rep k _ _ (h.kid pre r k e)⟩,?_⟩
   have := lies_reps n q x h r (pre ++ [k]) (by rw [e]; simp)
   rw [cntT_app] at this
   simpa [cntT,Nat.add_assoc] using this
end
def Rt (d : Doc) : Itm → Tree → Prop
 | .old k,x => x.rep d k
 | .new t,x => x = t
theorem reps_of {b : Bn} : ∀ {ks : List Int} {its : List Itm} {xs : List Tree},All2 (Rp b) ks its → All2 (Rt b.nodes) its xs → reps b.nodes ks xs
 | _,_,_,.nil,.nil => by simp [reps]
 | _,_,_,.cons (b := i) h1 h2,.cons (b := x) g1 g2 => by
   simp only [reps]
   refine ⟨?_,reps_of h2 g2⟩
   cases i with
   | old j => exact ⟨j,h1,g1⟩
   | new t =>
     obtain ⟨m,e,_,q,hl⟩ := h1
     have g1 : x = t := g1
     subst g1
     exact ⟨m,e,Lies.rep _ _ _ hl⟩
theorem rt_news (d : Doc) : ∀ L : List Tree,All2 (Rt d) (news L) L
 | [] => .nil
 | x :: r => by simp only [news,List.map_cons]; exact .cons rfl (rt_news d r)
theorem rt_kid {d : Doc} {l : List Op} {k : Nat} {x : Tree} (h : (x.turn1 l k).rep d k) : All2 (Rt d) (itemK l k) (x.turn l k) := by
 rw [Tree.turn_eq]
 unfold itemK
 refine all2_app (all2_app (rt_news d _) ?_) (rt_news d _)
 split
 · exact rt_news d _
 · split
   · exact .nil
   · exact .cons h .nil
theorem rt_kids {d : Doc} {l : List Op} : ∀ (off : Nat) (ks : List Tree),(∀ a x c,ks = a ++ x :: c → (x.turn1 l (off + cntT a)).rep d (off + cntT a)) → All2 (Rt d) ((kidsN off ks).flatMap (itemK l)) (turns l off ks)
 | _,[],_ => by simp [kidsN,turns]; exact .nil
 | off,x :: r,h => by
   simp only [kidsN,turns,List.flatMap_cons]
   refine all2_app (rt_kid (by simpa [cntT] using h [] x r rfl)) (rt_kids _ r fun a z c e => ?_)
   have := h (x :: a) z c (by rw [e]; rfl)
   simp only [cntT] at this
   rw [Nat.add_assoc]; exact this
theorem Ben.rep {t : Tree} {l : List Op} {b : Bn} (h : Ben t l b) : ∀ (m i : Nat) (q : Int) (y : Tree),y.cnt ≤ m → Sub 0 (-1) t i q y → (y.turn1 l i).rep b.nodes i
 | 0,_,_,y,hm,_ => by have := y.cnt_pos; omega
 | m + 1,i,q,y,hm,hy => by
   obtain ⟨ks,h1,h2⟩ := h.nd i q y hy
   unfold Tree.turn1
   simp only [Tree.rep]
   refine ⟨q,ks,h1,reps_of h2 ?_⟩
   unfold itemsO
   split
   · exact .nil
   · split
     · exact .cons rfl .nil
     · refine all2_app (all2_app (rt_news _ _) (rt_kids _ _ fun a x c e => ?_)) (rt_news _ _)
       have hc := y.cnt_eq
       rw [e,cntT_app] at hc
       simp only [cntT] at hc
       exact Ben.rep h m _ i x (by omega) (hy.trans (.kid a c x e (.self _ _ _)))
def isAt (n : Nat) (o : Op) : Bool := decide (o.target = (n : Int) ∧ (o.kind = 9 ∨ o.kind = 10))
theorem attrsO_eq (l : List Op) (n : Nat) (as : List Attr) : attrsO l n as = (l.filter (isAt n)).foldl attrB as := by
 unfold attrsO
 induction l generalizing as with
 | nil => rfl
 | cons o r ih =>
   rw [List.foldl_cons,ih,List.filter_cons]
   by_cases h : o.target = (n : Int) ∧ (o.kind = 9 ∨ o.kind = 10)
   · rw [if_pos (by simp [isAt,h]),List.foldl_cons,attrS,if_pos h]
   · rw [if_neg (by simpa [isAt] using h),attrS,if_neg h]
structure Alike (l l' : List Op) : Prop where
 k : ∀ k n,ofK l' k n = ofK l k n
 a : ∀ n,l'.filter (isAt n) = l.filter (isAt n)
section
variable {l l' : List Op} (h : Alike l l')
include h
theorem Alike.putIn (k : Int) (n : Nat) : putIn l' k n = Am.putIn l k n := by unfold Am.putIn; rw [h.k]
theorem Alike.hasK (k : Int) (n : Nat) : hasK l' k n = Am.hasK l k n := by unfold Am.hasK; rw [h.k]
theorem Alike.valS (n : Nat) (s : Bs) : valS l' n s = Am.valS l n s := by unfold Am.valS; rw [h.k]
theorem Alike.namS (n : Nat) (s : Bs) : namS l' n s = Am.namS l n s := by unfold Am.namS; rw [h.k]
theorem Alike.attrsO (n : Nat) (as : List Attr) : attrsO l' n as = Am.attrsO l n as := by rw [attrsO_eq,attrsO_eq,h.a]
end
mutual
theorem Alike.turn {l l' : List Op} (h : Alike l l') : ∀ (x : Tree) (off : Nat),x.turn l' off = x.turn l off
 | .mk t s as ks,off => by simp only [Tree.turn,h.putIn,h.hasK,h.valS,h.namS,h.attrsO,Alike.turns h ks (off + 1)]
theorem Alike.turns {l l' : List Op} (h : Alike l l') : ∀ (xs : List Tree) (off : Nat),turns l' off xs = turns l off xs
 | [],_ => by simp [Am.turns]
 | x :: r,off => by simp only [Am.turns,Alike.turn h x off,Alike.turns h r (off + x.cnt)]
end
theorem Alike.turn1 {l l' : List Op} (h : Alike l l') (x : Tree) (off : Nat) : x.turn1 l' off = x.turn1 l off := by
 unfold Tree.turn1
 simp only [h.putIn,h.hasK,h.valS,h.namS,h.attrsO,h.turns]
def pres (ph : Op → Int) (l : List Op) : Nat → List Op
 | 0 => []
 | p + 1 => pres ph l p ++ l.filter fun o => ph o == (p : Int)
def doneAt (ph : Op → Int) (l : List Op) (p i : Nat) : List Op := pres ph l p ++ (l.take i).filter fun o => ph o == (p : Int)
theorem doneAt_turn (ph : Op → Int) (l : List Op) (p : Nat) : doneAt ph l (p + 1) 0 = doneAt ph l p l.length := by simp [doneAt,pres]
theorem doneAt_skip {ph : Op → Int} {l : List Op} {p i : Nat} {o : Op} (ho : l[i]? = some o) (h : ph o ≠ (p : Int)) : doneAt ph l p (i + 1) = doneAt ph l p i := by
 unfold doneAt
 rw [take_snoc' ho,List.filter_append,List.filter_cons_of_neg (by simpa using h)]; simp
theorem doneAt_do {ph : Op → Int} {l : List Op} {p i : Nat} {o : Op} (ho : l[i]? = some o) (h : ph o = (p : Int)) : doneAt ph l p (i + 1) = doneAt ph l p i ++ [o] := by
 unfold doneAt
 rw [take_snoc' ho,List.filter_append,List.filter_cons_of_pos (by simpa using h)]; simp
theorem doneAt_pre (ph : Op → Int) (l : List Op) (p i : Nat) : ∃ r,pres ph l (p + 1) = doneAt ph l p i ++ r := by
 refine ⟨(l.drop i).filter fun o => ph o == (p : Int),?_⟩
 unfold doneAt
 rw [pres,List.append_assoc,← List.filter_append,List.take_append_drop]
theorem pres_mem {ph : Op → Int} {l : List Op} : ∀ {p : Nat} {o : Op},o ∈ pres ph l p → o ∈ l ∧ ph o < (p : Int)
 | 0,o,h => by simp [pres] at h
 | p + 1,o,h => by
   simp only [pres,List.mem_append,List.mem_filter,beq_iff_eq] at h
   rcases h with h | ⟨h,e⟩
   · obtain ⟨h1,h2⟩ := pres_mem h; exact ⟨h1,by omega⟩
   · exact ⟨h,by omega⟩
theorem pres_sorted (ph : Op → Int) (l : List Op) : ∀ p : Nat,(pres ph l p).Pairwise fun a b => ph a ≤ ph b
 | 0 => by simp [pres]
 | p + 1 => by
   rw [pres,List.pairwise_append]
   refine ⟨pres_sorted ph l p,?_,fun a ha b hb => ?_⟩
   · refine List.Pairwise.imp_of_mem (R := fun _ _ => True) (fun {a b} ha hb _ => ?_) (List.pairwise_of_forall fun _ _ => trivial)
     simp only [List.mem_filter,beq_iff_eq] at ha hb
     omega
   · have := (pres_mem ha).2
     simp only [List.mem_filter,beq_iff_eq] at hb
     omega
theorem pres_perm (ph : Op → Int) (l : List Op) (h0 : ∀ o ∈ l,0 ≤ ph o) : ∀ p : Nat,(pres ph l p).Perm (l.filter fun o => decide (ph o < (p : Int)))
 | 0 => by
   rw [show (l.filter fun o => decide (ph o < ((0 : Nat) : Int))) = [] from List.filter_eq_nil_iff.2 fun o ho => by have := h0 o ho; simp; omega]
   exact .refl _
 | p + 1 => by
   rw [pres]
   have h1 := List.filter_append_perm (fun o => decide (ph o < (p : Int))) (l.filter fun o => decide (ph o < ((p + 1 : Nat) : Int)))
   rw [List.filter_filter,List.filter_filter] at h1
   refine ((pres_perm ph l h0 p).append_right _).trans (.trans (.of_eq ?_) h1)
   congr 1
   · refine List.filter_congr fun o _ => ?_
     by_cases h : ph o < (p : Int)
     · simp [h]; omega
     · simp [h]
   · refine List.filter_congr fun o _ => ?_
     rw [Bool.eq_iff_iff]
     simp only [beq_iff_eq,Bool.and_eq_true,Bool.not_eq_true',decide_eq_false_iff_not,decide_eq_true_eq]
     omega
theorem pres_filter {ph : Op → Int} {l : List Op} (c : Op → Bool) (P : Int) (hc : ∀ o ∈ l,c o = true → ph o = P) : ∀ p : Nat,(pres ph l p).filter c = if 0 ≤ P ∧ P < (p : Int) then l.filter c else []
 | 0 => by simp [pres]; omega
 | p + 1 => by
   rw [pres,List.filter_append,pres_filter c P hc p,List.filter_filter]
   by_cases h1 : P = (p : Int)
   · rw [if_neg (by omega),if_pos (by omega),List.nil_append]
     refine List.filter_congr fun o ho => ?_
     cases hco : c o with
     | false => rfl
     | true => simp [hc o ho hco,h1]
   · have : (l.filter fun o => c o && (ph o == (p : Int))) = [] := by
       rw [List.filter_eq_nil_iff]
       intro o ho h
       simp only [Bool.and_eq_true,beq_iff_eq] at h
       exact h1 ((hc o ho h.1).symm.trans h.2)
     rw [this,List.append_nil]
     by_cases h2 : 0 ≤ P ∧ P < (p : Int)
     · rw [if_pos h2,if_pos (by omega)]
     · rw [if_neg h2,if_neg (by omega)]
end Go.Am
