import Derived.Test.YtfinkeaikbmpgaaKT4
set_option linter.unusedSimpArgs false
set_option linter.unusedVariables false
set_option linter.unnecessarySimpa false
set_option linter.defProp false
/- The size of a tree. -/
namespace Go.Am
open Go Go.RowKit
mutual
def Tree.dep : Tree → Nat
 | .mk _ _ _ ks => depT ks + 1
def depT : List Tree → Nat
 | [] => 0
 | x :: r => max x.dep (depT r)
end
mutual
def Tree.cnt : Tree → Nat
 | .mk _ _ _ ks => cntT ks + 1
def cntT : List Tree → Nat
 | [] => 0
 | x :: r => x.cnt + cntT r
end
theorem Tree.dep_eq (x : Tree) : x.dep = depT x.kids + 1 := by cases x; simp [Tree.dep,Tree.kids]
theorem Tree.cnt_eq (x : Tree) : x.cnt = cntT x.kids + 1 := by cases x; simp [Tree.cnt,Tree.kids]
theorem depT_app : ∀ xs ys : List Tree,depT (xs ++ ys) = max (depT xs) (depT ys)
 | [],ys => by simp [depT]
 | x :: r,ys => by simp only [List.cons_append,depT,depT_app r ys]; omega
theorem cntT_app : ∀ xs ys : List Tree,cntT (xs ++ ys) = cntT xs + cntT ys
 | [],ys => by simp [cntT]
 | x :: r,ys => by simp [cntT,cntT_app r ys]; omega
mutual
theorem Tree.dep_le : ∀ x : Tree,x.dep ≤ x.wt
 | .mk _ _ _ ks => by have := depT_le ks; simp only [Tree.dep,Tree.wt]; omega
theorem depT_le : ∀ xs : List Tree,depT xs ≤ wtT xs
 | [] => by simp [depT]
 | x :: r => by have := x.dep_le; have := depT_le r; simp only [depT,wtT]; omega
end
mutual
theorem Tree.cnt_le : ∀ x : Tree,x.cnt ≤ x.wt
 | .mk _ _ _ ks => by have := cntT_le ks; simp only [Tree.cnt,Tree.wt]; omega
theorem cntT_le : ∀ xs : List Tree,cntT xs ≤ wtT xs
 | [] => by simp [cntT]
 | x :: r => by have := x.cnt_le; have := cntT_le r; simp only [cntT,wtT]; omega
end
theorem wtT_take (xs : List Tree) (i : Nat) : wtT (xs.take i) ≤ wtT xs := by
 have := wtT_app (xs.take i) (xs.drop i)
 rw [List.take_append_drop] at this; omega
theorem ret2_r {env : Env} {H : Hp} (t u : Nat) (R : AV → Hp → Prop) : RetP [(none,t),(none,u)] R .ret env H = R (.tup [env t,env u]) H := by simp [RetP,resVs,resV,oneV]
def cSize (fS : Nat) : AC :=
(.seq
 (.reg [
   ⟨some 1,none,.box (.t 0)⟩,
   ⟨some 2,none,.mov (.c (.int .i64 0))⟩,
   ⟨some 3,none,.mov (.c (.int .i64 0))⟩])
(.seq
 (.reg [
   ⟨some 4,none,.mov (.c (.int .i64 0))⟩,
   ⟨some 5,none,.mov (.c (.int .i64 1))⟩])
(.seq
 (.seq
   (.reg [
     ⟨some 10,none,.fld (.t 1) 3⟩,
     ⟨some 11,none,.load none (.t 10)⟩,
     ⟨some 12,none,.len (.t 11)⟩,
     ⟨some 13,none,.mov (.c (.int .i64 0))⟩])
 (.block 0
   (.loop
     (.seq
       (.reg [
         ⟨some 14,none,.bin .lss (.t 13) (.t 12)⟩])
     (.seq
       (.cond (.t 14)
         .skip
         (.exit 0))
     (.seq
       (.block 1
         (.seq
           (.reg [
             ⟨some 15,none,.ixa (.t 11) (.t 13) 4⟩,
             ⟨some 16,none,.load (some 4) (.t 15)⟩,
             ⟨some 7,none,.new [(.bool false),(.str []),.nil0,.nil0]⟩,
             ⟨none,none,.store 4 (.t 7) (.t 16)⟩])
         (.seq
           (.reg [
             ⟨some 18,none,.load (some 4) (.t 7)⟩,
             ⟨some 19,none,.call fS [(.t 18)]⟩,
             ⟨some 17,none,.mov (.t 19)⟩,
             ⟨some 20,none,.ext (.t 17) 0⟩,
             ⟨some 21,none,.ext (.t 17) 1⟩,
             ⟨some 8,none,.mov (.t 20)⟩,
             ⟨some 9,none,.mov (.t 21)⟩])
         (.reg [
           ⟨some 22,none,.mov (.t 4)⟩,
           ⟨some 23,none,.mov (.t 8)⟩,
           ⟨some 24,none,.max (.t 22) (.t 23)⟩,
           ⟨some 25,none,.mov (.t 5)⟩,
           ⟨some 26,none,.mov (.t 9)⟩,
           ⟨some 27,none,.bin .add (.t 25) (.t 26)⟩,
           ⟨some 4,none,.mov (.t 24)⟩,
           ⟨some 5,none,.mov (.t 27)⟩]))))
     (.reg [
       ⟨some 28,none,.bin .add (.t 13) (.c (.int .i64 1))⟩,
       ⟨some 13,none,.mov (.t 28)⟩])))))))
(.seq
 (.reg [
   ⟨some 29,none,.mov (.t 4)⟩,
   ⟨some 30,none,.bin .add (.t 29) (.c (.int .i64 1))⟩,
   ⟨some 31,none,.mov (.t 5)⟩,
   ⟨some 2,none,.mov (.t 30)⟩,
   ⟨some 3,none,.mov (.t 31)⟩])
.ret))))
def eSize (ks : List Tree) (i : Nat) : Env := put (put (put (put (put Env.any 4 (.int .i64 (depT (ks.take i)))) 5 (.int .i64 ((cntT (ks.take i) + 1 : Nat) : Int))) 11 (.list (ivT ks))) 12 (.int .i64 ks.length)) 13 (.int .i64 i)
theorem pSize {P : Program} {G : Nat → Option (List IV)} {f g : Nat} (hF : compF P G f = some (32,[(none,2),(none,3)],(cSize g).bare)) (x : Tree) (hx : x.wt ≤ B)
   (hS : ∀ k ∈ x.kids,PureC P G g [k.av] (.tup [.int .i64 k.dep,.int .i64 k.cnt])) :
   PureC P G f [x.av] (.tup [.int .i64 x.dep,.int .i64 x.cnt]) := by
 refine pure_of_go hF (by simp) (by simp [lbss,AV.lbs,Tree.av]) (by simp [AV.lbs,lbss]) ?_
 have hk : wtT x.kids ≤ B := by have := x.wt_eq; omega
 have hl : x.kids.length ≤ B := Nat.le_trans (wtT_len _) hk
 unfold cSize
 simp only [↓evs,evp,boxK,↓a1_still,stillV,ev,argE,List.getD_cons_zero,List.getD_cons_succ,Nat.reduceEqDiff,if_false,if_true,Nat.reduceLT,Nat.reduceLeDiff,Nat.reduceAdd,Nat.reduceMul,true_and,and_true,List.length_map,binV,AV.cells,List.length_cons,List.length_nil,upd_at,Lb.loc.injEq,↓af_still,↓af_load,↓af_store,↓af_app,↓af_new,↓af_box,loadV,storeV,ldV,List.getElem?_cons_zero,List.getElem?_cons_succ,Option.bind_some,Option.map_some,List.map_cons,List.map_nil,Int.natCast_nonneg,Int.toNat_natCast,AV.stb,AV.one,List.all_cons,List.all_nil,Bool.and_self,Bool.and_true,Bool.true_and,List.take_succ_cons,List.take_zero,List.drop_succ_cons,List.drop_zero,List.cons_append,List.nil_append,List.append_nil,List.set_cons_zero,IV.av1,Lb.app,Lb.fresh,fam_loc,fam_par,fam_gen,fam_nest,reduceCtorEq,Bool.false_eq_true,List.take,List.drop,List.mem_cons,List.not_mem_nil,or_false,ptrL,appL,forall_eq,false_implies,implies_true,ev,Hp.none,Nat.le_refl,List.set_cons_succ,fillA,chunks,ivs,AV.iv,mkE,List.replicate_one,List.flatten_cons,List.flatten_nil,Nat.zero_mul,Nat.zero_add,Nat.mul_one,Tree.av,ivT_len]
 refine ⟨le_max (by decide),?_⟩
 refine loop_intro (σ := { i : Nat // i ≤ x.kids.length }) (fun q => eSize x.kids q.1) (fun _ => Hp.none) (fun q => x.kids.length - q.1) ⟨0,by simp⟩ id ?_ ?_
 · refine .drop ?_ ?_ (nf_upd nf_none)
   · exact we_put rfl (we_put rfl (we_put rfl (we_put (by simp [put_at,ren,cntT]) (we_put (by simp [put_at,ren,depT]) (we_any _ _)))))
   · exact wm_put (by simp [AV.lbs]) (wm_put (by simp [AV.lbs]) (wm_put (by simp [AV.lbs]) (wm_put (by simp [AV.lbs]) (wm_put (by simp [AV.lbs]) (wm_any _)))))
 · rintro ⟨i,hi⟩
   simp only [↓evs,evp,boxK,↓a1_still,stillV,ev,argE,List.getD_cons_zero,List.getD_cons_succ,Nat.reduceEqDiff,if_false,if_true,Nat.reduceLT,Nat.reduceLeDiff,Nat.reduceAdd,Nat.reduceMul,true_and,and_true,List.length_map,binV,AV.cells,List.length_cons,List.length_nil,upd_at,Lb.loc.injEq,↓af_still,↓af_load,↓af_store,↓af_app,↓af_new,↓af_box,loadV,storeV,ldV,List.getElem?_cons_zero,List.getElem?_cons_succ,Option.bind_some,Option.map_some,List.map_cons,List.map_nil,Int.natCast_nonneg,Int.toNat_natCast,AV.stb,AV.one,List.all_cons,List.all_nil,Bool.and_self,Bool.and_true,Bool.true_and,List.take_succ_cons,List.take_zero,List.drop_succ_cons,List.drop_zero,List.cons_append,List.nil_append,List.append_nil,List.set_cons_zero,IV.av1,Lb.app,Lb.fresh,fam_loc,fam_par,fam_gen,fam_nest,reduceCtorEq,Bool.false_eq_true,List.take,List.drop,List.mem_cons,List.not_mem_nil,or_false,ptrL,appL,forall_eq,false_implies,implies_true,ev,Hp.none,Nat.le_refl,List.set_cons_succ,fillA,chunks,ivs,AV.iv,mkE,List.replicate_one,List.flatten_cons,List.flatten_nil,Nat.zero_mul,Nat.zero_add,Nat.mul_one,eSize,ivT_len]
   by_cases hlt : i < x.kids.length
   · rw [show decide ((i : Int) < (x.kids.length : Int)) = true by simpa using hlt]
     obtain ⟨k,hki⟩ : ∃ k,x.kids[i]? = some k := ⟨_,List.getElem?_eq_getElem hlt⟩
     have hw : IntKind.i64.wrap ((i : Int) + 1) = ((i + 1 : Nat) : Int) := wrap64 (by omega) (by unfold B at hl; omega)
     simp only [↓evs,evp,boxK,↓a1_still,stillV,ev,argE,List.getD_cons_zero,List.getD_cons_succ,Nat.reduceEqDiff,if_false,if_true,Nat.reduceLT,Nat.reduceLeDiff,Nat.reduceAdd,Nat.reduceMul,true_and,and_true,List.length_map,binV,AV.cells,List.length_cons,List.length_nil,upd_at,Lb.loc.injEq,↓af_still,↓af_load,↓af_store,↓af_app,↓af_new,↓af_box,loadV,storeV,ldV,List.getElem?_cons_zero,List.getElem?_cons_succ,Option.bind_some,Option.map_some,List.map_cons,List.map_nil,Int.natCast_nonneg,Int.toNat_natCast,AV.stb,AV.one,List.all_cons,List.all_nil,Bool.and_self,Bool.and_true,Bool.true_and,List.take_succ_cons,List.take_zero,List.drop_succ_cons,List.drop_zero,List.cons_append,List.nil_append,List.append_nil,List.set_cons_zero,IV.av1,Lb.app,Lb.fresh,fam_loc,fam_par,fam_gen,fam_nest,reduceCtorEq,Bool.false_eq_true,List.take,List.drop,List.mem_cons,List.not_mem_nil,or_false,ptrL,appL,forall_eq,false_implies,implies_true,ev,Hp.none,Nat.le_refl,List.set_cons_succ,fillA,chunks,ivs,AV.iv,mkE,List.replicate_one,List.flatten_cons,List.flatten_nil,Nat.zero_mul,Nat.zero_add,Nat.mul_one,ivT_get,hki,elszT,Tree.cells_eq,Tree.cs]
     refine ⟨le_max (by decide),callT_pure (hS k (List.mem_of_getElem? hki)) ?_⟩
     have h1 : x.kids.take (i + 1) = x.kids.take i ++ [k] := by rw [List.take_add_one,hki]; rfl
     have h2 := wtT_take x.kids i
     have h3 := cntT_le (x.kids.take i)
     have h4 := depT_le (x.kids.take i)
     have h5 := wtT_get _ _ _ hki
     have h6 := k.cnt_le
     have hc : IntKind.i64.wrap (((cntT (x.kids.take i) + 1 : Nat) : Int) + (k.cnt : Int)) = ((cntT (x.kids.take (i + 1)) + 1 : Nat) : Int) := by
       rw [wrap64 (by omega) (by unfold B at hk; omega),h1,cntT_app]; simp [cntT]; omega
     have hd : (if (k.dep : Int) > (depT (x.kids.take i) : Int) then (k.dep : Int) else (depT (x.kids.take i) : Int)) = (depT (x.kids.take (i + 1)) : Int) := by
       rw [h1,depT_app]; simp only [depT]; split <;> omega
     simp only [↓evs,evp,boxK,↓a1_still,stillV,ev,argE,List.getD_cons_zero,List.getD_cons_succ,Nat.reduceEqDiff,if_false,if_true,Nat.reduceLT,Nat.reduceLeDiff,Nat.reduceAdd,Nat.reduceMul,true_and,and_true,List.length_map,binV,AV.cells,List.length_cons,List.length_nil,upd_at,Lb.loc.injEq,↓af_still,↓af_load,↓af_store,↓af_app,↓af_new,↓af_box,loadV,storeV,ldV,List.getElem?_cons_zero,List.getElem?_cons_succ,Option.bind_some,Option.map_some,List.map_cons,List.map_nil,Int.natCast_nonneg,Int.toNat_natCast,AV.stb,AV.one,List.all_cons,List.all_nil,Bool.and_self,Bool.and_true,Bool.true_and,List.take_succ_cons,List.take_zero,List.drop_succ_cons,List.drop_zero,List.cons_append,List.nil_append,List.append_nil,List.set_cons_zero,IV.av1,Lb.app,Lb.fresh,fam_loc,fam_par,fam_gen,fam_nest,reduceCtorEq,Bool.false_eq_true,List.take,List.drop,List.mem_cons,List.not_mem_nil,or_false,ptrL,appL,forall_eq,false_implies,implies_true,ev,Hp.none,Nat.le_refl,List.set_cons_succ,fillA,chunks,ivs,AV.iv,mkE,List.replicate_one,List.flatten_cons,List.flatten_nil,Nat.zero_mul,Nat.zero_add,Nat.mul_one,hw,hc,hd]
     refine ⟨⟨i + 1,hlt⟩,by simp only; omega,id,.drop ?_ ?_ (nf_upd (nf_upd nf_none))⟩
     · exact we_put rfl (we_put rfl (we_put rfl (we_put rfl (we_put rfl (we_any _ _)))))
     · exact wm_put (by simp [AV.lbs]) (wm_put (by simp [AV.lbs]) (wm_put (by simp [AV.lbs]) (wm_put (by simp [AV.lbs]) (wm_put (by simp [AV.lbs]) (wm_any _)))))
   · rw [show decide ((i : Int) < (x.kids.length : Int)) = false by simpa using hlt]
     have h1 : x.kids.take i = x.kids := List.take_of_length_le (by omega)
     have h4 := depT_le x.kids
     have hd : IntKind.i64.wrap ((depT x.kids : Int) + 1) = (x.dep : Int) := by rw [wrap64 (by omega) (by unfold B at hk; omega),x.dep_eq]; omega
     simp only [↓evs,evp,boxK,↓a1_still,stillV,ev,argE,List.getD_cons_zero,List.getD_cons_succ,Nat.reduceEqDiff,if_false,if_true,Nat.reduceLT,Nat.reduceLeDiff,Nat.reduceAdd,Nat.reduceMul,true_and,and_true,List.length_map,binV,AV.cells,List.length_cons,List.length_nil,upd_at,Lb.loc.injEq,↓af_still,↓af_load,↓af_store,↓af_app,↓af_new,↓af_box,loadV,storeV,ldV,List.getElem?_cons_zero,List.getElem?_cons_succ,Option.bind_some,Option.map_some,List.map_cons,List.map_nil,Int.natCast_nonneg,Int.toNat_natCast,AV.stb,AV.one,List.all_cons,List.all_nil,Bool.and_self,Bool.and_true,Bool.true_and,List.take_succ_cons,List.take_zero,List.drop_succ_cons,List.drop_zero,List.cons_append,List.nil_append,List.append_nil,List.set_cons_zero,IV.av1,Lb.app,Lb.fresh,fam_loc,fam_par,fam_gen,fam_nest,reduceCtorEq,Bool.false_eq_true,List.take,List.drop,List.mem_cons,List.not_mem_nil,or_false,ptrL,appL,forall_eq,false_implies,implies_true,ev,Hp.none,Nat.le_refl,List.set_cons_succ,fillA,chunks,ivs,AV.iv,mkE,List.replicate_one,List.flatten_cons,List.flatten_nil,Nat.zero_mul,Nat.zero_add,Nat.mul_one,↓ret2_r,h1,hd,x.cnt_eq]
end Go.Am
