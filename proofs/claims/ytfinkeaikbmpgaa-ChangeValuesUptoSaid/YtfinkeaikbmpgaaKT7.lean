import Derived.Test.YtfinkeaikbmpgaaT6
set_option linter.unusedSimpArgs false
set_option linter.unusedVariables false
set_option linter.unnecessarySimpa false
set_option linter.defProp false
/- Trees that are good. -/
namespace Go.Am
open Go Go.RowKit
mutual
def Tree.fine : Tree → Bool
 | .mk t s as ks => if t then plain s && (s != [] && (as.length == 0 && ks.length == 0)) else named s && (goodAttrs as && fines none ks)
def fines : Option Bool → List Tree → Bool
 | _,[] => true
 | p,x :: r => x.fine && (!(p == some true && x.text) && fines (some x.text) r)
end
def cFine (fP fN fGA fFs : Nat) : AC :=
(.seq
 (.reg [
   ⟨some 1,none,.box (.t 0)⟩,
   ⟨some 2,none,.mov (.c (.bool false))⟩])
(.seq
 (.seq
   (.reg [
     ⟨some 3,none,.fld (.t 1) 0⟩,
     ⟨some 4,none,.load none (.t 3)⟩])
 (.cond (.t 4)
   (.seq
     (.reg [
       ⟨some 5,none,.fld (.t 1) 1⟩,
       ⟨some 6,none,.load none (.t 5)⟩,
       ⟨some 7,none,.call fP [(.t 6)]⟩,
       ⟨some 8,none,.mov (.t 7)⟩,
       ⟨some 9,(some (8,true)),(.fld (.t 1) 1)⟩,
       ⟨some 10,(some (8,true)),(.load none (.t 9))⟩,
       ⟨some 11,(some (8,true)),(.bin .neq (.t 10) (.c (.str [])))⟩,
       ⟨some 12,none,.pick (.t 8) (.t 11) (.c (.bool false))⟩,
       ⟨some 13,none,.mov (.t 12)⟩,
       ⟨some 14,(some (13,true)),(.fld (.t 1) 2)⟩,
       ⟨some 15,(some (13,true)),(.load none (.t 14))⟩,
       ⟨some 16,(some (13,true)),(.len (.t 15))⟩,
       ⟨some 17,(some (13,true)),(.bin .eql (.t 16) (.c (.int .i64 0)))⟩,
       ⟨some 18,none,.pick (.t 13) (.t 17) (.c (.bool false))⟩,
       ⟨some 19,none,.mov (.t 18)⟩,
       ⟨some 20,(some (19,true)),(.fld (.t 1) 3)⟩,
       ⟨some 21,(some (19,true)),(.load none (.t 20))⟩,
       ⟨some 22,(some (19,true)),(.len (.t 21))⟩,
       ⟨some 23,(some (19,true)),(.bin .eql (.t 22) (.c (.int .i64 0)))⟩,
       ⟨some 24,none,.pick (.t 19) (.t 23) (.c (.bool false))⟩,
       ⟨some 2,none,.mov (.t 24)⟩])
   .ret)
   .skip))
(.seq
 (.reg [
   ⟨some 25,none,.fld (.t 1) 1⟩,
   ⟨some 26,none,.load none (.t 25)⟩,
   ⟨some 27,none,.call fN [(.t 26)]⟩,
   ⟨some 28,none,.mov (.t 27)⟩,
   ⟨some 29,(some (28,true)),(.fld (.t 1) 2)⟩,
   ⟨some 30,(some (28,true)),(.load none (.t 29))⟩,
   ⟨some 31,(some (28,true)),(.call fGA [(.t 30)])⟩,
   ⟨some 32,none,.pick (.t 28) (.t 31) (.c (.bool false))⟩,
   ⟨some 33,none,.mov (.t 32)⟩,
   ⟨some 34,(some (33,true)),(.fld (.t 1) 3)⟩,
   ⟨some 35,(some (33,true)),(.load none (.t 34))⟩,
   ⟨some 36,(some (33,true)),(.call fFs [(.t 35)])⟩,
   ⟨some 37,none,.pick (.t 33) (.t 36) (.c (.bool false))⟩,
   ⟨some 2,none,.mov (.t 37)⟩])
.ret)))
def cFines (fF : Nat) : AC :=
(.seq
 (.reg [
   ⟨some 2,none,.mov (.c (.bool false))⟩])
(.seq
 (.seq
   (.reg [
     ⟨some 5,none,.mov (.t 0)⟩,
     ⟨some 6,none,.len (.t 5)⟩,
     ⟨some 7,none,.mov (.c (.int .i64 0))⟩])
 (.block 0
   (.loop
     (.seq
       (.reg [
         ⟨some 8,none,.bin .lss (.t 7) (.t 6)⟩])
     (.seq
       (.cond (.t 8)
         .skip
         (.exit 0))
     (.seq
       (.block 1
         (.seq
           (.reg [
             ⟨some 9,none,.mov (.t 7)⟩,
             ⟨some 10,none,.ixa (.t 5) (.t 7) 4⟩,
             ⟨some 11,none,.load (some 4) (.t 10)⟩,
             ⟨some 4,none,.new [(.bool false),(.str []),.nil0,.nil0]⟩,
             ⟨some 3,none,.mov (.t 9)⟩,
             ⟨none,none,.store 4 (.t 4) (.t 11)⟩])
         (.seq
           (.reg [
             ⟨some 12,none,.load (some 4) (.t 4)⟩,
             ⟨some 13,none,.call fF [(.t 12)]⟩,
             ⟨some 14,none,.not (.t 13)⟩,
             ⟨some 15,none,.mov (.t 14)⟩,
             ⟨some 16,(some (15,false)),(.mov (.t 3))⟩,
             ⟨some 17,(some (15,false)),(.bin .gtr (.t 16) (.c (.int .i64 0)))⟩,
             ⟨some 18,(some (15,false)),(.mov (.t 17))⟩,
             ⟨some 19,(some (18,true)),(.fld (.t 4) 0)⟩,
             ⟨some 20,(some (18,true)),(.load none (.t 19))⟩,
             ⟨some 21,(some (15,false)),(.pick (.t 18) (.t 20) (.c (.bool false)))⟩,
             ⟨some 22,(some (15,false)),(.mov (.t 21))⟩,
             ⟨some 23,(some (22,true)),(.mov (.t 0))⟩,
             ⟨some 24,(some (22,true)),(.mov (.t 3))⟩,
             ⟨some 25,(some (22,true)),(.bin .sub (.t 24) (.c (.int .i64 1)))⟩,
             ⟨some 26,(some (22,true)),(.ixa (.t 23) (.t 25) 4)⟩,
             ⟨some 27,(some (22,true)),(.fld (.t 26) 0)⟩,
             ⟨some 28,(some (22,true)),(.load none (.t 27))⟩,
             ⟨some 29,(some (15,false)),(.pick (.t 22) (.t 28) (.c (.bool false)))⟩,
             ⟨some 30,none,.pick (.t 15) (.c (.bool true)) (.t 29)⟩])
         (.cond (.t 30)
           (.seq
             (.reg [
               ⟨some 2,none,.mov (.c (.bool false))⟩])
           .ret)
           .skip))))
     (.reg [
       ⟨some 31,none,.bin .add (.t 7) (.c (.int .i64 1))⟩,
       ⟨some 7,none,.mov (.t 31)⟩])))))))
(.seq
 (.reg [
   ⟨some 2,none,.mov (.c (.bool true))⟩])
.ret)))
def cGood (fS fF : Nat) : AC :=
(.seq
 (.reg [
   ⟨some 1,none,.box (.t 0)⟩,
   ⟨some 2,none,.mov (.c (.bool false))⟩])
(.seq
 (.reg [
   ⟨some 6,none,.load (some 4) (.t 1)⟩,
   ⟨some 7,none,.call fS [(.t 6)]⟩,
   ⟨some 5,none,.mov (.t 7)⟩,
   ⟨some 8,none,.ext (.t 5) 0⟩,
   ⟨some 9,none,.ext (.t 5) 1⟩,
   ⟨some 3,none,.mov (.t 8)⟩,
   ⟨some 4,none,.mov (.t 9)⟩])
(.seq
 (.reg [
   ⟨some 10,none,.fld (.t 1) 0⟩,
   ⟨some 11,none,.load none (.t 10)⟩,
   ⟨some 12,none,.not (.t 11)⟩,
   ⟨some 13,none,.mov (.t 12)⟩,
   ⟨some 14,(some (13,true)),(.mov (.t 3))⟩,
   ⟨some 15,(some (13,true)),(.bin .leq (.t 14) (.c (.int .i64 8)))⟩,
   ⟨some 16,none,.pick (.t 13) (.t 15) (.c (.bool false))⟩,
   ⟨some 17,none,.mov (.t 16)⟩,
   ⟨some 18,(some (17,true)),(.mov (.t 4))⟩,
   ⟨some 19,(some (17,true)),(.bin .leq (.t 18) (.c (.int .i64 80)))⟩,
   ⟨some 20,none,.pick (.t 17) (.t 19) (.c (.bool false))⟩,
   ⟨some 21,none,.mov (.t 20)⟩,
   ⟨some 22,(some (21,true)),(.load (some 4) (.t 1))⟩,
   ⟨some 23,(some (21,true)),(.call fF [(.t 22)])⟩,
   ⟨some 24,none,.pick (.t 21) (.t 23) (.c (.bool false))⟩,
   ⟨some 2,none,.mov (.t 24)⟩])
.ret)))
theorem Tree.fine_t (x : Tree) (h : x.text = true) : x.fine = (plain x.s && (x.s != [] && (x.attrs.length == 0 && x.kids.length == 0))) := by
 cases x; simp only [Tree.text] at h; subst h; simp [Tree.fine,Tree.s,Tree.attrs,Tree.kids]
theorem Tree.fine_e (x : Tree) (h : x.text = false) : x.fine = (named x.s && (goodAttrs x.attrs && fines none x.kids)) := by
 cases x; simp only [Tree.text] at h; subst h; simp [Tree.fine,Tree.s,Tree.attrs,Tree.kids]
theorem pFine {P : Program} {G : Nat → Option (List IV)} {f fP fN fGA fFs : Nat} (hF : compF P G f = some (38,[(none,2)],(cFine fP fN fGA fFs).bare)) (x : Tree)
   (hP : PureC P G fP [.str x.s] (.bool (plain x.s))) (hN : PureC P G fN [.str x.s] (.bool (named x.s))) (hA : PureC P G fGA [.list (ivA x.attrs)] (.bool (goodAttrs x.attrs)))
   (hFs : PureC P G fFs [.list (ivT x.kids)] (.bool (fines none x.kids))) : PureC P G f [x.av] (.bool x.fine) := by
 refine pure_of_go hF (by simp) (by simp [lbss,AV.lbs,Tree.av]) (by simp [AV.lbs]) ?_
 unfold cFine
 simp only [↓evs,evp,boxK,↓a1_still,stillV,ev,argE,List.getD_cons_zero,List.getD_cons_succ,Nat.reduceEqDiff,if_false,if_true,Nat.reduceLT,Nat.reduceLeDiff,Nat.reduceAdd,Nat.reduceMul,true_and,and_true,List.length_map,binV,AV.cells,List.length_cons,List.length_nil,upd_at,Lb.loc.injEq,↓af_still,↓af_load,↓af_store,↓af_app,↓af_new,↓af_box,loadV,storeV,ldV,List.getElem?_cons_zero,List.getElem?_cons_succ,Option.bind_some,Option.map_some,List.map_cons,List.map_nil,Int.natCast_nonneg,Int.toNat_natCast,AV.stb,AV.one,List.all_cons,List.all_nil,Bool.and_self,Bool.and_true,Bool.true_and,List.take_succ_cons,List.take_zero,List.drop_succ_cons,List.drop_zero,List.cons_append,List.nil_append,List.append_nil,List.set_cons_zero,IV.av1,Lb.app,Lb.fresh,fam_loc,fam_par,fam_gen,fam_nest,reduceCtorEq,Bool.false_eq_true,List.take,List.drop,List.mem_cons,List.not_mem_nil,or_false,ptrL,appL,forall_eq,false_implies,implies_true,ev,Hp.none,Nat.le_refl,List.set_cons_succ,fillA,chunks,ivs,AV.iv,mkE,List.replicate_one,List.flatten_cons,List.flatten_nil,Nat.zero_mul,Nat.zero_add,Nat.mul_one,Tree.av]
 refine ⟨le_max (by decide),?_⟩
 cases h0 : x.text with
 | true =>
   rw [x.fine_t h0]
   simp only [↓evs,evp,boxK,↓a1_still,stillV,ev,argE,List.getD_cons_zero,List.getD_cons_succ,Nat.reduceEqDiff,if_false,if_true,Nat.reduceLT,Nat.reduceLeDiff,Nat.reduceAdd,Nat.reduceMul,true_and,and_true,List.length_map,binV,AV.cells,List.length_cons,List.length_nil,upd_at,Lb.loc.injEq,↓af_still,↓af_load,↓af_store,↓af_app,↓af_new,↓af_box,loadV,storeV,ldV,List.getElem?_cons_zero,List.getElem?_cons_succ,Option.bind_some,Option.map_some,List.map_cons,List.map_nil,Int.natCast_nonneg,Int.toNat_natCast,AV.stb,AV.one,List.all_cons,List.all_nil,Bool.and_self,Bool.and_true,Bool.true_and,List.take_succ_cons,List.take_zero,List.drop_succ_cons,List.drop_zero,List.cons_append,List.nil_append,List.append_nil,List.set_cons_zero,IV.av1,Lb.app,Lb.fresh,fam_loc,fam_par,fam_gen,fam_nest,reduceCtorEq,Bool.false_eq_true,List.take,List.drop,List.mem_cons,List.not_mem_nil,or_false,ptrL,appL,forall_eq,false_implies,implies_true,ev,Hp.none,Nat.le_refl,List.set_cons_succ,fillA,chunks,ivs,AV.iv,mkE,List.replicate_one,List.flatten_cons,List.flatten_nil,Nat.zero_mul,Nat.zero_add,Nat.mul_one]
   refine callT_pure hP ?_
   cases h1 : plain x.s with
   | false => simp only [↓evs,evp,boxK,↓a1_still,stillV,ev,argE,List.getD_cons_zero,List.getD_cons_succ,Nat.reduceEqDiff,if_false,if_true,Nat.reduceLT,Nat.reduceLeDiff,Nat.reduceAdd,Nat.reduceMul,true_and,and_true,List.length_map,binV,AV.cells,List.length_cons,List.length_nil,upd_at,Lb.loc.injEq,↓af_still,↓af_load,↓af_store,↓af_app,↓af_new,↓af_box,loadV,storeV,ldV,List.getElem?_cons_zero,List.getElem?_cons_succ,Option.bind_some,Option.map_some,List.map_cons,List.map_nil,Int.natCast_nonneg,Int.toNat_natCast,AV.stb,AV.one,List.all_cons,List.all_nil,Bool.and_self,Bool.and_true,Bool.true_and,List.take_succ_cons,List.take_zero,List.drop_succ_cons,List.drop_zero,List.cons_append,List.nil_append,List.append_nil,List.set_cons_zero,IV.av1,Lb.app,Lb.fresh,fam_loc,fam_par,fam_gen,fam_nest,reduceCtorEq,Bool.false_eq_true,List.take,List.drop,List.mem_cons,List.not_mem_nil,or_false,ptrL,appL,forall_eq,false_implies,implies_true,ev,Hp.none,Nat.le_refl,List.set_cons_succ,fillA,chunks,ivs,AV.iv,mkE,List.replicate_one,List.flatten_cons,List.flatten_nil,Nat.zero_mul,Nat.zero_add,Nat.mul_one,Bool.false_and]
   | true =>
     simp only [↓evs,evp,boxK,↓a1_still,stillV,ev,argE,List.getD_cons_zero,List.getD_cons_succ,Nat.reduceEqDiff,if_false,if_true,Nat.reduceLT,Nat.reduceLeDiff,Nat.reduceAdd,Nat.reduceMul,true_and,and_true,List.length_map,binV,AV.cells,List.length_cons,List.length_nil,upd_at,Lb.loc.injEq,↓af_still,↓af_load,↓af_store,↓af_app,↓af_new,↓af_box,loadV,storeV,ldV,List.getElem?_cons_zero,List.getElem?_cons_succ,Option.bind_some,Option.map_some,List.map_cons,List.map_nil,Int.natCast_nonneg,Int.toNat_natCast,AV.stb,AV.one,List.all_cons,List.all_nil,Bool.and_self,Bool.and_true,Bool.true_and,List.take_succ_cons,List.take_zero,List.drop_succ_cons,List.drop_zero,List.cons_append,List.nil_append,List.append_nil,List.set_cons_zero,IV.av1,Lb.app,Lb.fresh,fam_loc,fam_par,fam_gen,fam_nest,reduceCtorEq,Bool.false_eq_true,List.take,List.drop,List.mem_cons,List.not_mem_nil,or_false,ptrL,appL,forall_eq,false_implies,implies_true,ev,Hp.none,Nat.le_refl,List.set_cons_succ,fillA,chunks,ivs,AV.iv,mkE,List.replicate_one,List.flatten_cons,List.flatten_nil,Nat.zero_mul,Nat.zero_add,Nat.mul_one]
     cases h2 : (!(x.s == [])) with
     | false =>
       simp only [↓evs,evp,boxK,↓a1_still,stillV,ev,argE,List.getD_cons_zero,List.getD_cons_succ,Nat.reduceEqDiff,if_false,if_true,Nat.reduceLT,Nat.reduceLeDiff,Nat.reduceAdd,Nat.reduceMul,true_and,and_true,List.length_map,binV,AV.cells,List.length_cons,List.length_nil,upd_at,Lb.loc.injEq,↓af_still,↓af_load,↓af_store,↓af_app,↓af_new,↓af_box,loadV,storeV,ldV,List.getElem?_cons_zero,List.getElem?_cons_succ,Option.bind_some,Option.map_some,List.map_cons,List.map_nil,Int.natCast_nonneg,Int.toNat_natCast,AV.stb,AV.one,List.all_cons,List.all_nil,Bool.and_self,Bool.and_true,Bool.true_and,List.take_succ_cons,List.take_zero,List.drop_succ_cons,List.drop_zero,List.cons_append,List.nil_append,List.append_nil,List.set_cons_zero,IV.av1,Lb.app,Lb.fresh,fam_loc,fam_par,fam_gen,fam_nest,reduceCtorEq,Bool.false_eq_true,List.take,List.drop,List.mem_cons,List.not_mem_nil,or_false,ptrL,appL,forall_eq,false_implies,implies_true,ev,Hp.none,Nat.le_refl,List.set_cons_succ,fillA,chunks,ivs,AV.iv,mkE,List.replicate_one,List.flatten_cons,List.flatten_nil,Nat.zero_mul,Nat.zero_add,Nat.mul_one]
       rw [show (x.s != []) = false from h2]; rfl
     | true =>
       simp only [↓evs,evp,boxK,↓a1_still,stillV,ev,argE,List.getD_cons_zero,List.getD_cons_succ,Nat.reduceEqDiff,if_false,if_true,Nat.reduceLT,Nat.reduceLeDiff,Nat.reduceAdd,Nat.reduceMul,true_and,and_true,List.length_map,binV,AV.cells,List.length_cons,List.length_nil,upd_at,Lb.loc.injEq,↓af_still,↓af_load,↓af_store,↓af_app,↓af_new,↓af_box,loadV,storeV,ldV,List.getElem?_cons_zero,List.getElem?_cons_succ,Option.bind_some,Option.map_some,List.map_cons,List.map_nil,Int.natCast_nonneg,Int.toNat_natCast,AV.stb,AV.one,List.all_cons,List.all_nil,Bool.and_self,Bool.and_true,Bool.true_and,List.take_succ_cons,List.take_zero,List.drop_succ_cons,List.drop_zero,List.cons_append,List.nil_append,List.append_nil,List.set_cons_zero,IV.av1,Lb.app,Lb.fresh,fam_loc,fam_par,fam_gen,fam_nest,reduceCtorEq,Bool.false_eq_true,List.take,List.drop,List.mem_cons,List.not_mem_nil,or_false,ptrL,appL,forall_eq,false_implies,implies_true,ev,Hp.none,Nat.le_refl,List.set_cons_succ,fillA,chunks,ivs,AV.iv,mkE,List.replicate_one,List.flatten_cons,List.flatten_nil,Nat.zero_mul,Nat.zero_add,Nat.mul_one,ivA_len,ivT_len]
       rw [show (x.s != []) = true from h2]
       have e1 : ((x.attrs.length : Int) == 0) = (x.attrs.length == 0) := by
         rw [Bool.eq_iff_iff]; simp
       have e2 : ((x.kids.length : Int) == 0) = (x.kids.length == 0) := by
         rw [Bool.eq_iff_iff]; simp
       rw [e1]
       cases h3 : (x.attrs.length == 0) with
       | false => simp only [↓evs,evp,boxK,↓a1_still,stillV,ev,argE,List.getD_cons_zero,List.getD_cons_succ,Nat.reduceEqDiff,if_false,if_true,Nat.reduceLT,Nat.reduceLeDiff,Nat.reduceAdd,Nat.reduceMul,true_and,and_true,List.length_map,binV,AV.cells,List.length_cons,List.length_nil,upd_at,Lb.loc.injEq,↓af_still,↓af_load,↓af_store,↓af_app,↓af_new,↓af_box,loadV,storeV,ldV,List.getElem?_cons_zero,List.getElem?_cons_succ,Option.bind_some,Option.map_some,List.map_cons,List.map_nil,Int.natCast_nonneg,Int.toNat_natCast,AV.stb,AV.one,List.all_cons,List.all_nil,Bool.and_self,Bool.and_true,Bool.true_and,List.take_succ_cons,List.take_zero,List.drop_succ_cons,List.drop_zero,List.cons_append,List.nil_append,List.append_nil,List.set_cons_zero,IV.av1,Lb.app,Lb.fresh,fam_loc,fam_par,fam_gen,fam_nest,reduceCtorEq,Bool.false_eq_true,List.take,List.drop,List.mem_cons,List.not_mem_nil,or_false,ptrL,appL,forall_eq,false_implies,implies_true,ev,Hp.none,Nat.le_refl,List.set_cons_succ,fillA,chunks,ivs,AV.iv,mkE,List.replicate_one,List.flatten_cons,List.flatten_nil,Nat.zero_mul,Nat.zero_add,Nat.mul_one,Bool.false_and]
       | true => simp only [↓evs,evp,boxK,↓a1_still,stillV,ev,argE,List.getD_cons_zero,List.getD_cons_succ,Nat.reduceEqDiff,if_false,if_true,Nat.reduceLT,Nat.reduceLeDiff,Nat.reduceAdd,Nat.reduceMul,true_and,and_true,List.length_map,binV,AV.cells,List.length_cons,List.length_nil,upd_at,Lb.loc.injEq,↓af_still,↓af_load,↓af_store,↓af_app,↓af_new,↓af_box,loadV,storeV,ldV,List.getElem?_cons_zero,List.getElem?_cons_succ,Option.bind_some,Option.map_some,List.map_cons,List.map_nil,Int.natCast_nonneg,Int.toNat_natCast,AV.stb,AV.one,List.all_cons,List.all_nil,Bool.and_self,Bool.and_true,Bool.true_and,List.take_succ_cons,List.take_zero,List.drop_succ_cons,List.drop_zero,List.cons_append,List.nil_append,List.append_nil,List.set_cons_zero,IV.av1,Lb.app,Lb.fresh,fam_loc,fam_par,fam_gen,fam_nest,reduceCtorEq,Bool.false_eq_true,List.take,List.drop,List.mem_cons,List.not_mem_nil,or_false,ptrL,appL,forall_eq,false_implies,implies_true,ev,Hp.none,Nat.le_refl,List.set_cons_succ,fillA,chunks,ivs,AV.iv,mkE,List.replicate_one,List.flatten_cons,List.flatten_nil,Nat.zero_mul,Nat.zero_add,Nat.mul_one,ivT_len,e2]
 | false =>
   rw [x.fine_e h0]
   simp only [↓evs,evp,boxK,↓a1_still,stillV,ev,argE,List.getD_cons_zero,List.getD_cons_succ,Nat.reduceEqDiff,if_false,if_true,Nat.reduceLT,Nat.reduceLeDiff,Nat.reduceAdd,Nat.reduceMul,true_and,and_true,List.length_map,binV,AV.cells,List.length_cons,List.length_nil,upd_at,Lb.loc.injEq,↓af_still,↓af_load,↓af_store,↓af_app,↓af_new,↓af_box,loadV,storeV,ldV,List.getElem?_cons_zero,List.getElem?_cons_succ,Option.bind_some,Option.map_some,List.map_cons,List.map_nil,Int.natCast_nonneg,Int.toNat_natCast,AV.stb,AV.one,List.all_cons,List.all_nil,Bool.and_self,Bool.and_true,Bool.true_and,List.take_succ_cons,List.take_zero,List.drop_succ_cons,List.drop_zero,List.cons_append,List.nil_append,List.append_nil,List.set_cons_zero,IV.av1,Lb.app,Lb.fresh,fam_loc,fam_par,fam_gen,fam_nest,reduceCtorEq,Bool.false_eq_true,List.take,List.drop,List.mem_cons,List.not_mem_nil,or_false,ptrL,appL,forall_eq,false_implies,implies_true,ev,Hp.none,Nat.le_refl,List.set_cons_succ,fillA,chunks,ivs,AV.iv,mkE,List.replicate_one,List.flatten_cons,List.flatten_nil,Nat.zero_mul,Nat.zero_add,Nat.mul_one]
   refine callT_pure hN ?_
   cases h1 : named x.s with
   | false => simp only [↓evs,evp,boxK,↓a1_still,stillV,ev,argE,List.getD_cons_zero,List.getD_cons_succ,Nat.reduceEqDiff,if_false,if_true,Nat.reduceLT,Nat.reduceLeDiff,Nat.reduceAdd,Nat.reduceMul,true_and,and_true,List.length_map,binV,AV.cells,List.length_cons,List.length_nil,upd_at,Lb.loc.injEq,↓af_still,↓af_load,↓af_store,↓af_app,↓af_new,↓af_box,loadV,storeV,ldV,List.getElem?_cons_zero,List.getElem?_cons_succ,Option.bind_some,Option.map_some,List.map_cons,List.map_nil,Int.natCast_nonneg,Int.toNat_natCast,AV.stb,AV.one,List.all_cons,List.all_nil,Bool.and_self,Bool.and_true,Bool.true_and,List.take_succ_cons,List.take_zero,List.drop_succ_cons,List.drop_zero,List.cons_append,List.nil_append,List.append_nil,List.set_cons_zero,IV.av1,Lb.app,Lb.fresh,fam_loc,fam_par,fam_gen,fam_nest,reduceCtorEq,Bool.false_eq_true,List.take,List.drop,List.mem_cons,List.not_mem_nil,or_false,ptrL,appL,forall_eq,false_implies,implies_true,ev,Hp.none,Nat.le_refl,List.set_cons_succ,fillA,chunks,ivs,AV.iv,mkE,List.replicate_one,List.flatten_cons,List.flatten_nil,Nat.zero_mul,Nat.zero_add,Nat.mul_one,Bool.false_and]
   | true =>
     simp only [↓evs,evp,boxK,↓a1_still,stillV,ev,argE,List.getD_cons_zero,List.getD_cons_succ,Nat.reduceEqDiff,if_false,if_true,Nat.reduceLT,Nat.reduceLeDiff,Nat.reduceAdd,Nat.reduceMul,true_and,and_true,List.length_map,binV,AV.cells,List.length_cons,List.length_nil,upd_at,Lb.loc.injEq,↓af_still,↓af_load,↓af_store,↓af_app,↓af_new,↓af_box,loadV,storeV,ldV,List.getElem?_cons_zero,List.getElem?_cons_succ,Option.bind_some,Option.map_some,List.map_cons,List.map_nil,Int.natCast_nonneg,Int.toNat_natCast,AV.stb,AV.one,List.all_cons,List.all_nil,Bool.and_self,Bool.and_true,Bool.true_and,List.take_succ_cons,List.take_zero,List.drop_succ_cons,List.drop_zero,List.cons_append,List.nil_append,List.append_nil,List.set_cons_zero,IV.av1,Lb.app,Lb.fresh,fam_loc,fam_par,fam_gen,fam_nest,reduceCtorEq,Bool.false_eq_true,List.take,List.drop,List.mem_cons,List.not_mem_nil,or_false,ptrL,appL,forall_eq,false_implies,implies_true,ev,Hp.none,Nat.le_refl,List.set_cons_succ,fillA,chunks,ivs,AV.iv,mkE,List.replicate_one,List.flatten_cons,List.flatten_nil,Nat.zero_mul,Nat.zero_add,Nat.mul_one]
     refine callT_pure hA ?_
     cases h2 : goodAttrs x.attrs with
     | false => simp only [↓evs,evp,boxK,↓a1_still,stillV,ev,argE,List.getD_cons_zero,List.getD_cons_succ,Nat.reduceEqDiff,if_false,if_true,Nat.reduceLT,Nat.reduceLeDiff,Nat.reduceAdd,Nat.reduceMul,true_and,and_true,List.length_map,binV,AV.cells,List.length_cons,List.length_nil,upd_at,Lb.loc.injEq,↓af_still,↓af_load,↓af_store,↓af_app,↓af_new,↓af_box,loadV,storeV,ldV,List.getElem?_cons_zero,List.getElem?_cons_succ,Option.bind_some,Option.map_some,List.map_cons,List.map_nil,Int.natCast_nonneg,Int.toNat_natCast,AV.stb,AV.one,List.all_cons,List.all_nil,Bool.and_self,Bool.and_true,Bool.true_and,List.take_succ_cons,List.take_zero,List.drop_succ_cons,List.drop_zero,List.cons_append,List.nil_append,List.append_nil,List.set_cons_zero,IV.av1,Lb.app,Lb.fresh,fam_loc,fam_par,fam_gen,fam_nest,reduceCtorEq,Bool.false_eq_true,List.take,List.drop,List.mem_cons,List.not_mem_nil,or_false,ptrL,appL,forall_eq,false_implies,implies_true,ev,Hp.none,Nat.le_refl,List.set_cons_succ,fillA,chunks,ivs,AV.iv,mkE,List.replicate_one,List.flatten_cons,List.flatten_nil,Nat.zero_mul,Nat.zero_add,Nat.mul_one,Bool.false_and]
     | true =>
       simp only [↓evs,evp,boxK,↓a1_still,stillV,ev,argE,List.getD_cons_zero,List.getD_cons_succ,Nat.reduceEqDiff,if_false,if_true,Nat.reduceLT,Nat.reduceLeDiff,Nat.reduceAdd,Nat.reduceMul,true_and,and_true,List.length_map,binV,AV.cells,List.length_cons,List.length_nil,upd_at,Lb.loc.injEq,↓af_still,↓af_load,↓af_store,↓af_app,↓af_new,↓af_box,loadV,storeV,ldV,List.getElem?_cons_zero,List.getElem?_cons_succ,Option.bind_some,Option.map_some,List.map_cons,List.map_nil,Int.natCast_nonneg,Int.toNat_natCast,AV.stb,AV.one,List.all_cons,List.all_nil,Bool.and_self,Bool.and_true,Bool.true_and,List.take_succ_cons,List.take_zero,List.drop_succ_cons,List.drop_zero,List.cons_append,List.nil_append,List.append_nil,List.set_cons_zero,IV.av1,Lb.app,Lb.fresh,fam_loc,fam_par,fam_gen,fam_nest,reduceCtorEq,Bool.false_eq_true,List.take,List.drop,List.mem_cons,List.not_mem_nil,or_false,ptrL,appL,forall_eq,false_implies,implies_true,ev,Hp.none,Nat.le_refl,List.set_cons_succ,fillA,chunks,ivs,AV.iv,mkE,List.replicate_one,List.flatten_cons,List.flatten_nil,Nat.zero_mul,Nat.zero_add,Nat.mul_one]
       refine callT_pure hFs ?_
       simp only [↓evs,evp,boxK,↓a1_still,stillV,ev,argE,List.getD_cons_zero,List.getD_cons_succ,Nat.reduceEqDiff,if_false,if_true,Nat.reduceLT,Nat.reduceLeDiff,Nat.reduceAdd,Nat.reduceMul,true_and,and_true,List.length_map,binV,AV.cells,List.length_cons,List.length_nil,upd_at,Lb.loc.injEq,↓af_still,↓af_load,↓af_store,↓af_app,↓af_new,↓af_box,loadV,storeV,ldV,List.getElem?_cons_zero,List.getElem?_cons_succ,Option.bind_some,Option.map_some,List.map_cons,List.map_nil,Int.natCast_nonneg,Int.toNat_natCast,AV.stb,AV.one,List.all_cons,List.all_nil,Bool.and_self,Bool.and_true,Bool.true_and,List.take_succ_cons,List.take_zero,List.drop_succ_cons,List.drop_zero,List.cons_append,List.nil_append,List.append_nil,List.set_cons_zero,IV.av1,Lb.app,Lb.fresh,fam_loc,fam_par,fam_gen,fam_nest,reduceCtorEq,Bool.false_eq_true,List.take,List.drop,List.mem_cons,List.not_mem_nil,or_false,ptrL,appL,forall_eq,false_implies,implies_true,ev,Hp.none,Nat.le_refl,List.set_cons_succ,fillA,chunks,ivs,AV.iv,mkE,List.replicate_one,List.flatten_cons,List.flatten_nil,Nat.zero_mul,Nat.zero_add,Nat.mul_one]
def prevT (ks : List Tree) (i : Nat) : Option Bool := if i = 0 then none else (ks[i - 1]?).map Tree.text
def eFines (ks : List Tree) (i : Nat) : Env := put (put (put (put Env.any 0 (.list (ivT ks))) 5 (.list (ivT ks))) 6 (.int .i64 ks.length)) 7 (.int .i64 i)
theorem pFines {P : Program} {G : Nat → Option (List IV)} {f fF : Nat} (hF : compF P G f = some (32,[(none,2)],(cFines fF).bare)) (ks : List Tree) (hx : ks.length ≤ B)
   (hK : ∀ k ∈ ks,PureC P G fF [k.av] (.bool k.fine)) : PureC P G f [.list (ivT ks)] (.bool (fines none ks)) := by
 refine pure_of_go hF (by simp) (by simp [lbss,AV.lbs]) (by simp [AV.lbs]) ?_
 unfold cFines
 simp only [↓evs,evp,boxK,↓a1_still,stillV,ev,argE,List.getD_cons_zero,List.getD_cons_succ,Nat.reduceEqDiff,if_false,if_true,Nat.reduceLT,Nat.reduceLeDiff,Nat.reduceAdd,Nat.reduceMul,true_and,and_true,List.length_map,binV,AV.cells,List.length_cons,List.length_nil,upd_at,Lb.loc.injEq,↓af_still,↓af_load,↓af_store,↓af_app,↓af_new,↓af_box,loadV,storeV,ldV,List.getElem?_cons_zero,List.getElem?_cons_succ,Option.bind_some,Option.map_some,List.map_cons,List.map_nil,Int.natCast_nonneg,Int.toNat_natCast,AV.stb,AV.one,List.all_cons,List.all_nil,Bool.and_self,Bool.and_true,Bool.true_and,List.take_succ_cons,List.take_zero,List.drop_succ_cons,List.drop_zero,List.cons_append,List.nil_append,List.append_nil,List.set_cons_zero,IV.av1,Lb.app,Lb.fresh,fam_loc,fam_par,fam_gen,fam_nest,reduceCtorEq,Bool.false_eq_true,List.take,List.drop,List.mem_cons,List.not_mem_nil,or_false,ptrL,appL,forall_eq,false_implies,implies_true,ev,Hp.none,Nat.le_refl,List.set_cons_succ,fillA,chunks,ivs,AV.iv,mkE,List.replicate_one,List.flatten_cons,List.flatten_nil,Nat.zero_mul,Nat.zero_add,Nat.mul_one,ivT_len]
 refine loop_intro (σ := { i : Nat // i ≤ ks.length ∧ fines none ks = fines (prevT ks i) (ks.drop i) }) (fun q => eFines ks q.1) (fun _ => Hp.none) (fun q => ks.length - q.1) ⟨0,by simp [prevT]⟩ id ?_ ?_
 · refine .none ?_ ?_
   · exact we_put rfl (we_put rfl (we_put rfl (we_put rfl (we_any _ _))))
   · exact wm_put (by simp [AV.lbs]) (wm_put (by simp [AV.lbs]) (wm_put (by simp [AV.lbs]) (wm_put (by simp [AV.lbs]) (wm_any _))))
 · rintro ⟨i,hi,hs⟩
   simp only [↓evs,evp,boxK,↓a1_still,stillV,ev,argE,List.getD_cons_zero,List.getD_cons_succ,Nat.reduceEqDiff,if_false,if_true,Nat.reduceLT,Nat.reduceLeDiff,Nat.reduceAdd,Nat.reduceMul,true_and,and_true,List.length_map,binV,AV.cells,List.length_cons,List.length_nil,upd_at,Lb.loc.injEq,↓af_still,↓af_load,↓af_store,↓af_app,↓af_new,↓af_box,loadV,storeV,ldV,List.getElem?_cons_zero,List.getElem?_cons_succ,Option.bind_some,Option.map_some,List.map_cons,List.map_nil,Int.natCast_nonneg,Int.toNat_natCast,AV.stb,AV.one,List.all_cons,List.all_nil,Bool.and_self,Bool.and_true,Bool.true_and,List.take_succ_cons,List.take_zero,List.drop_succ_cons,List.drop_zero,List.cons_append,List.nil_append,List.append_nil,List.set_cons_zero,IV.av1,Lb.app,Lb.fresh,fam_loc,fam_par,fam_gen,fam_nest,reduceCtorEq,Bool.false_eq_true,List.take,List.drop,List.mem_cons,List.not_mem_nil,or_false,ptrL,appL,forall_eq,false_implies,implies_true,ev,Hp.none,Nat.le_refl,List.set_cons_succ,fillA,chunks,ivs,AV.iv,mkE,List.replicate_one,List.flatten_cons,List.flatten_nil,Nat.zero_mul,Nat.zero_add,Nat.mul_one,eFines,ivT_len]
   by_cases hlt : i < ks.length
   · rw [show decide ((i : Int) < (ks.length : Int)) = true by simpa using hlt]
     obtain ⟨k,hk⟩ : ∃ k,ks[i]? = some k := ⟨_,List.getElem?_eq_getElem hlt⟩
     have hw : IntKind.i64.wrap ((i : Int) + 1) = ((i + 1 : Nat) : Int) := wrap64 (by omega) (by unfold B at hx; omega)
     have hd : ks.drop i = k :: ks.drop (i + 1) := by
       rw [List.drop_eq_getElem_cons hlt]
       rw [List.getElem?_eq_getElem hlt] at hk; cases hk; rfl
     have hp' : prevT ks (i + 1) = some k.text := by simp [prevT,hk]
     have hstep : fines none ks = (k.fine && (!(prevT ks i == some true && k.text) && fines (some k.text) (ks.drop (i + 1)))) := by rw [hs,hd]; simp only [fines]
     have next : (k.fine && !(prevT ks i == some true && k.text)) = true → ∃ q : { i : Nat // i ≤ ks.length ∧ fines none ks = fines (prevT ks i) (ks.drop i) },q.1 = i + 1 := fun h => by
       rw [Bool.and_eq_true] at h
       exact ⟨⟨i + 1,hlt,by rw [hp',hstep,h.1,h.2]; rfl⟩,rfl⟩
     simp only [↓evs,evp,boxK,↓a1_still,stillV,ev,argE,List.getD_cons_zero,List.getD_cons_succ,Nat.reduceEqDiff,if_false,if_true,Nat.reduceLT,Nat.reduceLeDiff,Nat.reduceAdd,Nat.reduceMul,true_and,and_true,List.length_map,binV,AV.cells,List.length_cons,List.length_nil,upd_at,Lb.loc.injEq,↓af_still,↓af_load,↓af_store,↓af_app,↓af_new,↓af_box,loadV,storeV,ldV,List.getElem?_cons_zero,List.getElem?_cons_succ,Option.bind_some,Option.map_some,List.map_cons,List.map_nil,Int.natCast_nonneg,Int.toNat_natCast,AV.stb,AV.one,List.all_cons,List.all_nil,Bool.and_self,Bool.and_true,Bool.true_and,List.take_succ_cons,List.take_zero,List.drop_succ_cons,List.drop_zero,List.cons_append,List.nil_append,List.append_nil,List.set_cons_zero,IV.av1,Lb.app,Lb.fresh,fam_loc,fam_par,fam_gen,fam_nest,reduceCtorEq,Bool.false_eq_true,List.take,List.drop,List.mem_cons,List.not_mem_nil,or_false,ptrL,appL,forall_eq,false_implies,implies_true,ev,Hp.none,Nat.le_refl,List.set_cons_succ,fillA,chunks,ivs,AV.iv,mkE,List.replicate_one,List.flatten_cons,List.flatten_nil,Nat.zero_mul,Nat.zero_add,Nat.mul_one,ivT_get,hk,elszT,Tree.cells_eq,Tree.cs]
     refine ⟨le_max (by decide),callT_pure (hK k (List.mem_of_getElem? hk)) ?_⟩
     cases h1 : k.fine with
     | false =>
       simp only [↓evs,evp,boxK,↓a1_still,stillV,ev,argE,List.getD_cons_zero,List.getD_cons_succ,Nat.reduceEqDiff,if_false,if_true,Nat.reduceLT,Nat.reduceLeDiff,Nat.reduceAdd,Nat.reduceMul,true_and,and_true,List.length_map,binV,AV.cells,List.length_cons,List.length_nil,upd_at,Lb.loc.injEq,↓af_still,↓af_load,↓af_store,↓af_app,↓af_new,↓af_box,loadV,storeV,ldV,List.getElem?_cons_zero,List.getElem?_cons_succ,Option.bind_some,Option.map_some,List.map_cons,List.map_nil,Int.natCast_nonneg,Int.toNat_natCast,AV.stb,AV.one,List.all_cons,List.all_nil,Bool.and_self,Bool.and_true,Bool.true_and,List.take_succ_cons,List.take_zero,List.drop_succ_cons,List.drop_zero,List.cons_append,List.nil_append,List.append_nil,List.set_cons_zero,IV.av1,Lb.app,Lb.fresh,fam_loc,fam_par,fam_gen,fam_nest,reduceCtorEq,Bool.false_eq_true,List.take,List.drop,List.mem_cons,List.not_mem_nil,or_false,ptrL,appL,forall_eq,false_implies,implies_true,ev,Hp.none,Nat.le_refl,List.set_cons_succ,fillA,chunks,ivs,AV.iv,mkE,List.replicate_one,List.flatten_cons,List.flatten_nil,Nat.zero_mul,Nat.zero_add,Nat.mul_one,Bool.not_false]
       rw [hstep,h1]; rfl
     | true =>
       simp only [↓evs,evp,boxK,↓a1_still,stillV,ev,argE,List.getD_cons_zero,List.getD_cons_succ,Nat.reduceEqDiff,if_false,if_true,Nat.reduceLT,Nat.reduceLeDiff,Nat.reduceAdd,Nat.reduceMul,true_and,and_true,List.length_map,binV,AV.cells,List.length_cons,List.length_nil,upd_at,Lb.loc.injEq,↓af_still,↓af_load,↓af_store,↓af_app,↓af_new,↓af_box,loadV,storeV,ldV,List.getElem?_cons_zero,List.getElem?_cons_succ,Option.bind_some,Option.map_some,List.map_cons,List.map_nil,Int.natCast_nonneg,Int.toNat_natCast,AV.stb,AV.one,List.all_cons,List.all_nil,Bool.and_self,Bool.and_true,Bool.true_and,List.take_succ_cons,List.take_zero,List.drop_succ_cons,List.drop_zero,List.cons_append,List.nil_append,List.append_nil,List.set_cons_zero,IV.av1,Lb.app,Lb.fresh,fam_loc,fam_par,fam_gen,fam_nest,reduceCtorEq,Bool.false_eq_true,List.take,List.drop,List.mem_cons,List.not_mem_nil,or_false,ptrL,appL,forall_eq,false_implies,implies_true,ev,Hp.none,Nat.le_refl,List.set_cons_succ,fillA,chunks,ivs,AV.iv,mkE,List.replicate_one,List.flatten_cons,List.flatten_nil,Nat.zero_mul,Nat.zero_add,Nat.mul_one,Bool.not_true]
       by_cases h3 : i = 0
       · subst h3
         rw [show decide (((0 : Nat) : Int) > 0) = false by simp]
         obtain ⟨q,hq⟩ := next (by rw [h1]; simp [prevT])
         simp only [↓evs,evp,boxK,↓a1_still,stillV,ev,argE,List.getD_cons_zero,List.getD_cons_succ,Nat.reduceEqDiff,if_false,if_true,Nat.reduceLT,Nat.reduceLeDiff,Nat.reduceAdd,Nat.reduceMul,true_and,and_true,List.length_map,binV,AV.cells,List.length_cons,List.length_nil,upd_at,Lb.loc.injEq,↓af_still,↓af_load,↓af_store,↓af_app,↓af_new,↓af_box,loadV,storeV,ldV,List.getElem?_cons_zero,List.getElem?_cons_succ,Option.bind_some,Option.map_some,List.map_cons,List.map_nil,Int.natCast_nonneg,Int.toNat_natCast,AV.stb,AV.one,List.all_cons,List.all_nil,Bool.and_self,Bool.and_true,Bool.true_and,List.take_succ_cons,List.take_zero,List.drop_succ_cons,List.drop_zero,List.cons_append,List.nil_append,List.append_nil,List.set_cons_zero,IV.av1,Lb.app,Lb.fresh,fam_loc,fam_par,fam_gen,fam_nest,reduceCtorEq,Bool.false_eq_true,List.take,List.drop,List.mem_cons,List.not_mem_nil,or_false,ptrL,appL,forall_eq,false_implies,implies_true,ev,Hp.none,Nat.le_refl,List.set_cons_succ,fillA,chunks,ivs,AV.iv,mkE,List.replicate_one,List.flatten_cons,List.flatten_nil,Nat.zero_mul,Nat.zero_add,Nat.mul_one,hw]
         refine ⟨q,by omega,id,.drop ?_ ?_ ?_⟩
         · rw [hq]; exact we_put rfl (we_put rfl (we_put rfl (we_put rfl (we_any _ _))))
         · exact wm_put (by simp [AV.lbs]) (wm_put (by simp [AV.lbs]) (wm_put (by simp [AV.lbs]) (wm_put (by simp [AV.lbs]) (wm_any _))))
         · exact nf_upd (nf_upd nf_none)
       · rw [show decide ((i : Int) > 0) = true by simp; omega]
         obtain ⟨p,hp⟩ : ∃ p,ks[i - 1]? = some p := ⟨_,List.getElem?_eq_getElem (by omega)⟩
         have hpr : prevT ks i = some p.text := by simp [prevT,h3,hp]
         have hw1 : IntKind.i64.wrap ((i : Int) - 1) = ((i - 1 : Nat) : Int) := by rw [wrap64 (by omega) (by unfold B at hx; omega)]; omega
         simp only [↓evs,evp,boxK,↓a1_still,stillV,ev,argE,List.getD_cons_zero,List.getD_cons_succ,Nat.reduceEqDiff,if_false,if_true,Nat.reduceLT,Nat.reduceLeDiff,Nat.reduceAdd,Nat.reduceMul,true_and,and_true,List.length_map,binV,AV.cells,List.length_cons,List.length_nil,upd_at,Lb.loc.injEq,↓af_still,↓af_load,↓af_store,↓af_app,↓af_new,↓af_box,loadV,storeV,ldV,List.getElem?_cons_zero,List.getElem?_cons_succ,Option.bind_some,Option.map_some,List.map_cons,List.map_nil,Int.natCast_nonneg,Int.toNat_natCast,AV.stb,AV.one,List.all_cons,List.all_nil,Bool.and_self,Bool.and_true,Bool.true_and,List.take_succ_cons,List.take_zero,List.drop_succ_cons,List.drop_zero,List.cons_append,List.nil_append,List.append_nil,List.set_cons_zero,IV.av1,Lb.app,Lb.fresh,fam_loc,fam_par,fam_gen,fam_nest,reduceCtorEq,Bool.false_eq_true,List.take,List.drop,List.mem_cons,List.not_mem_nil,or_false,ptrL,appL,forall_eq,false_implies,implies_true,ev,Hp.none,Nat.le_refl,List.set_cons_succ,fillA,chunks,ivs,AV.iv,mkE,List.replicate_one,List.flatten_cons,List.flatten_nil,Nat.zero_mul,Nat.zero_add,Nat.mul_one]
         cases h2 : k.text with
         | false =>
           obtain ⟨q,hq⟩ := next (by rw [h1,h2]; simp)
           simp only [↓evs,evp,boxK,↓a1_still,stillV,ev,argE,List.getD_cons_zero,List.getD_cons_succ,Nat.reduceEqDiff,if_false,if_true,Nat.reduceLT,Nat.reduceLeDiff,Nat.reduceAdd,Nat.reduceMul,true_and,and_true,List.length_map,binV,AV.cells,List.length_cons,List.length_nil,upd_at,Lb.loc.injEq,↓af_still,↓af_load,↓af_store,↓af_app,↓af_new,↓af_box,loadV,storeV,ldV,List.getElem?_cons_zero,List.getElem?_cons_succ,Option.bind_some,Option.map_some,List.map_cons,List.map_nil,Int.natCast_nonneg,Int.toNat_natCast,AV.stb,AV.one,List.all_cons,List.all_nil,Bool.and_self,Bool.and_true,Bool.true_and,List.take_succ_cons,List.take_zero,List.drop_succ_cons,List.drop_zero,List.cons_append,List.nil_append,List.append_nil,List.set_cons_zero,IV.av1,Lb.app,Lb.fresh,fam_loc,fam_par,fam_gen,fam_nest,reduceCtorEq,Bool.false_eq_true,List.take,List.drop,List.mem_cons,List.not_mem_nil,or_false,ptrL,appL,forall_eq,false_implies,implies_true,ev,Hp.none,Nat.le_refl,List.set_cons_succ,fillA,chunks,ivs,AV.iv,mkE,List.replicate_one,List.flatten_cons,List.flatten_nil,Nat.zero_mul,Nat.zero_add,Nat.mul_one,hw]
           refine ⟨q,by omega,id,.drop ?_ ?_ ?_⟩
           · rw [hq]; exact we_put rfl (we_put rfl (we_put rfl (we_put rfl (we_any _ _))))
           · exact wm_put (by simp [AV.lbs]) (wm_put (by simp [AV.lbs]) (wm_put (by simp [AV.lbs]) (wm_put (by simp [AV.lbs]) (wm_any _))))
           · exact nf_upd (nf_upd nf_none)
         | true =>
           simp only [↓evs,evp,boxK,↓a1_still,stillV,ev,argE,List.getD_cons_zero,List.getD_cons_succ,Nat.reduceEqDiff,if_false,if_true,Nat.reduceLT,Nat.reduceLeDiff,Nat.reduceAdd,Nat.reduceMul,true_and,and_true,List.length_map,binV,AV.cells,List.length_cons,List.length_nil,upd_at,Lb.loc.injEq,↓af_still,↓af_load,↓af_store,↓af_app,↓af_new,↓af_box,loadV,storeV,ldV,List.getElem?_cons_zero,List.getElem?_cons_succ,Option.bind_some,Option.map_some,List.map_cons,List.map_nil,Int.natCast_nonneg,Int.toNat_natCast,AV.stb,AV.one,List.all_cons,List.all_nil,Bool.and_self,Bool.and_true,Bool.true_and,List.take_succ_cons,List.take_zero,List.drop_succ_cons,List.drop_zero,List.cons_append,List.nil_append,List.append_nil,List.set_cons_zero,IV.av1,Lb.app,Lb.fresh,fam_loc,fam_par,fam_gen,fam_nest,reduceCtorEq,Bool.false_eq_true,List.take,List.drop,List.mem_cons,List.not_mem_nil,or_false,ptrL,appL,forall_eq,false_implies,implies_true,ev,Hp.none,Nat.le_refl,List.set_cons_succ,fillA,chunks,ivs,AV.iv,mkE,List.replicate_one,List.flatten_cons,List.flatten_nil,Nat.zero_mul,Nat.zero_add,Nat.mul_one,hw1,ivT_get,hp,elszT,Tree.cells_eq,Tree.cs]
           cases h4 : p.text with
           | true =>
             simp only [↓evs,evp,boxK,↓a1_still,stillV,ev,argE,List.getD_cons_zero,List.getD_cons_succ,Nat.reduceEqDiff,if_false,if_true,Nat.reduceLT,Nat.reduceLeDiff,Nat.reduceAdd,Nat.reduceMul,true_and,and_true,List.length_map,binV,AV.cells,List.length_cons,List.length_nil,upd_at,Lb.loc.injEq,↓af_still,↓af_load,↓af_store,↓af_app,↓af_new,↓af_box,loadV,storeV,ldV,List.getElem?_cons_zero,List.getElem?_cons_succ,Option.bind_some,Option.map_some,List.map_cons,List.map_nil,Int.natCast_nonneg,Int.toNat_natCast,AV.stb,AV.one,List.all_cons,List.all_nil,Bool.and_self,Bool.and_true,Bool.true_and,List.take_succ_cons,List.take_zero,List.drop_succ_cons,List.drop_zero,List.cons_append,List.nil_append,List.append_nil,List.set_cons_zero,IV.av1,Lb.app,Lb.fresh,fam_loc,fam_par,fam_gen,fam_nest,reduceCtorEq,Bool.false_eq_true,List.take,List.drop,List.mem_cons,List.not_mem_nil,or_false,ptrL,appL,forall_eq,false_implies,implies_true,ev,Hp.none,Nat.le_refl,List.set_cons_succ,fillA,chunks,ivs,AV.iv,mkE,List.replicate_one,List.flatten_cons,List.flatten_nil,Nat.zero_mul,Nat.zero_add,Nat.mul_one]
             rw [hstep,hpr,h1,h2,h4]; rfl
           | false =>
             obtain ⟨q,hq⟩ := next (by rw [h1,h2,hpr,h4]; rfl)
             simp only [↓evs,evp,boxK,↓a1_still,stillV,ev,argE,List.getD_cons_zero,List.getD_cons_succ,Nat.reduceEqDiff,if_false,if_true,Nat.reduceLT,Nat.reduceLeDiff,Nat.reduceAdd,Nat.reduceMul,true_and,and_true,List.length_map,binV,AV.cells,List.length_cons,List.length_nil,upd_at,Lb.loc.injEq,↓af_still,↓af_load,↓af_store,↓af_app,↓af_new,↓af_box,loadV,storeV,ldV,List.getElem?_cons_zero,List.getElem?_cons_succ,Option.bind_some,Option.map_some,List.map_cons,List.map_nil,Int.natCast_nonneg,Int.toNat_natCast,AV.stb,AV.one,List.all_cons,List.all_nil,Bool.and_self,Bool.and_true,Bool.true_and,List.take_succ_cons,List.take_zero,List.drop_succ_cons,List.drop_zero,List.cons_append,List.nil_append,List.append_nil,List.set_cons_zero,IV.av1,Lb.app,Lb.fresh,fam_loc,fam_par,fam_gen,fam_nest,reduceCtorEq,Bool.false_eq_true,List.take,List.drop,List.mem_cons,List.not_mem_nil,or_false,ptrL,appL,forall_eq,false_implies,implies_true,ev,Hp.none,Nat.le_refl,List.set_cons_succ,fillA,chunks,ivs,AV.iv,mkE,List.replicate_one,List.flatten_cons,List.flatten_nil,Nat.zero_mul,Nat.zero_add,Nat.mul_one,hw]
             refine ⟨q,by omega,id,.drop ?_ ?_ ?_⟩
             · rw [hq]; exact we_put rfl (we_put rfl (we_put rfl (we_put rfl (we_any _ _))))
             · exact wm_put (by simp [AV.lbs]) (wm_put (by simp [AV.lbs]) (wm_put (by simp [AV.lbs]) (wm_put (by simp [AV.lbs]) (wm_any _))))
             · exact nf_upd (nf_upd nf_none)
   · rw [show decide ((i : Int) < (ks.length : Int)) = false by simpa using hlt]
     simp only [↓evs,evp,boxK,↓a1_still,stillV,ev,argE,List.getD_cons_zero,List.getD_cons_succ,Nat.reduceEqDiff,if_false,if_true,Nat.reduceLT,Nat.reduceLeDiff,Nat.reduceAdd,Nat.reduceMul,true_and,and_true,List.length_map,binV,AV.cells,List.length_cons,List.length_nil,upd_at,Lb.loc.injEq,↓af_still,↓af_load,↓af_store,↓af_app,↓af_new,↓af_box,loadV,storeV,ldV,List.getElem?_cons_zero,List.getElem?_cons_succ,Option.bind_some,Option.map_some,List.map_cons,List.map_nil,Int.natCast_nonneg,Int.toNat_natCast,AV.stb,AV.one,List.all_cons,List.all_nil,Bool.and_self,Bool.and_true,Bool.true_and,List.take_succ_cons,List.take_zero,List.drop_succ_cons,List.drop_zero,List.cons_append,List.nil_append,List.append_nil,List.set_cons_zero,IV.av1,Lb.app,Lb.fresh,fam_loc,fam_par,fam_gen,fam_nest,reduceCtorEq,Bool.false_eq_true,List.take,List.drop,List.mem_cons,List.not_mem_nil,or_false,ptrL,appL,forall_eq,false_implies,implies_true,ev,Hp.none,Nat.le_refl,List.set_cons_succ,fillA,chunks,ivs,AV.iv,mkE,List.replicate_one,List.flatten_cons,List.flatten_nil,Nat.zero_mul,Nat.zero_add,Nat.mul_one,ivT_len]
     rw [hs,List.drop_eq_nil_of_le (by omega)]; rfl
def Tree.good (x : Tree) : Bool := !x.text && (decide ((x.dep : Int) ≤ 8) && (decide ((x.cnt : Int) ≤ 80) && x.fine))
theorem pGood {P : Program} {G : Nat → Option (List IV)} {f fS fF : Nat} (hF : compF P G f = some (25,[(none,2)],(cGood fS fF).bare)) (x : Tree)
   (hS : PureC P G fS [x.av] (.tup [.int .i64 x.dep,.int .i64 x.cnt])) (hK : PureC P G fF [x.av] (.bool x.fine)) : PureC P G f [x.av] (.bool x.good) := by
 refine pure_of_go hF (by simp) (by simp [lbss,AV.lbs,Tree.av]) (by simp [AV.lbs]) ?_
 unfold cGood
 simp only [↓evs,evp,boxK,↓a1_still,stillV,ev,argE,List.getD_cons_zero,List.getD_cons_succ,Nat.reduceEqDiff,if_false,if_true,Nat.reduceLT,Nat.reduceLeDiff,Nat.reduceAdd,Nat.reduceMul,true_and,and_true,List.length_map,binV,AV.cells,List.length_cons,List.length_nil,upd_at,Lb.loc.injEq,↓af_still,↓af_load,↓af_store,↓af_app,↓af_new,↓af_box,loadV,storeV,ldV,List.getElem?_cons_zero,List.getElem?_cons_succ,Option.bind_some,Option.map_some,List.map_cons,List.map_nil,Int.natCast_nonneg,Int.toNat_natCast,AV.stb,AV.one,List.all_cons,List.all_nil,Bool.and_self,Bool.and_true,Bool.true_and,List.take_succ_cons,List.take_zero,List.drop_succ_cons,List.drop_zero,List.cons_append,List.nil_append,List.append_nil,List.set_cons_zero,IV.av1,Lb.app,Lb.fresh,fam_loc,fam_par,fam_gen,fam_nest,reduceCtorEq,Bool.false_eq_true,List.take,List.drop,List.mem_cons,List.not_mem_nil,or_false,ptrL,appL,forall_eq,false_implies,implies_true,ev,Hp.none,Nat.le_refl,List.set_cons_succ,fillA,chunks,ivs,AV.iv,mkE,List.replicate_one,List.flatten_cons,List.flatten_nil,Nat.zero_mul,Nat.zero_add,Nat.mul_one,Tree.av]
 refine ⟨le_max (by decide),callT_pure hS ?_⟩
 simp only [↓evs,evp,boxK,↓a1_still,stillV,ev,argE,List.getD_cons_zero,List.getD_cons_succ,Nat.reduceEqDiff,if_false,if_true,Nat.reduceLT,Nat.reduceLeDiff,Nat.reduceAdd,Nat.reduceMul,true_and,and_true,List.length_map,binV,AV.cells,List.length_cons,List.length_nil,upd_at,Lb.loc.injEq,↓af_still,↓af_load,↓af_store,↓af_app,↓af_new,↓af_box,loadV,storeV,ldV,List.getElem?_cons_zero,List.getElem?_cons_succ,Option.bind_some,Option.map_some,List.map_cons,List.map_nil,Int.natCast_nonneg,Int.toNat_natCast,AV.stb,AV.one,List.all_cons,List.all_nil,Bool.and_self,Bool.and_true,Bool.true_and,List.take_succ_cons,List.take_zero,List.drop_succ_cons,List.drop_zero,List.cons_append,List.nil_append,List.append_nil,List.set_cons_zero,IV.av1,Lb.app,Lb.fresh,fam_loc,fam_par,fam_gen,fam_nest,reduceCtorEq,Bool.false_eq_true,List.take,List.drop,List.mem_cons,List.not_mem_nil,or_false,ptrL,appL,forall_eq,false_implies,implies_true,ev,Hp.none,Nat.le_refl,List.set_cons_succ,fillA,chunks,ivs,AV.iv,mkE,List.replicate_one,List.flatten_cons,List.flatten_nil,Nat.zero_mul,Nat.zero_add,Nat.mul_one]
 cases h0 : x.text with
 | true =>
   simp only [↓evs,evp,boxK,↓a1_still,stillV,ev,argE,List.getD_cons_zero,List.getD_cons_succ,Nat.reduceEqDiff,if_false,if_true,Nat.reduceLT,Nat.reduceLeDiff,Nat.reduceAdd,Nat.reduceMul,true_and,and_true,List.length_map,binV,AV.cells,List.length_cons,List.length_nil,upd_at,Lb.loc.injEq,↓af_still,↓af_load,↓af_store,↓af_app,↓af_new,↓af_box,loadV,storeV,ldV,List.getElem?_cons_zero,List.getElem?_cons_succ,Option.bind_some,Option.map_some,List.map_cons,List.map_nil,Int.natCast_nonneg,Int.toNat_natCast,AV.stb,AV.one,List.all_cons,List.all_nil,Bool.and_self,Bool.and_true,Bool.true_and,List.take_succ_cons,List.take_zero,List.drop_succ_cons,List.drop_zero,List.cons_append,List.nil_append,List.append_nil,List.set_cons_zero,IV.av1,Lb.app,Lb.fresh,fam_loc,fam_par,fam_gen,fam_nest,reduceCtorEq,Bool.false_eq_true,List.take,List.drop,List.mem_cons,List.not_mem_nil,or_false,ptrL,appL,forall_eq,false_implies,implies_true,ev,Hp.none,Nat.le_refl,List.set_cons_succ,fillA,chunks,ivs,AV.iv,mkE,List.replicate_one,List.flatten_cons,List.flatten_nil,Nat.zero_mul,Nat.zero_add,Nat.mul_one,Bool.not_true]
   simp [Tree.good,h0]
 | false =>
   simp only [↓evs,evp,boxK,↓a1_still,stillV,ev,argE,List.getD_cons_zero,List.getD_cons_succ,Nat.reduceEqDiff,if_false,if_true,Nat.reduceLT,Nat.reduceLeDiff,Nat.reduceAdd,Nat.reduceMul,true_and,and_true,List.length_map,binV,AV.cells,List.length_cons,List.length_nil,upd_at,Lb.loc.injEq,↓af_still,↓af_load,↓af_store,↓af_app,↓af_new,↓af_box,loadV,storeV,ldV,List.getElem?_cons_zero,List.getElem?_cons_succ,Option.bind_some,Option.map_some,List.map_cons,List.map_nil,Int.natCast_nonneg,Int.toNat_natCast,AV.stb,AV.one,List.all_cons,List.all_nil,Bool.and_self,Bool.and_true,Bool.true_and,List.take_succ_cons,List.take_zero,List.drop_succ_cons,List.drop_zero,List.cons_append,List.nil_append,List.append_nil,List.set_cons_zero,IV.av1,Lb.app,Lb.fresh,fam_loc,fam_par,fam_gen,fam_nest,reduceCtorEq,Bool.false_eq_true,List.take,List.drop,List.mem_cons,List.not_mem_nil,or_false,ptrL,appL,forall_eq,false_implies,implies_true,ev,Hp.none,Nat.le_refl,List.set_cons_succ,fillA,chunks,ivs,AV.iv,mkE,List.replicate_one,List.flatten_cons,List.flatten_nil,Nat.zero_mul,Nat.zero_add,Nat.mul_one,Bool.not_false]
   cases h1 : decide ((x.dep : Int) ≤ 8) with
   | false =>
     simp only [↓evs,evp,boxK,↓a1_still,stillV,ev,argE,List.getD_cons_zero,List.getD_cons_succ,Nat.reduceEqDiff,if_false,if_true,Nat.reduceLT,Nat.reduceLeDiff,Nat.reduceAdd,Nat.reduceMul,true_and,and_true,List.length_map,binV,AV.cells,List.length_cons,List.length_nil,upd_at,Lb.loc.injEq,↓af_still,↓af_load,↓af_store,↓af_app,↓af_new,↓af_box,loadV,storeV,ldV,List.getElem?_cons_zero,List.getElem?_cons_succ,Option.bind_some,Option.map_some,List.map_cons,List.map_nil,Int.natCast_nonneg,Int.toNat_natCast,AV.stb,AV.one,List.all_cons,List.all_nil,Bool.and_self,Bool.and_true,Bool.true_and,List.take_succ_cons,List.take_zero,List.drop_succ_cons,List.drop_zero,List.cons_append,List.nil_append,List.append_nil,List.set_cons_zero,IV.av1,Lb.app,Lb.fresh,fam_loc,fam_par,fam_gen,fam_nest,reduceCtorEq,Bool.false_eq_true,List.take,List.drop,List.mem_cons,List.not_mem_nil,or_false,ptrL,appL,forall_eq,false_implies,implies_true,ev,Hp.none,Nat.le_refl,List.set_cons_succ,fillA,chunks,ivs,AV.iv,mkE,List.replicate_one,List.flatten_cons,List.flatten_nil,Nat.zero_mul,Nat.zero_add,Nat.mul_one]
     rw [Tree.good,h0,h1]; rfl
   | true =>
     simp only [↓evs,evp,boxK,↓a1_still,stillV,ev,argE,List.getD_cons_zero,List.getD_cons_succ,Nat.reduceEqDiff,if_false,if_true,Nat.reduceLT,Nat.reduceLeDiff,Nat.reduceAdd,Nat.reduceMul,true_and,and_true,List.length_map,binV,AV.cells,List.length_cons,List.length_nil,upd_at,Lb.loc.injEq,↓af_still,↓af_load,↓af_store,↓af_app,↓af_new,↓af_box,loadV,storeV,ldV,List.getElem?_cons_zero,List.getElem?_cons_succ,Option.bind_some,Option.map_some,List.map_cons,List.map_nil,Int.natCast_nonneg,Int.toNat_natCast,AV.stb,AV.one,List.all_cons,List.all_nil,Bool.and_self,Bool.and_true,Bool.true_and,List.take_succ_cons,List.take_zero,List.drop_succ_cons,List.drop_zero,List.cons_append,List.nil_append,List.append_nil,List.set_cons_zero,IV.av1,Lb.app,Lb.fresh,fam_loc,fam_par,fam_gen,fam_nest,reduceCtorEq,Bool.false_eq_true,List.take,List.drop,List.mem_cons,List.not_mem_nil,or_false,ptrL,appL,forall_eq,false_implies,implies_true,ev,Hp.none,Nat.le_refl,List.set_cons_succ,fillA,chunks,ivs,AV.iv,mkE,List.replicate_one,List.flatten_cons,List.flatten_nil,Nat.zero_mul,Nat.zero_add,Nat.mul_one]
     cases h2 : decide ((x.cnt : Int) ≤ 80) with
     | false =>
       simp only [↓evs,evp,boxK,↓a1_still,stillV,ev,argE,List.getD_cons_zero,List.getD_cons_succ,Nat.reduceEqDiff,if_false,if_true,Nat.reduceLT,Nat.reduceLeDiff,Nat.reduceAdd,Nat.reduceMul,true_and,and_true,List.length_map,binV,AV.cells,List.length_cons,List.length_nil,upd_at,Lb.loc.injEq,↓af_still,↓af_load,↓af_store,↓af_app,↓af_new,↓af_box,loadV,storeV,ldV,List.getElem?_cons_zero,List.getElem?_cons_succ,Option.bind_some,Option.map_some,List.map_cons,List.map_nil,Int.natCast_nonneg,Int.toNat_natCast,AV.stb,AV.one,List.all_cons,List.all_nil,Bool.and_self,Bool.and_true,Bool.true_and,List.take_succ_cons,List.take_zero,List.drop_succ_cons,List.drop_zero,List.cons_append,List.nil_append,List.append_nil,List.set_cons_zero,IV.av1,Lb.app,Lb.fresh,fam_loc,fam_par,fam_gen,fam_nest,reduceCtorEq,Bool.false_eq_true,List.take,List.drop,List.mem_cons,List.not_mem_nil,or_false,ptrL,appL,forall_eq,false_implies,implies_true,ev,Hp.none,Nat.le_refl,List.set_cons_succ,fillA,chunks,ivs,AV.iv,mkE,List.replicate_one,List.flatten_cons,List.flatten_nil,Nat.zero_mul,Nat.zero_add,Nat.mul_one]
       rw [Tree.good,h0,h1,h2]; rfl
     | true =>
       simp only [↓evs,evp,boxK,↓a1_still,stillV,ev,argE,List.getD_cons_zero,List.getD_cons_succ,Nat.reduceEqDiff,if_false,if_true,Nat.reduceLT,Nat.reduceLeDiff,Nat.reduceAdd,Nat.reduceMul,true_and,and_true,List.length_map,binV,AV.cells,List.length_cons,List.length_nil,upd_at,Lb.loc.injEq,↓af_still,↓af_load,↓af_store,↓af_app,↓af_new,↓af_box,loadV,storeV,ldV,List.getElem?_cons_zero,List.getElem?_cons_succ,Option.bind_some,Option.map_some,List.map_cons,List.map_nil,Int.natCast_nonneg,Int.toNat_natCast,AV.stb,AV.one,List.all_cons,List.all_nil,Bool.and_self,Bool.and_true,Bool.true_and,List.take_succ_cons,List.take_zero,List.drop_succ_cons,List.drop_zero,List.cons_append,List.nil_append,List.append_nil,List.set_cons_zero,IV.av1,Lb.app,Lb.fresh,fam_loc,fam_par,fam_gen,fam_nest,reduceCtorEq,Bool.false_eq_true,List.take,List.drop,List.mem_cons,List.not_mem_nil,or_false,ptrL,appL,forall_eq,false_implies,implies_true,ev,Hp.none,Nat.le_refl,List.set_cons_succ,fillA,chunks,ivs,AV.iv,mkE,List.replicate_one,List.flatten_cons,List.flatten_nil,Nat.zero_mul,Nat.zero_add,Nat.mul_one]
       refine callT_pure (by rw [← h0]; exact hK) ?_
       simp only [↓evs,evp,boxK,↓a1_still,stillV,ev,argE,List.getD_cons_zero,List.getD_cons_succ,Nat.reduceEqDiff,if_false,if_true,Nat.reduceLT,Nat.reduceLeDiff,Nat.reduceAdd,Nat.reduceMul,true_and,and_true,List.length_map,binV,AV.cells,List.length_cons,List.length_nil,upd_at,Lb.loc.injEq,↓af_still,↓af_load,↓af_store,↓af_app,↓af_new,↓af_box,loadV,storeV,ldV,List.getElem?_cons_zero,List.getElem?_cons_succ,Option.bind_some,Option.map_some,List.map_cons,List.map_nil,Int.natCast_nonneg,Int.toNat_natCast,AV.stb,AV.one,List.all_cons,List.all_nil,Bool.and_self,Bool.and_true,Bool.true_and,List.take_succ_cons,List.take_zero,List.drop_succ_cons,List.drop_zero,List.cons_append,List.nil_append,List.append_nil,List.set_cons_zero,IV.av1,Lb.app,Lb.fresh,fam_loc,fam_par,fam_gen,fam_nest,reduceCtorEq,Bool.false_eq_true,List.take,List.drop,List.mem_cons,List.not_mem_nil,or_false,ptrL,appL,forall_eq,false_implies,implies_true,ev,Hp.none,Nat.le_refl,List.set_cons_succ,fillA,chunks,ivs,AV.iv,mkE,List.replicate_one,List.flatten_cons,List.flatten_nil,Nat.zero_mul,Nat.zero_add,Nat.mul_one]
       rw [Tree.good,h0,h1,h2]; rfl
end Go.Am

/- Trees that are joined. -/
namespace Go.Am
open Go Go.RowKit
def Tree.withS (x : Tree) (s : Bs) : Tree := .mk x.text s x.attrs x.kids
def lastT (p : Bool) : List Tree → Bool
 | [] => p
 | x :: r => lastT x.text r
def grow (s : Bs) : List Tree → List Tree
 | [] => []
 | [x] => [x.withS (x.s ++ s)]
 | x :: y :: r => x :: grow s (y :: r)
def push (out : List Tree) (x : Tree) : List Tree :=
 if x.text && x.s == [] then out else if x.text && lastT false out then grow x.s out else out ++ [x]
mutual
def Tree.jn : Tree → Tree
 | .mk t s as ks => .mk t s as (joinA [] ks)
def joinA (out : List Tree) : List Tree → List Tree
 | [] => out
 | x :: r => joinA (push out x.jn) r
end
def joined (l : List Tree) : List Tree := joinA [] l
theorem Tree.jn_eq (x : Tree) : x.jn = .mk x.text x.s x.attrs (joined x.kids) := by cases x; simp [Tree.jn,joined,Tree.text,Tree.s,Tree.attrs,Tree.kids]
theorem Tree.jn_text (x : Tree) : x.jn.text = x.text := by rw [x.jn_eq]; rfl
theorem Tree.jn_s (x : Tree) : x.jn.s = x.s := by rw [x.jn_eq]; rfl
theorem Tree.jn_attrs (x : Tree) : x.jn.attrs = x.attrs := by rw [x.jn_eq]; rfl
theorem Tree.jn_kids (x : Tree) : x.jn.kids = joined x.kids := by rw [x.jn_eq]; rfl
theorem joinA_app : ∀ (xs ys out : List Tree),joinA out (xs ++ ys) = joinA (joinA out xs) ys
 | [],ys,out => by simp [joinA]
 | x :: r,ys,out => by simp [joinA,joinA_app r ys]
theorem lastT_snoc (x : Tree) : ∀ (p : Bool) (xs : List Tree),lastT p (xs ++ [x]) = x.text
 | _,[] => rfl
 | p,y :: r => lastT_snoc x y.text r
theorem lastT_get (p : Bool) : ∀ (xs : List Tree),xs ≠ [] → ∃ y,xs[xs.length - 1]? = some y ∧ lastT p xs = y.text
 | [],h => absurd rfl h
 | [x],_ => ⟨x,rfl,rfl⟩
 | x :: y :: r,_ => by
   obtain ⟨z,h1,h2⟩ := lastT_get x.text (y :: r) (by simp)
   exact ⟨z,by simpa using h1,by simpa [lastT] using h2⟩
theorem grow_len (s : Bs) : ∀ (xs : List Tree),(grow s xs).length = xs.length
 | [] => rfl
 | [x] => rfl
 | x :: y :: r => by simp only [grow,List.length_cons,grow_len s (y :: r)]
theorem grow_eq (s : Bs) : ∀ (xs : List Tree) (y : Tree),xs[xs.length - 1]? = some y → grow s xs = xs.set (xs.length - 1) (y.withS (y.s ++ s))
 | [],y,h => by simp at h
 | [x],y,h => by simp at h; subst h; rfl
 | x :: z :: r,y,h => by
   have := grow_eq s (z :: r) y (by simpa using h)
   simp only [grow,this]; simp
mutual
def Tree.jd : Tree → Bool
 | .mk _ _ _ ks => jds false ks
def jds (p : Bool) : List Tree → Bool
 | [] => true
 | x :: r => !(x.text && (p || x.s == [])) && (x.jd && jds x.text r)
end
theorem Tree.jd_eq (x : Tree) : x.jd = jds false x.kids := by cases x; simp [Tree.jd,Tree.kids]
mutual
theorem Tree.jn_id : ∀ x : Tree,x.jd = true → x.jn = x
 | .mk t s as ks,h => by simp only [Tree.jn]; rw [joinA_id [] ks (by simpa [Tree.jd,lastT] using h)]; rfl
theorem joinA_id : ∀ (out l : List Tree),jds (lastT false out) l = true → joinA out l = out ++ l
 | out,[],_ => by simp [joinA]
 | out,x :: r,h => by
   simp only [jds,Bool.and_eq_true] at h
   have hp : push out x = out ++ [x] := by
     unfold push
     cases hx : x.text with
     | false => simp
     | true =>
       have := h.1
       simp only [hx,Bool.true_and,Bool.not_eq_true',Bool.or_eq_false_iff,beq_eq_false_iff_ne] at this
       simp [this.1,this.2]
   simp only [joinA,x.jn_id h.2.1,hp]
   rw [joinA_id _ r (by rw [lastT_snoc]; exact h.2.2)]; simp
end
theorem joined_id {l : List Tree} (h : jds false l = true) : joined l = l := by have := joinA_id [] l (by simpa [lastT] using h); simpa [joined] using this
mutual
theorem Tree.fine_jd : ∀ x : Tree,x.fine = true → x.jd = true ∧ (x.text = true → x.s ≠ [])
 | .mk t s as ks,h => by
   simp only [Tree.fine] at h
   simp only [Tree.jd,Tree.text,Tree.s]
   cases t with
   | true =>
     simp only [if_true,Bool.and_eq_true,bne_iff_ne,beq_iff_eq,List.length_eq_zero_iff] at h
     exact ⟨by rw [h.2.2.2]; rfl,fun _ => h.2.1⟩
   | false =>
     simp only [Bool.false_eq_true,if_false,Bool.and_eq_true] at h
     exact ⟨fines_jds none ks h.2.2,by simp⟩
theorem fines_jds : ∀ (p : Option Bool) (l : List Tree),fines p l = true → jds (p == some true) l = true
 | _,[],_ => rfl
 | p,x :: r,h => by
   simp only [fines,Bool.and_eq_true] at h
   obtain ⟨h1,h2,h3⟩ := h
   obtain ⟨k1,k2⟩ := x.fine_jd h1
   have k3 := fines_jds _ r h3
   have e : (some x.text == some true) = x.text := by cases x.text <;> rfl
   rw [e] at k3
   simp only [jds,Bool.and_eq_true]
   refine ⟨?_,k1,k3⟩
   cases hx : x.text with
   | false => simp
   | true =>
     have := k2 hx
     rw [hx] at h2
     simp at h2
     simp [this]
     cases p <;> simp_all
end
theorem wtT_grow (s : Bs) : ∀ (xs : List Tree),wtT (grow s xs) ≤ wtT xs + s.length
 | [] => by simp [grow,wtT]
 | [x] => by cases x; simp [grow,wtT,Tree.withS,Tree.wt,Tree.text,Tree.s,Tree.attrs,Tree.kids]; omega
 | x :: y :: r => by have := wtT_grow s (y :: r); simp only [grow,wtT] at this ⊢; omega
theorem wtT_push (out : List Tree) (x : Tree) : wtT (push out x) ≤ wtT out + x.wt := by
 unfold push
 split
 · omega
 · split
   · have := wtT_grow x.s out; have := x.wt_eq; omega
   · rw [wtT_app]; simp [wtT]
mutual
theorem Tree.wt_jn : ∀ x : Tree,x.jn.wt ≤ x.wt
 | .mk t s as ks => by have := wtT_joinA [] ks; simp only [Tree.jn,Tree.wt,wtT] at this ⊢; omega
theorem wtT_joinA : ∀ (out l : List Tree),wtT (joinA out l) ≤ wtT out + wtT l
 | out,[] => by simp [joinA,wtT]
 | out,x :: r => by
   have := wtT_joinA (push out x.jn) r
   have := wtT_push out x.jn
   have := x.wt_jn
   simp only [joinA,wtT]; omega
end
theorem wtT_joined (l : List Tree) : wtT (joined l) ≤ wtT l := by have := wtT_joinA [] l; simp only [wtT] at this; unfold joined; omega
end Go.Am
