import Derived.Test.YtfinkeaikbmpgaaKT4
set_option linter.unusedSimpArgs false
set_option linter.unusedVariables false
set_option linter.unnecessarySimpa false
set_option linter.defProp false
/- Trees that are good. -/
namespace Go.Am
open Go Go.RowKit
mutual
def Tree.fy:Tree→Bool
 | .mk t s as ks=>if t then plain s&&(s !=[]&&(as.length==0&&ks.length==0)) else named s&&(fL as&&dT none ks)
def dT:Option Bool→List Tree→Bool
 |_,[]=>true
 |p,x::r=>x.fy&&(!(p==some true&&x.text)&&dT (some x.text) r)
end
def vZ (fP fN D2 Br:Nat):AC:=
(.seq
 (.aM [
  ⟨some 1,none,.box (.t 0)⟩,
  ⟨some 2,none,.ak (.c (.bool false))⟩])
(.seq
 (.seq
  (.aM [
   ⟨some 3,none,.bV (.t 1) 0⟩,
   ⟨some 4,none,.load none (.t 3)⟩])
 (.cond (.t 4)
  (.seq
   (.aM [
    ⟨some 5,none,.bV (.t 1) 1⟩,
    ⟨some 6,none,.load none (.t 5)⟩,
    ⟨some 7,none,.call fP [(.t 6)]⟩,
    ⟨some 8,none,.ak (.t 7)⟩,
    ⟨some 9,(some (8,true)),(.bV (.t 1) 1)⟩,
    ⟨some 10,(some (8,true)),(.load none (.t 9))⟩,
    ⟨some 11,(some (8,true)),(.bin .neq (.t 10) (.c (.str [])))⟩,
    ⟨some 12,none,.pick (.t 8) (.t 11) (.c (.bool false))⟩,
    ⟨some 13,none,.ak (.t 12)⟩,
    ⟨some 14,(some (13,true)),(.bV (.t 1) 2)⟩,
    ⟨some 15,(some (13,true)),(.load none (.t 14))⟩,
    ⟨some 16,(some (13,true)),(.len (.t 15))⟩,
    ⟨some 17,(some (13,true)),(.bin .eql (.t 16) (.c (.int .i64 0)))⟩,
    ⟨some 18,none,.pick (.t 13) (.t 17) (.c (.bool false))⟩,
    ⟨some 19,none,.ak (.t 18)⟩,
    ⟨some 20,(some (19,true)),(.bV (.t 1) 3)⟩,
    ⟨some 21,(some (19,true)),(.load none (.t 20))⟩,
    ⟨some 22,(some (19,true)),(.len (.t 21))⟩,
    ⟨some 23,(some (19,true)),(.bin .eql (.t 22) (.c (.int .i64 0)))⟩,
    ⟨some 24,none,.pick (.t 19) (.t 23) (.c (.bool false))⟩,
    ⟨some 2,none,.ak (.t 24)⟩])
  .ret)
  .skip))
(.seq
 (.aM [
  ⟨some 25,none,.bV (.t 1) 1⟩,
  ⟨some 26,none,.load none (.t 25)⟩,
  ⟨some 27,none,.call fN [(.t 26)]⟩,
  ⟨some 28,none,.ak (.t 27)⟩,
  ⟨some 29,(some (28,true)),(.bV (.t 1) 2)⟩,
  ⟨some 30,(some (28,true)),(.load none (.t 29))⟩,
  ⟨some 31,(some (28,true)),(.call D2 [(.t 30)])⟩,
  ⟨some 32,none,.pick (.t 28) (.t 31) (.c (.bool false))⟩,
  ⟨some 33,none,.ak (.t 32)⟩,
  ⟨some 34,(some (33,true)),(.bV (.t 1) 3)⟩,
  ⟨some 35,(some (33,true)),(.load none (.t 34))⟩,
  ⟨some 36,(some (33,true)),(.call Br [(.t 35)])⟩,
  ⟨some 37,none,.pick (.t 33) (.t 36) (.c (.bool false))⟩,
  ⟨some 2,none,.ak (.t 37)⟩])
.ret)))
def rA (fF:Nat):AC:=
(.seq
 (.aM [
  ⟨some 2,none,.ak (.c (.bool false))⟩])
(.seq
 (.seq
  (.aM [
   ⟨some 5,none,.ak (.t 0)⟩,
   ⟨some 6,none,.len (.t 5)⟩,
   ⟨some 7,none,.ak (.c (.int .i64 0))⟩])
 (.block 0
  (.loop
   (.seq
    (.aM [
     ⟨some 8,none,.bin .lss (.t 7) (.t 6)⟩])
   (.seq
    (.cond (.t 8)
     .skip
     (.exit 0))
   (.seq
    (.block 1
     (.seq
      (.aM [
       ⟨some 9,none,.ak (.t 7)⟩,
       ⟨some 10,none,.fJ (.t 5) (.t 7) 4⟩,
       ⟨some 11,none,.load (some 4) (.t 10)⟩,
       ⟨some 4,none,.new [(.bool false),(.str []),.nil0,.nil0]⟩,
       ⟨some 3,none,.ak (.t 9)⟩,
       ⟨none,none,.store 4 (.t 4) (.t 11)⟩])
     (.seq
      (.aM [
       ⟨some 12,none,.load (some 4) (.t 4)⟩,
       ⟨some 13,none,.call fF [(.t 12)]⟩,
       ⟨some 14,none,.not (.t 13)⟩,
       ⟨some 15,none,.ak (.t 14)⟩,
       ⟨some 16,(some (15,false)),(.ak (.t 3))⟩,
       ⟨some 17,(some (15,false)),(.bin .gtr (.t 16) (.c (.int .i64 0)))⟩,
       ⟨some 18,(some (15,false)),(.ak (.t 17))⟩,
       ⟨some 19,(some (18,true)),(.bV (.t 4) 0)⟩,
       ⟨some 20,(some (18,true)),(.load none (.t 19))⟩,
       ⟨some 21,(some (15,false)),(.pick (.t 18) (.t 20) (.c (.bool false)))⟩,
       ⟨some 22,(some (15,false)),(.ak (.t 21))⟩,
       ⟨some 23,(some (22,true)),(.ak (.t 0))⟩,
       ⟨some 24,(some (22,true)),(.ak (.t 3))⟩,
       ⟨some 25,(some (22,true)),(.bin .sub (.t 24) (.c (.int .i64 1)))⟩,
       ⟨some 26,(some (22,true)),(.fJ (.t 23) (.t 25) 4)⟩,
       ⟨some 27,(some (22,true)),(.bV (.t 26) 0)⟩,
       ⟨some 28,(some (22,true)),(.load none (.t 27))⟩,
       ⟨some 29,(some (15,false)),(.pick (.t 22) (.t 28) (.c (.bool false)))⟩,
       ⟨some 30,none,.pick (.t 15) (.c (.bool true)) (.t 29)⟩])
     (.cond (.t 30)
      (.seq
       (.aM [
        ⟨some 2,none,.ak (.c (.bool false))⟩])
      .ret)
      .skip))))
   (.aM [
    ⟨some 31,none,.bin .add (.t 7) (.c (.int .i64 1))⟩,
    ⟨some 7,none,.ak (.t 31)⟩])))))))
(.seq
 (.aM [
  ⟨some 2,none,.ak (.c (.bool true))⟩])
.ret)))
def v5 (fS fF:Nat):AC:=
(.seq
 (.aM [
  ⟨some 1,none,.box (.t 0)⟩,
  ⟨some 2,none,.ak (.c (.bool false))⟩])
(.seq
 (.aM [
  ⟨some 6,none,.load (some 4) (.t 1)⟩,
  ⟨some 7,none,.call fS [(.t 6)]⟩,
  ⟨some 5,none,.ak (.t 7)⟩,
  ⟨some 8,none,.ext (.t 5) 0⟩,
  ⟨some 9,none,.ext (.t 5) 1⟩,
  ⟨some 3,none,.ak (.t 8)⟩,
  ⟨some 4,none,.ak (.t 9)⟩])
(.seq
 (.aM [
  ⟨some 10,none,.bV (.t 1) 0⟩,
  ⟨some 11,none,.load none (.t 10)⟩,
  ⟨some 12,none,.not (.t 11)⟩,
  ⟨some 13,none,.ak (.t 12)⟩,
  ⟨some 14,(some (13,true)),(.ak (.t 3))⟩,
  ⟨some 15,(some (13,true)),(.bin .leq (.t 14) (.c (.int .i64 8)))⟩,
  ⟨some 16,none,.pick (.t 13) (.t 15) (.c (.bool false))⟩,
  ⟨some 17,none,.ak (.t 16)⟩,
  ⟨some 18,(some (17,true)),(.ak (.t 4))⟩,
  ⟨some 19,(some (17,true)),(.bin .leq (.t 18) (.c (.int .i64 80)))⟩,
  ⟨some 20,none,.pick (.t 17) (.t 19) (.c (.bool false))⟩,
  ⟨some 21,none,.ak (.t 20)⟩,
  ⟨some 22,(some (21,true)),(.load (some 4) (.t 1))⟩,
  ⟨some 23,(some (21,true)),(.call fF [(.t 22)])⟩,
  ⟨some 24,none,.pick (.t 21) (.t 23) (.c (.bool false))⟩,
  ⟨some 2,none,.ak (.t 24)⟩])
.ret)))
theorem Tree.xT (x:Tree) (h:x.text=true):x.fy=(plain x.s&&(x.s !=[]&&(x.attrs.length==0&&x.kids.length==0))):=by
 cases x;simp only[Tree.text] at h;subst h;simp[Tree.fy,Tree.s,Tree.attrs,Tree.kids]
theorem Tree.rB (x:Tree) (h:x.text=false):x.fy=(named x.s&&(fL x.attrs&&dT none x.kids)):=by
 cases x;simp only[Tree.text] at h;subst h;simp[Tree.fy,Tree.s,Tree.attrs,Tree.kids]
theorem G7 {P:Program} {G:Nat→Option (List IV)} {f fP fN D2 Br:Nat} (hF:aA P G f=some (38,[(none,2)],(vZ fP fN D2 Br).bare)) (x:Tree)
  (hP:az P G fP [.str x.s] (.bool (plain x.s))) (hN:az P G fN [.str x.s] (.bool (named x.s))) (hA:az P G D2 [.list (dY x.attrs)] (.bool (fL x.attrs)))
  (Jq:az P G Br [.list (dc x.kids)] (.bool (dT none x.kids))):az P G f [x.av] (.bool x.fy):=by
 refine bm hF (by simp) (by simp[ax,AV.aI,Tree.av]) (by simp[AV.aI]) ?_;unfold vZ
 simp only[↓fk,fl,cF,↓aE,ae,ev,b7,List.getD_cons_zero,List.getD_cons_succ,Nat.reduceEqDiff,if_false,if_true,Nat.reduceLT,Nat.reduceLeDiff,Nat.reduceAdd,Nat.reduceMul,true_and,and_true,List.length_map,bY,AV.cells,List.length_cons,List.length_nil,ai,Lb.loc.injEq,↓aF,↓aT,↓aG,↓bp,↓bn,↓bo,bq,a_,e_,List.getElem?_cons_zero,List.getElem?_cons_succ,Option.bind_some,Option.map_some,List.map_cons,List.map_nil,Int.natCast_nonneg,Int.toNat_natCast,AV.ew,AV.one,List.all_cons,List.all_nil,Bool.and_self,Bool.and_true,Bool.true_and,List.take_succ_cons,List.take_zero,List.drop_succ_cons,List.drop_zero,List.cons_append,List.nil_append,List.append_nil,List.set_cons_zero,IV.cW,Lb.app,Lb.fresh,aP,aQ,aR,aD,reduceCtorEq,Bool.false_eq_true,List.take,List.drop,List.mem_cons,List.not_mem_nil,or_false,bU,cw,forall_eq,false_implies,implies_true,ev,Hp.none,Nat.le_refl,List.set_cons_succ,bu,chunks,eg,AV.iv,eW,List.replicate_one,List.flatten_cons,List.flatten_nil,Nat.zero_mul,Nat.zero_add,Nat.mul_one,Tree.av]
 refine⟨le_max (by decide),?_⟩;cases h0:x.text with
 |true=>
  rw[x.xT h0]
  simp only[↓fk,fl,cF,↓aE,ae,ev,b7,List.getD_cons_zero,List.getD_cons_succ,Nat.reduceEqDiff,if_false,if_true,Nat.reduceLT,Nat.reduceLeDiff,Nat.reduceAdd,Nat.reduceMul,true_and,and_true,List.length_map,bY,AV.cells,List.length_cons,List.length_nil,ai,Lb.loc.injEq,↓aF,↓aT,↓aG,↓bp,↓bn,↓bo,bq,a_,e_,List.getElem?_cons_zero,List.getElem?_cons_succ,Option.bind_some,Option.map_some,List.map_cons,List.map_nil,Int.natCast_nonneg,Int.toNat_natCast,AV.ew,AV.one,List.all_cons,List.all_nil,Bool.and_self,Bool.and_true,Bool.true_and,List.take_succ_cons,List.take_zero,List.drop_succ_cons,List.drop_zero,List.cons_append,List.nil_append,List.append_nil,List.set_cons_zero,IV.cW,Lb.app,Lb.fresh,aP,aQ,aR,aD,reduceCtorEq,Bool.false_eq_true,List.take,List.drop,List.mem_cons,List.not_mem_nil,or_false,bU,cw,forall_eq,false_implies,implies_true,ev,Hp.none,Nat.le_refl,List.set_cons_succ,bu,chunks,eg,AV.iv,eW,List.replicate_one,List.flatten_cons,List.flatten_nil,Nat.zero_mul,Nat.zero_add,Nat.mul_one]
  refine aO hP ?_;cases h1:plain x.s with
  |false=>simp only[↓fk,fl,cF,↓aE,ae,ev,b7,List.getD_cons_zero,List.getD_cons_succ,Nat.reduceEqDiff,if_false,if_true,Nat.reduceLT,Nat.reduceLeDiff,Nat.reduceAdd,Nat.reduceMul,true_and,and_true,List.length_map,bY,AV.cells,List.length_cons,List.length_nil,ai,Lb.loc.injEq,↓aF,↓aT,↓aG,↓bp,↓bn,↓bo,bq,a_,e_,List.getElem?_cons_zero,List.getElem?_cons_succ,Option.bind_some,Option.map_some,List.map_cons,List.map_nil,Int.natCast_nonneg,Int.toNat_natCast,AV.ew,AV.one,List.all_cons,List.all_nil,Bool.and_self,Bool.and_true,Bool.true_and,List.take_succ_cons,List.take_zero,List.drop_succ_cons,List.drop_zero,List.cons_append,List.nil_append,List.append_nil,List.set_cons_zero,IV.cW,Lb.app,Lb.fresh,aP,aQ,aR,aD,reduceCtorEq,Bool.false_eq_true,List.take,List.drop,List.mem_cons,List.not_mem_nil,or_false,bU,cw,forall_eq,false_implies,implies_true,ev,Hp.none,Nat.le_refl,List.set_cons_succ,bu,chunks,eg,AV.iv,eW,List.replicate_one,List.flatten_cons,List.flatten_nil,Nat.zero_mul,Nat.zero_add,Nat.mul_one,Bool.false_and]
  |true=>
   simp only[↓fk,fl,cF,↓aE,ae,ev,b7,List.getD_cons_zero,List.getD_cons_succ,Nat.reduceEqDiff,if_false,if_true,Nat.reduceLT,Nat.reduceLeDiff,Nat.reduceAdd,Nat.reduceMul,true_and,and_true,List.length_map,bY,AV.cells,List.length_cons,List.length_nil,ai,Lb.loc.injEq,↓aF,↓aT,↓aG,↓bp,↓bn,↓bo,bq,a_,e_,List.getElem?_cons_zero,List.getElem?_cons_succ,Option.bind_some,Option.map_some,List.map_cons,List.map_nil,Int.natCast_nonneg,Int.toNat_natCast,AV.ew,AV.one,List.all_cons,List.all_nil,Bool.and_self,Bool.and_true,Bool.true_and,List.take_succ_cons,List.take_zero,List.drop_succ_cons,List.drop_zero,List.cons_append,List.nil_append,List.append_nil,List.set_cons_zero,IV.cW,Lb.app,Lb.fresh,aP,aQ,aR,aD,reduceCtorEq,Bool.false_eq_true,List.take,List.drop,List.mem_cons,List.not_mem_nil,or_false,bU,cw,forall_eq,false_implies,implies_true,ev,Hp.none,Nat.le_refl,List.set_cons_succ,bu,chunks,eg,AV.iv,eW,List.replicate_one,List.flatten_cons,List.flatten_nil,Nat.zero_mul,Nat.zero_add,Nat.mul_one]
   cases h2:(!(x.s==[])) with
   |false=>
    simp only[↓fk,fl,cF,↓aE,ae,ev,b7,List.getD_cons_zero,List.getD_cons_succ,Nat.reduceEqDiff,if_false,if_true,Nat.reduceLT,Nat.reduceLeDiff,Nat.reduceAdd,Nat.reduceMul,true_and,and_true,List.length_map,bY,AV.cells,List.length_cons,List.length_nil,ai,Lb.loc.injEq,↓aF,↓aT,↓aG,↓bp,↓bn,↓bo,bq,a_,e_,List.getElem?_cons_zero,List.getElem?_cons_succ,Option.bind_some,Option.map_some,List.map_cons,List.map_nil,Int.natCast_nonneg,Int.toNat_natCast,AV.ew,AV.one,List.all_cons,List.all_nil,Bool.and_self,Bool.and_true,Bool.true_and,List.take_succ_cons,List.take_zero,List.drop_succ_cons,List.drop_zero,List.cons_append,List.nil_append,List.append_nil,List.set_cons_zero,IV.cW,Lb.app,Lb.fresh,aP,aQ,aR,aD,reduceCtorEq,Bool.false_eq_true,List.take,List.drop,List.mem_cons,List.not_mem_nil,or_false,bU,cw,forall_eq,false_implies,implies_true,ev,Hp.none,Nat.le_refl,List.set_cons_succ,bu,chunks,eg,AV.iv,eW,List.replicate_one,List.flatten_cons,List.flatten_nil,Nat.zero_mul,Nat.zero_add,Nat.mul_one]
    rw[show(x.s !=[])=false from h2];rfl
   |true=>
    simp only[↓fk,fl,cF,↓aE,ae,ev,b7,List.getD_cons_zero,List.getD_cons_succ,Nat.reduceEqDiff,if_false,if_true,Nat.reduceLT,Nat.reduceLeDiff,Nat.reduceAdd,Nat.reduceMul,true_and,and_true,List.length_map,bY,AV.cells,List.length_cons,List.length_nil,ai,Lb.loc.injEq,↓aF,↓aT,↓aG,↓bp,↓bn,↓bo,bq,a_,e_,List.getElem?_cons_zero,List.getElem?_cons_succ,Option.bind_some,Option.map_some,List.map_cons,List.map_nil,Int.natCast_nonneg,Int.toNat_natCast,AV.ew,AV.one,List.all_cons,List.all_nil,Bool.and_self,Bool.and_true,Bool.true_and,List.take_succ_cons,List.take_zero,List.drop_succ_cons,List.drop_zero,List.cons_append,List.nil_append,List.append_nil,List.set_cons_zero,IV.cW,Lb.app,Lb.fresh,aP,aQ,aR,aD,reduceCtorEq,Bool.false_eq_true,List.take,List.drop,List.mem_cons,List.not_mem_nil,or_false,bU,cw,forall_eq,false_implies,implies_true,ev,Hp.none,Nat.le_refl,List.set_cons_succ,bu,chunks,eg,AV.iv,eW,List.replicate_one,List.flatten_cons,List.flatten_nil,Nat.zero_mul,Nat.zero_add,Nat.mul_one,cX,bb]
    rw[show(x.s !=[])=true from h2]
    have e1:((x.attrs.length:Int)==0)=(x.attrs.length==0):=by
     rw[Bool.eq_iff_iff];simp
    have e2:((x.kids.length:Int)==0)=(x.kids.length==0):=by
     rw[Bool.eq_iff_iff];simp
    rw[e1];cases h3:(x.attrs.length==0) with
    |false=>simp only[↓fk,fl,cF,↓aE,ae,ev,b7,List.getD_cons_zero,List.getD_cons_succ,Nat.reduceEqDiff,if_false,if_true,Nat.reduceLT,Nat.reduceLeDiff,Nat.reduceAdd,Nat.reduceMul,true_and,and_true,List.length_map,bY,AV.cells,List.length_cons,List.length_nil,ai,Lb.loc.injEq,↓aF,↓aT,↓aG,↓bp,↓bn,↓bo,bq,a_,e_,List.getElem?_cons_zero,List.getElem?_cons_succ,Option.bind_some,Option.map_some,List.map_cons,List.map_nil,Int.natCast_nonneg,Int.toNat_natCast,AV.ew,AV.one,List.all_cons,List.all_nil,Bool.and_self,Bool.and_true,Bool.true_and,List.take_succ_cons,List.take_zero,List.drop_succ_cons,List.drop_zero,List.cons_append,List.nil_append,List.append_nil,List.set_cons_zero,IV.cW,Lb.app,Lb.fresh,aP,aQ,aR,aD,reduceCtorEq,Bool.false_eq_true,List.take,List.drop,List.mem_cons,List.not_mem_nil,or_false,bU,cw,forall_eq,false_implies,implies_true,ev,Hp.none,Nat.le_refl,List.set_cons_succ,bu,chunks,eg,AV.iv,eW,List.replicate_one,List.flatten_cons,List.flatten_nil,Nat.zero_mul,Nat.zero_add,Nat.mul_one,Bool.false_and]
    |true=>simp only[↓fk,fl,cF,↓aE,ae,ev,b7,List.getD_cons_zero,List.getD_cons_succ,Nat.reduceEqDiff,if_false,if_true,Nat.reduceLT,Nat.reduceLeDiff,Nat.reduceAdd,Nat.reduceMul,true_and,and_true,List.length_map,bY,AV.cells,List.length_cons,List.length_nil,ai,Lb.loc.injEq,↓aF,↓aT,↓aG,↓bp,↓bn,↓bo,bq,a_,e_,List.getElem?_cons_zero,List.getElem?_cons_succ,Option.bind_some,Option.map_some,List.map_cons,List.map_nil,Int.natCast_nonneg,Int.toNat_natCast,AV.ew,AV.one,List.all_cons,List.all_nil,Bool.and_self,Bool.and_true,Bool.true_and,List.take_succ_cons,List.take_zero,List.drop_succ_cons,List.drop_zero,List.cons_append,List.nil_append,List.append_nil,List.set_cons_zero,IV.cW,Lb.app,Lb.fresh,aP,aQ,aR,aD,reduceCtorEq,Bool.false_eq_true,List.take,List.drop,List.mem_cons,List.not_mem_nil,or_false,bU,cw,forall_eq,false_implies,implies_true,ev,Hp.none,Nat.le_refl,List.set_cons_succ,bu,chunks,eg,AV.iv,eW,List.replicate_one,List.flatten_cons,List.flatten_nil,Nat.zero_mul,Nat.zero_add,Nat.mul_one,bb,e2]
 |false=>
  rw[x.rB h0]
  simp only[↓fk,fl,cF,↓aE,ae,ev,b7,List.getD_cons_zero,List.getD_cons_succ,Nat.reduceEqDiff,if_false,if_true,Nat.reduceLT,Nat.reduceLeDiff,Nat.reduceAdd,Nat.reduceMul,true_and,and_true,List.length_map,bY,AV.cells,List.length_cons,List.length_nil,ai,Lb.loc.injEq,↓aF,↓aT,↓aG,↓bp,↓bn,↓bo,bq,a_,e_,List.getElem?_cons_zero,List.getElem?_cons_succ,Option.bind_some,Option.map_some,List.map_cons,List.map_nil,Int.natCast_nonneg,Int.toNat_natCast,AV.ew,AV.one,List.all_cons,List.all_nil,Bool.and_self,Bool.and_true,Bool.true_and,List.take_succ_cons,List.take_zero,List.drop_succ_cons,List.drop_zero,List.cons_append,List.nil_append,List.append_nil,List.set_cons_zero,IV.cW,Lb.app,Lb.fresh,aP,aQ,aR,aD,reduceCtorEq,Bool.false_eq_true,List.take,List.drop,List.mem_cons,List.not_mem_nil,or_false,bU,cw,forall_eq,false_implies,implies_true,ev,Hp.none,Nat.le_refl,List.set_cons_succ,bu,chunks,eg,AV.iv,eW,List.replicate_one,List.flatten_cons,List.flatten_nil,Nat.zero_mul,Nat.zero_add,Nat.mul_one]
  refine aO hN ?_;cases h1:named x.s with
  |false=>simp only[↓fk,fl,cF,↓aE,ae,ev,b7,List.getD_cons_zero,List.getD_cons_succ,Nat.reduceEqDiff,if_false,if_true,Nat.reduceLT,Nat.reduceLeDiff,Nat.reduceAdd,Nat.reduceMul,true_and,and_true,List.length_map,bY,AV.cells,List.length_cons,List.length_nil,ai,Lb.loc.injEq,↓aF,↓aT,↓aG,↓bp,↓bn,↓bo,bq,a_,e_,List.getElem?_cons_zero,List.getElem?_cons_succ,Option.bind_some,Option.map_some,List.map_cons,List.map_nil,Int.natCast_nonneg,Int.toNat_natCast,AV.ew,AV.one,List.all_cons,List.all_nil,Bool.and_self,Bool.and_true,Bool.true_and,List.take_succ_cons,List.take_zero,List.drop_succ_cons,List.drop_zero,List.cons_append,List.nil_append,List.append_nil,List.set_cons_zero,IV.cW,Lb.app,Lb.fresh,aP,aQ,aR,aD,reduceCtorEq,Bool.false_eq_true,List.take,List.drop,List.mem_cons,List.not_mem_nil,or_false,bU,cw,forall_eq,false_implies,implies_true,ev,Hp.none,Nat.le_refl,List.set_cons_succ,bu,chunks,eg,AV.iv,eW,List.replicate_one,List.flatten_cons,List.flatten_nil,Nat.zero_mul,Nat.zero_add,Nat.mul_one,Bool.false_and]
  |true=>
   simp only[↓fk,fl,cF,↓aE,ae,ev,b7,List.getD_cons_zero,List.getD_cons_succ,Nat.reduceEqDiff,if_false,if_true,Nat.reduceLT,Nat.reduceLeDiff,Nat.reduceAdd,Nat.reduceMul,true_and,and_true,List.length_map,bY,AV.cells,List.length_cons,List.length_nil,ai,Lb.loc.injEq,↓aF,↓aT,↓aG,↓bp,↓bn,↓bo,bq,a_,e_,List.getElem?_cons_zero,List.getElem?_cons_succ,Option.bind_some,Option.map_some,List.map_cons,List.map_nil,Int.natCast_nonneg,Int.toNat_natCast,AV.ew,AV.one,List.all_cons,List.all_nil,Bool.and_self,Bool.and_true,Bool.true_and,List.take_succ_cons,List.take_zero,List.drop_succ_cons,List.drop_zero,List.cons_append,List.nil_append,List.append_nil,List.set_cons_zero,IV.cW,Lb.app,Lb.fresh,aP,aQ,aR,aD,reduceCtorEq,Bool.false_eq_true,List.take,List.drop,List.mem_cons,List.not_mem_nil,or_false,bU,cw,forall_eq,false_implies,implies_true,ev,Hp.none,Nat.le_refl,List.set_cons_succ,bu,chunks,eg,AV.iv,eW,List.replicate_one,List.flatten_cons,List.flatten_nil,Nat.zero_mul,Nat.zero_add,Nat.mul_one]
   refine aO hA ?_;cases h2:fL x.attrs with
   |false=>simp only[↓fk,fl,cF,↓aE,ae,ev,b7,List.getD_cons_zero,List.getD_cons_succ,Nat.reduceEqDiff,if_false,if_true,Nat.reduceLT,Nat.reduceLeDiff,Nat.reduceAdd,Nat.reduceMul,true_and,and_true,List.length_map,bY,AV.cells,List.length_cons,List.length_nil,ai,Lb.loc.injEq,↓aF,↓aT,↓aG,↓bp,↓bn,↓bo,bq,a_,e_,List.getElem?_cons_zero,List.getElem?_cons_succ,Option.bind_some,Option.map_some,List.map_cons,List.map_nil,Int.natCast_nonneg,Int.toNat_natCast,AV.ew,AV.one,List.all_cons,List.all_nil,Bool.and_self,Bool.and_true,Bool.true_and,List.take_succ_cons,List.take_zero,List.drop_succ_cons,List.drop_zero,List.cons_append,List.nil_append,List.append_nil,List.set_cons_zero,IV.cW,Lb.app,Lb.fresh,aP,aQ,aR,aD,reduceCtorEq,Bool.false_eq_true,List.take,List.drop,List.mem_cons,List.not_mem_nil,or_false,bU,cw,forall_eq,false_implies,implies_true,ev,Hp.none,Nat.le_refl,List.set_cons_succ,bu,chunks,eg,AV.iv,eW,List.replicate_one,List.flatten_cons,List.flatten_nil,Nat.zero_mul,Nat.zero_add,Nat.mul_one,Bool.false_and]
   |true=>
    simp only[↓fk,fl,cF,↓aE,ae,ev,b7,List.getD_cons_zero,List.getD_cons_succ,Nat.reduceEqDiff,if_false,if_true,Nat.reduceLT,Nat.reduceLeDiff,Nat.reduceAdd,Nat.reduceMul,true_and,and_true,List.length_map,bY,AV.cells,List.length_cons,List.length_nil,ai,Lb.loc.injEq,↓aF,↓aT,↓aG,↓bp,↓bn,↓bo,bq,a_,e_,List.getElem?_cons_zero,List.getElem?_cons_succ,Option.bind_some,Option.map_some,List.map_cons,List.map_nil,Int.natCast_nonneg,Int.toNat_natCast,AV.ew,AV.one,List.all_cons,List.all_nil,Bool.and_self,Bool.and_true,Bool.true_and,List.take_succ_cons,List.take_zero,List.drop_succ_cons,List.drop_zero,List.cons_append,List.nil_append,List.append_nil,List.set_cons_zero,IV.cW,Lb.app,Lb.fresh,aP,aQ,aR,aD,reduceCtorEq,Bool.false_eq_true,List.take,List.drop,List.mem_cons,List.not_mem_nil,or_false,bU,cw,forall_eq,false_implies,implies_true,ev,Hp.none,Nat.le_refl,List.set_cons_succ,bu,chunks,eg,AV.iv,eW,List.replicate_one,List.flatten_cons,List.flatten_nil,Nat.zero_mul,Nat.zero_add,Nat.mul_one]
    refine aO Jq ?_
    simp only[↓fk,fl,cF,↓aE,ae,ev,b7,List.getD_cons_zero,List.getD_cons_succ,Nat.reduceEqDiff,if_false,if_true,Nat.reduceLT,Nat.reduceLeDiff,Nat.reduceAdd,Nat.reduceMul,true_and,and_true,List.length_map,bY,AV.cells,List.length_cons,List.length_nil,ai,Lb.loc.injEq,↓aF,↓aT,↓aG,↓bp,↓bn,↓bo,bq,a_,e_,List.getElem?_cons_zero,List.getElem?_cons_succ,Option.bind_some,Option.map_some,List.map_cons,List.map_nil,Int.natCast_nonneg,Int.toNat_natCast,AV.ew,AV.one,List.all_cons,List.all_nil,Bool.and_self,Bool.and_true,Bool.true_and,List.take_succ_cons,List.take_zero,List.drop_succ_cons,List.drop_zero,List.cons_append,List.nil_append,List.append_nil,List.set_cons_zero,IV.cW,Lb.app,Lb.fresh,aP,aQ,aR,aD,reduceCtorEq,Bool.false_eq_true,List.take,List.drop,List.mem_cons,List.not_mem_nil,or_false,bU,cw,forall_eq,false_implies,implies_true,ev,Hp.none,Nat.le_refl,List.set_cons_succ,bu,chunks,eg,AV.iv,eW,List.replicate_one,List.flatten_cons,List.flatten_nil,Nat.zero_mul,Nat.zero_add,Nat.mul_one]
def nF (ks:List Tree) (i:Nat):Option Bool:=if i=0 then none else(ks[i - 1]?).map Tree.text
def Cu (ks:List Tree) (i:Nat):Env:=put (put (put (put Env.any 0 (.list (dc ks))) 5 (.list (dc ks))) 6 (.int .i64 ks.length)) 7 (.int .i64 i)
theorem Jr {P : Program} {G : Nat → Option (List IV)} {f fF : Nat} (hF : aA P G f = some (32,[(none,2)],(rA fF).bare)) (ks : List Tree) (hx : ks.length ≤ B)
   (hK:∀k∈ks,az P G fF [k.av] (.bool k.fy)):az P G f [.list (dc ks)] (.bool (dT none ks)):=by
 refine bm hF (by simp) (by simp[ax,AV.aI]) (by simp[AV.aI]) ?_
 unfold rA
 simp only[↓fk,fl,cF,↓aE,ae,ev,b7,List.getD_cons_zero,List.getD_cons_succ,Nat.reduceEqDiff,if_false,if_true,Nat.reduceLT,Nat.reduceLeDiff,Nat.reduceAdd,Nat.reduceMul,true_and,and_true,List.length_map,bY,AV.cells,List.length_cons,List.length_nil,ai,Lb.loc.injEq,↓aF,↓aT,↓aG,↓bp,↓bn,↓bo,bq,a_,e_,List.getElem?_cons_zero,List.getElem?_cons_succ,Option.bind_some,Option.map_some,List.map_cons,List.map_nil,Int.natCast_nonneg,Int.toNat_natCast,AV.ew,AV.one,List.all_cons,List.all_nil,Bool.and_self,Bool.and_true,Bool.true_and,List.take_succ_cons,List.take_zero,List.drop_succ_cons,List.drop_zero,List.cons_append,List.nil_append,List.append_nil,List.set_cons_zero,IV.cW,Lb.app,Lb.fresh,aP,aQ,aR,aD,reduceCtorEq,Bool.false_eq_true,List.take,List.drop,List.mem_cons,List.not_mem_nil,or_false,bU,cw,forall_eq,false_implies,implies_true,ev,Hp.none,Nat.le_refl,List.set_cons_succ,bu,chunks,eg,AV.iv,eW,List.replicate_one,List.flatten_cons,List.flatten_nil,Nat.zero_mul,Nat.zero_add,Nat.mul_one,bb]
 refine iQ (σ:={i:Nat // i≤ks.length∧dT none ks=dT (nF ks i) (ks.drop i)}) (fun q=>Cu ks q.1) (fun _=>Hp.none) (fun q=>ks.length - q.1) ⟨0,by simp[nF]⟩ id ?_ ?_
 · refine .none ?_ ?_
   · exact bJ rfl (bJ rfl (bJ rfl (bJ rfl (gk _ _))))
   · exact bK (by simp[AV.aI]) (bK (by simp[AV.aI]) (bK (by simp[AV.aI]) (bK (by simp[AV.aI]) (gl _))))
 · rintro ⟨i,hi,hs⟩
   simp only[↓fk,fl,cF,↓aE,ae,ev,b7,List.getD_cons_zero,List.getD_cons_succ,Nat.reduceEqDiff,if_false,if_true,Nat.reduceLT,Nat.reduceLeDiff,Nat.reduceAdd,Nat.reduceMul,true_and,and_true,List.length_map,bY,AV.cells,List.length_cons,List.length_nil,ai,Lb.loc.injEq,↓aF,↓aT,↓aG,↓bp,↓bn,↓bo,bq,a_,e_,List.getElem?_cons_zero,List.getElem?_cons_succ,Option.bind_some,Option.map_some,List.map_cons,List.map_nil,Int.natCast_nonneg,Int.toNat_natCast,AV.ew,AV.one,List.all_cons,List.all_nil,Bool.and_self,Bool.and_true,Bool.true_and,List.take_succ_cons,List.take_zero,List.drop_succ_cons,List.drop_zero,List.cons_append,List.nil_append,List.append_nil,List.set_cons_zero,IV.cW,Lb.app,Lb.fresh,aP,aQ,aR,aD,reduceCtorEq,Bool.false_eq_true,List.take,List.drop,List.mem_cons,List.not_mem_nil,or_false,bU,cw,forall_eq,false_implies,implies_true,ev,Hp.none,Nat.le_refl,List.set_cons_succ,bu,chunks,eg,AV.iv,eW,List.replicate_one,List.flatten_cons,List.flatten_nil,Nat.zero_mul,Nat.zero_add,Nat.mul_one,Cu,bb]
   by_cases cj:i<ks.length
   · rw[show decide ((i:Int)<(ks.length:Int))=true by simpa using cj]
     obtain⟨k,hk⟩:∃k,ks[i]?=some k:=⟨_,List.getElem?_eq_getElem cj⟩
     have hw:IntKind.i64.wrap ((i:Int)+1)=((i+1:Nat):Int):=wrap64 (by omega) (by unfold B at hx;omega)
     have hd:ks.drop i=k::ks.drop (i+1):=by
       rw[List.drop_eq_getElem_cons cj]
       rw[List.getElem?_eq_getElem cj] at hk;cases hk;rfl
     have ed:nF ks (i+1)=some k.text:=by simp[nF,hk]
     have v7:dT none ks=(k.fy&&(!(nF ks i==some true&&k.text)&&dT (some k.text) (ks.drop (i+1)))):=by rw[hs,hd];simp only[dT]
     have next:(k.fy&& !(nF ks i==some true&&k.text))=true→∃q:{i:Nat // i≤ks.length∧dT none ks=dT (nF ks i) (ks.drop i)},q.1=i+1:=fun h=>by
       rw[Bool.and_eq_true] at h
       exact⟨⟨i+1,cj,by rw[ed,v7,h.1,h.2];rfl⟩,rfl⟩
     simp only[↓fk,fl,cF,↓aE,ae,ev,b7,List.getD_cons_zero,List.getD_cons_succ,Nat.reduceEqDiff,if_false,if_true,Nat.reduceLT,Nat.reduceLeDiff,Nat.reduceAdd,Nat.reduceMul,true_and,and_true,List.length_map,bY,AV.cells,List.length_cons,List.length_nil,ai,Lb.loc.injEq,↓aF,↓aT,↓aG,↓bp,↓bn,↓bo,bq,a_,e_,List.getElem?_cons_zero,List.getElem?_cons_succ,Option.bind_some,Option.map_some,List.map_cons,List.map_nil,Int.natCast_nonneg,Int.toNat_natCast,AV.ew,AV.one,List.all_cons,List.all_nil,Bool.and_self,Bool.and_true,Bool.true_and,List.take_succ_cons,List.take_zero,List.drop_succ_cons,List.drop_zero,List.cons_append,List.nil_append,List.append_nil,List.set_cons_zero,IV.cW,Lb.app,Lb.fresh,aP,aQ,aR,aD,reduceCtorEq,Bool.false_eq_true,List.take,List.drop,List.mem_cons,List.not_mem_nil,or_false,bU,cw,forall_eq,false_implies,implies_true,ev,Hp.none,Nat.le_refl,List.set_cons_succ,bu,chunks,eg,AV.iv,eW,List.replicate_one,List.flatten_cons,List.flatten_nil,Nat.zero_mul,Nat.zero_add,Nat.mul_one,gC,hk,l9,Tree.bL,Tree.cs]
     refine⟨le_max (by decide),aO (hK k (List.mem_of_getElem? hk)) ?_⟩
     cases h1:k.fy with
     |false=>
       simp only[↓fk,fl,cF,↓aE,ae,ev,b7,List.getD_cons_zero,List.getD_cons_succ,Nat.reduceEqDiff,if_false,if_true,Nat.reduceLT,Nat.reduceLeDiff,Nat.reduceAdd,Nat.reduceMul,true_and,and_true,List.length_map,bY,AV.cells,List.length_cons,List.length_nil,ai,Lb.loc.injEq,↓aF,↓aT,↓aG,↓bp,↓bn,↓bo,bq,a_,e_,List.getElem?_cons_zero,List.getElem?_cons_succ,Option.bind_some,Option.map_some,List.map_cons,List.map_nil,Int.natCast_nonneg,Int.toNat_natCast,AV.ew,AV.one,List.all_cons,List.all_nil,Bool.and_self,Bool.and_true,Bool.true_and,List.take_succ_cons,List.take_zero,List.drop_succ_cons,List.drop_zero,List.cons_append,List.nil_append,List.append_nil,List.set_cons_zero,IV.cW,Lb.app,Lb.fresh,aP,aQ,aR,aD,reduceCtorEq,Bool.false_eq_true,List.take,List.drop,List.mem_cons,List.not_mem_nil,or_false,bU,cw,forall_eq,false_implies,implies_true,ev,Hp.none,Nat.le_refl,List.set_cons_succ,bu,chunks,eg,AV.iv,eW,List.replicate_one,List.flatten_cons,List.flatten_nil,Nat.zero_mul,Nat.zero_add,Nat.mul_one,Bool.not_false]
       rw[v7,h1];rfl
     |true=>
       simp only[↓fk,fl,cF,↓aE,ae,ev,b7,List.getD_cons_zero,List.getD_cons_succ,Nat.reduceEqDiff,if_false,if_true,Nat.reduceLT,Nat.reduceLeDiff,Nat.reduceAdd,Nat.reduceMul,true_and,and_true,List.length_map,bY,AV.cells,List.length_cons,List.length_nil,ai,Lb.loc.injEq,↓aF,↓aT,↓aG,↓bp,↓bn,↓bo,bq,a_,e_,List.getElem?_cons_zero,List.getElem?_cons_succ,Option.bind_some,Option.map_some,List.map_cons,List.map_nil,Int.natCast_nonneg,Int.toNat_natCast,AV.ew,AV.one,List.all_cons,List.all_nil,Bool.and_self,Bool.and_true,Bool.true_and,List.take_succ_cons,List.take_zero,List.drop_succ_cons,List.drop_zero,List.cons_append,List.nil_append,List.append_nil,List.set_cons_zero,IV.cW,Lb.app,Lb.fresh,aP,aQ,aR,aD,reduceCtorEq,Bool.false_eq_true,List.take,List.drop,List.mem_cons,List.not_mem_nil,or_false,bU,cw,forall_eq,false_implies,implies_true,ev,Hp.none,Nat.le_refl,List.set_cons_succ,bu,chunks,eg,AV.iv,eW,List.replicate_one,List.flatten_cons,List.flatten_nil,Nat.zero_mul,Nat.zero_add,Nat.mul_one,Bool.not_true]
       by_cases h3:i=0
       · subst h3
         rw[show decide (((0:Nat):Int)>0)=false by simp]
         obtain⟨q,hq⟩:=next (by rw[h1];simp[nF])
         simp only[↓fk,fl,cF,↓aE,ae,ev,b7,List.getD_cons_zero,List.getD_cons_succ,Nat.reduceEqDiff,if_false,if_true,Nat.reduceLT,Nat.reduceLeDiff,Nat.reduceAdd,Nat.reduceMul,true_and,and_true,List.length_map,bY,AV.cells,List.length_cons,List.length_nil,ai,Lb.loc.injEq,↓aF,↓aT,↓aG,↓bp,↓bn,↓bo,bq,a_,e_,List.getElem?_cons_zero,List.getElem?_cons_succ,Option.bind_some,Option.map_some,List.map_cons,List.map_nil,Int.natCast_nonneg,Int.toNat_natCast,AV.ew,AV.one,List.all_cons,List.all_nil,Bool.and_self,Bool.and_true,Bool.true_and,List.take_succ_cons,List.take_zero,List.drop_succ_cons,List.drop_zero,List.cons_append,List.nil_append,List.append_nil,List.set_cons_zero,IV.cW,Lb.app,Lb.fresh,aP,aQ,aR,aD,reduceCtorEq,Bool.false_eq_true,List.take,List.drop,List.mem_cons,List.not_mem_nil,or_false,bU,cw,forall_eq,false_implies,implies_true,ev,Hp.none,Nat.le_refl,List.set_cons_succ,bu,chunks,eg,AV.iv,eW,List.replicate_one,List.flatten_cons,List.flatten_nil,Nat.zero_mul,Nat.zero_add,Nat.mul_one,hw]
         refine⟨q,by omega,id,.drop ?_ ?_ ?_⟩
         · rw[hq];exact bJ rfl (bJ rfl (bJ rfl (bJ rfl (gk _ _))))
         · exact bK (by simp[AV.aI]) (bK (by simp[AV.aI]) (bK (by simp[AV.aI]) (bK (by simp[AV.aI]) (gl _))))
         · exact iA (iA lJ)
       · rw[show decide ((i:Int)>0)=true by simp;omega]
         obtain⟨p,hp⟩:∃p,ks[i - 1]?=some p:=⟨_,List.getElem?_eq_getElem (by omega)⟩
         have P3:nF ks i=some p.text:=by simp[nF,h3,hp]
         have mT:IntKind.i64.wrap ((i:Int) - 1)=((i - 1:Nat):Int):=by rw[wrap64 (by omega) (by unfold B at hx;omega)];omega
         simp only[↓fk,fl,cF,↓aE,ae,ev,b7,List.getD_cons_zero,List.getD_cons_succ,Nat.reduceEqDiff,if_false,if_true,Nat.reduceLT,Nat.reduceLeDiff,Nat.reduceAdd,Nat.reduceMul,true_and,and_true,List.length_map,bY,AV.cells,List.length_cons,List.length_nil,ai,Lb.loc.injEq,↓aF,↓aT,↓aG,↓bp,↓bn,↓bo,bq,a_,e_,List.getElem?_cons_zero,List.getElem?_cons_succ,Option.bind_some,Option.map_some,List.map_cons,List.map_nil,Int.natCast_nonneg,Int.toNat_natCast,AV.ew,AV.one,List.all_cons,List.all_nil,Bool.and_self,Bool.and_true,Bool.true_and,List.take_succ_cons,List.take_zero,List.drop_succ_cons,List.drop_zero,List.cons_append,List.nil_append,List.append_nil,List.set_cons_zero,IV.cW,Lb.app,Lb.fresh,aP,aQ,aR,aD,reduceCtorEq,Bool.false_eq_true,List.take,List.drop,List.mem_cons,List.not_mem_nil,or_false,bU,cw,forall_eq,false_implies,implies_true,ev,Hp.none,Nat.le_refl,List.set_cons_succ,bu,chunks,eg,AV.iv,eW,List.replicate_one,List.flatten_cons,List.flatten_nil,Nat.zero_mul,Nat.zero_add,Nat.mul_one]
         cases h2:k.text with
         |false=>
           obtain⟨q,hq⟩:=next (by rw[h1,h2];simp)
           simp only[↓fk,fl,cF,↓aE,ae,ev,b7,List.getD_cons_zero,List.getD_cons_succ,Nat.reduceEqDiff,if_false,if_true,Nat.reduceLT,Nat.reduceLeDiff,Nat.reduceAdd,Nat.reduceMul,true_and,and_true,List.length_map,bY,AV.cells,List.length_cons,List.length_nil,ai,Lb.loc.injEq,↓aF,↓aT,↓aG,↓bp,↓bn,↓bo,bq,a_,e_,List.getElem?_cons_zero,List.getElem?_cons_succ,Option.bind_some,Option.map_some,List.map_cons,List.map_nil,Int.natCast_nonneg,Int.toNat_natCast,AV.ew,AV.one,List.all_cons,List.all_nil,Bool.and_self,Bool.and_true,Bool.true_and,List.take_succ_cons,List.take_zero,List.drop_succ_cons,List.drop_zero,List.cons_append,List.nil_append,List.append_nil,List.set_cons_zero,IV.cW,Lb.app,Lb.fresh,aP,aQ,aR,aD,reduceCtorEq,Bool.false_eq_true,List.take,List.drop,List.mem_cons,List.not_mem_nil,or_false,bU,cw,forall_eq,false_implies,implies_true,ev,Hp.none,Nat.le_refl,List.set_cons_succ,bu,chunks,eg,AV.iv,eW,List.replicate_one,List.flatten_cons,List.flatten_nil,Nat.zero_mul,Nat.zero_add,Nat.mul_one,hw]
           refine⟨q,by omega,id,.drop ?_ ?_ ?_⟩
           · rw[hq];exact bJ rfl (bJ rfl (bJ rfl (bJ rfl (gk _ _))))
           · exact bK (by simp[AV.aI]) (bK (by simp[AV.aI]) (bK (by simp[AV.aI]) (bK (by simp[AV.aI]) (gl _))))
           · exact iA (iA lJ)
         |true=>
           simp only[↓fk,fl,cF,↓aE,ae,ev,b7,List.getD_cons_zero,List.getD_cons_succ,Nat.reduceEqDiff,if_false,if_true,Nat.reduceLT,Nat.reduceLeDiff,Nat.reduceAdd,Nat.reduceMul,true_and,and_true,List.length_map,bY,AV.cells,List.length_cons,List.length_nil,ai,Lb.loc.injEq,↓aF,↓aT,↓aG,↓bp,↓bn,↓bo,bq,a_,e_,List.getElem?_cons_zero,List.getElem?_cons_succ,Option.bind_some,Option.map_some,List.map_cons,List.map_nil,Int.natCast_nonneg,Int.toNat_natCast,AV.ew,AV.one,List.all_cons,List.all_nil,Bool.and_self,Bool.and_true,Bool.true_and,List.take_succ_cons,List.take_zero,List.drop_succ_cons,List.drop_zero,List.cons_append,List.nil_append,List.append_nil,List.set_cons_zero,IV.cW,Lb.app,Lb.fresh,aP,aQ,aR,aD,reduceCtorEq,Bool.false_eq_true,List.take,List.drop,List.mem_cons,List.not_mem_nil,or_false,bU,cw,forall_eq,false_implies,implies_true,ev,Hp.none,Nat.le_refl,List.set_cons_succ,bu,chunks,eg,AV.iv,eW,List.replicate_one,List.flatten_cons,List.flatten_nil,Nat.zero_mul,Nat.zero_add,Nat.mul_one,mT,gC,hp,l9,Tree.bL,Tree.cs]
           cases h4:p.text with
           |true=>
             simp only[↓fk,fl,cF,↓aE,ae,ev,b7,List.getD_cons_zero,List.getD_cons_succ,Nat.reduceEqDiff,if_false,if_true,Nat.reduceLT,Nat.reduceLeDiff,Nat.reduceAdd,Nat.reduceMul,true_and,and_true,List.length_map,bY,AV.cells,List.length_cons,List.length_nil,ai,Lb.loc.injEq,↓aF,↓aT,↓aG,↓bp,↓bn,↓bo,bq,a_,e_,List.getElem?_cons_zero,List.getElem?_cons_succ,Option.bind_some,Option.map_some,List.map_cons,List.map_nil,Int.natCast_nonneg,Int.toNat_natCast,AV.ew,AV.one,List.all_cons,List.all_nil,Bool.and_self,Bool.and_true,Bool.true_and,List.take_succ_cons,List.take_zero,List.drop_succ_cons,List.drop_zero,List.cons_append,List.nil_append,List.append_nil,List.set_cons_zero,IV.cW,Lb.app,Lb.fresh,aP,aQ,aR,aD,reduceCtorEq,Bool.false_eq_true,List.take,List.drop,List.mem_cons,List.not_mem_nil,or_false,bU,cw,forall_eq,false_implies,implies_true,ev,Hp.none,Nat.le_refl,List.set_cons_succ,bu,chunks,eg,AV.iv,eW,List.replicate_one,List.flatten_cons,List.flatten_nil,Nat.zero_mul,Nat.zero_add,Nat.mul_one]
             rw[v7,P3,h1,h2,h4];rfl
           |false=>
             obtain⟨q,hq⟩:=next (by rw[h1,h2,P3,h4];rfl)
             simp only[↓fk,fl,cF,↓aE,ae,ev,b7,List.getD_cons_zero,List.getD_cons_succ,Nat.reduceEqDiff,if_false,if_true,Nat.reduceLT,Nat.reduceLeDiff,Nat.reduceAdd,Nat.reduceMul,true_and,and_true,List.length_map,bY,AV.cells,List.length_cons,List.length_nil,ai,Lb.loc.injEq,↓aF,↓aT,↓aG,↓bp,↓bn,↓bo,bq,a_,e_,List.getElem?_cons_zero,List.getElem?_cons_succ,Option.bind_some,Option.map_some,List.map_cons,List.map_nil,Int.natCast_nonneg,Int.toNat_natCast,AV.ew,AV.one,List.all_cons,List.all_nil,Bool.and_self,Bool.and_true,Bool.true_and,List.take_succ_cons,List.take_zero,List.drop_succ_cons,List.drop_zero,List.cons_append,List.nil_append,List.append_nil,List.set_cons_zero,IV.cW,Lb.app,Lb.fresh,aP,aQ,aR,aD,reduceCtorEq,Bool.false_eq_true,List.take,List.drop,List.mem_cons,List.not_mem_nil,or_false,bU,cw,forall_eq,false_implies,implies_true,ev,Hp.none,Nat.le_refl,List.set_cons_succ,bu,chunks,eg,AV.iv,eW,List.replicate_one,List.flatten_cons,List.flatten_nil,Nat.zero_mul,Nat.zero_add,Nat.mul_one,hw]
             refine⟨q,by omega,id,.drop ?_ ?_ ?_⟩
             · rw[hq];exact bJ rfl (bJ rfl (bJ rfl (bJ rfl (gk _ _))))
             · exact bK (by simp[AV.aI]) (bK (by simp[AV.aI]) (bK (by simp[AV.aI]) (bK (by simp[AV.aI]) (gl _))))
             · exact iA (iA lJ)
   · rw[show decide ((i:Int)<(ks.length:Int))=false by simpa using cj]
     simp only[↓fk,fl,cF,↓aE,ae,ev,b7,List.getD_cons_zero,List.getD_cons_succ,Nat.reduceEqDiff,if_false,if_true,Nat.reduceLT,Nat.reduceLeDiff,Nat.reduceAdd,Nat.reduceMul,true_and,and_true,List.length_map,bY,AV.cells,List.length_cons,List.length_nil,ai,Lb.loc.injEq,↓aF,↓aT,↓aG,↓bp,↓bn,↓bo,bq,a_,e_,List.getElem?_cons_zero,List.getElem?_cons_succ,Option.bind_some,Option.map_some,List.map_cons,List.map_nil,Int.natCast_nonneg,Int.toNat_natCast,AV.ew,AV.one,List.all_cons,List.all_nil,Bool.and_self,Bool.and_true,Bool.true_and,List.take_succ_cons,List.take_zero,List.drop_succ_cons,List.drop_zero,List.cons_append,List.nil_append,List.append_nil,List.set_cons_zero,IV.cW,Lb.app,Lb.fresh,aP,aQ,aR,aD,reduceCtorEq,Bool.false_eq_true,List.take,List.drop,List.mem_cons,List.not_mem_nil,or_false,bU,cw,forall_eq,false_implies,implies_true,ev,Hp.none,Nat.le_refl,List.set_cons_succ,bu,chunks,eg,AV.iv,eW,List.replicate_one,List.flatten_cons,List.flatten_nil,Nat.zero_mul,Nat.zero_add,Nat.mul_one,bb]
     rw[hs,List.drop_eq_nil_of_le (by omega)];rfl
def Tree.iu (x:Tree):Bool:= !x.text&&(decide ((x.dep:Int)≤8)&&(decide ((x.dg:Int)≤80)&&x.fy))
theorem LN {P:Program} {G:Nat→Option (List IV)} {f fS fF:Nat} (hF:aA P G f=some (25,[(none,2)],(v5 fS fF).bare)) (x:Tree)
  (hS:az P G fS [x.av] (.dU [.int .i64 x.dep,.int .i64 x.dg])) (hK:az P G fF [x.av] (.bool x.fy)):az P G f [x.av] (.bool x.iu):=by
 refine bm hF (by simp) (by simp[ax,AV.aI,Tree.av]) (by simp[AV.aI]) ?_;unfold v5
 simp only[↓fk,fl,cF,↓aE,ae,ev,b7,List.getD_cons_zero,List.getD_cons_succ,Nat.reduceEqDiff,if_false,if_true,Nat.reduceLT,Nat.reduceLeDiff,Nat.reduceAdd,Nat.reduceMul,true_and,and_true,List.length_map,bY,AV.cells,List.length_cons,List.length_nil,ai,Lb.loc.injEq,↓aF,↓aT,↓aG,↓bp,↓bn,↓bo,bq,a_,e_,List.getElem?_cons_zero,List.getElem?_cons_succ,Option.bind_some,Option.map_some,List.map_cons,List.map_nil,Int.natCast_nonneg,Int.toNat_natCast,AV.ew,AV.one,List.all_cons,List.all_nil,Bool.and_self,Bool.and_true,Bool.true_and,List.take_succ_cons,List.take_zero,List.drop_succ_cons,List.drop_zero,List.cons_append,List.nil_append,List.append_nil,List.set_cons_zero,IV.cW,Lb.app,Lb.fresh,aP,aQ,aR,aD,reduceCtorEq,Bool.false_eq_true,List.take,List.drop,List.mem_cons,List.not_mem_nil,or_false,bU,cw,forall_eq,false_implies,implies_true,ev,Hp.none,Nat.le_refl,List.set_cons_succ,bu,chunks,eg,AV.iv,eW,List.replicate_one,List.flatten_cons,List.flatten_nil,Nat.zero_mul,Nat.zero_add,Nat.mul_one,Tree.av]
 refine⟨le_max (by decide),aO hS ?_⟩
 simp only[↓fk,fl,cF,↓aE,ae,ev,b7,List.getD_cons_zero,List.getD_cons_succ,Nat.reduceEqDiff,if_false,if_true,Nat.reduceLT,Nat.reduceLeDiff,Nat.reduceAdd,Nat.reduceMul,true_and,and_true,List.length_map,bY,AV.cells,List.length_cons,List.length_nil,ai,Lb.loc.injEq,↓aF,↓aT,↓aG,↓bp,↓bn,↓bo,bq,a_,e_,List.getElem?_cons_zero,List.getElem?_cons_succ,Option.bind_some,Option.map_some,List.map_cons,List.map_nil,Int.natCast_nonneg,Int.toNat_natCast,AV.ew,AV.one,List.all_cons,List.all_nil,Bool.and_self,Bool.and_true,Bool.true_and,List.take_succ_cons,List.take_zero,List.drop_succ_cons,List.drop_zero,List.cons_append,List.nil_append,List.append_nil,List.set_cons_zero,IV.cW,Lb.app,Lb.fresh,aP,aQ,aR,aD,reduceCtorEq,Bool.false_eq_true,List.take,List.drop,List.mem_cons,List.not_mem_nil,or_false,bU,cw,forall_eq,false_implies,implies_true,ev,Hp.none,Nat.le_refl,List.set_cons_succ,bu,chunks,eg,AV.iv,eW,List.replicate_one,List.flatten_cons,List.flatten_nil,Nat.zero_mul,Nat.zero_add,Nat.mul_one]
 cases h0:x.text with
 |true=>
  simp only[↓fk,fl,cF,↓aE,ae,ev,b7,List.getD_cons_zero,List.getD_cons_succ,Nat.reduceEqDiff,if_false,if_true,Nat.reduceLT,Nat.reduceLeDiff,Nat.reduceAdd,Nat.reduceMul,true_and,and_true,List.length_map,bY,AV.cells,List.length_cons,List.length_nil,ai,Lb.loc.injEq,↓aF,↓aT,↓aG,↓bp,↓bn,↓bo,bq,a_,e_,List.getElem?_cons_zero,List.getElem?_cons_succ,Option.bind_some,Option.map_some,List.map_cons,List.map_nil,Int.natCast_nonneg,Int.toNat_natCast,AV.ew,AV.one,List.all_cons,List.all_nil,Bool.and_self,Bool.and_true,Bool.true_and,List.take_succ_cons,List.take_zero,List.drop_succ_cons,List.drop_zero,List.cons_append,List.nil_append,List.append_nil,List.set_cons_zero,IV.cW,Lb.app,Lb.fresh,aP,aQ,aR,aD,reduceCtorEq,Bool.false_eq_true,List.take,List.drop,List.mem_cons,List.not_mem_nil,or_false,bU,cw,forall_eq,false_implies,implies_true,ev,Hp.none,Nat.le_refl,List.set_cons_succ,bu,chunks,eg,AV.iv,eW,List.replicate_one,List.flatten_cons,List.flatten_nil,Nat.zero_mul,Nat.zero_add,Nat.mul_one,Bool.not_true]
  simp[Tree.iu,h0]
 |false=>
  simp only[↓fk,fl,cF,↓aE,ae,ev,b7,List.getD_cons_zero,List.getD_cons_succ,Nat.reduceEqDiff,if_false,if_true,Nat.reduceLT,Nat.reduceLeDiff,Nat.reduceAdd,Nat.reduceMul,true_and,and_true,List.length_map,bY,AV.cells,List.length_cons,List.length_nil,ai,Lb.loc.injEq,↓aF,↓aT,↓aG,↓bp,↓bn,↓bo,bq,a_,e_,List.getElem?_cons_zero,List.getElem?_cons_succ,Option.bind_some,Option.map_some,List.map_cons,List.map_nil,Int.natCast_nonneg,Int.toNat_natCast,AV.ew,AV.one,List.all_cons,List.all_nil,Bool.and_self,Bool.and_true,Bool.true_and,List.take_succ_cons,List.take_zero,List.drop_succ_cons,List.drop_zero,List.cons_append,List.nil_append,List.append_nil,List.set_cons_zero,IV.cW,Lb.app,Lb.fresh,aP,aQ,aR,aD,reduceCtorEq,Bool.false_eq_true,List.take,List.drop,List.mem_cons,List.not_mem_nil,or_false,bU,cw,forall_eq,false_implies,implies_true,ev,Hp.none,Nat.le_refl,List.set_cons_succ,bu,chunks,eg,AV.iv,eW,List.replicate_one,List.flatten_cons,List.flatten_nil,Nat.zero_mul,Nat.zero_add,Nat.mul_one,Bool.not_false]
  cases h1:decide ((x.dep:Int)≤8) with
  |false=>
   simp only[↓fk,fl,cF,↓aE,ae,ev,b7,List.getD_cons_zero,List.getD_cons_succ,Nat.reduceEqDiff,if_false,if_true,Nat.reduceLT,Nat.reduceLeDiff,Nat.reduceAdd,Nat.reduceMul,true_and,and_true,List.length_map,bY,AV.cells,List.length_cons,List.length_nil,ai,Lb.loc.injEq,↓aF,↓aT,↓aG,↓bp,↓bn,↓bo,bq,a_,e_,List.getElem?_cons_zero,List.getElem?_cons_succ,Option.bind_some,Option.map_some,List.map_cons,List.map_nil,Int.natCast_nonneg,Int.toNat_natCast,AV.ew,AV.one,List.all_cons,List.all_nil,Bool.and_self,Bool.and_true,Bool.true_and,List.take_succ_cons,List.take_zero,List.drop_succ_cons,List.drop_zero,List.cons_append,List.nil_append,List.append_nil,List.set_cons_zero,IV.cW,Lb.app,Lb.fresh,aP,aQ,aR,aD,reduceCtorEq,Bool.false_eq_true,List.take,List.drop,List.mem_cons,List.not_mem_nil,or_false,bU,cw,forall_eq,false_implies,implies_true,ev,Hp.none,Nat.le_refl,List.set_cons_succ,bu,chunks,eg,AV.iv,eW,List.replicate_one,List.flatten_cons,List.flatten_nil,Nat.zero_mul,Nat.zero_add,Nat.mul_one]
   rw[Tree.iu,h0,h1];rfl
  |true=>
   simp only[↓fk,fl,cF,↓aE,ae,ev,b7,List.getD_cons_zero,List.getD_cons_succ,Nat.reduceEqDiff,if_false,if_true,Nat.reduceLT,Nat.reduceLeDiff,Nat.reduceAdd,Nat.reduceMul,true_and,and_true,List.length_map,bY,AV.cells,List.length_cons,List.length_nil,ai,Lb.loc.injEq,↓aF,↓aT,↓aG,↓bp,↓bn,↓bo,bq,a_,e_,List.getElem?_cons_zero,List.getElem?_cons_succ,Option.bind_some,Option.map_some,List.map_cons,List.map_nil,Int.natCast_nonneg,Int.toNat_natCast,AV.ew,AV.one,List.all_cons,List.all_nil,Bool.and_self,Bool.and_true,Bool.true_and,List.take_succ_cons,List.take_zero,List.drop_succ_cons,List.drop_zero,List.cons_append,List.nil_append,List.append_nil,List.set_cons_zero,IV.cW,Lb.app,Lb.fresh,aP,aQ,aR,aD,reduceCtorEq,Bool.false_eq_true,List.take,List.drop,List.mem_cons,List.not_mem_nil,or_false,bU,cw,forall_eq,false_implies,implies_true,ev,Hp.none,Nat.le_refl,List.set_cons_succ,bu,chunks,eg,AV.iv,eW,List.replicate_one,List.flatten_cons,List.flatten_nil,Nat.zero_mul,Nat.zero_add,Nat.mul_one]
   cases h2:decide ((x.dg:Int)≤80) with
   |false=>
    simp only[↓fk,fl,cF,↓aE,ae,ev,b7,List.getD_cons_zero,List.getD_cons_succ,Nat.reduceEqDiff,if_false,if_true,Nat.reduceLT,Nat.reduceLeDiff,Nat.reduceAdd,Nat.reduceMul,true_and,and_true,List.length_map,bY,AV.cells,List.length_cons,List.length_nil,ai,Lb.loc.injEq,↓aF,↓aT,↓aG,↓bp,↓bn,↓bo,bq,a_,e_,List.getElem?_cons_zero,List.getElem?_cons_succ,Option.bind_some,Option.map_some,List.map_cons,List.map_nil,Int.natCast_nonneg,Int.toNat_natCast,AV.ew,AV.one,List.all_cons,List.all_nil,Bool.and_self,Bool.and_true,Bool.true_and,List.take_succ_cons,List.take_zero,List.drop_succ_cons,List.drop_zero,List.cons_append,List.nil_append,List.append_nil,List.set_cons_zero,IV.cW,Lb.app,Lb.fresh,aP,aQ,aR,aD,reduceCtorEq,Bool.false_eq_true,List.take,List.drop,List.mem_cons,List.not_mem_nil,or_false,bU,cw,forall_eq,false_implies,implies_true,ev,Hp.none,Nat.le_refl,List.set_cons_succ,bu,chunks,eg,AV.iv,eW,List.replicate_one,List.flatten_cons,List.flatten_nil,Nat.zero_mul,Nat.zero_add,Nat.mul_one]
    rw[Tree.iu,h0,h1,h2];rfl
   |true=>
    simp only[↓fk,fl,cF,↓aE,ae,ev,b7,List.getD_cons_zero,List.getD_cons_succ,Nat.reduceEqDiff,if_false,if_true,Nat.reduceLT,Nat.reduceLeDiff,Nat.reduceAdd,Nat.reduceMul,true_and,and_true,List.length_map,bY,AV.cells,List.length_cons,List.length_nil,ai,Lb.loc.injEq,↓aF,↓aT,↓aG,↓bp,↓bn,↓bo,bq,a_,e_,List.getElem?_cons_zero,List.getElem?_cons_succ,Option.bind_some,Option.map_some,List.map_cons,List.map_nil,Int.natCast_nonneg,Int.toNat_natCast,AV.ew,AV.one,List.all_cons,List.all_nil,Bool.and_self,Bool.and_true,Bool.true_and,List.take_succ_cons,List.take_zero,List.drop_succ_cons,List.drop_zero,List.cons_append,List.nil_append,List.append_nil,List.set_cons_zero,IV.cW,Lb.app,Lb.fresh,aP,aQ,aR,aD,reduceCtorEq,Bool.false_eq_true,List.take,List.drop,List.mem_cons,List.not_mem_nil,or_false,bU,cw,forall_eq,false_implies,implies_true,ev,Hp.none,Nat.le_refl,List.set_cons_succ,bu,chunks,eg,AV.iv,eW,List.replicate_one,List.flatten_cons,List.flatten_nil,Nat.zero_mul,Nat.zero_add,Nat.mul_one]
    refine aO (by rw[←h0];exact hK) ?_
    simp only[↓fk,fl,cF,↓aE,ae,ev,b7,List.getD_cons_zero,List.getD_cons_succ,Nat.reduceEqDiff,if_false,if_true,Nat.reduceLT,Nat.reduceLeDiff,Nat.reduceAdd,Nat.reduceMul,true_and,and_true,List.length_map,bY,AV.cells,List.length_cons,List.length_nil,ai,Lb.loc.injEq,↓aF,↓aT,↓aG,↓bp,↓bn,↓bo,bq,a_,e_,List.getElem?_cons_zero,List.getElem?_cons_succ,Option.bind_some,Option.map_some,List.map_cons,List.map_nil,Int.natCast_nonneg,Int.toNat_natCast,AV.ew,AV.one,List.all_cons,List.all_nil,Bool.and_self,Bool.and_true,Bool.true_and,List.take_succ_cons,List.take_zero,List.drop_succ_cons,List.drop_zero,List.cons_append,List.nil_append,List.append_nil,List.set_cons_zero,IV.cW,Lb.app,Lb.fresh,aP,aQ,aR,aD,reduceCtorEq,Bool.false_eq_true,List.take,List.drop,List.mem_cons,List.not_mem_nil,or_false,bU,cw,forall_eq,false_implies,implies_true,ev,Hp.none,Nat.le_refl,List.set_cons_succ,bu,chunks,eg,AV.iv,eW,List.replicate_one,List.flatten_cons,List.flatten_nil,Nat.zero_mul,Nat.zero_add,Nat.mul_one]
    rw[Tree.iu,h0,h1,h2];rfl
end Go.Am

/- Trees that are joined. -/
namespace Go.Am
open Go Go.RowKit
def Tree.rC (x:Tree) (s:Bs):Tree:= .mk x.text s x.attrs x.kids
def pX (p:Bool):List Tree→Bool
 |[]=>p
 |x::r=>pX x.text r
def grow (s:Bs):List Tree→List Tree
 |[]=>[]
 |[x]=>[x.rC (x.s++s)]
 |x::y::r=>x::grow s (y::r)
def push (out:List Tree) (x:Tree):List Tree:=
 if x.text&&x.s==[] then out else if x.text&&pX false out then grow x.s out else out++[x]
mutual
def Tree.jn:Tree→Tree
 | .mk t s as ks=> .mk t s as (gT [] ks)
def gT (out:List Tree):List Tree→List Tree
 |[]=>out
 |x::r=>gT (push out x.jn) r
end
def eD (l:List Tree):List Tree:=gT [] l
theorem Tree.zh (x:Tree):x.jn= .mk x.text x.s x.attrs (eD x.kids):=by cases x;simp[Tree.jn,eD,Tree.text,Tree.s,Tree.attrs,Tree.kids]
theorem Tree.m5 (x:Tree):x.jn.text=x.text:=by rw[x.zh];rfl
theorem Tree.Cv (x:Tree):x.jn.s=x.s:=by rw[x.zh];rfl
theorem Tree.Cw (x:Tree):x.jn.attrs=x.attrs:=by rw[x.zh];rfl
theorem Tree.FB (x:Tree):x.jn.kids=eD x.kids:=by rw[x.zh];rfl
theorem tk:∀(xs ys out:List Tree),gT out (xs++ys)=gT (gT out xs) ys
 |[],ys,out=>by simp[gT]
 |x::r,ys,out=>by simp[gT,tk r ys]
theorem rD (x:Tree):∀(p:Bool) (xs:List Tree),pX p (xs++[x])=x.text
 |_,[]=>rfl
 |p,y::r=>rD x y.text r
theorem tl (p:Bool):∀(xs:List Tree),xs≠[]→∃y,xs[xs.length - 1]?=some y∧pX p xs=y.text
 |[],h=>absurd rfl h
 |[x],_=>⟨x,rfl,rfl⟩
 |x::y::r,_=>by
  obtain⟨z,h1,h2⟩:=tl x.text (y::r) (by simp);exact⟨z,by simpa using h1,by simpa[pX] using h2⟩
theorem v8 (s:Bs):∀(xs:List Tree),(grow s xs).length=xs.length
 |[]=>rfl
 |[x]=>rfl
 |x::y::r=>by simp only[grow,List.length_cons,v8 s (y::r)]
theorem zi (s:Bs):∀(xs:List Tree) (y:Tree),xs[xs.length - 1]?=some y→grow s xs=xs.set (xs.length - 1) (y.rC (y.s++s))
 |[],y,h=>by simp at h
 |[x],y,h=>by simp at h;subst h;rfl
 |x::z::r,y,h=>by
  have:=zi s (z::r) y (by simpa using h);simp only[grow,this];simp
mutual
def Tree.jd:Tree→Bool
 | .mk _ _ _ ks=>G8 false ks
def G8 (p:Bool):List Tree→Bool
 |[]=>true
 |x::r=> !(x.text&&(p||x.s==[]))&&(x.jd&&G8 x.text r)
end
mutual
theorem Tree.LO:∀x:Tree,x.jd=true→x.jn=x
 | .mk t s as ks,h=>by simp only[Tree.jn];rw[rE [] ks (by simpa[Tree.jd,pX] using h)];rfl
theorem rE:∀(out l:List Tree),G8 (pX false out) l=true→gT out l=out++l
 |out,[],_=>by simp[gT]
 |out,x::r,h=>by
  simp only[G8,Bool.and_eq_true] at h
  have hp:push out x=out++[x]:=by
   unfold push;cases hx:x.text with
   |false=>simp
   |true=>
    have:=h.1;simp only[hx,Bool.true_and,Bool.not_eq_true',Bool.or_eq_false_iff,beq_eq_false_iff_ne] at this;simp[this.1,this.2]
  simp only[gT,x.LO h.2.1,hp];rw[rE _ r (by rw[rD];exact h.2.2)];simp
end
theorem tm {l:List Tree} (h:G8 false l=true):eD l=l:=by have:=rE [] l (by simpa[pX] using h);simpa[eD] using this
mutual
theorem Tree.FC:∀x:Tree,x.fy=true→x.jd=true∧(x.text=true→x.s≠[])
 | .mk t s as ks,h=>by
  simp only[Tree.fy] at h;simp only[Tree.jd,Tree.text,Tree.s];cases t with
  |true=>
   simp only[if_true,Bool.and_eq_true,bne_iff_ne,beq_iff_eq,List.length_eq_zero_iff] at h;exact⟨by rw[h.2.2.2];rfl,fun _=>h.2.1⟩
  |false=>
   simp only[Bool.false_eq_true,if_false,Bool.and_eq_true] at h;exact⟨po none ks h.2.2,by simp⟩
theorem po:∀(p:Option Bool) (l:List Tree),dT p l=true→G8 (p==some true) l=true
 |_,[],_=>rfl
 |p,x::r,h=>by
  simp only[dT,Bool.and_eq_true] at h;obtain⟨h1,h2,h3⟩:=h;obtain⟨k1,k2⟩:=x.FC h1;have k3:=po _ r h3;have e:(some x.text==some true)=x.text:=by cases x.text<;>rfl
  rw[e] at k3;simp only[G8,Bool.and_eq_true];refine⟨?_,k1,k3⟩;cases hx:x.text with
  |false=>simp
  |true=>
   have:=k2 hx;rw[hx] at h2;simp at h2;simp[this];cases p<;>simp_all
end
theorem v9 (s:Bs):∀(xs:List Tree),di (grow s xs)≤di xs+s.length
 |[]=>by simp[grow,di]
 |[x]=>by cases x;simp[grow,di,Tree.rC,Tree.wt,Tree.text,Tree.s,Tree.attrs,Tree.kids];omega
 |x::y::r=>by have:=v9 s (y::r);simp only[grow,di] at this ⊢;omega
theorem Cx (out:List Tree) (x:Tree):di (push out x)≤di out+x.wt:=by
 unfold push;split
 ·omega
 ·split
  ·have:=v9 x.s out;have:=x.iB;omega
  ·rw[fW];simp[di]
mutual
theorem Tree.LP:∀x:Tree,x.jn.wt≤x.wt
 | .mk t s as ks=>by have:=m6 [] ks;simp only[Tree.jn,Tree.wt,di] at this ⊢;omega
theorem m6:∀(out l:List Tree),di (gT out l)≤di out+di l
 |out,[]=>by simp[gT,di]
 |out,x::r=>by
  have:=m6 (push out x.jn) r;have:=Cx out x.jn;have:=x.LP;simp only[gT,di];omega
end
theorem xU (l:List Tree):di (eD l)≤di l:=by have:=m6 [] l;simp only[di] at this;unfold eD;omega
end Go.Am
