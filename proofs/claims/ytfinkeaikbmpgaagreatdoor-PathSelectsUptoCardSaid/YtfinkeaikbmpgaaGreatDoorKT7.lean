import Derived.Test.YtfinkeaikbmpgaaGreatDoorKT5
import Derived.Test.YtfinkeaikbmpgaaGreatDoorKAm25
set_option linter.unusedSimpArgs false
set_option linter.unusedVariables false
set_option linter.unnecessarySimpa false
set_option linter.defProp false
/- Trees that are good. -/
namespace Go.Am
open Go Go.RowKit
mutual
def Tree.gM:Tree→Bool
 | .mk t s as ks=>if t then plain s&&(s !=[]&&(as.length==0&&ks.length==0)) else named s&&(cN as&&cM none ks)
def cM:Option Bool→List Tree→Bool
 |_,[]=>true
 |p,x::r=>x.gM&&(!(p==some true&&x.text)&&cM (some x.text) r)
end
def rU (fP fN zY xh:Nat):AC:=
(.seq
 (.au [
  ⟨some 1,none,.box (.t 0)⟩,
  ⟨some 2,none,.af (.c (.bool false))⟩])
(.seq
 (.seq
  (.au [
   ⟨some 3,none,.bU (.t 1) 0⟩,
   ⟨some 4,none,.load none (.t 3)⟩])
 (.cond (.t 4)
  (.seq
   (.au [
    ⟨some 5,none,.bU (.t 1) 1⟩,
    ⟨some 6,none,.load none (.t 5)⟩,
    ⟨some 7,none,.call fP [(.t 6)]⟩,
    ⟨some 8,none,.af (.t 7)⟩,
    ⟨some 9,(some (8,true)),(.bU (.t 1) 1)⟩,
    ⟨some 10,(some (8,true)),(.load none (.t 9))⟩,
    ⟨some 11,(some (8,true)),(.bin .neq (.t 10) (.c (.str [])))⟩,
    ⟨some 12,none,.pick (.t 8) (.t 11) (.c (.bool false))⟩,
    ⟨some 13,none,.af (.t 12)⟩,
    ⟨some 14,(some (13,true)),(.bU (.t 1) 2)⟩,
    ⟨some 15,(some (13,true)),(.load none (.t 14))⟩,
    ⟨some 16,(some (13,true)),(.len (.t 15))⟩,
    ⟨some 17,(some (13,true)),(.bin .eql (.t 16) (.c (.int .i64 0)))⟩,
    ⟨some 18,none,.pick (.t 13) (.t 17) (.c (.bool false))⟩,
    ⟨some 19,none,.af (.t 18)⟩,
    ⟨some 20,(some (19,true)),(.bU (.t 1) 3)⟩,
    ⟨some 21,(some (19,true)),(.load none (.t 20))⟩,
    ⟨some 22,(some (19,true)),(.len (.t 21))⟩,
    ⟨some 23,(some (19,true)),(.bin .eql (.t 22) (.c (.int .i64 0)))⟩,
    ⟨some 24,none,.pick (.t 19) (.t 23) (.c (.bool false))⟩,
    ⟨some 2,none,.af (.t 24)⟩])
  .ret)
  .skip))
(.seq
 (.au [
  ⟨some 25,none,.bU (.t 1) 1⟩,
  ⟨some 26,none,.load none (.t 25)⟩,
  ⟨some 27,none,.call fN [(.t 26)]⟩,
  ⟨some 28,none,.af (.t 27)⟩,
  ⟨some 29,(some (28,true)),(.bU (.t 1) 2)⟩,
  ⟨some 30,(some (28,true)),(.load none (.t 29))⟩,
  ⟨some 31,(some (28,true)),(.call zY [(.t 30)])⟩,
  ⟨some 32,none,.pick (.t 28) (.t 31) (.c (.bool false))⟩,
  ⟨some 33,none,.af (.t 32)⟩,
  ⟨some 34,(some (33,true)),(.bU (.t 1) 3)⟩,
  ⟨some 35,(some (33,true)),(.load none (.t 34))⟩,
  ⟨some 36,(some (33,true)),(.call xh [(.t 35)])⟩,
  ⟨some 37,none,.pick (.t 33) (.t 36) (.c (.bool false))⟩,
  ⟨some 2,none,.af (.t 37)⟩])
.ret)))
def ow (fF:Nat):AC:=
(.seq
 (.au [
  ⟨some 2,none,.af (.c (.bool false))⟩])
(.seq
 (.seq
  (.au [
   ⟨some 5,none,.af (.t 0)⟩,
   ⟨some 6,none,.len (.t 5)⟩,
   ⟨some 7,none,.af (.c (.int .i64 0))⟩])
 (.block 0
  (.loop
   (.seq
    (.au [
     ⟨some 8,none,.bin .lss (.t 7) (.t 6)⟩])
   (.seq
    (.cond (.t 8)
     .skip
     (.exit 0))
   (.seq
    (.block 1
     (.seq
      (.au [
       ⟨some 9,none,.af (.t 7)⟩,
       ⟨some 10,none,.fH (.t 5) (.t 7) 4⟩,
       ⟨some 11,none,.load (some 4) (.t 10)⟩,
       ⟨some 4,none,.new [(.bool false),(.str []),.nil0,.nil0]⟩,
       ⟨some 3,none,.af (.t 9)⟩,
       ⟨none,none,.store 4 (.t 4) (.t 11)⟩])
     (.seq
      (.au [
       ⟨some 12,none,.load (some 4) (.t 4)⟩,
       ⟨some 13,none,.call fF [(.t 12)]⟩,
       ⟨some 14,none,.not (.t 13)⟩,
       ⟨some 15,none,.af (.t 14)⟩,
       ⟨some 16,(some (15,false)),(.af (.t 3))⟩,
       ⟨some 17,(some (15,false)),(.bin .gtr (.t 16) (.c (.int .i64 0)))⟩,
       ⟨some 18,(some (15,false)),(.af (.t 17))⟩,
       ⟨some 19,(some (18,true)),(.bU (.t 4) 0)⟩,
       ⟨some 20,(some (18,true)),(.load none (.t 19))⟩,
       ⟨some 21,(some (15,false)),(.pick (.t 18) (.t 20) (.c (.bool false)))⟩,
       ⟨some 22,(some (15,false)),(.af (.t 21))⟩,
       ⟨some 23,(some (22,true)),(.af (.t 0))⟩,
       ⟨some 24,(some (22,true)),(.af (.t 3))⟩,
       ⟨some 25,(some (22,true)),(.bin .sub (.t 24) (.c (.int .i64 1)))⟩,
       ⟨some 26,(some (22,true)),(.fH (.t 23) (.t 25) 4)⟩,
       ⟨some 27,(some (22,true)),(.bU (.t 26) 0)⟩,
       ⟨some 28,(some (22,true)),(.load none (.t 27))⟩,
       ⟨some 29,(some (15,false)),(.pick (.t 22) (.t 28) (.c (.bool false)))⟩,
       ⟨some 30,none,.pick (.t 15) (.c (.bool true)) (.t 29)⟩])
     (.cond (.t 30)
      (.seq
       (.au [
        ⟨some 2,none,.af (.c (.bool false))⟩])
      .ret)
      .skip))))
   (.au [
    ⟨some 31,none,.bin .add (.t 7) (.c (.int .i64 1))⟩,
    ⟨some 7,none,.af (.t 31)⟩])))))))
(.seq
 (.au [
  ⟨some 2,none,.af (.c (.bool true))⟩])
.ret)))
def yA (fS fF:Nat):AC:=
(.seq
 (.au [
  ⟨some 1,none,.box (.t 0)⟩,
  ⟨some 2,none,.af (.c (.bool false))⟩])
(.seq
 (.au [
  ⟨some 6,none,.load (some 4) (.t 1)⟩,
  ⟨some 7,none,.call fS [(.t 6)]⟩,
  ⟨some 5,none,.af (.t 7)⟩,
  ⟨some 8,none,.ext (.t 5) 0⟩,
  ⟨some 9,none,.ext (.t 5) 1⟩,
  ⟨some 3,none,.af (.t 8)⟩,
  ⟨some 4,none,.af (.t 9)⟩])
(.seq
 (.au [
  ⟨some 10,none,.bU (.t 1) 0⟩,
  ⟨some 11,none,.load none (.t 10)⟩,
  ⟨some 12,none,.not (.t 11)⟩,
  ⟨some 13,none,.af (.t 12)⟩,
  ⟨some 14,(some (13,true)),(.af (.t 3))⟩,
  ⟨some 15,(some (13,true)),(.bin .leq (.t 14) (.c (.int .i64 8)))⟩,
  ⟨some 16,none,.pick (.t 13) (.t 15) (.c (.bool false))⟩,
  ⟨some 17,none,.af (.t 16)⟩,
  ⟨some 18,(some (17,true)),(.af (.t 4))⟩,
  ⟨some 19,(some (17,true)),(.bin .leq (.t 18) (.c (.int .i64 80)))⟩,
  ⟨some 20,none,.pick (.t 17) (.t 19) (.c (.bool false))⟩,
  ⟨some 21,none,.af (.t 20)⟩,
  ⟨some 22,(some (21,true)),(.load (some 4) (.t 1))⟩,
  ⟨some 23,(some (21,true)),(.call fF [(.t 22)])⟩,
  ⟨some 24,none,.pick (.t 21) (.t 23) (.c (.bool false))⟩,
  ⟨some 2,none,.af (.t 24)⟩])
.ret)))
theorem Tree.tO (x:Tree) (h:x.text=true):x.gM=(plain x.s&&(x.s !=[]&&(x.attrs.length==0&&x.kids.length==0))):=by
 cases x;simp only[Tree.text] at h;subst h;simp[Tree.gM,Tree.s,Tree.attrs,Tree.kids]
theorem Tree.tQ (x:Tree) (h:x.text=false):x.gM=(named x.s&&(cN x.attrs&&cM none x.kids)):=by
 cases x;simp only[Tree.text] at h;subst h;simp[Tree.gM,Tree.s,Tree.attrs,Tree.kids]
theorem Cv {P:Program} {G:Nat→Option (List IV)} {f fP fN zY xh:Nat} (hF:aB P G f=some (38,[(none,2)],(rU fP fN zY xh).bare)) (x:Tree)
  (hP:ai P G fP [.str x.s] (.bool (plain x.s))) (hN:ai P G fN [.str x.s] (.bool (named x.s))) (hA:ai P G zY [.list (eh x.attrs)] (.bool (cN x.attrs)))
  (Gm:ai P G xh [.list (eY x.kids)] (.bool (cM none x.kids))):ai P G f [x.av] (.bool x.gM):=by
 refine aC hF (by simp) (by simp[ah,AV.ar,Tree.av]) (by simp[AV.ar]) ?_;unfold rU
 simp only[↓dY,dZ,bK,↓al,aa,ev,bE,List.getD_cons_zero,List.getD_cons_succ,Nat.reduceEqDiff,if_false,if_true,Nat.reduceLT,Nat.reduceLeDiff,Nat.reduceAdd,Nat.reduceMul,true_and,and_true,List.length_map,br,AV.cells,List.length_cons,List.length_nil,ae,Lb.loc.injEq,↓an,↓az,↓aq,↓aK,↓aI,↓aJ,aN,aE,dO,List.getElem?_cons_zero,List.getElem?_cons_succ,Option.bind_some,Option.map_some,List.map_cons,List.map_nil,Int.natCast_nonneg,Int.toNat_natCast,AV.dk,AV.one,List.all_cons,List.all_nil,Bool.and_self,Bool.and_true,Bool.true_and,List.take_succ_cons,List.take_zero,List.drop_succ_cons,List.drop_zero,List.cons_append,List.nil_append,List.append_nil,List.set_cons_zero,IV.b7,Lb.app,Lb.fresh,aw,ax,ay,ak,reduceCtorEq,Bool.false_eq_true,List.take,List.drop,List.mem_cons,List.not_mem_nil,or_false,bp,bJ,forall_eq,false_implies,implies_true,ev,Hp.none,Nat.le_refl,List.set_cons_succ,aQ,chunks,dj,AV.iv,dF,List.replicate_one,List.flatten_cons,List.flatten_nil,Nat.zero_mul,Nat.zero_add,Nat.mul_one,Tree.av]
 refine⟨le_max (by decide),?_⟩;cases h0:x.text with
 |true=>
  rw[x.tO h0]
  simp only[↓dY,dZ,bK,↓al,aa,ev,bE,List.getD_cons_zero,List.getD_cons_succ,Nat.reduceEqDiff,if_false,if_true,Nat.reduceLT,Nat.reduceLeDiff,Nat.reduceAdd,Nat.reduceMul,true_and,and_true,List.length_map,br,AV.cells,List.length_cons,List.length_nil,ae,Lb.loc.injEq,↓an,↓az,↓aq,↓aK,↓aI,↓aJ,aN,aE,dO,List.getElem?_cons_zero,List.getElem?_cons_succ,Option.bind_some,Option.map_some,List.map_cons,List.map_nil,Int.natCast_nonneg,Int.toNat_natCast,AV.dk,AV.one,List.all_cons,List.all_nil,Bool.and_self,Bool.and_true,Bool.true_and,List.take_succ_cons,List.take_zero,List.drop_succ_cons,List.drop_zero,List.cons_append,List.nil_append,List.append_nil,List.set_cons_zero,IV.b7,Lb.app,Lb.fresh,aw,ax,ay,ak,reduceCtorEq,Bool.false_eq_true,List.take,List.drop,List.mem_cons,List.not_mem_nil,or_false,bp,bJ,forall_eq,false_implies,implies_true,ev,Hp.none,Nat.le_refl,List.set_cons_succ,aQ,chunks,dj,AV.iv,dF,List.replicate_one,List.flatten_cons,List.flatten_nil,Nat.zero_mul,Nat.zero_add,Nat.mul_one]
  refine aj hP ?_;cases h1:plain x.s with
  |false=>simp only[↓dY,dZ,bK,↓al,aa,ev,bE,List.getD_cons_zero,List.getD_cons_succ,Nat.reduceEqDiff,if_false,if_true,Nat.reduceLT,Nat.reduceLeDiff,Nat.reduceAdd,Nat.reduceMul,true_and,and_true,List.length_map,br,AV.cells,List.length_cons,List.length_nil,ae,Lb.loc.injEq,↓an,↓az,↓aq,↓aK,↓aI,↓aJ,aN,aE,dO,List.getElem?_cons_zero,List.getElem?_cons_succ,Option.bind_some,Option.map_some,List.map_cons,List.map_nil,Int.natCast_nonneg,Int.toNat_natCast,AV.dk,AV.one,List.all_cons,List.all_nil,Bool.and_self,Bool.and_true,Bool.true_and,List.take_succ_cons,List.take_zero,List.drop_succ_cons,List.drop_zero,List.cons_append,List.nil_append,List.append_nil,List.set_cons_zero,IV.b7,Lb.app,Lb.fresh,aw,ax,ay,ak,reduceCtorEq,Bool.false_eq_true,List.take,List.drop,List.mem_cons,List.not_mem_nil,or_false,bp,bJ,forall_eq,false_implies,implies_true,ev,Hp.none,Nat.le_refl,List.set_cons_succ,aQ,chunks,dj,AV.iv,dF,List.replicate_one,List.flatten_cons,List.flatten_nil,Nat.zero_mul,Nat.zero_add,Nat.mul_one,Bool.false_and]
  |true=>
   simp only[↓dY,dZ,bK,↓al,aa,ev,bE,List.getD_cons_zero,List.getD_cons_succ,Nat.reduceEqDiff,if_false,if_true,Nat.reduceLT,Nat.reduceLeDiff,Nat.reduceAdd,Nat.reduceMul,true_and,and_true,List.length_map,br,AV.cells,List.length_cons,List.length_nil,ae,Lb.loc.injEq,↓an,↓az,↓aq,↓aK,↓aI,↓aJ,aN,aE,dO,List.getElem?_cons_zero,List.getElem?_cons_succ,Option.bind_some,Option.map_some,List.map_cons,List.map_nil,Int.natCast_nonneg,Int.toNat_natCast,AV.dk,AV.one,List.all_cons,List.all_nil,Bool.and_self,Bool.and_true,Bool.true_and,List.take_succ_cons,List.take_zero,List.drop_succ_cons,List.drop_zero,List.cons_append,List.nil_append,List.append_nil,List.set_cons_zero,IV.b7,Lb.app,Lb.fresh,aw,ax,ay,ak,reduceCtorEq,Bool.false_eq_true,List.take,List.drop,List.mem_cons,List.not_mem_nil,or_false,bp,bJ,forall_eq,false_implies,implies_true,ev,Hp.none,Nat.le_refl,List.set_cons_succ,aQ,chunks,dj,AV.iv,dF,List.replicate_one,List.flatten_cons,List.flatten_nil,Nat.zero_mul,Nat.zero_add,Nat.mul_one]
   cases h2:(!(x.s==[])) with
   |false=>
    simp only[↓dY,dZ,bK,↓al,aa,ev,bE,List.getD_cons_zero,List.getD_cons_succ,Nat.reduceEqDiff,if_false,if_true,Nat.reduceLT,Nat.reduceLeDiff,Nat.reduceAdd,Nat.reduceMul,true_and,and_true,List.length_map,br,AV.cells,List.length_cons,List.length_nil,ae,Lb.loc.injEq,↓an,↓az,↓aq,↓aK,↓aI,↓aJ,aN,aE,dO,List.getElem?_cons_zero,List.getElem?_cons_succ,Option.bind_some,Option.map_some,List.map_cons,List.map_nil,Int.natCast_nonneg,Int.toNat_natCast,AV.dk,AV.one,List.all_cons,List.all_nil,Bool.and_self,Bool.and_true,Bool.true_and,List.take_succ_cons,List.take_zero,List.drop_succ_cons,List.drop_zero,List.cons_append,List.nil_append,List.append_nil,List.set_cons_zero,IV.b7,Lb.app,Lb.fresh,aw,ax,ay,ak,reduceCtorEq,Bool.false_eq_true,List.take,List.drop,List.mem_cons,List.not_mem_nil,or_false,bp,bJ,forall_eq,false_implies,implies_true,ev,Hp.none,Nat.le_refl,List.set_cons_succ,aQ,chunks,dj,AV.iv,dF,List.replicate_one,List.flatten_cons,List.flatten_nil,Nat.zero_mul,Nat.zero_add,Nat.mul_one]
    rw[show(x.s !=[])=false from h2];rfl
   |true=>
    simp only[↓dY,dZ,bK,↓al,aa,ev,bE,List.getD_cons_zero,List.getD_cons_succ,Nat.reduceEqDiff,if_false,if_true,Nat.reduceLT,Nat.reduceLeDiff,Nat.reduceAdd,Nat.reduceMul,true_and,and_true,List.length_map,br,AV.cells,List.length_cons,List.length_nil,ae,Lb.loc.injEq,↓an,↓az,↓aq,↓aK,↓aI,↓aJ,aN,aE,dO,List.getElem?_cons_zero,List.getElem?_cons_succ,Option.bind_some,Option.map_some,List.map_cons,List.map_nil,Int.natCast_nonneg,Int.toNat_natCast,AV.dk,AV.one,List.all_cons,List.all_nil,Bool.and_self,Bool.and_true,Bool.true_and,List.take_succ_cons,List.take_zero,List.drop_succ_cons,List.drop_zero,List.cons_append,List.nil_append,List.append_nil,List.set_cons_zero,IV.b7,Lb.app,Lb.fresh,aw,ax,ay,ak,reduceCtorEq,Bool.false_eq_true,List.take,List.drop,List.mem_cons,List.not_mem_nil,or_false,bp,bJ,forall_eq,false_implies,implies_true,ev,Hp.none,Nat.le_refl,List.set_cons_succ,aQ,chunks,dj,AV.iv,dF,List.replicate_one,List.flatten_cons,List.flatten_nil,Nat.zero_mul,Nat.zero_add,Nat.mul_one,de,bG]
    rw[show(x.s !=[])=true from h2]
    have e1:((x.attrs.length:Int)==0)=(x.attrs.length==0):=by
     rw[Bool.eq_iff_iff];simp
    have e2:((x.kids.length:Int)==0)=(x.kids.length==0):=by
     rw[Bool.eq_iff_iff];simp
    rw[e1];cases h3:(x.attrs.length==0) with
    |false=>simp only[↓dY,dZ,bK,↓al,aa,ev,bE,List.getD_cons_zero,List.getD_cons_succ,Nat.reduceEqDiff,if_false,if_true,Nat.reduceLT,Nat.reduceLeDiff,Nat.reduceAdd,Nat.reduceMul,true_and,and_true,List.length_map,br,AV.cells,List.length_cons,List.length_nil,ae,Lb.loc.injEq,↓an,↓az,↓aq,↓aK,↓aI,↓aJ,aN,aE,dO,List.getElem?_cons_zero,List.getElem?_cons_succ,Option.bind_some,Option.map_some,List.map_cons,List.map_nil,Int.natCast_nonneg,Int.toNat_natCast,AV.dk,AV.one,List.all_cons,List.all_nil,Bool.and_self,Bool.and_true,Bool.true_and,List.take_succ_cons,List.take_zero,List.drop_succ_cons,List.drop_zero,List.cons_append,List.nil_append,List.append_nil,List.set_cons_zero,IV.b7,Lb.app,Lb.fresh,aw,ax,ay,ak,reduceCtorEq,Bool.false_eq_true,List.take,List.drop,List.mem_cons,List.not_mem_nil,or_false,bp,bJ,forall_eq,false_implies,implies_true,ev,Hp.none,Nat.le_refl,List.set_cons_succ,aQ,chunks,dj,AV.iv,dF,List.replicate_one,List.flatten_cons,List.flatten_nil,Nat.zero_mul,Nat.zero_add,Nat.mul_one,Bool.false_and]
    |true=>simp only[↓dY,dZ,bK,↓al,aa,ev,bE,List.getD_cons_zero,List.getD_cons_succ,Nat.reduceEqDiff,if_false,if_true,Nat.reduceLT,Nat.reduceLeDiff,Nat.reduceAdd,Nat.reduceMul,true_and,and_true,List.length_map,br,AV.cells,List.length_cons,List.length_nil,ae,Lb.loc.injEq,↓an,↓az,↓aq,↓aK,↓aI,↓aJ,aN,aE,dO,List.getElem?_cons_zero,List.getElem?_cons_succ,Option.bind_some,Option.map_some,List.map_cons,List.map_nil,Int.natCast_nonneg,Int.toNat_natCast,AV.dk,AV.one,List.all_cons,List.all_nil,Bool.and_self,Bool.and_true,Bool.true_and,List.take_succ_cons,List.take_zero,List.drop_succ_cons,List.drop_zero,List.cons_append,List.nil_append,List.append_nil,List.set_cons_zero,IV.b7,Lb.app,Lb.fresh,aw,ax,ay,ak,reduceCtorEq,Bool.false_eq_true,List.take,List.drop,List.mem_cons,List.not_mem_nil,or_false,bp,bJ,forall_eq,false_implies,implies_true,ev,Hp.none,Nat.le_refl,List.set_cons_succ,aQ,chunks,dj,AV.iv,dF,List.replicate_one,List.flatten_cons,List.flatten_nil,Nat.zero_mul,Nat.zero_add,Nat.mul_one,bG,e2]
 |false=>
  rw[x.tQ h0]
  simp only[↓dY,dZ,bK,↓al,aa,ev,bE,List.getD_cons_zero,List.getD_cons_succ,Nat.reduceEqDiff,if_false,if_true,Nat.reduceLT,Nat.reduceLeDiff,Nat.reduceAdd,Nat.reduceMul,true_and,and_true,List.length_map,br,AV.cells,List.length_cons,List.length_nil,ae,Lb.loc.injEq,↓an,↓az,↓aq,↓aK,↓aI,↓aJ,aN,aE,dO,List.getElem?_cons_zero,List.getElem?_cons_succ,Option.bind_some,Option.map_some,List.map_cons,List.map_nil,Int.natCast_nonneg,Int.toNat_natCast,AV.dk,AV.one,List.all_cons,List.all_nil,Bool.and_self,Bool.and_true,Bool.true_and,List.take_succ_cons,List.take_zero,List.drop_succ_cons,List.drop_zero,List.cons_append,List.nil_append,List.append_nil,List.set_cons_zero,IV.b7,Lb.app,Lb.fresh,aw,ax,ay,ak,reduceCtorEq,Bool.false_eq_true,List.take,List.drop,List.mem_cons,List.not_mem_nil,or_false,bp,bJ,forall_eq,false_implies,implies_true,ev,Hp.none,Nat.le_refl,List.set_cons_succ,aQ,chunks,dj,AV.iv,dF,List.replicate_one,List.flatten_cons,List.flatten_nil,Nat.zero_mul,Nat.zero_add,Nat.mul_one]
  refine aj hN ?_;cases h1:named x.s with
  |false=>simp only[↓dY,dZ,bK,↓al,aa,ev,bE,List.getD_cons_zero,List.getD_cons_succ,Nat.reduceEqDiff,if_false,if_true,Nat.reduceLT,Nat.reduceLeDiff,Nat.reduceAdd,Nat.reduceMul,true_and,and_true,List.length_map,br,AV.cells,List.length_cons,List.length_nil,ae,Lb.loc.injEq,↓an,↓az,↓aq,↓aK,↓aI,↓aJ,aN,aE,dO,List.getElem?_cons_zero,List.getElem?_cons_succ,Option.bind_some,Option.map_some,List.map_cons,List.map_nil,Int.natCast_nonneg,Int.toNat_natCast,AV.dk,AV.one,List.all_cons,List.all_nil,Bool.and_self,Bool.and_true,Bool.true_and,List.take_succ_cons,List.take_zero,List.drop_succ_cons,List.drop_zero,List.cons_append,List.nil_append,List.append_nil,List.set_cons_zero,IV.b7,Lb.app,Lb.fresh,aw,ax,ay,ak,reduceCtorEq,Bool.false_eq_true,List.take,List.drop,List.mem_cons,List.not_mem_nil,or_false,bp,bJ,forall_eq,false_implies,implies_true,ev,Hp.none,Nat.le_refl,List.set_cons_succ,aQ,chunks,dj,AV.iv,dF,List.replicate_one,List.flatten_cons,List.flatten_nil,Nat.zero_mul,Nat.zero_add,Nat.mul_one,Bool.false_and]
  |true=>
   simp only[↓dY,dZ,bK,↓al,aa,ev,bE,List.getD_cons_zero,List.getD_cons_succ,Nat.reduceEqDiff,if_false,if_true,Nat.reduceLT,Nat.reduceLeDiff,Nat.reduceAdd,Nat.reduceMul,true_and,and_true,List.length_map,br,AV.cells,List.length_cons,List.length_nil,ae,Lb.loc.injEq,↓an,↓az,↓aq,↓aK,↓aI,↓aJ,aN,aE,dO,List.getElem?_cons_zero,List.getElem?_cons_succ,Option.bind_some,Option.map_some,List.map_cons,List.map_nil,Int.natCast_nonneg,Int.toNat_natCast,AV.dk,AV.one,List.all_cons,List.all_nil,Bool.and_self,Bool.and_true,Bool.true_and,List.take_succ_cons,List.take_zero,List.drop_succ_cons,List.drop_zero,List.cons_append,List.nil_append,List.append_nil,List.set_cons_zero,IV.b7,Lb.app,Lb.fresh,aw,ax,ay,ak,reduceCtorEq,Bool.false_eq_true,List.take,List.drop,List.mem_cons,List.not_mem_nil,or_false,bp,bJ,forall_eq,false_implies,implies_true,ev,Hp.none,Nat.le_refl,List.set_cons_succ,aQ,chunks,dj,AV.iv,dF,List.replicate_one,List.flatten_cons,List.flatten_nil,Nat.zero_mul,Nat.zero_add,Nat.mul_one]
   refine aj hA ?_;cases h2:cN x.attrs with
   |false=>simp only[↓dY,dZ,bK,↓al,aa,ev,bE,List.getD_cons_zero,List.getD_cons_succ,Nat.reduceEqDiff,if_false,if_true,Nat.reduceLT,Nat.reduceLeDiff,Nat.reduceAdd,Nat.reduceMul,true_and,and_true,List.length_map,br,AV.cells,List.length_cons,List.length_nil,ae,Lb.loc.injEq,↓an,↓az,↓aq,↓aK,↓aI,↓aJ,aN,aE,dO,List.getElem?_cons_zero,List.getElem?_cons_succ,Option.bind_some,Option.map_some,List.map_cons,List.map_nil,Int.natCast_nonneg,Int.toNat_natCast,AV.dk,AV.one,List.all_cons,List.all_nil,Bool.and_self,Bool.and_true,Bool.true_and,List.take_succ_cons,List.take_zero,List.drop_succ_cons,List.drop_zero,List.cons_append,List.nil_append,List.append_nil,List.set_cons_zero,IV.b7,Lb.app,Lb.fresh,aw,ax,ay,ak,reduceCtorEq,Bool.false_eq_true,List.take,List.drop,List.mem_cons,List.not_mem_nil,or_false,bp,bJ,forall_eq,false_implies,implies_true,ev,Hp.none,Nat.le_refl,List.set_cons_succ,aQ,chunks,dj,AV.iv,dF,List.replicate_one,List.flatten_cons,List.flatten_nil,Nat.zero_mul,Nat.zero_add,Nat.mul_one,Bool.false_and]
   |true=>
    simp only[↓dY,dZ,bK,↓al,aa,ev,bE,List.getD_cons_zero,List.getD_cons_succ,Nat.reduceEqDiff,if_false,if_true,Nat.reduceLT,Nat.reduceLeDiff,Nat.reduceAdd,Nat.reduceMul,true_and,and_true,List.length_map,br,AV.cells,List.length_cons,List.length_nil,ae,Lb.loc.injEq,↓an,↓az,↓aq,↓aK,↓aI,↓aJ,aN,aE,dO,List.getElem?_cons_zero,List.getElem?_cons_succ,Option.bind_some,Option.map_some,List.map_cons,List.map_nil,Int.natCast_nonneg,Int.toNat_natCast,AV.dk,AV.one,List.all_cons,List.all_nil,Bool.and_self,Bool.and_true,Bool.true_and,List.take_succ_cons,List.take_zero,List.drop_succ_cons,List.drop_zero,List.cons_append,List.nil_append,List.append_nil,List.set_cons_zero,IV.b7,Lb.app,Lb.fresh,aw,ax,ay,ak,reduceCtorEq,Bool.false_eq_true,List.take,List.drop,List.mem_cons,List.not_mem_nil,or_false,bp,bJ,forall_eq,false_implies,implies_true,ev,Hp.none,Nat.le_refl,List.set_cons_succ,aQ,chunks,dj,AV.iv,dF,List.replicate_one,List.flatten_cons,List.flatten_nil,Nat.zero_mul,Nat.zero_add,Nat.mul_one]
    refine aj Gm ?_
    simp only[↓dY,dZ,bK,↓al,aa,ev,bE,List.getD_cons_zero,List.getD_cons_succ,Nat.reduceEqDiff,if_false,if_true,Nat.reduceLT,Nat.reduceLeDiff,Nat.reduceAdd,Nat.reduceMul,true_and,and_true,List.length_map,br,AV.cells,List.length_cons,List.length_nil,ae,Lb.loc.injEq,↓an,↓az,↓aq,↓aK,↓aI,↓aJ,aN,aE,dO,List.getElem?_cons_zero,List.getElem?_cons_succ,Option.bind_some,Option.map_some,List.map_cons,List.map_nil,Int.natCast_nonneg,Int.toNat_natCast,AV.dk,AV.one,List.all_cons,List.all_nil,Bool.and_self,Bool.and_true,Bool.true_and,List.take_succ_cons,List.take_zero,List.drop_succ_cons,List.drop_zero,List.cons_append,List.nil_append,List.append_nil,List.set_cons_zero,IV.b7,Lb.app,Lb.fresh,aw,ax,ay,ak,reduceCtorEq,Bool.false_eq_true,List.take,List.drop,List.mem_cons,List.not_mem_nil,or_false,bp,bJ,forall_eq,false_implies,implies_true,ev,Hp.none,Nat.le_refl,List.set_cons_succ,aQ,chunks,dj,AV.iv,dF,List.replicate_one,List.flatten_cons,List.flatten_nil,Nat.zero_mul,Nat.zero_add,Nat.mul_one]
def kW (ks:List Tree) (i:Nat):Option Bool:=if i=0 then none else(ks[i - 1]?).map Tree.text
def yB (ks:List Tree) (i:Nat):Env:=put (put (put (put Env.any 0 (.list (eY ks))) 5 (.list (eY ks))) 6 (.int .i64 ks.length)) 7 (.int .i64 i)
theorem Ea {P : Program} {G : Nat → Option (List IV)} {f fF : Nat} (hF : aB P G f = some (32,[(none,2)],(ow fF).bare)) (ks : List Tree) (hx : ks.length ≤ B)
   (hK:∀k∈ks,ai P G fF [k.av] (.bool k.gM)):ai P G f [.list (eY ks)] (.bool (cM none ks)):=by
 refine aC hF (by simp) (by simp[ah,AV.ar]) (by simp[AV.ar]) ?_
 unfold ow
 simp only[↓dY,dZ,bK,↓al,aa,ev,bE,List.getD_cons_zero,List.getD_cons_succ,Nat.reduceEqDiff,if_false,if_true,Nat.reduceLT,Nat.reduceLeDiff,Nat.reduceAdd,Nat.reduceMul,true_and,and_true,List.length_map,br,AV.cells,List.length_cons,List.length_nil,ae,Lb.loc.injEq,↓an,↓az,↓aq,↓aK,↓aI,↓aJ,aN,aE,dO,List.getElem?_cons_zero,List.getElem?_cons_succ,Option.bind_some,Option.map_some,List.map_cons,List.map_nil,Int.natCast_nonneg,Int.toNat_natCast,AV.dk,AV.one,List.all_cons,List.all_nil,Bool.and_self,Bool.and_true,Bool.true_and,List.take_succ_cons,List.take_zero,List.drop_succ_cons,List.drop_zero,List.cons_append,List.nil_append,List.append_nil,List.set_cons_zero,IV.b7,Lb.app,Lb.fresh,aw,ax,ay,ak,reduceCtorEq,Bool.false_eq_true,List.take,List.drop,List.mem_cons,List.not_mem_nil,or_false,bp,bJ,forall_eq,false_implies,implies_true,ev,Hp.none,Nat.le_refl,List.set_cons_succ,aQ,chunks,dj,AV.iv,dF,List.replicate_one,List.flatten_cons,List.flatten_nil,Nat.zero_mul,Nat.zero_add,Nat.mul_one,bG]
 refine gk (σ:={i:Nat // i≤ks.length∧cM none ks=cM (kW ks i) (ks.drop i)}) (fun q=>yB ks q.1) (fun _=>Hp.none) (fun q=>ks.length - q.1) ⟨0,by simp[kW]⟩ id ?_ ?_
 · refine .none ?_ ?_
   · exact aZ rfl (aZ rfl (aZ rfl (aZ rfl (eF _ _))))
   · exact a6 (by simp[AV.ar]) (a6 (by simp[AV.ar]) (a6 (by simp[AV.ar]) (a6 (by simp[AV.ar]) (eG _))))
 · rintro ⟨i,hi,hs⟩
   simp only[↓dY,dZ,bK,↓al,aa,ev,bE,List.getD_cons_zero,List.getD_cons_succ,Nat.reduceEqDiff,if_false,if_true,Nat.reduceLT,Nat.reduceLeDiff,Nat.reduceAdd,Nat.reduceMul,true_and,and_true,List.length_map,br,AV.cells,List.length_cons,List.length_nil,ae,Lb.loc.injEq,↓an,↓az,↓aq,↓aK,↓aI,↓aJ,aN,aE,dO,List.getElem?_cons_zero,List.getElem?_cons_succ,Option.bind_some,Option.map_some,List.map_cons,List.map_nil,Int.natCast_nonneg,Int.toNat_natCast,AV.dk,AV.one,List.all_cons,List.all_nil,Bool.and_self,Bool.and_true,Bool.true_and,List.take_succ_cons,List.take_zero,List.drop_succ_cons,List.drop_zero,List.cons_append,List.nil_append,List.append_nil,List.set_cons_zero,IV.b7,Lb.app,Lb.fresh,aw,ax,ay,ak,reduceCtorEq,Bool.false_eq_true,List.take,List.drop,List.mem_cons,List.not_mem_nil,or_false,bp,bJ,forall_eq,false_implies,implies_true,ev,Hp.none,Nat.le_refl,List.set_cons_succ,aQ,chunks,dj,AV.iv,dF,List.replicate_one,List.flatten_cons,List.flatten_nil,Nat.zero_mul,Nat.zero_add,Nat.mul_one,yB,bG]
   by_cases bz:i<ks.length
   · rw[show decide ((i:Int)<(ks.length:Int))=true by simpa using bz]
     obtain⟨k,hk⟩:∃k,ks[i]?=some k:=⟨_,List.getElem?_eq_getElem bz⟩
     have hw:IntKind.i64.wrap ((i:Int)+1)=((i+1:Nat):Int):=wrap64 (by omega) (by unfold B at hx;omega)
     have hd:ks.drop i=k::ks.drop (i+1):=by
       rw[List.drop_eq_getElem_cons bz]
       rw[List.getElem?_eq_getElem bz] at hk;cases hk;rfl
     have xr:kW ks (i+1)=some k.text:=by simp[kW,hk]
     have jR:cM none ks=(k.gM&&(!(kW ks i==some true&&k.text)&&cM (some k.text) (ks.drop (i+1)))):=by rw[hs,hd];simp only[cM]
     have next:(k.gM&& !(kW ks i==some true&&k.text))=true→∃q:{i:Nat // i≤ks.length∧cM none ks=cM (kW ks i) (ks.drop i)},q.1=i+1:=fun h=>by
       rw[Bool.and_eq_true] at h
       exact⟨⟨i+1,bz,by rw[xr,jR,h.1,h.2];rfl⟩,rfl⟩
     simp only[↓dY,dZ,bK,↓al,aa,ev,bE,List.getD_cons_zero,List.getD_cons_succ,Nat.reduceEqDiff,if_false,if_true,Nat.reduceLT,Nat.reduceLeDiff,Nat.reduceAdd,Nat.reduceMul,true_and,and_true,List.length_map,br,AV.cells,List.length_cons,List.length_nil,ae,Lb.loc.injEq,↓an,↓az,↓aq,↓aK,↓aI,↓aJ,aN,aE,dO,List.getElem?_cons_zero,List.getElem?_cons_succ,Option.bind_some,Option.map_some,List.map_cons,List.map_nil,Int.natCast_nonneg,Int.toNat_natCast,AV.dk,AV.one,List.all_cons,List.all_nil,Bool.and_self,Bool.and_true,Bool.true_and,List.take_succ_cons,List.take_zero,List.drop_succ_cons,List.drop_zero,List.cons_append,List.nil_append,List.append_nil,List.set_cons_zero,IV.b7,Lb.app,Lb.fresh,aw,ax,ay,ak,reduceCtorEq,Bool.false_eq_true,List.take,List.drop,List.mem_cons,List.not_mem_nil,or_false,bp,bJ,forall_eq,false_implies,implies_true,ev,Hp.none,Nat.le_refl,List.set_cons_succ,aQ,chunks,dj,AV.iv,dF,List.replicate_one,List.flatten_cons,List.flatten_nil,Nat.zero_mul,Nat.zero_add,Nat.mul_one,iI,hk,lW,Tree.aU,Tree.cs]
     refine⟨le_max (by decide),aj (hK k (List.mem_of_getElem? hk)) ?_⟩
     cases h1:k.gM with
     |false=>
       simp only[↓dY,dZ,bK,↓al,aa,ev,bE,List.getD_cons_zero,List.getD_cons_succ,Nat.reduceEqDiff,if_false,if_true,Nat.reduceLT,Nat.reduceLeDiff,Nat.reduceAdd,Nat.reduceMul,true_and,and_true,List.length_map,br,AV.cells,List.length_cons,List.length_nil,ae,Lb.loc.injEq,↓an,↓az,↓aq,↓aK,↓aI,↓aJ,aN,aE,dO,List.getElem?_cons_zero,List.getElem?_cons_succ,Option.bind_some,Option.map_some,List.map_cons,List.map_nil,Int.natCast_nonneg,Int.toNat_natCast,AV.dk,AV.one,List.all_cons,List.all_nil,Bool.and_self,Bool.and_true,Bool.true_and,List.take_succ_cons,List.take_zero,List.drop_succ_cons,List.drop_zero,List.cons_append,List.nil_append,List.append_nil,List.set_cons_zero,IV.b7,Lb.app,Lb.fresh,aw,ax,ay,ak,reduceCtorEq,Bool.false_eq_true,List.take,List.drop,List.mem_cons,List.not_mem_nil,or_false,bp,bJ,forall_eq,false_implies,implies_true,ev,Hp.none,Nat.le_refl,List.set_cons_succ,aQ,chunks,dj,AV.iv,dF,List.replicate_one,List.flatten_cons,List.flatten_nil,Nat.zero_mul,Nat.zero_add,Nat.mul_one,Bool.not_false]
       rw[jR,h1];rfl
     |true=>
       simp only[↓dY,dZ,bK,↓al,aa,ev,bE,List.getD_cons_zero,List.getD_cons_succ,Nat.reduceEqDiff,if_false,if_true,Nat.reduceLT,Nat.reduceLeDiff,Nat.reduceAdd,Nat.reduceMul,true_and,and_true,List.length_map,br,AV.cells,List.length_cons,List.length_nil,ae,Lb.loc.injEq,↓an,↓az,↓aq,↓aK,↓aI,↓aJ,aN,aE,dO,List.getElem?_cons_zero,List.getElem?_cons_succ,Option.bind_some,Option.map_some,List.map_cons,List.map_nil,Int.natCast_nonneg,Int.toNat_natCast,AV.dk,AV.one,List.all_cons,List.all_nil,Bool.and_self,Bool.and_true,Bool.true_and,List.take_succ_cons,List.take_zero,List.drop_succ_cons,List.drop_zero,List.cons_append,List.nil_append,List.append_nil,List.set_cons_zero,IV.b7,Lb.app,Lb.fresh,aw,ax,ay,ak,reduceCtorEq,Bool.false_eq_true,List.take,List.drop,List.mem_cons,List.not_mem_nil,or_false,bp,bJ,forall_eq,false_implies,implies_true,ev,Hp.none,Nat.le_refl,List.set_cons_succ,aQ,chunks,dj,AV.iv,dF,List.replicate_one,List.flatten_cons,List.flatten_nil,Nat.zero_mul,Nat.zero_add,Nat.mul_one,Bool.not_true]
       by_cases h3:i=0
       · subst h3
         rw[show decide (((0:Nat):Int)>0)=false by simp]
         obtain⟨q,hq⟩:=next (by rw[h1];simp[kW])
         simp only[↓dY,dZ,bK,↓al,aa,ev,bE,List.getD_cons_zero,List.getD_cons_succ,Nat.reduceEqDiff,if_false,if_true,Nat.reduceLT,Nat.reduceLeDiff,Nat.reduceAdd,Nat.reduceMul,true_and,and_true,List.length_map,br,AV.cells,List.length_cons,List.length_nil,ae,Lb.loc.injEq,↓an,↓az,↓aq,↓aK,↓aI,↓aJ,aN,aE,dO,List.getElem?_cons_zero,List.getElem?_cons_succ,Option.bind_some,Option.map_some,List.map_cons,List.map_nil,Int.natCast_nonneg,Int.toNat_natCast,AV.dk,AV.one,List.all_cons,List.all_nil,Bool.and_self,Bool.and_true,Bool.true_and,List.take_succ_cons,List.take_zero,List.drop_succ_cons,List.drop_zero,List.cons_append,List.nil_append,List.append_nil,List.set_cons_zero,IV.b7,Lb.app,Lb.fresh,aw,ax,ay,ak,reduceCtorEq,Bool.false_eq_true,List.take,List.drop,List.mem_cons,List.not_mem_nil,or_false,bp,bJ,forall_eq,false_implies,implies_true,ev,Hp.none,Nat.le_refl,List.set_cons_succ,aQ,chunks,dj,AV.iv,dF,List.replicate_one,List.flatten_cons,List.flatten_nil,Nat.zero_mul,Nat.zero_add,Nat.mul_one,hw]
         refine⟨q,by omega,id,.drop ?_ ?_ ?_⟩
         · rw[hq];exact aZ rfl (aZ rfl (aZ rfl (aZ rfl (eF _ _))))
         · exact a6 (by simp[AV.ar]) (a6 (by simp[AV.ar]) (a6 (by simp[AV.ar]) (a6 (by simp[AV.ar]) (eG _))))
         · exact fJ (fJ jD)
       · rw[show decide ((i:Int)>0)=true by simp;omega]
         obtain⟨p,hp⟩:∃p,ks[i - 1]?=some p:=⟨_,List.getElem?_eq_getElem (by omega)⟩
         have JJ:kW ks i=some p.text:=by simp[kW,h3,hp]
         have ku:IntKind.i64.wrap ((i:Int) - 1)=((i - 1:Nat):Int):=by rw[wrap64 (by omega) (by unfold B at hx;omega)];omega
         simp only[↓dY,dZ,bK,↓al,aa,ev,bE,List.getD_cons_zero,List.getD_cons_succ,Nat.reduceEqDiff,if_false,if_true,Nat.reduceLT,Nat.reduceLeDiff,Nat.reduceAdd,Nat.reduceMul,true_and,and_true,List.length_map,br,AV.cells,List.length_cons,List.length_nil,ae,Lb.loc.injEq,↓an,↓az,↓aq,↓aK,↓aI,↓aJ,aN,aE,dO,List.getElem?_cons_zero,List.getElem?_cons_succ,Option.bind_some,Option.map_some,List.map_cons,List.map_nil,Int.natCast_nonneg,Int.toNat_natCast,AV.dk,AV.one,List.all_cons,List.all_nil,Bool.and_self,Bool.and_true,Bool.true_and,List.take_succ_cons,List.take_zero,List.drop_succ_cons,List.drop_zero,List.cons_append,List.nil_append,List.append_nil,List.set_cons_zero,IV.b7,Lb.app,Lb.fresh,aw,ax,ay,ak,reduceCtorEq,Bool.false_eq_true,List.take,List.drop,List.mem_cons,List.not_mem_nil,or_false,bp,bJ,forall_eq,false_implies,implies_true,ev,Hp.none,Nat.le_refl,List.set_cons_succ,aQ,chunks,dj,AV.iv,dF,List.replicate_one,List.flatten_cons,List.flatten_nil,Nat.zero_mul,Nat.zero_add,Nat.mul_one]
         cases h2:k.text with
         |false=>
           obtain⟨q,hq⟩:=next (by rw[h1,h2];simp)
           simp only[↓dY,dZ,bK,↓al,aa,ev,bE,List.getD_cons_zero,List.getD_cons_succ,Nat.reduceEqDiff,if_false,if_true,Nat.reduceLT,Nat.reduceLeDiff,Nat.reduceAdd,Nat.reduceMul,true_and,and_true,List.length_map,br,AV.cells,List.length_cons,List.length_nil,ae,Lb.loc.injEq,↓an,↓az,↓aq,↓aK,↓aI,↓aJ,aN,aE,dO,List.getElem?_cons_zero,List.getElem?_cons_succ,Option.bind_some,Option.map_some,List.map_cons,List.map_nil,Int.natCast_nonneg,Int.toNat_natCast,AV.dk,AV.one,List.all_cons,List.all_nil,Bool.and_self,Bool.and_true,Bool.true_and,List.take_succ_cons,List.take_zero,List.drop_succ_cons,List.drop_zero,List.cons_append,List.nil_append,List.append_nil,List.set_cons_zero,IV.b7,Lb.app,Lb.fresh,aw,ax,ay,ak,reduceCtorEq,Bool.false_eq_true,List.take,List.drop,List.mem_cons,List.not_mem_nil,or_false,bp,bJ,forall_eq,false_implies,implies_true,ev,Hp.none,Nat.le_refl,List.set_cons_succ,aQ,chunks,dj,AV.iv,dF,List.replicate_one,List.flatten_cons,List.flatten_nil,Nat.zero_mul,Nat.zero_add,Nat.mul_one,hw]
           refine⟨q,by omega,id,.drop ?_ ?_ ?_⟩
           · rw[hq];exact aZ rfl (aZ rfl (aZ rfl (aZ rfl (eF _ _))))
           · exact a6 (by simp[AV.ar]) (a6 (by simp[AV.ar]) (a6 (by simp[AV.ar]) (a6 (by simp[AV.ar]) (eG _))))
           · exact fJ (fJ jD)
         |true=>
           simp only[↓dY,dZ,bK,↓al,aa,ev,bE,List.getD_cons_zero,List.getD_cons_succ,Nat.reduceEqDiff,if_false,if_true,Nat.reduceLT,Nat.reduceLeDiff,Nat.reduceAdd,Nat.reduceMul,true_and,and_true,List.length_map,br,AV.cells,List.length_cons,List.length_nil,ae,Lb.loc.injEq,↓an,↓az,↓aq,↓aK,↓aI,↓aJ,aN,aE,dO,List.getElem?_cons_zero,List.getElem?_cons_succ,Option.bind_some,Option.map_some,List.map_cons,List.map_nil,Int.natCast_nonneg,Int.toNat_natCast,AV.dk,AV.one,List.all_cons,List.all_nil,Bool.and_self,Bool.and_true,Bool.true_and,List.take_succ_cons,List.take_zero,List.drop_succ_cons,List.drop_zero,List.cons_append,List.nil_append,List.append_nil,List.set_cons_zero,IV.b7,Lb.app,Lb.fresh,aw,ax,ay,ak,reduceCtorEq,Bool.false_eq_true,List.take,List.drop,List.mem_cons,List.not_mem_nil,or_false,bp,bJ,forall_eq,false_implies,implies_true,ev,Hp.none,Nat.le_refl,List.set_cons_succ,aQ,chunks,dj,AV.iv,dF,List.replicate_one,List.flatten_cons,List.flatten_nil,Nat.zero_mul,Nat.zero_add,Nat.mul_one,ku,iI,hp,lW,Tree.aU,Tree.cs]
           cases h4:p.text with
           |true=>
             simp only[↓dY,dZ,bK,↓al,aa,ev,bE,List.getD_cons_zero,List.getD_cons_succ,Nat.reduceEqDiff,if_false,if_true,Nat.reduceLT,Nat.reduceLeDiff,Nat.reduceAdd,Nat.reduceMul,true_and,and_true,List.length_map,br,AV.cells,List.length_cons,List.length_nil,ae,Lb.loc.injEq,↓an,↓az,↓aq,↓aK,↓aI,↓aJ,aN,aE,dO,List.getElem?_cons_zero,List.getElem?_cons_succ,Option.bind_some,Option.map_some,List.map_cons,List.map_nil,Int.natCast_nonneg,Int.toNat_natCast,AV.dk,AV.one,List.all_cons,List.all_nil,Bool.and_self,Bool.and_true,Bool.true_and,List.take_succ_cons,List.take_zero,List.drop_succ_cons,List.drop_zero,List.cons_append,List.nil_append,List.append_nil,List.set_cons_zero,IV.b7,Lb.app,Lb.fresh,aw,ax,ay,ak,reduceCtorEq,Bool.false_eq_true,List.take,List.drop,List.mem_cons,List.not_mem_nil,or_false,bp,bJ,forall_eq,false_implies,implies_true,ev,Hp.none,Nat.le_refl,List.set_cons_succ,aQ,chunks,dj,AV.iv,dF,List.replicate_one,List.flatten_cons,List.flatten_nil,Nat.zero_mul,Nat.zero_add,Nat.mul_one]
             rw[jR,JJ,h1,h2,h4];rfl
           |false=>
             obtain⟨q,hq⟩:=next (by rw[h1,h2,JJ,h4];rfl)
             simp only[↓dY,dZ,bK,↓al,aa,ev,bE,List.getD_cons_zero,List.getD_cons_succ,Nat.reduceEqDiff,if_false,if_true,Nat.reduceLT,Nat.reduceLeDiff,Nat.reduceAdd,Nat.reduceMul,true_and,and_true,List.length_map,br,AV.cells,List.length_cons,List.length_nil,ae,Lb.loc.injEq,↓an,↓az,↓aq,↓aK,↓aI,↓aJ,aN,aE,dO,List.getElem?_cons_zero,List.getElem?_cons_succ,Option.bind_some,Option.map_some,List.map_cons,List.map_nil,Int.natCast_nonneg,Int.toNat_natCast,AV.dk,AV.one,List.all_cons,List.all_nil,Bool.and_self,Bool.and_true,Bool.true_and,List.take_succ_cons,List.take_zero,List.drop_succ_cons,List.drop_zero,List.cons_append,List.nil_append,List.append_nil,List.set_cons_zero,IV.b7,Lb.app,Lb.fresh,aw,ax,ay,ak,reduceCtorEq,Bool.false_eq_true,List.take,List.drop,List.mem_cons,List.not_mem_nil,or_false,bp,bJ,forall_eq,false_implies,implies_true,ev,Hp.none,Nat.le_refl,List.set_cons_succ,aQ,chunks,dj,AV.iv,dF,List.replicate_one,List.flatten_cons,List.flatten_nil,Nat.zero_mul,Nat.zero_add,Nat.mul_one,hw]
             refine⟨q,by omega,id,.drop ?_ ?_ ?_⟩
             · rw[hq];exact aZ rfl (aZ rfl (aZ rfl (aZ rfl (eF _ _))))
             · exact a6 (by simp[AV.ar]) (a6 (by simp[AV.ar]) (a6 (by simp[AV.ar]) (a6 (by simp[AV.ar]) (eG _))))
             · exact fJ (fJ jD)
   · rw[show decide ((i:Int)<(ks.length:Int))=false by simpa using bz]
     simp only[↓dY,dZ,bK,↓al,aa,ev,bE,List.getD_cons_zero,List.getD_cons_succ,Nat.reduceEqDiff,if_false,if_true,Nat.reduceLT,Nat.reduceLeDiff,Nat.reduceAdd,Nat.reduceMul,true_and,and_true,List.length_map,br,AV.cells,List.length_cons,List.length_nil,ae,Lb.loc.injEq,↓an,↓az,↓aq,↓aK,↓aI,↓aJ,aN,aE,dO,List.getElem?_cons_zero,List.getElem?_cons_succ,Option.bind_some,Option.map_some,List.map_cons,List.map_nil,Int.natCast_nonneg,Int.toNat_natCast,AV.dk,AV.one,List.all_cons,List.all_nil,Bool.and_self,Bool.and_true,Bool.true_and,List.take_succ_cons,List.take_zero,List.drop_succ_cons,List.drop_zero,List.cons_append,List.nil_append,List.append_nil,List.set_cons_zero,IV.b7,Lb.app,Lb.fresh,aw,ax,ay,ak,reduceCtorEq,Bool.false_eq_true,List.take,List.drop,List.mem_cons,List.not_mem_nil,or_false,bp,bJ,forall_eq,false_implies,implies_true,ev,Hp.none,Nat.le_refl,List.set_cons_succ,aQ,chunks,dj,AV.iv,dF,List.replicate_one,List.flatten_cons,List.flatten_nil,Nat.zero_mul,Nat.zero_add,Nat.mul_one,bG]
     rw[hs,List.drop_eq_nil_of_le (by omega)];rfl
def Tree.fM (x:Tree):Bool:= !x.text&&(decide ((x.dep:Int)≤8)&&(decide ((x.dP:Int)≤80)&&x.gM))
theorem Gn {P:Program} {G:Nat→Option (List IV)} {f fS fF:Nat} (hF:aB P G f=some (25,[(none,2)],(yA fS fF).bare)) (x:Tree)
  (hS:ai P G fS [x.av] (.ei [.int .i64 x.dep,.int .i64 x.dP])) (hK:ai P G fF [x.av] (.bool x.gM)):ai P G f [x.av] (.bool x.fM):=by
 refine aC hF (by simp) (by simp[ah,AV.ar,Tree.av]) (by simp[AV.ar]) ?_;unfold yA
 simp only[↓dY,dZ,bK,↓al,aa,ev,bE,List.getD_cons_zero,List.getD_cons_succ,Nat.reduceEqDiff,if_false,if_true,Nat.reduceLT,Nat.reduceLeDiff,Nat.reduceAdd,Nat.reduceMul,true_and,and_true,List.length_map,br,AV.cells,List.length_cons,List.length_nil,ae,Lb.loc.injEq,↓an,↓az,↓aq,↓aK,↓aI,↓aJ,aN,aE,dO,List.getElem?_cons_zero,List.getElem?_cons_succ,Option.bind_some,Option.map_some,List.map_cons,List.map_nil,Int.natCast_nonneg,Int.toNat_natCast,AV.dk,AV.one,List.all_cons,List.all_nil,Bool.and_self,Bool.and_true,Bool.true_and,List.take_succ_cons,List.take_zero,List.drop_succ_cons,List.drop_zero,List.cons_append,List.nil_append,List.append_nil,List.set_cons_zero,IV.b7,Lb.app,Lb.fresh,aw,ax,ay,ak,reduceCtorEq,Bool.false_eq_true,List.take,List.drop,List.mem_cons,List.not_mem_nil,or_false,bp,bJ,forall_eq,false_implies,implies_true,ev,Hp.none,Nat.le_refl,List.set_cons_succ,aQ,chunks,dj,AV.iv,dF,List.replicate_one,List.flatten_cons,List.flatten_nil,Nat.zero_mul,Nat.zero_add,Nat.mul_one,Tree.av]
 refine⟨le_max (by decide),aj hS ?_⟩
 simp only[↓dY,dZ,bK,↓al,aa,ev,bE,List.getD_cons_zero,List.getD_cons_succ,Nat.reduceEqDiff,if_false,if_true,Nat.reduceLT,Nat.reduceLeDiff,Nat.reduceAdd,Nat.reduceMul,true_and,and_true,List.length_map,br,AV.cells,List.length_cons,List.length_nil,ae,Lb.loc.injEq,↓an,↓az,↓aq,↓aK,↓aI,↓aJ,aN,aE,dO,List.getElem?_cons_zero,List.getElem?_cons_succ,Option.bind_some,Option.map_some,List.map_cons,List.map_nil,Int.natCast_nonneg,Int.toNat_natCast,AV.dk,AV.one,List.all_cons,List.all_nil,Bool.and_self,Bool.and_true,Bool.true_and,List.take_succ_cons,List.take_zero,List.drop_succ_cons,List.drop_zero,List.cons_append,List.nil_append,List.append_nil,List.set_cons_zero,IV.b7,Lb.app,Lb.fresh,aw,ax,ay,ak,reduceCtorEq,Bool.false_eq_true,List.take,List.drop,List.mem_cons,List.not_mem_nil,or_false,bp,bJ,forall_eq,false_implies,implies_true,ev,Hp.none,Nat.le_refl,List.set_cons_succ,aQ,chunks,dj,AV.iv,dF,List.replicate_one,List.flatten_cons,List.flatten_nil,Nat.zero_mul,Nat.zero_add,Nat.mul_one]
 cases h0:x.text with
 |true=>
  simp only[↓dY,dZ,bK,↓al,aa,ev,bE,List.getD_cons_zero,List.getD_cons_succ,Nat.reduceEqDiff,if_false,if_true,Nat.reduceLT,Nat.reduceLeDiff,Nat.reduceAdd,Nat.reduceMul,true_and,and_true,List.length_map,br,AV.cells,List.length_cons,List.length_nil,ae,Lb.loc.injEq,↓an,↓az,↓aq,↓aK,↓aI,↓aJ,aN,aE,dO,List.getElem?_cons_zero,List.getElem?_cons_succ,Option.bind_some,Option.map_some,List.map_cons,List.map_nil,Int.natCast_nonneg,Int.toNat_natCast,AV.dk,AV.one,List.all_cons,List.all_nil,Bool.and_self,Bool.and_true,Bool.true_and,List.take_succ_cons,List.take_zero,List.drop_succ_cons,List.drop_zero,List.cons_append,List.nil_append,List.append_nil,List.set_cons_zero,IV.b7,Lb.app,Lb.fresh,aw,ax,ay,ak,reduceCtorEq,Bool.false_eq_true,List.take,List.drop,List.mem_cons,List.not_mem_nil,or_false,bp,bJ,forall_eq,false_implies,implies_true,ev,Hp.none,Nat.le_refl,List.set_cons_succ,aQ,chunks,dj,AV.iv,dF,List.replicate_one,List.flatten_cons,List.flatten_nil,Nat.zero_mul,Nat.zero_add,Nat.mul_one,Bool.not_true]
  simp[Tree.fM,h0]
 |false=>
  simp only[↓dY,dZ,bK,↓al,aa,ev,bE,List.getD_cons_zero,List.getD_cons_succ,Nat.reduceEqDiff,if_false,if_true,Nat.reduceLT,Nat.reduceLeDiff,Nat.reduceAdd,Nat.reduceMul,true_and,and_true,List.length_map,br,AV.cells,List.length_cons,List.length_nil,ae,Lb.loc.injEq,↓an,↓az,↓aq,↓aK,↓aI,↓aJ,aN,aE,dO,List.getElem?_cons_zero,List.getElem?_cons_succ,Option.bind_some,Option.map_some,List.map_cons,List.map_nil,Int.natCast_nonneg,Int.toNat_natCast,AV.dk,AV.one,List.all_cons,List.all_nil,Bool.and_self,Bool.and_true,Bool.true_and,List.take_succ_cons,List.take_zero,List.drop_succ_cons,List.drop_zero,List.cons_append,List.nil_append,List.append_nil,List.set_cons_zero,IV.b7,Lb.app,Lb.fresh,aw,ax,ay,ak,reduceCtorEq,Bool.false_eq_true,List.take,List.drop,List.mem_cons,List.not_mem_nil,or_false,bp,bJ,forall_eq,false_implies,implies_true,ev,Hp.none,Nat.le_refl,List.set_cons_succ,aQ,chunks,dj,AV.iv,dF,List.replicate_one,List.flatten_cons,List.flatten_nil,Nat.zero_mul,Nat.zero_add,Nat.mul_one,Bool.not_false]
  cases h1:decide ((x.dep:Int)≤8) with
  |false=>
   simp only[↓dY,dZ,bK,↓al,aa,ev,bE,List.getD_cons_zero,List.getD_cons_succ,Nat.reduceEqDiff,if_false,if_true,Nat.reduceLT,Nat.reduceLeDiff,Nat.reduceAdd,Nat.reduceMul,true_and,and_true,List.length_map,br,AV.cells,List.length_cons,List.length_nil,ae,Lb.loc.injEq,↓an,↓az,↓aq,↓aK,↓aI,↓aJ,aN,aE,dO,List.getElem?_cons_zero,List.getElem?_cons_succ,Option.bind_some,Option.map_some,List.map_cons,List.map_nil,Int.natCast_nonneg,Int.toNat_natCast,AV.dk,AV.one,List.all_cons,List.all_nil,Bool.and_self,Bool.and_true,Bool.true_and,List.take_succ_cons,List.take_zero,List.drop_succ_cons,List.drop_zero,List.cons_append,List.nil_append,List.append_nil,List.set_cons_zero,IV.b7,Lb.app,Lb.fresh,aw,ax,ay,ak,reduceCtorEq,Bool.false_eq_true,List.take,List.drop,List.mem_cons,List.not_mem_nil,or_false,bp,bJ,forall_eq,false_implies,implies_true,ev,Hp.none,Nat.le_refl,List.set_cons_succ,aQ,chunks,dj,AV.iv,dF,List.replicate_one,List.flatten_cons,List.flatten_nil,Nat.zero_mul,Nat.zero_add,Nat.mul_one]
   rw[Tree.fM,h0,h1];rfl
  |true=>
   simp only[↓dY,dZ,bK,↓al,aa,ev,bE,List.getD_cons_zero,List.getD_cons_succ,Nat.reduceEqDiff,if_false,if_true,Nat.reduceLT,Nat.reduceLeDiff,Nat.reduceAdd,Nat.reduceMul,true_and,and_true,List.length_map,br,AV.cells,List.length_cons,List.length_nil,ae,Lb.loc.injEq,↓an,↓az,↓aq,↓aK,↓aI,↓aJ,aN,aE,dO,List.getElem?_cons_zero,List.getElem?_cons_succ,Option.bind_some,Option.map_some,List.map_cons,List.map_nil,Int.natCast_nonneg,Int.toNat_natCast,AV.dk,AV.one,List.all_cons,List.all_nil,Bool.and_self,Bool.and_true,Bool.true_and,List.take_succ_cons,List.take_zero,List.drop_succ_cons,List.drop_zero,List.cons_append,List.nil_append,List.append_nil,List.set_cons_zero,IV.b7,Lb.app,Lb.fresh,aw,ax,ay,ak,reduceCtorEq,Bool.false_eq_true,List.take,List.drop,List.mem_cons,List.not_mem_nil,or_false,bp,bJ,forall_eq,false_implies,implies_true,ev,Hp.none,Nat.le_refl,List.set_cons_succ,aQ,chunks,dj,AV.iv,dF,List.replicate_one,List.flatten_cons,List.flatten_nil,Nat.zero_mul,Nat.zero_add,Nat.mul_one]
   cases h2:decide ((x.dP:Int)≤80) with
   |false=>
    simp only[↓dY,dZ,bK,↓al,aa,ev,bE,List.getD_cons_zero,List.getD_cons_succ,Nat.reduceEqDiff,if_false,if_true,Nat.reduceLT,Nat.reduceLeDiff,Nat.reduceAdd,Nat.reduceMul,true_and,and_true,List.length_map,br,AV.cells,List.length_cons,List.length_nil,ae,Lb.loc.injEq,↓an,↓az,↓aq,↓aK,↓aI,↓aJ,aN,aE,dO,List.getElem?_cons_zero,List.getElem?_cons_succ,Option.bind_some,Option.map_some,List.map_cons,List.map_nil,Int.natCast_nonneg,Int.toNat_natCast,AV.dk,AV.one,List.all_cons,List.all_nil,Bool.and_self,Bool.and_true,Bool.true_and,List.take_succ_cons,List.take_zero,List.drop_succ_cons,List.drop_zero,List.cons_append,List.nil_append,List.append_nil,List.set_cons_zero,IV.b7,Lb.app,Lb.fresh,aw,ax,ay,ak,reduceCtorEq,Bool.false_eq_true,List.take,List.drop,List.mem_cons,List.not_mem_nil,or_false,bp,bJ,forall_eq,false_implies,implies_true,ev,Hp.none,Nat.le_refl,List.set_cons_succ,aQ,chunks,dj,AV.iv,dF,List.replicate_one,List.flatten_cons,List.flatten_nil,Nat.zero_mul,Nat.zero_add,Nat.mul_one]
    rw[Tree.fM,h0,h1,h2];rfl
   |true=>
    simp only[↓dY,dZ,bK,↓al,aa,ev,bE,List.getD_cons_zero,List.getD_cons_succ,Nat.reduceEqDiff,if_false,if_true,Nat.reduceLT,Nat.reduceLeDiff,Nat.reduceAdd,Nat.reduceMul,true_and,and_true,List.length_map,br,AV.cells,List.length_cons,List.length_nil,ae,Lb.loc.injEq,↓an,↓az,↓aq,↓aK,↓aI,↓aJ,aN,aE,dO,List.getElem?_cons_zero,List.getElem?_cons_succ,Option.bind_some,Option.map_some,List.map_cons,List.map_nil,Int.natCast_nonneg,Int.toNat_natCast,AV.dk,AV.one,List.all_cons,List.all_nil,Bool.and_self,Bool.and_true,Bool.true_and,List.take_succ_cons,List.take_zero,List.drop_succ_cons,List.drop_zero,List.cons_append,List.nil_append,List.append_nil,List.set_cons_zero,IV.b7,Lb.app,Lb.fresh,aw,ax,ay,ak,reduceCtorEq,Bool.false_eq_true,List.take,List.drop,List.mem_cons,List.not_mem_nil,or_false,bp,bJ,forall_eq,false_implies,implies_true,ev,Hp.none,Nat.le_refl,List.set_cons_succ,aQ,chunks,dj,AV.iv,dF,List.replicate_one,List.flatten_cons,List.flatten_nil,Nat.zero_mul,Nat.zero_add,Nat.mul_one]
    refine aj (by rw[←h0];exact hK) ?_
    simp only[↓dY,dZ,bK,↓al,aa,ev,bE,List.getD_cons_zero,List.getD_cons_succ,Nat.reduceEqDiff,if_false,if_true,Nat.reduceLT,Nat.reduceLeDiff,Nat.reduceAdd,Nat.reduceMul,true_and,and_true,List.length_map,br,AV.cells,List.length_cons,List.length_nil,ae,Lb.loc.injEq,↓an,↓az,↓aq,↓aK,↓aI,↓aJ,aN,aE,dO,List.getElem?_cons_zero,List.getElem?_cons_succ,Option.bind_some,Option.map_some,List.map_cons,List.map_nil,Int.natCast_nonneg,Int.toNat_natCast,AV.dk,AV.one,List.all_cons,List.all_nil,Bool.and_self,Bool.and_true,Bool.true_and,List.take_succ_cons,List.take_zero,List.drop_succ_cons,List.drop_zero,List.cons_append,List.nil_append,List.append_nil,List.set_cons_zero,IV.b7,Lb.app,Lb.fresh,aw,ax,ay,ak,reduceCtorEq,Bool.false_eq_true,List.take,List.drop,List.mem_cons,List.not_mem_nil,or_false,bp,bJ,forall_eq,false_implies,implies_true,ev,Hp.none,Nat.le_refl,List.set_cons_succ,aQ,chunks,dj,AV.iv,dF,List.replicate_one,List.flatten_cons,List.flatten_nil,Nat.zero_mul,Nat.zero_add,Nat.mul_one]
    rw[Tree.fM,h0,h1,h2];rfl
end Go.Am

/- Documents: their values; how a tree lies in one. -/
namespace Go.Am
open Go Go.RowKit
structure Node where
 text:Bool
 s:Bs
 attrs:List Attr
 parent:Int
 kids:List Int
abbrev Doc:=List Node
def bl (n:Int):IV:= .int .i64 n
def Node.cs (x:Node):List IV:=[.bool x.text,.str x.s,.list (eh x.attrs),.int .i64 x.parent,.list (x.kids.map bl)]
def Node.iv (x:Node):IV:= .agg x.cs
def Node.av (x:Node):AV:= .agg [.bool x.text,.str x.s,.list (eh x.attrs),.int .i64 x.parent,.list (x.kids.map bl)]
theorem Node.aU (x:Node):x.iv.cells=x.cs:=rfl
theorem rV {α:Type} (f:α→IV) (n:Nat) (h:∀x,(f x).cells.length=n) (xs:List α):ia n (xs.map f):=by
 intro x hx;obtain⟨a,_,rfl⟩:=List.mem_map.1 hx;exact h a
theorem ox {α:Type} (f:α→IV) (h:∀x,∀z∈(f x).cells,∀cs,z≠ .agg cs) (xs:List α):Flat (xs.map f):=by
 intro x hx;obtain⟨a,_,rfl⟩:=List.mem_map.1 hx;exact h a
theorem oy (xs:List Int):ia 1 (xs.map bl):=rV bl 1 (fun _=>rfl) xs
theorem oz (xs:List Int):Flat (xs.map bl):=ox _ (by intro x z hz cs;simp[bl,IV.cells] at hz;subst hz;simp) _
theorem Node.nP (x:Node):∀z∈x.cs,∀cs,z≠ .agg cs:=by
 intro z hz cs;simp only[Node.cs,List.mem_cons,List.not_mem_nil,or_false] at hz;rcases hz with rfl|rfl|rfl|rfl|rfl<;>simp
theorem gJ (xs:List Node):ia 5 (xs.map Node.iv):=rV Node.iv 5 (fun _=>rfl) xs
theorem Cw (xs:List Node):Flat (xs.map Node.iv):=ox _ (fun x=>x.nP) _
theorem Node.ext' {x y:Node} (h1:x.text=y.text) (h2:x.s=y.s) (h3:x.attrs=y.attrs) (h4:x.parent=y.parent) (h5:x.kids=y.kids):x=y:=by
 cases x;cases y;simp_all
def cS (off:Nat):List Tree→List Int
 |[]=>[]
 |k::r=>(off:Int)::cS (off+k.dP) r
mutual
def Tree.flat (off:Nat) (p:Int):Tree→List Node
 | .mk t s as ks=>⟨t,s,as,p,cS (off+1) ks⟩::cT (off+1) off ks
def cT (off:Nat) (p:Nat):List Tree→List Node
 |[]=>[]
 |k::r=>k.flat off p++cT (off+k.dP) p r
end
def Tree.node (off:Nat) (p:Int) (x:Tree):Node:=⟨x.text,x.s,x.attrs,p,cS (off+1) x.kids⟩
theorem Tree.kD (off:Nat) (p:Int) (x:Tree):x.flat off p=x.node off p::cT (off+1) off x.kids:=by
 cases x;simp[Tree.flat,Tree.node,Tree.text,Tree.s,Tree.attrs,Tree.kids]
mutual
theorem Tree.ek (off:Nat) (p:Int):∀x:Tree,(x.flat off p).length=x.dP
 | .mk t s as ks=>by simp[Tree.flat,Tree.dP,kE (off+1) off ks]
theorem kE (off:Nat) (p:Nat):∀xs:List Tree,(cT off p xs).length=aY xs
 |[]=>by simp[cT,aY]
 |k::r=>by simp[cT,aY,k.ek,kE _ p r]
end
theorem jF:∀(off:Nat) (xs:List Tree),(cS off xs).length=xs.length
 |_,[]=>rfl
 |off,k::r=>by simp[cS,jF _ r]
theorem mF:∀(off p:Nat) (xs ys:List Tree),cT off p (xs++ys)=cT off p xs++cT (off+aY xs) p ys
 |off,p,[],ys=>by simp[cT,aY]
 |off,p,k::r,ys=>by simp[cT,aY,mF _ p r ys,Nat.add_assoc]
def aR (x:Tree):Doc:=x.flat 0 (-1)
theorem Tree.ew (x:Tree):0<x.dP:=by rw[x.ft];omega
end Go.Am

/- Copies of slices. -/
namespace Go.Am
open Go Go.RowKit
def dH:AC:=
(.seq (.au [⟨some 2,none,.af (.c .nil0)⟩]) (.seq (.seq (.au [⟨some 3,none,.af (.t 0)⟩,⟨some 4,none,.zR false (.t 3)⟩]) (.cond (.t 4) (.seq (.au [⟨some 2,none,.af (.c .nil0)⟩]) .ret) .skip)) (.seq (.au [⟨some 5,none,.lits 0 2 [(.str []),(.str [])] []⟩,⟨some 6,none,.af (.t 0)⟩,⟨some 7,none,.app (.t 5) (.t 6) 2 32⟩,⟨some 2,none,.af (.t 7)⟩]) (.gh (.xQ (.loc 7) 2) .ret))))
theorem BB {P:Program} {G:Nat→Option (List IV)} {a_:Nat} (hF:aB P G a_=some (8,[(none,2)],dH.bare)) (xs:List Attr) (hx:xs.length≤B):ai P G a_ [.list (eh xs)] (.list (eh xs)):=by
 refine gI hF (by simp) (by simp[ah,AV.ar]) (by simp[AV.ar]) ?_;unfold dH;simp only[↓aX,mX,reduceCtorEq,Nat.reduceEqDiff,Nat.reduceLT,Nat.reduceLeDiff,Nat.reduceAdd,Nat.reduceMul,Int.reduceToNat,Int.reduceLE,Int.reduceLT,D_];refine BA (fun h=> ?_) ?_
 ·simp only[↓aX,mX,reduceCtorEq,Nat.reduceEqDiff,Nat.reduceLT,Nat.reduceLeDiff,Nat.reduceAdd,Nat.reduceMul,Int.reduceToNat,Int.reduceLE,Int.reduceLT,norm,h]
 ·simp only[↓aX,mX,reduceCtorEq,Nat.reduceEqDiff,Nat.reduceLT,Nat.reduceLeDiff,Nat.reduceAdd,Nat.reduceMul,Int.reduceToNat,Int.reduceLE,Int.reduceLT,norm];rw[jk 2 32 7 (eh xs) (nc _) (oi _) (by rw[de];unfold B at hx;omega) (by decide) rfl];simp only[↓aX,mX,reduceCtorEq,Nat.reduceEqDiff,Nat.reduceLT,Nat.reduceLeDiff,Nat.reduceAdd,Nat.reduceMul,Int.reduceToNat,Int.reduceLE,Int.reduceLT,norm]
  exact⟨2,eh xs,0,_,rfl,rfl,by simp,oi _,by simp⟩
end Go.Am

/- THE ABSTRACT MACHINE, part 34: a list of structs behind a pointer. -/
namespace Go.Am
open Go Go.RowKit
def yC (u:Lb→Bool) (rs:List (Lb×Row)):Hp:=fun q=>match gU rs q with
 | .unused=>if u q then .dead else .unused
 |s=>s
theorem oA {u:Lb→Bool} {rs:List (Lb×Row)} {l:Lb} {r:Row}:yC u rs l= .live r↔gU rs l= .live r:=by
 unfold yC;cases h:gU rs l with
 |unused=>by_cases hu:u l=true<;>simp[hu]
 |dead=>simp
 |live r'=>simp
theorem oB {u:Lb→Bool} {rs:List (Lb×Row)} {l:Lb} (h:l∈rs.map Prod.fst∨u l=true):yC u rs l≠ .unused:=by
 unfold yC;rcases h with h|h
 ·have:=kc h;cases h2:gU rs l with
  |unused=>exact absurd h2 this
  |dead=>simp
  |live r=>simp
 ·cases h2:gU rs l with
  |unused=>simp[h]
  |dead=>simp
  |live r=>simp
structure WU (ls:List Lb) (u:Lb→Bool) (ps:List (Nat×AV)) (rs:List (Lb×Row)) (env:Env) (H:Hp) (m:List (Lb×Lb)):Prop where
 nf:∀l:Lb,l.fresh=false→H l≠ .unused→l∈ls∨u l=true
 e:iq (bq m) env ps
 r:jW (bq m) H rs
 inj:(ls.map (bq m)).Nodup
 fr:∀l∈ls,(l.fresh=true→(bq m l).fresh=true)∧(l.fresh=false→bq m l=l)
theorem WU.wk {ls:List Lb} {u:Lb→Bool} {ps:List (Nat×AV)} {rs:List (Lb×Row)} {env:Env} {H:Hp} {m:List (Lb×Lb)} (h:WU ls u ps rs env H m) (pe:rs.map Prod.fst=ls) (hp:∀l∈ah (ps.map Prod.snd),l∈ls)
  (hr:∀q∈rs,∀cs∈q.2.els,∀l∈ah cs,l∈ls):Wk (bq m) env H (rk ps) (yC u rs):=by
 have Bu:∀l,live (yC u rs) l→l∈ls:=fun l ⟨r,h⟩=>by rw[←pe];exact List.mem_map.2 ⟨_,gH (oA.1 h),rfl⟩
 refine⟨h.e.we,fun l r hl=>qB h.r (gH (oA.1 hl)),fun l l' h1 h2 e=>iS h.inj l (Bu l h1) l' (Bu l' h2) e,oe fun l hl=>oB (.inl (by rw[pe];exact hp l hl)),fun l r hl cs bx q hq=> ?_,
  fun l hf=>⟨fun hu=> ?_,fun hl=>(h.fr l (Bu l hl)).2 (Lb.gD hf)⟩,fun l hl hf=>(h.fr l (Bu l hl)).1 hf⟩
 ·exact oB (.inl (by rw[pe];exact hr _ (gH (oA.1 hl)) cs bx q hq))
 ·exact oB (by rw[pe];exact h.nf l (Lb.gD hf) hu)
theorem dA {σ:Type} {S:St} {Q:iC} {c:AC} {k:List It} {env:Env} {H:Hp} (ls:σ→List Lb) (u:σ→Lb→Bool) (ps:σ→List (Nat×AV)) (rs:σ→List (Lb×Row)) (μ:σ→Nat) (s0:σ)
  (pe:∀s,(rs s).map Prod.fst=ls s) (hp:∀s,∀l∈ah ((ps s).map Prod.snd),l∈ls s) (hr:∀s,∀q∈rs s,∀cs∈q.2.els,∀l∈ah cs,l∈ls s) (h0:∃m,WU (ls s0) (u s0) (ps s0) (rs s0) env H m)
  (round:∀s,go S (lT S Q k (fun env H s=>∃m,WU (ls s) (u s) (ps s) (rs s) env H m) μ (μ s)) [.code c] (rk (ps s)) (yC (u s) (rs s))):m_ S Q c k env H:=
 lU (fun s=>rk (ps s)) (fun s=>yC (u s) (rs s)) _ (fun _ _ s ⟨m,h⟩=>⟨_,h.wk (pe s) (hp s) (hr s)⟩) μ s0 h0 round
theorem cr (ρ:Lb→Lb) (sz:Nat) (xs:List IV):bX ρ ⟨sz,aG xs⟩=⟨sz,aG xs⟩:=rQ ρ sz xs
end Go.Am
