import Derived.Test.YtfinkeaikbmpgaaKAm25
set_option linter.unusedSimpArgs false
set_option linter.unusedVariables false
set_option linter.unnecessarySimpa false
set_option linter.defProp false
/- Texts and names that are good. -/
namespace Go.Am
open Go Go.RowKit
def mD (c:UInt8):Bool:= !((((c.toNat:Int) !=10))&&(decide ((c.toNat:Int)<32)||decide ((c.toNat:Int)>126)))
def plain (s:Bs):Bool:=s.all mD&&decide ((s.length:Int)≤40)
def rl:AC:=
(.seq
 (.aM [
  ⟨some 2,none,.ak (.c (.bool false))⟩])
(.seq
 (.seq
  (.aM [
   ⟨some 4,none,.ak (.t 0)⟩,
   ⟨some 5,none,.lens (.t 4)⟩,
   ⟨some 6,none,.ak (.c (.int .i64 0))⟩])
 (.block 0
  (.loop
   (.seq
    (.aM [
     ⟨some 7,none,.bin .lss (.t 6) (.t 5)⟩])
   (.seq
    (.cond (.t 7)
     .skip
     (.exit 0))
   (.seq
    (.block 1
     (.seq
      (.aM [
       ⟨some 8,none,.ak (.t 6)⟩,
       ⟨some 3,none,.ak (.t 8)⟩])
     (.seq
      (.aM [
       ⟨some 9,none,.ak (.t 0)⟩,
       ⟨some 10,none,.ak (.t 3)⟩,
       ⟨some 11,none,.yM (.t 9) (.t 10)⟩,
       ⟨some 12,none,.bin .neq (.t 11) (.c (.int .u8 10))⟩,
       ⟨some 13,none,.ak (.t 12)⟩,
       ⟨some 14,(some (13,true)),(.ak (.t 0))⟩,
       ⟨some 15,(some (13,true)),(.ak (.t 3))⟩,
       ⟨some 16,(some (13,true)),(.yM (.t 14) (.t 15))⟩,
       ⟨some 17,(some (13,true)),(.bin .lss (.t 16) (.c (.int .u8 32)))⟩,
       ⟨some 18,(some (13,true)),(.ak (.t 17))⟩,
       ⟨some 19,(some (18,false)),(.ak (.t 0))⟩,
       ⟨some 20,(some (18,false)),(.ak (.t 3))⟩,
       ⟨some 21,(some (18,false)),(.yM (.t 19) (.t 20))⟩,
       ⟨some 22,(some (18,false)),(.bin .gtr (.t 21) (.c (.int .u8 126)))⟩,
       ⟨some 23,(some (13,true)),(.pick (.t 18) (.c (.bool true)) (.t 22))⟩,
       ⟨some 24,none,.pick (.t 13) (.t 23) (.c (.bool false))⟩])
     (.cond (.t 24)
      (.seq
       (.aM [
        ⟨some 2,none,.ak (.c (.bool false))⟩])
      .ret)
      .skip))))
   (.aM [
    ⟨some 25,none,.bin .add (.t 6) (.c (.int .i64 1))⟩,
    ⟨some 6,none,.ak (.t 25)⟩])))))))
(.seq
 (.aM [
  ⟨some 26,none,.ak (.t 0)⟩,
  ⟨some 27,none,.lens (.t 26)⟩,
  ⟨some 28,none,.bin .leq (.t 27) (.c (.int .i64 40))⟩,
  ⟨some 2,none,.ak (.t 28)⟩])
.ret)))
def uP (s:Bs) (i:Nat):Env:=put (put (put Env.any 0 (.str s)) 5 (.int .i64 s.length)) 6 (.int .i64 i)
theorem vY {p:UInt8→Bool} {s:Bs} {i:Nat} {c:UInt8} (h:(s.take i).all p=true) (hc:s[i]?=some c) (hp:p c=true):(s.take (i+1)).all p=true:=by
 rw[List.take_add_one,hc];simp[h,hp]
theorem qA {p:UInt8→Bool} {s:Bs} {i:Nat} {c:UInt8} (hc:s[i]?=some c) (hp:p c=false):s.all p=false:=by
 cases h:s.all p with
 |false=>rfl
 |true=>
  have:=List.all_eq_true.1 h c (List.mem_of_getElem? hc);rw[hp] at this;exact this.symm
theorem rn {P:Program} {G:Nat→Option (List IV)} {f:Nat} (hF:aA P G f=some (29,[(none,2)],rl.bare)) (s:Bs) (hx:s.length≤B) :
   az P G f [.str s] (.bool (plain s)):=by
 refine bm hF (by simp) (by simp[ax,AV.aI]) (by simp[AV.aI]) ?_
 unfold rl
 simp only[↓fk,fl,cF,↓aE,ae,ev,b7,List.getD_cons_zero,List.getD_cons_succ,Nat.reduceEqDiff,if_false,if_true,Nat.reduceLT,Nat.reduceLeDiff,Nat.reduceAdd,Nat.reduceMul,true_and,and_true,List.length_map,bY,AV.cells,List.length_cons,List.length_nil,ai,Lb.loc.injEq,↓aF,↓aT,↓aG,↓bp,↓bn,↓bo,bq,a_,e_,List.getElem?_cons_zero,List.getElem?_cons_succ,Option.bind_some,Option.map_some,List.map_cons,List.map_nil,Int.natCast_nonneg,Int.toNat_natCast,AV.ew,AV.one,List.all_cons,List.all_nil,Bool.and_self,Bool.and_true,Bool.true_and,List.take_succ_cons,List.take_zero,List.drop_succ_cons,List.drop_zero,List.cons_append,List.nil_append,List.append_nil,List.set_cons_zero,IV.cW,Lb.app,Lb.fresh,aP,aQ,aR,aD,reduceCtorEq,Bool.false_eq_true,List.take,List.drop,List.mem_cons,List.not_mem_nil,or_false,bU,cw,forall_eq,false_implies,implies_true,ev,Hp.none,Nat.le_refl,List.set_cons_succ,bu,chunks,eg,AV.iv,eW,List.replicate_one,List.flatten_cons,List.flatten_nil,Nat.zero_mul,Nat.zero_add,Nat.mul_one]
 refine iQ (σ:={i:Nat // i≤s.length∧(s.take i).all mD=true}) (fun q=>uP s q.1) (fun _=>Hp.none) (fun q=>s.length - q.1) ⟨0,by simp⟩ id ?_ ?_
 · refine .none ?_ ?_
   · exact bJ rfl (bJ rfl (bJ rfl (gk _ _)))
   · exact bK (by simp[AV.aI]) (bK (by simp[AV.aI]) (bK (by simp[AV.aI]) (gl _)))
 · rintro ⟨i,hi,hs⟩
   simp only[↓fk,fl,cF,↓aE,ae,ev,b7,List.getD_cons_zero,List.getD_cons_succ,Nat.reduceEqDiff,if_false,if_true,Nat.reduceLT,Nat.reduceLeDiff,Nat.reduceAdd,Nat.reduceMul,true_and,and_true,List.length_map,bY,AV.cells,List.length_cons,List.length_nil,ai,Lb.loc.injEq,↓aF,↓aT,↓aG,↓bp,↓bn,↓bo,bq,a_,e_,List.getElem?_cons_zero,List.getElem?_cons_succ,Option.bind_some,Option.map_some,List.map_cons,List.map_nil,Int.natCast_nonneg,Int.toNat_natCast,AV.ew,AV.one,List.all_cons,List.all_nil,Bool.and_self,Bool.and_true,Bool.true_and,List.take_succ_cons,List.take_zero,List.drop_succ_cons,List.drop_zero,List.cons_append,List.nil_append,List.append_nil,List.set_cons_zero,IV.cW,Lb.app,Lb.fresh,aP,aQ,aR,aD,reduceCtorEq,Bool.false_eq_true,List.take,List.drop,List.mem_cons,List.not_mem_nil,or_false,bU,cw,forall_eq,false_implies,implies_true,ev,Hp.none,Nat.le_refl,List.set_cons_succ,bu,chunks,eg,AV.iv,eW,List.replicate_one,List.flatten_cons,List.flatten_nil,Nat.zero_mul,Nat.zero_add,Nat.mul_one,uP]
   by_cases cj:i<s.length
   · rw[show decide ((i:Int)<(s.length:Int))=true by simpa using cj]
     obtain⟨c,hc⟩:∃c,s[i]?=some c:=⟨_,List.getElem?_eq_getElem cj⟩
     have hw:IntKind.i64.wrap ((i:Int)+1)=((i+1:Nat):Int):=wrap64 (by omega) (by unfold B at hx;omega)
     have next:mD c=true→∃q:{i:Nat // i≤s.length∧(s.take i).all mD=true},q.1=i+1:=fun hp=>⟨⟨i+1,cj,vY hs hc hp⟩,rfl⟩
     simp only[↓fk,fl,cF,↓aE,ae,ev,b7,List.getD_cons_zero,List.getD_cons_succ,Nat.reduceEqDiff,if_false,if_true,Nat.reduceLT,Nat.reduceLeDiff,Nat.reduceAdd,Nat.reduceMul,true_and,and_true,List.length_map,bY,AV.cells,List.length_cons,List.length_nil,ai,Lb.loc.injEq,↓aF,↓aT,↓aG,↓bp,↓bn,↓bo,bq,a_,e_,List.getElem?_cons_zero,List.getElem?_cons_succ,Option.bind_some,Option.map_some,List.map_cons,List.map_nil,Int.natCast_nonneg,Int.toNat_natCast,AV.ew,AV.one,List.all_cons,List.all_nil,Bool.and_self,Bool.and_true,Bool.true_and,List.take_succ_cons,List.take_zero,List.drop_succ_cons,List.drop_zero,List.cons_append,List.nil_append,List.append_nil,List.set_cons_zero,IV.cW,Lb.app,Lb.fresh,aP,aQ,aR,aD,reduceCtorEq,Bool.false_eq_true,List.take,List.drop,List.mem_cons,List.not_mem_nil,or_false,bU,cw,forall_eq,false_implies,implies_true,ev,Hp.none,Nat.le_refl,List.set_cons_succ,bu,chunks,eg,AV.iv,eW,List.replicate_one,List.flatten_cons,List.flatten_nil,Nat.zero_mul,Nat.zero_add,Nat.mul_one,hc]
     cases h1:((c.toNat:Int) !=10) with
     |false=>
       obtain⟨q,hq⟩:=next (by simp[mD,h1])
       simp only[↓fk,fl,cF,↓aE,ae,ev,b7,List.getD_cons_zero,List.getD_cons_succ,Nat.reduceEqDiff,if_false,if_true,Nat.reduceLT,Nat.reduceLeDiff,Nat.reduceAdd,Nat.reduceMul,true_and,and_true,List.length_map,bY,AV.cells,List.length_cons,List.length_nil,ai,Lb.loc.injEq,↓aF,↓aT,↓aG,↓bp,↓bn,↓bo,bq,a_,e_,List.getElem?_cons_zero,List.getElem?_cons_succ,Option.bind_some,Option.map_some,List.map_cons,List.map_nil,Int.natCast_nonneg,Int.toNat_natCast,AV.ew,AV.one,List.all_cons,List.all_nil,Bool.and_self,Bool.and_true,Bool.true_and,List.take_succ_cons,List.take_zero,List.drop_succ_cons,List.drop_zero,List.cons_append,List.nil_append,List.append_nil,List.set_cons_zero,IV.cW,Lb.app,Lb.fresh,aP,aQ,aR,aD,reduceCtorEq,Bool.false_eq_true,List.take,List.drop,List.mem_cons,List.not_mem_nil,or_false,bU,cw,forall_eq,false_implies,implies_true,ev,Hp.none,Nat.le_refl,List.set_cons_succ,bu,chunks,eg,AV.iv,eW,List.replicate_one,List.flatten_cons,List.flatten_nil,Nat.zero_mul,Nat.zero_add,Nat.mul_one,hc,hw]
       refine⟨q,by omega,id,.none ?_ ?_⟩
       · rw[hq];exact bJ rfl (bJ rfl (bJ rfl (gk _ _)))
       · exact bK (by simp[AV.aI]) (bK (by simp[AV.aI]) (bK (by simp[AV.aI]) (gl _)))
     |true=>
       simp only[↓fk,fl,cF,↓aE,ae,ev,b7,List.getD_cons_zero,List.getD_cons_succ,Nat.reduceEqDiff,if_false,if_true,Nat.reduceLT,Nat.reduceLeDiff,Nat.reduceAdd,Nat.reduceMul,true_and,and_true,List.length_map,bY,AV.cells,List.length_cons,List.length_nil,ai,Lb.loc.injEq,↓aF,↓aT,↓aG,↓bp,↓bn,↓bo,bq,a_,e_,List.getElem?_cons_zero,List.getElem?_cons_succ,Option.bind_some,Option.map_some,List.map_cons,List.map_nil,Int.natCast_nonneg,Int.toNat_natCast,AV.ew,AV.one,List.all_cons,List.all_nil,Bool.and_self,Bool.and_true,Bool.true_and,List.take_succ_cons,List.take_zero,List.drop_succ_cons,List.drop_zero,List.cons_append,List.nil_append,List.append_nil,List.set_cons_zero,IV.cW,Lb.app,Lb.fresh,aP,aQ,aR,aD,reduceCtorEq,Bool.false_eq_true,List.take,List.drop,List.mem_cons,List.not_mem_nil,or_false,bU,cw,forall_eq,false_implies,implies_true,ev,Hp.none,Nat.le_refl,List.set_cons_succ,bu,chunks,eg,AV.iv,eW,List.replicate_one,List.flatten_cons,List.flatten_nil,Nat.zero_mul,Nat.zero_add,Nat.mul_one,hc]
       cases h2:decide ((c.toNat:Int)<32) with
       |true=>
         simp only[↓fk,fl,cF,↓aE,ae,ev,b7,List.getD_cons_zero,List.getD_cons_succ,Nat.reduceEqDiff,if_false,if_true,Nat.reduceLT,Nat.reduceLeDiff,Nat.reduceAdd,Nat.reduceMul,true_and,and_true,List.length_map,bY,AV.cells,List.length_cons,List.length_nil,ai,Lb.loc.injEq,↓aF,↓aT,↓aG,↓bp,↓bn,↓bo,bq,a_,e_,List.getElem?_cons_zero,List.getElem?_cons_succ,Option.bind_some,Option.map_some,List.map_cons,List.map_nil,Int.natCast_nonneg,Int.toNat_natCast,AV.ew,AV.one,List.all_cons,List.all_nil,Bool.and_self,Bool.and_true,Bool.true_and,List.take_succ_cons,List.take_zero,List.drop_succ_cons,List.drop_zero,List.cons_append,List.nil_append,List.append_nil,List.set_cons_zero,IV.cW,Lb.app,Lb.fresh,aP,aQ,aR,aD,reduceCtorEq,Bool.false_eq_true,List.take,List.drop,List.mem_cons,List.not_mem_nil,or_false,bU,cw,forall_eq,false_implies,implies_true,ev,Hp.none,Nat.le_refl,List.set_cons_succ,bu,chunks,eg,AV.iv,eW,List.replicate_one,List.flatten_cons,List.flatten_nil,Nat.zero_mul,Nat.zero_add,Nat.mul_one,hc]
         rw[plain,qA hc (by simp[mD,h1,h2])];rfl
       |false=>
         simp only[↓fk,fl,cF,↓aE,ae,ev,b7,List.getD_cons_zero,List.getD_cons_succ,Nat.reduceEqDiff,if_false,if_true,Nat.reduceLT,Nat.reduceLeDiff,Nat.reduceAdd,Nat.reduceMul,true_and,and_true,List.length_map,bY,AV.cells,List.length_cons,List.length_nil,ai,Lb.loc.injEq,↓aF,↓aT,↓aG,↓bp,↓bn,↓bo,bq,a_,e_,List.getElem?_cons_zero,List.getElem?_cons_succ,Option.bind_some,Option.map_some,List.map_cons,List.map_nil,Int.natCast_nonneg,Int.toNat_natCast,AV.ew,AV.one,List.all_cons,List.all_nil,Bool.and_self,Bool.and_true,Bool.true_and,List.take_succ_cons,List.take_zero,List.drop_succ_cons,List.drop_zero,List.cons_append,List.nil_append,List.append_nil,List.set_cons_zero,IV.cW,Lb.app,Lb.fresh,aP,aQ,aR,aD,reduceCtorEq,Bool.false_eq_true,List.take,List.drop,List.mem_cons,List.not_mem_nil,or_false,bU,cw,forall_eq,false_implies,implies_true,ev,Hp.none,Nat.le_refl,List.set_cons_succ,bu,chunks,eg,AV.iv,eW,List.replicate_one,List.flatten_cons,List.flatten_nil,Nat.zero_mul,Nat.zero_add,Nat.mul_one,hc]
         cases h3:decide ((c.toNat:Int)>126) with
         |true=>
           simp only[↓fk,fl,cF,↓aE,ae,ev,b7,List.getD_cons_zero,List.getD_cons_succ,Nat.reduceEqDiff,if_false,if_true,Nat.reduceLT,Nat.reduceLeDiff,Nat.reduceAdd,Nat.reduceMul,true_and,and_true,List.length_map,bY,AV.cells,List.length_cons,List.length_nil,ai,Lb.loc.injEq,↓aF,↓aT,↓aG,↓bp,↓bn,↓bo,bq,a_,e_,List.getElem?_cons_zero,List.getElem?_cons_succ,Option.bind_some,Option.map_some,List.map_cons,List.map_nil,Int.natCast_nonneg,Int.toNat_natCast,AV.ew,AV.one,List.all_cons,List.all_nil,Bool.and_self,Bool.and_true,Bool.true_and,List.take_succ_cons,List.take_zero,List.drop_succ_cons,List.drop_zero,List.cons_append,List.nil_append,List.append_nil,List.set_cons_zero,IV.cW,Lb.app,Lb.fresh,aP,aQ,aR,aD,reduceCtorEq,Bool.false_eq_true,List.take,List.drop,List.mem_cons,List.not_mem_nil,or_false,bU,cw,forall_eq,false_implies,implies_true,ev,Hp.none,Nat.le_refl,List.set_cons_succ,bu,chunks,eg,AV.iv,eW,List.replicate_one,List.flatten_cons,List.flatten_nil,Nat.zero_mul,Nat.zero_add,Nat.mul_one,hc]
           rw[plain,qA hc (by simp[mD,h1,h2,h3])];rfl
         |false=>
           obtain⟨q,hq⟩:=next (by simp[mD,h1,h2,h3])
           simp only[↓fk,fl,cF,↓aE,ae,ev,b7,List.getD_cons_zero,List.getD_cons_succ,Nat.reduceEqDiff,if_false,if_true,Nat.reduceLT,Nat.reduceLeDiff,Nat.reduceAdd,Nat.reduceMul,true_and,and_true,List.length_map,bY,AV.cells,List.length_cons,List.length_nil,ai,Lb.loc.injEq,↓aF,↓aT,↓aG,↓bp,↓bn,↓bo,bq,a_,e_,List.getElem?_cons_zero,List.getElem?_cons_succ,Option.bind_some,Option.map_some,List.map_cons,List.map_nil,Int.natCast_nonneg,Int.toNat_natCast,AV.ew,AV.one,List.all_cons,List.all_nil,Bool.and_self,Bool.and_true,Bool.true_and,List.take_succ_cons,List.take_zero,List.drop_succ_cons,List.drop_zero,List.cons_append,List.nil_append,List.append_nil,List.set_cons_zero,IV.cW,Lb.app,Lb.fresh,aP,aQ,aR,aD,reduceCtorEq,Bool.false_eq_true,List.take,List.drop,List.mem_cons,List.not_mem_nil,or_false,bU,cw,forall_eq,false_implies,implies_true,ev,Hp.none,Nat.le_refl,List.set_cons_succ,bu,chunks,eg,AV.iv,eW,List.replicate_one,List.flatten_cons,List.flatten_nil,Nat.zero_mul,Nat.zero_add,Nat.mul_one,hc,hw]
           refine⟨q,by omega,id,.none ?_ ?_⟩
           · rw[hq];exact bJ rfl (bJ rfl (bJ rfl (gk _ _)))
           · exact bK (by simp[AV.aI]) (bK (by simp[AV.aI]) (bK (by simp[AV.aI]) (gl _)))
   · rw[show decide ((i:Int)<(s.length:Int))=false by simpa using cj]
     simp only[↓fk,fl,cF,↓aE,ae,ev,b7,List.getD_cons_zero,List.getD_cons_succ,Nat.reduceEqDiff,if_false,if_true,Nat.reduceLT,Nat.reduceLeDiff,Nat.reduceAdd,Nat.reduceMul,true_and,and_true,List.length_map,bY,AV.cells,List.length_cons,List.length_nil,ai,Lb.loc.injEq,↓aF,↓aT,↓aG,↓bp,↓bn,↓bo,bq,a_,e_,List.getElem?_cons_zero,List.getElem?_cons_succ,Option.bind_some,Option.map_some,List.map_cons,List.map_nil,Int.natCast_nonneg,Int.toNat_natCast,AV.ew,AV.one,List.all_cons,List.all_nil,Bool.and_self,Bool.and_true,Bool.true_and,List.take_succ_cons,List.take_zero,List.drop_succ_cons,List.drop_zero,List.cons_append,List.nil_append,List.append_nil,List.set_cons_zero,IV.cW,Lb.app,Lb.fresh,aP,aQ,aR,aD,reduceCtorEq,Bool.false_eq_true,List.take,List.drop,List.mem_cons,List.not_mem_nil,or_false,bU,cw,forall_eq,false_implies,implies_true,ev,Hp.none,Nat.le_refl,List.set_cons_succ,bu,chunks,eg,AV.iv,eW,List.replicate_one,List.flatten_cons,List.flatten_nil,Nat.zero_mul,Nat.zero_add,Nat.mul_one]
     have:s.take i=s:=List.take_of_length_le (by omega)
     rw[plain,←this,hs,this];rfl
def pV (c:UInt8):Bool:= !(decide ((c.toNat:Int)<97)||decide ((c.toNat:Int)>122))
def named (s:Bs):Bool:=s.all pV&&(decide ((s.length:Int)≥1)&&decide ((s.length:Int)≤8))
def rq:AC:=
(.seq
 (.aM [
  ⟨some 2,none,.ak (.c (.bool false))⟩])
(.seq
 (.seq
  (.aM [
   ⟨some 4,none,.ak (.t 0)⟩,
   ⟨some 5,none,.lens (.t 4)⟩,
   ⟨some 6,none,.ak (.c (.int .i64 0))⟩])
 (.block 0
  (.loop
   (.seq
    (.aM [
     ⟨some 7,none,.bin .lss (.t 6) (.t 5)⟩])
   (.seq
    (.cond (.t 7)
     .skip
     (.exit 0))
   (.seq
    (.block 1
     (.seq
      (.aM [
       ⟨some 8,none,.ak (.t 6)⟩,
       ⟨some 3,none,.ak (.t 8)⟩])
     (.seq
      (.aM [
       ⟨some 9,none,.ak (.t 0)⟩,
       ⟨some 10,none,.ak (.t 3)⟩,
       ⟨some 11,none,.yM (.t 9) (.t 10)⟩,
       ⟨some 12,none,.bin .lss (.t 11) (.c (.int .u8 97))⟩,
       ⟨some 13,none,.ak (.t 12)⟩,
       ⟨some 14,(some (13,false)),(.ak (.t 0))⟩,
       ⟨some 15,(some (13,false)),(.ak (.t 3))⟩,
       ⟨some 16,(some (13,false)),(.yM (.t 14) (.t 15))⟩,
       ⟨some 17,(some (13,false)),(.bin .gtr (.t 16) (.c (.int .u8 122)))⟩,
       ⟨some 18,none,.pick (.t 13) (.c (.bool true)) (.t 17)⟩])
     (.cond (.t 18)
      (.seq
       (.aM [
        ⟨some 2,none,.ak (.c (.bool false))⟩])
      .ret)
      .skip))))
   (.aM [
    ⟨some 19,none,.bin .add (.t 6) (.c (.int .i64 1))⟩,
    ⟨some 6,none,.ak (.t 19)⟩])))))))
(.seq
 (.aM [
  ⟨some 20,none,.ak (.t 0)⟩,
  ⟨some 21,none,.lens (.t 20)⟩,
  ⟨some 22,none,.bin .geq (.t 21) (.c (.int .i64 1))⟩,
  ⟨some 23,none,.ak (.t 22)⟩,
  ⟨some 24,(some (23,true)),(.ak (.t 0))⟩,
  ⟨some 25,(some (23,true)),(.lens (.t 24))⟩,
  ⟨some 26,(some (23,true)),(.bin .leq (.t 25) (.c (.int .i64 8)))⟩,
  ⟨some 27,none,.pick (.t 23) (.t 26) (.c (.bool false))⟩,
  ⟨some 2,none,.ak (.t 27)⟩])
.ret)))
theorem rr {P:Program} {G:Nat→Option (List IV)} {f:Nat} (hF:aA P G f=some (28,[(none,2)],rq.bare)) (s:Bs) (hx:s.length≤B) :
  az P G f [.str s] (.bool (named s)):=by
 refine bm hF (by simp) (by simp[ax,AV.aI]) (by simp[AV.aI]) ?_;unfold rq
 simp only[↓fk,fl,cF,↓aE,ae,ev,b7,List.getD_cons_zero,List.getD_cons_succ,Nat.reduceEqDiff,if_false,if_true,Nat.reduceLT,Nat.reduceLeDiff,Nat.reduceAdd,Nat.reduceMul,true_and,and_true,List.length_map,bY,AV.cells,List.length_cons,List.length_nil,ai,Lb.loc.injEq,↓aF,↓aT,↓aG,↓bp,↓bn,↓bo,bq,a_,e_,List.getElem?_cons_zero,List.getElem?_cons_succ,Option.bind_some,Option.map_some,List.map_cons,List.map_nil,Int.natCast_nonneg,Int.toNat_natCast,AV.ew,AV.one,List.all_cons,List.all_nil,Bool.and_self,Bool.and_true,Bool.true_and,List.take_succ_cons,List.take_zero,List.drop_succ_cons,List.drop_zero,List.cons_append,List.nil_append,List.append_nil,List.set_cons_zero,IV.cW,Lb.app,Lb.fresh,aP,aQ,aR,aD,reduceCtorEq,Bool.false_eq_true,List.take,List.drop,List.mem_cons,List.not_mem_nil,or_false,bU,cw,forall_eq,false_implies,implies_true,ev,Hp.none,Nat.le_refl,List.set_cons_succ,bu,chunks,eg,AV.iv,eW,List.replicate_one,List.flatten_cons,List.flatten_nil,Nat.zero_mul,Nat.zero_add,Nat.mul_one]
 refine iQ (σ:={i:Nat // i≤s.length∧(s.take i).all pV=true}) (fun q=>uP s q.1) (fun _=>Hp.none) (fun q=>s.length - q.1) ⟨0,by simp⟩ id ?_ ?_
 ·refine .none ?_ ?_
  ·exact bJ rfl (bJ rfl (bJ rfl (gk _ _)))
  ·exact bK (by simp[AV.aI]) (bK (by simp[AV.aI]) (bK (by simp[AV.aI]) (gl _)))
 ·rintro⟨i,hi,hs⟩
  simp only[↓fk,fl,cF,↓aE,ae,ev,b7,List.getD_cons_zero,List.getD_cons_succ,Nat.reduceEqDiff,if_false,if_true,Nat.reduceLT,Nat.reduceLeDiff,Nat.reduceAdd,Nat.reduceMul,true_and,and_true,List.length_map,bY,AV.cells,List.length_cons,List.length_nil,ai,Lb.loc.injEq,↓aF,↓aT,↓aG,↓bp,↓bn,↓bo,bq,a_,e_,List.getElem?_cons_zero,List.getElem?_cons_succ,Option.bind_some,Option.map_some,List.map_cons,List.map_nil,Int.natCast_nonneg,Int.toNat_natCast,AV.ew,AV.one,List.all_cons,List.all_nil,Bool.and_self,Bool.and_true,Bool.true_and,List.take_succ_cons,List.take_zero,List.drop_succ_cons,List.drop_zero,List.cons_append,List.nil_append,List.append_nil,List.set_cons_zero,IV.cW,Lb.app,Lb.fresh,aP,aQ,aR,aD,reduceCtorEq,Bool.false_eq_true,List.take,List.drop,List.mem_cons,List.not_mem_nil,or_false,bU,cw,forall_eq,false_implies,implies_true,ev,Hp.none,Nat.le_refl,List.set_cons_succ,bu,chunks,eg,AV.iv,eW,List.replicate_one,List.flatten_cons,List.flatten_nil,Nat.zero_mul,Nat.zero_add,Nat.mul_one,uP]
  by_cases cj:i<s.length
  ·rw[show decide ((i:Int)<(s.length:Int))=true by simpa using cj];obtain⟨c,hc⟩:∃c,s[i]?=some c:=⟨_,List.getElem?_eq_getElem cj⟩;have hw:IntKind.i64.wrap ((i:Int)+1)=((i+1:Nat):Int):=wrap64 (by omega) (by unfold B at hx;omega);have next:pV c=true→∃q:{i:Nat // i≤s.length∧(s.take i).all pV=true},q.1=i+1:=fun hp=>⟨⟨i+1,cj,vY hs hc hp⟩,rfl⟩
   simp only[↓fk,fl,cF,↓aE,ae,ev,b7,List.getD_cons_zero,List.getD_cons_succ,Nat.reduceEqDiff,if_false,if_true,Nat.reduceLT,Nat.reduceLeDiff,Nat.reduceAdd,Nat.reduceMul,true_and,and_true,List.length_map,bY,AV.cells,List.length_cons,List.length_nil,ai,Lb.loc.injEq,↓aF,↓aT,↓aG,↓bp,↓bn,↓bo,bq,a_,e_,List.getElem?_cons_zero,List.getElem?_cons_succ,Option.bind_some,Option.map_some,List.map_cons,List.map_nil,Int.natCast_nonneg,Int.toNat_natCast,AV.ew,AV.one,List.all_cons,List.all_nil,Bool.and_self,Bool.and_true,Bool.true_and,List.take_succ_cons,List.take_zero,List.drop_succ_cons,List.drop_zero,List.cons_append,List.nil_append,List.append_nil,List.set_cons_zero,IV.cW,Lb.app,Lb.fresh,aP,aQ,aR,aD,reduceCtorEq,Bool.false_eq_true,List.take,List.drop,List.mem_cons,List.not_mem_nil,or_false,bU,cw,forall_eq,false_implies,implies_true,ev,Hp.none,Nat.le_refl,List.set_cons_succ,bu,chunks,eg,AV.iv,eW,List.replicate_one,List.flatten_cons,List.flatten_nil,Nat.zero_mul,Nat.zero_add,Nat.mul_one,hc]
   cases h1:decide ((c.toNat:Int)<97) with
   |true=>
    simp only[↓fk,fl,cF,↓aE,ae,ev,b7,List.getD_cons_zero,List.getD_cons_succ,Nat.reduceEqDiff,if_false,if_true,Nat.reduceLT,Nat.reduceLeDiff,Nat.reduceAdd,Nat.reduceMul,true_and,and_true,List.length_map,bY,AV.cells,List.length_cons,List.length_nil,ai,Lb.loc.injEq,↓aF,↓aT,↓aG,↓bp,↓bn,↓bo,bq,a_,e_,List.getElem?_cons_zero,List.getElem?_cons_succ,Option.bind_some,Option.map_some,List.map_cons,List.map_nil,Int.natCast_nonneg,Int.toNat_natCast,AV.ew,AV.one,List.all_cons,List.all_nil,Bool.and_self,Bool.and_true,Bool.true_and,List.take_succ_cons,List.take_zero,List.drop_succ_cons,List.drop_zero,List.cons_append,List.nil_append,List.append_nil,List.set_cons_zero,IV.cW,Lb.app,Lb.fresh,aP,aQ,aR,aD,reduceCtorEq,Bool.false_eq_true,List.take,List.drop,List.mem_cons,List.not_mem_nil,or_false,bU,cw,forall_eq,false_implies,implies_true,ev,Hp.none,Nat.le_refl,List.set_cons_succ,bu,chunks,eg,AV.iv,eW,List.replicate_one,List.flatten_cons,List.flatten_nil,Nat.zero_mul,Nat.zero_add,Nat.mul_one,hc]
    rw[named,qA hc (by simp[pV,h1])];rfl
   |false=>
    simp only[↓fk,fl,cF,↓aE,ae,ev,b7,List.getD_cons_zero,List.getD_cons_succ,Nat.reduceEqDiff,if_false,if_true,Nat.reduceLT,Nat.reduceLeDiff,Nat.reduceAdd,Nat.reduceMul,true_and,and_true,List.length_map,bY,AV.cells,List.length_cons,List.length_nil,ai,Lb.loc.injEq,↓aF,↓aT,↓aG,↓bp,↓bn,↓bo,bq,a_,e_,List.getElem?_cons_zero,List.getElem?_cons_succ,Option.bind_some,Option.map_some,List.map_cons,List.map_nil,Int.natCast_nonneg,Int.toNat_natCast,AV.ew,AV.one,List.all_cons,List.all_nil,Bool.and_self,Bool.and_true,Bool.true_and,List.take_succ_cons,List.take_zero,List.drop_succ_cons,List.drop_zero,List.cons_append,List.nil_append,List.append_nil,List.set_cons_zero,IV.cW,Lb.app,Lb.fresh,aP,aQ,aR,aD,reduceCtorEq,Bool.false_eq_true,List.take,List.drop,List.mem_cons,List.not_mem_nil,or_false,bU,cw,forall_eq,false_implies,implies_true,ev,Hp.none,Nat.le_refl,List.set_cons_succ,bu,chunks,eg,AV.iv,eW,List.replicate_one,List.flatten_cons,List.flatten_nil,Nat.zero_mul,Nat.zero_add,Nat.mul_one,hc]
    cases h2:decide ((c.toNat:Int)>122) with
    |true=>
     simp only[↓fk,fl,cF,↓aE,ae,ev,b7,List.getD_cons_zero,List.getD_cons_succ,Nat.reduceEqDiff,if_false,if_true,Nat.reduceLT,Nat.reduceLeDiff,Nat.reduceAdd,Nat.reduceMul,true_and,and_true,List.length_map,bY,AV.cells,List.length_cons,List.length_nil,ai,Lb.loc.injEq,↓aF,↓aT,↓aG,↓bp,↓bn,↓bo,bq,a_,e_,List.getElem?_cons_zero,List.getElem?_cons_succ,Option.bind_some,Option.map_some,List.map_cons,List.map_nil,Int.natCast_nonneg,Int.toNat_natCast,AV.ew,AV.one,List.all_cons,List.all_nil,Bool.and_self,Bool.and_true,Bool.true_and,List.take_succ_cons,List.take_zero,List.drop_succ_cons,List.drop_zero,List.cons_append,List.nil_append,List.append_nil,List.set_cons_zero,IV.cW,Lb.app,Lb.fresh,aP,aQ,aR,aD,reduceCtorEq,Bool.false_eq_true,List.take,List.drop,List.mem_cons,List.not_mem_nil,or_false,bU,cw,forall_eq,false_implies,implies_true,ev,Hp.none,Nat.le_refl,List.set_cons_succ,bu,chunks,eg,AV.iv,eW,List.replicate_one,List.flatten_cons,List.flatten_nil,Nat.zero_mul,Nat.zero_add,Nat.mul_one,hc]
     rw[named,qA hc (by simp[pV,h1,h2])];rfl
    |false=>
     obtain⟨q,hq⟩:=next (by simp[pV,h1,h2])
     simp only[↓fk,fl,cF,↓aE,ae,ev,b7,List.getD_cons_zero,List.getD_cons_succ,Nat.reduceEqDiff,if_false,if_true,Nat.reduceLT,Nat.reduceLeDiff,Nat.reduceAdd,Nat.reduceMul,true_and,and_true,List.length_map,bY,AV.cells,List.length_cons,List.length_nil,ai,Lb.loc.injEq,↓aF,↓aT,↓aG,↓bp,↓bn,↓bo,bq,a_,e_,List.getElem?_cons_zero,List.getElem?_cons_succ,Option.bind_some,Option.map_some,List.map_cons,List.map_nil,Int.natCast_nonneg,Int.toNat_natCast,AV.ew,AV.one,List.all_cons,List.all_nil,Bool.and_self,Bool.and_true,Bool.true_and,List.take_succ_cons,List.take_zero,List.drop_succ_cons,List.drop_zero,List.cons_append,List.nil_append,List.append_nil,List.set_cons_zero,IV.cW,Lb.app,Lb.fresh,aP,aQ,aR,aD,reduceCtorEq,Bool.false_eq_true,List.take,List.drop,List.mem_cons,List.not_mem_nil,or_false,bU,cw,forall_eq,false_implies,implies_true,ev,Hp.none,Nat.le_refl,List.set_cons_succ,bu,chunks,eg,AV.iv,eW,List.replicate_one,List.flatten_cons,List.flatten_nil,Nat.zero_mul,Nat.zero_add,Nat.mul_one,hc,hw]
     refine⟨q,by omega,id,.none ?_ ?_⟩
     ·rw[hq];exact bJ rfl (bJ rfl (bJ rfl (gk _ _)))
     ·exact bK (by simp[AV.aI]) (bK (by simp[AV.aI]) (bK (by simp[AV.aI]) (gl _)))
  ·rw[show decide ((i:Int)<(s.length:Int))=false by simpa using cj]
   have gf:s.all pV=true:=by
    have:s.take i=s:=List.take_of_length_le (by omega);rw[←this,hs]
   simp only[↓fk,fl,cF,↓aE,ae,ev,b7,List.getD_cons_zero,List.getD_cons_succ,Nat.reduceEqDiff,if_false,if_true,Nat.reduceLT,Nat.reduceLeDiff,Nat.reduceAdd,Nat.reduceMul,true_and,and_true,List.length_map,bY,AV.cells,List.length_cons,List.length_nil,ai,Lb.loc.injEq,↓aF,↓aT,↓aG,↓bp,↓bn,↓bo,bq,a_,e_,List.getElem?_cons_zero,List.getElem?_cons_succ,Option.bind_some,Option.map_some,List.map_cons,List.map_nil,Int.natCast_nonneg,Int.toNat_natCast,AV.ew,AV.one,List.all_cons,List.all_nil,Bool.and_self,Bool.and_true,Bool.true_and,List.take_succ_cons,List.take_zero,List.drop_succ_cons,List.drop_zero,List.cons_append,List.nil_append,List.append_nil,List.set_cons_zero,IV.cW,Lb.app,Lb.fresh,aP,aQ,aR,aD,reduceCtorEq,Bool.false_eq_true,List.take,List.drop,List.mem_cons,List.not_mem_nil,or_false,bU,cw,forall_eq,false_implies,implies_true,ev,Hp.none,Nat.le_refl,List.set_cons_succ,bu,chunks,eg,AV.iv,eW,List.replicate_one,List.flatten_cons,List.flatten_nil,Nat.zero_mul,Nat.zero_add,Nat.mul_one]
   cases h1:decide ((s.length:Int)≥1) with
   |true=>
    simp only[↓fk,fl,cF,↓aE,ae,ev,b7,List.getD_cons_zero,List.getD_cons_succ,Nat.reduceEqDiff,if_false,if_true,Nat.reduceLT,Nat.reduceLeDiff,Nat.reduceAdd,Nat.reduceMul,true_and,and_true,List.length_map,bY,AV.cells,List.length_cons,List.length_nil,ai,Lb.loc.injEq,↓aF,↓aT,↓aG,↓bp,↓bn,↓bo,bq,a_,e_,List.getElem?_cons_zero,List.getElem?_cons_succ,Option.bind_some,Option.map_some,List.map_cons,List.map_nil,Int.natCast_nonneg,Int.toNat_natCast,AV.ew,AV.one,List.all_cons,List.all_nil,Bool.and_self,Bool.and_true,Bool.true_and,List.take_succ_cons,List.take_zero,List.drop_succ_cons,List.drop_zero,List.cons_append,List.nil_append,List.append_nil,List.set_cons_zero,IV.cW,Lb.app,Lb.fresh,aP,aQ,aR,aD,reduceCtorEq,Bool.false_eq_true,List.take,List.drop,List.mem_cons,List.not_mem_nil,or_false,bU,cw,forall_eq,false_implies,implies_true,ev,Hp.none,Nat.le_refl,List.set_cons_succ,bu,chunks,eg,AV.iv,eW,List.replicate_one,List.flatten_cons,List.flatten_nil,Nat.zero_mul,Nat.zero_add,Nat.mul_one]
    rw[named,gf,h1];rfl
   |false=>
    simp only[↓fk,fl,cF,↓aE,ae,ev,b7,List.getD_cons_zero,List.getD_cons_succ,Nat.reduceEqDiff,if_false,if_true,Nat.reduceLT,Nat.reduceLeDiff,Nat.reduceAdd,Nat.reduceMul,true_and,and_true,List.length_map,bY,AV.cells,List.length_cons,List.length_nil,ai,Lb.loc.injEq,↓aF,↓aT,↓aG,↓bp,↓bn,↓bo,bq,a_,e_,List.getElem?_cons_zero,List.getElem?_cons_succ,Option.bind_some,Option.map_some,List.map_cons,List.map_nil,Int.natCast_nonneg,Int.toNat_natCast,AV.ew,AV.one,List.all_cons,List.all_nil,Bool.and_self,Bool.and_true,Bool.true_and,List.take_succ_cons,List.take_zero,List.drop_succ_cons,List.drop_zero,List.cons_append,List.nil_append,List.append_nil,List.set_cons_zero,IV.cW,Lb.app,Lb.fresh,aP,aQ,aR,aD,reduceCtorEq,Bool.false_eq_true,List.take,List.drop,List.mem_cons,List.not_mem_nil,or_false,bU,cw,forall_eq,false_implies,implies_true,ev,Hp.none,Nat.le_refl,List.set_cons_succ,bu,chunks,eg,AV.iv,eW,List.replicate_one,List.flatten_cons,List.flatten_nil,Nat.zero_mul,Nat.zero_add,Nat.mul_one]
    rw[named,gf,h1];rfl
end Go.Am

/- Attributes that are good. -/
namespace Go.Am
open Go Go.RowKit
def hY (as:List Attr) (i:Nat):Bool:=
 match as[i]? with
 |some a=>named a.name&&(plain a.val&&(i==0||match as[i - 1]? with|some p=>Op.bytesLess p.name a.name|none=>true))
 |none=>true
def fL (as:List Attr):Bool:=(List.range as.length).all (hY as)&&decide ((as.length:Int)≤4)
def kc (fN fP:Nat):AC:=
(.seq
 (.aM [
  ⟨some 2,none,.ak (.c (.bool false))⟩])
(.seq
 (.seq
  (.aM [
   ⟨some 5,none,.ak (.t 0)⟩,
   ⟨some 6,none,.len (.t 5)⟩,
   ⟨some 7,none,.ak (.c (.int .i64 0))⟩])
 (.block 0
  (.loop
   (.seq
    (.aM [
     ⟨some 8,none,.bin .lss (.t 7) (.t 6)⟩])
   (.seq
    (.cond (.t 8)
     .skip
     (.exit 0))
   (.seq
    (.block 1
     (.seq
      (.aM [
       ⟨some 9,none,.ak (.t 7)⟩,
       ⟨some 10,none,.fJ (.t 5) (.t 7) 2⟩,
       ⟨some 11,none,.load (some 2) (.t 10)⟩,
       ⟨some 4,none,.new [(.str []),(.str [])]⟩,
       ⟨some 3,none,.ak (.t 9)⟩,
       ⟨none,none,.store 2 (.t 4) (.t 11)⟩])
     (.seq
      (.eY [
       ⟨some 12,none,.bV (.t 4) 0⟩,
       ⟨some 13,none,.load none (.t 12)⟩,
       ⟨some 14,none,.call fN [(.t 13)]⟩,
       ⟨some 15,none,.not (.t 14)⟩,
       ⟨some 16,none,.ak (.t 15)⟩,
       ⟨some 17,(some (16,false)),(.bV (.t 4) 1)⟩,
       ⟨some 18,(some (16,false)),(.load none (.t 17))⟩,
       ⟨some 19,(some (16,false)),(.call fP [(.t 18)])⟩,
       ⟨some 20,(some (16,false)),(.not (.t 19))⟩,
       ⟨some 21,none,.pick (.t 16) (.c (.bool true)) (.t 20)⟩,
       ⟨some 22,none,.ak (.t 21)⟩,
       ⟨some 23,(some (22,false)),(.ak (.t 3))⟩,
       ⟨some 24,(some (22,false)),(.bin .gtr (.t 23) (.c (.int .i64 0)))⟩,
       ⟨some 25,(some (22,false)),(.ak (.t 24))⟩,
       ⟨some 26,(some (25,true)),(.ak (.t 0))⟩,
       ⟨some 27,(some (25,true)),(.ak (.t 3))⟩,
       ⟨some 28,(some (25,true)),(.bin .sub (.t 27) (.c (.int .i64 1)))⟩,
       ⟨some 29,(some (25,true)),(.fJ (.t 26) (.t 28) 2)⟩,
       ⟨some 30,(some (25,true)),(.bV (.t 29) 0)⟩,
       ⟨some 31,(some (25,true)),(.load none (.t 30))⟩,
       ⟨some 32,(some (25,true)),(.bV (.t 4) 0)⟩,
       ⟨some 33,(some (25,true)),(.load none (.t 32))⟩,
       ⟨some 34,(some (25,true)),(.bin .geq (.t 31) (.t 33))⟩,
       ⟨some 35,(some (22,false)),(.pick (.t 25) (.t 34) (.c (.bool false)))⟩,
       ⟨some 36,none,.pick (.t 22) (.c (.bool true)) (.t 35)⟩]
       [[],[0],[1],[2],[3,2],[4],[5,4],[6,4,4],[7,4],[4,8],[9,7],[10],[11,10],[12,10,10],[13],[13],[15,13],[14,16,13],[17,13],[18,13],[13],[20,13],[19,21,13],[13,22,10],[10,23]]
       [.no,.rw [.loc 4] [],.no,.no,.no,.no,.rw [.loc 4] [],.no,.no,.no,.no,.no,.no,.no,.no,.no,.no,.no,.no,.no,.no,.rw [.loc 4] [],.no,.no,.no])
     (.cond (.t 36)
      (.seq
       (.aM [
        ⟨some 2,none,.ak (.c (.bool false))⟩])
      .ret)
      .skip))))
   (.aM [
    ⟨some 37,none,.bin .add (.t 7) (.c (.int .i64 1))⟩,
    ⟨some 7,none,.ak (.t 37)⟩])))))))
(.seq
 (.aM [
  ⟨some 38,none,.ak (.t 0)⟩,
  ⟨some 39,none,.len (.t 38)⟩,
  ⟨some 40,none,.bin .leq (.t 39) (.c (.int .i64 4))⟩,
  ⟨some 2,none,.ak (.t 40)⟩])
.ret)))
def ru (as:List Attr) (i:Nat):Env:=put (put (put (put Env.any 0 (.list (dY as))) 5 (.list (dY as))) 6 (.int .i64 as.length)) 7 (.int .i64 i)
theorem Wk.drop {env env2:Env} {H:Hp} (e:∀n,env2 n= .any∨env n=cG id (env2 n)) (m:∀n,∀l∈(env2 n).aI,Hp.none l≠ .unused) (hn:∀l:Lb,l.fresh=false→H l= .unused):Wk id env H env2 Hp.none:=
 ⟨e,fun l r h=>by simp[Hp.none] at h,fun _ _ ⟨r,h⟩=>by simp[Hp.none] at h,m,fun l r h=>by simp[Hp.none] at h,fun l hl=>⟨fun h=>absurd (hn l (Lb.jg hl)) h,fun _=>rfl⟩,fun l ⟨r,h⟩=>by simp[Hp.none] at h⟩
theorem AA {p:Nat→Bool} {n i:Nat} (hi:i<n) (hp:p i=false):(List.range n).all p=false:=by
 cases h:(List.range n).all p with
 |false=>rfl
 |true=>
  have:=List.all_eq_true.1 h i (by simpa using hi);rw[hp] at this;exact this.symm
theorem rz {P : Program} {G : Nat → Option (List IV)} {f fN fP : Nat} (hF : aA P G f = some (41,[(none,2)],(kc fN fP).bare)) (as : List Attr) (hx : as.length ≤ B)
   (hN:∀a∈as,az P G fN [.str a.name] (.bool (named a.name))) (hP:∀a∈as,az P G fP [.str a.val] (.bool (plain a.val))) :
   az P G f [.list (dY as)] (.bool (fL as)):=by
 refine bm hF (by simp) (by simp[ax,AV.aI]) (by simp[AV.aI]) ?_
 unfold kc
 simp only[↓fk,fl,cF,↓aE,ae,ev,b7,List.getD_cons_zero,List.getD_cons_succ,Nat.reduceEqDiff,if_false,if_true,Nat.reduceLT,Nat.reduceLeDiff,Nat.reduceAdd,Nat.reduceMul,true_and,and_true,List.length_map,bY,AV.cells,List.length_cons,List.length_nil,ai,Lb.loc.injEq,↓aF,↓aT,↓aG,↓bp,↓bn,↓bo,bq,a_,e_,List.getElem?_cons_zero,List.getElem?_cons_succ,Option.bind_some,Option.map_some,List.map_cons,List.map_nil,Int.natCast_nonneg,Int.toNat_natCast,AV.ew,AV.one,List.all_cons,List.all_nil,Bool.and_self,Bool.and_true,Bool.true_and,List.take_succ_cons,List.take_zero,List.drop_succ_cons,List.drop_zero,List.cons_append,List.nil_append,List.append_nil,List.set_cons_zero,IV.cW,Lb.app,Lb.fresh,aP,aQ,aR,aD,reduceCtorEq,Bool.false_eq_true,List.take,List.drop,List.mem_cons,List.not_mem_nil,or_false,bU,cw,forall_eq,false_implies,implies_true,ev,Hp.none,Nat.le_refl,List.set_cons_succ,bu,chunks,eg,AV.iv,eW,List.replicate_one,List.flatten_cons,List.flatten_nil,Nat.zero_mul,Nat.zero_add,Nat.mul_one,cX]
 refine iQ (σ:={i:Nat // i≤as.length∧∀j,j<i→hY as j=true}) (fun q=>ru as q.1) (fun _=>Hp.none) (fun q=>as.length - q.1) ⟨0,by simp⟩ id ?_ ?_
 · refine .none ?_ ?_
   · exact bJ rfl (bJ rfl (bJ rfl (bJ rfl (gk _ _))))
   · exact bK (by simp[AV.aI]) (bK (by simp[AV.aI]) (bK (by simp[AV.aI]) (bK (by simp[AV.aI]) (gl _))))
 · rintro ⟨i,hi,hs⟩
   simp only[↓fk,fl,cF,↓aE,ae,ev,b7,List.getD_cons_zero,List.getD_cons_succ,Nat.reduceEqDiff,if_false,if_true,Nat.reduceLT,Nat.reduceLeDiff,Nat.reduceAdd,Nat.reduceMul,true_and,and_true,List.length_map,bY,AV.cells,List.length_cons,List.length_nil,ai,Lb.loc.injEq,↓aF,↓aT,↓aG,↓bp,↓bn,↓bo,bq,a_,e_,List.getElem?_cons_zero,List.getElem?_cons_succ,Option.bind_some,Option.map_some,List.map_cons,List.map_nil,Int.natCast_nonneg,Int.toNat_natCast,AV.ew,AV.one,List.all_cons,List.all_nil,Bool.and_self,Bool.and_true,Bool.true_and,List.take_succ_cons,List.take_zero,List.drop_succ_cons,List.drop_zero,List.cons_append,List.nil_append,List.append_nil,List.set_cons_zero,IV.cW,Lb.app,Lb.fresh,aP,aQ,aR,aD,reduceCtorEq,Bool.false_eq_true,List.take,List.drop,List.mem_cons,List.not_mem_nil,or_false,bU,cw,forall_eq,false_implies,implies_true,ev,Hp.none,Nat.le_refl,List.set_cons_succ,bu,chunks,eg,AV.iv,eW,List.replicate_one,List.flatten_cons,List.flatten_nil,Nat.zero_mul,Nat.zero_add,Nat.mul_one,ru,cX]
   by_cases cj:i<as.length
   · rw[show decide ((i:Int)<(as.length:Int))=true by simpa using cj]
     obtain⟨a,ha⟩:∃a,as[i]?=some a:=⟨_,List.getElem?_eq_getElem cj⟩
     have hw:IntKind.i64.wrap ((i:Int)+1)=((i+1:Nat):Int):=wrap64 (by omega) (by unfold B at hx;omega)
     simp only[↓fk,fl,cF,↓aE,ae,ev,b7,List.getD_cons_zero,List.getD_cons_succ,Nat.reduceEqDiff,if_false,if_true,Nat.reduceLT,Nat.reduceLeDiff,Nat.reduceAdd,Nat.reduceMul,true_and,and_true,List.length_map,bY,AV.cells,List.length_cons,List.length_nil,ai,Lb.loc.injEq,↓aF,↓aT,↓aG,↓bp,↓bn,↓bo,bq,a_,e_,List.getElem?_cons_zero,List.getElem?_cons_succ,Option.bind_some,Option.map_some,List.map_cons,List.map_nil,Int.natCast_nonneg,Int.toNat_natCast,AV.ew,AV.one,List.all_cons,List.all_nil,Bool.and_self,Bool.and_true,Bool.true_and,List.take_succ_cons,List.take_zero,List.drop_succ_cons,List.drop_zero,List.cons_append,List.nil_append,List.append_nil,List.set_cons_zero,IV.cW,Lb.app,Lb.fresh,aP,aQ,aR,aD,reduceCtorEq,Bool.false_eq_true,List.take,List.drop,List.mem_cons,List.not_mem_nil,or_false,bU,cw,forall_eq,false_implies,implies_true,ev,Hp.none,Nat.le_refl,List.set_cons_succ,bu,chunks,eg,AV.iv,eW,List.replicate_one,List.flatten_cons,List.flatten_nil,Nat.zero_mul,Nat.zero_add,Nat.mul_one,mY,ha,mA,Attr.bL,Attr.cs]
     refine⟨le_max (by decide),rfl,kb (hN a (List.mem_of_getElem? ha)) ?_⟩
     have next:hY as i=true→∃q:{i:Nat // i≤as.length∧∀j,j<i→hY as j=true},q.1=i+1:=fun hp=>⟨⟨i+1,cj,fun j hj=>by
       by_cases e:j=i
       · rw[e];exact hp
       · exact hs j (by omega)⟩,rfl⟩
     have stop:hY as i=false→fL as=false:=fun hp=>by rw[fL,AA cj hp];rfl
     have n9:hY as i=(named a.name&&(plain a.val&&(i==0||match as[i - 1]? with|some p=>Op.bytesLess p.name a.name|none=>true))):=by unfold hY;rw[ha]
     cases h1:named a.name with
     |false=>
       simp only[↓fk,fl,cF,↓aE,ae,ev,b7,List.getD_cons_zero,List.getD_cons_succ,Nat.reduceEqDiff,if_false,if_true,Nat.reduceLT,Nat.reduceLeDiff,Nat.reduceAdd,Nat.reduceMul,true_and,and_true,List.length_map,bY,AV.cells,List.length_cons,List.length_nil,ai,Lb.loc.injEq,↓aF,↓aT,↓aG,↓bp,↓bn,↓bo,bq,a_,e_,List.getElem?_cons_zero,List.getElem?_cons_succ,Option.bind_some,Option.map_some,List.map_cons,List.map_nil,Int.natCast_nonneg,Int.toNat_natCast,AV.ew,AV.one,List.all_cons,List.all_nil,Bool.and_self,Bool.and_true,Bool.true_and,List.take_succ_cons,List.take_zero,List.drop_succ_cons,List.drop_zero,List.cons_append,List.nil_append,List.append_nil,List.set_cons_zero,IV.cW,Lb.app,Lb.fresh,aP,aQ,aR,aD,reduceCtorEq,Bool.false_eq_true,List.take,List.drop,List.mem_cons,List.not_mem_nil,or_false,bU,cw,forall_eq,false_implies,implies_true,ev,Hp.none,Nat.le_refl,List.set_cons_succ,bu,chunks,eg,AV.iv,eW,List.replicate_one,List.flatten_cons,List.flatten_nil,Nat.zero_mul,Nat.zero_add,Nat.mul_one,Bool.not_false]
       rw[stop (by rw[n9,h1];rfl)]
     |true=>
       simp only[↓fk,fl,cF,↓aE,ae,ev,b7,List.getD_cons_zero,List.getD_cons_succ,Nat.reduceEqDiff,if_false,if_true,Nat.reduceLT,Nat.reduceLeDiff,Nat.reduceAdd,Nat.reduceMul,true_and,and_true,List.length_map,bY,AV.cells,List.length_cons,List.length_nil,ai,Lb.loc.injEq,↓aF,↓aT,↓aG,↓bp,↓bn,↓bo,bq,a_,e_,List.getElem?_cons_zero,List.getElem?_cons_succ,Option.bind_some,Option.map_some,List.map_cons,List.map_nil,Int.natCast_nonneg,Int.toNat_natCast,AV.ew,AV.one,List.all_cons,List.all_nil,Bool.and_self,Bool.and_true,Bool.true_and,List.take_succ_cons,List.take_zero,List.drop_succ_cons,List.drop_zero,List.cons_append,List.nil_append,List.append_nil,List.set_cons_zero,IV.cW,Lb.app,Lb.fresh,aP,aQ,aR,aD,reduceCtorEq,Bool.false_eq_true,List.take,List.drop,List.mem_cons,List.not_mem_nil,or_false,bU,cw,forall_eq,false_implies,implies_true,ev,Hp.none,Nat.le_refl,List.set_cons_succ,bu,chunks,eg,AV.iv,eW,List.replicate_one,List.flatten_cons,List.flatten_nil,Nat.zero_mul,Nat.zero_add,Nat.mul_one,Bool.not_true]
       refine kb (hP a (List.mem_of_getElem? ha)) ?_
       cases h2:plain a.val with
       |false=>
         simp only[↓fk,fl,cF,↓aE,ae,ev,b7,List.getD_cons_zero,List.getD_cons_succ,Nat.reduceEqDiff,if_false,if_true,Nat.reduceLT,Nat.reduceLeDiff,Nat.reduceAdd,Nat.reduceMul,true_and,and_true,List.length_map,bY,AV.cells,List.length_cons,List.length_nil,ai,Lb.loc.injEq,↓aF,↓aT,↓aG,↓bp,↓bn,↓bo,bq,a_,e_,List.getElem?_cons_zero,List.getElem?_cons_succ,Option.bind_some,Option.map_some,List.map_cons,List.map_nil,Int.natCast_nonneg,Int.toNat_natCast,AV.ew,AV.one,List.all_cons,List.all_nil,Bool.and_self,Bool.and_true,Bool.true_and,List.take_succ_cons,List.take_zero,List.drop_succ_cons,List.drop_zero,List.cons_append,List.nil_append,List.append_nil,List.set_cons_zero,IV.cW,Lb.app,Lb.fresh,aP,aQ,aR,aD,reduceCtorEq,Bool.false_eq_true,List.take,List.drop,List.mem_cons,List.not_mem_nil,or_false,bU,cw,forall_eq,false_implies,implies_true,ev,Hp.none,Nat.le_refl,List.set_cons_succ,bu,chunks,eg,AV.iv,eW,List.replicate_one,List.flatten_cons,List.flatten_nil,Nat.zero_mul,Nat.zero_add,Nat.mul_one,Bool.not_false]
         rw[stop (by rw[n9,h1,h2];rfl)]
       |true=>
         simp only[↓fk,fl,cF,↓aE,ae,ev,b7,List.getD_cons_zero,List.getD_cons_succ,Nat.reduceEqDiff,if_false,if_true,Nat.reduceLT,Nat.reduceLeDiff,Nat.reduceAdd,Nat.reduceMul,true_and,and_true,List.length_map,bY,AV.cells,List.length_cons,List.length_nil,ai,Lb.loc.injEq,↓aF,↓aT,↓aG,↓bp,↓bn,↓bo,bq,a_,e_,List.getElem?_cons_zero,List.getElem?_cons_succ,Option.bind_some,Option.map_some,List.map_cons,List.map_nil,Int.natCast_nonneg,Int.toNat_natCast,AV.ew,AV.one,List.all_cons,List.all_nil,Bool.and_self,Bool.and_true,Bool.true_and,List.take_succ_cons,List.take_zero,List.drop_succ_cons,List.drop_zero,List.cons_append,List.nil_append,List.append_nil,List.set_cons_zero,IV.cW,Lb.app,Lb.fresh,aP,aQ,aR,aD,reduceCtorEq,Bool.false_eq_true,List.take,List.drop,List.mem_cons,List.not_mem_nil,or_false,bU,cw,forall_eq,false_implies,implies_true,ev,Hp.none,Nat.le_refl,List.set_cons_succ,bu,chunks,eg,AV.iv,eW,List.replicate_one,List.flatten_cons,List.flatten_nil,Nat.zero_mul,Nat.zero_add,Nat.mul_one,Bool.not_true]
         by_cases h3:i=0
         · subst h3
           rw[show decide (((0:Nat):Int)>0)=false by simp]
           obtain⟨q,hq⟩:=next (by rw[n9,h1,h2];rfl)
           simp only[↓fk,fl,cF,↓aE,ae,ev,b7,List.getD_cons_zero,List.getD_cons_succ,Nat.reduceEqDiff,if_false,if_true,Nat.reduceLT,Nat.reduceLeDiff,Nat.reduceAdd,Nat.reduceMul,true_and,and_true,List.length_map,bY,AV.cells,List.length_cons,List.length_nil,ai,Lb.loc.injEq,↓aF,↓aT,↓aG,↓bp,↓bn,↓bo,bq,a_,e_,List.getElem?_cons_zero,List.getElem?_cons_succ,Option.bind_some,Option.map_some,List.map_cons,List.map_nil,Int.natCast_nonneg,Int.toNat_natCast,AV.ew,AV.one,List.all_cons,List.all_nil,Bool.and_self,Bool.and_true,Bool.true_and,List.take_succ_cons,List.take_zero,List.drop_succ_cons,List.drop_zero,List.cons_append,List.nil_append,List.append_nil,List.set_cons_zero,IV.cW,Lb.app,Lb.fresh,aP,aQ,aR,aD,reduceCtorEq,Bool.false_eq_true,List.take,List.drop,List.mem_cons,List.not_mem_nil,or_false,bU,cw,forall_eq,false_implies,implies_true,ev,Hp.none,Nat.le_refl,List.set_cons_succ,bu,chunks,eg,AV.iv,eW,List.replicate_one,List.flatten_cons,List.flatten_nil,Nat.zero_mul,Nat.zero_add,Nat.mul_one,hw]
           refine⟨q,by omega,id,.drop ?_ ?_ ?_⟩
           · rw[hq];exact bJ rfl (bJ rfl (bJ rfl (bJ rfl (gk _ _))))
           · exact bK (by simp[AV.aI]) (bK (by simp[AV.aI]) (bK (by simp[AV.aI]) (bK (by simp[AV.aI]) (gl _))))
           · exact iA (iA lJ)
         · rw[show decide ((i:Int)>0)=true by simp;omega]
           obtain⟨p,hp⟩:∃p,as[i - 1]?=some p:=⟨_,List.getElem?_eq_getElem (by omega)⟩
           have mT:IntKind.i64.wrap ((i:Int) - 1)=((i - 1:Nat):Int):=by rw[wrap64 (by omega) (by unfold B at hx;omega)];omega
           simp only[↓fk,fl,cF,↓aE,ae,ev,b7,List.getD_cons_zero,List.getD_cons_succ,Nat.reduceEqDiff,if_false,if_true,Nat.reduceLT,Nat.reduceLeDiff,Nat.reduceAdd,Nat.reduceMul,true_and,and_true,List.length_map,bY,AV.cells,List.length_cons,List.length_nil,ai,Lb.loc.injEq,↓aF,↓aT,↓aG,↓bp,↓bn,↓bo,bq,a_,e_,List.getElem?_cons_zero,List.getElem?_cons_succ,Option.bind_some,Option.map_some,List.map_cons,List.map_nil,Int.natCast_nonneg,Int.toNat_natCast,AV.ew,AV.one,List.all_cons,List.all_nil,Bool.and_self,Bool.and_true,Bool.true_and,List.take_succ_cons,List.take_zero,List.drop_succ_cons,List.drop_zero,List.cons_append,List.nil_append,List.append_nil,List.set_cons_zero,IV.cW,Lb.app,Lb.fresh,aP,aQ,aR,aD,reduceCtorEq,Bool.false_eq_true,List.take,List.drop,List.mem_cons,List.not_mem_nil,or_false,bU,cw,forall_eq,false_implies,implies_true,ev,Hp.none,Nat.le_refl,List.set_cons_succ,bu,chunks,eg,AV.iv,eW,List.replicate_one,List.flatten_cons,List.flatten_nil,Nat.zero_mul,Nat.zero_add,Nat.mul_one,mT,mY,hp,mA,Attr.bL,Attr.cs]
           cases h4:Op.bytesLess p.name a.name with
           |false=>
             simp only[↓fk,fl,cF,↓aE,ae,ev,b7,List.getD_cons_zero,List.getD_cons_succ,Nat.reduceEqDiff,if_false,if_true,Nat.reduceLT,Nat.reduceLeDiff,Nat.reduceAdd,Nat.reduceMul,true_and,and_true,List.length_map,bY,AV.cells,List.length_cons,List.length_nil,ai,Lb.loc.injEq,↓aF,↓aT,↓aG,↓bp,↓bn,↓bo,bq,a_,e_,List.getElem?_cons_zero,List.getElem?_cons_succ,Option.bind_some,Option.map_some,List.map_cons,List.map_nil,Int.natCast_nonneg,Int.toNat_natCast,AV.ew,AV.one,List.all_cons,List.all_nil,Bool.and_self,Bool.and_true,Bool.true_and,List.take_succ_cons,List.take_zero,List.drop_succ_cons,List.drop_zero,List.cons_append,List.nil_append,List.append_nil,List.set_cons_zero,IV.cW,Lb.app,Lb.fresh,aP,aQ,aR,aD,reduceCtorEq,Bool.false_eq_true,List.take,List.drop,List.mem_cons,List.not_mem_nil,or_false,bU,cw,forall_eq,false_implies,implies_true,ev,Hp.none,Nat.le_refl,List.set_cons_succ,bu,chunks,eg,AV.iv,eW,List.replicate_one,List.flatten_cons,List.flatten_nil,Nat.zero_mul,Nat.zero_add,Nat.mul_one,Bool.not_false]
             rw[stop (by rw[n9,h1,h2,hp];simp[h3,h4])]
           |true=>
             obtain⟨q,hq⟩:=next (by rw[n9,h1,h2,hp];simp[h4])
             simp only[↓fk,fl,cF,↓aE,ae,ev,b7,List.getD_cons_zero,List.getD_cons_succ,Nat.reduceEqDiff,if_false,if_true,Nat.reduceLT,Nat.reduceLeDiff,Nat.reduceAdd,Nat.reduceMul,true_and,and_true,List.length_map,bY,AV.cells,List.length_cons,List.length_nil,ai,Lb.loc.injEq,↓aF,↓aT,↓aG,↓bp,↓bn,↓bo,bq,a_,e_,List.getElem?_cons_zero,List.getElem?_cons_succ,Option.bind_some,Option.map_some,List.map_cons,List.map_nil,Int.natCast_nonneg,Int.toNat_natCast,AV.ew,AV.one,List.all_cons,List.all_nil,Bool.and_self,Bool.and_true,Bool.true_and,List.take_succ_cons,List.take_zero,List.drop_succ_cons,List.drop_zero,List.cons_append,List.nil_append,List.append_nil,List.set_cons_zero,IV.cW,Lb.app,Lb.fresh,aP,aQ,aR,aD,reduceCtorEq,Bool.false_eq_true,List.take,List.drop,List.mem_cons,List.not_mem_nil,or_false,bU,cw,forall_eq,false_implies,implies_true,ev,Hp.none,Nat.le_refl,List.set_cons_succ,bu,chunks,eg,AV.iv,eW,List.replicate_one,List.flatten_cons,List.flatten_nil,Nat.zero_mul,Nat.zero_add,Nat.mul_one,Bool.not_true,hw]
             refine⟨q,by omega,id,.drop ?_ ?_ ?_⟩
             · rw[hq];exact bJ rfl (bJ rfl (bJ rfl (bJ rfl (gk _ _))))
             · exact bK (by simp[AV.aI]) (bK (by simp[AV.aI]) (bK (by simp[AV.aI]) (bK (by simp[AV.aI]) (gl _))))
             · exact iA (iA lJ)
   · rw[show decide ((i:Int)<(as.length:Int))=false by simpa using cj]
     simp only[↓fk,fl,cF,↓aE,ae,ev,b7,List.getD_cons_zero,List.getD_cons_succ,Nat.reduceEqDiff,if_false,if_true,Nat.reduceLT,Nat.reduceLeDiff,Nat.reduceAdd,Nat.reduceMul,true_and,and_true,List.length_map,bY,AV.cells,List.length_cons,List.length_nil,ai,Lb.loc.injEq,↓aF,↓aT,↓aG,↓bp,↓bn,↓bo,bq,a_,e_,List.getElem?_cons_zero,List.getElem?_cons_succ,Option.bind_some,Option.map_some,List.map_cons,List.map_nil,Int.natCast_nonneg,Int.toNat_natCast,AV.ew,AV.one,List.all_cons,List.all_nil,Bool.and_self,Bool.and_true,Bool.true_and,List.take_succ_cons,List.take_zero,List.drop_succ_cons,List.drop_zero,List.cons_append,List.nil_append,List.append_nil,List.set_cons_zero,IV.cW,Lb.app,Lb.fresh,aP,aQ,aR,aD,reduceCtorEq,Bool.false_eq_true,List.take,List.drop,List.mem_cons,List.not_mem_nil,or_false,bU,cw,forall_eq,false_implies,implies_true,ev,Hp.none,Nat.le_refl,List.set_cons_succ,bu,chunks,eg,AV.iv,eW,List.replicate_one,List.flatten_cons,List.flatten_nil,Nat.zero_mul,Nat.zero_add,Nat.mul_one,cX]
     have:(List.range as.length).all (hY as)=true:=by
       rw[List.all_eq_true]
       intro j hj
       exact hs j (by simp at hj;omega)
     rw[fL,this];rfl
end Go.Am

/- The size of a tree. -/
namespace Go.Am
open Go Go.RowKit
mutual
def Tree.dep:Tree→Nat
 | .mk _ _ _ ks=>ff ks+1
def ff:List Tree→Nat
 |[]=>0
 |x::r=>max x.dep (ff r)
end
mutual
def Tree.dg:Tree→Nat
 | .mk _ _ _ ks=>bC ks+1
def bC:List Tree→Nat
 |[]=>0
 |x::r=>x.dg+bC r
end
theorem Tree.pn (x:Tree):x.dep=ff x.kids+1:=by cases x;simp[Tree.dep,Tree.kids]
theorem Tree.gm (x:Tree):x.dg=bC x.kids+1:=by cases x;simp[Tree.dg,Tree.kids]
theorem mE:∀xs ys:List Tree,ff (xs++ys)=max (ff xs) (ff ys)
 |[],ys=>by simp[ff]
 |x::r,ys=>by simp only[List.cons_append,ff,mE r ys];omega
theorem eP:∀xs ys:List Tree,bC (xs++ys)=bC xs+bC ys
 |[],ys=>by simp[bC]
 |x::r,ys=>by simp[bC,eP r ys];omega
mutual
theorem Tree.Jo:∀x:Tree,x.dep≤x.wt
 | .mk _ _ _ ks=>by have:=qB ks;simp only[Tree.dep,Tree.wt];omega
theorem qB:∀xs:List Tree,ff xs≤di xs
 |[]=>by simp[ff]
 |x::r=>by have:=x.Jo;have:=qB r;simp only[ff,di];omega
end
mutual
theorem Tree.xS:∀x:Tree,x.dg≤x.wt
 | .mk _ _ _ ks=>by have:=jP ks;simp only[Tree.dg,Tree.wt];omega
theorem jP:∀xs:List Tree,bC xs≤di xs
 |[]=>by simp[bC]
 |x::r=>by have:=x.xS;have:=jP r;simp only[bC,di];omega
end
theorem gn (xs:List Tree) (i:Nat):di (xs.take i)≤di xs:=by
 have:=fW (xs.take i) (xs.drop i);rw[List.take_append_drop] at this;omega
theorem Jp {env:Env} {H:Hp} (t u:Nat) (R:AV→Hp→Prop):iP [(none,t),(none,u)] R .ret env H=R (.dU [env t,env u]) H:=by simp[iP,jo,pj,gQ]
def zg (fS:Nat):AC:=
(.seq
 (.aM [
  ⟨some 1,none,.box (.t 0)⟩,
  ⟨some 2,none,.ak (.c (.int .i64 0))⟩,
  ⟨some 3,none,.ak (.c (.int .i64 0))⟩])
(.seq
 (.aM [
  ⟨some 4,none,.ak (.c (.int .i64 0))⟩,
  ⟨some 5,none,.ak (.c (.int .i64 1))⟩])
(.seq
 (.seq
  (.aM [
   ⟨some 10,none,.bV (.t 1) 3⟩,
   ⟨some 11,none,.load none (.t 10)⟩,
   ⟨some 12,none,.len (.t 11)⟩,
   ⟨some 13,none,.ak (.c (.int .i64 0))⟩])
 (.block 0
  (.loop
   (.seq
    (.aM [
     ⟨some 14,none,.bin .lss (.t 13) (.t 12)⟩])
   (.seq
    (.cond (.t 14)
     .skip
     (.exit 0))
   (.seq
    (.block 1
     (.seq
      (.aM [
       ⟨some 15,none,.fJ (.t 11) (.t 13) 4⟩,
       ⟨some 16,none,.load (some 4) (.t 15)⟩,
       ⟨some 7,none,.new [(.bool false),(.str []),.nil0,.nil0]⟩,
       ⟨none,none,.store 4 (.t 7) (.t 16)⟩])
     (.seq
      (.aM [
       ⟨some 18,none,.load (some 4) (.t 7)⟩,
       ⟨some 19,none,.call fS [(.t 18)]⟩,
       ⟨some 17,none,.ak (.t 19)⟩,
       ⟨some 20,none,.ext (.t 17) 0⟩,
       ⟨some 21,none,.ext (.t 17) 1⟩,
       ⟨some 8,none,.ak (.t 20)⟩,
       ⟨some 9,none,.ak (.t 21)⟩])
     (.aM [
      ⟨some 22,none,.ak (.t 4)⟩,
      ⟨some 23,none,.ak (.t 8)⟩,
      ⟨some 24,none,.max (.t 22) (.t 23)⟩,
      ⟨some 25,none,.ak (.t 5)⟩,
      ⟨some 26,none,.ak (.t 9)⟩,
      ⟨some 27,none,.bin .add (.t 25) (.t 26)⟩,
      ⟨some 4,none,.ak (.t 24)⟩,
      ⟨some 5,none,.ak (.t 27)⟩]))))
   (.aM [
    ⟨some 28,none,.bin .add (.t 13) (.c (.int .i64 1))⟩,
    ⟨some 13,none,.ak (.t 28)⟩])))))))
(.seq
 (.aM [
  ⟨some 29,none,.ak (.t 4)⟩,
  ⟨some 30,none,.bin .add (.t 29) (.c (.int .i64 1))⟩,
  ⟨some 31,none,.ak (.t 5)⟩,
  ⟨some 2,none,.ak (.t 30)⟩,
  ⟨some 3,none,.ak (.t 31)⟩])
.ret))))
def G6 (ks:List Tree) (i:Nat):Env:=put (put (put (put (put Env.any 4 (.int .i64 (ff (ks.take i)))) 5 (.int .i64 ((bC (ks.take i)+1:Nat):Int))) 11 (.list (dc ks))) 12 (.int .i64 ks.length)) 13 (.int .i64 i)
theorem LM {P:Program} {G:Nat→Option (List IV)} {f g:Nat} (hF:aA P G f=some (32,[(none,2),(none,3)],(zg g).bare)) (x:Tree) (hx:x.wt≤B)
  (hS:∀k∈x.kids,az P G g [k.av] (.dU [.int .i64 k.dep,.int .i64 k.dg])) :
  az P G f [x.av] (.dU [.int .i64 x.dep,.int .i64 x.dg]):=by
 refine bm hF (by simp) (by simp[ax,AV.aI,Tree.av]) (by simp[AV.aI,ax]) ?_;have hk:di x.kids≤B:=by have:=x.iB;omega
 have hl:x.kids.length≤B:=Nat.le_trans (fu _) hk;unfold zg
 simp only[↓fk,fl,cF,↓aE,ae,ev,b7,List.getD_cons_zero,List.getD_cons_succ,Nat.reduceEqDiff,if_false,if_true,Nat.reduceLT,Nat.reduceLeDiff,Nat.reduceAdd,Nat.reduceMul,true_and,and_true,List.length_map,bY,AV.cells,List.length_cons,List.length_nil,ai,Lb.loc.injEq,↓aF,↓aT,↓aG,↓bp,↓bn,↓bo,bq,a_,e_,List.getElem?_cons_zero,List.getElem?_cons_succ,Option.bind_some,Option.map_some,List.map_cons,List.map_nil,Int.natCast_nonneg,Int.toNat_natCast,AV.ew,AV.one,List.all_cons,List.all_nil,Bool.and_self,Bool.and_true,Bool.true_and,List.take_succ_cons,List.take_zero,List.drop_succ_cons,List.drop_zero,List.cons_append,List.nil_append,List.append_nil,List.set_cons_zero,IV.cW,Lb.app,Lb.fresh,aP,aQ,aR,aD,reduceCtorEq,Bool.false_eq_true,List.take,List.drop,List.mem_cons,List.not_mem_nil,or_false,bU,cw,forall_eq,false_implies,implies_true,ev,Hp.none,Nat.le_refl,List.set_cons_succ,bu,chunks,eg,AV.iv,eW,List.replicate_one,List.flatten_cons,List.flatten_nil,Nat.zero_mul,Nat.zero_add,Nat.mul_one,Tree.av,bb]
 refine⟨le_max (by decide),?_⟩;refine iQ (σ:={i:Nat // i≤x.kids.length}) (fun q=>G6 x.kids q.1) (fun _=>Hp.none) (fun q=>x.kids.length - q.1) ⟨0,by simp⟩ id ?_ ?_
 ·refine .drop ?_ ?_ (iA lJ)
  ·exact bJ rfl (bJ rfl (bJ rfl (bJ (by simp[nX,cG,bC]) (bJ (by simp[nX,cG,ff]) (gk _ _)))))
  ·exact bK (by simp[AV.aI]) (bK (by simp[AV.aI]) (bK (by simp[AV.aI]) (bK (by simp[AV.aI]) (bK (by simp[AV.aI]) (gl _)))))
 ·rintro⟨i,hi⟩
  simp only[↓fk,fl,cF,↓aE,ae,ev,b7,List.getD_cons_zero,List.getD_cons_succ,Nat.reduceEqDiff,if_false,if_true,Nat.reduceLT,Nat.reduceLeDiff,Nat.reduceAdd,Nat.reduceMul,true_and,and_true,List.length_map,bY,AV.cells,List.length_cons,List.length_nil,ai,Lb.loc.injEq,↓aF,↓aT,↓aG,↓bp,↓bn,↓bo,bq,a_,e_,List.getElem?_cons_zero,List.getElem?_cons_succ,Option.bind_some,Option.map_some,List.map_cons,List.map_nil,Int.natCast_nonneg,Int.toNat_natCast,AV.ew,AV.one,List.all_cons,List.all_nil,Bool.and_self,Bool.and_true,Bool.true_and,List.take_succ_cons,List.take_zero,List.drop_succ_cons,List.drop_zero,List.cons_append,List.nil_append,List.append_nil,List.set_cons_zero,IV.cW,Lb.app,Lb.fresh,aP,aQ,aR,aD,reduceCtorEq,Bool.false_eq_true,List.take,List.drop,List.mem_cons,List.not_mem_nil,or_false,bU,cw,forall_eq,false_implies,implies_true,ev,Hp.none,Nat.le_refl,List.set_cons_succ,bu,chunks,eg,AV.iv,eW,List.replicate_one,List.flatten_cons,List.flatten_nil,Nat.zero_mul,Nat.zero_add,Nat.mul_one,G6,bb]
  by_cases cj:i<x.kids.length
  ·rw[show decide ((i:Int)<(x.kids.length:Int))=true by simpa using cj];obtain⟨k,nE⟩:∃k,x.kids[i]?=some k:=⟨_,List.getElem?_eq_getElem cj⟩;have hw:IntKind.i64.wrap ((i:Int)+1)=((i+1:Nat):Int):=wrap64 (by omega) (by unfold B at hl;omega)
   simp only[↓fk,fl,cF,↓aE,ae,ev,b7,List.getD_cons_zero,List.getD_cons_succ,Nat.reduceEqDiff,if_false,if_true,Nat.reduceLT,Nat.reduceLeDiff,Nat.reduceAdd,Nat.reduceMul,true_and,and_true,List.length_map,bY,AV.cells,List.length_cons,List.length_nil,ai,Lb.loc.injEq,↓aF,↓aT,↓aG,↓bp,↓bn,↓bo,bq,a_,e_,List.getElem?_cons_zero,List.getElem?_cons_succ,Option.bind_some,Option.map_some,List.map_cons,List.map_nil,Int.natCast_nonneg,Int.toNat_natCast,AV.ew,AV.one,List.all_cons,List.all_nil,Bool.and_self,Bool.and_true,Bool.true_and,List.take_succ_cons,List.take_zero,List.drop_succ_cons,List.drop_zero,List.cons_append,List.nil_append,List.append_nil,List.set_cons_zero,IV.cW,Lb.app,Lb.fresh,aP,aQ,aR,aD,reduceCtorEq,Bool.false_eq_true,List.take,List.drop,List.mem_cons,List.not_mem_nil,or_false,bU,cw,forall_eq,false_implies,implies_true,ev,Hp.none,Nat.le_refl,List.set_cons_succ,bu,chunks,eg,AV.iv,eW,List.replicate_one,List.flatten_cons,List.flatten_nil,Nat.zero_mul,Nat.zero_add,Nat.mul_one,gC,nE,l9,Tree.bL,Tree.cs]
   refine⟨le_max (by decide),aO (hS k (List.mem_of_getElem? nE)) ?_⟩;have h1:x.kids.take (i+1)=x.kids.take i++[k]:=by rw[List.take_add_one,nE];rfl
   have h2:=gn x.kids i;have h3:=jP (x.kids.take i);have h4:=qB (x.kids.take i);have h5:=jN _ _ _ nE;have h6:=k.xS
   have hc:IntKind.i64.wrap (((bC (x.kids.take i)+1:Nat):Int)+(k.dg:Int))=((bC (x.kids.take (i+1))+1:Nat):Int):=by
    rw[wrap64 (by omega) (by unfold B at hk;omega),h1,eP];simp[bC];omega
   have hd:(if(k.dep:Int)>(ff (x.kids.take i):Int) then(k.dep:Int) else(ff (x.kids.take i):Int))=(ff (x.kids.take (i+1)):Int):=by
    rw[h1,mE];simp only[ff];split<;>omega
   simp only[↓fk,fl,cF,↓aE,ae,ev,b7,List.getD_cons_zero,List.getD_cons_succ,Nat.reduceEqDiff,if_false,if_true,Nat.reduceLT,Nat.reduceLeDiff,Nat.reduceAdd,Nat.reduceMul,true_and,and_true,List.length_map,bY,AV.cells,List.length_cons,List.length_nil,ai,Lb.loc.injEq,↓aF,↓aT,↓aG,↓bp,↓bn,↓bo,bq,a_,e_,List.getElem?_cons_zero,List.getElem?_cons_succ,Option.bind_some,Option.map_some,List.map_cons,List.map_nil,Int.natCast_nonneg,Int.toNat_natCast,AV.ew,AV.one,List.all_cons,List.all_nil,Bool.and_self,Bool.and_true,Bool.true_and,List.take_succ_cons,List.take_zero,List.drop_succ_cons,List.drop_zero,List.cons_append,List.nil_append,List.append_nil,List.set_cons_zero,IV.cW,Lb.app,Lb.fresh,aP,aQ,aR,aD,reduceCtorEq,Bool.false_eq_true,List.take,List.drop,List.mem_cons,List.not_mem_nil,or_false,bU,cw,forall_eq,false_implies,implies_true,ev,Hp.none,Nat.le_refl,List.set_cons_succ,bu,chunks,eg,AV.iv,eW,List.replicate_one,List.flatten_cons,List.flatten_nil,Nat.zero_mul,Nat.zero_add,Nat.mul_one,hw,hc,hd]
   refine⟨⟨i+1,cj⟩,by simp only;omega,id,.drop ?_ ?_ (iA (iA lJ))⟩
   ·exact bJ rfl (bJ rfl (bJ rfl (bJ rfl (bJ rfl (gk _ _)))))
   ·exact bK (by simp[AV.aI]) (bK (by simp[AV.aI]) (bK (by simp[AV.aI]) (bK (by simp[AV.aI]) (bK (by simp[AV.aI]) (gl _)))))
  ·rw[show decide ((i:Int)<(x.kids.length:Int))=false by simpa using cj];have h1:x.kids.take i=x.kids:=List.take_of_length_le (by omega);have h4:=qB x.kids;have hd:IntKind.i64.wrap ((ff x.kids:Int)+1)=(x.dep:Int):=by rw[wrap64 (by omega) (by unfold B at hk;omega),x.pn];omega
   simp only[↓fk,fl,cF,↓aE,ae,ev,b7,List.getD_cons_zero,List.getD_cons_succ,Nat.reduceEqDiff,if_false,if_true,Nat.reduceLT,Nat.reduceLeDiff,Nat.reduceAdd,Nat.reduceMul,true_and,and_true,List.length_map,bY,AV.cells,List.length_cons,List.length_nil,ai,Lb.loc.injEq,↓aF,↓aT,↓aG,↓bp,↓bn,↓bo,bq,a_,e_,List.getElem?_cons_zero,List.getElem?_cons_succ,Option.bind_some,Option.map_some,List.map_cons,List.map_nil,Int.natCast_nonneg,Int.toNat_natCast,AV.ew,AV.one,List.all_cons,List.all_nil,Bool.and_self,Bool.and_true,Bool.true_and,List.take_succ_cons,List.take_zero,List.drop_succ_cons,List.drop_zero,List.cons_append,List.nil_append,List.append_nil,List.set_cons_zero,IV.cW,Lb.app,Lb.fresh,aP,aQ,aR,aD,reduceCtorEq,Bool.false_eq_true,List.take,List.drop,List.mem_cons,List.not_mem_nil,or_false,bU,cw,forall_eq,false_implies,implies_true,ev,Hp.none,Nat.le_refl,List.set_cons_succ,bu,chunks,eg,AV.iv,eW,List.replicate_one,List.flatten_cons,List.flatten_nil,Nat.zero_mul,Nat.zero_add,Nat.mul_one,↓Jp,h1,hd,x.gm]
end Go.Am
