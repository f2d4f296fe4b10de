import Derived.Test.YtfinkeaikbmpgaaGreatDoorKT2
set_option linter.unusedSimpArgs false
set_option linter.unusedVariables false
set_option linter.unnecessarySimpa false
set_option linter.defProp false
/- Attributes that are good. -/
namespace Go.Am
open Go Go.RowKit
def fo (as:List Attr) (i:Nat):Bool:=
 match as[i]? with
 |some a=>named a.name&&(plain a.val&&(i==0||match as[i - 1]? with|some p=>Op.bytesLess p.name a.name|none=>true))
 |none=>true
def cN (as:List Attr):Bool:=(List.range as.length).all (fo as)&&decide ((as.length:Int)≤4)
def ir (fN fP:Nat):AC:=
(.seq
 (.au [
  ⟨some 2,none,.af (.c (.bool false))⟩])
(.seq
 (.seq
  (.au [
   ⟨some 5,none,.af (.t 0)⟩,
   ⟨some 6,none,.len (.t 5)⟩,
   ⟨some 7,none,.af (.c (.int .i64 0))⟩])
 (.block 0
  (.loop
   (.seq
    (.au [
     ⟨some 8,none,.bin .lss (.t 7) (.t 6)⟩])
   (.seq
    (.cond (.t 8)
     .skip
     (.exit 0))
   (.seq
    (.block 1
     (.seq
      (.au [
       ⟨some 9,none,.af (.t 7)⟩,
       ⟨some 10,none,.fH (.t 5) (.t 7) 2⟩,
       ⟨some 11,none,.load (some 2) (.t 10)⟩,
       ⟨some 4,none,.new [(.str []),(.str [])]⟩,
       ⟨some 3,none,.af (.t 9)⟩,
       ⟨none,none,.store 2 (.t 4) (.t 11)⟩])
     (.seq
      (.fY [
       ⟨some 12,none,.bU (.t 4) 0⟩,
       ⟨some 13,none,.load none (.t 12)⟩,
       ⟨some 14,none,.call fN [(.t 13)]⟩,
       ⟨some 15,none,.not (.t 14)⟩,
       ⟨some 16,none,.af (.t 15)⟩,
       ⟨some 17,(some (16,false)),(.bU (.t 4) 1)⟩,
       ⟨some 18,(some (16,false)),(.load none (.t 17))⟩,
       ⟨some 19,(some (16,false)),(.call fP [(.t 18)])⟩,
       ⟨some 20,(some (16,false)),(.not (.t 19))⟩,
       ⟨some 21,none,.pick (.t 16) (.c (.bool true)) (.t 20)⟩,
       ⟨some 22,none,.af (.t 21)⟩,
       ⟨some 23,(some (22,false)),(.af (.t 3))⟩,
       ⟨some 24,(some (22,false)),(.bin .gtr (.t 23) (.c (.int .i64 0)))⟩,
       ⟨some 25,(some (22,false)),(.af (.t 24))⟩,
       ⟨some 26,(some (25,true)),(.af (.t 0))⟩,
       ⟨some 27,(some (25,true)),(.af (.t 3))⟩,
       ⟨some 28,(some (25,true)),(.bin .sub (.t 27) (.c (.int .i64 1)))⟩,
       ⟨some 29,(some (25,true)),(.fH (.t 26) (.t 28) 2)⟩,
       ⟨some 30,(some (25,true)),(.bU (.t 29) 0)⟩,
       ⟨some 31,(some (25,true)),(.load none (.t 30))⟩,
       ⟨some 32,(some (25,true)),(.bU (.t 4) 0)⟩,
       ⟨some 33,(some (25,true)),(.load none (.t 32))⟩,
       ⟨some 34,(some (25,true)),(.bin .geq (.t 31) (.t 33))⟩,
       ⟨some 35,(some (22,false)),(.pick (.t 25) (.t 34) (.c (.bool false)))⟩,
       ⟨some 36,none,.pick (.t 22) (.c (.bool true)) (.t 35)⟩]
       [[],[0],[1],[2],[3,2],[4],[5,4],[6,4,4],[7,4],[4,8],[9,7],[10],[11,10],[12,10,10],[13],[13],[15,13],[14,16,13],[17,13],[18,13],[13],[20,13],[19,21,13],[13,22,10],[10,23]]
       [.no,.rw [.loc 4] [],.no,.no,.no,.no,.rw [.loc 4] [],.no,.no,.no,.no,.no,.no,.no,.no,.no,.no,.no,.no,.no,.no,.rw [.loc 4] [],.no,.no,.no])
     (.cond (.t 36)
      (.seq
       (.au [
        ⟨some 2,none,.af (.c (.bool false))⟩])
      .ret)
      .skip))))
   (.au [
    ⟨some 37,none,.bin .add (.t 7) (.c (.int .i64 1))⟩,
    ⟨some 7,none,.af (.t 37)⟩])))))))
(.seq
 (.au [
  ⟨some 38,none,.af (.t 0)⟩,
  ⟨some 39,none,.len (.t 38)⟩,
  ⟨some 40,none,.bin .leq (.t 39) (.c (.int .i64 4))⟩,
  ⟨some 2,none,.af (.t 40)⟩])
.ret)))
def ot (as:List Attr) (i:Nat):Env:=put (put (put (put Env.any 0 (.list (eh as))) 5 (.list (eh as))) 6 (.int .i64 as.length)) 7 (.int .i64 i)
theorem Wk.drop {env env2:Env} {H:Hp} (e:∀n,env2 n= .any∨env n=bQ id (env2 n)) (m:∀n,∀l∈(env2 n).ar,Hp.none l≠ .unused) (hn:∀l:Lb,l.fresh=false→H l= .unused):Wk id env H env2 Hp.none:=
 ⟨e,fun l r h=>by simp[Hp.none] at h,fun _ _ ⟨r,h⟩=>by simp[Hp.none] at h,m,fun l r h=>by simp[Hp.none] at h,fun l hl=>⟨fun h=>absurd (hn l (Lb.gD hl)) h,fun _=>rfl⟩,fun l ⟨r,h⟩=>by simp[Hp.none] at h⟩
theorem pJ {p:Nat→Bool} {n i:Nat} (hi:i<n) (hp:p i=false):(List.range n).all p=false:=by
 cases h:(List.range n).all p with
 |false=>rfl
 |true=>
  have:=List.all_eq_true.1 h i (by simpa using hi);rw[hp] at this;exact this.symm
theorem ou {P : Program} {G : Nat → Option (List IV)} {f fN fP : Nat} (hF : aB P G f = some (41,[(none,2)],(ir fN fP).bare)) (as : List Attr) (hx : as.length ≤ B)
   (hN:∀a∈as,ai P G fN [.str a.name] (.bool (named a.name))) (hP:∀a∈as,ai P G fP [.str a.val] (.bool (plain a.val))) :
   ai P G f [.list (eh as)] (.bool (cN as)):=by
 refine aC hF (by simp) (by simp[ah,AV.ar]) (by simp[AV.ar]) ?_
 unfold ir
 simp only[↓dY,dZ,bK,↓al,aa,ev,bE,List.getD_cons_zero,List.getD_cons_succ,Nat.reduceEqDiff,if_false,if_true,Nat.reduceLT,Nat.reduceLeDiff,Nat.reduceAdd,Nat.reduceMul,true_and,and_true,List.length_map,br,AV.cells,List.length_cons,List.length_nil,ae,Lb.loc.injEq,↓an,↓az,↓aq,↓aK,↓aI,↓aJ,aN,aE,dO,List.getElem?_cons_zero,List.getElem?_cons_succ,Option.bind_some,Option.map_some,List.map_cons,List.map_nil,Int.natCast_nonneg,Int.toNat_natCast,AV.dk,AV.one,List.all_cons,List.all_nil,Bool.and_self,Bool.and_true,Bool.true_and,List.take_succ_cons,List.take_zero,List.drop_succ_cons,List.drop_zero,List.cons_append,List.nil_append,List.append_nil,List.set_cons_zero,IV.b7,Lb.app,Lb.fresh,aw,ax,ay,ak,reduceCtorEq,Bool.false_eq_true,List.take,List.drop,List.mem_cons,List.not_mem_nil,or_false,bp,bJ,forall_eq,false_implies,implies_true,ev,Hp.none,Nat.le_refl,List.set_cons_succ,aQ,chunks,dj,AV.iv,dF,List.replicate_one,List.flatten_cons,List.flatten_nil,Nat.zero_mul,Nat.zero_add,Nat.mul_one,de]
 refine gk (σ:={i:Nat // i≤as.length∧∀j,j<i→fo as j=true}) (fun q=>ot as q.1) (fun _=>Hp.none) (fun q=>as.length - q.1) ⟨0,by simp⟩ id ?_ ?_
 · refine .none ?_ ?_
   · exact aZ rfl (aZ rfl (aZ rfl (aZ rfl (eF _ _))))
   · exact a6 (by simp[AV.ar]) (a6 (by simp[AV.ar]) (a6 (by simp[AV.ar]) (a6 (by simp[AV.ar]) (eG _))))
 · rintro ⟨i,hi,hs⟩
   simp only[↓dY,dZ,bK,↓al,aa,ev,bE,List.getD_cons_zero,List.getD_cons_succ,Nat.reduceEqDiff,if_false,if_true,Nat.reduceLT,Nat.reduceLeDiff,Nat.reduceAdd,Nat.reduceMul,true_and,and_true,List.length_map,br,AV.cells,List.length_cons,List.length_nil,ae,Lb.loc.injEq,↓an,↓az,↓aq,↓aK,↓aI,↓aJ,aN,aE,dO,List.getElem?_cons_zero,List.getElem?_cons_succ,Option.bind_some,Option.map_some,List.map_cons,List.map_nil,Int.natCast_nonneg,Int.toNat_natCast,AV.dk,AV.one,List.all_cons,List.all_nil,Bool.and_self,Bool.and_true,Bool.true_and,List.take_succ_cons,List.take_zero,List.drop_succ_cons,List.drop_zero,List.cons_append,List.nil_append,List.append_nil,List.set_cons_zero,IV.b7,Lb.app,Lb.fresh,aw,ax,ay,ak,reduceCtorEq,Bool.false_eq_true,List.take,List.drop,List.mem_cons,List.not_mem_nil,or_false,bp,bJ,forall_eq,false_implies,implies_true,ev,Hp.none,Nat.le_refl,List.set_cons_succ,aQ,chunks,dj,AV.iv,dF,List.replicate_one,List.flatten_cons,List.flatten_nil,Nat.zero_mul,Nat.zero_add,Nat.mul_one,ot,de]
   by_cases bz:i<as.length
   · rw[show decide ((i:Int)<(as.length:Int))=true by simpa using bz]
     obtain⟨a,ha⟩:∃a,as[i]?=some a:=⟨_,List.getElem?_eq_getElem bz⟩
     have hw:IntKind.i64.wrap ((i:Int)+1)=((i+1:Nat):Int):=wrap64 (by omega) (by unfold B at hx;omega)
     simp only[↓dY,dZ,bK,↓al,aa,ev,bE,List.getD_cons_zero,List.getD_cons_succ,Nat.reduceEqDiff,if_false,if_true,Nat.reduceLT,Nat.reduceLeDiff,Nat.reduceAdd,Nat.reduceMul,true_and,and_true,List.length_map,br,AV.cells,List.length_cons,List.length_nil,ae,Lb.loc.injEq,↓an,↓az,↓aq,↓aK,↓aI,↓aJ,aN,aE,dO,List.getElem?_cons_zero,List.getElem?_cons_succ,Option.bind_some,Option.map_some,List.map_cons,List.map_nil,Int.natCast_nonneg,Int.toNat_natCast,AV.dk,AV.one,List.all_cons,List.all_nil,Bool.and_self,Bool.and_true,Bool.true_and,List.take_succ_cons,List.take_zero,List.drop_succ_cons,List.drop_zero,List.cons_append,List.nil_append,List.append_nil,List.set_cons_zero,IV.b7,Lb.app,Lb.fresh,aw,ax,ay,ak,reduceCtorEq,Bool.false_eq_true,List.take,List.drop,List.mem_cons,List.not_mem_nil,or_false,bp,bJ,forall_eq,false_implies,implies_true,ev,Hp.none,Nat.le_refl,List.set_cons_succ,aQ,chunks,dj,AV.iv,dF,List.replicate_one,List.flatten_cons,List.flatten_nil,Nat.zero_mul,Nat.zero_add,Nat.mul_one,nN,ha,nc,Attr.aU,Attr.cs]
     refine⟨le_max (by decide),rfl,ik (hN a (List.mem_of_getElem? ha)) ?_⟩
     have next:fo as i=true→∃q:{i:Nat // i≤as.length∧∀j,j<i→fo as j=true},q.1=i+1:=fun hp=>⟨⟨i+1,bz,fun j hj=>by
       by_cases e:j=i
       · rw[e];exact hp
       · exact hs j (by omega)⟩,rfl⟩
     have stop:fo as i=false→cN as=false:=fun hp=>by rw[cN,pJ bz hp];rfl
     have kU:fo as i=(named a.name&&(plain a.val&&(i==0||match as[i - 1]? with|some p=>Op.bytesLess p.name a.name|none=>true))):=by unfold fo;rw[ha]
     cases h1:named a.name with
     |false=>
       simp only[↓dY,dZ,bK,↓al,aa,ev,bE,List.getD_cons_zero,List.getD_cons_succ,Nat.reduceEqDiff,if_false,if_true,Nat.reduceLT,Nat.reduceLeDiff,Nat.reduceAdd,Nat.reduceMul,true_and,and_true,List.length_map,br,AV.cells,List.length_cons,List.length_nil,ae,Lb.loc.injEq,↓an,↓az,↓aq,↓aK,↓aI,↓aJ,aN,aE,dO,List.getElem?_cons_zero,List.getElem?_cons_succ,Option.bind_some,Option.map_some,List.map_cons,List.map_nil,Int.natCast_nonneg,Int.toNat_natCast,AV.dk,AV.one,List.all_cons,List.all_nil,Bool.and_self,Bool.and_true,Bool.true_and,List.take_succ_cons,List.take_zero,List.drop_succ_cons,List.drop_zero,List.cons_append,List.nil_append,List.append_nil,List.set_cons_zero,IV.b7,Lb.app,Lb.fresh,aw,ax,ay,ak,reduceCtorEq,Bool.false_eq_true,List.take,List.drop,List.mem_cons,List.not_mem_nil,or_false,bp,bJ,forall_eq,false_implies,implies_true,ev,Hp.none,Nat.le_refl,List.set_cons_succ,aQ,chunks,dj,AV.iv,dF,List.replicate_one,List.flatten_cons,List.flatten_nil,Nat.zero_mul,Nat.zero_add,Nat.mul_one,Bool.not_false]
       rw[stop (by rw[kU,h1];rfl)]
     |true=>
       simp only[↓dY,dZ,bK,↓al,aa,ev,bE,List.getD_cons_zero,List.getD_cons_succ,Nat.reduceEqDiff,if_false,if_true,Nat.reduceLT,Nat.reduceLeDiff,Nat.reduceAdd,Nat.reduceMul,true_and,and_true,List.length_map,br,AV.cells,List.length_cons,List.length_nil,ae,Lb.loc.injEq,↓an,↓az,↓aq,↓aK,↓aI,↓aJ,aN,aE,dO,List.getElem?_cons_zero,List.getElem?_cons_succ,Option.bind_some,Option.map_some,List.map_cons,List.map_nil,Int.natCast_nonneg,Int.toNat_natCast,AV.dk,AV.one,List.all_cons,List.all_nil,Bool.and_self,Bool.and_true,Bool.true_and,List.take_succ_cons,List.take_zero,List.drop_succ_cons,List.drop_zero,List.cons_append,List.nil_append,List.append_nil,List.set_cons_zero,IV.b7,Lb.app,Lb.fresh,aw,ax,ay,ak,reduceCtorEq,Bool.false_eq_true,List.take,List.drop,List.mem_cons,List.not_mem_nil,or_false,bp,bJ,forall_eq,false_implies,implies_true,ev,Hp.none,Nat.le_refl,List.set_cons_succ,aQ,chunks,dj,AV.iv,dF,List.replicate_one,List.flatten_cons,List.flatten_nil,Nat.zero_mul,Nat.zero_add,Nat.mul_one,Bool.not_true]
       refine ik (hP a (List.mem_of_getElem? ha)) ?_
       cases h2:plain a.val with
       |false=>
         simp only[↓dY,dZ,bK,↓al,aa,ev,bE,List.getD_cons_zero,List.getD_cons_succ,Nat.reduceEqDiff,if_false,if_true,Nat.reduceLT,Nat.reduceLeDiff,Nat.reduceAdd,Nat.reduceMul,true_and,and_true,List.length_map,br,AV.cells,List.length_cons,List.length_nil,ae,Lb.loc.injEq,↓an,↓az,↓aq,↓aK,↓aI,↓aJ,aN,aE,dO,List.getElem?_cons_zero,List.getElem?_cons_succ,Option.bind_some,Option.map_some,List.map_cons,List.map_nil,Int.natCast_nonneg,Int.toNat_natCast,AV.dk,AV.one,List.all_cons,List.all_nil,Bool.and_self,Bool.and_true,Bool.true_and,List.take_succ_cons,List.take_zero,List.drop_succ_cons,List.drop_zero,List.cons_append,List.nil_append,List.append_nil,List.set_cons_zero,IV.b7,Lb.app,Lb.fresh,aw,ax,ay,ak,reduceCtorEq,Bool.false_eq_true,List.take,List.drop,List.mem_cons,List.not_mem_nil,or_false,bp,bJ,forall_eq,false_implies,implies_true,ev,Hp.none,Nat.le_refl,List.set_cons_succ,aQ,chunks,dj,AV.iv,dF,List.replicate_one,List.flatten_cons,List.flatten_nil,Nat.zero_mul,Nat.zero_add,Nat.mul_one,Bool.not_false]
         rw[stop (by rw[kU,h1,h2];rfl)]
       |true=>
         simp only[↓dY,dZ,bK,↓al,aa,ev,bE,List.getD_cons_zero,List.getD_cons_succ,Nat.reduceEqDiff,if_false,if_true,Nat.reduceLT,Nat.reduceLeDiff,Nat.reduceAdd,Nat.reduceMul,true_and,and_true,List.length_map,br,AV.cells,List.length_cons,List.length_nil,ae,Lb.loc.injEq,↓an,↓az,↓aq,↓aK,↓aI,↓aJ,aN,aE,dO,List.getElem?_cons_zero,List.getElem?_cons_succ,Option.bind_some,Option.map_some,List.map_cons,List.map_nil,Int.natCast_nonneg,Int.toNat_natCast,AV.dk,AV.one,List.all_cons,List.all_nil,Bool.and_self,Bool.and_true,Bool.true_and,List.take_succ_cons,List.take_zero,List.drop_succ_cons,List.drop_zero,List.cons_append,List.nil_append,List.append_nil,List.set_cons_zero,IV.b7,Lb.app,Lb.fresh,aw,ax,ay,ak,reduceCtorEq,Bool.false_eq_true,List.take,List.drop,List.mem_cons,List.not_mem_nil,or_false,bp,bJ,forall_eq,false_implies,implies_true,ev,Hp.none,Nat.le_refl,List.set_cons_succ,aQ,chunks,dj,AV.iv,dF,List.replicate_one,List.flatten_cons,List.flatten_nil,Nat.zero_mul,Nat.zero_add,Nat.mul_one,Bool.not_true]
         by_cases h3:i=0
         · subst h3
           rw[show decide (((0:Nat):Int)>0)=false by simp]
           obtain⟨q,hq⟩:=next (by rw[kU,h1,h2];rfl)
           simp only[↓dY,dZ,bK,↓al,aa,ev,bE,List.getD_cons_zero,List.getD_cons_succ,Nat.reduceEqDiff,if_false,if_true,Nat.reduceLT,Nat.reduceLeDiff,Nat.reduceAdd,Nat.reduceMul,true_and,and_true,List.length_map,br,AV.cells,List.length_cons,List.length_nil,ae,Lb.loc.injEq,↓an,↓az,↓aq,↓aK,↓aI,↓aJ,aN,aE,dO,List.getElem?_cons_zero,List.getElem?_cons_succ,Option.bind_some,Option.map_some,List.map_cons,List.map_nil,Int.natCast_nonneg,Int.toNat_natCast,AV.dk,AV.one,List.all_cons,List.all_nil,Bool.and_self,Bool.and_true,Bool.true_and,List.take_succ_cons,List.take_zero,List.drop_succ_cons,List.drop_zero,List.cons_append,List.nil_append,List.append_nil,List.set_cons_zero,IV.b7,Lb.app,Lb.fresh,aw,ax,ay,ak,reduceCtorEq,Bool.false_eq_true,List.take,List.drop,List.mem_cons,List.not_mem_nil,or_false,bp,bJ,forall_eq,false_implies,implies_true,ev,Hp.none,Nat.le_refl,List.set_cons_succ,aQ,chunks,dj,AV.iv,dF,List.replicate_one,List.flatten_cons,List.flatten_nil,Nat.zero_mul,Nat.zero_add,Nat.mul_one,hw]
           refine⟨q,by omega,id,.drop ?_ ?_ ?_⟩
           · rw[hq];exact aZ rfl (aZ rfl (aZ rfl (aZ rfl (eF _ _))))
           · exact a6 (by simp[AV.ar]) (a6 (by simp[AV.ar]) (a6 (by simp[AV.ar]) (a6 (by simp[AV.ar]) (eG _))))
           · exact fJ (fJ jD)
         · rw[show decide ((i:Int)>0)=true by simp;omega]
           obtain⟨p,hp⟩:∃p,as[i - 1]?=some p:=⟨_,List.getElem?_eq_getElem (by omega)⟩
           have ku:IntKind.i64.wrap ((i:Int) - 1)=((i - 1:Nat):Int):=by rw[wrap64 (by omega) (by unfold B at hx;omega)];omega
           simp only[↓dY,dZ,bK,↓al,aa,ev,bE,List.getD_cons_zero,List.getD_cons_succ,Nat.reduceEqDiff,if_false,if_true,Nat.reduceLT,Nat.reduceLeDiff,Nat.reduceAdd,Nat.reduceMul,true_and,and_true,List.length_map,br,AV.cells,List.length_cons,List.length_nil,ae,Lb.loc.injEq,↓an,↓az,↓aq,↓aK,↓aI,↓aJ,aN,aE,dO,List.getElem?_cons_zero,List.getElem?_cons_succ,Option.bind_some,Option.map_some,List.map_cons,List.map_nil,Int.natCast_nonneg,Int.toNat_natCast,AV.dk,AV.one,List.all_cons,List.all_nil,Bool.and_self,Bool.and_true,Bool.true_and,List.take_succ_cons,List.take_zero,List.drop_succ_cons,List.drop_zero,List.cons_append,List.nil_append,List.append_nil,List.set_cons_zero,IV.b7,Lb.app,Lb.fresh,aw,ax,ay,ak,reduceCtorEq,Bool.false_eq_true,List.take,List.drop,List.mem_cons,List.not_mem_nil,or_false,bp,bJ,forall_eq,false_implies,implies_true,ev,Hp.none,Nat.le_refl,List.set_cons_succ,aQ,chunks,dj,AV.iv,dF,List.replicate_one,List.flatten_cons,List.flatten_nil,Nat.zero_mul,Nat.zero_add,Nat.mul_one,ku,nN,hp,nc,Attr.aU,Attr.cs]
           cases h4:Op.bytesLess p.name a.name with
           |false=>
             simp only[↓dY,dZ,bK,↓al,aa,ev,bE,List.getD_cons_zero,List.getD_cons_succ,Nat.reduceEqDiff,if_false,if_true,Nat.reduceLT,Nat.reduceLeDiff,Nat.reduceAdd,Nat.reduceMul,true_and,and_true,List.length_map,br,AV.cells,List.length_cons,List.length_nil,ae,Lb.loc.injEq,↓an,↓az,↓aq,↓aK,↓aI,↓aJ,aN,aE,dO,List.getElem?_cons_zero,List.getElem?_cons_succ,Option.bind_some,Option.map_some,List.map_cons,List.map_nil,Int.natCast_nonneg,Int.toNat_natCast,AV.dk,AV.one,List.all_cons,List.all_nil,Bool.and_self,Bool.and_true,Bool.true_and,List.take_succ_cons,List.take_zero,List.drop_succ_cons,List.drop_zero,List.cons_append,List.nil_append,List.append_nil,List.set_cons_zero,IV.b7,Lb.app,Lb.fresh,aw,ax,ay,ak,reduceCtorEq,Bool.false_eq_true,List.take,List.drop,List.mem_cons,List.not_mem_nil,or_false,bp,bJ,forall_eq,false_implies,implies_true,ev,Hp.none,Nat.le_refl,List.set_cons_succ,aQ,chunks,dj,AV.iv,dF,List.replicate_one,List.flatten_cons,List.flatten_nil,Nat.zero_mul,Nat.zero_add,Nat.mul_one,Bool.not_false]
             rw[stop (by rw[kU,h1,h2,hp];simp[h3,h4])]
           |true=>
             obtain⟨q,hq⟩:=next (by rw[kU,h1,h2,hp];simp[h4])
             simp only[↓dY,dZ,bK,↓al,aa,ev,bE,List.getD_cons_zero,List.getD_cons_succ,Nat.reduceEqDiff,if_false,if_true,Nat.reduceLT,Nat.reduceLeDiff,Nat.reduceAdd,Nat.reduceMul,true_and,and_true,List.length_map,br,AV.cells,List.length_cons,List.length_nil,ae,Lb.loc.injEq,↓an,↓az,↓aq,↓aK,↓aI,↓aJ,aN,aE,dO,List.getElem?_cons_zero,List.getElem?_cons_succ,Option.bind_some,Option.map_some,List.map_cons,List.map_nil,Int.natCast_nonneg,Int.toNat_natCast,AV.dk,AV.one,List.all_cons,List.all_nil,Bool.and_self,Bool.and_true,Bool.true_and,List.take_succ_cons,List.take_zero,List.drop_succ_cons,List.drop_zero,List.cons_append,List.nil_append,List.append_nil,List.set_cons_zero,IV.b7,Lb.app,Lb.fresh,aw,ax,ay,ak,reduceCtorEq,Bool.false_eq_true,List.take,List.drop,List.mem_cons,List.not_mem_nil,or_false,bp,bJ,forall_eq,false_implies,implies_true,ev,Hp.none,Nat.le_refl,List.set_cons_succ,aQ,chunks,dj,AV.iv,dF,List.replicate_one,List.flatten_cons,List.flatten_nil,Nat.zero_mul,Nat.zero_add,Nat.mul_one,Bool.not_true,hw]
             refine⟨q,by omega,id,.drop ?_ ?_ ?_⟩
             · rw[hq];exact aZ rfl (aZ rfl (aZ rfl (aZ rfl (eF _ _))))
             · exact a6 (by simp[AV.ar]) (a6 (by simp[AV.ar]) (a6 (by simp[AV.ar]) (a6 (by simp[AV.ar]) (eG _))))
             · exact fJ (fJ jD)
   · rw[show decide ((i:Int)<(as.length:Int))=false by simpa using bz]
     simp only[↓dY,dZ,bK,↓al,aa,ev,bE,List.getD_cons_zero,List.getD_cons_succ,Nat.reduceEqDiff,if_false,if_true,Nat.reduceLT,Nat.reduceLeDiff,Nat.reduceAdd,Nat.reduceMul,true_and,and_true,List.length_map,br,AV.cells,List.length_cons,List.length_nil,ae,Lb.loc.injEq,↓an,↓az,↓aq,↓aK,↓aI,↓aJ,aN,aE,dO,List.getElem?_cons_zero,List.getElem?_cons_succ,Option.bind_some,Option.map_some,List.map_cons,List.map_nil,Int.natCast_nonneg,Int.toNat_natCast,AV.dk,AV.one,List.all_cons,List.all_nil,Bool.and_self,Bool.and_true,Bool.true_and,List.take_succ_cons,List.take_zero,List.drop_succ_cons,List.drop_zero,List.cons_append,List.nil_append,List.append_nil,List.set_cons_zero,IV.b7,Lb.app,Lb.fresh,aw,ax,ay,ak,reduceCtorEq,Bool.false_eq_true,List.take,List.drop,List.mem_cons,List.not_mem_nil,or_false,bp,bJ,forall_eq,false_implies,implies_true,ev,Hp.none,Nat.le_refl,List.set_cons_succ,aQ,chunks,dj,AV.iv,dF,List.replicate_one,List.flatten_cons,List.flatten_nil,Nat.zero_mul,Nat.zero_add,Nat.mul_one,de]
     have:(List.range as.length).all (fo as)=true:=by
       rw[List.all_eq_true]
       intro j hj
       exact hs j (by simp at hj;omega)
     rw[cN,this];rfl
end Go.Am

/- The size of a tree. -/
namespace Go.Am
open Go Go.RowKit
mutual
def Tree.dep:Tree→Nat
 | .mk _ _ _ ks=>eI ks+1
def eI:List Tree→Nat
 |[]=>0
 |x::r=>max x.dep (eI r)
end
mutual
def Tree.dP:Tree→Nat
 | .mk _ _ _ ks=>aY ks+1
def aY:List Tree→Nat
 |[]=>0
 |x::r=>x.dP+aY r
end
theorem Tree.ki (x:Tree):x.dep=eI x.kids+1:=by cases x;simp[Tree.dep,Tree.kids]
theorem Tree.ft (x:Tree):x.dP=aY x.kids+1:=by cases x;simp[Tree.dP,Tree.kids]
theorem lZ:∀xs ys:List Tree,eI (xs++ys)=max (eI xs) (eI ys)
 |[],ys=>by simp[eI]
 |x::r,ys=>by simp only[List.cons_append,eI,lZ r ys];omega
theorem c7:∀xs ys:List Tree,aY (xs++ys)=aY xs+aY ys
 |[],ys=>by simp[aY]
 |x::r,ys=>by simp[aY,c7 r ys];omega
mutual
theorem Tree.yy:∀x:Tree,x.dep≤x.wt
 | .mk _ _ _ ks=>by have:=nR ks;simp only[Tree.dep,Tree.wt];omega
theorem nR:∀xs:List Tree,eI xs≤fL xs
 |[]=>by simp[eI]
 |x::r=>by have:=x.yy;have:=nR r;simp only[eI,fL];omega
end
mutual
theorem Tree.qG:∀x:Tree,x.dP≤x.wt
 | .mk _ _ _ ks=>by have:=qH ks;simp only[Tree.dP,Tree.wt];omega
theorem qH:∀xs:List Tree,aY xs≤fL xs
 |[]=>by simp[aY]
 |x::r=>by have:=x.qG;have:=qH r;simp only[aY,fL];omega
end
theorem ov (xs:List Tree) (i:Nat):fL (xs.take i)≤fL xs:=by
 have:=kC (xs.take i) (xs.drop i);rw[List.take_append_drop] at this;omega
theorem df {env:Env} {H:Hp} (t u:Nat) (R:AV→Hp→Prop):ij [(none,t),(none,u)] R .ret env H=R (.ei [env t,env u]) H:=by simp[ij,jh,ob,mE]
def vl (fS:Nat):AC:=
(.seq
 (.au [
  ⟨some 1,none,.box (.t 0)⟩,
  ⟨some 2,none,.af (.c (.int .i64 0))⟩,
  ⟨some 3,none,.af (.c (.int .i64 0))⟩])
(.seq
 (.au [
  ⟨some 4,none,.af (.c (.int .i64 0))⟩,
  ⟨some 5,none,.af (.c (.int .i64 1))⟩])
(.seq
 (.seq
  (.au [
   ⟨some 10,none,.bU (.t 1) 3⟩,
   ⟨some 11,none,.load none (.t 10)⟩,
   ⟨some 12,none,.len (.t 11)⟩,
   ⟨some 13,none,.af (.c (.int .i64 0))⟩])
 (.block 0
  (.loop
   (.seq
    (.au [
     ⟨some 14,none,.bin .lss (.t 13) (.t 12)⟩])
   (.seq
    (.cond (.t 14)
     .skip
     (.exit 0))
   (.seq
    (.block 1
     (.seq
      (.au [
       ⟨some 15,none,.fH (.t 11) (.t 13) 4⟩,
       ⟨some 16,none,.load (some 4) (.t 15)⟩,
       ⟨some 7,none,.new [(.bool false),(.str []),.nil0,.nil0]⟩,
       ⟨none,none,.store 4 (.t 7) (.t 16)⟩])
     (.seq
      (.au [
       ⟨some 18,none,.load (some 4) (.t 7)⟩,
       ⟨some 19,none,.call fS [(.t 18)]⟩,
       ⟨some 17,none,.af (.t 19)⟩,
       ⟨some 20,none,.ext (.t 17) 0⟩,
       ⟨some 21,none,.ext (.t 17) 1⟩,
       ⟨some 8,none,.af (.t 20)⟩,
       ⟨some 9,none,.af (.t 21)⟩])
     (.au [
      ⟨some 22,none,.af (.t 4)⟩,
      ⟨some 23,none,.af (.t 8)⟩,
      ⟨some 24,none,.max (.t 22) (.t 23)⟩,
      ⟨some 25,none,.af (.t 5)⟩,
      ⟨some 26,none,.af (.t 9)⟩,
      ⟨some 27,none,.bin .add (.t 25) (.t 26)⟩,
      ⟨some 4,none,.af (.t 24)⟩,
      ⟨some 5,none,.af (.t 27)⟩]))))
   (.au [
    ⟨some 28,none,.bin .add (.t 13) (.c (.int .i64 1))⟩,
    ⟨some 13,none,.af (.t 28)⟩])))))))
(.seq
 (.au [
  ⟨some 29,none,.af (.t 4)⟩,
  ⟨some 30,none,.bin .add (.t 29) (.c (.int .i64 1))⟩,
  ⟨some 31,none,.af (.t 5)⟩,
  ⟨some 2,none,.af (.t 30)⟩,
  ⟨some 3,none,.af (.t 31)⟩])
.ret))))
def Cu (ks:List Tree) (i:Nat):Env:=put (put (put (put (put Env.any 4 (.int .i64 (eI (ks.take i)))) 5 (.int .i64 ((aY (ks.take i)+1:Nat):Int))) 11 (.list (eY ks))) 12 (.int .i64 ks.length)) 13 (.int .i64 i)
theorem Gl {P:Program} {G:Nat→Option (List IV)} {f g:Nat} (hF:aB P G f=some (32,[(none,2),(none,3)],(vl g).bare)) (x:Tree) (hx:x.wt≤B)
  (hS:∀k∈x.kids,ai P G g [k.av] (.ei [.int .i64 k.dep,.int .i64 k.dP])) :
  ai P G f [x.av] (.ei [.int .i64 x.dep,.int .i64 x.dP]):=by
 refine aC hF (by simp) (by simp[ah,AV.ar,Tree.av]) (by simp[AV.ar,ah]) ?_;have hk:fL x.kids≤B:=by have:=x.jQ;omega
 have hl:x.kids.length≤B:=Nat.le_trans (gy _) hk;unfold vl
 simp only[↓dY,dZ,bK,↓al,aa,ev,bE,List.getD_cons_zero,List.getD_cons_succ,Nat.reduceEqDiff,if_false,if_true,Nat.reduceLT,Nat.reduceLeDiff,Nat.reduceAdd,Nat.reduceMul,true_and,and_true,List.length_map,br,AV.cells,List.length_cons,List.length_nil,ae,Lb.loc.injEq,↓an,↓az,↓aq,↓aK,↓aI,↓aJ,aN,aE,dO,List.getElem?_cons_zero,List.getElem?_cons_succ,Option.bind_some,Option.map_some,List.map_cons,List.map_nil,Int.natCast_nonneg,Int.toNat_natCast,AV.dk,AV.one,List.all_cons,List.all_nil,Bool.and_self,Bool.and_true,Bool.true_and,List.take_succ_cons,List.take_zero,List.drop_succ_cons,List.drop_zero,List.cons_append,List.nil_append,List.append_nil,List.set_cons_zero,IV.b7,Lb.app,Lb.fresh,aw,ax,ay,ak,reduceCtorEq,Bool.false_eq_true,List.take,List.drop,List.mem_cons,List.not_mem_nil,or_false,bp,bJ,forall_eq,false_implies,implies_true,ev,Hp.none,Nat.le_refl,List.set_cons_succ,aQ,chunks,dj,AV.iv,dF,List.replicate_one,List.flatten_cons,List.flatten_nil,Nat.zero_mul,Nat.zero_add,Nat.mul_one,Tree.av,bG]
 refine⟨le_max (by decide),?_⟩;refine gk (σ:={i:Nat // i≤x.kids.length}) (fun q=>Cu x.kids q.1) (fun _=>Hp.none) (fun q=>x.kids.length - q.1) ⟨0,by simp⟩ id ?_ ?_
 ·refine .drop ?_ ?_ (fJ jD)
  ·exact aZ rfl (aZ rfl (aZ rfl (aZ (by simp[oc,bQ,aY]) (aZ (by simp[oc,bQ,eI]) (eF _ _)))))
  ·exact a6 (by simp[AV.ar]) (a6 (by simp[AV.ar]) (a6 (by simp[AV.ar]) (a6 (by simp[AV.ar]) (a6 (by simp[AV.ar]) (eG _)))))
 ·rintro⟨i,hi⟩
  simp only[↓dY,dZ,bK,↓al,aa,ev,bE,List.getD_cons_zero,List.getD_cons_succ,Nat.reduceEqDiff,if_false,if_true,Nat.reduceLT,Nat.reduceLeDiff,Nat.reduceAdd,Nat.reduceMul,true_and,and_true,List.length_map,br,AV.cells,List.length_cons,List.length_nil,ae,Lb.loc.injEq,↓an,↓az,↓aq,↓aK,↓aI,↓aJ,aN,aE,dO,List.getElem?_cons_zero,List.getElem?_cons_succ,Option.bind_some,Option.map_some,List.map_cons,List.map_nil,Int.natCast_nonneg,Int.toNat_natCast,AV.dk,AV.one,List.all_cons,List.all_nil,Bool.and_self,Bool.and_true,Bool.true_and,List.take_succ_cons,List.take_zero,List.drop_succ_cons,List.drop_zero,List.cons_append,List.nil_append,List.append_nil,List.set_cons_zero,IV.b7,Lb.app,Lb.fresh,aw,ax,ay,ak,reduceCtorEq,Bool.false_eq_true,List.take,List.drop,List.mem_cons,List.not_mem_nil,or_false,bp,bJ,forall_eq,false_implies,implies_true,ev,Hp.none,Nat.le_refl,List.set_cons_succ,aQ,chunks,dj,AV.iv,dF,List.replicate_one,List.flatten_cons,List.flatten_nil,Nat.zero_mul,Nat.zero_add,Nat.mul_one,Cu,bG]
  by_cases bz:i<x.kids.length
  ·rw[show decide ((i:Int)<(x.kids.length:Int))=true by simpa using bz];obtain⟨k,yz⟩:∃k,x.kids[i]?=some k:=⟨_,List.getElem?_eq_getElem bz⟩;have hw:IntKind.i64.wrap ((i:Int)+1)=((i+1:Nat):Int):=wrap64 (by omega) (by unfold B at hl;omega)
   simp only[↓dY,dZ,bK,↓al,aa,ev,bE,List.getD_cons_zero,List.getD_cons_succ,Nat.reduceEqDiff,if_false,if_true,Nat.reduceLT,Nat.reduceLeDiff,Nat.reduceAdd,Nat.reduceMul,true_and,and_true,List.length_map,br,AV.cells,List.length_cons,List.length_nil,ae,Lb.loc.injEq,↓an,↓az,↓aq,↓aK,↓aI,↓aJ,aN,aE,dO,List.getElem?_cons_zero,List.getElem?_cons_succ,Option.bind_some,Option.map_some,List.map_cons,List.map_nil,Int.natCast_nonneg,Int.toNat_natCast,AV.dk,AV.one,List.all_cons,List.all_nil,Bool.and_self,Bool.and_true,Bool.true_and,List.take_succ_cons,List.take_zero,List.drop_succ_cons,List.drop_zero,List.cons_append,List.nil_append,List.append_nil,List.set_cons_zero,IV.b7,Lb.app,Lb.fresh,aw,ax,ay,ak,reduceCtorEq,Bool.false_eq_true,List.take,List.drop,List.mem_cons,List.not_mem_nil,or_false,bp,bJ,forall_eq,false_implies,implies_true,ev,Hp.none,Nat.le_refl,List.set_cons_succ,aQ,chunks,dj,AV.iv,dF,List.replicate_one,List.flatten_cons,List.flatten_nil,Nat.zero_mul,Nat.zero_add,Nat.mul_one,iI,yz,lW,Tree.aU,Tree.cs]
   refine⟨le_max (by decide),aj (hS k (List.mem_of_getElem? yz)) ?_⟩;have h1:x.kids.take (i+1)=x.kids.take i++[k]:=by rw[List.take_add_one,yz];rfl
   have h2:=ov x.kids i;have h3:=qH (x.kids.take i);have h4:=nR (x.kids.take i);have h5:=lY _ _ _ yz;have h6:=k.qG
   have hc:IntKind.i64.wrap (((aY (x.kids.take i)+1:Nat):Int)+(k.dP:Int))=((aY (x.kids.take (i+1))+1:Nat):Int):=by
    rw[wrap64 (by omega) (by unfold B at hk;omega),h1,c7];simp[aY];omega
   have hd:(if(k.dep:Int)>(eI (x.kids.take i):Int) then(k.dep:Int) else(eI (x.kids.take i):Int))=(eI (x.kids.take (i+1)):Int):=by
    rw[h1,lZ];simp only[eI];split<;>omega
   simp only[↓dY,dZ,bK,↓al,aa,ev,bE,List.getD_cons_zero,List.getD_cons_succ,Nat.reduceEqDiff,if_false,if_true,Nat.reduceLT,Nat.reduceLeDiff,Nat.reduceAdd,Nat.reduceMul,true_and,and_true,List.length_map,br,AV.cells,List.length_cons,List.length_nil,ae,Lb.loc.injEq,↓an,↓az,↓aq,↓aK,↓aI,↓aJ,aN,aE,dO,List.getElem?_cons_zero,List.getElem?_cons_succ,Option.bind_some,Option.map_some,List.map_cons,List.map_nil,Int.natCast_nonneg,Int.toNat_natCast,AV.dk,AV.one,List.all_cons,List.all_nil,Bool.and_self,Bool.and_true,Bool.true_and,List.take_succ_cons,List.take_zero,List.drop_succ_cons,List.drop_zero,List.cons_append,List.nil_append,List.append_nil,List.set_cons_zero,IV.b7,Lb.app,Lb.fresh,aw,ax,ay,ak,reduceCtorEq,Bool.false_eq_true,List.take,List.drop,List.mem_cons,List.not_mem_nil,or_false,bp,bJ,forall_eq,false_implies,implies_true,ev,Hp.none,Nat.le_refl,List.set_cons_succ,aQ,chunks,dj,AV.iv,dF,List.replicate_one,List.flatten_cons,List.flatten_nil,Nat.zero_mul,Nat.zero_add,Nat.mul_one,hw,hc,hd]
   refine⟨⟨i+1,bz⟩,by simp only;omega,id,.drop ?_ ?_ (fJ (fJ jD))⟩
   ·exact aZ rfl (aZ rfl (aZ rfl (aZ rfl (aZ rfl (eF _ _)))))
   ·exact a6 (by simp[AV.ar]) (a6 (by simp[AV.ar]) (a6 (by simp[AV.ar]) (a6 (by simp[AV.ar]) (a6 (by simp[AV.ar]) (eG _)))))
  ·rw[show decide ((i:Int)<(x.kids.length:Int))=false by simpa using bz];have h1:x.kids.take i=x.kids:=List.take_of_length_le (by omega);have h4:=nR x.kids;have hd:IntKind.i64.wrap ((eI x.kids:Int)+1)=(x.dep:Int):=by rw[wrap64 (by omega) (by unfold B at hk;omega),x.ki];omega
   simp only[↓dY,dZ,bK,↓al,aa,ev,bE,List.getD_cons_zero,List.getD_cons_succ,Nat.reduceEqDiff,if_false,if_true,Nat.reduceLT,Nat.reduceLeDiff,Nat.reduceAdd,Nat.reduceMul,true_and,and_true,List.length_map,br,AV.cells,List.length_cons,List.length_nil,ae,Lb.loc.injEq,↓an,↓az,↓aq,↓aK,↓aI,↓aJ,aN,aE,dO,List.getElem?_cons_zero,List.getElem?_cons_succ,Option.bind_some,Option.map_some,List.map_cons,List.map_nil,Int.natCast_nonneg,Int.toNat_natCast,AV.dk,AV.one,List.all_cons,List.all_nil,Bool.and_self,Bool.and_true,Bool.true_and,List.take_succ_cons,List.take_zero,List.drop_succ_cons,List.drop_zero,List.cons_append,List.nil_append,List.append_nil,List.set_cons_zero,IV.b7,Lb.app,Lb.fresh,aw,ax,ay,ak,reduceCtorEq,Bool.false_eq_true,List.take,List.drop,List.mem_cons,List.not_mem_nil,or_false,bp,bJ,forall_eq,false_implies,implies_true,ev,Hp.none,Nat.le_refl,List.set_cons_succ,aQ,chunks,dj,AV.iv,dF,List.replicate_one,List.flatten_cons,List.flatten_nil,Nat.zero_mul,Nat.zero_add,Nat.mul_one,↓df,h1,hd,x.ft]
end Go.Am
