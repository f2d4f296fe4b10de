import Derived.Test.YtfinkeaikbmpgaaGreatDoorKAm25
set_option linter.unusedSimpArgs false
set_option linter.unusedVariables false
set_option linter.unnecessarySimpa false
set_option linter.defProp false
/- Trees: are they the same? -/
namespace Go.Am
open Go Go.RowKit
open Classical in
noncomputable def qC {α:Type} (x y:α):Bool:=decide (x=y)
theorem kg {α:Type} (x:α):qC x x=true:=by simp[qC]
theorem kh {α:Type} {x y:α} (h:x≠y):qC x y=false:=by simp[qC,h]
theorem qD {α:Type} {x y:α}:qC x y=true↔x=y:=by simp[qC]
theorem Attr.ext {x y:Attr} (h1:x.name=y.name) (h2:x.val=y.val):x=y:=by cases x;cases y;simp_all
theorem Tree.ext {x y:Tree} (h1:x.text=y.text) (h2:x.s=y.s) (h3:x.attrs=y.attrs) (h4:x.kids=y.kids):x=y:=by
 cases x;cases y;simp_all[Tree.text,Tree.s,Tree.attrs,Tree.kids]
def ll:AC:=
(.seq
 (.au [
  ⟨some 4,none,.af (.c (.bool false))⟩])
(.seq
 (.seq
  (.au [
   ⟨some 6,none,.af (.t 0)⟩,
   ⟨some 7,none,.len (.t 6)⟩,
   ⟨some 8,none,.af (.t 1)⟩,
   ⟨some 9,none,.len (.t 8)⟩,
   ⟨some 10,none,.bin .neq (.t 7) (.t 9)⟩])
 (.cond (.t 10)
  (.seq
   (.au [
    ⟨some 4,none,.af (.c (.bool false))⟩])
  .ret)
  .skip))
(.seq
 (.seq
  (.au [
   ⟨some 11,none,.af (.t 0)⟩,
   ⟨some 12,none,.len (.t 11)⟩,
   ⟨some 13,none,.af (.c (.int .i64 0))⟩])
 (.block 0
  (.loop
   (.seq
    (.au [
     ⟨some 14,none,.bin .lss (.t 13) (.t 12)⟩])
   (.seq
    (.cond (.t 14)
     .skip
     (.exit 0))
   (.seq
    (.block 1
     (.seq
      (.au [
       ⟨some 15,none,.af (.t 13)⟩,
       ⟨some 5,none,.af (.t 15)⟩])
     (.seq
      (.fY [
       ⟨some 16,none,.af (.t 0)⟩,
       ⟨some 17,none,.af (.t 5)⟩,
       ⟨some 18,none,.fH (.t 16) (.t 17) 2⟩,
       ⟨some 19,none,.load (some 2) (.t 18)⟩,
       ⟨some 20,none,.af (.t 1)⟩,
       ⟨some 21,none,.af (.t 5)⟩,
       ⟨some 22,none,.fH (.t 20) (.t 21) 2⟩,
       ⟨some 23,none,.load (some 2) (.t 22)⟩,
       ⟨some 24,none,.ny true [.s,.s] (.t 19) (.t 23)⟩]
       [[],[],[0,1],[2],[],[],[4,5],[6],[3,7]]
       [.no,.no,.no,.no,.no,.no,.no,.no,.no])
     (.cond (.t 24)
      (.seq
       (.au [
        ⟨some 4,none,.af (.c (.bool false))⟩])
      .ret)
      .skip))))
   (.au [
    ⟨some 25,none,.bin .add (.t 13) (.c (.int .i64 1))⟩,
    ⟨some 13,none,.af (.t 25)⟩])))))))
(.seq
 (.au [
  ⟨some 4,none,.af (.c (.bool true))⟩])
.ret))))
def Ct (xs ys:List IV) (i:Nat):Env:=
 put (put (put (put Env.any 0 (.list xs)) 1 (.list ys)) 12 (.int .i64 xs.length)) 13 (.int .i64 i)
theorem tM {P:Program} {G:Nat→Option (List IV)} {f:Nat} (hF:aB P G f=some (26,[(none,4)],ll.bare)) (xs ys:List Attr) (hx:xs.length≤B) :
  ai P G f [.list (eh xs),.list (eh ys)] (.bool (qC xs ys)):=by
 refine aC hF (by simp) (by simp[ah,AV.ar]) (by simp[AV.ar]) ?_;unfold ll
 simp only[↓dY,dZ,bK,↓al,aa,ev,bE,List.getD_cons_zero,List.getD_cons_succ,Nat.reduceEqDiff,if_false,if_true,Nat.reduceLT,Nat.reduceLeDiff,Nat.reduceAdd,Nat.reduceMul,true_and,and_true,List.length_map,br,AV.cells,List.length_cons,List.length_nil,ae,Lb.loc.injEq,↓an,↓az,↓aq,↓aK,↓aI,↓aJ,aN,aE,dO,List.getElem?_cons_zero,List.getElem?_cons_succ,Option.bind_some,Option.map_some,List.map_cons,List.map_nil,Int.natCast_nonneg,Int.toNat_natCast,AV.dk,AV.one,List.all_cons,List.all_nil,Bool.and_self,Bool.and_true,Bool.true_and,List.take_succ_cons,List.take_zero,List.drop_succ_cons,List.drop_zero,List.cons_append,List.nil_append,List.append_nil,List.set_cons_zero,IV.b7,Lb.app,Lb.fresh,aw,ax,ay,ak,reduceCtorEq,Bool.false_eq_true,List.take,List.drop,List.mem_cons,List.not_mem_nil,or_false,bp,bJ,forall_eq,false_implies,implies_true,ev,Hp.none,Nat.le_refl,List.set_cons_succ,aQ,chunks,dj,AV.iv,dF,List.replicate_one,List.flatten_cons,List.flatten_nil,Nat.zero_mul,Nat.zero_add,Nat.mul_one,de]
 by_cases hl:xs.length=ys.length
 ·rw[show((xs.length:Int) !=(ys.length:Int))=false by simp[hl]]
  simp only[↓dY,dZ,bK,↓al,aa,ev,bE,List.getD_cons_zero,List.getD_cons_succ,Nat.reduceEqDiff,if_false,if_true,Nat.reduceLT,Nat.reduceLeDiff,Nat.reduceAdd,Nat.reduceMul,true_and,and_true,List.length_map,br,AV.cells,List.length_cons,List.length_nil,ae,Lb.loc.injEq,↓an,↓az,↓aq,↓aK,↓aI,↓aJ,aN,aE,dO,List.getElem?_cons_zero,List.getElem?_cons_succ,Option.bind_some,Option.map_some,List.map_cons,List.map_nil,Int.natCast_nonneg,Int.toNat_natCast,AV.dk,AV.one,List.all_cons,List.all_nil,Bool.and_self,Bool.and_true,Bool.true_and,List.take_succ_cons,List.take_zero,List.drop_succ_cons,List.drop_zero,List.cons_append,List.nil_append,List.append_nil,List.set_cons_zero,IV.b7,Lb.app,Lb.fresh,aw,ax,ay,ak,reduceCtorEq,Bool.false_eq_true,List.take,List.drop,List.mem_cons,List.not_mem_nil,or_false,bp,bJ,forall_eq,false_implies,implies_true,ev,Hp.none,Nat.le_refl,List.set_cons_succ,aQ,chunks,dj,AV.iv,dF,List.replicate_one,List.flatten_cons,List.flatten_nil,Nat.zero_mul,Nat.zero_add,Nat.mul_one,de]
  refine gk (σ:={i:Nat // i≤xs.length∧∀j,j<i→xs[j]?=ys[j]?}) (fun s=>Ct (eh xs) (eh ys) s.1) (fun _=>Hp.none) (fun s=>xs.length - s.1) ⟨0,by simp⟩ id ?_ ?_
  ·refine .none ?_ ?_
   ·exact aZ rfl (aZ (by simp[oc,de,bQ]) (aZ rfl (aZ rfl (eF _ _))))
   ·exact a6 (by simp[AV.ar]) (a6 (by simp[AV.ar]) (a6 (by simp[AV.ar]) (a6 (by simp[AV.ar]) (eG _))))
  ·rintro⟨i,hi,hs⟩
   simp only[↓dY,dZ,bK,↓al,aa,ev,bE,List.getD_cons_zero,List.getD_cons_succ,Nat.reduceEqDiff,if_false,if_true,Nat.reduceLT,Nat.reduceLeDiff,Nat.reduceAdd,Nat.reduceMul,true_and,and_true,List.length_map,br,AV.cells,List.length_cons,List.length_nil,ae,Lb.loc.injEq,↓an,↓az,↓aq,↓aK,↓aI,↓aJ,aN,aE,dO,List.getElem?_cons_zero,List.getElem?_cons_succ,Option.bind_some,Option.map_some,List.map_cons,List.map_nil,Int.natCast_nonneg,Int.toNat_natCast,AV.dk,AV.one,List.all_cons,List.all_nil,Bool.and_self,Bool.and_true,Bool.true_and,List.take_succ_cons,List.take_zero,List.drop_succ_cons,List.drop_zero,List.cons_append,List.nil_append,List.append_nil,List.set_cons_zero,IV.b7,Lb.app,Lb.fresh,aw,ax,ay,ak,reduceCtorEq,Bool.false_eq_true,List.take,List.drop,List.mem_cons,List.not_mem_nil,or_false,bp,bJ,forall_eq,false_implies,implies_true,ev,Hp.none,Nat.le_refl,List.set_cons_succ,aQ,chunks,dj,AV.iv,dF,List.replicate_one,List.flatten_cons,List.flatten_nil,Nat.zero_mul,Nat.zero_add,Nat.mul_one,Ct,de]
   by_cases bz:i<xs.length
   ·rw[show decide ((i:Int)<(xs.length:Int))=true by simpa using bz];obtain⟨x,rl⟩:∃x,xs[i]?=some x:=⟨_,List.getElem?_eq_getElem bz⟩;obtain⟨y,s7⟩:∃y,ys[i]?=some y:=⟨_,List.getElem?_eq_getElem (hl▸bz)⟩
    simp only[↓dY,dZ,bK,↓al,aa,ev,bE,List.getD_cons_zero,List.getD_cons_succ,Nat.reduceEqDiff,if_false,if_true,Nat.reduceLT,Nat.reduceLeDiff,Nat.reduceAdd,Nat.reduceMul,true_and,and_true,List.length_map,br,AV.cells,List.length_cons,List.length_nil,ae,Lb.loc.injEq,↓an,↓az,↓aq,↓aK,↓aI,↓aJ,aN,aE,dO,List.getElem?_cons_zero,List.getElem?_cons_succ,Option.bind_some,Option.map_some,List.map_cons,List.map_nil,Int.natCast_nonneg,Int.toNat_natCast,AV.dk,AV.one,List.all_cons,List.all_nil,Bool.and_self,Bool.and_true,Bool.true_and,List.take_succ_cons,List.take_zero,List.drop_succ_cons,List.drop_zero,List.cons_append,List.nil_append,List.append_nil,List.set_cons_zero,IV.b7,Lb.app,Lb.fresh,aw,ax,ay,ak,reduceCtorEq,Bool.false_eq_true,List.take,List.drop,List.mem_cons,List.not_mem_nil,or_false,bp,bJ,forall_eq,false_implies,implies_true,ev,Hp.none,Nat.le_refl,List.set_cons_succ,aQ,chunks,dj,AV.iv,dF,List.replicate_one,List.flatten_cons,List.flatten_nil,Nat.zero_mul,Nat.zero_add,Nat.mul_one,nN,rl,s7,nc,Attr.aU,Attr.cs,eqs,Ha]
    refine⟨rfl,?_⟩;by_cases Av:x=y
    ·subst Av;have hw:IntKind.i64.wrap ((i:Int)+1)=((i+1:Nat):Int):=wrap64 (by omega) (by unfold B at hx;omega);rw[show(true ^^ (x.name==x.name&&x.val==x.val))=false by simp]
     simp only[↓dY,dZ,bK,↓al,aa,ev,bE,List.getD_cons_zero,List.getD_cons_succ,Nat.reduceEqDiff,if_false,if_true,Nat.reduceLT,Nat.reduceLeDiff,Nat.reduceAdd,Nat.reduceMul,true_and,and_true,List.length_map,br,AV.cells,List.length_cons,List.length_nil,ae,Lb.loc.injEq,↓an,↓az,↓aq,↓aK,↓aI,↓aJ,aN,aE,dO,List.getElem?_cons_zero,List.getElem?_cons_succ,Option.bind_some,Option.map_some,List.map_cons,List.map_nil,Int.natCast_nonneg,Int.toNat_natCast,AV.dk,AV.one,List.all_cons,List.all_nil,Bool.and_self,Bool.and_true,Bool.true_and,List.take_succ_cons,List.take_zero,List.drop_succ_cons,List.drop_zero,List.cons_append,List.nil_append,List.append_nil,List.set_cons_zero,IV.b7,Lb.app,Lb.fresh,aw,ax,ay,ak,reduceCtorEq,Bool.false_eq_true,List.take,List.drop,List.mem_cons,List.not_mem_nil,or_false,bp,bJ,forall_eq,false_implies,implies_true,ev,Hp.none,Nat.le_refl,List.set_cons_succ,aQ,chunks,dj,AV.iv,dF,List.replicate_one,List.flatten_cons,List.flatten_nil,Nat.zero_mul,Nat.zero_add,Nat.mul_one,hw]
     refine⟨⟨i+1,bz,fun j hj=> ?_⟩,by simp only;omega,id,.none ?_ ?_⟩
     ·by_cases e:j=i
      ·rw[e,rl,s7]
      ·exact hs j (by omega)
     ·exact aZ rfl (aZ (by simp[oc,de,bQ]) (aZ rfl (aZ rfl (eF _ _))))
     ·exact a6 (by simp[AV.ar]) (a6 (by simp[AV.ar]) (a6 (by simp[AV.ar]) (a6 (by simp[AV.ar]) (eG _))))
    ·have eg:xs≠ys:=fun e=>Av (by rw[e,s7] at rl;cases rl;rfl)
     have ID:(true ^^ (x.name==y.name&&x.val==y.val))=true:=by
      simp only[Bool.true_xor,Bool.not_eq_true',Bool.and_eq_false_iff,beq_eq_false_iff_ne];by_cases e1:x.name=y.name
      ·exact .inr fun e2=>Av (Attr.ext e1 e2)
      ·exact .inl e1
     rw[ID]
     simp only[↓dY,dZ,bK,↓al,aa,ev,bE,List.getD_cons_zero,List.getD_cons_succ,Nat.reduceEqDiff,if_false,if_true,Nat.reduceLT,Nat.reduceLeDiff,Nat.reduceAdd,Nat.reduceMul,true_and,and_true,List.length_map,br,AV.cells,List.length_cons,List.length_nil,ae,Lb.loc.injEq,↓an,↓az,↓aq,↓aK,↓aI,↓aJ,aN,aE,dO,List.getElem?_cons_zero,List.getElem?_cons_succ,Option.bind_some,Option.map_some,List.map_cons,List.map_nil,Int.natCast_nonneg,Int.toNat_natCast,AV.dk,AV.one,List.all_cons,List.all_nil,Bool.and_self,Bool.and_true,Bool.true_and,List.take_succ_cons,List.take_zero,List.drop_succ_cons,List.drop_zero,List.cons_append,List.nil_append,List.append_nil,List.set_cons_zero,IV.b7,Lb.app,Lb.fresh,aw,ax,ay,ak,reduceCtorEq,Bool.false_eq_true,List.take,List.drop,List.mem_cons,List.not_mem_nil,or_false,bp,bJ,forall_eq,false_implies,implies_true,ev,Hp.none,Nat.le_refl,List.set_cons_succ,aQ,chunks,dj,AV.iv,dF,List.replicate_one,List.flatten_cons,List.flatten_nil,Nat.zero_mul,Nat.zero_add,Nat.mul_one,kh eg]
   ·rw[show decide ((i:Int)<(xs.length:Int))=false by simpa using bz]
    simp only[↓dY,dZ,bK,↓al,aa,ev,bE,List.getD_cons_zero,List.getD_cons_succ,Nat.reduceEqDiff,if_false,if_true,Nat.reduceLT,Nat.reduceLeDiff,Nat.reduceAdd,Nat.reduceMul,true_and,and_true,List.length_map,br,AV.cells,List.length_cons,List.length_nil,ae,Lb.loc.injEq,↓an,↓az,↓aq,↓aK,↓aI,↓aJ,aN,aE,dO,List.getElem?_cons_zero,List.getElem?_cons_succ,Option.bind_some,Option.map_some,List.map_cons,List.map_nil,Int.natCast_nonneg,Int.toNat_natCast,AV.dk,AV.one,List.all_cons,List.all_nil,Bool.and_self,Bool.and_true,Bool.true_and,List.take_succ_cons,List.take_zero,List.drop_succ_cons,List.drop_zero,List.cons_append,List.nil_append,List.append_nil,List.set_cons_zero,IV.b7,Lb.app,Lb.fresh,aw,ax,ay,ak,reduceCtorEq,Bool.false_eq_true,List.take,List.drop,List.mem_cons,List.not_mem_nil,or_false,bp,bJ,forall_eq,false_implies,implies_true,ev,Hp.none,Nat.le_refl,List.set_cons_succ,aQ,chunks,dj,AV.iv,dF,List.replicate_one,List.flatten_cons,List.flatten_nil,Nat.zero_mul,Nat.zero_add,Nat.mul_one]
    have:xs=ys:=List.ext_getElem? fun j=>by
     by_cases hj:j<i
     ·exact hs j hj
     ·rw[List.getElem?_eq_none (by omega),List.getElem?_eq_none (by omega)]
    rw[this,kg]
 ·rw[show((xs.length:Int) !=(ys.length:Int))=true by simp;omega];have:xs≠ys:=fun e=>hl (by rw[e])
  simp only[↓dY,dZ,bK,↓al,aa,ev,bE,List.getD_cons_zero,List.getD_cons_succ,Nat.reduceEqDiff,if_false,if_true,Nat.reduceLT,Nat.reduceLeDiff,Nat.reduceAdd,Nat.reduceMul,true_and,and_true,List.length_map,br,AV.cells,List.length_cons,List.length_nil,ae,Lb.loc.injEq,↓an,↓az,↓aq,↓aK,↓aI,↓aJ,aN,aE,dO,List.getElem?_cons_zero,List.getElem?_cons_succ,Option.bind_some,Option.map_some,List.map_cons,List.map_nil,Int.natCast_nonneg,Int.toNat_natCast,AV.dk,AV.one,List.all_cons,List.all_nil,Bool.and_self,Bool.and_true,Bool.true_and,List.take_succ_cons,List.take_zero,List.drop_succ_cons,List.drop_zero,List.cons_append,List.nil_append,List.append_nil,List.set_cons_zero,IV.b7,Lb.app,Lb.fresh,aw,ax,ay,ak,reduceCtorEq,Bool.false_eq_true,List.take,List.drop,List.mem_cons,List.not_mem_nil,or_false,bp,bJ,forall_eq,false_implies,implies_true,ev,Hp.none,Nat.le_refl,List.set_cons_succ,aQ,chunks,dj,AV.iv,dF,List.replicate_one,List.flatten_cons,List.flatten_nil,Nat.zero_mul,Nat.zero_add,Nat.mul_one,kh this]
end Go.Am

/- Texts and names that are good. -/
namespace Go.Am
open Go Go.RowKit
def ep (c:UInt8):Bool:= !((((c.toNat:Int) !=10))&&(decide ((c.toNat:Int)<32)||decide ((c.toNat:Int)>126)))
def plain (s:Bs):Bool:=s.all ep&&decide ((s.length:Int)≤40)
def oj:AC:=
(.seq
 (.au [
  ⟨some 2,none,.af (.c (.bool false))⟩])
(.seq
 (.seq
  (.au [
   ⟨some 4,none,.af (.t 0)⟩,
   ⟨some 5,none,.lens (.t 4)⟩,
   ⟨some 6,none,.af (.c (.int .i64 0))⟩])
 (.block 0
  (.loop
   (.seq
    (.au [
     ⟨some 7,none,.bin .lss (.t 6) (.t 5)⟩])
   (.seq
    (.cond (.t 7)
     .skip
     (.exit 0))
   (.seq
    (.block 1
     (.seq
      (.au [
       ⟨some 8,none,.af (.t 6)⟩,
       ⟨some 3,none,.af (.t 8)⟩])
     (.seq
      (.au [
       ⟨some 9,none,.af (.t 0)⟩,
       ⟨some 10,none,.af (.t 3)⟩,
       ⟨some 11,none,.mR (.t 9) (.t 10)⟩,
       ⟨some 12,none,.bin .neq (.t 11) (.c (.int .u8 10))⟩,
       ⟨some 13,none,.af (.t 12)⟩,
       ⟨some 14,(some (13,true)),(.af (.t 0))⟩,
       ⟨some 15,(some (13,true)),(.af (.t 3))⟩,
       ⟨some 16,(some (13,true)),(.mR (.t 14) (.t 15))⟩,
       ⟨some 17,(some (13,true)),(.bin .lss (.t 16) (.c (.int .u8 32)))⟩,
       ⟨some 18,(some (13,true)),(.af (.t 17))⟩,
       ⟨some 19,(some (18,false)),(.af (.t 0))⟩,
       ⟨some 20,(some (18,false)),(.af (.t 3))⟩,
       ⟨some 21,(some (18,false)),(.mR (.t 19) (.t 20))⟩,
       ⟨some 22,(some (18,false)),(.bin .gtr (.t 21) (.c (.int .u8 126)))⟩,
       ⟨some 23,(some (13,true)),(.pick (.t 18) (.c (.bool true)) (.t 22))⟩,
       ⟨some 24,none,.pick (.t 13) (.t 23) (.c (.bool false))⟩])
     (.cond (.t 24)
      (.seq
       (.au [
        ⟨some 2,none,.af (.c (.bool false))⟩])
      .ret)
      .skip))))
   (.au [
    ⟨some 25,none,.bin .add (.t 6) (.c (.int .i64 1))⟩,
    ⟨some 6,none,.af (.t 25)⟩])))))))
(.seq
 (.au [
  ⟨some 26,none,.af (.t 0)⟩,
  ⟨some 27,none,.lens (.t 26)⟩,
  ⟨some 28,none,.bin .leq (.t 27) (.c (.int .i64 40))⟩,
  ⟨some 2,none,.af (.t 28)⟩])
.ret)))
def qE (s:Bs) (i:Nat):Env:=put (put (put Env.any 0 (.str s)) 5 (.int .i64 s.length)) 6 (.int .i64 i)
theorem om {p:UInt8→Bool} {s:Bs} {i:Nat} {c:UInt8} (h:(s.take i).all p=true) (hc:s[i]?=some c) (hp:p c=true):(s.take (i+1)).all p=true:=by
 rw[List.take_add_one,hc];simp[h,hp]
theorem nQ {p:UInt8→Bool} {s:Bs} {i:Nat} {c:UInt8} (hc:s[i]?=some c) (hp:p c=false):s.all p=false:=by
 cases h:s.all p with
 |false=>rfl
 |true=>
  have:=List.all_eq_true.1 h c (List.mem_of_getElem? hc);rw[hp] at this;exact this.symm
theorem qF {P:Program} {G:Nat→Option (List IV)} {f:Nat} (hF:aB P G f=some (29,[(none,2)],oj.bare)) (s:Bs) (hx:s.length≤B) :
   ai P G f [.str s] (.bool (plain s)):=by
 refine aC hF (by simp) (by simp[ah,AV.ar]) (by simp[AV.ar]) ?_
 unfold oj
 simp only[↓dY,dZ,bK,↓al,aa,ev,bE,List.getD_cons_zero,List.getD_cons_succ,Nat.reduceEqDiff,if_false,if_true,Nat.reduceLT,Nat.reduceLeDiff,Nat.reduceAdd,Nat.reduceMul,true_and,and_true,List.length_map,br,AV.cells,List.length_cons,List.length_nil,ae,Lb.loc.injEq,↓an,↓az,↓aq,↓aK,↓aI,↓aJ,aN,aE,dO,List.getElem?_cons_zero,List.getElem?_cons_succ,Option.bind_some,Option.map_some,List.map_cons,List.map_nil,Int.natCast_nonneg,Int.toNat_natCast,AV.dk,AV.one,List.all_cons,List.all_nil,Bool.and_self,Bool.and_true,Bool.true_and,List.take_succ_cons,List.take_zero,List.drop_succ_cons,List.drop_zero,List.cons_append,List.nil_append,List.append_nil,List.set_cons_zero,IV.b7,Lb.app,Lb.fresh,aw,ax,ay,ak,reduceCtorEq,Bool.false_eq_true,List.take,List.drop,List.mem_cons,List.not_mem_nil,or_false,bp,bJ,forall_eq,false_implies,implies_true,ev,Hp.none,Nat.le_refl,List.set_cons_succ,aQ,chunks,dj,AV.iv,dF,List.replicate_one,List.flatten_cons,List.flatten_nil,Nat.zero_mul,Nat.zero_add,Nat.mul_one]
 refine gk (σ:={i:Nat // i≤s.length∧(s.take i).all ep=true}) (fun q=>qE s q.1) (fun _=>Hp.none) (fun q=>s.length - q.1) ⟨0,by simp⟩ id ?_ ?_
 · refine .none ?_ ?_
   · exact aZ rfl (aZ rfl (aZ rfl (eF _ _)))
   · exact a6 (by simp[AV.ar]) (a6 (by simp[AV.ar]) (a6 (by simp[AV.ar]) (eG _)))
 · rintro ⟨i,hi,hs⟩
   simp only[↓dY,dZ,bK,↓al,aa,ev,bE,List.getD_cons_zero,List.getD_cons_succ,Nat.reduceEqDiff,if_false,if_true,Nat.reduceLT,Nat.reduceLeDiff,Nat.reduceAdd,Nat.reduceMul,true_and,and_true,List.length_map,br,AV.cells,List.length_cons,List.length_nil,ae,Lb.loc.injEq,↓an,↓az,↓aq,↓aK,↓aI,↓aJ,aN,aE,dO,List.getElem?_cons_zero,List.getElem?_cons_succ,Option.bind_some,Option.map_some,List.map_cons,List.map_nil,Int.natCast_nonneg,Int.toNat_natCast,AV.dk,AV.one,List.all_cons,List.all_nil,Bool.and_self,Bool.and_true,Bool.true_and,List.take_succ_cons,List.take_zero,List.drop_succ_cons,List.drop_zero,List.cons_append,List.nil_append,List.append_nil,List.set_cons_zero,IV.b7,Lb.app,Lb.fresh,aw,ax,ay,ak,reduceCtorEq,Bool.false_eq_true,List.take,List.drop,List.mem_cons,List.not_mem_nil,or_false,bp,bJ,forall_eq,false_implies,implies_true,ev,Hp.none,Nat.le_refl,List.set_cons_succ,aQ,chunks,dj,AV.iv,dF,List.replicate_one,List.flatten_cons,List.flatten_nil,Nat.zero_mul,Nat.zero_add,Nat.mul_one,qE]
   by_cases bz:i<s.length
   · rw[show decide ((i:Int)<(s.length:Int))=true by simpa using bz]
     obtain⟨c,hc⟩:∃c,s[i]?=some c:=⟨_,List.getElem?_eq_getElem bz⟩
     have hw:IntKind.i64.wrap ((i:Int)+1)=((i+1:Nat):Int):=wrap64 (by omega) (by unfold B at hx;omega)
     have next:ep c=true→∃q:{i:Nat // i≤s.length∧(s.take i).all ep=true},q.1=i+1:=fun hp=>⟨⟨i+1,bz,om hs hc hp⟩,rfl⟩
     simp only[↓dY,dZ,bK,↓al,aa,ev,bE,List.getD_cons_zero,List.getD_cons_succ,Nat.reduceEqDiff,if_false,if_true,Nat.reduceLT,Nat.reduceLeDiff,Nat.reduceAdd,Nat.reduceMul,true_and,and_true,List.length_map,br,AV.cells,List.length_cons,List.length_nil,ae,Lb.loc.injEq,↓an,↓az,↓aq,↓aK,↓aI,↓aJ,aN,aE,dO,List.getElem?_cons_zero,List.getElem?_cons_succ,Option.bind_some,Option.map_some,List.map_cons,List.map_nil,Int.natCast_nonneg,Int.toNat_natCast,AV.dk,AV.one,List.all_cons,List.all_nil,Bool.and_self,Bool.and_true,Bool.true_and,List.take_succ_cons,List.take_zero,List.drop_succ_cons,List.drop_zero,List.cons_append,List.nil_append,List.append_nil,List.set_cons_zero,IV.b7,Lb.app,Lb.fresh,aw,ax,ay,ak,reduceCtorEq,Bool.false_eq_true,List.take,List.drop,List.mem_cons,List.not_mem_nil,or_false,bp,bJ,forall_eq,false_implies,implies_true,ev,Hp.none,Nat.le_refl,List.set_cons_succ,aQ,chunks,dj,AV.iv,dF,List.replicate_one,List.flatten_cons,List.flatten_nil,Nat.zero_mul,Nat.zero_add,Nat.mul_one,hc]
     cases h1:((c.toNat:Int) !=10) with
     |false=>
       obtain⟨q,hq⟩:=next (by simp[ep,h1])
       simp only[↓dY,dZ,bK,↓al,aa,ev,bE,List.getD_cons_zero,List.getD_cons_succ,Nat.reduceEqDiff,if_false,if_true,Nat.reduceLT,Nat.reduceLeDiff,Nat.reduceAdd,Nat.reduceMul,true_and,and_true,List.length_map,br,AV.cells,List.length_cons,List.length_nil,ae,Lb.loc.injEq,↓an,↓az,↓aq,↓aK,↓aI,↓aJ,aN,aE,dO,List.getElem?_cons_zero,List.getElem?_cons_succ,Option.bind_some,Option.map_some,List.map_cons,List.map_nil,Int.natCast_nonneg,Int.toNat_natCast,AV.dk,AV.one,List.all_cons,List.all_nil,Bool.and_self,Bool.and_true,Bool.true_and,List.take_succ_cons,List.take_zero,List.drop_succ_cons,List.drop_zero,List.cons_append,List.nil_append,List.append_nil,List.set_cons_zero,IV.b7,Lb.app,Lb.fresh,aw,ax,ay,ak,reduceCtorEq,Bool.false_eq_true,List.take,List.drop,List.mem_cons,List.not_mem_nil,or_false,bp,bJ,forall_eq,false_implies,implies_true,ev,Hp.none,Nat.le_refl,List.set_cons_succ,aQ,chunks,dj,AV.iv,dF,List.replicate_one,List.flatten_cons,List.flatten_nil,Nat.zero_mul,Nat.zero_add,Nat.mul_one,hc,hw]
       refine⟨q,by omega,id,.none ?_ ?_⟩
       · rw[hq];exact aZ rfl (aZ rfl (aZ rfl (eF _ _)))
       · exact a6 (by simp[AV.ar]) (a6 (by simp[AV.ar]) (a6 (by simp[AV.ar]) (eG _)))
     |true=>
       simp only[↓dY,dZ,bK,↓al,aa,ev,bE,List.getD_cons_zero,List.getD_cons_succ,Nat.reduceEqDiff,if_false,if_true,Nat.reduceLT,Nat.reduceLeDiff,Nat.reduceAdd,Nat.reduceMul,true_and,and_true,List.length_map,br,AV.cells,List.length_cons,List.length_nil,ae,Lb.loc.injEq,↓an,↓az,↓aq,↓aK,↓aI,↓aJ,aN,aE,dO,List.getElem?_cons_zero,List.getElem?_cons_succ,Option.bind_some,Option.map_some,List.map_cons,List.map_nil,Int.natCast_nonneg,Int.toNat_natCast,AV.dk,AV.one,List.all_cons,List.all_nil,Bool.and_self,Bool.and_true,Bool.true_and,List.take_succ_cons,List.take_zero,List.drop_succ_cons,List.drop_zero,List.cons_append,List.nil_append,List.append_nil,List.set_cons_zero,IV.b7,Lb.app,Lb.fresh,aw,ax,ay,ak,reduceCtorEq,Bool.false_eq_true,List.take,List.drop,List.mem_cons,List.not_mem_nil,or_false,bp,bJ,forall_eq,false_implies,implies_true,ev,Hp.none,Nat.le_refl,List.set_cons_succ,aQ,chunks,dj,AV.iv,dF,List.replicate_one,List.flatten_cons,List.flatten_nil,Nat.zero_mul,Nat.zero_add,Nat.mul_one,hc]
       cases h2:decide ((c.toNat:Int)<32) with
       |true=>
         simp only[↓dY,dZ,bK,↓al,aa,ev,bE,List.getD_cons_zero,List.getD_cons_succ,Nat.reduceEqDiff,if_false,if_true,Nat.reduceLT,Nat.reduceLeDiff,Nat.reduceAdd,Nat.reduceMul,true_and,and_true,List.length_map,br,AV.cells,List.length_cons,List.length_nil,ae,Lb.loc.injEq,↓an,↓az,↓aq,↓aK,↓aI,↓aJ,aN,aE,dO,List.getElem?_cons_zero,List.getElem?_cons_succ,Option.bind_some,Option.map_some,List.map_cons,List.map_nil,Int.natCast_nonneg,Int.toNat_natCast,AV.dk,AV.one,List.all_cons,List.all_nil,Bool.and_self,Bool.and_true,Bool.true_and,List.take_succ_cons,List.take_zero,List.drop_succ_cons,List.drop_zero,List.cons_append,List.nil_append,List.append_nil,List.set_cons_zero,IV.b7,Lb.app,Lb.fresh,aw,ax,ay,ak,reduceCtorEq,Bool.false_eq_true,List.take,List.drop,List.mem_cons,List.not_mem_nil,or_false,bp,bJ,forall_eq,false_implies,implies_true,ev,Hp.none,Nat.le_refl,List.set_cons_succ,aQ,chunks,dj,AV.iv,dF,List.replicate_one,List.flatten_cons,List.flatten_nil,Nat.zero_mul,Nat.zero_add,Nat.mul_one,hc]
         rw[plain,nQ hc (by simp[ep,h1,h2])];rfl
       |false=>
         simp only[↓dY,dZ,bK,↓al,aa,ev,bE,List.getD_cons_zero,List.getD_cons_succ,Nat.reduceEqDiff,if_false,if_true,Nat.reduceLT,Nat.reduceLeDiff,Nat.reduceAdd,Nat.reduceMul,true_and,and_true,List.length_map,br,AV.cells,List.length_cons,List.length_nil,ae,Lb.loc.injEq,↓an,↓az,↓aq,↓aK,↓aI,↓aJ,aN,aE,dO,List.getElem?_cons_zero,List.getElem?_cons_succ,Option.bind_some,Option.map_some,List.map_cons,List.map_nil,Int.natCast_nonneg,Int.toNat_natCast,AV.dk,AV.one,List.all_cons,List.all_nil,Bool.and_self,Bool.and_true,Bool.true_and,List.take_succ_cons,List.take_zero,List.drop_succ_cons,List.drop_zero,List.cons_append,List.nil_append,List.append_nil,List.set_cons_zero,IV.b7,Lb.app,Lb.fresh,aw,ax,ay,ak,reduceCtorEq,Bool.false_eq_true,List.take,List.drop,List.mem_cons,List.not_mem_nil,or_false,bp,bJ,forall_eq,false_implies,implies_true,ev,Hp.none,Nat.le_refl,List.set_cons_succ,aQ,chunks,dj,AV.iv,dF,List.replicate_one,List.flatten_cons,List.flatten_nil,Nat.zero_mul,Nat.zero_add,Nat.mul_one,hc]
         cases h3:decide ((c.toNat:Int)>126) with
         |true=>
           simp only[↓dY,dZ,bK,↓al,aa,ev,bE,List.getD_cons_zero,List.getD_cons_succ,Nat.reduceEqDiff,if_false,if_true,Nat.reduceLT,Nat.reduceLeDiff,Nat.reduceAdd,Nat.reduceMul,true_and,and_true,List.length_map,br,AV.cells,List.length_cons,List.length_nil,ae,Lb.loc.injEq,↓an,↓az,↓aq,↓aK,↓aI,↓aJ,aN,aE,dO,List.getElem?_cons_zero,List.getElem?_cons_succ,Option.bind_some,Option.map_some,List.map_cons,List.map_nil,Int.natCast_nonneg,Int.toNat_natCast,AV.dk,AV.one,List.all_cons,List.all_nil,Bool.and_self,Bool.and_true,Bool.true_and,List.take_succ_cons,List.take_zero,List.drop_succ_cons,List.drop_zero,List.cons_append,List.nil_append,List.append_nil,List.set_cons_zero,IV.b7,Lb.app,Lb.fresh,aw,ax,ay,ak,reduceCtorEq,Bool.false_eq_true,List.take,List.drop,List.mem_cons,List.not_mem_nil,or_false,bp,bJ,forall_eq,false_implies,implies_true,ev,Hp.none,Nat.le_refl,List.set_cons_succ,aQ,chunks,dj,AV.iv,dF,List.replicate_one,List.flatten_cons,List.flatten_nil,Nat.zero_mul,Nat.zero_add,Nat.mul_one,hc]
           rw[plain,nQ hc (by simp[ep,h1,h2,h3])];rfl
         |false=>
           obtain⟨q,hq⟩:=next (by simp[ep,h1,h2,h3])
           simp only[↓dY,dZ,bK,↓al,aa,ev,bE,List.getD_cons_zero,List.getD_cons_succ,Nat.reduceEqDiff,if_false,if_true,Nat.reduceLT,Nat.reduceLeDiff,Nat.reduceAdd,Nat.reduceMul,true_and,and_true,List.length_map,br,AV.cells,List.length_cons,List.length_nil,ae,Lb.loc.injEq,↓an,↓az,↓aq,↓aK,↓aI,↓aJ,aN,aE,dO,List.getElem?_cons_zero,List.getElem?_cons_succ,Option.bind_some,Option.map_some,List.map_cons,List.map_nil,Int.natCast_nonneg,Int.toNat_natCast,AV.dk,AV.one,List.all_cons,List.all_nil,Bool.and_self,Bool.and_true,Bool.true_and,List.take_succ_cons,List.take_zero,List.drop_succ_cons,List.drop_zero,List.cons_append,List.nil_append,List.append_nil,List.set_cons_zero,IV.b7,Lb.app,Lb.fresh,aw,ax,ay,ak,reduceCtorEq,Bool.false_eq_true,List.take,List.drop,List.mem_cons,List.not_mem_nil,or_false,bp,bJ,forall_eq,false_implies,implies_true,ev,Hp.none,Nat.le_refl,List.set_cons_succ,aQ,chunks,dj,AV.iv,dF,List.replicate_one,List.flatten_cons,List.flatten_nil,Nat.zero_mul,Nat.zero_add,Nat.mul_one,hc,hw]
           refine⟨q,by omega,id,.none ?_ ?_⟩
           · rw[hq];exact aZ rfl (aZ rfl (aZ rfl (eF _ _)))
           · exact a6 (by simp[AV.ar]) (a6 (by simp[AV.ar]) (a6 (by simp[AV.ar]) (eG _)))
   · rw[show decide ((i:Int)<(s.length:Int))=false by simpa using bz]
     simp only[↓dY,dZ,bK,↓al,aa,ev,bE,List.getD_cons_zero,List.getD_cons_succ,Nat.reduceEqDiff,if_false,if_true,Nat.reduceLT,Nat.reduceLeDiff,Nat.reduceAdd,Nat.reduceMul,true_and,and_true,List.length_map,br,AV.cells,List.length_cons,List.length_nil,ae,Lb.loc.injEq,↓an,↓az,↓aq,↓aK,↓aI,↓aJ,aN,aE,dO,List.getElem?_cons_zero,List.getElem?_cons_succ,Option.bind_some,Option.map_some,List.map_cons,List.map_nil,Int.natCast_nonneg,Int.toNat_natCast,AV.dk,AV.one,List.all_cons,List.all_nil,Bool.and_self,Bool.and_true,Bool.true_and,List.take_succ_cons,List.take_zero,List.drop_succ_cons,List.drop_zero,List.cons_append,List.nil_append,List.append_nil,List.set_cons_zero,IV.b7,Lb.app,Lb.fresh,aw,ax,ay,ak,reduceCtorEq,Bool.false_eq_true,List.take,List.drop,List.mem_cons,List.not_mem_nil,or_false,bp,bJ,forall_eq,false_implies,implies_true,ev,Hp.none,Nat.le_refl,List.set_cons_succ,aQ,chunks,dj,AV.iv,dF,List.replicate_one,List.flatten_cons,List.flatten_nil,Nat.zero_mul,Nat.zero_add,Nat.mul_one]
     have:s.take i=s:=List.take_of_length_le (by omega)
     rw[plain,←this,hs,this];rfl
def jl (c:UInt8):Bool:= !(decide ((c.toNat:Int)<97)||decide ((c.toNat:Int)>122))
def named (s:Bs):Bool:=s.all jl&&(decide ((s.length:Int)≥1)&&decide ((s.length:Int)≤8))
def oo:AC:=
(.seq
 (.au [
  ⟨some 2,none,.af (.c (.bool false))⟩])
(.seq
 (.seq
  (.au [
   ⟨some 4,none,.af (.t 0)⟩,
   ⟨some 5,none,.lens (.t 4)⟩,
   ⟨some 6,none,.af (.c (.int .i64 0))⟩])
 (.block 0
  (.loop
   (.seq
    (.au [
     ⟨some 7,none,.bin .lss (.t 6) (.t 5)⟩])
   (.seq
    (.cond (.t 7)
     .skip
     (.exit 0))
   (.seq
    (.block 1
     (.seq
      (.au [
       ⟨some 8,none,.af (.t 6)⟩,
       ⟨some 3,none,.af (.t 8)⟩])
     (.seq
      (.au [
       ⟨some 9,none,.af (.t 0)⟩,
       ⟨some 10,none,.af (.t 3)⟩,
       ⟨some 11,none,.mR (.t 9) (.t 10)⟩,
       ⟨some 12,none,.bin .lss (.t 11) (.c (.int .u8 97))⟩,
       ⟨some 13,none,.af (.t 12)⟩,
       ⟨some 14,(some (13,false)),(.af (.t 0))⟩,
       ⟨some 15,(some (13,false)),(.af (.t 3))⟩,
       ⟨some 16,(some (13,false)),(.mR (.t 14) (.t 15))⟩,
       ⟨some 17,(some (13,false)),(.bin .gtr (.t 16) (.c (.int .u8 122)))⟩,
       ⟨some 18,none,.pick (.t 13) (.c (.bool true)) (.t 17)⟩])
     (.cond (.t 18)
      (.seq
       (.au [
        ⟨some 2,none,.af (.c (.bool false))⟩])
      .ret)
      .skip))))
   (.au [
    ⟨some 19,none,.bin .add (.t 6) (.c (.int .i64 1))⟩,
    ⟨some 6,none,.af (.t 19)⟩])))))))
(.seq
 (.au [
  ⟨some 20,none,.af (.t 0)⟩,
  ⟨some 21,none,.lens (.t 20)⟩,
  ⟨some 22,none,.bin .geq (.t 21) (.c (.int .i64 1))⟩,
  ⟨some 23,none,.af (.t 22)⟩,
  ⟨some 24,(some (23,true)),(.af (.t 0))⟩,
  ⟨some 25,(some (23,true)),(.lens (.t 24))⟩,
  ⟨some 26,(some (23,true)),(.bin .leq (.t 25) (.c (.int .i64 8)))⟩,
  ⟨some 27,none,.pick (.t 23) (.t 26) (.c (.bool false))⟩,
  ⟨some 2,none,.af (.t 27)⟩])
.ret)))
theorem oq {P:Program} {G:Nat→Option (List IV)} {f:Nat} (hF:aB P G f=some (28,[(none,2)],oo.bare)) (s:Bs) (hx:s.length≤B) :
  ai P G f [.str s] (.bool (named s)):=by
 refine aC hF (by simp) (by simp[ah,AV.ar]) (by simp[AV.ar]) ?_;unfold oo
 simp only[↓dY,dZ,bK,↓al,aa,ev,bE,List.getD_cons_zero,List.getD_cons_succ,Nat.reduceEqDiff,if_false,if_true,Nat.reduceLT,Nat.reduceLeDiff,Nat.reduceAdd,Nat.reduceMul,true_and,and_true,List.length_map,br,AV.cells,List.length_cons,List.length_nil,ae,Lb.loc.injEq,↓an,↓az,↓aq,↓aK,↓aI,↓aJ,aN,aE,dO,List.getElem?_cons_zero,List.getElem?_cons_succ,Option.bind_some,Option.map_some,List.map_cons,List.map_nil,Int.natCast_nonneg,Int.toNat_natCast,AV.dk,AV.one,List.all_cons,List.all_nil,Bool.and_self,Bool.and_true,Bool.true_and,List.take_succ_cons,List.take_zero,List.drop_succ_cons,List.drop_zero,List.cons_append,List.nil_append,List.append_nil,List.set_cons_zero,IV.b7,Lb.app,Lb.fresh,aw,ax,ay,ak,reduceCtorEq,Bool.false_eq_true,List.take,List.drop,List.mem_cons,List.not_mem_nil,or_false,bp,bJ,forall_eq,false_implies,implies_true,ev,Hp.none,Nat.le_refl,List.set_cons_succ,aQ,chunks,dj,AV.iv,dF,List.replicate_one,List.flatten_cons,List.flatten_nil,Nat.zero_mul,Nat.zero_add,Nat.mul_one]
 refine gk (σ:={i:Nat // i≤s.length∧(s.take i).all jl=true}) (fun q=>qE s q.1) (fun _=>Hp.none) (fun q=>s.length - q.1) ⟨0,by simp⟩ id ?_ ?_
 ·refine .none ?_ ?_
  ·exact aZ rfl (aZ rfl (aZ rfl (eF _ _)))
  ·exact a6 (by simp[AV.ar]) (a6 (by simp[AV.ar]) (a6 (by simp[AV.ar]) (eG _)))
 ·rintro⟨i,hi,hs⟩
  simp only[↓dY,dZ,bK,↓al,aa,ev,bE,List.getD_cons_zero,List.getD_cons_succ,Nat.reduceEqDiff,if_false,if_true,Nat.reduceLT,Nat.reduceLeDiff,Nat.reduceAdd,Nat.reduceMul,true_and,and_true,List.length_map,br,AV.cells,List.length_cons,List.length_nil,ae,Lb.loc.injEq,↓an,↓az,↓aq,↓aK,↓aI,↓aJ,aN,aE,dO,List.getElem?_cons_zero,List.getElem?_cons_succ,Option.bind_some,Option.map_some,List.map_cons,List.map_nil,Int.natCast_nonneg,Int.toNat_natCast,AV.dk,AV.one,List.all_cons,List.all_nil,Bool.and_self,Bool.and_true,Bool.true_and,List.take_succ_cons,List.take_zero,List.drop_succ_cons,List.drop_zero,List.cons_append,List.nil_append,List.append_nil,List.set_cons_zero,IV.b7,Lb.app,Lb.fresh,aw,ax,ay,ak,reduceCtorEq,Bool.false_eq_true,List.take,List.drop,List.mem_cons,List.not_mem_nil,or_false,bp,bJ,forall_eq,false_implies,implies_true,ev,Hp.none,Nat.le_refl,List.set_cons_succ,aQ,chunks,dj,AV.iv,dF,List.replicate_one,List.flatten_cons,List.flatten_nil,Nat.zero_mul,Nat.zero_add,Nat.mul_one,qE]
  by_cases bz:i<s.length
  ·rw[show decide ((i:Int)<(s.length:Int))=true by simpa using bz];obtain⟨c,hc⟩:∃c,s[i]?=some c:=⟨_,List.getElem?_eq_getElem bz⟩;have hw:IntKind.i64.wrap ((i:Int)+1)=((i+1:Nat):Int):=wrap64 (by omega) (by unfold B at hx;omega);have next:jl c=true→∃q:{i:Nat // i≤s.length∧(s.take i).all jl=true},q.1=i+1:=fun hp=>⟨⟨i+1,bz,om hs hc hp⟩,rfl⟩
   simp only[↓dY,dZ,bK,↓al,aa,ev,bE,List.getD_cons_zero,List.getD_cons_succ,Nat.reduceEqDiff,if_false,if_true,Nat.reduceLT,Nat.reduceLeDiff,Nat.reduceAdd,Nat.reduceMul,true_and,and_true,List.length_map,br,AV.cells,List.length_cons,List.length_nil,ae,Lb.loc.injEq,↓an,↓az,↓aq,↓aK,↓aI,↓aJ,aN,aE,dO,List.getElem?_cons_zero,List.getElem?_cons_succ,Option.bind_some,Option.map_some,List.map_cons,List.map_nil,Int.natCast_nonneg,Int.toNat_natCast,AV.dk,AV.one,List.all_cons,List.all_nil,Bool.and_self,Bool.and_true,Bool.true_and,List.take_succ_cons,List.take_zero,List.drop_succ_cons,List.drop_zero,List.cons_append,List.nil_append,List.append_nil,List.set_cons_zero,IV.b7,Lb.app,Lb.fresh,aw,ax,ay,ak,reduceCtorEq,Bool.false_eq_true,List.take,List.drop,List.mem_cons,List.not_mem_nil,or_false,bp,bJ,forall_eq,false_implies,implies_true,ev,Hp.none,Nat.le_refl,List.set_cons_succ,aQ,chunks,dj,AV.iv,dF,List.replicate_one,List.flatten_cons,List.flatten_nil,Nat.zero_mul,Nat.zero_add,Nat.mul_one,hc]
   cases h1:decide ((c.toNat:Int)<97) with
   |true=>
    simp only[↓dY,dZ,bK,↓al,aa,ev,bE,List.getD_cons_zero,List.getD_cons_succ,Nat.reduceEqDiff,if_false,if_true,Nat.reduceLT,Nat.reduceLeDiff,Nat.reduceAdd,Nat.reduceMul,true_and,and_true,List.length_map,br,AV.cells,List.length_cons,List.length_nil,ae,Lb.loc.injEq,↓an,↓az,↓aq,↓aK,↓aI,↓aJ,aN,aE,dO,List.getElem?_cons_zero,List.getElem?_cons_succ,Option.bind_some,Option.map_some,List.map_cons,List.map_nil,Int.natCast_nonneg,Int.toNat_natCast,AV.dk,AV.one,List.all_cons,List.all_nil,Bool.and_self,Bool.and_true,Bool.true_and,List.take_succ_cons,List.take_zero,List.drop_succ_cons,List.drop_zero,List.cons_append,List.nil_append,List.append_nil,List.set_cons_zero,IV.b7,Lb.app,Lb.fresh,aw,ax,ay,ak,reduceCtorEq,Bool.false_eq_true,List.take,List.drop,List.mem_cons,List.not_mem_nil,or_false,bp,bJ,forall_eq,false_implies,implies_true,ev,Hp.none,Nat.le_refl,List.set_cons_succ,aQ,chunks,dj,AV.iv,dF,List.replicate_one,List.flatten_cons,List.flatten_nil,Nat.zero_mul,Nat.zero_add,Nat.mul_one,hc]
    rw[named,nQ hc (by simp[jl,h1])];rfl
   |false=>
    simp only[↓dY,dZ,bK,↓al,aa,ev,bE,List.getD_cons_zero,List.getD_cons_succ,Nat.reduceEqDiff,if_false,if_true,Nat.reduceLT,Nat.reduceLeDiff,Nat.reduceAdd,Nat.reduceMul,true_and,and_true,List.length_map,br,AV.cells,List.length_cons,List.length_nil,ae,Lb.loc.injEq,↓an,↓az,↓aq,↓aK,↓aI,↓aJ,aN,aE,dO,List.getElem?_cons_zero,List.getElem?_cons_succ,Option.bind_some,Option.map_some,List.map_cons,List.map_nil,Int.natCast_nonneg,Int.toNat_natCast,AV.dk,AV.one,List.all_cons,List.all_nil,Bool.and_self,Bool.and_true,Bool.true_and,List.take_succ_cons,List.take_zero,List.drop_succ_cons,List.drop_zero,List.cons_append,List.nil_append,List.append_nil,List.set_cons_zero,IV.b7,Lb.app,Lb.fresh,aw,ax,ay,ak,reduceCtorEq,Bool.false_eq_true,List.take,List.drop,List.mem_cons,List.not_mem_nil,or_false,bp,bJ,forall_eq,false_implies,implies_true,ev,Hp.none,Nat.le_refl,List.set_cons_succ,aQ,chunks,dj,AV.iv,dF,List.replicate_one,List.flatten_cons,List.flatten_nil,Nat.zero_mul,Nat.zero_add,Nat.mul_one,hc]
    cases h2:decide ((c.toNat:Int)>122) with
    |true=>
     simp only[↓dY,dZ,bK,↓al,aa,ev,bE,List.getD_cons_zero,List.getD_cons_succ,Nat.reduceEqDiff,if_false,if_true,Nat.reduceLT,Nat.reduceLeDiff,Nat.reduceAdd,Nat.reduceMul,true_and,and_true,List.length_map,br,AV.cells,List.length_cons,List.length_nil,ae,Lb.loc.injEq,↓an,↓az,↓aq,↓aK,↓aI,↓aJ,aN,aE,dO,List.getElem?_cons_zero,List.getElem?_cons_succ,Option.bind_some,Option.map_some,List.map_cons,List.map_nil,Int.natCast_nonneg,Int.toNat_natCast,AV.dk,AV.one,List.all_cons,List.all_nil,Bool.and_self,Bool.and_true,Bool.true_and,List.take_succ_cons,List.take_zero,List.drop_succ_cons,List.drop_zero,List.cons_append,List.nil_append,List.append_nil,List.set_cons_zero,IV.b7,Lb.app,Lb.fresh,aw,ax,ay,ak,reduceCtorEq,Bool.false_eq_true,List.take,List.drop,List.mem_cons,List.not_mem_nil,or_false,bp,bJ,forall_eq,false_implies,implies_true,ev,Hp.none,Nat.le_refl,List.set_cons_succ,aQ,chunks,dj,AV.iv,dF,List.replicate_one,List.flatten_cons,List.flatten_nil,Nat.zero_mul,Nat.zero_add,Nat.mul_one,hc]
     rw[named,nQ hc (by simp[jl,h1,h2])];rfl
    |false=>
     obtain⟨q,hq⟩:=next (by simp[jl,h1,h2])
     simp only[↓dY,dZ,bK,↓al,aa,ev,bE,List.getD_cons_zero,List.getD_cons_succ,Nat.reduceEqDiff,if_false,if_true,Nat.reduceLT,Nat.reduceLeDiff,Nat.reduceAdd,Nat.reduceMul,true_and,and_true,List.length_map,br,AV.cells,List.length_cons,List.length_nil,ae,Lb.loc.injEq,↓an,↓az,↓aq,↓aK,↓aI,↓aJ,aN,aE,dO,List.getElem?_cons_zero,List.getElem?_cons_succ,Option.bind_some,Option.map_some,List.map_cons,List.map_nil,Int.natCast_nonneg,Int.toNat_natCast,AV.dk,AV.one,List.all_cons,List.all_nil,Bool.and_self,Bool.and_true,Bool.true_and,List.take_succ_cons,List.take_zero,List.drop_succ_cons,List.drop_zero,List.cons_append,List.nil_append,List.append_nil,List.set_cons_zero,IV.b7,Lb.app,Lb.fresh,aw,ax,ay,ak,reduceCtorEq,Bool.false_eq_true,List.take,List.drop,List.mem_cons,List.not_mem_nil,or_false,bp,bJ,forall_eq,false_implies,implies_true,ev,Hp.none,Nat.le_refl,List.set_cons_succ,aQ,chunks,dj,AV.iv,dF,List.replicate_one,List.flatten_cons,List.flatten_nil,Nat.zero_mul,Nat.zero_add,Nat.mul_one,hc,hw]
     refine⟨q,by omega,id,.none ?_ ?_⟩
     ·rw[hq];exact aZ rfl (aZ rfl (aZ rfl (eF _ _)))
     ·exact a6 (by simp[AV.ar]) (a6 (by simp[AV.ar]) (a6 (by simp[AV.ar]) (eG _)))
  ·rw[show decide ((i:Int)<(s.length:Int))=false by simpa using bz]
   have dN:s.all jl=true:=by
    have:s.take i=s:=List.take_of_length_le (by omega);rw[←this,hs]
   simp only[↓dY,dZ,bK,↓al,aa,ev,bE,List.getD_cons_zero,List.getD_cons_succ,Nat.reduceEqDiff,if_false,if_true,Nat.reduceLT,Nat.reduceLeDiff,Nat.reduceAdd,Nat.reduceMul,true_and,and_true,List.length_map,br,AV.cells,List.length_cons,List.length_nil,ae,Lb.loc.injEq,↓an,↓az,↓aq,↓aK,↓aI,↓aJ,aN,aE,dO,List.getElem?_cons_zero,List.getElem?_cons_succ,Option.bind_some,Option.map_some,List.map_cons,List.map_nil,Int.natCast_nonneg,Int.toNat_natCast,AV.dk,AV.one,List.all_cons,List.all_nil,Bool.and_self,Bool.and_true,Bool.true_and,List.take_succ_cons,List.take_zero,List.drop_succ_cons,List.drop_zero,List.cons_append,List.nil_append,List.append_nil,List.set_cons_zero,IV.b7,Lb.app,Lb.fresh,aw,ax,ay,ak,reduceCtorEq,Bool.false_eq_true,List.take,List.drop,List.mem_cons,List.not_mem_nil,or_false,bp,bJ,forall_eq,false_implies,implies_true,ev,Hp.none,Nat.le_refl,List.set_cons_succ,aQ,chunks,dj,AV.iv,dF,List.replicate_one,List.flatten_cons,List.flatten_nil,Nat.zero_mul,Nat.zero_add,Nat.mul_one]
   cases h1:decide ((s.length:Int)≥1) with
   |true=>
    simp only[↓dY,dZ,bK,↓al,aa,ev,bE,List.getD_cons_zero,List.getD_cons_succ,Nat.reduceEqDiff,if_false,if_true,Nat.reduceLT,Nat.reduceLeDiff,Nat.reduceAdd,Nat.reduceMul,true_and,and_true,List.length_map,br,AV.cells,List.length_cons,List.length_nil,ae,Lb.loc.injEq,↓an,↓az,↓aq,↓aK,↓aI,↓aJ,aN,aE,dO,List.getElem?_cons_zero,List.getElem?_cons_succ,Option.bind_some,Option.map_some,List.map_cons,List.map_nil,Int.natCast_nonneg,Int.toNat_natCast,AV.dk,AV.one,List.all_cons,List.all_nil,Bool.and_self,Bool.and_true,Bool.true_and,List.take_succ_cons,List.take_zero,List.drop_succ_cons,List.drop_zero,List.cons_append,List.nil_append,List.append_nil,List.set_cons_zero,IV.b7,Lb.app,Lb.fresh,aw,ax,ay,ak,reduceCtorEq,Bool.false_eq_true,List.take,List.drop,List.mem_cons,List.not_mem_nil,or_false,bp,bJ,forall_eq,false_implies,implies_true,ev,Hp.none,Nat.le_refl,List.set_cons_succ,aQ,chunks,dj,AV.iv,dF,List.replicate_one,List.flatten_cons,List.flatten_nil,Nat.zero_mul,Nat.zero_add,Nat.mul_one]
    rw[named,dN,h1];rfl
   |false=>
    simp only[↓dY,dZ,bK,↓al,aa,ev,bE,List.getD_cons_zero,List.getD_cons_succ,Nat.reduceEqDiff,if_false,if_true,Nat.reduceLT,Nat.reduceLeDiff,Nat.reduceAdd,Nat.reduceMul,true_and,and_true,List.length_map,br,AV.cells,List.length_cons,List.length_nil,ae,Lb.loc.injEq,↓an,↓az,↓aq,↓aK,↓aI,↓aJ,aN,aE,dO,List.getElem?_cons_zero,List.getElem?_cons_succ,Option.bind_some,Option.map_some,List.map_cons,List.map_nil,Int.natCast_nonneg,Int.toNat_natCast,AV.dk,AV.one,List.all_cons,List.all_nil,Bool.and_self,Bool.and_true,Bool.true_and,List.take_succ_cons,List.take_zero,List.drop_succ_cons,List.drop_zero,List.cons_append,List.nil_append,List.append_nil,List.set_cons_zero,IV.b7,Lb.app,Lb.fresh,aw,ax,ay,ak,reduceCtorEq,Bool.false_eq_true,List.take,List.drop,List.mem_cons,List.not_mem_nil,or_false,bp,bJ,forall_eq,false_implies,implies_true,ev,Hp.none,Nat.le_refl,List.set_cons_succ,aQ,chunks,dj,AV.iv,dF,List.replicate_one,List.flatten_cons,List.flatten_nil,Nat.zero_mul,Nat.zero_add,Nat.mul_one]
    rw[named,dN,h1];rfl
end Go.Am
