import Derived.Test.YtfinkeaikbmpgaaGreatDoorKAm33
import Derived.Test.YtfinkeaikbmpgaaGreatDoorKAm24
set_option linter.unusedSimpArgs false
set_option linter.unusedVariables false
set_option linter.unnecessarySimpa false
set_option linter.defProp false
/- Trees that are good. -/
namespace Go.Am
open Go Go.RowKit
mutual
def Tree.fu:Tree→Bool
 | .mk t s as ks=>if t then plain s&&(s !=[]&&(as.length==0&&ks.length==0)) else named s&&(bP as&&bQ none ks)
def bQ:Option Bool→List Tree→Bool
 |_,[]=>true
 |p,x::r=>x.fu&&(!(p==some true&&x.text)&&bQ (some x.text) r)
end
def rr (fP fN zm wA:Nat):AC:=
(.seq
 (.cq [
  sC 1 0,
  jM 2 false])
(.seq
 (.seq
  (.cq [
   ep 3 1 0,
   fm 4 3])
 (.cond (.t 4)
  (.seq
   (.cq [
    ep 5 1 1,
    fm 6 5,
    aQ 7 (.call fP [(.t 6)]),
    MR 8 7,
    Wb 9 8 1 1,
    jm 10 8 9,
    dW 11 8 (.bin .neq (.t 10) (.c (.str []))),
    jT 12 8 11,
    MR 13 12,
    Wb 14 13 1 2,
    jm 15 13 14,
    dW 16 13 (.len (.t 15)),
    dW 17 13 (.bin .eql (.t 16) (jS 0)),
    jT 18 13 17,
    MR 19 18,
    Wb 20 19 1 3,
    jm 21 19 20,
    dW 22 19 (.len (.t 21)),
    dW 23 19 (.bin .eql (.t 22) (jS 0)),
    jT 24 19 23,
    MR 2 24])
  .ret)
  .skip))
(.seq
 (.cq [
  ep 25 1 1,
  fm 26 25,
  aQ 27 (.call fN [(.t 26)]),
  MR 28 27,
  Wb 29 28 1 2,
  jm 30 28 29,
  dW 31 28 (.call zm [(.t 30)]),
  jT 32 28 31,
  MR 33 32,
  Wb 34 33 1 3,
  jm 35 33 34,
  dW 36 33 (.call wA [(.t 35)]),
  jT 37 33 36,
  MR 2 37])
.ret)))
def n_ (fF:Nat):AC:=
(.seq
 (.cq [
  jM 2 false])
(.seq
 (.seq
  (.cq [
   MR 5 0,
   oy 6 5,
   gH 7 0])
 (.block 0
  (.loop
   (.seq
    (.cq [
     et 8 .lss 7 6])
   (.seq
    (.cond (.t 8)
     .skip
     (.exit 0))
   (.seq
    (.block 1
     (.seq
      (.cq [
       MR 9 7,
       jL 10 5 7 4,
       gz 11 4 10,
       aQ 4 (.new [(.bool false),(.str []),.nil0,.nil0]),
       MR 3 9,
       gg (.store 4 (.t 4) (.t 11))])
     (.seq
      (.cq [
       gz 12 4 4,
       aQ 13 (.call fF [(.t 12)]),
       sB 14 13,
       MR 15 14,
       gV 16 15 3,
       iR 17 15 (.bin .gtr (.t 16) (jS 0)),
       gV 18 15 17,
       Wb 19 18 4 0,
       jm 20 18 19,
       iR 21 15 (.pick (.t 18) (.t 20) (me false)),
       gV 22 15 21,
       cU 23 22 0,
       cU 24 22 3,
       dW 25 22 (.bin .sub (.t 24) (jS 1)),
       dW 26 22 (.Vc (.t 23) (.t 25) 4),
       Wb 27 22 26 0,
       jm 28 22 27,
       iR 29 15 (.pick (.t 22) (.t 28) (me false)),
       sj 30 15 29])
     (.cond (.t 30)
      (.seq
       (.cq [
        jM 2 false])
      .ret)
      .skip))))
   (.cq [
    eY 31 .add 7 1,
    MR 7 31])))))))
(.seq
 (.cq [
  jM 2 true])
.ret)))
def xW (fS fF:Nat):AC:=
(.seq
 (.cq [
  sC 1 0,
  jM 2 false])
(.seq
 (.cq [
  gz 6 4 1,
  aQ 7 (.call fS [(.t 6)]),
  MR 5 7,
  ox 8 5 0,
  ox 9 5 1,
  MR 3 8,
  MR 4 9])
(.seq
 (.cq [
  ep 10 1 0,
  fm 11 10,
  sB 12 11,
  MR 13 12,
  cU 14 13 3,
  dW 15 13 (.bin .leq (.t 14) (jS 8)),
  jT 16 13 15,
  MR 17 16,
  cU 18 17 4,
  dW 19 17 (.bin .leq (.t 18) (jS 80)),
  jT 20 17 19,
  MR 21 20,
  dW 22 21 (.load (some 4) (.t 1)),
  dW 23 21 (.call fF [(.t 22)]),
  jT 24 21 23,
  MR 2 24])
.ret)))
def Tree.oa (x:Tree) (h:x.text=true):x.fu=(plain x.s&&(x.s !=[]&&(x.attrs.length==0&&x.kids.length==0))):=by
 cases x;simp only[Tree.text] at h;subst h;simp[Tree.fu,Tree.s,Tree.attrs,Tree.kids]
def Tree.Pa (x:Tree) (h:x.text=false):x.fu=(named x.s&&(bP x.attrs&&bQ none x.kids)):=by
 cases x;simp only[Tree.text] at h;subst h;simp[Tree.fu,Tree.s,Tree.attrs,Tree.kids]
def Cc {P:Program} {G:Nat→Option (List IV)} {f fP fN zm wA:Nat} (hF:aw P G f=some (38,[(none,2)],(rr fP fN zm wA).bare)) (x:Tree)
  (hP:au P G fP [.str x.s] (.bool (plain x.s))) (hN:au P G fN [.str x.s] (.bool (named x.s))) (hA:au P G zm [.list (cD x.attrs)] (.bool (bP x.attrs)))
  (Gn:au P G wA [.list (dq x.kids)] (.bool (bQ none x.kids))):au P G f [x.av] (.bool x.fu):=by
 refine aR hF (by simp) (by simp[ah,AV.an,Tree.av]) (by simp[AV.an]) ?_;unfold rr;simp only[↓dS,lK,lX,↓ai,List.take,List.drop,Nat.reduceEqDiff,Nat.reduceLT,Nat.reduceLeDiff,Nat.reduceAdd,Nat.reduceMul,↓aj,↓ar,↓ak,↓aF,↓aD,↓aE,reduceCtorEq,Tree.av];refine⟨le_max (by decide),?_⟩;cases h0:x.text with
 |true=>
  rw[x.oa h0];simp only[↓dS,lK,lX,↓ai,List.take,List.drop,Nat.reduceEqDiff,Nat.reduceLT,Nat.reduceLeDiff,Nat.reduceAdd,Nat.reduceMul,↓aj,↓ar,↓ak,↓aF,↓aD,↓aE,reduceCtorEq];refine ay hP ?_;cases h1:plain x.s with
  |false=>simp only[↓dS,lK,lX,↓ai,List.take,List.drop,Nat.reduceEqDiff,Nat.reduceLT,Nat.reduceLeDiff,Nat.reduceAdd,Nat.reduceMul,↓aj,↓ar,↓ak,↓aF,↓aD,↓aE,reduceCtorEq,kc]
  |true=>
  simp only[↓dS,lK,lX,↓ai,List.take,List.drop,Nat.reduceEqDiff,Nat.reduceLT,Nat.reduceLeDiff,Nat.reduceAdd,Nat.reduceMul,↓aj,↓ar,↓ak,↓aF,↓aD,↓aE,reduceCtorEq];cases h2:(!(x.s==[])) with
  |false=>
   simp only[↓dS,lK,lX,↓ai,List.take,List.drop,Nat.reduceEqDiff,Nat.reduceLT,Nat.reduceLeDiff,Nat.reduceAdd,Nat.reduceMul,↓aj,↓ar,↓ak,↓aF,↓aD,↓aE,reduceCtorEq];rw[show(x.s !=[])=false from h2];rfl
  |true=>
  simp only[↓dS,lK,lX,↓ai,List.take,List.drop,Nat.reduceEqDiff,Nat.reduceLT,Nat.reduceLeDiff,Nat.reduceAdd,Nat.reduceMul,↓aj,↓ar,↓ak,↓aF,↓aD,↓aE,reduceCtorEq,bp,bF];rw[show(x.s !=[])=true from h2];have e1:((x.attrs.length:Int)==0)=(x.attrs.length==0):=by
   rw[ky];simp
  have e2:((x.kids.length:Int)==0)=(x.kids.length==0):=by
   rw[ky];simp
  rw[e1];cases h3:(x.attrs.length==0) with
  |false=>simp only[↓dS,lK,lX,↓ai,List.take,List.drop,Nat.reduceEqDiff,Nat.reduceLT,Nat.reduceLeDiff,Nat.reduceAdd,Nat.reduceMul,↓aj,↓ar,↓ak,↓aF,↓aD,↓aE,reduceCtorEq,kc]
  |true=>simp only[↓dS,lK,lX,↓ai,List.take,List.drop,Nat.reduceEqDiff,Nat.reduceLT,Nat.reduceLeDiff,Nat.reduceAdd,Nat.reduceMul,↓aj,↓ar,↓ak,↓aF,↓aD,↓aE,reduceCtorEq,bF,e2]
 |false=>
 rw[x.Pa h0];simp only[↓dS,lK,lX,↓ai,List.take,List.drop,Nat.reduceEqDiff,Nat.reduceLT,Nat.reduceLeDiff,Nat.reduceAdd,Nat.reduceMul,↓aj,↓ar,↓ak,↓aF,↓aD,↓aE,reduceCtorEq];refine ay hN ?_;cases h1:named x.s with
 |false=>simp only[↓dS,lK,lX,↓ai,List.take,List.drop,Nat.reduceEqDiff,Nat.reduceLT,Nat.reduceLeDiff,Nat.reduceAdd,Nat.reduceMul,↓aj,↓ar,↓ak,↓aF,↓aD,↓aE,reduceCtorEq,kc]
 |true=>
 simp only[↓dS,lK,lX,↓ai,List.take,List.drop,Nat.reduceEqDiff,Nat.reduceLT,Nat.reduceLeDiff,Nat.reduceAdd,Nat.reduceMul,↓aj,↓ar,↓ak,↓aF,↓aD,↓aE,reduceCtorEq];refine ay hA ?_;cases h2:bP x.attrs with
 |false=>simp only[↓dS,lK,lX,↓ai,List.take,List.drop,Nat.reduceEqDiff,Nat.reduceLT,Nat.reduceLeDiff,Nat.reduceAdd,Nat.reduceMul,↓aj,↓ar,↓ak,↓aF,↓aD,↓aE,reduceCtorEq,kc]
 |true=>
 simp only[↓dS,lK,lX,↓ai,List.take,List.drop,Nat.reduceEqDiff,Nat.reduceLT,Nat.reduceLeDiff,Nat.reduceAdd,Nat.reduceMul,↓aj,↓ar,↓ak,↓aF,↓aD,↓aE,reduceCtorEq];refine ay Gn ?_;simp only[↓dS,lK,lX,↓ai,List.take,List.drop,Nat.reduceEqDiff,Nat.reduceLT,Nat.reduceLeDiff,Nat.reduceAdd,Nat.reduceMul,↓aj,↓ar,↓ak,↓aF,↓aD,↓aE,reduceCtorEq]
def YM (ks:List Tree) (i:Nat):Option Bool:=if i=0 then none else(ks[i - 1]?).map Tree.text
def te (ks:List Tree) (i:Nat):Env:=put (put (put (put Env.any 0 (.list (dq ks))) 5 (.list (dq ks))) 6 (.int .i64 ks.length)) 7 (.int .i64 i)
def D2 {P:Program} {G:Nat→Option (List IV)} {f fF:Nat} (hF:aw P G f=some (32,[(none,2)],(n_ fF).bare)) (ks:List Tree) (hx:ks.length≤B)
  (hK:∀k∈ks,au P G fF [k.av] (.bool k.fu)):au P G f [.list (dq ks)] (.bool (bQ none ks)):=by
 refine aR hF (by simp) (by simp[ah,AV.an]) (by simp[AV.an]) ?_;unfold n_;simp only[↓dS,lK,lX,↓ai,List.take,List.drop,Nat.reduceEqDiff,Nat.reduceLT,Nat.reduceLeDiff,Nat.reduceAdd,Nat.reduceMul,↓aj,↓ar,↓ak,↓aF,↓aD,↓aE,reduceCtorEq,bF];refine fY (σ:={i:Nat // i≤ks.length∧bQ none ks=bQ (YM ks i) (ks.drop i)}) (fun q=>te ks q.1) (fun _=>Hp.none) (fun q=>ks.length - q.1) ⟨0,by simp[YM]⟩ id ?_ ?_
 ·refine .none ?_ ?_
  ·exact aT rfl (aT rfl (aT rfl (aT rfl (Wc _ _))))
  exact aU (by simp[AV.an]) (aU (by simp[AV.an]) (aU (by simp[AV.an]) (aU (by simp[AV.an]) (eB _))))
 rintro⟨i,hi,hs⟩;simp only[↓dS,lK,lX,↓ai,List.take,List.drop,Nat.reduceEqDiff,Nat.reduceLT,Nat.reduceLeDiff,Nat.reduceAdd,Nat.reduceMul,↓aj,↓ar,↓ak,↓aF,↓aD,↓aE,reduceCtorEq,te,bF];by_cases bI:i<ks.length
 ·rw[show decide ((i:Int)<(ks.length:Int))=true by simpa using bI];obtain⟨k,hk⟩:∃k,ks[i]?=some k:=⟨_,aC bI⟩;have hw:IntKind.i64.wrap ((i:Int)+1)=((i+1:Nat):Int):=wrap64 (by omega) (by unfold B at hx;omega);have hd:ks.drop i=k::ks.drop (i+1):=by
   rw[oB bI];rw[aC bI] at hk;cases hk;rfl
  have BT:YM ks (i+1)=some k.text:=by simp[YM,hk]
  have mV:bQ none ks=(k.fu&&(!(YM ks i==some true&&k.text)&&bQ (some k.text) (ks.drop (i+1)))):=by rw[hs,hd];simp only[bQ]
  have next:(k.fu&& !(YM ks i==some true&&k.text))=true→∃q:{i:Nat // i≤ks.length∧bQ none ks=bQ (YM ks i) (ks.drop i)},q.1=i+1:=fun h=>by
   rw[bw] at h;exact⟨⟨i+1,bI,by rw[BT,mV,h.1,h.2];rfl⟩,rfl⟩
  simp only[↓dS,lK,lX,↓ai,List.take,List.drop,Nat.reduceEqDiff,Nat.reduceLT,Nat.reduceLeDiff,Nat.reduceAdd,Nat.reduceMul,↓aj,↓ar,↓ak,↓aF,↓aD,↓aE,reduceCtorEq,iy,hk,lT,Tree.cJ,Tree.cs];refine⟨le_max (by decide),ay (hK k (aV hk)) ?_⟩;cases h1:k.fu with
  |false=>
   simp only[↓dS,lK,lX,↓ai,List.take,List.drop,Nat.reduceEqDiff,Nat.reduceLT,Nat.reduceLeDiff,Nat.reduceAdd,Nat.reduceMul,↓aj,↓ar,↓ak,↓aF,↓aD,↓aE,reduceCtorEq,bx];rw[mV,h1];rfl
  |true=>
  simp only[↓dS,lK,lX,↓ai,List.take,List.drop,Nat.reduceEqDiff,Nat.reduceLT,Nat.reduceLeDiff,Nat.reduceAdd,Nat.reduceMul,↓aj,↓ar,↓ak,↓aF,↓aD,↓aE,reduceCtorEq,bG];by_cases h3:i=0
  ·subst h3;rw[show decide (((0:Nat):Int)>0)=false by simp];obtain⟨q,hq⟩:=next (by rw[h1];simp[YM])
   simp only[↓dS,lK,lX,↓ai,List.take,List.drop,Nat.reduceEqDiff,Nat.reduceLT,Nat.reduceLeDiff,Nat.reduceAdd,Nat.reduceMul,↓aj,↓ar,↓ak,↓aF,↓aD,↓aE,reduceCtorEq,hw];refine⟨q,by omega,id,.drop ?_ ?_ ?_⟩
   ·rw[hq];exact aT rfl (aT rfl (aT rfl (aT rfl (Wc _ _))))
   ·exact aU (by simp[AV.an]) (aU (by simp[AV.an]) (aU (by simp[AV.an]) (aU (by simp[AV.an]) (eB _))))
   exact dT (dT gJ)
  rw[show decide ((i:Int)>0)=true by simp;omega];obtain⟨p,hp⟩:∃p,ks[i - 1]?=some p:=⟨_,aC (by omega)⟩;have qG:YM ks i=some p.text:=by simp[YM,h3,hp]
  have pU:IntKind.i64.wrap ((i:Int) - 1)=((i - 1:Nat):Int):=by rw[wrap64 (by omega) (by unfold B at hx;omega)];omega
  simp only[↓dS,lK,lX,↓ai,List.take,List.drop,Nat.reduceEqDiff,Nat.reduceLT,Nat.reduceLeDiff,Nat.reduceAdd,Nat.reduceMul,↓aj,↓ar,↓ak,↓aF,↓aD,↓aE,reduceCtorEq];cases h2:k.text with
  |false=>
   obtain⟨q,hq⟩:=next (by rw[h1,h2];simp)
   simp only[↓dS,lK,lX,↓ai,List.take,List.drop,Nat.reduceEqDiff,Nat.reduceLT,Nat.reduceLeDiff,Nat.reduceAdd,Nat.reduceMul,↓aj,↓ar,↓ak,↓aF,↓aD,↓aE,reduceCtorEq,hw];refine⟨q,by omega,id,.drop ?_ ?_ ?_⟩
   ·rw[hq];exact aT rfl (aT rfl (aT rfl (aT rfl (Wc _ _))))
   ·exact aU (by simp[AV.an]) (aU (by simp[AV.an]) (aU (by simp[AV.an]) (aU (by simp[AV.an]) (eB _))))
   exact dT (dT gJ)
  |true=>
  simp only[↓dS,lK,lX,↓ai,List.take,List.drop,Nat.reduceEqDiff,Nat.reduceLT,Nat.reduceLeDiff,Nat.reduceAdd,Nat.reduceMul,↓aj,↓ar,↓ak,↓aF,↓aD,↓aE,reduceCtorEq,pU,iy,hp,lT,Tree.cJ,Tree.cs];cases h4:p.text with
  |true=>
   simp only[↓dS,lK,lX,↓ai,List.take,List.drop,Nat.reduceEqDiff,Nat.reduceLT,Nat.reduceLeDiff,Nat.reduceAdd,Nat.reduceMul,↓aj,↓ar,↓ak,↓aF,↓aD,↓aE,reduceCtorEq];rw[mV,qG,h1,h2,h4];rfl
  |false=>
  obtain⟨q,hq⟩:=next (by rw[h1,h2,qG,h4];rfl)
  simp only[↓dS,lK,lX,↓ai,List.take,List.drop,Nat.reduceEqDiff,Nat.reduceLT,Nat.reduceLeDiff,Nat.reduceAdd,Nat.reduceMul,↓aj,↓ar,↓ak,↓aF,↓aD,↓aE,reduceCtorEq,hw];refine⟨q,by omega,id,.drop ?_ ?_ ?_⟩
  ·rw[hq];exact aT rfl (aT rfl (aT rfl (aT rfl (Wc _ _))))
  ·exact aU (by simp[AV.an]) (aU (by simp[AV.an]) (aU (by simp[AV.an]) (aU (by simp[AV.an]) (eB _))))
  exact dT (dT gJ)
 rw[show decide ((i:Int)<(ks.length:Int))=false by simpa using bI];simp only[↓dS,lK,lX,↓ai,List.take,List.drop,Nat.reduceEqDiff,Nat.reduceLT,Nat.reduceLeDiff,Nat.reduceAdd,Nat.reduceMul,↓aj,↓ar,↓ak,↓aF,↓aD,↓aE,reduceCtorEq,bF];rw[hs,nw (by omega)];rfl
def Tree.d_ (x:Tree):Bool:= !x.text&&(decide ((x.dep:Int)≤8)&&(decide ((x.jz:Int)≤80)&&x.fu))
def Gp {P:Program} {G:Nat→Option (List IV)} {f fS fF:Nat} (hF:aw P G f=some (25,[(none,2)],(xW fS fF).bare)) (x:Tree)
  (hS:au P G fS [x.av] (.gf [.int .i64 x.dep,.int .i64 x.jz])) (hK:au P G fF [x.av] (.bool x.fu)):au P G f [x.av] (.bool x.d_):=by
 refine aR hF (by simp) (by simp[ah,AV.an,Tree.av]) (by simp[AV.an]) ?_;unfold xW;simp only[↓dS,lK,lX,↓ai,List.take,List.drop,Nat.reduceEqDiff,Nat.reduceLT,Nat.reduceLeDiff,Nat.reduceAdd,Nat.reduceMul,↓aj,↓ar,↓ak,↓aF,↓aD,↓aE,reduceCtorEq,Tree.av];refine⟨le_max (by decide),ay hS ?_⟩;simp only[↓dS,lK,lX,↓ai,List.take,List.drop,Nat.reduceEqDiff,Nat.reduceLT,Nat.reduceLeDiff,Nat.reduceAdd,Nat.reduceMul,↓aj,↓ar,↓ak,↓aF,↓aD,↓aE,reduceCtorEq];cases h0:x.text with
 |true=>
  simp only[↓dS,lK,lX,↓ai,List.take,List.drop,Nat.reduceEqDiff,Nat.reduceLT,Nat.reduceLeDiff,Nat.reduceAdd,Nat.reduceMul,↓aj,↓ar,↓ak,↓aF,↓aD,↓aE,reduceCtorEq,bG];simp[Tree.d_,h0]
 |false=>
 simp only[↓dS,lK,lX,↓ai,List.take,List.drop,Nat.reduceEqDiff,Nat.reduceLT,Nat.reduceLeDiff,Nat.reduceAdd,Nat.reduceMul,↓aj,↓ar,↓ak,↓aF,↓aD,↓aE,reduceCtorEq,bx];cases h1:decide ((x.dep:Int)≤8) with
 |false=>
  simp only[↓dS,lK,lX,↓ai,List.take,List.drop,Nat.reduceEqDiff,Nat.reduceLT,Nat.reduceLeDiff,Nat.reduceAdd,Nat.reduceMul,↓aj,↓ar,↓ak,↓aF,↓aD,↓aE,reduceCtorEq];rw[Tree.d_,h0,h1];rfl
 |true=>
 simp only[↓dS,lK,lX,↓ai,List.take,List.drop,Nat.reduceEqDiff,Nat.reduceLT,Nat.reduceLeDiff,Nat.reduceAdd,Nat.reduceMul,↓aj,↓ar,↓ak,↓aF,↓aD,↓aE,reduceCtorEq];cases h2:decide ((x.jz:Int)≤80) with
 |false=>
  simp only[↓dS,lK,lX,↓ai,List.take,List.drop,Nat.reduceEqDiff,Nat.reduceLT,Nat.reduceLeDiff,Nat.reduceAdd,Nat.reduceMul,↓aj,↓ar,↓ak,↓aF,↓aD,↓aE,reduceCtorEq];rw[Tree.d_,h0,h1,h2];rfl
 |true=>
 simp only[↓dS,lK,lX,↓ai,List.take,List.drop,Nat.reduceEqDiff,Nat.reduceLT,Nat.reduceLeDiff,Nat.reduceAdd,Nat.reduceMul,↓aj,↓ar,↓ak,↓aF,↓aD,↓aE,reduceCtorEq];refine ay (by rw[←h0];exact hK) ?_;simp only[↓dS,lK,lX,↓ai,List.take,List.drop,Nat.reduceEqDiff,Nat.reduceLT,Nat.reduceLeDiff,Nat.reduceAdd,Nat.reduceMul,↓aj,↓ar,↓ak,↓aF,↓aD,↓aE,reduceCtorEq];rw[Tree.d_,h0,h1,h2];rfl

structure Node where
 text:Bool
 s:Bs
 attrs:List Attr
 parent:Int
 kids:List Int
abbrev Doc:=List Node
def xX (n:Int):IV:= .int .i64 n
def Node.cs (x:Node):List IV:=[.bool x.text,.str x.s,.list (cD x.attrs),.int .i64 x.parent,.list (x.kids.map xX)]
def Node.iv (x:Node):IV:= .agg x.cs
def Node.av (x:Node):AV:= .agg [.bool x.text,.str x.s,.list (cD x.attrs),.int .i64 x.parent,.list (x.kids.map xX)]
def Node.cJ (x:Node):x.iv.cells=x.cs:=rfl
def ZO {α:Type} (f:α→IV) (n:Nat) (h:∀x,(f x).cells.length=n) (xs:List α):jV n (xs.map f):=by
 intro x hx;obtain⟨a,_,rfl⟩:=cO.1 hx;exact h a
def YY {α:Type} (f:α→IV) (h:∀x,∀z∈(f x).cells,∀cs,z≠ .agg cs) (xs:List α):Flat (xs.map f):=by
 intro x hx;obtain⟨a,_,rfl⟩:=cO.1 hx;exact h a
def YN (xs:List Int):jV 1 (xs.map xX):=ZO xX 1 (fun _=>rfl) xs
def XD (xs:List Int):Flat (xs.map xX):=YY _ (by intro x z hz cs;simp[xX,IV.cells] at hz;subst hz;simp) _
def Node.uy (x:Node):∀z∈x.cs,∀cs,z≠ .agg cs:=by
 intro z hz cs;simp only[Node.cs,bb,b5,b7] at hz;rcases hz with rfl|rfl|rfl|rfl|rfl<;>simp
def Xx (xs:List Node):jV 5 (xs.map Node.iv):=ZO Node.iv 5 (fun _=>rfl) xs
def acH (xs:List Node):Flat (xs.map Node.iv):=YY _ (fun x=>x.uy) _
def Node.ext' {x y:Node} (h1:x.text=y.text) (h2:x.s=y.s) (h3:x.attrs=y.attrs) (h4:x.parent=y.parent) (h5:x.kids=y.kids):x=y:=by
 cases x;cases y;simp_all
def mw (off:Nat):List Tree→List Int
 |[]=>[]
 |k::r=>(off:Int)::mw (off+k.jz) r
mutual
def Tree.flat (off:Nat) (p:Int):Tree→List Node
 | .mk t s as ks=>⟨t,s,as,p,mw (off+1) ks⟩::fC (off+1) off ks
def fC (off:Nat) (p:Nat):List Tree→List Node
 |[]=>[]
 |k::r=>k.flat off p++fC (off+k.jz) p r
end
def Tree.node (off:Nat) (p:Int) (x:Tree):Node:=⟨x.text,x.s,x.attrs,p,mw (off+1) x.kids⟩
def Tree.qm (off:Nat) (p:Int) (x:Tree):x.flat off p=x.node off p::fC (off+1) off x.kids:=by
 cases x;simp[Tree.flat,Tree.node,Tree.text,Tree.s,Tree.attrs,Tree.kids]
mutual
theorem Tree.j9 (off:Nat) (p:Int):∀x:Tree,(x.flat off p).length=x.jz
 | .mk t s as ks=>by simp[Tree.flat,Tree.jz,my (off+1) off ks]
theorem my (off:Nat) (p:Nat):∀xs:List Tree,(fC off p xs).length=dP xs
 |[]=>by simp[fC,dP]
 |k::r=>by simp[fC,dP,k.j9,my _ p r]
end
theorem VS:∀(off:Nat) (xs:List Tree),(mw off xs).length=xs.length
 |_,[]=>rfl
 |off,k::r=>by simp[mw,VS _ r]
theorem pd:∀(off p:Nat) (xs ys:List Tree),fC off p (xs++ys)=fC off p xs++fC (off+dP xs) p ys
 |off,p,[],ys=>by simp[fC,dP]
 |off,p,k::r,ys=>by simp[fC,dP,pd _ p r ys,gQ]
theorem WZ:∀(off:Nat) (xs ys:List Tree),mw off (xs++ys)=mw off xs++mw (off+dP xs) ys
 |off,[],ys=>by simp[mw,dP]
 |off,k::r,ys=>by simp[mw,dP,WZ _ r ys,gQ]
def lW (x:Tree):Doc:=x.flat 0 (-1)
def Tree.uE (x:Tree):0<x.jz:=by rw[x.n8];omega

def U8:AC:=
(aM [zi 2] (.seq (aM [MR 3 0,aQ 4 (.BJ false (.t 3))] (.cond (.t 4) (aM [zi 2] .ret) .skip)) (aM [aQ 5 (.lits 0 2 [(.str []),(.str [])] []),MR 6 0,aQ 7 (.app (.t 5) (.t 6) 2 32),MR 2 7] (.gh (.zS (.loc 7) 2) .ret))))
def Wd:AC:=
(aM [zi 2] (.seq (aM [MR 3 0,aQ 4 (.BJ false (.t 3))] (.cond (.t 4) (aM [zi 2] .ret) .skip)) (aM [aQ 5 (.lits 0 1 [(.int .i64 0)] []),MR 6 0,aQ 7 (.app (.t 5) (.t 6) 1 8),MR 2 7] (.gh (.zS (.loc 7) 2) .ret))))
def acI {P:Program} {G:Nat→Option (List IV)} {iJ:Nat} (hF:aw P G iJ=some (8,[(none,2)],U8.bare)) (xs:List Attr) (hx:xs.length≤B):au P G iJ [.list (cD xs)] (.list (cD xs)):=by
 refine Ws hF (by simp) (by simp[ah,AV.an]) (by simp[AV.an]) ?_;unfold U8;simp only[↓aX,mX,seval,ab9];refine aaW (fun h=> ?_) ?_
 ·simp only[↓aX,mX,seval,norm,h]
 simp only[↓aX,mX,seval,norm];rw[Xp 2 32 7 (cD xs) (rq _) (nW _) (by rw[bp];unfold B at hx;omega) (by decide) rfl];simp only[↓aX,mX,seval,norm];exact⟨2,cD xs,0,_,rfl,rfl,by simp,nW _,by simp⟩

def afA (sz b d:Nat) (l:Lb) (xs:List IV) (x:IV) {n:Nat} {H:Hp} (hf:l.fresh=false) (hl:H l= .live ⟨sz,aB xs⟩) (hn:xs.length=n) (he:x.cells.length=sz) (FO:∀z∈x.cells,∀cs,z≠ .agg cs) (hb:(n+1)*b≤140737488355328) (h0:0<b)
  (hd:l≠ .gen d) (hu:H (.gen d)= .unused) :
  jN sz b d (.sl l sz 0 n) (.list [x]) H=some (.sl (.gen d) sz 0 (n+1),bD (bD H l .dead) (.gen d) (.live ⟨sz,aB (xs++[x])⟩)):=by
 have e:l.app d= .gen d:=by unfold Lb.app;rw[hf];rfl
 have:=ux (l:=l) (d:=d) hl (by rw[lQ];exact hn) he FO hb h0 (by rw[e];exact hd) (by rw[e];exact hu);rw[e] at this;rw[this,lR]
def ie (u:Lb→Bool) (rs:List (Lb×Row)):Hp:=fun q=>match kl rs q with
 | .unused=>if u q then .dead else .unused
 |s=>s
def cL {u:Lb→Bool} {rs:List (Lb×Row)} {l:Lb} {r:Row}:ie u rs l= .live r↔kl rs l= .live r:=by
 unfold ie;cases h:kl rs l with
 |unused=>by_cases hu:u l=true<;>simp[hu]
 |dead=>simp
 |live r'=>simp
def jb {u:Lb→Bool} {rs:List (Lb×Row)} {l:Lb} (h:l∈rs.map Prod.fst∨u l=true):ie u rs l≠ .unused:=by
 unfold ie;rcases h with h|h
 ·have:=lP h;cases h2:kl rs l with
  |unused=>exact absurd h2 this
  |dead=>simp
  |live r=>simp
 cases h2:kl rs l with
 |unused=>simp[h]
 |dead=>simp
 |live r=>simp
structure WU (ls:List Lb) (u:Lb→Bool) (ps:List (Nat×AV)) (rs:List (Lb×Row)) (env:Env) (H:Hp) (m:List (Lb×Lb)):Prop where
 nf:∀l:Lb,l.fresh=false→H l≠ .unused→l∈ls∨u l=true
 e:k_ (dn m) env ps
 r:tc (dn m) H rs
 inj:(ls.map (dn m)).Nodup
 fr:∀l∈ls,(l.fresh=true→(dn m l).fresh=true)∧(l.fresh=false→dn m l=l)
def WU.wk {ls:List Lb} {u:Lb→Bool} {ps:List (Nat×AV)} {rs:List (Lb×Row)} {env:Env} {H:Hp} {m:List (Lb×Lb)} (h:WU ls u ps rs env H m) (lr:rs.map Prod.fst=ls) (hp:∀l∈ah (ps.map Prod.snd),l∈ls)
  (hr:∀q∈rs,∀cs∈q.2.els,∀l∈ah cs,l∈ls):Wk (dn m) env H (o9 ps) (ie u rs):=by
 have sw:∀l,live (ie u rs) l→l∈ls:=fun l ⟨r,h⟩=>by rw[←lr];exact cO.2 ⟨_,fy (cL.1 h),rfl⟩
 refine⟨h.e.we,fun l r hl=>nr h.r (fy (cL.1 hl)),fun l l' h1 h2 e=>gi h.inj l (sw l h1) l' (sw l' h2) e,mu fun l hl=>jb (.inl (by rw[lr];exact hp l hl)),fun l r hl cs bV q hq=> ?_,
  fun l hf=>⟨fun hu=> ?_,fun hl=>(h.fr l (sw l hl)).2 (Lb.Og hf)⟩,fun l hl hf=>(h.fr l (sw l hl)).1 hf⟩
 ·exact jb (.inl (by rw[lr];exact hr _ (fy (cL.1 hl)) cs bV q hq))
 exact jb (by rw[lr];exact h.nf l (Lb.Og hf) hu)
def pe {σ:Type} {S:St} {Q:gI} {c:AC} {k:List It} {env:Env} {H:Hp} (ls:σ→List Lb) (u:σ→Lb→Bool) (ps:σ→List (Nat×AV)) (rs:σ→List (Lb×Row)) (μ:σ→Nat) (s0:σ)
  (lr:∀s,(rs s).map Prod.fst=ls s) (hp:∀s,∀l∈ah ((ps s).map Prod.snd),l∈ls s) (hr:∀s,∀q∈rs s,∀cs∈q.2.els,∀l∈ah cs,l∈ls s) (h0:∃m,WU (ls s0) (u s0) (ps s0) (rs s0) env H m)
  (round:∀s,go S (kM S Q k (fun env H s=>∃m,WU (ls s) (u s) (ps s) (rs s) env H m) μ (μ s)) [.code c] (o9 (ps s)) (ie (u s) (rs s))):lI S Q c k env H:=
 j7 (fun s=>o9 (ps s)) (fun s=>ie (u s) (rs s)) _ (fun _ _ s ⟨m,h⟩=>⟨_,h.wk (lr s) (hp s) (hr s)⟩) μ s0 h0 round
def ad7 (sz:Nat) (l:Lb) (o:Option Lb) (xs:List IV) (H:Hp):Prop:=match o with
 |none=>H l= .live ⟨1,[[.nil0]]⟩∧xs=[]
 |some L=>L≠l∧H l= .live ⟨1,[[.sl L sz 0 xs.length]]⟩∧H L= .live ⟨sz,aB xs⟩
def Xq (sz:Nat) (xs:List IV):Bool→Hp
 |false=>bD Hp.none (.par 0) (.live ⟨1,[[.nil0]]⟩)
 |true=>bD (bD Hp.none (.par 1) (.live ⟨sz,aB xs⟩)) (.par 0) (.live ⟨1,[[.sl (.par 1) sz 0 xs.length]]⟩)
def adm (P:Program) (G:Nat→Option (List IV)) (sz f:Nat) (args:List AV) (xs:List IV) (res:AV) (ys:List IV):Prop:=
 (∀l∈ah args,l= .par 0)∧res.an=[]∧∀b:Bool,(b=false→xs=[])→ey P G f args (Xq sz xs b) fun x H'=>x=res∧∃L,ad7 sz (.par 0) (some L) ys H'
def dy (ρ:Lb→Lb) (sz:Nat) (xs:List IV):dO ρ ⟨sz,aB xs⟩=⟨sz,aB xs⟩:=rk ρ sz xs
def ey.ahr {P:Program} {G:Nat→Option (List IV)} {f:Nat} {args:List AV} {H:Hp} {Q:AV→Hp→Prop} (h:ey P G f args H Q) (kp:Hp→Lb→Prop) :
  ey P G f args H fun x H'=>∃H1,Q x H1∧H'=eg (kp H1) H1:=by
 intro w A β vs hr hv;refine(h w A β vs hr hv).mono ?_;rintro e w' ⟨v,x,H1,β',rfl,hq,lz,hx,hm⟩;exact⟨v,x,eg (kp H1) H1,β',rfl,⟨H1,hq,rfl⟩,lz.eg _,hx.eg _,fun l hl=>by rw[Ne,N9];exact hm l hl⟩
mutual
theorem P4 {ρ ρ':Lb→Lb}:∀x:AV,(∀l∈x.an,ρ l=ρ' l)→bJ ρ x=bJ ρ' x
 | .sl l ..,h| .slk l ..,h| .ptr l ..,h=>by simp[bJ,h l (by simp[AV.an])]
 | .any,_| .un,_| .bool _,_| .int ..,_| .str _,_| .list _,_| .nil0,_| .jK,_| .iT,_| .lptr _,_| .mis _,_=>by simp[bJ]
 | .agg cs,h=>by simp only[AV.an] at h;simp[bJ,NZ cs h]
 | .gf cs,h=>by simp only[AV.an] at h;simp[bJ,NZ cs h]
 | .fn f fs cs,h=>by
  simp only[AV.an,aY] at h;simp[bJ,NZ fs (fun l hl=>h l (.inl hl)),NZ cs (fun l hl=>h l (.inr hl))]
 | .ifc t x,h=>by simp only[AV.an] at h;simp[bJ,P4 x h]
theorem NZ {ρ ρ':Lb→Lb}:∀xs:List AV,(∀l∈ah xs,ρ l=ρ' l)→bu ρ xs=bu ρ' xs
 |[],_=>by simp[bu]
 |x::r,h=>by
  simp only[ah,aY] at h;simp[bu,P4 x (fun l hl=>h l (.inl hl)),NZ r (fun l hl=>h l (.inr hl))]
end
def We {sz:Nat} {xs:List IV} {b:Bool} {q:Lb} {r:Row} (h:Xq sz xs b q= .live r) :
  (q= .par 0∧r=⟨1,[[if b then .sl (.par 1) sz 0 xs.length else .nil0]]⟩)∨(b=true∧q= .par 1∧r=⟨sz,aB xs⟩):=by
 cases b with
 |false=>
  simp only[Xq] at h;by_cases e:q= .par 0
  ·subst e;simp at h;exact .inl ⟨rfl,by rw[←h];rfl⟩
  rw[aq _ _ e] at h;simp[Hp.none] at h
 |true=>
 simp only[Xq] at h;by_cases e:q= .par 0
 ·subst e;simp at h;exact .inl ⟨rfl,by rw[←h];rfl⟩
 rw[aq _ _ e] at h;by_cases e1:q= .par 1
 ·subst e1;simp at h;exact .inr ⟨rfl,rfl,h.symm⟩
 rw[aq _ _ e1] at h;simp[Hp.none] at h
open Classical in
def Zf {S:St} {sz f:Nat} {args U6:List AV} {xs ys:List IV} {res:AV} {H:Hp} {k:AV→Hp→Prop} {u:Tw k} {l N:Lb} {o:Option Lb} (h:adm S.P S.G sz f U6 xs res ys)
  (ha:args=bu (ft l) U6) (hl:ad7 sz l o xs H) (hN:H N= .unused) (Jc:N.fresh=true→l.fresh=true∧∀L,o=some L→L.fresh=true)
  (hk:∀L' kK,(L'=N∨o=some L')→ad7 sz l (some L') ys kK→(∀q,q≠l→q≠N→o≠some q→kK q=H q)→(∀q,H q≠ .unused→kK q≠ .unused)→k res kK):C7 S f args H k u:=by
 obtain⟨h1,h2,h3⟩:=h;have hob:o.isSome=false→xs=[]:=by
  intro ho;cases o with
  |none=>exact hl.2
  |some L=>simp at ho
 have ahs:=(h3 o.isSome hob).ahr fun H1 q=>q= .par 0∨∃n,H1 (.par 0)= .live ⟨1,[[.sl q sz 0 n]]⟩
 let L0:Lb:=o.getD N
 let ρ:Lb→Lb:=fun q=>if q= .par 0 then l else if q= .par 1 then L0 else q
 have adn:ρ (.par 0)=l:=by simp[ρ]
 have ado:ρ (.par 1)=L0:=by simp[ρ]
 have Lv:H l≠ .unused:=by cases o with
  |none=>rw[hl.1];simp
  |some L=>rw[hl.2.1];simp
 have Mz:N≠l:=by rintro rfl;exact Lv hN
 have aht:L0≠l:=by cases o with
  |none=>exact Mz
  |some L=>exact hl.1
 refine .inr<| .inr ⟨⟨ρ,Xq sz xs o.isSome,U6,_,ahs,?_,?_,?_,?_,?_,?_,?_,?_⟩⟩
 ·rw[ha];exact NZ _ fun q hq=>by rw[h1 q hq];simp[ft,ρ]
 ·intro q r hq;rcases We hq with⟨rfl,rfl⟩|⟨hb,rfl,rfl⟩
  ·rw[adn];cases o with
   |none=>rw[hl.1];simp[dO,bu,bJ]
   |some L=>rw[hl.2.1];simp[dO,bu,bJ,ρ,L0]
  rw[ado,dy];cases o with
  |none=>simp at hb
  |some L=>exact hl.2.2
 ·intro q hq;cases hb:o.isSome with
  |false=>
   rw[hb] at hq;simp only[Xq] at hq;by_cases e:q= .par 0
   ·subst e;exact⟨_,by simp[Xq];rfl⟩
   rw[aq _ _ e] at hq;simp[Hp.none] at hq
  |true=>
  rw[hb] at hq;simp only[Xq] at hq;by_cases e:q= .par 0
  ·subst e;exact⟨_,by simp[Xq];rfl⟩
  rw[aq _ _ e] at hq;by_cases e1:q= .par 1
  ·subst e1;exact⟨_,by simp[Xq,bD];rfl⟩
  rw[aq _ _ e1] at hq;simp[Hp.none] at hq
 ·rintro q q' ⟨r,hq⟩ ⟨r',oX⟩ he;rcases We hq with⟨rfl,_⟩|⟨_,rfl,_⟩<;>rcases We oX with⟨rfl,_⟩|⟨_,rfl,_⟩
  ·rfl
  ·rw[adn,ado] at he;exact absurd he.symm aht
  ·rw[adn,ado] at he;exact absurd he aht
  rfl
 ·intro q hq;rw[h1 q hq];cases o.isSome<;>simp[Xq]
 ·rintro q ⟨r,hq⟩;rcases We hq with⟨rfl,_⟩|⟨_,rfl,_⟩<;>rfl
 ·intro q r hq cs bV z hz;rcases We hq with⟨rfl,rfl⟩|⟨hb,rfl,rfl⟩
  ·simp only[List.mem_singleton] at bV;subst bV;cases hb:o.isSome with
   |false=>rw[hb] at hz;simp[ah,AV.an] at hz
   |true=>rw[hb] at hz;simp[ah,AV.an] at hz;subst hz;simp[Xq,bD]
  rw[bU bV] at hz;simp at hz
 rintro x H' ⟨H1,⟨rfl,L,hLa⟩,rfl⟩;obtain⟨ij,hp,hLr⟩:=hLa
 let L1:Lb:=if L= .par 1∧o.isSome=true then L0 else N
 have Je:L1=N∨o=some L1:=by
  by_cases e:L= .par 1∧o.isSome=true
  ·right;simp only[L1,if_pos e,L0];cases o with
   |none=>simp at e
   |some Lo=>rfl
  left;simp only[L1,if_neg e]
 have afB:L1≠l:=by
  rcases Je with e|e
  ·rw[e];exact Mz
  intro e2;rw[e2] at e;cases o with
  |none=>simp at e
  |some Lo=>simp only[Option.some.injEq] at e;exact hl.1 e
 let ρ':Lb→Lb:=fun q=>if q= .par 0 then l else if q=L then L1 else q
 have acJ:ρ' (.par 0)=l:=by simp[ρ']
 have ZP:ρ' L=L1:=by simp[ρ',ij]
 let Hk:Hp:=match o with
  |some Lo=>bD H Lo .dead
  |none=>H
 have Hn:∀q,o≠some q→Hk q=H q:=by
  intro q hq;cases o with
  |none=>rfl
  |some Lo=>exact aq _ _ (fun e=>hq (by rw[e]))
 have ahu:∀q,o=some q→Hk q= .dead:=by
  intro q hq;subst hq;simp[Hk]
 have aK:∀q r,eg (fun q=>q= .par 0∨∃n,H1 (.par 0)= .live ⟨1,[[.sl q sz 0 n]]⟩) H1 q= .live r→(q= .par 0∧r=⟨1,[[.sl L sz 0 ys.length]]⟩)∨(q=L∧r=⟨sz,aB ys⟩):=by
  intro q r hq;obtain⟨g1,g2⟩:=dH.1 hq;rcases g2 with rfl|⟨n,g2⟩
  ·rw[hp] at g1;cases g1;exact .inl ⟨rfl,rfl⟩
  rw[hp] at g2;simp only[Slot.live.injEq,Row.mk.injEq,List.cons.injEq,and_true,true_and,AV.sl.injEq] at g2;obtain⟨rfl,_⟩:=g2;rw[hLr] at g1;cases g1;exact .inr ⟨rfl,rfl⟩
 have agI:eg (fun q=>q= .par 0∨∃n,H1 (.par 0)= .live ⟨1,[[.sl q sz 0 n]]⟩) H1 (.par 0)= .live ⟨1,[[.sl L sz 0 ys.length]]⟩:=dH.2 ⟨hp,.inl rfl⟩;have ad8:eg (fun q=>q= .par 0∨∃n,H1 (.par 0)= .live ⟨1,[[.sl q sz 0 n]]⟩) H1 L= .live ⟨sz,aB ys⟩:=dH.2 ⟨hLr,.inr ⟨_,hp⟩⟩
 let kK:Hp:=bD (bD Hk l (.live ⟨1,[[.sl L1 sz 0 ys.length]]⟩)) L1 (.live ⟨sz,aB ys⟩)
 have hH1:kK L1= .live ⟨sz,aB ys⟩:=by simp[kK]
 have agJ:kK l= .live ⟨1,[[.sl L1 sz 0 ys.length]]⟩:=by
  show bD _ L1 _ l=_;rw[aq _ _ (Ne.symm afB)];simp
 have hHo:∀q,q≠L1→q≠l→kK q=Hk q:=by
  intro q e1 e2;show bD _ L1 _ q=_;rw[aq _ _ e1,aq _ _ e2]
 have GJ:∀q,H q≠ .unused→kK q≠ .unused:=by
  intro q hq;by_cases e1:q=L1
  ·rw[e1,hH1];simp
  by_cases e2:q=l
  ·rw[e2,agJ];simp
  rw[hHo q e1 e2];by_cases e3:o=some q
  ·rw[ahu q e3];simp
  rw[Hn q e3];exact hq
 refine⟨ρ',kK,?_,?_,?_,GJ,?_,?_,?_,?_,?_⟩
 ·rintro q ⟨r,hq⟩ ⟨r',oX⟩;rcases We hq with⟨rfl,_⟩|⟨hb,rfl,_⟩
  ·rw[adn,acJ]
  rcases aK _ _ oX with⟨e,_⟩|⟨e,_⟩
  ·cases e
  rw[ado,e,ZP];simp only[L1,if_pos (⟨e.symm,hb⟩:L= .par 1∧o.isSome=true)]
 ·intro q r hq;by_cases e1:q=L1
  ·subst e1;rw[hH1] at hq;simp only[Slot.live.injEq] at hq;exact .inr ⟨L,_,ad8,ZP,by rw[dy];exact hq.symm⟩
  by_cases e2:q=l
  ·subst e2;rw[agJ] at hq;simp only[Slot.live.injEq] at hq;refine .inr ⟨.par 0,_,agI,acJ,?_⟩;rw[←hq];simp[dO,bu,bJ,ZP]
  rw[hHo q e1 e2] at hq;by_cases e3:o=some q
  ·rw[ahu q e3] at hq;cases hq
  rw[Hn q e3] at hq;refine .inl ⟨hq,?_⟩;rintro z ⟨r',hz⟩ hzq;rcases We hz with⟨rfl,_⟩|⟨hb,rfl,_⟩
  ·rw[adn] at hzq;exact e2 hzq.symm
  rw[ado] at hzq;apply e3;cases o with
  |none=>simp at hb
  |some Lo=>simp only[L0,Option.getD_some] at hzq;rw[hzq]
 ·rintro q q' ⟨r,hq⟩ ⟨r',oX⟩ he;rcases aK _ _ hq with⟨rfl,_⟩|⟨rfl,_⟩<;>rcases aK _ _ oX with⟨rfl,_⟩|⟨rfl,_⟩
  ·rfl
  ·rw[acJ,ZP] at he;exact absurd he.symm afB
  ·rw[acJ,ZP] at he;exact absurd he afB
  rfl
 ·intro q hq;rw[h2] at hq;simp at hq
 ·intro q r hq cs bV z hz;rcases aK _ _ hq with⟨rfl,rfl⟩|⟨rfl,rfl⟩
  ·simp only[List.mem_singleton] at bV;subst bV;simp only[ah,AV.an,List.append_nil,List.mem_singleton] at hz;subst hz;rw[ZP,hH1];simp
  rw[bU bV] at hz;simp at hz
 ·rintro q ⟨r,hq⟩;rcases aK _ _ hq with⟨rfl,_⟩|⟨rfl,_⟩
  ·left;cases o.isSome<;>exact⟨_,by simp[Xq];rfl⟩
  by_cases e:q= .par 1∧o.isSome=true
  ·left;rw[e.1,e.2];exact⟨_,by simp[Xq,bD];rfl⟩
  right;rw[ZP];simp only[L1,if_neg e];refine⟨hN,fun hf=> .inr ?_⟩;obtain⟨g1,g2⟩:=Jc hf;rintro z ⟨r',hz⟩;rcases We hz with⟨rfl,_⟩|⟨hb,rfl,_⟩
  ·rw[adn];exact g1
  rw[ado];cases o with
  |none=>simp at hb
  |some Lo=>exact g2 Lo rfl
 ·rintro q (hq|⟨l1,r1,cs,g1,g2,g3⟩) _
  ·rw[h2] at hq;simp at hq
  rcases aK _ _ g1 with⟨rfl,rfl⟩|⟨rfl,rfl⟩
  ·simp only[List.mem_singleton] at g2;subst g2;simp only[ah,AV.an,List.append_nil,List.mem_singleton] at g3;subst g3;exact⟨_,ad8⟩
  rw[bU g2] at g3;simp at g3
 rw[j8 _ _ h2];refine hk L1 kK Je ⟨afB,agJ,hH1⟩ ?_ GJ;intro q e1 e2 e3;have:q≠L1:=by
  rintro rfl;rcases Je with e|e
  ·exact e2 e
  exact e3 e
 rw[hHo q this e1,Hn q e3]
end Go.Am

namespace Go.Am
open Go Go.RowKit
def wk (d:Doc):Nat→Int→Int→Int→Option Int
 |0,_,_,_=>none
 |f+1,n,p,nx=>if n=nx then match d[n.toNat]? with
   |some x=>if x.parent=p then x.kids.foldlM (fun q k=>wk d f k n q) (nx+1) else none
   |none=>none
  else none
def ob {α:Type} {l:List α} {n:Nat} {x:α} {r:List α} (h:l.drop n=x::r):l[n]?=some x∧l.drop (n+1)=r:=by
 have h1:(l.drop n)[0]?=some x:=by rw[h];rfl
 refine⟨by simpa[fG] using h1,?_⟩;have:(l.drop n).drop 1=r:=by rw[h];rfl
 rwa[ma] at this
def drop_eq {α:Type} {l:List α} {n:Nat} {x:α} (h:l[n]?=some x):l.drop n=x::l.drop (n+1):=by
 obtain⟨hn,rfl⟩:=aI.1 h;exact oB hn
def acK (d:Doc):∀(f:Nat),
  (∀(m:Nat) (n p r:Int),wk d f n p m=some r→n=m∧∃x:Tree,x.dep≤f∧(∃post,d.drop m=x.flat m p++post)∧r=((m+x.jz:Nat):Int)):=by
 intro f;induction f with
 |zero=>intro m n p r h;simp[wk] at h
 |succ f ih=>
 intro m n p r h;unfold wk at h;split at h
 ·rename_i hn;subst hn;simp only[a7] at h;cases hx:d[m]? with
  |none=>rw[hx] at h;simp at h
  |some nd=>
  rw[hx] at h;simp only at h;split at h
  ·rename_i hp;refine⟨rfl,?_⟩;have kids:∀(ks:List Int) (q:Nat) (r:Int),ks.foldlM (fun q k=>wk d f k (m:Int) q) (q:Int)=some r→∃xs:List Tree,ks=mw q xs∧fB xs≤f∧(∃post,d.drop q=fC q m xs++post)∧r=((q+dP xs:Nat):Int):=by
    intro ks;induction ks with
    |nil=>intro q r h;simp at h;subst h;exact⟨[],rfl,by simp[fB],⟨_,by simp[fC];rfl⟩,by simp[dP]⟩
    |cons k ks Li=>
    intro q r h;rw[rJ] at h;obtain⟨q',h1,h2⟩:=aZ.1 h;obtain⟨rfl,x,x1,⟨post,x2⟩,rfl⟩:=ih q k m q' h1;obtain⟨xs,e1,e2,⟨ahv,e3⟩,rfl⟩:=Li _ _ h2;refine⟨x::xs,by simp only[mw,e1],by simp only[fB];omega,⟨ahv,?_⟩,by simp only[dP,gQ]⟩;have:d.drop (q+x.jz)=post:=by
     rw[←ma,x2,je (by rw[x.j9];exact bm _),nw (by rw[x.j9];exact bm _)];rfl
    rw[x2,←this,e3];simp[fC]
   obtain⟨xs,e1,e2,⟨post,e3⟩,rfl⟩:=kids nd.kids (m+1) r (by simpa using h);refine⟨.mk nd.text nd.s nd.attrs xs,by simp only[Tree.dep];omega,⟨post,?_⟩,by simp only[Tree.jz];congr 1;omega⟩;rw[drop_eq hx,e3];simp only[Tree.flat,List.cons_append,jD,rF];exact Node.ext' rfl rfl rfl hp e1
  simp at h
 simp at h
def Gq (d:Doc):∀(f:Nat) (x:Tree) (m:Nat) (p:Int),x.dep≤f→(∃post,d.drop m=x.flat m p++post)→wk d f m p m=some ((m+x.jz:Nat):Int):=by
 intro f;induction f with
 |zero=>intro x m p h;rw[x.n7] at h;omega
 |succ f ih=>
 intro x m p hd ⟨post,hx⟩;rw[x.qm] at hx;obtain⟨h1,h2⟩:=ob hx;unfold wk;rw[bf rfl,a7,h1];simp only[Tree.node,eT];have kids:∀(xs:List Tree) (q:Nat),fB xs≤f→(∃post,d.drop q=fC q m xs++post)→(mw q xs).foldlM (fun q k=>wk d f k (m:Int) q) (q:Int)=some ((q+dP xs:Nat):Int):=by
  intro xs;induction xs with
  |nil=>intro q _ _;simp[mw,dP]
  |cons y ys Li=>
  intro q hq ⟨post,hp⟩;simp only[fB] at hq;simp only[fC,eW] at hp;simp only[mw,rJ];rw[ih y q m (by omega) ⟨_,hp⟩];simp only[qt,cu];rw[Li (q+y.jz) (by omega) ⟨post,by rw[←ma,hp,je (by rw[y.j9];exact bm _),nw (by rw[y.j9];exact bm _)];rfl⟩];simp only[dP,gQ]
 have Lj:=x.n7;have:=kids x.kids (m+1) (by omega) ⟨post,h2⟩;rw[show((m:Int)+1)=((m+1:Nat):Int) by omega,this,x.n8];congr 2;omega
mutual
theorem Tree.ZQ:∀(x y:Tree) (off:Nat) (p:Int) (r r':List Node),x.flat off p++r=y.flat off p++r'→x=y
 | .mk t s as ks,.mk t' s' U0 Hj,off,p,r,r',h=>by
  simp only[Tree.flat,List.cons_append,jD,Node.mk.injEq] at h;obtain⟨⟨rfl,rfl,rfl,_,hk⟩,h⟩:=h;have hl:ks.length=Hj.length:=by have:=jR List.length hk;simpa[VS] using this
  rw[aay ks Hj (off+1) off r r' hl h]
theorem aay:∀(xs ys:List Tree) (off p:Nat) (r r':List Node),xs.length=ys.length→fC off p xs++r=fC off p ys++r'→xs=ys
 |[],[],_,_,_,_,_,_=>rfl
 |[],_::_,_,_,_,_,h,_=>by simp at h
 |_::_,[],_,_,_,_,h,_=>by simp at h
 |x::xs,y::ys,off,p,r,r',hl,h=>by
  simp only[fC,eW] at h;have e:=x.ZQ y off p _ _ h;subst e;have:=List.append_cancel_left h;rw[aay xs ys _ p r r' (by simpa using hl) this]
end
def adp {x y:Tree} (h:lW x=lW y):x=y:=x.ZQ y 0 (-1) [] [] (by simpa[lW] using h)
def pf (x:Tree):(lW x).length=x.jz:=x.j9 0 (-1)
def uF (d:Doc):Prop:=∃x:Tree,x.d_=true∧d=lW x
open Classical in
noncomputable def Vo (d:Doc):Bool:=decide (uF d)
def XW {d:Doc}:Vo d=true↔uF d:=by simp[Vo]
def Yj {x:Tree} (h:x.d_=true):Vo (lW x)=true:=XW.2 ⟨x,h,rfl⟩
def XX {d:Doc} (h:¬uF d):Vo d=false:=by simp[Vo,h]
def ia (x:Tree):x.d_=true↔x.text=false∧x.dep≤8∧x.jz≤80∧x.fu=true:=by
 simp only[Tree.d_,bw,kD,dj];constructor
 ·rintro⟨h1,h2,h3,h4⟩;exact⟨h1,by omega,by omega,h4⟩
 rintro⟨h1,h2,h3,h4⟩;exact⟨h1,by omega,by omega,h4⟩
def agK {d:Doc} (h:wk d 8 0 (-1) 0=some (d.length:Int)):∃x:Tree,x.dep≤8∧d=lW x:=by
 obtain⟨_,x,h1,⟨post,h2⟩,h3⟩:=acK d 8 0 0 (-1) _ h;refine⟨x,h1,?_⟩;simp only[e_,bM] at h2 h3;have hl:post=[]:=by
  have:=jR List.length h2;rw[cy,x.j9] at this;have:x.jz=d.length:=by omega
  exact gd.1 (by omega)
 rw[h2,hl,bO];rfl
def A3 {x:Tree} (h:x.dep≤8):wk (lW x) 8 0 (-1) 0=some ((lW x).length:Int):=by
 have:=Gq (lW x) 8 x 0 (-1) h ⟨[],by simp[lW]⟩;rw[pf];simpa using this
end Go.Am

namespace Go.Am
open Go Go.RowKit
def Tree.Gr (x:Tree) (s:Bs):Tree:= .mk x.text s x.attrs x.kids
def Cd (p:Bool):List Tree→Bool
 |[]=>p
 |x::r=>Cd x.text r
def grow (s:Bs):List Tree→List Tree
 |[]=>[]
 |[x]=>[x.Gr (x.s++s)]
 |x::y::r=>x::grow s (y::r)
def push (out:List Tree) (x:Tree):List Tree:=
 if x.text&&x.s==[] then out else if x.text&&Cd false out then grow x.s out else out++[x]
mutual
def Tree.jn:Tree→Tree
 | .mk t s as ks=> .mk t s as (Xc [] ks)
def Xc (out:List Tree):List Tree→List Tree
 |[]=>out
 |x::r=>Xc (push out x.jn) r
end
def Wf (l:List Tree):List Tree:=Xc [] l
def Tree.acL (x:Tree):x.jn= .mk x.text x.s x.attrs (Wf x.kids):=by cases x;simp[Tree.jn,Wf,Tree.text,Tree.s,Tree.attrs,Tree.kids]
def Tree.Yz (x:Tree):x.jn.text=x.text:=by rw[x.acL];rfl
def Tree.ad9 (x:Tree):x.jn.s=x.s:=by rw[x.acL];rfl
def Tree.ad_ (x:Tree):x.jn.attrs=x.attrs:=by rw[x.acL];rfl
def Tree.afC (x:Tree):x.jn.kids=Wf x.kids:=by rw[x.acL];rfl
theorem aaz:∀(xs ys out:List Tree),Xc out (xs++ys)=Xc (Xc out xs) ys
 |[],ys,out=>by simp[Xc]
 |x::r,ys,out=>by simp[Xc,aaz r ys]
theorem ajC (x:Tree):∀(p:Bool) (xs:List Tree),Cd p (xs++[x])=x.text
 |_,[]=>rfl
 |p,y::r=>ajC x y.text r
theorem aaA (p:Bool):∀(xs:List Tree),xs≠[]→∃y,xs[xs.length - 1]?=some y∧Cd p xs=y.text
 |[],h=>absurd rfl h
 |[x],_=>⟨x,rfl,rfl⟩
 |x::y::r,_=>by
  obtain⟨z,h1,h2⟩:=aaA x.text (y::r) (by simp);exact⟨z,by simpa using h1,by simpa[Cd] using h2⟩
theorem abe (s:Bs):∀(xs:List Tree),(grow s xs).length=xs.length
 |[]=>rfl
 |[x]=>rfl
 |x::y::r=>by simp only[grow,cG,abe s (y::r)]
theorem acM (s:Bs):∀(xs:List Tree) (y:Tree),xs[xs.length - 1]?=some y→grow s xs=xs.set (xs.length - 1) (y.Gr (y.s++s))
 |[],y,h=>by simp at h
 |[x],y,h=>by simp at h;subst h;rfl
 |x::z::r,y,h=>by
  have:=acM s (z::r) y (by simpa using h);simp only[grow,this];simp
theorem ajQ (s:Bs) (x:Tree):∀(xs:List Tree),grow s (xs++[x])=xs++[x.Gr (x.s++s)]
 |[]=>rfl
 |[y]=>rfl
 |y::z::r=>by simp only[List.cons_append,grow,jD,dK];exact ajQ s x (z::r)
mutual
def Tree.jd:Tree→Bool
 | .mk _ _ _ ks=>Kf false ks
def Kf (p:Bool):List Tree→Bool
 |[]=>true
 |x::r=> !(x.text&&(p||x.s==[]))&&(x.jd&&Kf x.text r)
end
theorem abf (s:Bs):∀(xs:List Tree),dE (grow s xs)≤dE xs+s.length
 |[]=>by simp[grow,dE]
 |[x]=>by cases x;simp[grow,dE,Tree.Gr,Tree.wt,Tree.text,Tree.s,Tree.attrs,Tree.kids];omega
 |x::y::r=>by have:=abf s (y::r);simp only[grow,dE] at this ⊢;omega
def aea (out:List Tree) (x:Tree):dE (push out x)≤dE out+x.wt:=by
 unfold push;split
 ·omega
 split
 ·have:=abf x.s out;have:=x.gx;omega
 rw[kn];simp[dE]
mutual
theorem Tree.ahw:∀x:Tree,x.jn.wt≤x.wt
 | .mk t s as ks=>by have:=YA [] ks;simp only[Tree.jn,Tree.wt,dE] at this ⊢;omega
theorem YA:∀(out l:List Tree),dE (Xc out l)≤dE out+dE l
 |out,[]=>by simp[Xc,dE]
 |out,x::r=>by
  have:=YA (push out x.jn) r;have:=aea out x.jn;have:=x.ahw;simp only[Xc,dE];omega
end
def ab' (l:List Tree):dE (Wf l)≤dE l:=by have:=YA [] l;simp only[dE] at this;unfold Wf;omega
def ajw (xs:List Tree):Bs:=xs.flatMap Tree.s
def aju (xs:List Tree):Option Tree:=xs.find? fun x=> !(x.s==[])
def akb (xs:List Tree) (x:Tree):ajw (xs++[x])=ajw xs++x.s:=by simp[ajw]
def ajY (xs:List Tree) (x:Tree):aju (xs++[x])=(aju xs).or (if x.s==[] then none else some x):=by
 simp only[aju,List.find?_append,List.find?_cons,List.find?_nil];congr 1;cases x.s==[]<;>rfl
def ajZ (x:Tree) (a b:Bs):(x.Gr a).Gr b=x.Gr b:=rfl
def ajU (x:Tree) (a:Bs):(x.Gr a).s=a:=rfl
def ajD (x:Tree) (a:Bs):(x.Gr a).text=x.text:=rfl
def ajL (x:Tree):x.Gr x.s=x:=by cases x;rfl
theorem ajM:∀(xs:List Tree) (out:List Tree) (y:Tree),(∀x∈xs,x.text=true)→y.text=true→Xc (out++[y]) xs=out++[y.Gr (y.s++ajw xs)]
 |[],out,y,_,_=>by simp[Xc,ajw,ajL]
 |x::r,out,y,h,hy=>by
  have hx:=h x (by simp);have hp:push (out++[y]) x.jn=out++[y.Gr (y.s++x.s)]:=by
   unfold push;rw[x.Yz,hx,x.ad9,ajC,hy];by_cases e:x.s=[]
   ·simp[e,ajL]
   simp[e,ajQ]
  simp only[Xc,hp];rw[ajM r out _ (fun z hz=>h z (by simp[hz])) (by rw[ajD];exact hy)];simp[ajw,ajU,ajZ]
theorem ajR:∀(xs:List Tree) (out:List Tree),(∀x∈xs,x.text=true)→Cd false out=false →
  Xc out xs=match aju xs with
   |none=>out
   |some f=>out++[f.jn.Gr (ajw xs)]
 |[],out,_,_=>by simp[Xc,aju]
 |x::r,out,h,ho=>by
  have hx:=h x (by simp);by_cases e:x.s=[]
  ·have hp:push out x.jn=out:=(by unfold push;rw[x.Yz,hx,x.ad9,e];simp);have:=ajR r out (fun z hz=>h z (by simp[hz])) ho;simp only[Xc,hp,this];simp[aju,e,ajw]
  have hp:push out x.jn=out++[x.jn]:=by unfold push;rw[x.Yz,hx,x.ad9,ho];simp[e]
  simp only[Xc,hp];rw[ajM r out _ (fun z hz=>h z (by simp[hz])) (by rw[x.Yz];exact hx)];simp[aju,e,ajw,x.ad9]
def aj2 (out:List Tree) (x:Tree) (h:x.text=false):Xc out [x]=out++[x.jn]:=by
 simp only[Xc,push];rw[x.Yz,h];simp

def Xi (mv:Nat):AC:=
(aM [zi 2] (aM [zi 3] (.gh (.own 3 4) (.seq (aM [MR 7 0,oy 8 7,gH 9 0] (.block 0 (.loop (aM [et 10 .lss 9 8] (.seq (.cond (.t 10) .skip (.exit 0)) (.seq (.block 1 (aM [jL 11 7 9 4,gz 12 4 11,aQ 5 (.new [(.bool false),(.str []),.nil0,.nil0]),gg (.store 4 (.t 5) (.t 12))] (aM [ep 13 5 3,fm 14 13,aQ 15 (.call mv [(.t 14)]),ep 16 5 3,gg (.store 1 (.t 16) (.t 15))] (aM [MR 17 3,oy 18 17,MR 6 18] (.block 2 (aM [ep 24 5 0,fm 25 24,MR 26 25,Wb 27 26 5 1,jm 28 26 27,dW 29 26 (.bin .eql (.t 28) (.c (.str []))),jT 30 26 29,MR 23 30] (.cond (.t 23) .skip (aM [ep 32 5 0,fm 33 32,MR 34 33,cU 35 34 6,dW 36 34 (.bin .gtr (.t 35) (jS 0)),jT 37 34 36,MR 38 37,cU 39 38 3,cU 40 38 6,dW 41 38 (.bin .sub (.t 40) (jS 1)),dW 42 38 (.Vc (.t 39) (.t 41) 4),Wb 43 38 42 0,jm 44 38 43,jT 45 38 44,MR 31 45] (.cond (.t 31) (.VL [MR 46 3,MR 47 6,eY 48 .sub 47 1,jL 49 46 48 4,ep 50 49 1,fm 51 50,ep 52 5 1,fm 53 52,et 54 .add 51 53,jL 55 46 48 4,ep 56 55 1,gg (.store 1 (.t 56) (.t 54))] [[],[],[1],[0,2],[3],[4],[],[6],[5,7],[0,2,0,1,2,3,4,5,6,7,8],[9,0,1,2,3,4,5,6,7,8],[10,8,0,1,2,3,4,5,6,7,8]] [.no,.no,.no,.no,.no,(.rw [.loc 3] []),.no,.rw [.loc 5] [],.no,.no,.no,(.rw [] [.loc 3])]) (.cq [MR 19 3,gz 20 4 5,aQ 21 (.lits 1 4 [(.bool false),(.str []),.nil0,.nil0] [(0,(.t 20))]),aQ 22 (.app (.t 19) (.t 21) 4 72),MR 3 22])))))))))) (.cq [eY 57 .add 9 1,MR 9 57]))))))) (aM [MR 58 3,MR 2 58] (.gh (.zS (.loc 3) 2) .ret))))))
def Tree.ahx (x:Tree):x.cs.map IV.dQ=[.bool x.text,.str x.s,.list (cD x.attrs),.list (dq x.kids)]:=rfl
def afD {P:Program} {G:Nat→Option (List IV)} {mv:Nat} (hF:aw P G mv=some (59,[(none,2)],(Xi mv).bare)) (l:List Tree) (hx:dE l≤B)
  (hJ:∀x∈l,au P G mv [.list (dq x.kids)] (.list (dq (Wf x.kids)))):au P G mv [.list (dq l)] (.list (dq (Wf l))):=by
 refine aR hF (by simp) (by simp[ah,AV.an]) (by simp[AV.an]) ?_;have hl:=eZ l;unfold Xi;simp only[↓aX,mX,reduceCtorEq,Nat.reduceEqDiff,Nat.reduceLT,Nat.reduceLeDiff,Nat.reduceAdd,Nat.reduceMul,Int.reduceToNat,Int.reduceLE,Int.reduceLT,bF];refine xL (σ:={i:Nat // i≤l.length}) 3 4 (fun q=>[(7,.list (dq l)),(8,.int .i64 l.length),(9,.int .i64 q.1)]) (fun q=>dq (Xc [] (l.take q.1))) (fun q=>l.length - q.1) ⟨0,by simp⟩ (fun _=>rfl) ?_ ?_
 ·simp only[Gi,↓aX,mX,reduceCtorEq,Nat.reduceEqDiff,Nat.reduceLT,Nat.reduceLeDiff,Nat.reduceAdd,Nat.reduceMul,Int.reduceToNat,Int.reduceLE,Int.reduceLT];exact⟨rfl,3,[],rfl,rfl,rfl⟩
 rintro⟨i,hi⟩;have zO:=YA [] (l.take i);have pU:=lV l i;have wB:=eZ (Xc [] (l.take i));simp only[dE] at zO;simp only[↓aX,mX,reduceCtorEq,Nat.reduceEqDiff,Nat.reduceLT,Nat.reduceLeDiff,Nat.reduceAdd,Nat.reduceMul,Int.reduceToNat,Int.reduceLE,Int.reduceLT,bF];refine AU (fun h=> ?_) (fun h=> ?_)
 ·have bI:i<l.length:=by simpa using h
  obtain⟨x,Ja⟩:∃x,l[i]?=some x:=⟨_,aC bI⟩;have hw:IntKind.i64.wrap ((i:Int)+1)=((i+1:Nat):Int):=wrap64 (by omega) (by unfold B at hx;omega);have gr:Xc [] (l.take (i+1))=push (Xc [] (l.take i)) x.jn:=by rw[fa,Ja,aaz];rfl
  simp only[↓aX,mX,reduceCtorEq,Nat.reduceEqDiff,Nat.reduceLT,Nat.reduceLeDiff,Nat.reduceAdd,Nat.reduceMul,Int.reduceToNat,Int.reduceLE,Int.reduceLT,h,hw,iy,Ja,lT,Tree.cJ,Tree.cs];generalize ai0:Xc [] (l.take i)=out at *;refine ay (hJ x (aV Ja)) ?_;have hlen:(dq out).length=out.length:=bF _;have agL:dq (out++[x.jn])=dq out++[.agg [.bool x.text,.str x.s,.list (cD x.attrs),.list (dq (Wf x.kids))]]:=by
   rw[qh];simp[dq,Tree.o_,Tree.cs,x.Yz,x.ad9,x.ad_,x.afC]
  have next:∀(afE:List Tree) (env:Env) (H:Hp) (n:Nat),push out x.jn=afE→NF H→env 7= .list (dq l)→env 8= .int .i64 l.length→env 9= .int .i64 ((i+1:Nat):Int)→env 3= .sl (.loc n) 4 0 afE.length→H (.loc n)= .live ⟨4,aB (dq afE)⟩ →
    ∃s:{i:Nat // i≤l.length},l.length - s.1<l.length - i∧WR 3 4 (fun q:{i:Nat // i≤l.length}=>[(7,.list (dq l)),(8,.int .i64 l.length),(9,.int .i64 q.1)]) (fun q=>dq (Xc [] (l.take q.1))) env H s:=by
   intro afE env H n h1 h2 h3 h4 h5 h6 h7;refine⟨⟨i+1,bI⟩,by simp only;omega,?_⟩;rw[Gi];simp only[xM,AT,rF,gr,h1,bF];exact⟨h2,⟨h3,h4,h5⟩,n,_,h6,h7,rfl⟩
  simp only[↓aX,mX,reduceCtorEq,Nat.reduceEqDiff,Nat.reduceLT,Nat.reduceLeDiff,Nat.reduceAdd,Nat.reduceMul,Int.reduceToNat,Int.reduceLE,Int.reduceLT,bF];cases ht:x.text with
  |false=>
   have hp:push out x.jn=out++[x.jn]:=(by unfold push;rw[x.Yz,ht];simp);simp only[↓aX,mX,reduceCtorEq,Nat.reduceEqDiff,Nat.reduceLT,Nat.reduceLeDiff,Nat.reduceAdd,Nat.reduceMul,Int.reduceToNat,Int.reduceLE,Int.reduceLT,bF];rw[qg 4 72 22 3 (dq out) (.agg [.bool false,.str x.s,.list (cD x.attrs),.list (dq (Wf x.kids))]) (by simp[ae]) hlen rfl (by simp[IV.cells]) (by unfold B at hx;omega) (by decide) (by decide) (by simp[ae,Hp.none])];simp only[↓aX,mX,reduceCtorEq,Nat.reduceEqDiff,Nat.reduceLT,Nat.reduceLeDiff,Nat.reduceAdd,Nat.reduceMul,Int.reduceToNat,Int.reduceLE,Int.reduceLT,hw];refine next _ _ _ 22 hp (by simp only[↓aX,mX,reduceCtorEq,Nat.reduceEqDiff,Nat.reduceLT,Nat.reduceLeDiff,Nat.reduceAdd,Nat.reduceMul,Int.reduceToNat,Int.reduceLE,Int.reduceLT]) rfl rfl rfl (by simp only[↓aX,mX,reduceCtorEq,Nat.reduceEqDiff,Nat.reduceLT,Nat.reduceLeDiff,Nat.reduceAdd,Nat.reduceMul,Int.reduceToNat,Int.reduceLE,Int.reduceLT];simp) ?_
   rw[agL,ht];simp only[↓aX,mX,reduceCtorEq,Nat.reduceEqDiff,Nat.reduceLT,Nat.reduceLeDiff,Nat.reduceAdd,Nat.reduceMul,Int.reduceToNat,Int.reduceLE,Int.reduceLT]
  |true=>
  simp only[↓aX,mX,reduceCtorEq,Nat.reduceEqDiff,Nat.reduceLT,Nat.reduceLeDiff,Nat.reduceAdd,Nat.reduceMul,Int.reduceToNat,Int.reduceLE,Int.reduceLT,bF];cases hs:(x.s==[]) with
  |true=>
   have hp:push out x.jn=out:=(by unfold push;rw[x.Yz,ht,x.ad9,hs];rfl);simp only[↓aX,mX,reduceCtorEq,Nat.reduceEqDiff,Nat.reduceLT,Nat.reduceLeDiff,Nat.reduceAdd,Nat.reduceMul,Int.reduceToNat,Int.reduceLE,Int.reduceLT,hw];exact next _ _ _ 3 hp (by simp only[↓aX,mX,reduceCtorEq,Nat.reduceEqDiff,Nat.reduceLT,Nat.reduceLeDiff,Nat.reduceAdd,Nat.reduceMul,Int.reduceToNat,Int.reduceLE,Int.reduceLT]) rfl rfl rfl (by simp only[↓aX,mX,reduceCtorEq,Nat.reduceEqDiff,Nat.reduceLT,Nat.reduceLeDiff,Nat.reduceAdd,Nat.reduceMul,Int.reduceToNat,Int.reduceLE,Int.reduceLT,bF]) rfl
  |false=>
  simp only[↓aX,mX,reduceCtorEq,Nat.reduceEqDiff,Nat.reduceLT,Nat.reduceLeDiff,Nat.reduceAdd,Nat.reduceMul,Int.reduceToNat,Int.reduceLE,Int.reduceLT];by_cases h0:out=[]
  ·have hp:push out x.jn=out++[x.jn]:=(by unfold push;rw[x.Yz,ht,x.ad9,hs,h0];rfl);rw[show decide ((out.length:Int)>0)=false by rw[h0];rfl];simp only[↓aX,mX,reduceCtorEq,Nat.reduceEqDiff,Nat.reduceLT,Nat.reduceLeDiff,Nat.reduceAdd,Nat.reduceMul,Int.reduceToNat,Int.reduceLE,Int.reduceLT,bF];rw[qg 4 72 22 3 (dq out) (.agg [.bool true,.str x.s,.list (cD x.attrs),.list (dq (Wf x.kids))]) (by simp[ae]) hlen rfl (by simp[IV.cells]) (by unfold B at hx;omega) (by decide) (by decide) (by simp[ae,Hp.none])];simp only[↓aX,mX,reduceCtorEq,Nat.reduceEqDiff,Nat.reduceLT,Nat.reduceLeDiff,Nat.reduceAdd,Nat.reduceMul,Int.reduceToNat,Int.reduceLE,Int.reduceLT,hw];refine next _ _ _ 22 hp (by simp only[↓aX,mX,reduceCtorEq,Nat.reduceEqDiff,Nat.reduceLT,Nat.reduceLeDiff,Nat.reduceAdd,Nat.reduceMul,Int.reduceToNat,Int.reduceLE,Int.reduceLT]) rfl rfl rfl (by simp only[↓aX,mX,reduceCtorEq,Nat.reduceEqDiff,Nat.reduceLT,Nat.reduceLeDiff,Nat.reduceAdd,Nat.reduceMul,Int.reduceToNat,Int.reduceLE,Int.reduceLT];simp) ?_
   rw[agL,ht];simp only[↓aX,mX,reduceCtorEq,Nat.reduceEqDiff,Nat.reduceLT,Nat.reduceLeDiff,Nat.reduceAdd,Nat.reduceMul,Int.reduceToNat,Int.reduceLE,Int.reduceLT]
  have xg:0<out.length:=qp.2 h0;obtain⟨y,hy,TI⟩:=aaA false out h0;have Es:IntKind.i64.wrap ((out.length:Int) - 1)=((out.length - 1:Nat):Int):=by rw[wrap64 (by omega) (by unfold B at hx;omega)];omega
  have jY:(aB (dq out))[out.length - 1]?=some [.bool y.text,.str y.s,.list (cD y.attrs),.list (dq y.kids)]:=by rw[xT,iy,hy];simp[Tree.cJ,Tree.cs,IV.dQ]
  have iG:out.length - 1<out.length:=by omega
  rw[show decide ((out.length:Int)>0)=true by simp;exact xg];simp only[↓aX,mX,reduceCtorEq,Nat.reduceEqDiff,Nat.reduceLT,Nat.reduceLeDiff,Nat.reduceAdd,Nat.reduceMul,Int.reduceToNat,Int.reduceLE,Int.reduceLT,Es,iG,jY,bF];cases hyt:y.text with
  |false=>
   have hp:push out x.jn=out++[x.jn]:=(by unfold push;rw[x.Yz,ht,x.ad9,hs,TI,hyt];rfl);simp only[↓aX,mX,reduceCtorEq,Nat.reduceEqDiff,Nat.reduceLT,Nat.reduceLeDiff,Nat.reduceAdd,Nat.reduceMul,Int.reduceToNat,Int.reduceLE,Int.reduceLT,bF];rw[qg 4 72 22 3 (dq out) (.agg [.bool true,.str x.s,.list (cD x.attrs),.list (dq (Wf x.kids))]) (by simp[ae]) hlen rfl (by simp[IV.cells]) (by unfold B at hx;omega) (by decide) (by decide) (by simp[ae,Hp.none])];simp only[↓aX,mX,reduceCtorEq,Nat.reduceEqDiff,Nat.reduceLT,Nat.reduceLeDiff,Nat.reduceAdd,Nat.reduceMul,Int.reduceToNat,Int.reduceLE,Int.reduceLT,hw];refine next _ _ _ 22 hp (by simp only[↓aX,mX,reduceCtorEq,Nat.reduceEqDiff,Nat.reduceLT,Nat.reduceLeDiff,Nat.reduceAdd,Nat.reduceMul,Int.reduceToNat,Int.reduceLE,Int.reduceLT]) rfl rfl rfl (by simp only[↓aX,mX,reduceCtorEq,Nat.reduceEqDiff,Nat.reduceLT,Nat.reduceLeDiff,Nat.reduceAdd,Nat.reduceMul,Int.reduceToNat,Int.reduceLE,Int.reduceLT];simp) ?_
   rw[agL,ht];simp only[↓aX,mX,reduceCtorEq,Nat.reduceEqDiff,Nat.reduceLT,Nat.reduceLeDiff,Nat.reduceAdd,Nat.reduceMul,Int.reduceToNat,Int.reduceLE,Int.reduceLT]
  |true=>
  have hp:push out x.jn=grow x.s out:=by unfold push;rw[x.Yz,ht,x.ad9,hs,TI,hyt];rfl
  have hg:=acM x.s out y hy;simp only[↓aX,mX,reduceCtorEq,Nat.reduceEqDiff,Nat.reduceLT,Nat.reduceLeDiff,Nat.reduceAdd,Nat.reduceMul,Int.reduceToNat,Int.reduceLE,Int.reduceLT,Es,iG,jY,bF,hyt];refine⟨rfl,?_⟩;have Tm:y.s.length+x.s.length≤9223372036854775807:=by
   have h1:=jx _ _ _ hy;have h2:=y.gx;have h3:=jx _ _ _ Ja;have h4:=x.gx;unfold B at hx;omega
  simp only[↓aX,mX,reduceCtorEq,Nat.reduceEqDiff,Nat.reduceLT,Nat.reduceLeDiff,Nat.reduceAdd,Nat.reduceMul,Int.reduceToNat,Int.reduceLE,Int.reduceLT,Tm,Es,iG,jY,bF,hyt,lQ,hw];refine next (grow x.s out) _ _ 3 hp (by simp only[↓aX,mX,reduceCtorEq,Nat.reduceEqDiff,Nat.reduceLT,Nat.reduceLeDiff,Nat.reduceAdd,Nat.reduceMul,Int.reduceToNat,Int.reduceLE,Int.reduceLT]) rfl rfl rfl (by simp only[↓aX,mX,reduceCtorEq,Nat.reduceEqDiff,Nat.reduceLT,Nat.reduceLeDiff,Nat.reduceAdd,Nat.reduceMul,Int.reduceToNat,Int.reduceLE,Int.reduceLT,bF,abe]) ?_
  have hiv:(y.Gr (y.s++x.s)).iv.cells.map IV.dQ=[.bool true,.str (y.s++x.s),.list (cD y.attrs),.list (dq y.kids)]:=by
   rw[Tree.cJ,Tree.ahx];simp[Tree.Gr,Tree.text,Tree.s,Tree.attrs,Tree.kids];rw[←hyt];rfl
  simp only[↓aX,mX,reduceCtorEq,Nat.reduceEqDiff,Nat.reduceLT,Nat.reduceLeDiff,Nat.reduceAdd,Nat.reduceMul,Int.reduceToNat,Int.reduceLE,Int.reduceLT];have vf:dq (out.set (out.length - 1) (y.Gr (y.s++x.s)))=(dq out).set (out.length - 1) (y.Gr (y.s++x.s)).iv:=by rw[ix,ix,rH]
  rw[hg,vf,←xU,hiv]
 simp only[↓aX,mX,reduceCtorEq,Nat.reduceEqDiff,Nat.reduceLT,Nat.reduceLeDiff,Nat.reduceAdd,Nat.reduceMul,Int.reduceToNat,Int.reduceLE,Int.reduceLT,h];refine⟨4,dq (Xc [] (l.take i)),0,_,rfl,rfl,by rw[bF];omega,pa _,?_⟩;have XV:i=l.length:=by simp at h;omega
 subst XV;simp only[Wf,ea,e_,bF];congr 1;exact bo (by rw[bF];exact bm _)
end Go.Am
