import Derived.Test.YtfinkeaikbmpgaaGreatDoorKAm24
set_option linter.unusedSimpArgs false
set_option linter.unusedVariables false
set_option linter.unnecessarySimpa false
set_option linter.defProp false
/- THE ABSTRACT MACHINE, part 33: slices held against nil; loops of calls with pointers. -/
namespace Go.Am
open Go Go.RowKit
inductive Tb (k:Bool→Prop):Type
 |mk
def nK (o:Option (List Bool)) (k:Bool→Prop) (_:Tb k):Prop:=∃bs,o=some bs∧∀b∈bs,k b
def ab9 {S:St} {env:Env} {H:Hp} (d:Option Nat) (n:Bool) (x:O) (k:AV→Hp→Prop):bg S d (.BJ n x) env H k=nK (qY (ev env x)) (fun b=>k (.bool (n ^^ b)) H) .mk:=rfl
def aaW {xs:List IV} {k:Bool→Prop} {u:Tb k} (h1:xs=[]→k true) (h2:k false):nK (qY (.list xs)) k u:=by
 cases xs with
 |nil=>exact⟨_,rfl,fun b _=>by cases b;exact h2;exact h1 rfl⟩
 |cons x r=>exact⟨_,rfl,fun b hb=>by simp only[aW] at hb;subst hb;exact h2⟩
def Xp (sz b d:Nat) (xs:List IV) {H:Hp} (he:jV sz xs) (hf:Flat xs) (hb:xs.length*b≤140737488355328) (h0:0<b) (hu:H (.loc d)= .unused) :
 jN sz b d .nil0 (.list xs) H=some (.sl (.loc d) sz 0 xs.length,bD H (.loc d) (.live ⟨sz,aB xs⟩)):=AN he hf hb h0 hu

abbrev Bs:=List UInt8
structure Attr where
 name:Bs
 val:Bs
inductive Tree where
 |mk (text:Bool) (s:Bs) (attrs:List Attr) (kids:List Tree)
def Tree.text:Tree→Bool| .mk t _ _ _=>t
def Tree.s:Tree→Bs| .mk _ s _ _=>s
def Tree.attrs:Tree→List Attr| .mk _ _ a _=>a
def Tree.kids:Tree→List Tree| .mk _ _ _ k=>k
def Attr.cs (a:Attr):List IV:=[.str a.name,.str a.val]
def Attr.iv (a:Attr):IV:= .agg a.cs
def cD (as:List Attr):List IV:=as.map Attr.iv
mutual
def Tree.iv:Tree→IV
 | .mk t s as ks=> .agg [.bool t,.str s,.list (cD as),.list (dq ks)]
def dq:List Tree→List IV
 |[]=>[]
 |x::r=>x.iv::dq r
end
def Tree.cs (x:Tree):List IV:=[.bool x.text,.str x.s,.list (cD x.attrs),.list (dq x.kids)]
def Tree.av (x:Tree):AV:= .agg [.bool x.text,.str x.s,.list (cD x.attrs),.list (dq x.kids)]
def Tree.o_ (x:Tree):x.iv= .agg x.cs:=by cases x;simp[Tree.iv,Tree.cs,Tree.text,Tree.s,Tree.attrs,Tree.kids]
def Tree.cJ (x:Tree):x.iv.cells=x.cs:=by rw[Tree.o_];rfl
def Attr.cJ (x:Attr):x.iv.cells=x.cs:=rfl
theorem ix:∀xs:List Tree,dq xs=xs.map Tree.iv
 |[]=>by simp[dq]
 |x::r=>by simp[dq,ix r]
def bF (xs:List Tree):(dq xs).length=xs.length:=by simp[ix]
def bp (xs:List Attr):(cD xs).length=xs.length:=by simp[cD]
def iy (xs:List Tree) (i:Nat):(dq xs)[i]?=xs[i]?.map Tree.iv:=by simp[ix]
def lS (xs:List Attr) (i:Nat):(cD xs)[i]?=xs[i]?.map Attr.iv:=by simp[cD]
def ajX (xs:List Attr) (i:Nat):(cD xs).take i=cD (xs.take i):=by simp[cD,kO]
def qh (xs ys:List Tree):dq (xs++ys)=dq xs++dq ys:=by simp[ix]
def lT (xs:List Tree):jV 4 (dq xs):=by
 intro x hx;rw[ix] at hx;obtain⟨a,_,rfl⟩:=cO.1 hx;rw[a.cJ];rfl
def rq (xs:List Attr):jV 2 (cD xs):=by
 intro x hx;obtain⟨a,_,rfl⟩:=cO.1 hx;rfl
def Tree.uy (x:Tree):∀z∈x.cs,∀cs,z≠ .agg cs:=by
 intro z hz cs;simp only[Tree.cs,bb,b5,b7] at hz;rcases hz with rfl|rfl|rfl|rfl<;>simp
def pa (xs:List Tree):Flat (dq xs):=by
 intro x hx;rw[ix] at hx;obtain⟨a,_,rfl⟩:=cO.1 hx;rw[a.cJ];exact a.uy
def nW (xs:List Attr):Flat (cD xs):=by
 intro x hx;obtain⟨a,_,rfl⟩:=cO.1 hx;intro z hz cs;simp only[Attr.cJ,Attr.cs,bb,b5,b7] at hz;rcases hz with rfl|rfl<;>simp
def Attr.wt (a:Attr):Nat:=1+a.name.length+a.val.length
def dX:List Attr→Nat
 |[]=>0
 |a::r=>a.wt+dX r
mutual
def Tree.wt:Tree→Nat
 | .mk _ s as ks=>1+s.length+dX as+dE ks
def dE:List Tree→Nat
 |[]=>0
 |x::r=>x.wt+dE r
end
def Tree.gx (x:Tree):x.wt=1+x.s.length+dX x.attrs+dE x.kids:=by cases x;simp[Tree.wt,Tree.s,Tree.attrs,Tree.kids]
theorem iz:∀xs:List Attr,xs.length≤dX xs
 |[]=>by simp[dX]
 |a::r=>by have:=iz r;simp[dX,Attr.wt];omega
theorem eZ:∀xs:List Tree,xs.length≤dE xs
 |[]=>by simp[dE]
 |a::r=>by have:=eZ r;have:=a.gx;simp[dE];omega
theorem jx:∀(xs:List Tree) (i:Nat) (x:Tree),xs[i]?=some x→x.wt≤dE xs
 |[],i,x,h=>by simp at h
 |a::r,0,x,h=>by simp at h;subst h;simp[dE]
 |a::r,i+1,x,h=>by have:=jx r i x (by simpa using h);simp[dE];omega
theorem kn:∀xs ys:List Tree,dE (xs++ys)=dE xs+dE ys
 |[],ys=>by simp[dE]
 |a::r,ys=>by simp[dE,kn r ys];omega
def jy (Gk:Nat):AC:=
(.seq
 (.cq [
  zi 2])
(.seq
 (.cq [
  zi 3])
(.gh (.own 3 4)
(.seq
 (.seq
  (.cq [
   MR 6 0,
   oy 7 6,
   gH 8 0])
 (.block 0
  (.loop
   (.seq
    (.cq [
     et 9 .lss 8 7])
   (.seq
    (.cond (.t 9)
     .skip
     (.exit 0))
   (.seq
    (.block 1
     (.seq
      (.cq [
       jL 10 6 8 4,
       gz 11 4 10,
       aQ 5 (.new [(.bool false),(.str []),.nil0,.nil0]),
       gg (.store 4 (.t 5) (.t 11))])
     (.cq [
      MR 12 3,
      gz 13 4 5,
      aQ 14 (.call Gk [(.t 13)]),
      aQ 15 (.lits 1 4 [(.bool false),(.str []),.nil0,.nil0] [(0,(.t 14))]),
      aQ 16 (.app (.t 12) (.t 15) 4 72),
      MR 3 16])))
   (.cq [
    eY 17 .add 8 1,
    MR 8 17])))))))
(.seq
 (.cq [
  MR 18 3,
  MR 2 18])
(.gh (.zS (.loc 3) 2)
.ret))))))
def ko (D0:Nat):AC:=
(.seq
 (.cq [
  sC 1 0,
  aQ 2 (.new [(.bool false),(.str []),.nil0,.nil0])])
(.seq
 (.VL [
  ep 3 1 2,
  fm 4 3,
  aQ 5 (.app (.c .nil0) (.t 4) 2 32),
  ep 6 1 3,
  fm 7 6,
  aQ 8 (.call D0 [(.t 7)]),
  ep 9 1 2,
  gg (.store 1 (.t 9) (.t 5)),
  ep 10 1 3,
  gg (.store 1 (.t 10) (.t 8))]
  [[],[0],[1],[],[3],[4,2],[0,1,2,3,4],[6,2,5,0,1,2,3,4],[0,1,2,3,4,5,6,7],[8,5,7,0,1,2,3,4,5,6,7]]
  [.no,.rw [.loc 1] [],.rw [] [.loc 5],.no,.rw [.loc 1] [],.no,.no,.rw [] [.loc 1],.no,.rw [] [.loc 1]])
(.seq
 (.cq [
  gz 11 4 1,
  gg (.store 4 (.t 2) (.t 11))])
(.gh (.xd (.loc 5) (.loc 2) 2)
.ret))))
def B:Nat:=2^30
def le_max {n:Nat} (h:n≤100):n≤maxLen:=gU h (by decide)
def pb {P:Program} {G:Nat→Option (List IV)} {f g:Nat} (hF:aw P G f=some (12,[((some (some 4)),2)],(ko g).bare)) (x:Tree) (hx:x.wt≤B)
  (hg:au P G g [.list (dq x.kids)] (.list (dq x.kids))):au P G f [x.av] x.av:=by
 refine aR hF (by simp) (by simp[ah,AV.an,Tree.av]) (by simp[AV.an,ah,Tree.av]) ?_;have hA:(cD x.attrs).length≤B:=by rw[bp];have:=iz x.attrs;have:=x.gx;omega
 have Lh:(cD x.attrs).length*32≤140737488355328:=by unfold B at hA;omega
 unfold ko;simp only[↓dS,lK,lX,↓ai,List.take,List.drop,Nat.reduceEqDiff,Nat.reduceLT,Nat.reduceLeDiff,Nat.reduceAdd,Nat.reduceMul,↓aj,↓ar,↓ak,↓aF,↓aD,↓aE,reduceCtorEq,Tree.av];refine⟨le_max (by decide),le_max (by decide),rfl,?_⟩;rw[AN (rq _) (nW _) Lh (by decide) (by simp[ae,Hp.none])];simp only[↓dS,lK,lX,↓ai,List.take,List.drop,Nat.reduceEqDiff,Nat.reduceLT,Nat.reduceLeDiff,Nat.reduceAdd,Nat.reduceMul,↓aj,↓ar,↓ak,↓aF,↓aD,↓aE,reduceCtorEq];refine jw hg ?_;simp only[↓dS,lK,lX,↓ai,List.take,List.drop,Nat.reduceEqDiff,Nat.reduceLT,Nat.reduceLeDiff,Nat.reduceAdd,Nat.reduceMul,↓aj,↓ar,↓ak,↓aF,↓aD,↓aE,reduceCtorEq];refine⟨2,cD x.attrs,0,_,[_,_,_,_],rfl,rfl,rfl,by simp,by omega,nW _,?_⟩;simp only[↓dS,lK,lX,↓ai,List.take,List.drop,Nat.reduceEqDiff,Nat.reduceLT,Nat.reduceLeDiff,Nat.reduceAdd,Nat.reduceMul,↓aj,↓ar,↓ak,↓aF,↓aD,↓aE,reduceCtorEq,ea]
def nX (xs:List Tree) (i:Nat):Env:=
 put (put (put (put Env.any 3 (.sl (.loc 3) 4 0 i)) 6 (.list (dq xs))) 7 (.int .i64 xs.length)) 8 (.int .i64 i)
def nY {P:Program} {G:Nat→Option (List IV)} {f g:Nat} (hF:aw P G f=some (19,[(none,2)],(jy g).bare)) (xs:List Tree) (hx:dE xs≤B)
  (hg:∀x∈xs,au P G g [x.av] x.av):au P G f [.list (dq xs)] (.list (dq xs)):=by
 refine aR hF (by simp) (by simp[ah,AV.an]) (by simp[AV.an]) ?_;have hl:xs.length≤B:=gU (eZ xs) hx;unfold jy;simp only[↓dS,lK,lX,↓ai,List.take,List.drop,Nat.reduceEqDiff,Nat.reduceLT,Nat.reduceLeDiff,Nat.reduceAdd,Nat.reduceMul,↓aj,↓ar,↓ak,↓aF,↓aD,↓aE,reduceCtorEq,bF];refine fY (σ:={i:Nat // i≤xs.length}) (fun s=>nX xs s.1) (fun s=>bD Hp.none (.loc 3) (.live ⟨4,aB (dq (xs.take s.1))⟩)) (fun s=>xs.length - s.1) ⟨0,by simp⟩ (fun _=> .loc 3) ?_ ?_
 ·refine .one ?_ ?_ (by simp[ae,aB,dq]) rfl rfl (dT gJ)
  ·exact aT rfl (aT rfl (aT rfl (aT rfl (Wc _ _))))
  exact aU (by simp[AV.an]) (aU (by simp[AV.an]) (aU (by simp[AV.an]) (aU (by simp[AV.an]) (eB _))))
 rintro⟨i,hi⟩;simp only[↓dS,lK,lX,↓ai,List.take,List.drop,Nat.reduceEqDiff,Nat.reduceLT,Nat.reduceLeDiff,Nat.reduceAdd,Nat.reduceMul,↓aj,↓ar,↓ak,↓aF,↓aD,↓aE,reduceCtorEq,nX];by_cases bI:i<xs.length
 ·rw[show decide ((i:Int)<(xs.length:Int))=true by simpa using bI];obtain⟨x,D1⟩:∃x,xs[i]?=some x:=⟨_,aC bI⟩;have hw:IntKind.i64.wrap ((i:Int)+1)=((i+1:Nat):Int):=wrap64 (by omega) (by unfold B at hl;omega);simp only[↓dS,lK,lX,↓ai,List.take,List.drop,Nat.reduceEqDiff,Nat.reduceLT,Nat.reduceLeDiff,Nat.reduceAdd,Nat.reduceMul,↓aj,↓ar,↓ak,↓aF,↓aD,↓aE,reduceCtorEq,iy,D1,lT,Tree.cJ,Tree.cs];refine⟨le_max (by decide),ay (hg x (aV D1)) ?_⟩;simp only[↓dS,lK,lX,↓ai,List.take,List.drop,Nat.reduceEqDiff,Nat.reduceLT,Nat.reduceLeDiff,Nat.reduceAdd,Nat.reduceMul,↓aj,↓ar,↓ak,↓aF,↓aD,↓aE,reduceCtorEq,Tree.av];have A2:(dq (xs.take i)).length=i:=by rw[bF,cT];omega
  rw[s_ (l:= .loc 3) (els:=aB (dq (xs.take i))) (by simp[ae]) (by simp[aB,A2]) (xs:=[.agg [.bool x.text,.str x.s,.list (cD x.attrs),.list (dq x.kids)]]) (by simp[jV,IV.cells])
   (by simp[Flat,IV.cells]) (by simp only[cG,fE];unfold B at hl;omega) (by decide) (by simp[Lb.app,Lb.fresh]) (by simp[ae,Lb.app,Lb.fresh,Hp.none])]
  simp only[↓dS,lK,lX,↓ai,List.take,List.drop,Nat.reduceEqDiff,Nat.reduceLT,Nat.reduceLeDiff,Nat.reduceAdd,Nat.reduceMul,↓aj,↓ar,↓ak,↓aF,↓aD,↓aE,reduceCtorEq,hw];refine⟨⟨i+1,bI⟩,by simp only;omega,fun _=> .loc 16,.one ?_ ?_ ?_ rfl rfl ?_⟩
  ·exact aT rfl (aT rfl (aT rfl (aT rfl (Wc _ _))))
  ·exact aU (by simp[AV.an]) (aU (by simp[AV.an]) (aU (by simp[AV.an]) (aU (by simp[AV.an]) (eB _))))
  ·have h1:xs.take (i+1)=xs.take i++[x]:=(by rw[fa,D1];rfl);have h2:(aB (dq (xs.take i))).take i=aB (dq (xs.take i)):=bo (by simp[aB,A2]);simp only[ae,eT,h2];rw[h1,qh];simp[aB,dq,Tree.o_,Tree.cs]
  exact dT (dT (dT (dT (dT gJ))))
 rw[show decide ((i:Int)<(xs.length:Int))=false by simpa using bI];have A2:i=xs.length:=by omega
 subst A2;simp only[↓dS,lK,lX,↓ai,List.take,List.drop,Nat.reduceEqDiff,Nat.reduceLT,Nat.reduceLeDiff,Nat.reduceAdd,Nat.reduceMul,↓aj,↓ar,↓ak,↓aF,↓aD,↓aE,reduceCtorEq];refine⟨4,dq xs,0,xs.length,rfl,by simp,by simp[bF],pa _,?_⟩;rw[e_,bo (by simp[bF])]

open Classical in
noncomputable def P2 {α:Type} (x y:α):Bool:=decide (x=y)
def Oh {α:Type} (x:α):P2 x x=true:=by simp[P2]
def NJ {α:Type} {x y:α} (h:x≠y):P2 x y=false:=by simp[P2,h]
def afz {α:Type} {x y:α}:P2 x y=true↔x=y:=by simp[P2]
def Attr.ext {x y:Attr} (h1:x.name=y.name) (h2:x.val=y.val):x=y:=by cases x;cases y;simp_all
def Tree.ext {x y:Tree} (h1:x.text=y.text) (h2:x.s=y.s) (h3:x.attrs=y.attrs) (h4:x.kids=y.kids):x=y:=by
 cases x;cases y;simp_all[Tree.text,Tree.s,Tree.attrs,Tree.kids]
def OA:AC:=
(.seq
 (.cq [
  jM 4 false])
(.seq
 (.seq
  (.cq [
   MR 6 0,
   oy 7 6,
   MR 8 1,
   oy 9 8,
   et 10 .neq 7 9])
 (.cond (.t 10)
  (.seq
   (.cq [
    jM 4 false])
  .ret)
  .skip))
(.seq
 (.seq
  (.cq [
   MR 11 0,
   oy 12 11,
   gH 13 0])
 (.block 0
  (.loop
   (.seq
    (.cq [
     et 14 .lss 13 12])
   (.seq
    (.cond (.t 14)
     .skip
     (.exit 0))
   (.seq
    (.block 1
     (.seq
      (.cq [
       MR 15 13,
       MR 5 15])
     (.seq
      (.VL [
       MR 16 0,
       MR 17 5,
       jL 18 16 17 2,
       gz 19 2 18,
       MR 20 1,
       MR 21 5,
       jL 22 20 21 2,
       gz 23 2 22,
       aQ 24 (.pM true [.s,.s] (.t 19) (.t 23))]
       [[],[],[0,1],[2],[],[],[4,5],[6],[3,7]]
       [.no,.no,.no,.no,.no,.no,.no,.no,.no])
     (.cond (.t 24)
      (.seq
       (.cq [
        jM 4 false])
      .ret)
      .skip))))
   (.cq [
    eY 25 .add 13 1,
    MR 13 25])))))))
(.seq
 (.cq [
  jM 4 true])
.ret))))
def N_ (g:Nat):AC:=
(.seq
 (.cq [
  jM 4 false])
(.seq
 (.seq
  (.cq [
   MR 6 0,
   oy 7 6,
   MR 8 1,
   oy 9 8,
   et 10 .neq 7 9])
 (.cond (.t 10)
  (.seq
   (.cq [
    jM 4 false])
  .ret)
  .skip))
(.seq
 (.seq
  (.cq [
   MR 11 0,
   oy 12 11,
   gH 13 0])
 (.block 0
  (.loop
   (.seq
    (.cq [
     et 14 .lss 13 12])
   (.seq
    (.cond (.t 14)
     .skip
     (.exit 0))
   (.seq
    (.block 1
     (.seq
      (.cq [
       MR 15 13,
       MR 5 15])
     (.seq
      (.VL [
       MR 16 0,
       MR 17 5,
       jL 18 16 17 4,
       gz 19 4 18,
       MR 20 1,
       MR 21 5,
       jL 22 20 21 4,
       gz 23 4 22,
       aQ 24 (.call g [(.t 19),(.t 23)]),
       sB 25 24]
       [[],[],[0,1],[2],[],[],[4,5],[6],[3,7],[8]]
       [.no,.no,.no,.no,.no,.no,.no,.no,.no,.no])
     (.cond (.t 25)
      (.seq
       (.cq [
        jM 4 false])
      .ret)
      .skip))))
   (.cq [
    eY 26 .add 13 1,
    MR 13 26])))))))
(.seq
 (.cq [
  jM 4 true])
.ret))))
def Ql (xs ys:List IV) (i:Nat):Env:=
 put (put (put (put Env.any 0 (.list xs)) 1 (.list ys)) 12 (.int .i64 xs.length)) 13 (.int .i64 i)
def Pv {P:Program} {G:Nat→Option (List IV)} {f:Nat} (hF:aw P G f=some (26,[(none,4)],OA.bare)) (xs ys:List Attr) (hx:xs.length≤B) :
  au P G f [.list (cD xs),.list (cD ys)] (.bool (P2 xs ys)):=by
 refine aR hF (by simp) (by simp[ah,AV.an]) (by simp[AV.an]) ?_;unfold OA;simp only[↓dS,lK,lX,↓ai,List.take,List.drop,Nat.reduceEqDiff,Nat.reduceLT,Nat.reduceLeDiff,Nat.reduceAdd,Nat.reduceMul,↓aj,↓ar,↓ak,↓aF,↓aD,↓aE,reduceCtorEq,bp];by_cases hl:xs.length=ys.length
 ·rw[show((xs.length:Int) !=(ys.length:Int))=false by simp[hl]];simp only[↓dS,lK,lX,↓ai,List.take,List.drop,Nat.reduceEqDiff,Nat.reduceLT,Nat.reduceLeDiff,Nat.reduceAdd,Nat.reduceMul,↓aj,↓ar,↓ak,↓aF,↓aD,↓aE,reduceCtorEq,bp];refine fY (σ:={i:Nat // i≤xs.length∧∀j,j<i→xs[j]?=ys[j]?}) (fun s=>Ql (cD xs) (cD ys) s.1) (fun _=>Hp.none) (fun s=>xs.length - s.1) ⟨0,by simp⟩ id ?_ ?_
  ·refine .none ?_ ?_
   ·exact aT rfl (aT (by simp[s9,bp,bJ]) (aT rfl (aT rfl (Wc _ _))))
   exact aU (by simp[AV.an]) (aU (by simp[AV.an]) (aU (by simp[AV.an]) (aU (by simp[AV.an]) (eB _))))
  rintro⟨i,hi,hs⟩;simp only[↓dS,lK,lX,↓ai,List.take,List.drop,Nat.reduceEqDiff,Nat.reduceLT,Nat.reduceLeDiff,Nat.reduceAdd,Nat.reduceMul,↓aj,↓ar,↓ak,↓aF,↓aD,↓aE,reduceCtorEq,Ql,bp];by_cases bI:i<xs.length
  ·rw[show decide ((i:Int)<(xs.length:Int))=true by simpa using bI];obtain⟨x,D1⟩:∃x,xs[i]?=some x:=⟨_,aC bI⟩;obtain⟨y,zl⟩:∃y,ys[i]?=some y:=⟨_,aC (hl▸bI)⟩;simp only[↓dS,lK,lX,↓ai,List.take,List.drop,Nat.reduceEqDiff,Nat.reduceLT,Nat.reduceLeDiff,Nat.reduceAdd,Nat.reduceMul,↓aj,↓ar,↓ak,↓aF,↓aD,↓aE,reduceCtorEq,lS,D1,zl,rq,Attr.cJ,Attr.cs,eqs,JP];refine⟨rfl,?_⟩;by_cases KW:x=y
   ·subst KW;have hw:IntKind.i64.wrap ((i:Int)+1)=((i+1:Nat):Int):=wrap64 (by omega) (by unfold B at hx;omega);rw[show(true ^^ (x.name==x.name&&x.val==x.val))=false by simp];simp only[↓dS,lK,lX,↓ai,List.take,List.drop,Nat.reduceEqDiff,Nat.reduceLT,Nat.reduceLeDiff,Nat.reduceAdd,Nat.reduceMul,↓aj,↓ar,↓ak,↓aF,↓aD,↓aE,reduceCtorEq,hw];refine⟨⟨i+1,bI,fun j hj=> ?_⟩,by simp only;omega,id,.none ?_ ?_⟩
    ·by_cases e:j=i
     ·rw[e,D1,zl]
     exact hs j (by omega)
    ·exact aT rfl (aT (by simp[s9,bp,bJ]) (aT rfl (aT rfl (Wc _ _))))
    exact aU (by simp[AV.an]) (aU (by simp[AV.an]) (aU (by simp[AV.an]) (aU (by simp[AV.an]) (eB _))))
   have Vi:xs≠ys:=fun e=>KW (by rw[e,zl] at D1;cases D1;rfl);have Ry:(true ^^ (x.name==y.name&&x.val==y.val))=true:=by
    simp only[Bool.true_xor,kD,r_,cA];by_cases e1:x.name=y.name
    ·exact .inr fun e2=>KW (Attr.ext e1 e2)
    exact .inl e1
   rw[Ry];simp only[↓dS,lK,lX,↓ai,List.take,List.drop,Nat.reduceEqDiff,Nat.reduceLT,Nat.reduceLeDiff,Nat.reduceAdd,Nat.reduceMul,↓aj,↓ar,↓ak,↓aF,↓aD,↓aE,reduceCtorEq,NJ Vi]
  rw[show decide ((i:Int)<(xs.length:Int))=false by simpa using bI];simp only[↓dS,lK,lX,↓ai,List.take,List.drop,Nat.reduceEqDiff,Nat.reduceLT,Nat.reduceLeDiff,Nat.reduceAdd,Nat.reduceMul,↓aj,↓ar,↓ak,↓aF,↓aD,↓aE,reduceCtorEq];have:xs=ys:=fe fun j=>by
   by_cases hj:j<i
   ·exact hs j hj
   rw[dV (by omega),dV (by omega)]
  rw[this,Oh]
 rw[show((xs.length:Int) !=(ys.length:Int))=true by simp;omega];have:xs≠ys:=fun e=>hl (by rw[e]);simp only[↓dS,lK,lX,↓ai,List.take,List.drop,Nat.reduceEqDiff,Nat.reduceLT,Nat.reduceLeDiff,Nat.reduceAdd,Nat.reduceMul,↓aj,↓ar,↓ak,↓aF,↓aD,↓aE,reduceCtorEq,NJ this]
def OY {P:Program} {G:Nat→Option (List IV)} {f g:Nat} (hF:aw P G f=some (27,[(none,4)],(N_ g).bare)) (xs ys:List Tree) (hx:xs.length≤B)
  (hg:∀x∈xs,∀y∈ys,au P G g [x.av,y.av] (.bool (P2 x y))):au P G f [.list (dq xs),.list (dq ys)] (.bool (P2 xs ys)):=by
 refine aR hF (by simp) (by simp[ah,AV.an]) (by simp[AV.an]) ?_;unfold N_;simp only[↓dS,lK,lX,↓ai,List.take,List.drop,Nat.reduceEqDiff,Nat.reduceLT,Nat.reduceLeDiff,Nat.reduceAdd,Nat.reduceMul,↓aj,↓ar,↓ak,↓aF,↓aD,↓aE,reduceCtorEq,bF];by_cases hl:xs.length=ys.length
 ·rw[show((xs.length:Int) !=(ys.length:Int))=false by simp[hl]];simp only[↓dS,lK,lX,↓ai,List.take,List.drop,Nat.reduceEqDiff,Nat.reduceLT,Nat.reduceLeDiff,Nat.reduceAdd,Nat.reduceMul,↓aj,↓ar,↓ak,↓aF,↓aD,↓aE,reduceCtorEq,bF];refine fY (σ:={i:Nat // i≤xs.length∧∀j,j<i→xs[j]?=ys[j]?}) (fun s=>Ql (dq xs) (dq ys) s.1) (fun _=>Hp.none) (fun s=>xs.length - s.1) ⟨0,by simp⟩ id ?_ ?_
  ·refine .none ?_ ?_
   ·exact aT rfl (aT (by simp[s9,bF,bJ]) (aT rfl (aT rfl (Wc _ _))))
   exact aU (by simp[AV.an]) (aU (by simp[AV.an]) (aU (by simp[AV.an]) (aU (by simp[AV.an]) (eB _))))
  rintro⟨i,hi,hs⟩;simp only[↓dS,lK,lX,↓ai,List.take,List.drop,Nat.reduceEqDiff,Nat.reduceLT,Nat.reduceLeDiff,Nat.reduceAdd,Nat.reduceMul,↓aj,↓ar,↓ak,↓aF,↓aD,↓aE,reduceCtorEq,Ql,bF];by_cases bI:i<xs.length
  ·rw[show decide ((i:Int)<(xs.length:Int))=true by simpa using bI];obtain⟨x,D1⟩:∃x,xs[i]?=some x:=⟨_,aC bI⟩;obtain⟨y,zl⟩:∃y,ys[i]?=some y:=⟨_,aC (hl▸bI)⟩;simp only[↓dS,lK,lX,↓ai,List.take,List.drop,Nat.reduceEqDiff,Nat.reduceLT,Nat.reduceLeDiff,Nat.reduceAdd,Nat.reduceMul,↓aj,↓ar,↓ak,↓aF,↓aD,↓aE,reduceCtorEq,iy,D1,zl,lT,Tree.cJ,Tree.cs];refine⟨rfl,jw (hg x (aV D1) y (aV zl)) ?_⟩;by_cases KW:x=y
   ·subst KW;have hw:IntKind.i64.wrap ((i:Int)+1)=((i+1:Nat):Int):=wrap64 (by omega) (by unfold B at hx;omega);simp only[↓dS,lK,lX,↓ai,List.take,List.drop,Nat.reduceEqDiff,Nat.reduceLT,Nat.reduceLeDiff,Nat.reduceAdd,Nat.reduceMul,↓aj,↓ar,↓ak,↓aF,↓aD,↓aE,reduceCtorEq,hw,Oh,bG];refine⟨⟨i+1,bI,fun j hj=> ?_⟩,by simp only;omega,id,.none ?_ ?_⟩
    ·by_cases e:j=i
     ·rw[e,D1,zl]
     exact hs j (by omega)
    ·exact aT rfl (aT (by simp[s9,bF,bJ]) (aT rfl (aT rfl (Wc _ _))))
    exact aU (by simp[AV.an]) (aU (by simp[AV.an]) (aU (by simp[AV.an]) (aU (by simp[AV.an]) (eB _))))
   have Vi:xs≠ys:=fun e=>KW (by rw[e,zl] at D1;cases D1;rfl);simp only[↓dS,lK,lX,↓ai,List.take,List.drop,Nat.reduceEqDiff,Nat.reduceLT,Nat.reduceLeDiff,Nat.reduceAdd,Nat.reduceMul,↓aj,↓ar,↓ak,↓aF,↓aD,↓aE,reduceCtorEq,NJ Vi,NJ KW,bx]
  rw[show decide ((i:Int)<(xs.length:Int))=false by simpa using bI];simp only[↓dS,lK,lX,↓ai,List.take,List.drop,Nat.reduceEqDiff,Nat.reduceLT,Nat.reduceLeDiff,Nat.reduceAdd,Nat.reduceMul,↓aj,↓ar,↓ak,↓aF,↓aD,↓aE,reduceCtorEq];have:xs=ys:=fe fun j=>by
   by_cases hj:j<i
   ·exact hs j hj
   rw[dV (by omega),dV (by omega)]
  rw[this,Oh]
 rw[show((xs.length:Int) !=(ys.length:Int))=true by simp;omega];have:xs≠ys:=fun e=>hl (by rw[e]);simp only[↓dS,lK,lX,↓ai,List.take,List.drop,Nat.reduceEqDiff,Nat.reduceLT,Nat.reduceLeDiff,Nat.reduceAdd,Nat.reduceMul,↓aj,↓ar,↓ak,↓aF,↓aD,↓aE,reduceCtorEq,NJ this]
def OQ (S7 D0:Nat):AC:=
(.seq
 (.cq [
  sC 2 0,
  sC 3 1,
  jM 4 false])
(.seq
 (.cq [
  ep 5 2 0,
  fm 6 5,
  ep 7 3 0,
  fm 8 7,
  aQ 9 (.eqb false (.t 6) (.t 8)),
  MR 10 9,
  Wb 11 10 2 1,
  jm 12 10 11,
  Wb 13 10 3 1,
  jm 14 10 13,
  dW 15 10 (.bin .eql (.t 12) (.t 14)),
  jT 16 10 15,
  MR 17 16,
  Wb 18 17 2 2,
  jm 19 17 18,
  Wb 20 17 3 2,
  jm 21 17 20,
  dW 22 17 (.call S7 [(.t 19),(.t 21)]),
  jT 23 17 22,
  MR 24 23,
  Wb 25 24 2 3,
  jm 26 24 25,
  Wb 27 24 3 3,
  jm 28 24 27,
  dW 29 24 (.call D0 [(.t 26),(.t 28)]),
  jT 30 24 29,
  MR 4 30])
.ret))
def P3 {P:Program} {G:Nat→Option (List IV)} {f g h:Nat} (hF:aw P G f=some (31,[(none,4)],(OQ g h).bare)) (x y:Tree)
  (hg:au P G g [.list (cD x.attrs),.list (cD y.attrs)] (.bool (P2 x.attrs y.attrs))) (hh:au P G h [.list (dq x.kids),.list (dq y.kids)] (.bool (P2 x.kids y.kids))) :
  au P G f [x.av,y.av] (.bool (P2 x y)):=by
 refine aR hF (by simp) (by simp[ah,AV.an,Tree.av]) (by simp[AV.an]) ?_;unfold OQ;simp only[↓dS,lK,lX,↓ai,List.take,List.drop,Nat.reduceEqDiff,Nat.reduceLT,Nat.reduceLeDiff,Nat.reduceAdd,Nat.reduceMul,↓aj,↓ar,↓ak,↓aF,↓aD,↓aE,reduceCtorEq,Tree.av];refine⟨le_max (by decide),le_max (by decide),?_⟩;by_cases h1:x.text=y.text
 ·rw[h1,show(false ^^ (y.text==y.text))=true by simp];by_cases h2:x.s=y.s
  ·simp only[↓dS,lK,lX,↓ai,List.take,List.drop,Nat.reduceEqDiff,Nat.reduceLT,Nat.reduceLeDiff,Nat.reduceAdd,Nat.reduceMul,↓aj,↓ar,↓ak,↓aF,↓aD,↓aE,reduceCtorEq,h2,beq_self_eq_true];refine ay hg ?_;by_cases h3:x.attrs=y.attrs
   ·simp only[↓dS,lK,lX,↓ai,List.take,List.drop,Nat.reduceEqDiff,Nat.reduceLT,Nat.reduceLeDiff,Nat.reduceAdd,Nat.reduceMul,↓aj,↓ar,↓ak,↓aF,↓aD,↓aE,reduceCtorEq,h3,Oh];refine ay hh ?_;by_cases h4:x.kids=y.kids
    ·have:x=y:=Tree.ext h1 h2 h3 h4;subst this;simp only[↓dS,lK,lX,↓ai,List.take,List.drop,Nat.reduceEqDiff,Nat.reduceLT,Nat.reduceLeDiff,Nat.reduceAdd,Nat.reduceMul,↓aj,↓ar,↓ak,↓aF,↓aD,↓aE,reduceCtorEq,Oh]
    have:x≠y:=fun e=>h4 (by rw[e]);simp only[↓dS,lK,lX,↓ai,List.take,List.drop,Nat.reduceEqDiff,Nat.reduceLT,Nat.reduceLeDiff,Nat.reduceAdd,Nat.reduceMul,↓aj,↓ar,↓ak,↓aF,↓aD,↓aE,reduceCtorEq,NJ h4,NJ this]
   have:x≠y:=fun e=>h3 (by rw[e]);simp only[↓dS,lK,lX,↓ai,List.take,List.drop,Nat.reduceEqDiff,Nat.reduceLT,Nat.reduceLeDiff,Nat.reduceAdd,Nat.reduceMul,↓aj,↓ar,↓ak,↓aF,↓aD,↓aE,reduceCtorEq,NJ h3,NJ this]
  have:x≠y:=fun e=>h2 (by rw[e]);simp only[↓dS,lK,lX,↓ai,List.take,List.drop,Nat.reduceEqDiff,Nat.reduceLT,Nat.reduceLeDiff,Nat.reduceAdd,Nat.reduceMul,↓aj,↓ar,↓ak,↓aF,↓aD,↓aE,reduceCtorEq,NJ this,beq_false_of_ne h2]
 have:x≠y:=fun e=>h1 (by rw[e]);rw[show(false ^^ (x.text==y.text))=false by simpa using h1];simp only[↓dS,lK,lX,↓ai,List.take,List.drop,Nat.reduceEqDiff,Nat.reduceLT,Nat.reduceLeDiff,Nat.reduceAdd,Nat.reduceMul,↓aj,↓ar,↓ak,↓aF,↓aD,↓aE,reduceCtorEq,NJ this]
def TE {P:Program} {G:Nat→Option (List IV)} {fA fT I2:Nat} (hA:aw P G fA=some (26,[(none,4)],OA.bare)) (hT:aw P G fT=some (31,[(none,4)],(OQ fA I2).bare))
  (Ke:aw P G I2=some (27,[(none,4)],(N_ fT).bare)):∀(n:Nat) (xs ys:List Tree),dE xs≤n→dE xs≤B→au P G I2 [.list (dq xs),.list (dq ys)] (.bool (P2 xs ys)):=by
 intro n;induction n with
 |zero=>
  intro xs ys hn hB;refine OY Ke xs ys (gU (eZ xs) hB) fun x hx y hy=> ?_;obtain⟨i,hi⟩:=c_ hx;have:=jx xs i x hi;have:=x.gx;omega
 |succ n ih=>
 intro xs ys hn hB;refine OY Ke xs ys (gU (eZ xs) hB) fun x hx y hy=> ?_;obtain⟨i,hi⟩:=c_ hx;have h1:=jx xs i x hi;have h2:=x.gx;have h3:=iz x.attrs;exact P3 hT x y (Pv hA _ _ (by omega)) (ih _ _ (by omega) (by omega))
def Gl {P:Program} {G:Nat→Option (List IV)} {fT I2:Nat} (hT:aw P G fT=some (12,[((some (some 4)),2)],(ko I2).bare))
  (Ke:aw P G I2=some (19,[(none,2)],(jy fT).bare)):∀(n:Nat) (xs:List Tree),dE xs≤n→dE xs≤B→au P G I2 [.list (dq xs)] (.list (dq xs)):=by
 intro n;induction n with
 |zero=>
  intro xs hn hB;refine nY Ke xs hB fun x hx=> ?_;obtain⟨i,hi⟩:=c_ hx;have:=jx xs i x hi;have:=x.gx;omega
 |succ n ih=>
 intro xs hn hB;refine nY Ke xs hB fun x hx=> ?_;obtain⟨i,hi⟩:=c_ hx;have h1:=jx xs i x hi;have h2:=x.gx;exact pb hT x (by omega) (ih _ (by omega) (by omega))
end Go.Am

namespace Go.Am
open Go Go.RowKit
def dI (c:UInt8):Bool:= !((((c.toNat:Int) !=10))&&(decide ((c.toNat:Int)<32)||decide ((c.toNat:Int)>126)))
def plain (s:Bs):Bool:=s.all dI&&decide ((s.length:Int)≤40)
def nZ:AC:=
(.seq
 (.cq [
  jM 2 false])
(.seq
 (.seq
  (.cq [
   MR 4 0,
   oF 5 4,
   gH 6 0])
 (.block 0
  (.loop
   (.seq
    (.cq [
     et 7 .lss 6 5])
   (.seq
    (.cond (.t 7)
     .skip
     (.exit 0))
   (.seq
    (.block 1
     (.seq
      (.cq [
       MR 8 6,
       MR 3 8])
     (.seq
      (.cq [
       MR 9 0,
       MR 10 3,
       aQ 11 (.lj (.t 9) (.t 10)),
       aQ 12 (.bin .neq (.t 11) (.c (.int .u8 10))),
       MR 13 12,
       cU 14 13 0,
       cU 15 13 3,
       dW 16 13 (.lj (.t 14) (.t 15)),
       dW 17 13 (.bin .lss (.t 16) (.c (.int .u8 32))),
       cU 18 13 17,
       gV 19 18 0,
       gV 20 18 3,
       iR 21 18 (.lj (.t 19) (.t 20)),
       iR 22 18 (.bin .gtr (.t 21) (.c (.int .u8 126))),
       dW 23 13 (.pick (.t 18) (me true) (.t 22)),
       jT 24 13 23])
     (.cond (.t 24)
      (.seq
       (.cq [
        jM 2 false])
      .ret)
      .skip))))
   (.cq [
    eY 25 .add 6 1,
    MR 6 25])))))))
(.seq
 (.cq [
  MR 26 0,
  oF 27 26,
  eY 28 .leq 27 40,
  MR 2 28])
.ret)))
def qi (s:Bs) (i:Nat):Env:=put (put (put Env.any 0 (.str s)) 5 (.int .i64 s.length)) 6 (.int .i64 i)
def Pw {p:UInt8→Bool} {s:Bs} {i:Nat} {c:UInt8} (h:(s.take i).all p=true) (hc:s[i]?=some c) (hp:p c=true):(s.take (i+1)).all p=true:=by
 rw[fa,hc];simp[h,hp]
def nt {p:UInt8→Bool} {s:Bs} {i:Nat} {c:UInt8} (hc:s[i]?=some c) (hp:p c=false):s.all p=false:=by
 cases h:s.all p with
 |false=>rfl
 |true=>
 have:=ek.1 h c (aV hc);rw[hp] at this;exact this.symm
def qj {P:Program} {G:Nat→Option (List IV)} {f:Nat} (hF:aw P G f=some (29,[(none,2)],nZ.bare)) (s:Bs) (hx:s.length≤B) :
  au P G f [.str s] (.bool (plain s)):=by
 refine aR hF (by simp) (by simp[ah,AV.an]) (by simp[AV.an]) ?_;unfold nZ;simp only[↓dS,lK,lX,↓ai,List.take,List.drop,Nat.reduceEqDiff,Nat.reduceLT,Nat.reduceLeDiff,Nat.reduceAdd,Nat.reduceMul,↓aj,↓ar,↓ak,↓aF,↓aD,↓aE,reduceCtorEq];refine fY (σ:={i:Nat // i≤s.length∧(s.take i).all dI=true}) (fun q=>qi s q.1) (fun _=>Hp.none) (fun q=>s.length - q.1) ⟨0,by simp⟩ id ?_ ?_
 ·refine .none ?_ ?_
  ·exact aT rfl (aT rfl (aT rfl (Wc _ _)))
  exact aU (by simp[AV.an]) (aU (by simp[AV.an]) (aU (by simp[AV.an]) (eB _)))
 rintro⟨i,hi,hs⟩;simp only[↓dS,lK,lX,↓ai,List.take,List.drop,Nat.reduceEqDiff,Nat.reduceLT,Nat.reduceLeDiff,Nat.reduceAdd,Nat.reduceMul,↓aj,↓ar,↓ak,↓aF,↓aD,↓aE,reduceCtorEq,qi];by_cases bI:i<s.length
 ·rw[show decide ((i:Int)<(s.length:Int))=true by simpa using bI];obtain⟨c,hc⟩:∃c,s[i]?=some c:=⟨_,aC bI⟩;have hw:IntKind.i64.wrap ((i:Int)+1)=((i+1:Nat):Int):=wrap64 (by omega) (by unfold B at hx;omega);have next:dI c=true→∃q:{i:Nat // i≤s.length∧(s.take i).all dI=true},q.1=i+1:=fun hp=>⟨⟨i+1,bI,Pw hs hc hp⟩,rfl⟩
  simp only[↓dS,lK,lX,↓ai,List.take,List.drop,Nat.reduceEqDiff,Nat.reduceLT,Nat.reduceLeDiff,Nat.reduceAdd,Nat.reduceMul,↓aj,↓ar,↓ak,↓aF,↓aD,↓aE,reduceCtorEq,hc];cases h1:((c.toNat:Int) !=10) with
  |false=>
   obtain⟨q,hq⟩:=next (by simp[dI,h1])
   simp only[↓dS,lK,lX,↓ai,List.take,List.drop,Nat.reduceEqDiff,Nat.reduceLT,Nat.reduceLeDiff,Nat.reduceAdd,Nat.reduceMul,↓aj,↓ar,↓ak,↓aF,↓aD,↓aE,reduceCtorEq,hc,hw];refine⟨q,by omega,id,.none ?_ ?_⟩
   ·rw[hq];exact aT rfl (aT rfl (aT rfl (Wc _ _)))
   exact aU (by simp[AV.an]) (aU (by simp[AV.an]) (aU (by simp[AV.an]) (eB _)))
  |true=>
  simp only[↓dS,lK,lX,↓ai,List.take,List.drop,Nat.reduceEqDiff,Nat.reduceLT,Nat.reduceLeDiff,Nat.reduceAdd,Nat.reduceMul,↓aj,↓ar,↓ak,↓aF,↓aD,↓aE,reduceCtorEq,hc];cases h2:decide ((c.toNat:Int)<32) with
  |true=>
   simp only[↓dS,lK,lX,↓ai,List.take,List.drop,Nat.reduceEqDiff,Nat.reduceLT,Nat.reduceLeDiff,Nat.reduceAdd,Nat.reduceMul,↓aj,↓ar,↓ak,↓aF,↓aD,↓aE,reduceCtorEq,hc];rw[plain,nt hc (by simp[dI,h1,h2])];rfl
  |false=>
  simp only[↓dS,lK,lX,↓ai,List.take,List.drop,Nat.reduceEqDiff,Nat.reduceLT,Nat.reduceLeDiff,Nat.reduceAdd,Nat.reduceMul,↓aj,↓ar,↓ak,↓aF,↓aD,↓aE,reduceCtorEq,hc];cases h3:decide ((c.toNat:Int)>126) with
  |true=>
   simp only[↓dS,lK,lX,↓ai,List.take,List.drop,Nat.reduceEqDiff,Nat.reduceLT,Nat.reduceLeDiff,Nat.reduceAdd,Nat.reduceMul,↓aj,↓ar,↓ak,↓aF,↓aD,↓aE,reduceCtorEq,hc];rw[plain,nt hc (by simp[dI,h1,h2,h3])];rfl
  |false=>
  obtain⟨q,hq⟩:=next (by simp[dI,h1,h2,h3])
  simp only[↓dS,lK,lX,↓ai,List.take,List.drop,Nat.reduceEqDiff,Nat.reduceLT,Nat.reduceLeDiff,Nat.reduceAdd,Nat.reduceMul,↓aj,↓ar,↓ak,↓aF,↓aD,↓aE,reduceCtorEq,hc,hw];refine⟨q,by omega,id,.none ?_ ?_⟩
  ·rw[hq];exact aT rfl (aT rfl (aT rfl (Wc _ _)))
  exact aU (by simp[AV.an]) (aU (by simp[AV.an]) (aU (by simp[AV.an]) (eB _)))
 rw[show decide ((i:Int)<(s.length:Int))=false by simpa using bI];simp only[↓dS,lK,lX,↓ai,List.take,List.drop,Nat.reduceEqDiff,Nat.reduceLT,Nat.reduceLeDiff,Nat.reduceAdd,Nat.reduceMul,↓aj,↓ar,↓ak,↓aF,↓aD,↓aE,reduceCtorEq];have:s.take i=s:=bo (by omega);rw[plain,←this,hs,this];rfl
def Oq (c:UInt8):Bool:= !(decide ((c.toNat:Int)<97)||decide ((c.toNat:Int)>122))
def named (s:Bs):Bool:=s.all Oq&&(decide ((s.length:Int)≥1)&&decide ((s.length:Int)≤8))
def n4:AC:=
(.seq
 (.cq [
  jM 2 false])
(.seq
 (.seq
  (.cq [
   MR 4 0,
   oF 5 4,
   gH 6 0])
 (.block 0
  (.loop
   (.seq
    (.cq [
     et 7 .lss 6 5])
   (.seq
    (.cond (.t 7)
     .skip
     (.exit 0))
   (.seq
    (.block 1
     (.seq
      (.cq [
       MR 8 6,
       MR 3 8])
     (.seq
      (.cq [
       MR 9 0,
       MR 10 3,
       aQ 11 (.lj (.t 9) (.t 10)),
       aQ 12 (.bin .lss (.t 11) (.c (.int .u8 97))),
       MR 13 12,
       gV 14 13 0,
       gV 15 13 3,
       iR 16 13 (.lj (.t 14) (.t 15)),
       iR 17 13 (.bin .gtr (.t 16) (.c (.int .u8 122))),
       sj 18 13 17])
     (.cond (.t 18)
      (.seq
       (.cq [
        jM 2 false])
      .ret)
      .skip))))
   (.cq [
    eY 19 .add 6 1,
    MR 6 19])))))))
(.seq
 (.cq [
  MR 20 0,
  oF 21 20,
  eY 22 .geq 21 1,
  MR 23 22,
  cU 24 23 0,
  dW 25 23 (.lens (.t 24)),
  dW 26 23 (.bin .leq (.t 25) (jS 8)),
  jT 27 23 26,
  MR 2 27])
.ret)))
def qk {P:Program} {G:Nat→Option (List IV)} {f:Nat} (hF:aw P G f=some (28,[(none,2)],n4.bare)) (s:Bs) (hx:s.length≤B) :
  au P G f [.str s] (.bool (named s)):=by
 refine aR hF (by simp) (by simp[ah,AV.an]) (by simp[AV.an]) ?_;unfold n4;simp only[↓dS,lK,lX,↓ai,List.take,List.drop,Nat.reduceEqDiff,Nat.reduceLT,Nat.reduceLeDiff,Nat.reduceAdd,Nat.reduceMul,↓aj,↓ar,↓ak,↓aF,↓aD,↓aE,reduceCtorEq];refine fY (σ:={i:Nat // i≤s.length∧(s.take i).all Oq=true}) (fun q=>qi s q.1) (fun _=>Hp.none) (fun q=>s.length - q.1) ⟨0,by simp⟩ id ?_ ?_
 ·refine .none ?_ ?_
  ·exact aT rfl (aT rfl (aT rfl (Wc _ _)))
  exact aU (by simp[AV.an]) (aU (by simp[AV.an]) (aU (by simp[AV.an]) (eB _)))
 rintro⟨i,hi,hs⟩;simp only[↓dS,lK,lX,↓ai,List.take,List.drop,Nat.reduceEqDiff,Nat.reduceLT,Nat.reduceLeDiff,Nat.reduceAdd,Nat.reduceMul,↓aj,↓ar,↓ak,↓aF,↓aD,↓aE,reduceCtorEq,qi];by_cases bI:i<s.length
 ·rw[show decide ((i:Int)<(s.length:Int))=true by simpa using bI];obtain⟨c,hc⟩:∃c,s[i]?=some c:=⟨_,aC bI⟩;have hw:IntKind.i64.wrap ((i:Int)+1)=((i+1:Nat):Int):=wrap64 (by omega) (by unfold B at hx;omega);have next:Oq c=true→∃q:{i:Nat // i≤s.length∧(s.take i).all Oq=true},q.1=i+1:=fun hp=>⟨⟨i+1,bI,Pw hs hc hp⟩,rfl⟩
  simp only[↓dS,lK,lX,↓ai,List.take,List.drop,Nat.reduceEqDiff,Nat.reduceLT,Nat.reduceLeDiff,Nat.reduceAdd,Nat.reduceMul,↓aj,↓ar,↓ak,↓aF,↓aD,↓aE,reduceCtorEq,hc];cases h1:decide ((c.toNat:Int)<97) with
  |true=>
   simp only[↓dS,lK,lX,↓ai,List.take,List.drop,Nat.reduceEqDiff,Nat.reduceLT,Nat.reduceLeDiff,Nat.reduceAdd,Nat.reduceMul,↓aj,↓ar,↓ak,↓aF,↓aD,↓aE,reduceCtorEq,hc];rw[named,nt hc (by simp[Oq,h1])];rfl
  |false=>
  simp only[↓dS,lK,lX,↓ai,List.take,List.drop,Nat.reduceEqDiff,Nat.reduceLT,Nat.reduceLeDiff,Nat.reduceAdd,Nat.reduceMul,↓aj,↓ar,↓ak,↓aF,↓aD,↓aE,reduceCtorEq,hc];cases h2:decide ((c.toNat:Int)>122) with
  |true=>
   simp only[↓dS,lK,lX,↓ai,List.take,List.drop,Nat.reduceEqDiff,Nat.reduceLT,Nat.reduceLeDiff,Nat.reduceAdd,Nat.reduceMul,↓aj,↓ar,↓ak,↓aF,↓aD,↓aE,reduceCtorEq,hc];rw[named,nt hc (by simp[Oq,h1,h2])];rfl
  |false=>
  obtain⟨q,hq⟩:=next (by simp[Oq,h1,h2])
  simp only[↓dS,lK,lX,↓ai,List.take,List.drop,Nat.reduceEqDiff,Nat.reduceLT,Nat.reduceLeDiff,Nat.reduceAdd,Nat.reduceMul,↓aj,↓ar,↓ak,↓aF,↓aD,↓aE,reduceCtorEq,hc,hw];refine⟨q,by omega,id,.none ?_ ?_⟩
  ·rw[hq];exact aT rfl (aT rfl (aT rfl (Wc _ _)))
  exact aU (by simp[AV.an]) (aU (by simp[AV.an]) (aU (by simp[AV.an]) (eB _)))
 rw[show decide ((i:Int)<(s.length:Int))=false by simpa using bI];have dN:s.all Oq=true:=by
  have:s.take i=s:=bo (by omega);rw[←this,hs]
 simp only[↓dS,lK,lX,↓ai,List.take,List.drop,Nat.reduceEqDiff,Nat.reduceLT,Nat.reduceLeDiff,Nat.reduceAdd,Nat.reduceMul,↓aj,↓ar,↓ak,↓aF,↓aD,↓aE,reduceCtorEq];cases h1:decide ((s.length:Int)≥1) with
 |true=>
  simp only[↓dS,lK,lX,↓ai,List.take,List.drop,Nat.reduceEqDiff,Nat.reduceLT,Nat.reduceLeDiff,Nat.reduceAdd,Nat.reduceMul,↓aj,↓ar,↓ak,↓aF,↓aD,↓aE,reduceCtorEq];rw[named,dN,h1];rfl
 |false=>
 simp only[↓dS,lK,lX,↓ai,List.take,List.drop,Nat.reduceEqDiff,Nat.reduceLT,Nat.reduceLeDiff,Nat.reduceAdd,Nat.reduceMul,↓aj,↓ar,↓ak,↓aF,↓aD,↓aE,reduceCtorEq];rw[named,dN,h1];rfl

def dr (as:List Attr) (i:Nat):Bool:=
 match as[i]? with
 |some a=>named a.name&&(plain a.val&&(i==0||match as[i - 1]? with|some p=>Op.bytesLess p.name a.name|none=>true))
 |none=>true
def bP (as:List Attr):Bool:=(List.range as.length).all (dr as)&&decide ((as.length:Int)≤4)
def hZ (fN fP:Nat):AC:=
(.seq
 (.cq [
  jM 2 false])
(.seq
 (.seq
  (.cq [
   MR 5 0,
   oy 6 5,
   gH 7 0])
 (.block 0
  (.loop
   (.seq
    (.cq [
     et 8 .lss 7 6])
   (.seq
    (.cond (.t 8)
     .skip
     (.exit 0))
   (.seq
    (.block 1
     (.seq
      (.cq [
       MR 9 7,
       jL 10 5 7 2,
       gz 11 2 10,
       aQ 4 (.new [(.str []),(.str [])]),
       MR 3 9,
       gg (.store 2 (.t 4) (.t 11))])
     (.seq
      (.VL [
       ep 12 4 0,
       fm 13 12,
       aQ 14 (.call fN [(.t 13)]),
       sB 15 14,
       MR 16 15,
       oH 17 16 4 1,
       oG 18 16 17,
       iR 19 16 (.call fP [(.t 18)]),
       iR 20 16 (.not (.t 19)),
       sj 21 16 20,
       MR 22 21,
       gV 23 22 3,
       iR 24 22 (.bin .gtr (.t 23) (jS 0)),
       gV 25 22 24,
       cU 26 25 0,
       cU 27 25 3,
       dW 28 25 (.bin .sub (.t 27) (jS 1)),
       dW 29 25 (.Vc (.t 26) (.t 28) 2),
       Wb 30 25 29 0,
       jm 31 25 30,
       Wb 32 25 4 0,
       jm 33 25 32,
       dW 34 25 (.bin .geq (.t 31) (.t 33)),
       iR 35 22 (.pick (.t 25) (.t 34) (me false)),
       sj 36 22 35]
       [[],[0],[1],[2],[3,2],[4],[5,4],[6,4,4],[7,4],[4,8],[9,7],[10],[11,10],[12,10,10],[13],[13],[15,13],[14,16,13],[17,13],[18,13],[13],[20,13],[19,21,13],[13,22,10],[10,23]]
       [.no,.rw [.loc 4] [],.no,.no,.no,.no,.rw [.loc 4] [],.no,.no,.no,.no,.no,.no,.no,.no,.no,.no,.no,.no,.no,.no,.rw [.loc 4] [],.no,.no,.no])
     (.cond (.t 36)
      (.seq
       (.cq [
        jM 2 false])
      .ret)
      .skip))))
   (.cq [
    eY 37 .add 7 1,
    MR 7 37])))))))
(.seq
 (.cq [
  MR 38 0,
  oy 39 38,
  eY 40 .leq 39 4,
  MR 2 40])
.ret)))
def n5 (as:List Attr) (i:Nat):Env:=put (put (put (put Env.any 0 (.list (cD as))) 5 (.list (cD as))) 6 (.int .i64 as.length)) 7 (.int .i64 i)
def Wk.drop {env env2:Env} {H:Hp} (e:∀n,env2 n= .any∨env n=bJ id (env2 n)) (m:∀n,∀l∈(env2 n).an,Hp.none l≠ .unused) (hn:∀l:Lb,l.fresh=false→H l= .unused):Wk id env H env2 Hp.none:=
 ⟨e,fun l r h=>by simp[Hp.none] at h,fun _ _ ⟨r,h⟩=>by simp[Hp.none] at h,m,fun l r h=>by simp[Hp.none] at h,fun l hl=>⟨fun h=>absurd (hn l (Lb.Og hl)) h,fun _=>rfl⟩,fun l ⟨r,h⟩=>by simp[Hp.none] at h⟩
def pc {p:Nat→Bool} {n i:Nat} (hi:i<n) (hp:p i=false):(List.range n).all p=false:=by
 cases h:(List.range n).all p with
 |false=>rfl
 |true=>
 have:=ek.1 h i (by simpa using hi);rw[hp] at this;exact this.symm
def n6 {P:Program} {G:Nat→Option (List IV)} {f fN fP:Nat} (hF:aw P G f=some (41,[(none,2)],(hZ fN fP).bare)) (as:List Attr) (hx:as.length≤B)
  (hN:∀a∈as,au P G fN [.str a.name] (.bool (named a.name))) (hP:∀a∈as,au P G fP [.str a.val] (.bool (plain a.val))) :
  au P G f [.list (cD as)] (.bool (bP as)):=by
 refine aR hF (by simp) (by simp[ah,AV.an]) (by simp[AV.an]) ?_;unfold hZ;simp only[↓dS,lK,lX,↓ai,List.take,List.drop,Nat.reduceEqDiff,Nat.reduceLT,Nat.reduceLeDiff,Nat.reduceAdd,Nat.reduceMul,↓aj,↓ar,↓ak,↓aF,↓aD,↓aE,reduceCtorEq,bp];refine fY (σ:={i:Nat // i≤as.length∧∀j,j<i→dr as j=true}) (fun q=>n5 as q.1) (fun _=>Hp.none) (fun q=>as.length - q.1) ⟨0,by simp⟩ id ?_ ?_
 ·refine .none ?_ ?_
  ·exact aT rfl (aT rfl (aT rfl (aT rfl (Wc _ _))))
  exact aU (by simp[AV.an]) (aU (by simp[AV.an]) (aU (by simp[AV.an]) (aU (by simp[AV.an]) (eB _))))
 rintro⟨i,hi,hs⟩;simp only[↓dS,lK,lX,↓ai,List.take,List.drop,Nat.reduceEqDiff,Nat.reduceLT,Nat.reduceLeDiff,Nat.reduceAdd,Nat.reduceMul,↓aj,↓ar,↓ak,↓aF,↓aD,↓aE,reduceCtorEq,n5,bp];by_cases bI:i<as.length
 ·rw[show decide ((i:Int)<(as.length:Int))=true by simpa using bI];obtain⟨a,ha⟩:∃a,as[i]?=some a:=⟨_,aC bI⟩;have hw:IntKind.i64.wrap ((i:Int)+1)=((i+1:Nat):Int):=wrap64 (by omega) (by unfold B at hx;omega);simp only[↓dS,lK,lX,↓ai,List.take,List.drop,Nat.reduceEqDiff,Nat.reduceLT,Nat.reduceLeDiff,Nat.reduceAdd,Nat.reduceMul,↓aj,↓ar,↓ak,↓aF,↓aD,↓aE,reduceCtorEq,lS,ha,rq,Attr.cJ,Attr.cs];refine⟨le_max (by decide),rfl,jw (hN a (aV ha)) ?_⟩;have next:dr as i=true→∃q:{i:Nat // i≤as.length∧∀j,j<i→dr as j=true},q.1=i+1:=fun hp=>⟨⟨i+1,bI,fun j hj=>by
   by_cases e:j=i
   ·rw[e];exact hp
   exact hs j (by omega)⟩,rfl⟩
  have stop:dr as i=false→bP as=false:=fun hp=>by rw[bP,pc bI hp];rfl
  have j4:dr as i=(named a.name&&(plain a.val&&(i==0||match as[i - 1]? with|some p=>Op.bytesLess p.name a.name|none=>true))):=by unfold dr;rw[ha]
  cases h1:named a.name with
  |false=>
   simp only[↓dS,lK,lX,↓ai,List.take,List.drop,Nat.reduceEqDiff,Nat.reduceLT,Nat.reduceLeDiff,Nat.reduceAdd,Nat.reduceMul,↓aj,↓ar,↓ak,↓aF,↓aD,↓aE,reduceCtorEq,bx];rw[stop (by rw[j4,h1];rfl)]
  |true=>
  simp only[↓dS,lK,lX,↓ai,List.take,List.drop,Nat.reduceEqDiff,Nat.reduceLT,Nat.reduceLeDiff,Nat.reduceAdd,Nat.reduceMul,↓aj,↓ar,↓ak,↓aF,↓aD,↓aE,reduceCtorEq,bG];refine jw (hP a (aV ha)) ?_;cases h2:plain a.val with
  |false=>
   simp only[↓dS,lK,lX,↓ai,List.take,List.drop,Nat.reduceEqDiff,Nat.reduceLT,Nat.reduceLeDiff,Nat.reduceAdd,Nat.reduceMul,↓aj,↓ar,↓ak,↓aF,↓aD,↓aE,reduceCtorEq,bx];rw[stop (by rw[j4,h1,h2];rfl)]
  |true=>
  simp only[↓dS,lK,lX,↓ai,List.take,List.drop,Nat.reduceEqDiff,Nat.reduceLT,Nat.reduceLeDiff,Nat.reduceAdd,Nat.reduceMul,↓aj,↓ar,↓ak,↓aF,↓aD,↓aE,reduceCtorEq,bG];by_cases h3:i=0
  ·subst h3;rw[show decide (((0:Nat):Int)>0)=false by simp];obtain⟨q,hq⟩:=next (by rw[j4,h1,h2];rfl)
   simp only[↓dS,lK,lX,↓ai,List.take,List.drop,Nat.reduceEqDiff,Nat.reduceLT,Nat.reduceLeDiff,Nat.reduceAdd,Nat.reduceMul,↓aj,↓ar,↓ak,↓aF,↓aD,↓aE,reduceCtorEq,hw];refine⟨q,by omega,id,.drop ?_ ?_ ?_⟩
   ·rw[hq];exact aT rfl (aT rfl (aT rfl (aT rfl (Wc _ _))))
   ·exact aU (by simp[AV.an]) (aU (by simp[AV.an]) (aU (by simp[AV.an]) (aU (by simp[AV.an]) (eB _))))
   exact dT (dT gJ)
  rw[show decide ((i:Int)>0)=true by simp;omega];obtain⟨p,hp⟩:∃p,as[i - 1]?=some p:=⟨_,aC (by omega)⟩;have pU:IntKind.i64.wrap ((i:Int) - 1)=((i - 1:Nat):Int):=by rw[wrap64 (by omega) (by unfold B at hx;omega)];omega
  simp only[↓dS,lK,lX,↓ai,List.take,List.drop,Nat.reduceEqDiff,Nat.reduceLT,Nat.reduceLeDiff,Nat.reduceAdd,Nat.reduceMul,↓aj,↓ar,↓ak,↓aF,↓aD,↓aE,reduceCtorEq,pU,lS,hp,rq,Attr.cJ,Attr.cs];cases h4:Op.bytesLess p.name a.name with
  |false=>
   simp only[↓dS,lK,lX,↓ai,List.take,List.drop,Nat.reduceEqDiff,Nat.reduceLT,Nat.reduceLeDiff,Nat.reduceAdd,Nat.reduceMul,↓aj,↓ar,↓ak,↓aF,↓aD,↓aE,reduceCtorEq,bx];rw[stop (by rw[j4,h1,h2,hp];simp[h3,h4])]
  |true=>
  obtain⟨q,hq⟩:=next (by rw[j4,h1,h2,hp];simp[h4])
  simp only[↓dS,lK,lX,↓ai,List.take,List.drop,Nat.reduceEqDiff,Nat.reduceLT,Nat.reduceLeDiff,Nat.reduceAdd,Nat.reduceMul,↓aj,↓ar,↓ak,↓aF,↓aD,↓aE,reduceCtorEq,bG,hw];refine⟨q,by omega,id,.drop ?_ ?_ ?_⟩
  ·rw[hq];exact aT rfl (aT rfl (aT rfl (aT rfl (Wc _ _))))
  ·exact aU (by simp[AV.an]) (aU (by simp[AV.an]) (aU (by simp[AV.an]) (aU (by simp[AV.an]) (eB _))))
  exact dT (dT gJ)
 rw[show decide ((i:Int)<(as.length:Int))=false by simpa using bI];simp only[↓dS,lK,lX,↓ai,List.take,List.drop,Nat.reduceEqDiff,Nat.reduceLT,Nat.reduceLeDiff,Nat.reduceAdd,Nat.reduceMul,↓aj,↓ar,↓ak,↓aF,↓aD,↓aE,reduceCtorEq,bp];have:(List.range as.length).all (dr as)=true:=by
  rw[ek];intro j hj;exact hs j (by simp at hj;omega)
 rw[bP,this];rfl

mutual
def Tree.dep:Tree→Nat
 | .mk _ _ _ ks=>fB ks+1
def fB:List Tree→Nat
 |[]=>0
 |x::r=>max x.dep (fB r)
end
mutual
def Tree.jz:Tree→Nat
 | .mk _ _ _ ks=>dP ks+1
def dP:List Tree→Nat
 |[]=>0
 |x::r=>x.jz+dP r
end
def Tree.n7 (x:Tree):x.dep=fB x.kids+1:=by cases x;simp[Tree.dep,Tree.kids]
def Tree.n8 (x:Tree):x.jz=dP x.kids+1:=by cases x;simp[Tree.jz,Tree.kids]
theorem n9:∀xs ys:List Tree,fB (xs++ys)=max (fB xs) (fB ys)
 |[],ys=>by simp[fB]
 |x::r,ys=>by simp only[List.cons_append,fB,n9 r ys];omega
theorem lU:∀xs ys:List Tree,dP (xs++ys)=dP xs+dP ys
 |[],ys=>by simp[dP]
 |x::r,ys=>by simp[dP,lU r ys];omega
mutual
theorem Tree.xV:∀x:Tree,x.dep≤x.wt
 | .mk _ _ _ ks=>by have:=nu ks;simp only[Tree.dep,Tree.wt];omega
theorem nu:∀xs:List Tree,fB xs≤dE xs
 |[]=>by simp[fB]
 |x::r=>by have:=x.xV;have:=nu r;simp only[fB,dE];omega
end
mutual
theorem Tree.td:∀x:Tree,x.jz≤x.wt
 | .mk _ _ _ ks=>by have:=ql ks;simp only[Tree.jz,Tree.wt];omega
theorem ql:∀xs:List Tree,dP xs≤dE xs
 |[]=>by simp[dP]
 |x::r=>by have:=x.td;have:=ql r;simp only[dP,dE];omega
end
def lV (xs:List Tree) (i:Nat):dE (xs.take i)≤dE xs:=by
 have:=kn (xs.take i) (xs.drop i);rw[dM] at this;omega
def h_ {env:Env} {H:Hp} (t u:Nat) (R:AV→Hp→Prop):fX [(none,t),(none,u)] R .ret env H=R (.gf [env t,env u]) H:=by simp[fX,ef,oO,gD]
def uz (fS:Nat):AC:=
(.seq
 (.cq [
  sC 1 0,
  gH 2 0,
  gH 3 0])
(.seq
 (.cq [
  gH 4 0,
  gH 5 1])
(.seq
 (.seq
  (.cq [
   ep 10 1 3,
   fm 11 10,
   oy 12 11,
   gH 13 0])
 (.block 0
  (.loop
   (.seq
    (.cq [
     et 14 .lss 13 12])
   (.seq
    (.cond (.t 14)
     .skip
     (.exit 0))
   (.seq
    (.block 1
     (.seq
      (.cq [
       jL 15 11 13 4,
       gz 16 4 15,
       aQ 7 (.new [(.bool false),(.str []),.nil0,.nil0]),
       gg (.store 4 (.t 7) (.t 16))])
     (.seq
      (.cq [
       gz 18 4 7,
       aQ 19 (.call fS [(.t 18)]),
       MR 17 19,
       ox 20 17 0,
       ox 21 17 1,
       MR 8 20,
       MR 9 21])
     (.cq [
      MR 22 4,
      MR 23 8,
      aQ 24 (.max (.t 22) (.t 23)),
      MR 25 5,
      MR 26 9,
      et 27 .add 25 26,
      MR 4 24,
      MR 5 27]))))
   (.cq [
    eY 28 .add 13 1,
    MR 13 28])))))))
(.seq
 (.cq [
  MR 29 4,
  eY 30 .add 29 1,
  MR 31 5,
  MR 2 30,
  MR 3 31])
.ret))))
def uC (ks:List Tree) (i:Nat):Env:=put (put (put (put (put Env.any 4 (.int .i64 (fB (ks.take i)))) 5 (.int .i64 ((dP (ks.take i)+1:Nat):Int))) 11 (.list (dq ks))) 12 (.int .i64 ks.length)) 13 (.int .i64 i)
def Gm {P:Program} {G:Nat→Option (List IV)} {f g:Nat} (hF:aw P G f=some (32,[(none,2),(none,3)],(uz g).bare)) (x:Tree) (hx:x.wt≤B)
  (hS:∀k∈x.kids,au P G g [k.av] (.gf [.int .i64 k.dep,.int .i64 k.jz])) :
  au P G f [x.av] (.gf [.int .i64 x.dep,.int .i64 x.jz]):=by
 refine aR hF (by simp) (by simp[ah,AV.an,Tree.av]) (by simp[AV.an,ah]) ?_;have hk:dE x.kids≤B:=by have:=x.gx;omega
 have hl:x.kids.length≤B:=gU (eZ _) hk;unfold uz;simp only[↓dS,lK,lX,↓ai,List.take,List.drop,Nat.reduceEqDiff,Nat.reduceLT,Nat.reduceLeDiff,Nat.reduceAdd,Nat.reduceMul,↓aj,↓ar,↓ak,↓aF,↓aD,↓aE,reduceCtorEq,Tree.av,bF];refine⟨le_max (by decide),?_⟩;refine fY (σ:={i:Nat // i≤x.kids.length}) (fun q=>uC x.kids q.1) (fun _=>Hp.none) (fun q=>x.kids.length - q.1) ⟨0,by simp⟩ id ?_ ?_
 ·refine .drop ?_ ?_ (dT gJ)
  ·exact aT rfl (aT rfl (aT rfl (aT (by simp[s9,bJ,dP]) (aT (by simp[s9,bJ,fB]) (Wc _ _)))))
  exact aU (by simp[AV.an]) (aU (by simp[AV.an]) (aU (by simp[AV.an]) (aU (by simp[AV.an]) (aU (by simp[AV.an]) (eB _)))))
 rintro⟨i,hi⟩;simp only[↓dS,lK,lX,↓ai,List.take,List.drop,Nat.reduceEqDiff,Nat.reduceLT,Nat.reduceLeDiff,Nat.reduceAdd,Nat.reduceMul,↓aj,↓ar,↓ak,↓aF,↓aD,↓aE,reduceCtorEq,uC,bF];by_cases bI:i<x.kids.length
 ·rw[show decide ((i:Int)<(x.kids.length:Int))=true by simpa using bI];obtain⟨k,HA⟩:∃k,x.kids[i]?=some k:=⟨_,aC bI⟩;have hw:IntKind.i64.wrap ((i:Int)+1)=((i+1:Nat):Int):=wrap64 (by omega) (by unfold B at hl;omega);simp only[↓dS,lK,lX,↓ai,List.take,List.drop,Nat.reduceEqDiff,Nat.reduceLT,Nat.reduceLeDiff,Nat.reduceAdd,Nat.reduceMul,↓aj,↓ar,↓ak,↓aF,↓aD,↓aE,reduceCtorEq,iy,HA,lT,Tree.cJ,Tree.cs];refine⟨le_max (by decide),ay (hS k (aV HA)) ?_⟩;have h1:x.kids.take (i+1)=x.kids.take i++[k]:=by rw[fa,HA];rfl
  have h2:=lV x.kids i;have h3:=ql (x.kids.take i);have h4:=nu (x.kids.take i);have h5:=jx _ _ _ HA;have h6:=k.td;have hc:IntKind.i64.wrap (((dP (x.kids.take i)+1:Nat):Int)+(k.jz:Int))=((dP (x.kids.take (i+1))+1:Nat):Int):=by
   rw[wrap64 (by omega) (by unfold B at hk;omega),h1,lU];simp[dP];omega
  have hd:(if(k.dep:Int)>(fB (x.kids.take i):Int) then(k.dep:Int) else(fB (x.kids.take i):Int))=(fB (x.kids.take (i+1)):Int):=by
   rw[h1,n9];simp only[fB];split<;>omega
  simp only[↓dS,lK,lX,↓ai,List.take,List.drop,Nat.reduceEqDiff,Nat.reduceLT,Nat.reduceLeDiff,Nat.reduceAdd,Nat.reduceMul,↓aj,↓ar,↓ak,↓aF,↓aD,↓aE,reduceCtorEq,hw,hc,hd];refine⟨⟨i+1,bI⟩,by simp only;omega,id,.drop ?_ ?_ (dT (dT gJ))⟩
  ·exact aT rfl (aT rfl (aT rfl (aT rfl (aT rfl (Wc _ _)))))
  exact aU (by simp[AV.an]) (aU (by simp[AV.an]) (aU (by simp[AV.an]) (aU (by simp[AV.an]) (aU (by simp[AV.an]) (eB _)))))
 rw[show decide ((i:Int)<(x.kids.length:Int))=false by simpa using bI];have h1:x.kids.take i=x.kids:=bo (by omega);have h4:=nu x.kids;have hd:IntKind.i64.wrap ((fB x.kids:Int)+1)=(x.dep:Int):=by rw[wrap64 (by omega) (by unfold B at hk;omega),x.n7];omega
 simp only[↓dS,lK,lX,↓ai,List.take,List.drop,Nat.reduceEqDiff,Nat.reduceLT,Nat.reduceLeDiff,Nat.reduceAdd,Nat.reduceMul,↓aj,↓ar,↓ak,↓aF,↓aD,↓aE,reduceCtorEq,↓h_,h1,hd,x.n8]
end Go.Am
