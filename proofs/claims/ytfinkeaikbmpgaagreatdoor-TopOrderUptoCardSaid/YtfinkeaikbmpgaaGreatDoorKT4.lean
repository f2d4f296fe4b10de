import Derived.Test.YtfinkeaikbmpgaaGreatDoorKAm25
set_option linter.unusedSimpArgs false
set_option linter.unusedVariables false
set_option linter.unnecessarySimpa false
set_option linter.defProp false
/- Texts and names that are good. -/
namespace Go.Am
open Go Go.RowKit
def pM (c:UInt8):Bool:= !((((c.toNat:Int) !=10))&&(decide ((c.toNat:Int)<32)||decide ((c.toNat:Int)>126)))
def plain (s:Bs):Bool:=s.all pM&&decide ((s.length:Int)≤40)
def xJ:AC:=
(.seq
 (.ec [
  jK 2 false])
(.seq
 (.seq
  (.ec [
   af 4 0,
   wg 5 4,
   eX 6 0])
 (.block 0
  (.loop
   (.seq
    (.ec [
     eS 7 .lss 6 5])
   (.seq
    (.cond (.t 7)
     .skip
     (.exit 0))
   (.seq
    (.block 1
     (.seq
      (.ec [
       af 8 6,
       af 3 8])
     (.seq
      (.ec [
       af 9 0,
       af 10 3,
       aE 11 (.vd (.t 9) (.t 10)),
       aE 12 (.bin .neq (.t 11) (.c (.int .u8 10))),
       af 13 12,
       eJ 14 13 0,
       eJ 15 13 3,
       eP 16 13 (.vd (.t 14) (.t 15)),
       eP 17 13 (.bin .lss (.t 16) (.c (.int .u8 32))),
       eJ 18 13 17,
       gj 19 18 0,
       gj 20 18 3,
       hQ 21 18 (.vd (.t 19) (.t 20)),
       hQ 22 18 (.bin .gtr (.t 21) (.c (.int .u8 126))),
       eP 23 13 (.pick (.t 18) (vC true) (.t 22)),
       l7 24 13 23])
     (.cond (.t 24)
      (.seq
       (.ec [
        jK 2 false])
      .ret)
      .skip))))
   (.ec [
    db 25 .add 6 1,
    af 6 25])))))))
(.seq
 (.ec [
  af 26 0,
  wg 27 26,
  db 28 .leq 27 40,
  af 2 28])
.ret)))
def DG (s:Bs) (i:Nat):Env:=put (put (put Env.any 0 (.str s)) 5 (.int .i64 s.length)) 6 (.int .i64 i)
def E4 {p:UInt8→Bool} {s:Bs} {i:Nat} {c:UInt8} (h:(s.take i).all p=true) (hc:s[i]?=some c) (hp:p c=true):(s.take (i+1)).all p=true:=by
 rw[aei,hc];simp[h,hp]
def zy {p:UInt8→Bool} {s:Bs} {i:Nat} {c:UInt8} (hc:s[i]?=some c) (hp:p c=false):s.all p=false:=by
 cases h:s.all p with
 |false=>rfl
 |true=>
 have:=aeg.1 h c (adu hc);rw[hp] at this;exact this.symm
def xK {P:Program} {G:Nat→Option (List IV)} {f:Nat} (hF:an P G f=some (29,[(none,2)],xJ.bare)) (s:Bs) (hx:s.length≤B) :
  aw P G f [.str s] (.bool (plain s)):=by
 refine aM hF (by simp) (by simp[ah,AV.aB]) (by simp[AV.aB]) ?_;unfold xJ;simp only[↓kM,lK,lX,↓aS,List.take,List.drop,Nat.reduceEqDiff,Nat.reduceLT,Nat.reduceLeDiff,Nat.reduceAdd,Nat.reduceMul,↓aT,↓ba,↓aU,↓bJ,↓bH,↓bI,reduceCtorEq];refine pI (σ:={i:Nat // i≤s.length∧(s.take i).all pM=true}) (fun q=>DG s q.1) (fun _=>Hp.none) (fun q=>s.length - q.1) ⟨0,by simp⟩ id ?_ ?_
 ·refine .none ?_ ?_
  ·exact cJ rfl (cJ rfl (cJ rfl (mn _ _)))
  exact cL (by simp[AV.aB]) (cL (by simp[AV.aB]) (cL (by simp[AV.aB]) (mo _)))
 rintro⟨i,hi,hs⟩;simp only[↓kM,lK,lX,↓aS,List.take,List.drop,Nat.reduceEqDiff,Nat.reduceLT,Nat.reduceLeDiff,Nat.reduceAdd,Nat.reduceMul,↓aT,↓ba,↓aU,↓bJ,↓bH,↓bI,reduceCtorEq,DG];by_cases bO:i<s.length
 ·rw[show decide ((i:Int)<(s.length:Int))=true by simpa using bO];obtain⟨c,hc⟩:∃c,s[i]?=some c:=⟨_,ag7 bO⟩;have hw:IntKind.i64.wrap ((i:Int)+1)=((i+1:Nat):Int):=wrap64 (by omega) (by unfold B at hx;omega);have next:pM c=true→∃q:{i:Nat // i≤s.length∧(s.take i).all pM=true},q.1=i+1:=fun hp=>⟨⟨i+1,bO,E4 hs hc hp⟩,rfl⟩
  simp only[↓kM,lK,lX,↓aS,List.take,List.drop,Nat.reduceEqDiff,Nat.reduceLT,Nat.reduceLeDiff,Nat.reduceAdd,Nat.reduceMul,↓aT,↓ba,↓aU,↓bJ,↓bH,↓bI,reduceCtorEq,hc];cases h1:((c.toNat:Int) !=10) with
  |false=>
   obtain⟨q,hq⟩:=next (by simp[pM,h1])
   simp only[↓kM,lK,lX,↓aS,List.take,List.drop,Nat.reduceEqDiff,Nat.reduceLT,Nat.reduceLeDiff,Nat.reduceAdd,Nat.reduceMul,↓aT,↓ba,↓aU,↓bJ,↓bH,↓bI,reduceCtorEq,hc,hw];refine⟨q,by omega,id,.none ?_ ?_⟩
   ·rw[hq];exact cJ rfl (cJ rfl (cJ rfl (mn _ _)))
   exact cL (by simp[AV.aB]) (cL (by simp[AV.aB]) (cL (by simp[AV.aB]) (mo _)))
  |true=>
  simp only[↓kM,lK,lX,↓aS,List.take,List.drop,Nat.reduceEqDiff,Nat.reduceLT,Nat.reduceLeDiff,Nat.reduceAdd,Nat.reduceMul,↓aT,↓ba,↓aU,↓bJ,↓bH,↓bI,reduceCtorEq,hc];cases h2:decide ((c.toNat:Int)<32) with
  |true=>
   simp only[↓kM,lK,lX,↓aS,List.take,List.drop,Nat.reduceEqDiff,Nat.reduceLT,Nat.reduceLeDiff,Nat.reduceAdd,Nat.reduceMul,↓aT,↓ba,↓aU,↓bJ,↓bH,↓bI,reduceCtorEq,hc];rw[plain,zy hc (by simp[pM,h1,h2])];rfl
  |false=>
  simp only[↓kM,lK,lX,↓aS,List.take,List.drop,Nat.reduceEqDiff,Nat.reduceLT,Nat.reduceLeDiff,Nat.reduceAdd,Nat.reduceMul,↓aT,↓ba,↓aU,↓bJ,↓bH,↓bI,reduceCtorEq,hc];cases h3:decide ((c.toNat:Int)>126) with
  |true=>
   simp only[↓kM,lK,lX,↓aS,List.take,List.drop,Nat.reduceEqDiff,Nat.reduceLT,Nat.reduceLeDiff,Nat.reduceAdd,Nat.reduceMul,↓aT,↓ba,↓aU,↓bJ,↓bH,↓bI,reduceCtorEq,hc];rw[plain,zy hc (by simp[pM,h1,h2,h3])];rfl
  |false=>
  obtain⟨q,hq⟩:=next (by simp[pM,h1,h2,h3])
  simp only[↓kM,lK,lX,↓aS,List.take,List.drop,Nat.reduceEqDiff,Nat.reduceLT,Nat.reduceLeDiff,Nat.reduceAdd,Nat.reduceMul,↓aT,↓ba,↓aU,↓bJ,↓bH,↓bI,reduceCtorEq,hc,hw];refine⟨q,by omega,id,.none ?_ ?_⟩
  ·rw[hq];exact cJ rfl (cJ rfl (cJ rfl (mn _ _)))
  exact cL (by simp[AV.aB]) (cL (by simp[AV.aB]) (cL (by simp[AV.aB]) (mo _)))
 rw[show decide ((i:Int)<(s.length:Int))=false by simpa using bO];simp only[↓kM,lK,lX,↓aS,List.take,List.drop,Nat.reduceEqDiff,Nat.reduceLT,Nat.reduceLeDiff,Nat.reduceAdd,Nat.reduceMul,↓aT,↓ba,↓aU,↓bJ,↓bH,↓bI,reduceCtorEq];have:s.take i=s:=ads (by omega);rw[plain,←this,hs,this];rfl
def vn (c:UInt8):Bool:= !(decide ((c.toNat:Int)<97)||decide ((c.toNat:Int)>122))
def named (s:Bs):Bool:=s.all vn&&(decide ((s.length:Int)≥1)&&decide ((s.length:Int)≤8))
def xL:AC:=
(.seq
 (.ec [
  jK 2 false])
(.seq
 (.seq
  (.ec [
   af 4 0,
   wg 5 4,
   eX 6 0])
 (.block 0
  (.loop
   (.seq
    (.ec [
     eS 7 .lss 6 5])
   (.seq
    (.cond (.t 7)
     .skip
     (.exit 0))
   (.seq
    (.block 1
     (.seq
      (.ec [
       af 8 6,
       af 3 8])
     (.seq
      (.ec [
       af 9 0,
       af 10 3,
       aE 11 (.vd (.t 9) (.t 10)),
       aE 12 (.bin .lss (.t 11) (.c (.int .u8 97))),
       af 13 12,
       gj 14 13 0,
       gj 15 13 3,
       hQ 16 13 (.vd (.t 14) (.t 15)),
       hQ 17 13 (.bin .gtr (.t 16) (.c (.int .u8 122))),
       nC 18 13 17])
     (.cond (.t 18)
      (.seq
       (.ec [
        jK 2 false])
      .ret)
      .skip))))
   (.ec [
    db 19 .add 6 1,
    af 6 19])))))))
(.seq
 (.ec [
  af 20 0,
  wg 21 20,
  db 22 .geq 21 1,
  af 23 22,
  eJ 24 23 0,
  eP 25 23 (.lens (.t 24)),
  eP 26 23 (.bin .leq (.t 25) (ij 8)),
  l7 27 23 26,
  af 2 27])
.ret)))
def xM {P:Program} {G:Nat→Option (List IV)} {f:Nat} (hF:an P G f=some (28,[(none,2)],xL.bare)) (s:Bs) (hx:s.length≤B) :
  aw P G f [.str s] (.bool (named s)):=by
 refine aM hF (by simp) (by simp[ah,AV.aB]) (by simp[AV.aB]) ?_;unfold xL;simp only[↓kM,lK,lX,↓aS,List.take,List.drop,Nat.reduceEqDiff,Nat.reduceLT,Nat.reduceLeDiff,Nat.reduceAdd,Nat.reduceMul,↓aT,↓ba,↓aU,↓bJ,↓bH,↓bI,reduceCtorEq];refine pI (σ:={i:Nat // i≤s.length∧(s.take i).all vn=true}) (fun q=>DG s q.1) (fun _=>Hp.none) (fun q=>s.length - q.1) ⟨0,by simp⟩ id ?_ ?_
 ·refine .none ?_ ?_
  ·exact cJ rfl (cJ rfl (cJ rfl (mn _ _)))
  exact cL (by simp[AV.aB]) (cL (by simp[AV.aB]) (cL (by simp[AV.aB]) (mo _)))
 rintro⟨i,hi,hs⟩;simp only[↓kM,lK,lX,↓aS,List.take,List.drop,Nat.reduceEqDiff,Nat.reduceLT,Nat.reduceLeDiff,Nat.reduceAdd,Nat.reduceMul,↓aT,↓ba,↓aU,↓bJ,↓bH,↓bI,reduceCtorEq,DG];by_cases bO:i<s.length
 ·rw[show decide ((i:Int)<(s.length:Int))=true by simpa using bO];obtain⟨c,hc⟩:∃c,s[i]?=some c:=⟨_,ag7 bO⟩;have hw:IntKind.i64.wrap ((i:Int)+1)=((i+1:Nat):Int):=wrap64 (by omega) (by unfold B at hx;omega);have next:vn c=true→∃q:{i:Nat // i≤s.length∧(s.take i).all vn=true},q.1=i+1:=fun hp=>⟨⟨i+1,bO,E4 hs hc hp⟩,rfl⟩
  simp only[↓kM,lK,lX,↓aS,List.take,List.drop,Nat.reduceEqDiff,Nat.reduceLT,Nat.reduceLeDiff,Nat.reduceAdd,Nat.reduceMul,↓aT,↓ba,↓aU,↓bJ,↓bH,↓bI,reduceCtorEq,hc];cases h1:decide ((c.toNat:Int)<97) with
  |true=>
   simp only[↓kM,lK,lX,↓aS,List.take,List.drop,Nat.reduceEqDiff,Nat.reduceLT,Nat.reduceLeDiff,Nat.reduceAdd,Nat.reduceMul,↓aT,↓ba,↓aU,↓bJ,↓bH,↓bI,reduceCtorEq,hc];rw[named,zy hc (by simp[vn,h1])];rfl
  |false=>
  simp only[↓kM,lK,lX,↓aS,List.take,List.drop,Nat.reduceEqDiff,Nat.reduceLT,Nat.reduceLeDiff,Nat.reduceAdd,Nat.reduceMul,↓aT,↓ba,↓aU,↓bJ,↓bH,↓bI,reduceCtorEq,hc];cases h2:decide ((c.toNat:Int)>122) with
  |true=>
   simp only[↓kM,lK,lX,↓aS,List.take,List.drop,Nat.reduceEqDiff,Nat.reduceLT,Nat.reduceLeDiff,Nat.reduceAdd,Nat.reduceMul,↓aT,↓ba,↓aU,↓bJ,↓bH,↓bI,reduceCtorEq,hc];rw[named,zy hc (by simp[vn,h1,h2])];rfl
  |false=>
  obtain⟨q,hq⟩:=next (by simp[vn,h1,h2])
  simp only[↓kM,lK,lX,↓aS,List.take,List.drop,Nat.reduceEqDiff,Nat.reduceLT,Nat.reduceLeDiff,Nat.reduceAdd,Nat.reduceMul,↓aT,↓ba,↓aU,↓bJ,↓bH,↓bI,reduceCtorEq,hc,hw];refine⟨q,by omega,id,.none ?_ ?_⟩
  ·rw[hq];exact cJ rfl (cJ rfl (cJ rfl (mn _ _)))
  exact cL (by simp[AV.aB]) (cL (by simp[AV.aB]) (cL (by simp[AV.aB]) (mo _)))
 rw[show decide ((i:Int)<(s.length:Int))=false by simpa using bO];have fX:s.all vn=true:=by
  have:s.take i=s:=ads (by omega);rw[←this,hs]
 simp only[↓kM,lK,lX,↓aS,List.take,List.drop,Nat.reduceEqDiff,Nat.reduceLT,Nat.reduceLeDiff,Nat.reduceAdd,Nat.reduceMul,↓aT,↓ba,↓aU,↓bJ,↓bH,↓bI,reduceCtorEq];cases h1:decide ((s.length:Int)≥1) with
 |true=>
  simp only[↓kM,lK,lX,↓aS,List.take,List.drop,Nat.reduceEqDiff,Nat.reduceLT,Nat.reduceLeDiff,Nat.reduceAdd,Nat.reduceMul,↓aT,↓ba,↓aU,↓bJ,↓bH,↓bI,reduceCtorEq];rw[named,fX,h1];rfl
 |false=>
 simp only[↓kM,lK,lX,↓aS,List.take,List.drop,Nat.reduceEqDiff,Nat.reduceLT,Nat.reduceLeDiff,Nat.reduceAdd,Nat.reduceMul,↓aT,↓ba,↓aU,↓bJ,↓bH,↓bI,reduceCtorEq];rw[named,fX,h1];rfl

def mq (as:List Attr) (i:Nat):Bool:=
 match as[i]? with
 |some a=>named a.name&&(plain a.val&&(i==0||match as[i - 1]? with|some p=>Op.bytesLess p.name a.name|none=>true))
 |none=>true
def iI (as:List Attr):Bool:=(List.range as.length).all (mq as)&&decide ((as.length:Int)≤4)
def nU (fN fP:Nat):AC:=
(.seq
 (.ec [
  jK 2 false])
(.seq
 (.seq
  (.ec [
   af 5 0,
   ky 6 5,
   eX 7 0])
 (.block 0
  (.loop
   (.seq
    (.ec [
     eS 8 .lss 7 6])
   (.seq
    (.cond (.t 8)
     .skip
     (.exit 0))
   (.seq
    (.block 1
     (.seq
      (.ec [
       af 9 7,
       ig 10 5 7 2,
       gd 11 2 10,
       aE 4 (.new [(.str []),(.str [])]),
       af 3 9,
       dT (.store 2 (.t 4) (.t 11))])
     (.seq
      (.fg [
       b7 12 4 0,
       cS 13 12,
       aE 14 (.call fN [(.t 13)]),
       uk 15 14,
       af 16 15,
       j3 17 16 4 1,
       jP 18 16 17,
       hQ 19 16 (.call fP [(.t 18)]),
       hQ 20 16 (.not (.t 19)),
       nC 21 16 20,
       af 22 21,
       gj 23 22 3,
       hQ 24 22 (.bin .gtr (.t 23) (ij 0)),
       gj 25 22 24,
       eJ 26 25 0,
       eJ 27 25 3,
       eP 28 25 (.bin .sub (.t 27) (ij 1)),
       eP 29 25 (.Dg (.t 26) (.t 28) 2),
       iu 30 25 29 0,
       ir 31 25 30,
       iu 32 25 4 0,
       ir 33 25 32,
       eP 34 25 (.bin .geq (.t 31) (.t 33)),
       hQ 35 22 (.pick (.t 25) (.t 34) (vC false)),
       nC 36 22 35]
       [[],[0],[1],[2],[3,2],[4],[5,4],[6,4,4],[7,4],[4,8],[9,7],[10],[11,10],[12,10,10],[13],[13],[15,13],[14,16,13],[17,13],[18,13],[13],[20,13],[19,21,13],[13,22,10],[10,23]]
       [.no,.rw [.loc 4] [],.no,.no,.no,.no,.rw [.loc 4] [],.no,.no,.no,.no,.no,.no,.no,.no,.no,.no,.no,.no,.no,.no,.rw [.loc 4] [],.no,.no,.no])
     (.cond (.t 36)
      (.seq
       (.ec [
        jK 2 false])
      .ret)
      .skip))))
   (.ec [
    db 37 .add 7 1,
    af 7 37])))))))
(.seq
 (.ec [
  af 38 0,
  ky 39 38,
  db 40 .leq 39 4,
  af 2 40])
.ret)))
def Ak (as:List Attr) (i:Nat):Env:=put (put (put (put Env.any 0 (.list (dA as))) 5 (.list (dA as))) 6 (.int .i64 as.length)) 7 (.int .i64 i)
def Wk.drop {env env2:Env} {H:Hp} (e:∀n,env2 n= .any∨env n=e7 id (env2 n)) (m:∀n,∀l∈(env2 n).aB,Hp.none l≠ .unused) (hn:∀l:Lb,l.fresh=false→H l= .unused):Wk id env H env2 Hp.none:=
 ⟨e,fun l r h=>by simp[Hp.none] at h,fun _ _ ⟨r,h⟩=>by simp[Hp.none] at h,m,fun l r h=>by simp[Hp.none] at h,fun l hl=>⟨fun h=>absurd (hn l (Lb.oq hl)) h,fun _=>rfl⟩,fun l ⟨r,h⟩=>by simp[Hp.none] at h⟩
def KQ {p:Nat→Bool} {n i:Nat} (hi:i<n) (hp:p i=false):(List.range n).all p=false:=by
 cases h:(List.range n).all p with
 |false=>rfl
 |true=>
 have:=aeg.1 h i (by simpa using hi);rw[hp] at this;exact this.symm
def Al {P:Program} {G:Nat→Option (List IV)} {f fN fP:Nat} (hF:an P G f=some (41,[(none,2)],(nU fN fP).bare)) (as:List Attr) (hx:as.length≤B)
  (hN:∀a∈as,aw P G fN [.str a.name] (.bool (named a.name))) (hP:∀a∈as,aw P G fP [.str a.val] (.bool (plain a.val))) :
  aw P G f [.list (dA as)] (.bool (iI as)):=by
 refine aM hF (by simp) (by simp[ah,AV.aB]) (by simp[AV.aB]) ?_;unfold nU;simp only[↓kM,lK,lX,↓aS,List.take,List.drop,Nat.reduceEqDiff,Nat.reduceLT,Nat.reduceLeDiff,Nat.reduceAdd,Nat.reduceMul,↓aT,↓ba,↓aU,↓bJ,↓bH,↓bI,reduceCtorEq,bQ];refine pI (σ:={i:Nat // i≤as.length∧∀j,j<i→mq as j=true}) (fun q=>Ak as q.1) (fun _=>Hp.none) (fun q=>as.length - q.1) ⟨0,by simp⟩ id ?_ ?_
 ·refine .none ?_ ?_
  ·exact cJ rfl (cJ rfl (cJ rfl (cJ rfl (mn _ _))))
  exact cL (by simp[AV.aB]) (cL (by simp[AV.aB]) (cL (by simp[AV.aB]) (cL (by simp[AV.aB]) (mo _))))
 rintro⟨i,hi,hs⟩;simp only[↓kM,lK,lX,↓aS,List.take,List.drop,Nat.reduceEqDiff,Nat.reduceLT,Nat.reduceLeDiff,Nat.reduceAdd,Nat.reduceMul,↓aT,↓ba,↓aU,↓bJ,↓bH,↓bI,reduceCtorEq,Ak,bQ];by_cases bO:i<as.length
 ·rw[show decide ((i:Int)<(as.length:Int))=true by simpa using bO];obtain⟨a,ha⟩:∃a,as[i]?=some a:=⟨_,ag7 bO⟩;have hw:IntKind.i64.wrap ((i:Int)+1)=((i+1:Nat):Int):=wrap64 (by omega) (by unfold B at hx;omega);simp only[↓kM,lK,lX,↓aS,List.take,List.drop,Nat.reduceEqDiff,Nat.reduceLT,Nat.reduceLeDiff,Nat.reduceAdd,Nat.reduceMul,↓aT,↓ba,↓aU,↓bJ,↓bH,↓bI,reduceCtorEq,rU,ha,tk,Attr.bw,Attr.cs];refine⟨le_max (by decide),rfl,gJ (hN a (adu ha)) ?_⟩;have next:mq as i=true→∃q:{i:Nat // i≤as.length∧∀j,j<i→mq as j=true},q.1=i+1:=fun hp=>⟨⟨i+1,bO,fun j hj=>by
   by_cases e:j=i
   ·rw[e];exact hp
   exact hs j (by omega)⟩,rfl⟩
  have stop:mq as i=false→iI as=false:=fun hp=>by rw[iI,KQ bO hp];rfl
  have u7:mq as i=(named a.name&&(plain a.val&&(i==0||match as[i - 1]? with|some p=>Op.bytesLess p.name a.name|none=>true))):=by unfold mq;rw[ha]
  cases h1:named a.name with
  |false=>
   simp only[↓kM,lK,lX,↓aS,List.take,List.drop,Nat.reduceEqDiff,Nat.reduceLT,Nat.reduceLeDiff,Nat.reduceAdd,Nat.reduceMul,↓aT,↓ba,↓aU,↓bJ,↓bH,↓bI,reduceCtorEq,adI];rw[stop (by rw[u7,h1];rfl)]
  |true=>
  simp only[↓kM,lK,lX,↓aS,List.take,List.drop,Nat.reduceEqDiff,Nat.reduceLT,Nat.reduceLeDiff,Nat.reduceAdd,Nat.reduceMul,↓aT,↓ba,↓aU,↓bJ,↓bH,↓bI,reduceCtorEq,adL];refine gJ (hP a (adu ha)) ?_;cases h2:plain a.val with
  |false=>
   simp only[↓kM,lK,lX,↓aS,List.take,List.drop,Nat.reduceEqDiff,Nat.reduceLT,Nat.reduceLeDiff,Nat.reduceAdd,Nat.reduceMul,↓aT,↓ba,↓aU,↓bJ,↓bH,↓bI,reduceCtorEq,adI];rw[stop (by rw[u7,h1,h2];rfl)]
  |true=>
  simp only[↓kM,lK,lX,↓aS,List.take,List.drop,Nat.reduceEqDiff,Nat.reduceLT,Nat.reduceLeDiff,Nat.reduceAdd,Nat.reduceMul,↓aT,↓ba,↓aU,↓bJ,↓bH,↓bI,reduceCtorEq,adL];by_cases h3:i=0
  ·subst h3;rw[show decide (((0:Nat):Int)>0)=false by simp];obtain⟨q,hq⟩:=next (by rw[u7,h1,h2];rfl)
   simp only[↓kM,lK,lX,↓aS,List.take,List.drop,Nat.reduceEqDiff,Nat.reduceLT,Nat.reduceLeDiff,Nat.reduceAdd,Nat.reduceMul,↓aT,↓ba,↓aU,↓bJ,↓bH,↓bI,reduceCtorEq,hw];refine⟨q,by omega,id,.drop ?_ ?_ ?_⟩
   ·rw[hq];exact cJ rfl (cJ rfl (cJ rfl (cJ rfl (mn _ _))))
   ·exact cL (by simp[AV.aB]) (cL (by simp[AV.aB]) (cL (by simp[AV.aB]) (cL (by simp[AV.aB]) (mo _))))
   exact nc (nc rT)
  rw[show decide ((i:Int)>0)=true by simp;omega];obtain⟨p,hp⟩:∃p,as[i - 1]?=some p:=⟨_,ag7 (by omega)⟩;have oU:IntKind.i64.wrap ((i:Int) - 1)=((i - 1:Nat):Int):=by rw[wrap64 (by omega) (by unfold B at hx;omega)];omega
  simp only[↓kM,lK,lX,↓aS,List.take,List.drop,Nat.reduceEqDiff,Nat.reduceLT,Nat.reduceLeDiff,Nat.reduceAdd,Nat.reduceMul,↓aT,↓ba,↓aU,↓bJ,↓bH,↓bI,reduceCtorEq,oU,rU,hp,tk,Attr.bw,Attr.cs];cases h4:Op.bytesLess p.name a.name with
  |false=>
   simp only[↓kM,lK,lX,↓aS,List.take,List.drop,Nat.reduceEqDiff,Nat.reduceLT,Nat.reduceLeDiff,Nat.reduceAdd,Nat.reduceMul,↓aT,↓ba,↓aU,↓bJ,↓bH,↓bI,reduceCtorEq,adI];rw[stop (by rw[u7,h1,h2,hp];simp[h3,h4])]
  |true=>
  obtain⟨q,hq⟩:=next (by rw[u7,h1,h2,hp];simp[h4])
  simp only[↓kM,lK,lX,↓aS,List.take,List.drop,Nat.reduceEqDiff,Nat.reduceLT,Nat.reduceLeDiff,Nat.reduceAdd,Nat.reduceMul,↓aT,↓ba,↓aU,↓bJ,↓bH,↓bI,reduceCtorEq,adL,hw];refine⟨q,by omega,id,.drop ?_ ?_ ?_⟩
  ·rw[hq];exact cJ rfl (cJ rfl (cJ rfl (cJ rfl (mn _ _))))
  ·exact cL (by simp[AV.aB]) (cL (by simp[AV.aB]) (cL (by simp[AV.aB]) (cL (by simp[AV.aB]) (mo _))))
  exact nc (nc rT)
 rw[show decide ((i:Int)<(as.length:Int))=false by simpa using bO];simp only[↓kM,lK,lX,↓aS,List.take,List.drop,Nat.reduceEqDiff,Nat.reduceLT,Nat.reduceLeDiff,Nat.reduceAdd,Nat.reduceMul,↓aT,↓ba,↓aU,↓bJ,↓bH,↓bI,reduceCtorEq,bQ];have:(List.range as.length).all (mq as)=true:=by
  rw[aeg];intro j hj;exact hs j (by simp at hj;omega)
 rw[iI,this];rfl

mutual
def Tree.dep:Tree→Nat
 | .mk _ _ _ ks=>lG ks+1
def lG:List Tree→Nat
 |[]=>0
 |x::r=>max x.dep (lG r)
end
mutual
def Tree.fI:Tree→Nat
 | .mk _ _ _ ks=>bC ks+1
def bC:List Tree→Nat
 |[]=>0
 |x::r=>x.fI+bC r
end
def Tree.xN (x:Tree):x.dep=lG x.kids+1:=by cases x;simp[Tree.dep,Tree.kids]
def Tree.kc (x:Tree):x.fI=bC x.kids+1:=by cases x;simp[Tree.fI,Tree.kids]
theorem An:∀xs ys:List Tree,lG (xs++ys)=max (lG xs) (lG ys)
 |[],ys=>by simp[lG]
 |x::r,ys=>by simp only[adR,lG,An r ys];omega
theorem jt:∀xs ys:List Tree,bC (xs++ys)=bC xs+bC ys
 |[],ys=>by simp[bC]
 |x::r,ys=>by simp[bC,jt r ys];omega
mutual
theorem Tree.Wf:∀x:Tree,x.dep≤x.wt
 | .mk _ _ _ ks=>by have:=zz ks;simp only[Tree.dep,Tree.wt];omega
theorem zz:∀xs:List Tree,lG xs≤er xs
 |[]=>by simp[lG]
 |x::r=>by have:=x.Wf;have:=zz r;simp only[lG,er];omega
end
mutual
theorem Tree.Hj:∀x:Tree,x.fI≤x.wt
 | .mk _ _ _ ks=>by have:=o9 ks;simp only[Tree.fI,Tree.wt];omega
theorem o9:∀xs:List Tree,bC xs≤er xs
 |[]=>by simp[bC]
 |x::r=>by have:=x.Hj;have:=o9 r;simp only[bC,er];omega
end
def k9 (xs:List Tree) (i:Nat):er (xs.take i)≤er xs:=by
 have:=jL (xs.take i) (xs.drop i);rw[ad0] at this;omega
def eQ {env:Env} {H:Hp} (t u:Nat) (R:AV→Hp→Prop):kX [(none,t),(none,u)] R .ret env H=R (.dM [env t,env u]) H:=by simp[kX,jc,vM,jf]
def E5 (fS:Nat):AC:=
(.seq
 (.ec [
  oN 1 0,
  eX 2 0,
  eX 3 0])
(.seq
 (.ec [
  eX 4 0,
  eX 5 1])
(.seq
 (.seq
  (.ec [
   b7 10 1 3,
   cS 11 10,
   ky 12 11,
   eX 13 0])
 (.block 0
  (.loop
   (.seq
    (.ec [
     eS 14 .lss 13 12])
   (.seq
    (.cond (.t 14)
     .skip
     (.exit 0))
   (.seq
    (.block 1
     (.seq
      (.ec [
       ig 15 11 13 4,
       gd 16 4 15,
       aE 7 (.new [(.bool false),(.str []),.nil0,.nil0]),
       dT (.store 4 (.t 7) (.t 16))])
     (.seq
      (.ec [
       gd 18 4 7,
       aE 19 (.call fS [(.t 18)]),
       af 17 19,
       gQ 20 17 0,
       gQ 21 17 1,
       af 8 20,
       af 9 21])
     (.ec [
      af 22 4,
      af 23 8,
      aE 24 (.max (.t 22) (.t 23)),
      af 25 5,
      af 26 9,
      eS 27 .add 25 26,
      af 4 24,
      af 5 27]))))
   (.ec [
    db 28 .add 13 1,
    af 13 28])))))))
(.seq
 (.ec [
  af 29 4,
  db 30 .add 29 1,
  af 31 5,
  af 2 30,
  af 3 31])
.ret))))
def E6 (ks:List Tree) (i:Nat):Env:=put (put (put (put (put Env.any 4 (.int .i64 (lG (ks.take i)))) 5 (.int .i64 ((bC (ks.take i)+1:Nat):Int))) 11 (.list (eR ks))) 12 (.int .i64 ks.length)) 13 (.int .i64 i)
def ZG {P:Program} {G:Nat→Option (List IV)} {f g:Nat} (hF:an P G f=some (32,[(none,2),(none,3)],(E5 g).bare)) (x:Tree) (hx:x.wt≤B)
  (hS:∀k∈x.kids,aw P G g [k.av] (.dM [.int .i64 k.dep,.int .i64 k.fI])) :
  aw P G f [x.av] (.dM [.int .i64 x.dep,.int .i64 x.fI]):=by
 refine aM hF (by simp) (by simp[ah,AV.aB,Tree.av]) (by simp[AV.aB,ah]) ?_;have hk:er x.kids≤B:=by have:=x.kZ;omega
 have hl:x.kids.length≤B:=aeZ (jr _) hk;unfold E5;simp only[↓kM,lK,lX,↓aS,List.take,List.drop,Nat.reduceEqDiff,Nat.reduceLT,Nat.reduceLeDiff,Nat.reduceAdd,Nat.reduceMul,↓aT,↓ba,↓aU,↓bJ,↓bH,↓bI,reduceCtorEq,Tree.av,bx];refine⟨le_max (by decide),?_⟩;refine pI (σ:={i:Nat // i≤x.kids.length}) (fun q=>E6 x.kids q.1) (fun _=>Hp.none) (fun q=>x.kids.length - q.1) ⟨0,by simp⟩ id ?_ ?_
 ·refine .drop ?_ ?_ (nc rT)
  ·exact cJ rfl (cJ rfl (cJ rfl (cJ (by simp[Af,e7,bC]) (cJ (by simp[Af,e7,lG]) (mn _ _)))))
  exact cL (by simp[AV.aB]) (cL (by simp[AV.aB]) (cL (by simp[AV.aB]) (cL (by simp[AV.aB]) (cL (by simp[AV.aB]) (mo _)))))
 rintro⟨i,hi⟩;simp only[↓kM,lK,lX,↓aS,List.take,List.drop,Nat.reduceEqDiff,Nat.reduceLT,Nat.reduceLeDiff,Nat.reduceAdd,Nat.reduceMul,↓aT,↓ba,↓aU,↓bJ,↓bH,↓bI,reduceCtorEq,E6,bx];by_cases bO:i<x.kids.length
 ·rw[show decide ((i:Int)<(x.kids.length:Int))=true by simpa using bO];obtain⟨k,vo⟩:∃k,x.kids[i]?=some k:=⟨_,ag7 bO⟩;have hw:IntKind.i64.wrap ((i:Int)+1)=((i+1:Nat):Int):=wrap64 (by omega) (by unfold B at hl;omega);simp only[↓kM,lK,lX,↓aS,List.take,List.drop,Nat.reduceEqDiff,Nat.reduceLT,Nat.reduceLeDiff,Nat.reduceAdd,Nat.reduceMul,↓aT,↓ba,↓aU,↓bJ,↓bH,↓bI,reduceCtorEq,ml,vo,tj,Tree.bw,Tree.cs];refine⟨le_max (by decide),aq (hS k (adu vo)) ?_⟩;have h1:x.kids.take (i+1)=x.kids.take i++[k]:=by rw[aei,vo];rfl
  have h2:=k9 x.kids i;have h3:=o9 (x.kids.take i);have h4:=zz (x.kids.take i);have h5:=o8 _ _ _ vo;have h6:=k.Hj;have hc:IntKind.i64.wrap (((bC (x.kids.take i)+1:Nat):Int)+(k.fI:Int))=((bC (x.kids.take (i+1))+1:Nat):Int):=by
   rw[wrap64 (by omega) (by unfold B at hk;omega),h1,jt];simp[bC];omega
  have hd:(if(k.dep:Int)>(lG (x.kids.take i):Int) then(k.dep:Int) else(lG (x.kids.take i):Int))=(lG (x.kids.take (i+1)):Int):=by
   rw[h1,An];simp only[lG];split<;>omega
  simp only[↓kM,lK,lX,↓aS,List.take,List.drop,Nat.reduceEqDiff,Nat.reduceLT,Nat.reduceLeDiff,Nat.reduceAdd,Nat.reduceMul,↓aT,↓ba,↓aU,↓bJ,↓bH,↓bI,reduceCtorEq,hw,hc,hd];refine⟨⟨i+1,bO⟩,by simp only;omega,id,.drop ?_ ?_ (nc (nc rT))⟩
  ·exact cJ rfl (cJ rfl (cJ rfl (cJ rfl (cJ rfl (mn _ _)))))
  exact cL (by simp[AV.aB]) (cL (by simp[AV.aB]) (cL (by simp[AV.aB]) (cL (by simp[AV.aB]) (cL (by simp[AV.aB]) (mo _)))))
 rw[show decide ((i:Int)<(x.kids.length:Int))=false by simpa using bO];have h1:x.kids.take i=x.kids:=ads (by omega);have h4:=zz x.kids;have hd:IntKind.i64.wrap ((lG x.kids:Int)+1)=(x.dep:Int):=by rw[wrap64 (by omega) (by unfold B at hk;omega),x.xN];omega
 simp only[↓kM,lK,lX,↓aS,List.take,List.drop,Nat.reduceEqDiff,Nat.reduceLT,Nat.reduceLeDiff,Nat.reduceAdd,Nat.reduceMul,↓aT,↓ba,↓aU,↓bJ,↓bH,↓bI,reduceCtorEq,↓eQ,h1,hd,x.kc]

mutual
def Tree.k_:Tree→Bool
 | .mk t s as ks=>if t then plain s&&(s !=[]&&(as.length==0&&ks.length==0)) else named s&&(iI as&&iD none ks)
def iD:Option Bool→List Tree→Bool
 |_,[]=>true
 |p,x::r=>x.k_&&(!(p==some true&&x.text)&&iD (some x.text) r)
end
def Cn (fP fN Qu Mv:Nat):AC:=
(.seq
 (.ec [
  oN 1 0,
  jK 2 false])
(.seq
 (.seq
  (.ec [
   b7 3 1 0,
   cS 4 3])
 (.cond (.t 4)
  (.seq
   (.ec [
    b7 5 1 1,
    cS 6 5,
    aE 7 (.call fP [(.t 6)]),
    af 8 7,
    iu 9 8 1 1,
    ir 10 8 9,
    eP 11 8 (.bin .neq (.t 10) (.c (.str []))),
    l7 12 8 11,
    af 13 12,
    iu 14 13 1 2,
    ir 15 13 14,
    eP 16 13 (.len (.t 15)),
    eP 17 13 (.bin .eql (.t 16) (ij 0)),
    l7 18 13 17,
    af 19 18,
    iu 20 19 1 3,
    ir 21 19 20,
    eP 22 19 (.len (.t 21)),
    eP 23 19 (.bin .eql (.t 22) (ij 0)),
    l7 24 19 23,
    af 2 24])
  .ret)
  .skip))
(.seq
 (.ec [
  b7 25 1 1,
  cS 26 25,
  aE 27 (.call fN [(.t 26)]),
  af 28 27,
  iu 29 28 1 2,
  ir 30 28 29,
  eP 31 28 (.call Qu [(.t 30)]),
  l7 32 28 31,
  af 33 32,
  iu 34 33 1 3,
  ir 35 33 34,
  eP 36 33 (.call Mv [(.t 35)]),
  l7 37 33 36,
  af 2 37])
.ret)))
def xO (fF:Nat):AC:=
(.seq
 (.ec [
  jK 2 false])
(.seq
 (.seq
  (.ec [
   af 5 0,
   ky 6 5,
   eX 7 0])
 (.block 0
  (.loop
   (.seq
    (.ec [
     eS 8 .lss 7 6])
   (.seq
    (.cond (.t 8)
     .skip
     (.exit 0))
   (.seq
    (.block 1
     (.seq
      (.ec [
       af 9 7,
       ig 10 5 7 4,
       gd 11 4 10,
       aE 4 (.new [(.bool false),(.str []),.nil0,.nil0]),
       af 3 9,
       dT (.store 4 (.t 4) (.t 11))])
     (.seq
      (.ec [
       gd 12 4 4,
       aE 13 (.call fF [(.t 12)]),
       uk 14 13,
       af 15 14,
       gj 16 15 3,
       hQ 17 15 (.bin .gtr (.t 16) (ij 0)),
       gj 18 15 17,
       iu 19 18 4 0,
       ir 20 18 19,
       hQ 21 15 (.pick (.t 18) (.t 20) (vC false)),
       gj 22 15 21,
       eJ 23 22 0,
       eJ 24 22 3,
       eP 25 22 (.bin .sub (.t 24) (ij 1)),
       eP 26 22 (.Dg (.t 23) (.t 25) 4),
       iu 27 22 26 0,
       ir 28 22 27,
       hQ 29 15 (.pick (.t 22) (.t 28) (vC false)),
       nC 30 15 29])
     (.cond (.t 30)
      (.seq
       (.ec [
        jK 2 false])
      .ret)
      .skip))))
   (.ec [
    db 31 .add 7 1,
    af 7 31])))))))
(.seq
 (.ec [
  jK 2 true])
.ret)))
def Co (fS fF:Nat):AC:=
(.seq
 (.ec [
  oN 1 0,
  jK 2 false])
(.seq
 (.ec [
  gd 6 4 1,
  aE 7 (.call fS [(.t 6)]),
  af 5 7,
  gQ 8 5 0,
  gQ 9 5 1,
  af 3 8,
  af 4 9])
(.seq
 (.ec [
  b7 10 1 0,
  cS 11 10,
  uk 12 11,
  af 13 12,
  eJ 14 13 3,
  eP 15 13 (.bin .leq (.t 14) (ij 8)),
  l7 16 13 15,
  af 17 16,
  eJ 18 17 4,
  eP 19 17 (.bin .leq (.t 18) (ij 80)),
  l7 20 17 19,
  af 21 20,
  eP 22 21 (.load (some 4) (.t 1)),
  eP 23 21 (.call fF [(.t 22)]),
  l7 24 21 23,
  af 2 24])
.ret)))
def Tree.Ao (x:Tree) (h:x.text=true):x.k_=(plain x.s&&(x.s !=[]&&(x.attrs.length==0&&x.kids.length==0))):=by
 cases x;simp only[Tree.text] at h;subst h;simp[Tree.k_,Tree.s,Tree.attrs,Tree.kids]
def Tree.vQ (x:Tree) (h:x.text=false):x.k_=(named x.s&&(iI x.attrs&&iD none x.kids)):=by
 cases x;simp only[Tree.text] at h;subst h;simp[Tree.k_,Tree.s,Tree.attrs,Tree.kids]
def TV {P:Program} {G:Nat→Option (List IV)} {f fP fN Qu Mv:Nat} (hF:an P G f=some (38,[(none,2)],(Cn fP fN Qu Mv).bare)) (x:Tree)
  (hP:aw P G fP [.str x.s] (.bool (plain x.s))) (hN:aw P G fN [.str x.s] (.bool (named x.s))) (hA:aw P G Qu [.list (dA x.attrs)] (.bool (iI x.attrs)))
  (Wg:aw P G Mv [.list (eR x.kids)] (.bool (iD none x.kids))):aw P G f [x.av] (.bool x.k_):=by
 refine aM hF (by simp) (by simp[ah,AV.aB,Tree.av]) (by simp[AV.aB]) ?_;unfold Cn;simp only[↓kM,lK,lX,↓aS,List.take,List.drop,Nat.reduceEqDiff,Nat.reduceLT,Nat.reduceLeDiff,Nat.reduceAdd,Nat.reduceMul,↓aT,↓ba,↓aU,↓bJ,↓bH,↓bI,reduceCtorEq,Tree.av];refine⟨le_max (by decide),?_⟩;cases h0:x.text with
 |true=>
  rw[x.Ao h0];simp only[↓kM,lK,lX,↓aS,List.take,List.drop,Nat.reduceEqDiff,Nat.reduceLT,Nat.reduceLeDiff,Nat.reduceAdd,Nat.reduceMul,↓aT,↓ba,↓aU,↓bJ,↓bH,↓bI,reduceCtorEq];refine aq hP ?_;cases h1:plain x.s with
  |false=>simp only[↓kM,lK,lX,↓aS,List.take,List.drop,Nat.reduceEqDiff,Nat.reduceLT,Nat.reduceLeDiff,Nat.reduceAdd,Nat.reduceMul,↓aT,↓ba,↓aU,↓bJ,↓bH,↓bI,reduceCtorEq,afw]
  |true=>
  simp only[↓kM,lK,lX,↓aS,List.take,List.drop,Nat.reduceEqDiff,Nat.reduceLT,Nat.reduceLeDiff,Nat.reduceAdd,Nat.reduceMul,↓aT,↓ba,↓aU,↓bJ,↓bH,↓bI,reduceCtorEq];cases h2:(!(x.s==[])) with
  |false=>
   simp only[↓kM,lK,lX,↓aS,List.take,List.drop,Nat.reduceEqDiff,Nat.reduceLT,Nat.reduceLeDiff,Nat.reduceAdd,Nat.reduceMul,↓aT,↓ba,↓aU,↓bJ,↓bH,↓bI,reduceCtorEq];rw[show(x.s !=[])=false from h2];rfl
  |true=>
  simp only[↓kM,lK,lX,↓aS,List.take,List.drop,Nat.reduceEqDiff,Nat.reduceLT,Nat.reduceLeDiff,Nat.reduceAdd,Nat.reduceMul,↓aT,↓ba,↓aU,↓bJ,↓bH,↓bI,reduceCtorEq,bQ,bx];rw[show(x.s !=[])=true from h2];have e1:((x.attrs.length:Int)==0)=(x.attrs.length==0):=by
   rw[aeG];simp
  have e2:((x.kids.length:Int)==0)=(x.kids.length==0):=by
   rw[aeG];simp
  rw[e1];cases h3:(x.attrs.length==0) with
  |false=>simp only[↓kM,lK,lX,↓aS,List.take,List.drop,Nat.reduceEqDiff,Nat.reduceLT,Nat.reduceLeDiff,Nat.reduceAdd,Nat.reduceMul,↓aT,↓ba,↓aU,↓bJ,↓bH,↓bI,reduceCtorEq,afw]
  |true=>simp only[↓kM,lK,lX,↓aS,List.take,List.drop,Nat.reduceEqDiff,Nat.reduceLT,Nat.reduceLeDiff,Nat.reduceAdd,Nat.reduceMul,↓aT,↓ba,↓aU,↓bJ,↓bH,↓bI,reduceCtorEq,bx,e2]
 |false=>
 rw[x.vQ h0];simp only[↓kM,lK,lX,↓aS,List.take,List.drop,Nat.reduceEqDiff,Nat.reduceLT,Nat.reduceLeDiff,Nat.reduceAdd,Nat.reduceMul,↓aT,↓ba,↓aU,↓bJ,↓bH,↓bI,reduceCtorEq];refine aq hN ?_;cases h1:named x.s with
 |false=>simp only[↓kM,lK,lX,↓aS,List.take,List.drop,Nat.reduceEqDiff,Nat.reduceLT,Nat.reduceLeDiff,Nat.reduceAdd,Nat.reduceMul,↓aT,↓ba,↓aU,↓bJ,↓bH,↓bI,reduceCtorEq,afw]
 |true=>
 simp only[↓kM,lK,lX,↓aS,List.take,List.drop,Nat.reduceEqDiff,Nat.reduceLT,Nat.reduceLeDiff,Nat.reduceAdd,Nat.reduceMul,↓aT,↓ba,↓aU,↓bJ,↓bH,↓bI,reduceCtorEq];refine aq hA ?_;cases h2:iI x.attrs with
 |false=>simp only[↓kM,lK,lX,↓aS,List.take,List.drop,Nat.reduceEqDiff,Nat.reduceLT,Nat.reduceLeDiff,Nat.reduceAdd,Nat.reduceMul,↓aT,↓ba,↓aU,↓bJ,↓bH,↓bI,reduceCtorEq,afw]
 |true=>
 simp only[↓kM,lK,lX,↓aS,List.take,List.drop,Nat.reduceEqDiff,Nat.reduceLT,Nat.reduceLeDiff,Nat.reduceAdd,Nat.reduceMul,↓aT,↓ba,↓aU,↓bJ,↓bH,↓bI,reduceCtorEq];refine aq Wg ?_;simp only[↓kM,lK,lX,↓aS,List.take,List.drop,Nat.reduceEqDiff,Nat.reduceLT,Nat.reduceLeDiff,Nat.reduceAdd,Nat.reduceMul,↓aT,↓ba,↓aU,↓bJ,↓bH,↓bI,reduceCtorEq]
def vp (ks:List Tree) (i:Nat):Option Bool:=if i=0 then none else(ks[i - 1]?).map Tree.text
def DH (ks:List Tree) (i:Nat):Env:=put (put (put (put Env.any 0 (.list (eR ks))) 5 (.list (eR ks))) 6 (.int .i64 ks.length)) 7 (.int .i64 i)
def Wh {P:Program} {G:Nat→Option (List IV)} {f fF:Nat} (hF:an P G f=some (32,[(none,2)],(xO fF).bare)) (ks:List Tree) (hx:ks.length≤B)
  (hK:∀k∈ks,aw P G fF [k.av] (.bool k.k_)):aw P G f [.list (eR ks)] (.bool (iD none ks)):=by
 refine aM hF (by simp) (by simp[ah,AV.aB]) (by simp[AV.aB]) ?_;unfold xO;simp only[↓kM,lK,lX,↓aS,List.take,List.drop,Nat.reduceEqDiff,Nat.reduceLT,Nat.reduceLeDiff,Nat.reduceAdd,Nat.reduceMul,↓aT,↓ba,↓aU,↓bJ,↓bH,↓bI,reduceCtorEq,bx];refine pI (σ:={i:Nat // i≤ks.length∧iD none ks=iD (vp ks i) (ks.drop i)}) (fun q=>DH ks q.1) (fun _=>Hp.none) (fun q=>ks.length - q.1) ⟨0,by simp[vp]⟩ id ?_ ?_
 ·refine .none ?_ ?_
  ·exact cJ rfl (cJ rfl (cJ rfl (cJ rfl (mn _ _))))
  exact cL (by simp[AV.aB]) (cL (by simp[AV.aB]) (cL (by simp[AV.aB]) (cL (by simp[AV.aB]) (mo _))))
 rintro⟨i,hi,hs⟩;simp only[↓kM,lK,lX,↓aS,List.take,List.drop,Nat.reduceEqDiff,Nat.reduceLT,Nat.reduceLeDiff,Nat.reduceAdd,Nat.reduceMul,↓aT,↓ba,↓aU,↓bJ,↓bH,↓bI,reduceCtorEq,DH,bx];by_cases bO:i<ks.length
 ·rw[show decide ((i:Int)<(ks.length:Int))=true by simpa using bO];obtain⟨k,hk⟩:∃k,ks[i]?=some k:=⟨_,ag7 bO⟩;have hw:IntKind.i64.wrap ((i:Int)+1)=((i+1:Nat):Int):=wrap64 (by omega) (by unfold B at hx;omega);have hd:ks.drop i=k::ks.drop (i+1):=by
   rw[aeN bO];rw[ag7 bO] at hk;cases hk;rfl
  have iJ:vp ks (i+1)=some k.text:=by simp[vp,hk]
  have Ap:iD none ks=(k.k_&&(!(vp ks i==some true&&k.text)&&iD (some k.text) (ks.drop (i+1)))):=by rw[hs,hd];simp only[iD]
  have next:(k.k_&& !(vp ks i==some true&&k.text))=true→∃q:{i:Nat // i≤ks.length∧iD none ks=iD (vp ks i) (ks.drop i)},q.1=i+1:=fun h=>by
   rw[ady] at h;exact⟨⟨i+1,bO,by rw[iJ,Ap,h.1,h.2];rfl⟩,rfl⟩
  simp only[↓kM,lK,lX,↓aS,List.take,List.drop,Nat.reduceEqDiff,Nat.reduceLT,Nat.reduceLeDiff,Nat.reduceAdd,Nat.reduceMul,↓aT,↓ba,↓aU,↓bJ,↓bH,↓bI,reduceCtorEq,ml,hk,tj,Tree.bw,Tree.cs];refine⟨le_max (by decide),aq (hK k (adu hk)) ?_⟩;cases h1:k.k_ with
  |false=>
   simp only[↓kM,lK,lX,↓aS,List.take,List.drop,Nat.reduceEqDiff,Nat.reduceLT,Nat.reduceLeDiff,Nat.reduceAdd,Nat.reduceMul,↓aT,↓ba,↓aU,↓bJ,↓bH,↓bI,reduceCtorEq,adI];rw[Ap,h1];rfl
  |true=>
  simp only[↓kM,lK,lX,↓aS,List.take,List.drop,Nat.reduceEqDiff,Nat.reduceLT,Nat.reduceLeDiff,Nat.reduceAdd,Nat.reduceMul,↓aT,↓ba,↓aU,↓bJ,↓bH,↓bI,reduceCtorEq,adL];by_cases h3:i=0
  ·subst h3;rw[show decide (((0:Nat):Int)>0)=false by simp];obtain⟨q,hq⟩:=next (by rw[h1];simp[vp])
   simp only[↓kM,lK,lX,↓aS,List.take,List.drop,Nat.reduceEqDiff,Nat.reduceLT,Nat.reduceLeDiff,Nat.reduceAdd,Nat.reduceMul,↓aT,↓ba,↓aU,↓bJ,↓bH,↓bI,reduceCtorEq,hw];refine⟨q,by omega,id,.drop ?_ ?_ ?_⟩
   ·rw[hq];exact cJ rfl (cJ rfl (cJ rfl (cJ rfl (mn _ _))))
   ·exact cL (by simp[AV.aB]) (cL (by simp[AV.aB]) (cL (by simp[AV.aB]) (cL (by simp[AV.aB]) (mo _))))
   exact nc (nc rT)
  rw[show decide ((i:Int)>0)=true by simp;omega];obtain⟨p,hp⟩:∃p,ks[i - 1]?=some p:=⟨_,ag7 (by omega)⟩;have Et:vp ks i=some p.text:=by simp[vp,h3,hp]
  have oU:IntKind.i64.wrap ((i:Int) - 1)=((i - 1:Nat):Int):=by rw[wrap64 (by omega) (by unfold B at hx;omega)];omega
  simp only[↓kM,lK,lX,↓aS,List.take,List.drop,Nat.reduceEqDiff,Nat.reduceLT,Nat.reduceLeDiff,Nat.reduceAdd,Nat.reduceMul,↓aT,↓ba,↓aU,↓bJ,↓bH,↓bI,reduceCtorEq];cases h2:k.text with
  |false=>
   obtain⟨q,hq⟩:=next (by rw[h1,h2];simp)
   simp only[↓kM,lK,lX,↓aS,List.take,List.drop,Nat.reduceEqDiff,Nat.reduceLT,Nat.reduceLeDiff,Nat.reduceAdd,Nat.reduceMul,↓aT,↓ba,↓aU,↓bJ,↓bH,↓bI,reduceCtorEq,hw];refine⟨q,by omega,id,.drop ?_ ?_ ?_⟩
   ·rw[hq];exact cJ rfl (cJ rfl (cJ rfl (cJ rfl (mn _ _))))
   ·exact cL (by simp[AV.aB]) (cL (by simp[AV.aB]) (cL (by simp[AV.aB]) (cL (by simp[AV.aB]) (mo _))))
   exact nc (nc rT)
  |true=>
  simp only[↓kM,lK,lX,↓aS,List.take,List.drop,Nat.reduceEqDiff,Nat.reduceLT,Nat.reduceLeDiff,Nat.reduceAdd,Nat.reduceMul,↓aT,↓ba,↓aU,↓bJ,↓bH,↓bI,reduceCtorEq,oU,ml,hp,tj,Tree.bw,Tree.cs];cases h4:p.text with
  |true=>
   simp only[↓kM,lK,lX,↓aS,List.take,List.drop,Nat.reduceEqDiff,Nat.reduceLT,Nat.reduceLeDiff,Nat.reduceAdd,Nat.reduceMul,↓aT,↓ba,↓aU,↓bJ,↓bH,↓bI,reduceCtorEq];rw[Ap,Et,h1,h2,h4];rfl
  |false=>
  obtain⟨q,hq⟩:=next (by rw[h1,h2,Et,h4];rfl)
  simp only[↓kM,lK,lX,↓aS,List.take,List.drop,Nat.reduceEqDiff,Nat.reduceLT,Nat.reduceLeDiff,Nat.reduceAdd,Nat.reduceMul,↓aT,↓ba,↓aU,↓bJ,↓bH,↓bI,reduceCtorEq,hw];refine⟨q,by omega,id,.drop ?_ ?_ ?_⟩
  ·rw[hq];exact cJ rfl (cJ rfl (cJ rfl (cJ rfl (mn _ _))))
  ·exact cL (by simp[AV.aB]) (cL (by simp[AV.aB]) (cL (by simp[AV.aB]) (cL (by simp[AV.aB]) (mo _))))
  exact nc (nc rT)
 rw[show decide ((i:Int)<(ks.length:Int))=false by simpa using bO];simp only[↓kM,lK,lX,↓aS,List.take,List.drop,Nat.reduceEqDiff,Nat.reduceLT,Nat.reduceLeDiff,Nat.reduceAdd,Nat.reduceMul,↓aT,↓ba,↓aU,↓bJ,↓bH,↓bI,reduceCtorEq,bx];rw[hs,afM (by omega)];rfl
def Tree.fZ (x:Tree):Bool:= !x.text&&(decide ((x.dep:Int)≤8)&&(decide ((x.fI:Int)≤80)&&x.k_))
def TW {P:Program} {G:Nat→Option (List IV)} {f fS fF:Nat} (hF:an P G f=some (25,[(none,2)],(Co fS fF).bare)) (x:Tree)
  (hS:aw P G fS [x.av] (.dM [.int .i64 x.dep,.int .i64 x.fI])) (hK:aw P G fF [x.av] (.bool x.k_)):aw P G f [x.av] (.bool x.fZ):=by
 refine aM hF (by simp) (by simp[ah,AV.aB,Tree.av]) (by simp[AV.aB]) ?_;unfold Co;simp only[↓kM,lK,lX,↓aS,List.take,List.drop,Nat.reduceEqDiff,Nat.reduceLT,Nat.reduceLeDiff,Nat.reduceAdd,Nat.reduceMul,↓aT,↓ba,↓aU,↓bJ,↓bH,↓bI,reduceCtorEq,Tree.av];refine⟨le_max (by decide),aq hS ?_⟩;simp only[↓kM,lK,lX,↓aS,List.take,List.drop,Nat.reduceEqDiff,Nat.reduceLT,Nat.reduceLeDiff,Nat.reduceAdd,Nat.reduceMul,↓aT,↓ba,↓aU,↓bJ,↓bH,↓bI,reduceCtorEq];cases h0:x.text with
 |true=>
  simp only[↓kM,lK,lX,↓aS,List.take,List.drop,Nat.reduceEqDiff,Nat.reduceLT,Nat.reduceLeDiff,Nat.reduceAdd,Nat.reduceMul,↓aT,↓ba,↓aU,↓bJ,↓bH,↓bI,reduceCtorEq,adL];simp[Tree.fZ,h0]
 |false=>
 simp only[↓kM,lK,lX,↓aS,List.take,List.drop,Nat.reduceEqDiff,Nat.reduceLT,Nat.reduceLeDiff,Nat.reduceAdd,Nat.reduceMul,↓aT,↓ba,↓aU,↓bJ,↓bH,↓bI,reduceCtorEq,adI];cases h1:decide ((x.dep:Int)≤8) with
 |false=>
  simp only[↓kM,lK,lX,↓aS,List.take,List.drop,Nat.reduceEqDiff,Nat.reduceLT,Nat.reduceLeDiff,Nat.reduceAdd,Nat.reduceMul,↓aT,↓ba,↓aU,↓bJ,↓bH,↓bI,reduceCtorEq];rw[Tree.fZ,h0,h1];rfl
 |true=>
 simp only[↓kM,lK,lX,↓aS,List.take,List.drop,Nat.reduceEqDiff,Nat.reduceLT,Nat.reduceLeDiff,Nat.reduceAdd,Nat.reduceMul,↓aT,↓ba,↓aU,↓bJ,↓bH,↓bI,reduceCtorEq];cases h2:decide ((x.fI:Int)≤80) with
 |false=>
  simp only[↓kM,lK,lX,↓aS,List.take,List.drop,Nat.reduceEqDiff,Nat.reduceLT,Nat.reduceLeDiff,Nat.reduceAdd,Nat.reduceMul,↓aT,↓ba,↓aU,↓bJ,↓bH,↓bI,reduceCtorEq];rw[Tree.fZ,h0,h1,h2];rfl
 |true=>
 simp only[↓kM,lK,lX,↓aS,List.take,List.drop,Nat.reduceEqDiff,Nat.reduceLT,Nat.reduceLeDiff,Nat.reduceAdd,Nat.reduceMul,↓aT,↓ba,↓aU,↓bJ,↓bH,↓bI,reduceCtorEq];refine aq (by rw[←h0];exact hK) ?_;simp only[↓kM,lK,lX,↓aS,List.take,List.drop,Nat.reduceEqDiff,Nat.reduceLT,Nat.reduceLeDiff,Nat.reduceAdd,Nat.reduceMul,↓aT,↓ba,↓aU,↓bJ,↓bH,↓bI,reduceCtorEq];rw[Tree.fZ,h0,h1,h2];rfl

structure Node where
 text:Bool
 s:Bs
 attrs:List Attr
 parent:Int
 kids:List Int
abbrev Doc:=List Node
def aW (n:Int):IV:= .int .i64 n
def Node.cs (x:Node):List IV:=[.bool x.text,.str x.s,.list (dA x.attrs),.int .i64 x.parent,.list (x.kids.map aW)]
def Node.iv (x:Node):IV:= .agg x.cs
def Node.av (x:Node):AV:= .agg [.bool x.text,.str x.s,.list (dA x.attrs),.int .i64 x.parent,.list (x.kids.map aW)]
def Node.bw (x:Node):x.iv.cells=x.cs:=rfl
def Aq {α:Type} (f:α→IV) (n:Nat) (h:∀x,(f x).cells.length=n) (xs:List α):ko n (xs.map f):=by
 intro x hx;obtain⟨a,_,rfl⟩:=adY.1 hx;exact h a
def Ar {α:Type} (f:α→IV) (h:∀x,∀z∈(f x).cells,∀cs,z≠ .agg cs) (xs:List α):Flat (xs.map f):=by
 intro x hx;obtain⟨a,_,rfl⟩:=adY.1 hx;exact h a
def rj (xs:List Int):ko 1 (xs.map aW):=Aq aW 1 (fun _=>rfl) xs
def oy (xs:List Int):Flat (xs.map aW):=Ar _ (by intro x z hz cs;simp[aW,IV.cells] at hz;subst hz;simp) _
def Node.uw (x:Node):∀z∈x.cs,∀cs,z≠ .agg cs:=by
 intro z hz cs;simp only[Node.cs,adz,adG,adO] at hz;rcases hz with rfl|rfl|rfl|rfl|rfl<;>simp
def tl (xs:List Node):ko 5 (xs.map Node.iv):=Aq Node.iv 5 (fun _=>rfl) xs
def NL (xs:List Node):Flat (xs.map Node.iv):=Ar _ (fun x=>x.uw) _
def Node.ext' {x y:Node} (h1:x.text=y.text) (h2:x.s=y.s) (h3:x.attrs=y.attrs) (h4:x.parent=y.parent) (h5:x.kids=y.kids):x=y:=by
 cases x;cases y;simp_all
def aV (off:Nat):List Tree→List Int
 |[]=>[]
 |k::r=>(off:Int)::aV (off+k.fI) r
mutual
def Tree.flat (off:Nat) (p:Int):Tree→List Node
 | .mk t s as ks=>⟨t,s,as,p,aV (off+1) ks⟩::eE (off+1) off ks
def eE (off:Nat) (p:Nat):List Tree→List Node
 |[]=>[]
 |k::r=>k.flat off p++eE (off+k.fI) p r
end
def Tree.node (off:Nat) (p:Int) (x:Tree):Node:=⟨x.text,x.s,x.attrs,p,aV (off+1) x.kids⟩
def Tree.qp (off:Nat) (p:Int) (x:Tree):x.flat off p=x.node off p::eE (off+1) off x.kids:=by
 cases x;simp[Tree.flat,Tree.node,Tree.text,Tree.s,Tree.attrs,Tree.kids]
mutual
theorem Tree.gM (off:Nat) (p:Int):∀x:Tree,(x.flat off p).length=x.fI
 | .mk t s as ks=>by simp[Tree.flat,Tree.fI,mL (off+1) off ks]
theorem mL (off:Nat) (p:Nat):∀xs:List Tree,(eE off p xs).length=bC xs
 |[]=>by simp[eE,bC]
 |k::r=>by simp[eE,bC,k.gM,mL _ p r]
end
theorem iO:∀(off:Nat) (xs:List Tree),(aV off xs).length=xs.length
 |_,[]=>rfl
 |off,k::r=>by simp[aV,iO _ r]
theorem pk:∀(off p:Nat) (xs ys:List Tree),eE off p (xs++ys)=eE off p xs++eE (off+bC xs) p ys
 |off,p,[],ys=>by simp[eE,bC]
 |off,p,k::r,ys=>by simp[eE,bC,pk _ p r ys,aer]
theorem mr:∀(off:Nat) (xs ys:List Tree),aV off (xs++ys)=aV off xs++aV (off+bC xs) ys
 |off,[],ys=>by simp[aV,bC]
 |off,k::r,ys=>by simp[aV,bC,mr _ r ys,aer]
def aK (x:Tree):Doc:=x.flat 0 (-1)
def Tree.dH (x:Tree):0<x.fI:=by rw[x.kc];omega

def eC:AC:=
(ay [oQ 2] (.seq (ay [af 3 0,aE 4 (.Kk false (.t 3))] (.cond (.t 4) (ay [oQ 2] .ret) .skip)) (ay [aE 5 (.lits 0 2 [(.str []),(.str [])] []),af 6 0,aE 7 (.app (.t 5) (.t 6) 2 32),af 2 7] (.gh (.Ch (.loc 7) 2) .ret))))
def gk:AC:=
(ay [oQ 2] (.seq (ay [af 3 0,aE 4 (.Kk false (.t 3))] (.cond (.t 4) (ay [oQ 2] .ret) .skip)) (ay [aE 5 (.lits 0 1 [(.int .i64 0)] []),af 6 0,aE 7 (.app (.t 5) (.t 6) 1 8),af 2 7] (.gh (.Ch (.loc 7) 2) .ret))))
def Jd {P:Program} {G:Nat→Option (List IV)} {ai:Nat} (hF:an P G ai=some (8,[(none,2)],eC.bare)) (xs:List Attr) (hx:xs.length≤B):aw P G ai [.list (dA xs)] (.list (dA xs)):=by
 refine iC hF (by simp) (by simp[ah,AV.aB]) (by simp[AV.aB]) ?_;unfold eC;simp only[↓aX,mX,seval,DE];refine zx (fun h=> ?_) ?_
 ·simp only[↓aX,mX,seval,norm,h]
 simp only[↓aX,mX,seval,norm];rw[rh 2 32 7 (dA xs) (tk _) (ri _) (by rw[bQ];unfold B at hx;omega) (by decide) rfl];simp only[↓aX,mX,seval,norm];exact⟨2,dA xs,0,_,rfl,rfl,by simp,ri _,by simp⟩
def RX {P:Program} {G:Nat→Option (List IV)} {aJ:Nat} (hF:an P G aJ=some (8,[(none,2)],gk.bare)) (xs:List Int) (hx:xs.length≤B):aw P G aJ [.list (xs.map aW)] (.list (xs.map aW)):=by
 refine iC hF (by simp) (by simp[ah,AV.aB]) (by simp[AV.aB]) ?_;unfold gk;simp only[↓aX,mX,seval,DE];refine zx (fun h=> ?_) ?_
 ·simp only[↓aX,mX,seval,norm,h]
 simp only[↓aX,mX,seval,norm];rw[rh 1 8 7 (xs.map aW) (rj _) (oy _) (by rw[ag5];unfold B at hx;omega) (by decide) rfl];simp only[↓aX,mX,seval,norm];exact⟨1,xs.map aW,0,_,rfl,rfl,by simp,oy _,by rw[ad1,ads (by simp)]⟩

def RY (sz b d:Nat) (l:Lb) (xs:List IV) (x:IV) {n:Nat} {H:Hp} (hf:l.fresh=false) (hl:H l= .live ⟨sz,ar xs⟩) (hn:xs.length=n) (he:x.cells.length=sz) (B_:∀z∈x.cells,∀cs,z≠ .agg cs) (hb:(n+1)*b≤140737488355328) (h0:0<b)
  (hd:l≠ .gen d) (hu:H (.gen d)= .unused) :
  nH sz b d (.sl l sz 0 n) (.list [x]) H=some (.sl (.gen d) sz 0 (n+1),bF (bF H l .dead) (.gen d) (.live ⟨sz,ar (xs++[x])⟩)):=by
 have e:l.app d= .gen d:=by unfold Lb.app;rw[hf];rfl
 have:=DD (l:=l) (d:=d) hl (by rw[dw];exact hn) he B_ hb h0 (by rw[e];exact hd) (by rw[e];exact hu);rw[e] at this;rw[this,iN]
def fy (u:Lb→Bool) (rs:List (Lb×Row)):Hp:=fun q=>match kx rs q with
 | .unused=>if u q then .dead else .unused
 |s=>s
def dm {u:Lb→Bool} {rs:List (Lb×Row)} {l:Lb} {r:Row}:fy u rs l= .live r↔kx rs l= .live r:=by
 unfold fy;cases h:kx rs l with
 |unused=>by_cases hu:u l=true<;>simp[hu]
 |dead=>simp
 |live r'=>simp
def oz {u:Lb→Bool} {rs:List (Lb×Row)} {l:Lb} (h:l∈rs.map Prod.fst∨u l=true):fy u rs l≠ .unused:=by
 unfold fy;rcases h with h|h
 ·have:=wG h;cases h2:kx rs l with
  |unused=>exact absurd h2 this
  |dead=>simp
  |live r=>simp
 cases h2:kx rs l with
 |unused=>simp[h]
 |dead=>simp
 |live r=>simp
def jT {u:Lb→Bool} {rs:List (Lb×Row)} {l:Lb} (h:l∉rs.map Prod.fst):fy u rs l=if u l then .dead else .unused:=by
 have:kx rs l= .unused:=by
  induction rs with
  |nil=>rfl
  |cons p t ih=>
  obtain⟨l0,r0⟩:=p;simp only[ad5,adz,not_or] at h;simp only[kx,bF,ag8 h.1];exact ih h.2
 unfold fy;rw[this]
structure WU (ls:List Lb) (u:Lb→Bool) (ps:List (Nat×AV)) (rs:List (Lb×Row)) (env:Env) (H:Hp) (m:List (Lb×Lb)):Prop where
 nf:∀l:Lb,l.fresh=false→H l≠ .unused→l∈ls∨u l=true
 e:kv (bZ m) env ps
 r:qe (bZ m) H rs
 inj:(ls.map (bZ m)).Nodup
 fr:∀l∈ls,(l.fresh=true→(bZ m l).fresh=true)∧(l.fresh=false→bZ m l=l)
def WU.wk {ls:List Lb} {u:Lb→Bool} {ps:List (Nat×AV)} {rs:List (Lb×Row)} {env:Env} {H:Hp} {m:List (Lb×Lb)} (h:WU ls u ps rs env H m) (rH:rs.map Prod.fst=ls) (hp:∀l∈ah (ps.map Prod.snd),l∈ls)
  (hr:∀q∈rs,∀cs∈q.2.els,∀l∈ah cs,l∈ls):Wk (bZ m) env H (qc ps) (fy u rs):=by
 have Ah:∀l,live (fy u rs) l→l∈ls:=fun l ⟨r,h⟩=>by rw[←rH];exact adY.2 ⟨_,kq (dm.1 h),rfl⟩
 refine⟨h.e.we,fun l r hl=>zw h.r (kq (dm.1 hl)),fun l l' h1 h2 e=>mb h.inj l (Ah l h1) l' (Ah l' h2) e,vO fun l hl=>oz (.inl (by rw[rH];exact hp l hl)),fun l r hl cs bS q hq=> ?_,
  fun l hf=>⟨fun hu=> ?_,fun hl=>(h.fr l (Ah l hl)).2 (Lb.oq hf)⟩,fun l hl hf=>(h.fr l (Ah l hl)).1 hf⟩
 ·exact oz (.inl (by rw[rH];exact hr _ (kq (dm.1 hl)) cs bS q hq))
 exact oz (by rw[rH];exact h.nf l (Lb.oq hf) hu)
def jj {σ:Type} {S:St} {Q:oW} {c:AC} {k:List It} {env:Env} {H:Hp} (ls:σ→List Lb) (u:σ→Lb→Bool) (ps:σ→List (Nat×AV)) (rs:σ→List (Lb×Row)) (μ:σ→Nat) (s0:σ)
  (rH:∀s,(rs s).map Prod.fst=ls s) (hp:∀s,∀l∈ah ((ps s).map Prod.snd),l∈ls s) (hr:∀s,∀q∈rs s,∀cs∈q.2.els,∀l∈ah cs,l∈ls s) (h0:∃m,WU (ls s0) (u s0) (ps s0) (rs s0) env H m)
  (round:∀s,go S (tf S Q k (fun env H s=>∃m,WU (ls s) (u s) (ps s) (rs s) env H m) μ (μ s)) [.code c] (qc (ps s)) (fy (u s) (rs s))):vk S Q c k env H:=
 re (fun s=>qc (ps s)) (fun s=>fy (u s) (rs s)) _ (fun _ _ s ⟨m,h⟩=>⟨_,h.wk (rH s) (hp s) (hr s)⟩) μ s0 h0 round
def NM (sz:Nat) (l:Lb) (o:Option Lb) (xs:List IV) (H:Hp):Prop:=match o with
 |none=>H l= .live ⟨1,[[.nil0]]⟩∧xs=[]
 |some L=>L≠l∧H l= .live ⟨1,[[.sl L sz 0 xs.length]]⟩∧H L= .live ⟨sz,ar xs⟩
def oB (sz:Nat) (xs:List IV):Bool→Hp
 |false=>bF Hp.none (.par 0) (.live ⟨1,[[.nil0]]⟩)
 |true=>bF (bF Hp.none (.par 1) (.live ⟨sz,ar xs⟩)) (.par 0) (.live ⟨1,[[.sl (.par 1) sz 0 xs.length]]⟩)
def KR (P:Program) (G:Nat→Option (List IV)) (sz f:Nat) (args:List AV) (xs:List IV) (res:AV) (ys:List IV):Prop:=
 (∀l∈ah args,l= .par 0)∧res.aB=[]∧∀b:Bool,(b=false→xs=[])→jb P G f args (oB sz xs b) fun x H'=>x=res∧∃L,NM sz (.par 0) (some L) ys H'
def b5 (ρ:Lb→Lb) (sz:Nat) (xs:List IV):cV ρ ⟨sz,ar xs⟩=⟨sz,ar xs⟩:=EW ρ sz xs
def jb.ZH {P:Program} {G:Nat→Option (List IV)} {f:Nat} {args:List AV} {H:Hp} {Q:AV→Hp→Prop} (h:jb P G f args H Q) (kp:Hp→Lb→Prop) :
  jb P G f args H fun x H'=>∃H1,Q x H1∧H'=gG (kp H1) H1:=by
 intro w A β vs hr hv;refine(h w A β vs hr hv).mono ?_;rintro e w' ⟨v,x,H1,β',rfl,hq,sY,hx,hm⟩;exact⟨v,x,gG (kp H1) H1,β',rfl,⟨H1,hq,rfl⟩,sY.gG _,hx.gG _,fun l hl=>by rw[Ne,kb];exact hm l hl⟩
mutual
theorem Cp {ρ ρ':Lb→Lb}:∀x:AV,(∀l∈x.aB,ρ l=ρ' l)→e7 ρ x=e7 ρ' x
 | .sl l ..,h| .slk l ..,h| .ptr l ..,h=>by simp[e7,h l (by simp[AV.aB])]
 | .any,_| .un,_| .bool _,_| .int ..,_| .str _,_| .list _,_| .nil0,_| .nD,_| .mH,_| .lptr _,_=>by simp[e7]
 | .agg cs,h=>by simp only[AV.aB] at h;simp[e7,la cs h]
 | .dM cs,h=>by simp only[AV.aB] at h;simp[e7,la cs h]
 | .fn f fs cs,h=>by
  simp only[AV.aB,adD] at h;simp[e7,la fs (fun l hl=>h l (.inl hl)),la cs (fun l hl=>h l (.inr hl))]
 | .ifc t x,h=>by simp only[AV.aB] at h;simp[e7,Cp x h]
theorem la {ρ ρ':Lb→Lb}:∀xs:List AV,(∀l∈ah xs,ρ l=ρ' l)→aY ρ xs=aY ρ' xs
 |[],_=>by simp[aY]
 |x::r,h=>by
  simp only[ah,adD] at h;simp[aY,Cp x (fun l hl=>h l (.inl hl)),la r (fun l hl=>h l (.inr hl))]
end
def ke {sz:Nat} {xs:List IV} {b:Bool} {q:Lb} {r:Row} (h:oB sz xs b q= .live r) :
  (q= .par 0∧r=⟨1,[[if b then .sl (.par 1) sz 0 xs.length else .nil0]]⟩)∨(b=true∧q= .par 1∧r=⟨sz,ar xs⟩):=by
 cases b with
 |false=>
  simp only[oB] at h;by_cases e:q= .par 0
  ·subst e;simp at h;exact .inl ⟨rfl,by rw[←h];rfl⟩
  rw[ax _ _ e] at h;simp[Hp.none] at h
 |true=>
 simp only[oB] at h;by_cases e:q= .par 0
 ·subst e;simp at h;exact .inl ⟨rfl,by rw[←h];rfl⟩
 rw[ax _ _ e] at h;by_cases e1:q= .par 1
 ·subst e1;simp at h;exact .inr ⟨rfl,rfl,h.symm⟩
 rw[ax _ _ e1] at h;simp[Hp.none] at h
open Classical in
def xP {S:St} {sz f:Nat} {args dG:List AV} {xs ys:List IV} {res:AV} {H:Hp} {k:AV→Hp→Prop} {u:Tw k} {l N:Lb} {o:Option Lb} (h:KR S.P S.G sz f dG xs res ys)
  (ha:args=aY (iH l) dG) (hl:NM sz l o xs H) (hN:H N= .unused) (Wi:N.fresh=true→l.fresh=true∧∀L,o=some L→L.fresh=true)
  (hk:∀L' m_,(L'=N∨o=some L')→NM sz l (some L') ys m_→(∀q,q≠l→q≠N→o≠some q→m_ q=H q)→(∀q,H q≠ .unused→m_ q≠ .unused)→k res m_):He S f args H k u:=by
 obtain⟨h1,h2,h3⟩:=h;have hob:o.isSome=false→xs=[]:=by
  intro ho;cases o with
  |none=>exact hl.2
  |some L=>simp at ho
 have ZI:=(h3 o.isSome hob).ZH fun H1 q=>q= .par 0∨∃n,H1 (.par 0)= .live ⟨1,[[.sl q sz 0 n]]⟩
 let L0:Lb:=o.getD N
 let ρ:Lb→Lb:=fun q=>if q= .par 0 then l else if q= .par 1 then L0 else q
 have KS:ρ (.par 0)=l:=by simp[ρ]
 have KT:ρ (.par 1)=L0:=by simp[ρ]
 have hHl:H l≠ .unused:=by cases o with
  |none=>rw[hl.1];simp
  |some L=>rw[hl.2.1];simp
 have Wj:N≠l:=by rintro rfl;exact hHl hN
 have ZJ:L0≠l:=by cases o with
  |none=>exact Wj
  |some L=>exact hl.1
 refine .inr<| .inr ⟨⟨ρ,oB sz xs o.isSome,dG,_,ZI,?_,?_,?_,?_,?_,?_,?_,?_⟩⟩
 ·rw[ha];exact la _ fun q hq=>by rw[h1 q hq];simp[iH,ρ]
 ·intro q r hq;rcases ke hq with⟨rfl,rfl⟩|⟨hb,rfl,rfl⟩
  ·rw[KS];cases o with
   |none=>rw[hl.1];simp[cV,aY,e7]
   |some L=>rw[hl.2.1];simp[cV,aY,e7,ρ,L0]
  rw[KT,b5];cases o with
  |none=>simp at hb
  |some L=>exact hl.2.2
 ·intro q hq;cases hb:o.isSome with
  |false=>
   rw[hb] at hq;simp only[oB] at hq;by_cases e:q= .par 0
   ·subst e;exact⟨_,by simp[oB];rfl⟩
   rw[ax _ _ e] at hq;simp[Hp.none] at hq
  |true=>
  rw[hb] at hq;simp only[oB] at hq;by_cases e:q= .par 0
  ·subst e;exact⟨_,by simp[oB];rfl⟩
  rw[ax _ _ e] at hq;by_cases e1:q= .par 1
  ·subst e1;exact⟨_,by simp[oB,bF];rfl⟩
  rw[ax _ _ e1] at hq;simp[Hp.none] at hq
 ·rintro q q' ⟨r,hq⟩ ⟨r',xq⟩ he;rcases ke hq with⟨rfl,_⟩|⟨_,rfl,_⟩<;>rcases ke xq with⟨rfl,_⟩|⟨_,rfl,_⟩
  ·rfl
  ·rw[KS,KT] at he;exact absurd he.symm ZJ
  ·rw[KS,KT] at he;exact absurd he ZJ
  rfl
 ·intro q hq;rw[h1 q hq];cases o.isSome<;>simp[oB]
 ·rintro q ⟨r,hq⟩;rcases ke hq with⟨rfl,_⟩|⟨_,rfl,_⟩<;>rfl
 ·intro q r hq cs bS z hz;rcases ke hq with⟨rfl,rfl⟩|⟨hb,rfl,rfl⟩
  ·simp only[List.mem_singleton] at bS;subst bS;cases hb:o.isSome with
   |false=>rw[hb] at hz;simp[ah,AV.aB] at hz
   |true=>rw[hb] at hz;simp[ah,AV.aB] at hz;subst hz;simp[oB,bF]
  rw[bT bS] at hz;simp at hz
 rintro x H' ⟨H1,⟨rfl,L,hLa⟩,rfl⟩;obtain⟨nh,hp,hLr⟩:=hLa
 let L1:Lb:=if L= .par 1∧o.isSome=true then L0 else N
 have Wl:L1=N∨o=some L1:=by
  by_cases e:L= .par 1∧o.isSome=true
  ·right;simp only[L1,if_pos e,L0];cases o with
   |none=>simp at e
   |some Lo=>rfl
  left;simp only[L1,if_neg e]
 have RZ:L1≠l:=by
  rcases Wl with e|e
  ·rw[e];exact Wj
  intro e2;rw[e2] at e;cases o with
  |none=>simp at e
  |some Lo=>simp only[Option.some.injEq] at e;exact hl.1 e
 let ρ':Lb→Lb:=fun q=>if q= .par 0 then l else if q=L then L1 else q
 have Je:ρ' (.par 0)=l:=by simp[ρ']
 have As:ρ' L=L1:=by simp[ρ',nh]
 let Hk:Hp:=match o with
  |some Lo=>bF H Lo .dead
  |none=>H
 have TH:∀q,o≠some q→Hk q=H q:=by
  intro q hq;cases o with
  |none=>rfl
  |some Lo=>exact ax _ _ (fun e=>hq (by rw[e]))
 have ZK:∀q,o=some q→Hk q= .dead:=by
  intro q hq;subst hq;simp[Hk]
 have bo:∀q r,gG (fun q=>q= .par 0∨∃n,H1 (.par 0)= .live ⟨1,[[.sl q sz 0 n]]⟩) H1 q= .live r→(q= .par 0∧r=⟨1,[[.sl L sz 0 ys.length]]⟩)∨(q=L∧r=⟨sz,ar ys⟩):=by
  intro q r hq;obtain⟨g1,g2⟩:=eT.1 hq;rcases g2 with rfl|⟨n,g2⟩
  ·rw[hp] at g1;cases g1;exact .inl ⟨rfl,rfl⟩
  rw[hp] at g2;simp only[Slot.live.injEq,Row.mk.injEq,List.cons.injEq,and_true,true_and,AV.sl.injEq] at g2;obtain⟨rfl,_⟩:=g2;rw[hLr] at g1;cases g1;exact .inr ⟨rfl,rfl⟩
 have Wm:gG (fun q=>q= .par 0∨∃n,H1 (.par 0)= .live ⟨1,[[.sl q sz 0 n]]⟩) H1 (.par 0)= .live ⟨1,[[.sl L sz 0 ys.length]]⟩:=eT.2 ⟨hp,.inl rfl⟩;have NN:gG (fun q=>q= .par 0∨∃n,H1 (.par 0)= .live ⟨1,[[.sl q sz 0 n]]⟩) H1 L= .live ⟨sz,ar ys⟩:=eT.2 ⟨hLr,.inr ⟨_,hp⟩⟩
 let m_:Hp:=bF (bF Hk l (.live ⟨1,[[.sl L1 sz 0 ys.length]]⟩)) L1 (.live ⟨sz,ar ys⟩)
 have TX:m_ L1= .live ⟨sz,ar ys⟩:=by simp[m_]
 have Wn:m_ l= .live ⟨1,[[.sl L1 sz 0 ys.length]]⟩:=by
  show bF _ L1 _ l=_;rw[ax _ _ (Ne.symm RZ)];simp
 have hHo:∀q,q≠L1→q≠l→m_ q=Hk q:=by
  intro q e1 e2;show bF _ L1 _ q=_;rw[ax _ _ e1,ax _ _ e2]
 have vq:∀q,H q≠ .unused→m_ q≠ .unused:=by
  intro q hq;by_cases e1:q=L1
  ·rw[e1,TX];simp
  by_cases e2:q=l
  ·rw[e2,Wn];simp
  rw[hHo q e1 e2];by_cases e3:o=some q
  ·rw[ZK q e3];simp
  rw[TH q e3];exact hq
 refine⟨ρ',m_,?_,?_,?_,vq,?_,?_,?_,?_,?_⟩
 ·rintro q ⟨r,hq⟩ ⟨r',xq⟩;rcases ke hq with⟨rfl,_⟩|⟨hb,rfl,_⟩
  ·rw[KS,Je]
  rcases bo _ _ xq with⟨e,_⟩|⟨e,_⟩
  ·cases e
  rw[KT,e,As];simp only[L1,if_pos (⟨e.symm,hb⟩:L= .par 1∧o.isSome=true)]
 ·intro q r hq;by_cases e1:q=L1
  ·subst e1;rw[TX] at hq;simp only[Slot.live.injEq] at hq;exact .inr ⟨L,_,NN,As,by rw[b5];exact hq.symm⟩
  by_cases e2:q=l
  ·subst e2;rw[Wn] at hq;simp only[Slot.live.injEq] at hq;refine .inr ⟨.par 0,_,Wm,Je,?_⟩;rw[←hq];simp[cV,aY,e7,As]
  rw[hHo q e1 e2] at hq;by_cases e3:o=some q
  ·rw[ZK q e3] at hq;cases hq
  rw[TH q e3] at hq;refine .inl ⟨hq,?_⟩;rintro z ⟨r',hz⟩ ZL;rcases ke hz with⟨rfl,_⟩|⟨hb,rfl,_⟩
  ·rw[KS] at ZL;exact e2 ZL.symm
  rw[KT] at ZL;apply e3;cases o with
  |none=>simp at hb
  |some Lo=>simp only[L0,Option.getD_some] at ZL;rw[ZL]
 ·rintro q q' ⟨r,hq⟩ ⟨r',xq⟩ he;rcases bo _ _ hq with⟨rfl,_⟩|⟨rfl,_⟩<;>rcases bo _ _ xq with⟨rfl,_⟩|⟨rfl,_⟩
  ·rfl
  ·rw[Je,As] at he;exact absurd he.symm RZ
  ·rw[Je,As] at he;exact absurd he RZ
  rfl
 ·intro q hq;rw[h2] at hq;simp at hq
 ·intro q r hq cs bS z hz;rcases bo _ _ hq with⟨rfl,rfl⟩|⟨rfl,rfl⟩
  ·simp only[List.mem_singleton] at bS;subst bS;simp only[ah,AV.aB,List.append_nil,List.mem_singleton] at hz;subst hz;rw[As,TX];simp
  rw[bT bS] at hz;simp at hz
 ·rintro q ⟨r,hq⟩;rcases bo _ _ hq with⟨rfl,_⟩|⟨rfl,_⟩
  ·left;cases o.isSome<;>exact⟨_,by simp[oB];rfl⟩
  by_cases e:q= .par 1∧o.isSome=true
  ·left;rw[e.1,e.2];exact⟨_,by simp[oB,bF];rfl⟩
  right;rw[As];simp only[L1,if_neg e];refine⟨hN,fun hf=> .inr ?_⟩;obtain⟨g1,g2⟩:=Wi hf;rintro z ⟨r',hz⟩;rcases ke hz with⟨rfl,_⟩|⟨hb,rfl,_⟩
  ·rw[KS];exact g1
  rw[KT];cases o with
  |none=>simp at hb
  |some Lo=>exact g2 Lo rfl
 ·rintro q (hq|⟨l1,r1,cs,g1,g2,g3⟩) _
  ·rw[h2] at hq;simp at hq
  rcases bo _ _ g1 with⟨rfl,rfl⟩|⟨rfl,rfl⟩
  ·simp only[List.mem_singleton] at g2;subst g2;simp only[ah,AV.aB,List.append_nil,List.mem_singleton] at g3;subst g3;exact⟨_,NN⟩
  rw[bT g2] at g3;simp at g3
 rw[rf _ _ h2];refine hk L1 m_ Wl ⟨RZ,Wn,TX⟩ ?_ vq;intro q e1 e2 e3;have:q≠L1:=by
  rintro rfl;rcases Wl with e|e
  ·exact e2 e
  exact e3 e
 rw[hHo q this e1,TH q e3]
end Go.Am
