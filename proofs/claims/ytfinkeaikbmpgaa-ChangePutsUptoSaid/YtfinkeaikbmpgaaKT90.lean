import Derived.Test.YtfinkeaikbmpgaaKT81
import Derived.Test.YtfinkeaikbmpgaaKAm45
import Derived.Test.YtfinkeaikbmpgaaKT92
set_option linter.unusedSimpArgs false
set_option linter.unusedVariables false
set_option linter.unnecessarySimpa false
set_option linter.defProp false
/- Changes: what is wrong with one; with all of them. -/
set_option pp.deepTerms false
set_option pp.deepTerms.threshold 5
set_option maxRecDepth 20000
namespace Go.Am
open Go Go.RowKit
noncomputable def f_ (d:Doc) (o:Op):Int:=
 if fX d=true then(if o.kind<1∨10<o.kind then 4 else if o.target<0∨(d.length:Int)≤o.target then 3 else match d[o.target.toNat]? with|some x=>bx x o|none=>3) else 1
section
variable {P:Program} {G:Nat→Option (List IV)}
def je (cp aC:Nat):AC:=
(.seq (.aM [⟨some 2,none,.box (.t 0)⟩,⟨some 3,none,.box (.t 1)⟩,⟨some 4,none,.ak (.c (.int .i64 0))⟩]) (.seq (.seq (.aM [⟨some 5,none,.load (some 1) (.t 2)⟩,⟨some 6,none,.call cp [(.t 5)]⟩,⟨some 7,none,.not (.t 6)⟩]) (.cond (.t 7) (.seq (.aM [⟨some 4,none,.ak (.c (.int .i64 1))⟩]) .ret) .skip)) (.seq (.block 0 (.seq (.aM [⟨some 9,none,.bV (.t 3) 0⟩,⟨some 10,none,.load none (.t 9)⟩,⟨some 11,none,.bin .lss (.t 10) (.c (.int .i64 1))⟩,⟨some 12,none,.ak (.t 11)⟩,⟨some 13,(some (12,false)),(.bV (.t 3) 0)⟩,⟨some 14,(some (12,false)),(.load none (.t 13))⟩,⟨some 15,(some (12,false)),(.bin .gtr (.t 14) (.c (.int .i64 10)))⟩,⟨some 16,none,.pick (.t 12) (.c (.bool true)) (.t 15)⟩,⟨some 8,none,.ak (.t 16)⟩]) (.cond (.t 8) (.seq (.aM [⟨some 4,none,.ak (.c (.int .i64 4))⟩]) .ret) (.seq (.aM [⟨some 18,none,.bV (.t 3) 1⟩,⟨some 19,none,.load none (.t 18)⟩,⟨some 20,none,.bin .lss (.t 19) (.c (.int .i64 0))⟩,⟨some 21,none,.ak (.t 20)⟩,⟨some 22,(some (21,false)),(.bV (.t 3) 1)⟩,⟨some 23,(some (21,false)),(.load none (.t 22))⟩,⟨some 24,(some (21,false)),(.bV (.t 2) 0)⟩,⟨some 25,(some (21,false)),(.load none (.t 24))⟩,⟨some 26,(some (21,false)),(.len (.t 25))⟩,⟨some 27,(some (21,false)),(.bin .geq (.t 23) (.t 26))⟩,⟨some 28,none,.pick (.t 21) (.c (.bool true)) (.t 27)⟩,⟨some 17,none,.ak (.t 28)⟩]) (.cond (.t 17) (.seq (.aM [⟨some 4,none,.ak (.c (.int .i64 3))⟩]) .ret) .skip))))) (.seq (.eY [⟨some 29,none,.bV (.t 2) 0⟩,⟨some 30,none,.load none (.t 29)⟩,⟨some 31,none,.bV (.t 3) 1⟩,⟨some 32,none,.load none (.t 31)⟩,⟨some 33,none,.fJ (.t 30) (.t 32) 5⟩,⟨some 34,none,.load (some 5) (.t 33)⟩,⟨some 35,none,.load (some 5) (.t 3)⟩,⟨some 36,none,.call aC [(.t 34),(.t 35)]⟩,⟨some 4,none,.ak (.t 36)⟩] [[],[0],[],[2],[1,3],[4],[],[5,6],[7,7,0,1,2,3,4,5,6,7]] [.no,(.rw [(.loc 2)] []),.no,(.rw [(.loc 3)] []),.no,.no,(.rw [(.loc 3)] []),.no,.no]) .ret))))
theorem wQ {cZ cp aC:Nat} (hF:aA P G cZ=some (37,[(none,4)],(je cp aC).bare)) (d:Doc) (o:Op) (hG:az P G cp [Doc.av d] (.bool (fX d)))
  (hW:∀x:Node,1≤o.kind→o.kind≤10→az P G aC [x.av,o.av] (.int .i64 (bx x o))) :
  az P G cZ [Doc.av d,o.av] (.int .i64 (f_ d o)):=by
 refine bm hF (by simp) (by simp[ax,AV.aI,Op.av,Doc.av]) (by simp[AV.aI]) ?_;unfold je;simp only[↓aX,mX,reduceCtorEq,Nat.reduceEqDiff,Nat.reduceLT,Nat.reduceLeDiff,Nat.reduceAdd,Nat.reduceMul,Int.reduceToNat,Int.reduceLE,Int.reduceLT,Op.av,Doc.av];refine aO hG ?_;unfold f_;cases hd:fX d with
 |false=>simp only[↓aX,mX,reduceCtorEq,Nat.reduceEqDiff,Nat.reduceLT,Nat.reduceLeDiff,Nat.reduceAdd,Nat.reduceMul,Int.reduceToNat,Int.reduceLE,Int.reduceLT,Bool.not_false];try rfl
 |true=>
  simp only[↓aX,mX,reduceCtorEq,Nat.reduceEqDiff,Nat.reduceLT,Nat.reduceLeDiff,Nat.reduceAdd,Nat.reduceMul,Int.reduceToNat,Int.reduceLE,Int.reduceLT,Bool.not_true,Op.av,Doc.av];cases h1:decide (o.kind<1) with
  |true=>
   simp only[↓aX,mX,reduceCtorEq,Nat.reduceEqDiff,Nat.reduceLT,Nat.reduceLeDiff,Nat.reduceAdd,Nat.reduceMul,Int.reduceToNat,Int.reduceLE,Int.reduceLT,h1,Op.av,Doc.av];have:o.kind<1:=by simpa using h1
   simp[this]
  |false=>
   simp only[↓aX,mX,reduceCtorEq,Nat.reduceEqDiff,Nat.reduceLT,Nat.reduceLeDiff,Nat.reduceAdd,Nat.reduceMul,Int.reduceToNat,Int.reduceLE,Int.reduceLT,h1,Op.av,Doc.av,gt_iff_lt];cases h2:decide (10<o.kind) with
   |true=>
    simp only[↓aX,mX,reduceCtorEq,Nat.reduceEqDiff,Nat.reduceLT,Nat.reduceLeDiff,Nat.reduceAdd,Nat.reduceMul,Int.reduceToNat,Int.reduceLE,Int.reduceLT,h1,h2,Op.av,Doc.av];have:10<o.kind:=by simpa using h2
    simp[this]
   |false=>
    simp only[↓aX,mX,reduceCtorEq,Nat.reduceEqDiff,Nat.reduceLT,Nat.reduceLeDiff,Nat.reduceAdd,Nat.reduceMul,Int.reduceToNat,Int.reduceLE,Int.reduceLT,h1,h2,Op.av,Doc.av];have k1:¬o.kind<1:=by simpa using h1
    have k2:¬10<o.kind:=by simpa using h2
    cases h3:decide (o.target<0) with
    |true=>
     simp only[↓aX,mX,reduceCtorEq,Nat.reduceEqDiff,Nat.reduceLT,Nat.reduceLeDiff,Nat.reduceAdd,Nat.reduceMul,Int.reduceToNat,Int.reduceLE,Int.reduceLT,h1,h2,h3,Op.av,Doc.av];have:o.target<0:=by simpa using h3
     simp[k1,k2,this]
    |false=>
     simp only[↓aX,mX,reduceCtorEq,Nat.reduceEqDiff,Nat.reduceLT,Nat.reduceLeDiff,Nat.reduceAdd,Nat.reduceMul,Int.reduceToNat,Int.reduceLE,Int.reduceLT,h1,h2,h3,Op.av,Doc.av,ge_iff_le,List.length_map];have k3:¬o.target<0:=by simpa using h3
     cases h4:decide ((d.length:Int)≤o.target) with
     |true=>
      simp only[↓aX,mX,reduceCtorEq,Nat.reduceEqDiff,Nat.reduceLT,Nat.reduceLeDiff,Nat.reduceAdd,Nat.reduceMul,Int.reduceToNat,Int.reduceLE,Int.reduceLT,h1,h2,h3,h4,Op.av,Doc.av];have:(d.length:Int)≤o.target:=by simpa using h4
      simp[k1,k2,k3,this]
     |false=>
      have k4:¬(d.length:Int)≤o.target:=by simpa using h4
      obtain⟨x,hx⟩:∃x,d[o.target.toNat]?=some x:=⟨_,List.getElem?_eq_getElem (by omega)⟩;have J0:(d.map Node.iv)[o.target.toNat]?=some x.iv:=by rw[List.getElem?_map,hx];rfl
      have k5:0≤o.target:=by omega
      simp only[↓aX,mX,reduceCtorEq,Nat.reduceEqDiff,Nat.reduceLT,Nat.reduceLeDiff,Nat.reduceAdd,Nat.reduceMul,Int.reduceToNat,Int.reduceLE,Int.reduceLT,h1,h2,h3,h4,Op.av,Doc.av,k5,J0,oE,Node.bL,Node.cs];refine⟨rfl,kb (hW x (by omega) (by omega)) ?_⟩;simp only[↓aX,mX,reduceCtorEq,Nat.reduceEqDiff,Nat.reduceLT,Nat.reduceLeDiff,Nat.reduceAdd,Nat.reduceMul,Int.reduceToNat,Int.reduceLE,Int.reduceLT]
      simp[k1,k2,k3,k4,hx]
def gF (cJ:Nat):AC:=
(.seq (.aM [⟨some 2,none,.box (.t 0)⟩,⟨some 3,none,.ak (.c (.bool false))⟩]) (.seq (.aM [⟨some 4,none,.load (some 5) (.t 1)⟩,⟨some 5,none,.load (some 5) (.t 2)⟩,⟨some 6,none,.call cJ [(.t 4),(.t 5)]⟩,⟨some 3,none,.ak (.t 6)⟩]) .ret))
theorem Ga {ct cJ:Nat} (hF:aA P G ct=some (7,[(none,3)],(gF cJ).bare)) (a b:Op) (hA:az P G cJ [a.av,b.av] (.bool (aK a b))) :
  az P G ct [b.av,.lptr a.cs] (.bool (aK a b)):=by
 refine bm hF (by simp) (by simp[ax,AV.aI,Op.av]) (by simp[AV.aI]) ?_;unfold gF;simp only[↓aX,mX,reduceCtorEq,Nat.reduceEqDiff,Nat.reduceLT,Nat.reduceLeDiff,Nat.reduceAdd,Nat.reduceMul,Int.reduceToNat,Int.reduceLE,Int.reduceLT,Op.av,Op.cs];refine aO hA ?_
 simp only[↓aX,mX,reduceCtorEq,Nat.reduceEqDiff,Nat.reduceLT,Nat.reduceLeDiff,Nat.reduceAdd,Nat.reduceMul,Int.reduceToNat,Int.reduceLE,Int.reduceLT]
def wR {α:Type} (p:α→Bool) (l:List α):Int:=match l.findIdx? p with|some k=>(k:Int)|none=> -1
theorem Gb {α:Type} {p:α→Bool} {xs:List α} {k:Nat} {x:α} (h:xs[k]?=some x) (hx:p x=true) (hb:∀j y,j<k→xs[j]?=some y→p y=false):wR p xs=k:=by
 have:xs.findIdx? p=some k:=by
  rw[List.findIdx?_eq_some_iff_getElem];obtain⟨hk,e⟩:=List.getElem?_eq_some_iff.1 h;refine⟨hk,by rw[e];exact hx,fun j hj=> ?_⟩;have h2:=hb j xs[j] hj (List.getElem?_eq_getElem (by omega));simp[h2]
 rw[wR,this]
theorem AZ {α:Type} {p:α→Bool} {xs:List α} (h:∀x∈xs,p x=false):wR p xs= -1:=by
 have:xs.findIdx? p=none:=List.findIdx?_eq_none_iff.2 fun x hx=>by rw[h x hx]
 rw[wR,this]
theorem Df {α:Type} {p:α→Bool} {xs:List α}:decide (wR p xs≥0)=xs.any p:=by
 unfold wR;cases h:xs.findIdx? p with
 |none=>
  rw[List.findIdx?_eq_none_iff] at h;have:xs.any p=false:=by rw[List.any_eq_false];intro x hx;rw[h x hx];simp
  rw[this];decide
 |some k=>
  rw[List.findIdx?_eq_some_iff_getElem] at h;obtain⟨hk,e,_⟩:=h;have:xs.any p=true:=List.any_eq_true.2 ⟨_,List.getElem_mem hk,e⟩;rw[this];simp
def dQ:AC:=
(.seq (.aM [⟨some 4,none,.ak (.c (.int .i64 0))⟩]) (.seq (.seq (.aM [⟨some 6,none,.ak (.t 0)⟩,⟨some 7,none,.len (.t 6)⟩,⟨some 8,none,.ak (.c (.int .i64 0))⟩]) (.block 0 (.loop (.seq (.aM [⟨some 9,none,.bin .lss (.t 8) (.t 7)⟩]) (.seq (.cond (.t 9) .skip (.exit 0)) (.seq (.block 1 (.seq (.aM [⟨some 10,none,.ak (.t 8)⟩,⟨some 5,none,.ak (.t 10)⟩]) (.seq (.aM [⟨some 11,none,.ak (.t 1)⟩,⟨some 12,none,.ak (.t 0)⟩,⟨some 13,none,.ak (.t 5)⟩,⟨some 14,none,.fJ (.t 12) (.t 13) 5⟩,⟨some 15,none,.load (some 5) (.t 14)⟩,⟨some 16,none,.j4 (.t 11) [(.t 15)]⟩]) (.cond (.t 16) (.seq (.aM [⟨some 17,none,.ak (.t 5)⟩,⟨some 4,none,.ak (.t 17)⟩]) .ret) .skip)))) (.aM [⟨some 18,none,.bin .add (.t 8) (.c (.int .i64 1))⟩,⟨some 8,none,.ak (.t 18)⟩]))))))) (.seq (.aM [⟨some 4,none,.ak (.c (.int .i64 (-1)))⟩]) .ret)))
theorem wS {bH fc:Nat} {cs:List IV} (hF:aA P G bH=some (19,[(none,4)],dQ.bare)) (l:List Op) (hx:l.length≤B) (p:Op→Bool) (hb:j5 P fc=true) (hC:∀b∈l,az P G fc [b.av,.lptr cs] (.bool (p b))) :
  az P G bH [.list (l.map Op.iv),.fn fc [] [.lptr cs]] (.int .i64 (wR p l)):=by
 refine bm hF (by simp) (by simp[ax,AV.aI]) (by simp[AV.aI]) ?_;unfold dQ;have pw:B=1073741824:=rfl;simp only[↓aX,mX,reduceCtorEq,Nat.reduceEqDiff,Nat.reduceLT,Nat.reduceLeDiff,Nat.reduceAdd,Nat.reduceMul,Int.reduceToNat,Int.reduceLE,Int.reduceLT,List.length_map]
 refine jW (σ:={i:Nat // i≤l.length∧∀j y,j<i→l[j]?=some y→p y=false}) (fun q=>[(0,.list (l.map Op.iv)),(1,.fn fc [] [.lptr cs]),(7,.int .i64 l.length),(8,.int .i64 q.1)]) (fun q=>l.length - q.1) ⟨0,by simp⟩ (fun _=>rfl) ?_ ?_
 ·exact⟨by simp only[↓aX,mX,reduceCtorEq,Nat.reduceEqDiff,Nat.reduceLT,Nat.reduceLeDiff,Nat.reduceAdd,Nat.reduceMul,Int.reduceToNat,Int.reduceLE,Int.reduceLT],by repeat' constructor⟩
 ·rintro⟨i,hi,hs⟩;simp only[↓aX,mX,reduceCtorEq,Nat.reduceEqDiff,Nat.reduceLT,Nat.reduceLeDiff,Nat.reduceAdd,Nat.reduceMul,Int.reduceToNat,Int.reduceLE,Int.reduceLT,List.length_map];by_cases cj:i<l.length
  ·rw[show decide ((i:Int)<(l.length:Int))=true by simpa using cj];obtain⟨x,mj⟩:∃x,l[i]?=some x:=⟨_,List.getElem?_eq_getElem cj⟩;have hw:IntKind.i64.wrap ((i:Int)+1)=((i+1:Nat):Int):=wrap64 (by omega) (by omega)
   simp only[↓aX,mX,reduceCtorEq,Nat.reduceEqDiff,Nat.reduceLT,Nat.reduceLeDiff,Nat.reduceAdd,Nat.reduceMul,Int.reduceToNat,Int.reduceLE,Int.reduceLT,zC,mj,Option.map_some,wD,Op.bL,Op.cs,r9,yn,hb];refine aO (hC x (List.mem_of_getElem? mj)) ?_
   try simp only[↓aX,mX,reduceCtorEq,Nat.reduceEqDiff,Nat.reduceLT,Nat.reduceLeDiff,Nat.reduceAdd,Nat.reduceMul,Int.reduceToNat,Int.reduceLE,Int.reduceLT]
   refine nu (fun h=> ?_) (fun h=> ?_)
   ·try simp only[↓aX,mX,reduceCtorEq,Nat.reduceEqDiff,Nat.reduceLT,Nat.reduceLeDiff,Nat.reduceAdd,Nat.reduceMul,Int.reduceToNat,Int.reduceLE,Int.reduceLT]
    rw[Gb mj h hs]
   ·simp only[↓aX,mX,reduceCtorEq,Nat.reduceEqDiff,Nat.reduceLT,Nat.reduceLeDiff,Nat.reduceAdd,Nat.reduceMul,Int.reduceToNat,Int.reduceLE,Int.reduceLT,hw];refine⟨⟨i+1,cj,fun j y hj hy=> ?_⟩,by simp only;omega,rfl⟩;by_cases e:j=i
    ·rw[e,mj] at hy;cases hy;exact h
    ·exact hs j y (by omega) hy
  ·rw[show decide ((i:Int)<(l.length:Int))=false by simpa using cj];simp only[↓aX,mX,reduceCtorEq,Nat.reduceEqDiff,Nat.reduceLT,Nat.reduceLeDiff,Nat.reduceAdd,Nat.reduceMul,Int.reduceToNat,Int.reduceLE,Int.reduceLT]
   rw[AZ fun x hx=>by
    obtain⟨j,hj⟩:=List.getElem?_of_mem hx;exact hs j x (by have:=(List.getElem?_eq_some_iff.1 hj).1;omega) hj]
def dy (bH:Nat):AC:=
(.seq (.aM [⟨some 4,none,.ak (.c (.bool false))⟩]) (.seq (.aM [⟨some 5,none,.ak (.t 0)⟩,⟨some 6,none,.ak (.t 1)⟩,⟨some 7,none,.call bH [(.t 5),(.t 6)]⟩,⟨some 8,none,.bin .geq (.t 7) (.c (.int .i64 0))⟩,⟨some 4,none,.ak (.t 8)⟩]) .ret))
theorem yx {bw bH fc:Nat} {cs:List IV} (hF:aA P G bw=some (9,[(none,4)],(dy bH).bare)) (l:List Op) (p:Op→Bool)
  (hI:az P G bH [.list (l.map Op.iv),.fn fc [] [.lptr cs]] (.int .i64 (wR p l))) :
  az P G bw [.list (l.map Op.iv),.fn fc [] [.lptr cs]] (.bool (l.any p)):=by
 refine bm hF (by simp) (by simp[ax,AV.aI]) (by simp[AV.aI]) ?_;unfold dy;simp only[↓aX,mX,reduceCtorEq,Nat.reduceEqDiff,Nat.reduceLT,Nat.reduceLeDiff,Nat.reduceAdd,Nat.reduceMul,Int.reduceToNat,Int.reduceLE,Int.reduceLT];refine aO hI ?_;simp only[↓aX,mX,reduceCtorEq,Nat.reduceEqDiff,Nat.reduceLT,Nat.reduceLeDiff,Nat.reduceAdd,Nat.reduceMul,Int.reduceToNat,Int.reduceLE,Int.reduceLT,Df]
def kt:List Op→List Op→Bool
 |_,[]=>false
 |pre,a::r=>pre.any (aK a)||kt (pre++[a]) r
noncomputable def eH (d:Doc) (l:List Op):Int:=
 if fX d=true then(if 20<l.length then 2 else match l.find? (fun o=>f_ d o !=0) with|some o=>f_ d o|none=>if kt [] l then 5 else 0) else 1
def iH (cp cZ ct bw:Nat):AC:=
(.seq (.aM [⟨some 2,none,.box (.t 0)⟩,⟨some 4,none,.ak (.c (.int .i64 0))⟩]) (.seq (.seq (.aM [⟨some 10,none,.load (some 1) (.t 2)⟩,⟨some 11,none,.call cp [(.t 10)]⟩,⟨some 12,none,.not (.t 11)⟩]) (.cond (.t 12) (.seq (.aM [⟨some 4,none,.ak (.c (.int .i64 1))⟩]) .ret) .skip)) (.seq (.seq (.aM [⟨some 13,none,.ak (.t 1)⟩,⟨some 14,none,.len (.t 13)⟩,⟨some 15,none,.bin .gtr (.t 14) (.c (.int .i64 20))⟩]) (.cond (.t 15) (.seq (.aM [⟨some 4,none,.ak (.c (.int .i64 2))⟩]) .ret) .skip)) (.seq (.seq (.aM [⟨some 16,none,.ak (.t 1)⟩,⟨some 17,none,.len (.t 16)⟩,⟨some 18,none,.ak (.c (.int .i64 0))⟩]) (.block 0 (.loop (.seq (.aM [⟨some 19,none,.bin .lss (.t 18) (.t 17)⟩]) (.seq (.cond (.t 19) .skip (.exit 0)) (.seq (.block 1 (.seq (.aM [⟨some 20,none,.fJ (.t 16) (.t 18) 5⟩,⟨some 21,none,.load (some 5) (.t 20)⟩,⟨some 6,none,.new [(.int .i64 0),(.int .i64 0),.nil0,(.str []),(.str [])]⟩,⟨none,none,.store 5 (.t 6) (.t 21)⟩]) (.seq (.aM [⟨some 22,none,.load (some 1) (.t 2)⟩,⟨some 23,none,.load (some 5) (.t 6)⟩,⟨some 24,none,.call cZ [(.t 22),(.t 23)]⟩,⟨some 7,none,.ak (.t 24)⟩]) (.seq (.aM [⟨some 25,none,.ak (.t 7)⟩,⟨some 26,none,.bin .neq (.t 25) (.c (.int .i64 0))⟩]) (.cond (.t 26) (.seq (.aM [⟨some 27,none,.ak (.t 7)⟩,⟨some 4,none,.ak (.t 27)⟩]) .ret) .skip))))) (.aM [⟨some 28,none,.bin .add (.t 18) (.c (.int .i64 1))⟩,⟨some 18,none,.ak (.t 28)⟩]))))))) (.seq (.seq (.aM [⟨some 29,none,.ak (.t 1)⟩,⟨some 30,none,.len (.t 29)⟩,⟨some 31,none,.ak (.c (.int .i64 0))⟩]) (.block 2 (.loop (.seq (.aM [⟨some 32,none,.bin .lss (.t 31) (.t 30)⟩]) (.seq (.cond (.t 32) .skip (.exit 2)) (.seq (.block 3 (.seq (.aM [⟨some 33,none,.ak (.t 31)⟩,⟨some 34,none,.fJ (.t 29) (.t 31) 5⟩,⟨some 35,none,.load (some 5) (.t 34)⟩,⟨some 9,none,.new [(.int .i64 0),(.int .i64 0),.nil0,(.str []),(.str [])]⟩,⟨some 8,none,.ak (.t 33)⟩,⟨none,none,.store 5 (.t 9) (.t 35)⟩]) (.gh .qn (.seq (.aM [⟨some 36,none,.ak (.t 1)⟩,⟨some 37,none,.ak (.t 8)⟩,⟨some 38,none,.kX (.t 36) none (some (.t 37)) none 5⟩,⟨some 39,none,.DW ct [(.t 9)]⟩,⟨some 40,none,.call bw [(.t 38),(.t 39)]⟩]) (.cond (.t 40) (.seq (.aM [⟨some 4,none,.ak (.c (.int .i64 5))⟩]) .ret) .skip))))) (.aM [⟨some 41,none,.bin .add (.t 31) (.c (.int .i64 1))⟩,⟨some 31,none,.ak (.t 41)⟩]))))))) (.seq (.aM [⟨some 4,none,.ak (.c (.int .i64 0))⟩]) .ret))))))
theorem J3 {bR cp cZ ct bw : Nat} (hF : aA P G bR = some (42,[(none,4)],(iH cp cZ ct bw).bare)) (d : Doc) (l : List Op) (hl : l.length ≤ B) (hG : az P G cp [Doc.av d] (.bool (fX d)))
   (hO:∀o∈l,az P G cZ [Doc.av d,o.av] (.int .i64 (f_ d o)))
   (hC:∀a∈l,∀i,az P G bw [.list ((l.take i).map Op.iv),.fn ct [] [.lptr a.cs]] (.bool ((l.take i).any (aK a)))) :
   az P G bR [Doc.av d,.list (l.map Op.iv)] (.int .i64 (eH d l)):=by
 refine bm hF (by simp) (by simp[ax,AV.aI,Op.av,Doc.av]) (by simp[AV.aI]) ?_
 unfold iH
 have pw:B=1073741824:=rfl
 simp only[↓aX,mX,reduceCtorEq,Nat.reduceEqDiff,Nat.reduceLT,Nat.reduceLeDiff,Nat.reduceAdd,Nat.reduceMul,Int.reduceToNat,Int.reduceLE,Int.reduceLT,Op.av,Doc.av]
 refine aO hG ?_
 unfold eH
 cases hd:fX d with
 |false=>simp only[↓aX,mX,reduceCtorEq,Nat.reduceEqDiff,Nat.reduceLT,Nat.reduceLeDiff,Nat.reduceAdd,Nat.reduceMul,Int.reduceToNat,Int.reduceLE,Int.reduceLT,Bool.not_false];try rfl
 |true=>
   simp only[↓aX,mX,reduceCtorEq,Nat.reduceEqDiff,Nat.reduceLT,Nat.reduceLeDiff,Nat.reduceAdd,Nat.reduceMul,Int.reduceToNat,Int.reduceLE,Int.reduceLT,Bool.not_true,Op.av,Doc.av,List.length_map,gt_iff_lt]
   cases h1:decide ((20:Int)<(l.length:Int)) with
   |true=>
     simp only[↓aX,mX,reduceCtorEq,Nat.reduceEqDiff,Nat.reduceLT,Nat.reduceLeDiff,Nat.reduceAdd,Nat.reduceMul,Int.reduceToNat,Int.reduceLE,Int.reduceLT]
     have:20<l.length:=by simp at h1;omega
     simp[this]
   |false=>
     simp only[↓aX,mX,reduceCtorEq,Nat.reduceEqDiff,Nat.reduceLT,Nat.reduceLeDiff,Nat.reduceAdd,Nat.reduceMul,Int.reduceToNat,Int.reduceLE,Int.reduceLT,List.length_map]
     have k1:¬20<l.length:=by simp at h1;omega
     rw[if_neg k1]
     refine lv (σ:={i:Nat // i≤l.length∧∀o∈l.take i,f_ d o=0}) (fun _=>[.loc 2]) (fun _ _=>false)
       (fun q=>[(1,.list (l.map Op.iv)),(2,.ptr (.loc 2) 1 0 0),(16,.list (l.map Op.iv)),(17,.int .i64 l.length),(18,.int .i64 q.1)])
       (fun q=>[(.loc 2,⟨1,[[.list (d.map Node.iv)]]⟩)]) (fun q=>l.length - q.1) ⟨0,by simp⟩ (fun _=>rfl) (fun q=>by simp[ax,AV.aI]) ?_ ⟨[],?_⟩ ?_
     · rintro q r hr cs b5 l' ir
       simp only[List.mem_singleton] at hr;subst hr
       simp only[List.mem_singleton] at b5;subst b5;simp[ax,AV.aI] at ir
     · refine⟨?_,?_,?_,by simp[dS],fun l _=>⟨id,fun _=>rfl⟩⟩
       · intro l' hf hu
         exfalso;apply hu
         cases l'<;>simp_all[Lb.fresh,ai,Hp.none]
       · simp[nt,dS,cG,put,b7]
       · simp[zb,dS,ai,dB,cn,cG]
     · rintro ⟨i,hi,hs⟩
       rw[CJ]
       simp only[↓aX,mX,reduceCtorEq,Nat.reduceEqDiff,Nat.reduceLT,Nat.reduceLeDiff,Nat.reduceAdd,Nat.reduceMul,Int.reduceToNat,Int.reduceLE,Int.reduceLT,jQ,iD,List.length_map]
       by_cases cj:i<l.length
       · rw[show decide ((i:Int)<(l.length:Int))=true by simpa using cj]
         obtain⟨o,ho⟩:∃o,l[i]?=some o:=⟨_,List.getElem?_eq_getElem cj⟩
         have hw:IntKind.i64.wrap ((i:Int)+1)=((i+1:Nat):Int):=wrap64 (by omega) (by omega)
         have o4:l.take (i+1)=l.take i++[o]:=eo ho
         simp only[↓aX,mX,reduceCtorEq,Nat.reduceEqDiff,Nat.reduceLT,Nat.reduceLeDiff,Nat.reduceAdd,Nat.reduceMul,Int.reduceToNat,Int.reduceLE,Int.reduceLT,zC,ho,Option.map_some,wD,Op.bL,Op.cs]
         refine aO (hO o (List.mem_of_getElem? ho)) ?_
         simp only[↓aX,mX,reduceCtorEq,Nat.reduceEqDiff,Nat.reduceLT,Nat.reduceLeDiff,Nat.reduceAdd,Nat.reduceMul,Int.reduceToNat,Int.reduceLE,Int.reduceLT]
         cases h0:(f_ d o !=0) with
         |true=>
           simp only[↓aX,mX,reduceCtorEq,Nat.reduceEqDiff,Nat.reduceLT,Nat.reduceLeDiff,Nat.reduceAdd,Nat.reduceMul,Int.reduceToNat,Int.reduceLE,Int.reduceLT,h0]
           have hf:l.find? (fun o=>f_ d o !=0)=some o:=by
             rw[List.find?_eq_some_iff_append]
             refine⟨h0,l.take i,l.drop (i+1),?_,fun a ha=>by simp[hs a ha]⟩
             rw[←drop_eq ho,List.take_append_drop]
           rw[hf]
         |false=>
           simp only[↓aX,mX,reduceCtorEq,Nat.reduceEqDiff,Nat.reduceLT,Nat.reduceLeDiff,Nat.reduceAdd,Nat.reduceMul,Int.reduceToNat,Int.reduceLE,Int.reduceLT,h0,hw]
           refine⟨⟨i+1,cj,fun a ha=> ?_⟩,by simp only;omega,[],?_⟩
           · rw[o4,List.mem_append] at ha
             rcases ha with ha|ha
             · exact hs a ha
             · simp only[List.mem_singleton] at ha;subst ha;simpa using h0
           · refine⟨?_,?_,?_,by simp[dS],fun l _=>⟨id,fun _=>rfl⟩⟩
             · intro l' hf hu
               exfalso;apply hu
               cases l'<;>simp_all[Lb.fresh,ai,Hp.none]
             · simp[nt,dS,cG,put,kF]
             · simp[zb,dS,ai,dB,cn,cG]
       · have qT:i=l.length:=by omega
         rw[show decide ((i:Int)<(l.length:Int))=false by simpa using cj]
         have hf:l.find? (fun o=>f_ d o !=0)=none:=by
           rw[List.find?_eq_none]
           intro a ha
           rw[qT,List.take_length] at hs
           simp[hs a ha]
         rw[hf]
         simp only[↓aX,mX,reduceCtorEq,Nat.reduceEqDiff,Nat.reduceLT,Nat.reduceLeDiff,Nat.reduceAdd,Nat.reduceMul,Int.reduceToNat,Int.reduceLE,Int.reduceLT,List.length_map]
         refine jW (σ:={j:Nat // j≤l.length∧kt [] l=kt (l.take j) (l.drop j)}) (fun q=>[(1,.list (l.map Op.iv)),(29,.list (l.map Op.iv)),(30,.int .i64 l.length),(31,.int .i64 q.1)]) (fun q=>l.length - q.1) ⟨0,by simp⟩ (fun _=>by simp[ax,AV.aI]) ?_ ?_
         · refine⟨?_,?_⟩
           · simp only[↓aX,mX,reduceCtorEq,Nat.reduceEqDiff,Nat.reduceLT,Nat.reduceLeDiff,Nat.reduceAdd,Nat.reduceMul,Int.reduceToNat,Int.reduceLE,Int.reduceLT]
           · simp[xO,put,kF]
         · rintro⟨j,hj,m_⟩
           simp only[↓aX,mX,reduceCtorEq,Nat.reduceEqDiff,Nat.reduceLT,Nat.reduceLeDiff,Nat.reduceAdd,Nat.reduceMul,Int.reduceToNat,Int.reduceLE,Int.reduceLT,List.length_map]
           by_cases jl:j<l.length
           · rw[show decide ((j:Int)<(l.length:Int))=true by simpa using jl]
             obtain⟨o,ho⟩:∃o,l[j]?=some o:=⟨_,List.getElem?_eq_getElem jl⟩
             have hw:IntKind.i64.wrap ((j:Int)+1)=((j+1:Nat):Int):=wrap64 (by omega) (by omega)
             simp only[↓aX,mX,reduceCtorEq,Nat.reduceEqDiff,Nat.reduceLT,Nat.reduceLeDiff,Nat.reduceAdd,Nat.reduceMul,Int.reduceToNat,Int.reduceLE,Int.reduceLT,zC,ho,Option.map_some,wD,Op.bL,Op.cs,mV]
             refine⟨_,_,qg (d:=9) (l:= .loc 9) (sz:=5) (y:=o.iv) (by simp[put]) (by simp[ai];rfl) rfl (Mx [o]),?_⟩
             have RJ:((l.map Op.iv).take j).drop 0=(l.take j).map Op.iv:=by rw[List.drop_zero,List.map_take]
             have o4:l.take (j+1)=l.take j++[o]:=eo ho
             simp only[↓aX,mX,reduceCtorEq,Nat.reduceEqDiff,Nat.reduceLT,Nat.reduceLeDiff,Nat.reduceAdd,Nat.reduceMul,Int.reduceToNat,Int.reduceLE,Int.reduceLT,Op.bL,jK,nq,lD,wD,List.length_map,hj,Int.natCast_nonneg,Int.toNat_natCast,and_self,Nat.zero_le,RJ,Option.isSome_none]
             have hc:=hC o (List.mem_of_getElem? ho) j
             refine aO hc ?_
             have Qd:kt (l.take j) (l.drop j)=((l.take j).any (aK o)||kt (l.take (j+1)) (l.drop (j+1))):=by
               rw[drop_eq ho,o4];rfl
             cases h0:(l.take j).any (aK o) with
             |true=>
               simp only[↓aX,mX,reduceCtorEq,Nat.reduceEqDiff,Nat.reduceLT,Nat.reduceLeDiff,Nat.reduceAdd,Nat.reduceMul,Int.reduceToNat,Int.reduceLE,Int.reduceLT]
               rw[m_,Qd,h0];simp
             |false=>
               simp only[↓aX,mX,reduceCtorEq,Nat.reduceEqDiff,Nat.reduceLT,Nat.reduceLeDiff,Nat.reduceAdd,Nat.reduceMul,Int.reduceToNat,Int.reduceLE,Int.reduceLT,hw]
               refine⟨⟨j+1,jl,by rw[m_,Qd,h0];simp⟩,by simp only;omega,rfl⟩
           · rw[show decide ((j:Int)<(l.length:Int))=false by simpa using jl]
             have yR:j=l.length:=by omega
             simp only[↓aX,mX,reduceCtorEq,Nat.reduceEqDiff,Nat.reduceLT,Nat.reduceLeDiff,Nat.reduceAdd,Nat.reduceMul,Int.reduceToNat,Int.reduceLE,Int.reduceLT]
             rw[m_,yR]
             simp[kt]
end
end Go.Am

/- THE ABSTRACT MACHINE, part 52: calls that hand back a row of one's own. -/
namespace Go.Am
open Go Go.RowKit
section
variable {S:St} {f:Nat} {args:List AV} {sz:Nat} {xs:List IV} {H:Hp} {k:AV→Hp→Prop} {u:Tw k}
theorem A0 (c:Nat) (h:uY S.P S.G f args sz xs) (ha:ax args=[]) (hN:∀l,H (NW c l)= .unused)
  (hk:∀l,k (.sl (NW c l) sz 0 xs.length) (bG H (NW c l) (.live ⟨sz,ay xs⟩))):Bq S f args H k u:=by
 refine gV (lab:=Lb.par) (N:=NW c) h (ij _ _ ha).symm ⟨fun p r hr=>by simp[CV] at hr,fun p q hp=>absurd hp oT⟩ hN (CU c) (fun l _=> .inr fun p hp=>absurd hp oT) (by simp) ?_;rintro X R2 cQ H2 ⟨rfl,rfl⟩ g1 g2 g3 g4 g5 g6
 obtain⟨l,hl⟩:∃l,cQ 0=NW c l:=by
  rcases g3 0 (oS.2 rfl) with⟨p,hp,_⟩|h
  ·exact absurd hp oT
  ·exact h
 have e:H2=bG H (NW c l) (.live ⟨sz,ay xs⟩):=by
  funext q;by_cases hq:q=NW c l
  ·subst hq;rw[ai,if_pos rfl,←hl];exact g1.row 0 _ (by simp[AK])
  ·rw[aq _ _ hq];by_cases Ai:∃l',q=NW c l'
   ·obtain⟨l',rfl⟩:=Ai;rw[hN l',g6 l' fun p hp=>by rw[oS.1 hp,hl];exact Ne.symm hq]
   ·exact g4 q (fun p hp=>absurd hp oT) fun l' e=>Ai ⟨l',e⟩
 rw[e];have:=hk l;simpa only[hl] using this
theorem zM {F:List Lb} (c:Nat) (h:uY S.P S.G f args sz xs) (ha:ax args=[]) (hN:∀l,H (NW c l)= .unused) (hF:Lb.nest (.loc c) 0 1∉F)
  (hk:∀l,k (.sl (NW c l) sz 0 xs.length) (bG H (NW c l) (.live ⟨sz,ay xs⟩))):FA S F f args H k u:=by
 refine⟨fun x H'=>∃l,x= .sl (NW c l) sz 0 xs.length∧H'=bG H (NW c l) (.live ⟨sz,ay xs⟩),?_,⟨_,_,.loc 0,rfl,rfl⟩,?_⟩
 ·exact A0 (k:=fun x H'=>∃l,x= .sl (NW c l) sz 0 xs.length∧H'=bG H (NW c l) (.live ⟨sz,ay xs⟩)) (u:= .mk) c h ha hN fun l=>⟨l,rfl,rfl⟩
 ·rintro x H' ⟨l,rfl,rfl⟩;refine⟨fun q hq=> ?_,hk l⟩;rw[aq];rintro rfl;exact hF hq
theorem yy {env:Env} (R W:List Lb) (q:Nat) (n c:O) (sz b:Nat) (z:List AV) (k:AV→Hp→Prop):aZ S (.rw R W) (some q) (.vt n c sz b z) env H k =
  pK (ur sz b q z (ev env n) (ev env c) H) (fun y H'=>Lb.loc q∈W∧k y H') .mk:=by
 simp[aZ,ek,dz,a7,pK,Lb.iJ]
theorem zN {sz b d m:Nat} {z:List AV} (hb:m*b≤140737488355328) (hu:H (.loc d)= .unused) :
  ur sz b d z (.int .i64 (m:Int)) (.int .i64 (m:Int)) H=some (.sl (.loc d) sz 0 m,bG H (.loc d) (.live ⟨sz,List.replicate m z⟩)):=by
 simp[ur,hu,hb]
end
end Go.Am
