import Derived.Test.YtfinkeaikbmpgaaGreatDoorKP2
import Derived.Test.YtfinkeaikbmpgaaGreatDoorKAm53
import Derived.Test.YtfinkeaikbmpgaaGreatDoorKT100
import Derived.Test.YtfinkeaikbmpgaaGreatDoorKS4
import Derived.Test.YtfinkeaikbmpgaaGreatDoorKAm48
set_option linter.unusedSimpArgs false
set_option linter.unusedVariables false
set_option linter.unnecessarySimpa false
set_option linter.defProp false
/- The document's answer for paths: called, isMeant, SelectOf, IsPath, SameSteps. -/
set_option pp.deepTerms false
set_option pp.deepTerms.threshold 6
namespace Go.Am
open Go Go.RowKit
section
variable {P:Program} {G:Nat→Option (List IV)}
def fe:AC:=
(.seq (.au [⟨some 2,none,.box (.t 0)⟩,⟨some 4,none,.af (.c (.bool false))⟩]) (.seq (.seq (.au [⟨some 5,none,.bU (.t 2) 0⟩,⟨some 6,none,.load none (.t 5)⟩]) (.cond (.t 6) (.seq (.au [⟨some 7,none,.af (.t 1)⟩,⟨some 8,none,.bin .eql (.t 7) (.c (.str []))⟩,⟨some 4,none,.af (.t 8)⟩]) .ret) .skip)) (.seq (.au [⟨some 9,none,.af (.t 1)⟩,⟨some 10,none,.bin .eql (.t 9) (.c (.str [42]))⟩,⟨some 11,none,.af (.t 10)⟩,⟨some 12,(some (11,false)),(.af (.t 1))⟩,⟨some 13,(some (11,false)),(.bin .neq (.t 12) (.c (.str [])))⟩,⟨some 14,(some (11,false)),(.af (.t 13))⟩,⟨some 15,(some (14,true)),(.af (.t 1))⟩,⟨some 16,(some (14,true)),(.bU (.t 2) 1)⟩,⟨some 17,(some (14,true)),(.load none (.t 16))⟩,⟨some 18,(some (14,true)),(.bin .eql (.t 15) (.t 17))⟩,⟨some 19,(some (11,false)),(.pick (.t 14) (.t 18) (.c (.bool false)))⟩,⟨some 20,none,.pick (.t 11) (.c (.bool true)) (.t 19)⟩,⟨some 4,none,.af (.t 20)⟩]) .ret)))
theorem B2 {bZ:Nat} (hF:aB P G bZ=some (21,[(none,4)],fe.bare)) (x:Node) (nm:Bs):ai P G bZ [x.av,.str nm] (.bool (ey x.text x.s nm)):=by
 refine aC hF (by simp) (by simp[ah,AV.ar,Node.av]) (by simp[AV.ar]) ?_;unfold fe;simp only[↓aX,mX,reduceCtorEq,Nat.reduceEqDiff,Nat.reduceLT,Nat.reduceLeDiff,Nat.reduceAdd,Nat.reduceMul,Int.reduceToNat,Int.reduceLE,Int.reduceLT,Node.av,ey];cases ht:x.text with
 |true=>simp only[↓aX,mX,reduceCtorEq,Nat.reduceEqDiff,Nat.reduceLT,Nat.reduceLeDiff,Nat.reduceAdd,Nat.reduceMul,Int.reduceToNat,Int.reduceLE,Int.reduceLT,Bool.or_true,ite_true,Bool.and_true]
 |false=>
  simp only[↓aX,mX,reduceCtorEq,Nat.reduceEqDiff,Nat.reduceLT,Nat.reduceLeDiff,Nat.reduceAdd,Nat.reduceMul,Int.reduceToNat,Int.reduceLE,Int.reduceLT,Bool.or_false,Bool.and_false];cases h1:(nm==[]) with
  |true=>
   have:nm=[]:=by simpa using h1
   subst this;simp only[↓aX,mX,reduceCtorEq,Nat.reduceEqDiff,Nat.reduceLT,Nat.reduceLeDiff,Nat.reduceAdd,Nat.reduceMul,Int.reduceToNat,Int.reduceLE,Int.reduceLT,show(([]:Bs)==[42])=false from rfl,Bool.not_false,show(([]:Bs)==[])=true from rfl,Bool.not_true];simp
  |false=>
   cases h2:(nm==[42]) with
   |true=>simp only[↓aX,mX,reduceCtorEq,Nat.reduceEqDiff,Nat.reduceLT,Nat.reduceLeDiff,Nat.reduceAdd,Nat.reduceMul,Int.reduceToNat,Int.reduceLE,Int.reduceLT,Bool.not_true];simp
   |false=>simp only[↓aX,mX,reduceCtorEq,Nat.reduceEqDiff,Nat.reduceLT,Nat.reduceLeDiff,Nat.reduceAdd,Nat.reduceMul,Int.reduceToNat,Int.reduceLE,Int.reduceLT,Bool.not_false,h1];simp
def ff (aS:Nat):AC:=
(.seq (.au [⟨some 2,none,.af (.c (.bool false))⟩]) (.seq (.seq (.au [⟨some 5,none,.af (.t 0)⟩,⟨some 6,none,.len (.t 5)⟩,⟨some 7,none,.af (.c (.int .i64 0))⟩]) (.block 0 (.loop (.seq (.au [⟨some 8,none,.bin .lss (.t 7) (.t 6)⟩]) (.seq (.cond (.t 8) .skip (.exit 0)) (.seq (.block 1 (.seq (.au [⟨some 9,none,.fH (.t 5) (.t 7) 2⟩,⟨some 10,none,.load (some 2) (.t 9)⟩,⟨some 4,none,.new [(.str []),(.int .i64 0)]⟩,⟨none,none,.store 2 (.t 4) (.t 10)⟩]) (.seq (.au [⟨some 11,none,.bU (.t 4) 1⟩,⟨some 12,none,.load none (.t 11)⟩,⟨some 13,none,.bin .lss (.t 12) (.c (.int .i64 0))⟩,⟨some 14,none,.af (.t 13)⟩,⟨some 15,(some (14,false)),(.bU (.t 4) 1)⟩,⟨some 16,(some (14,false)),(.load none (.t 15))⟩,⟨some 17,(some (14,false)),(.bin .gtr (.t 16) (.c (.int .i64 99)))⟩,⟨some 18,none,.pick (.t 14) (.c (.bool true)) (.t 17)⟩,⟨some 19,none,.af (.t 18)⟩,⟨some 20,(some (19,false)),(.bU (.t 4) 0)⟩,⟨some 21,(some (19,false)),(.load none (.t 20))⟩,⟨some 22,(some (19,false)),(.bin .neq (.t 21) (.c (.str [])))⟩,⟨some 23,(some (19,false)),(.af (.t 22))⟩,⟨some 24,(some (23,true)),(.bU (.t 4) 0)⟩,⟨some 25,(some (23,true)),(.load none (.t 24))⟩,⟨some 26,(some (23,true)),(.bin .neq (.t 25) (.c (.str [42])))⟩,⟨some 27,(some (19,false)),(.pick (.t 23) (.t 26) (.c (.bool false)))⟩,⟨some 28,(some (19,false)),(.af (.t 27))⟩,⟨some 29,(some (28,true)),(.bU (.t 4) 0)⟩,⟨some 30,(some (28,true)),(.load none (.t 29))⟩,⟨some 31,(some (28,true)),(.call aS [(.t 30)])⟩,⟨some 32,(some (28,true)),(.not (.t 31))⟩,⟨some 33,(some (19,false)),(.pick (.t 28) (.t 32) (.c (.bool false)))⟩,⟨some 34,none,.pick (.t 19) (.c (.bool true)) (.t 33)⟩]) (.cond (.t 34) (.seq (.au [⟨some 2,none,.af (.c (.bool false))⟩]) .ret) .skip)))) (.au [⟨some 35,none,.bin .add (.t 7) (.c (.int .i64 1))⟩,⟨some 7,none,.af (.t 35)⟩]))))))) (.seq (.au [⟨some 36,none,.af (.t 0)⟩,⟨some 37,none,.len (.t 36)⟩,⟨some 38,none,.bin .gtr (.t 37) (.c (.int .i64 0))⟩,⟨some 39,none,.af (.t 38)⟩,⟨some 40,(some (39,true)),(.af (.t 0))⟩,⟨some 41,(some (39,true)),(.len (.t 40))⟩,⟨some 42,(some (39,true)),(.bin .lss (.t 41) (.c (.int .i64 6)))⟩,⟨some 43,none,.pick (.t 39) (.t 42) (.c (.bool false))⟩,⟨some 2,none,.af (.t 43)⟩]) .ret)))
theorem B3 {bj aS:Nat} (hF:aB P G bj=some (44,[(none,2)],(ff aS).bare)) (l:List Step) (hl:l.length≤B) (hN:∀x∈l,ai P G aS [.str x.name] (.bool (named x.name))) :
   ai P G bj [.list (l.map Step.iv)] (.bool (aT l)):=by
 refine aC hF (by simp) (by simp[ah,AV.ar]) (by simp[AV.ar]) ?_
 have rn:B=1073741824:=rfl
 unfold ff
 simp only[↓aX,mX,reduceCtorEq,Nat.reduceEqDiff,Nat.reduceLT,Nat.reduceLeDiff,Nat.reduceAdd,Nat.reduceMul,Int.reduceToNat,Int.reduceLE,Int.reduceLT,List.length_map]
 refine gm (σ:={i:Nat // i≤l.length∧∀x∈l.take i,cO x=true}) (fun q=>[(0,.list (l.map Step.iv)),(5,.list (l.map Step.iv)),(6,.int .i64 l.length),(7,.int .i64 q.1)]) (fun q=>l.length - q.1) ⟨0,by simp⟩ (fun _=>rfl) ?_ ?_
 · exact⟨by simp only[↓aX,mX,reduceCtorEq,Nat.reduceEqDiff,Nat.reduceLT,Nat.reduceLeDiff,Nat.reduceAdd,Nat.reduceMul,Int.reduceToNat,Int.reduceLE,Int.reduceLT],by repeat' constructor⟩
 · rintro ⟨i,hi,hs⟩
   simp only[↓aX,mX,reduceCtorEq,Nat.reduceEqDiff,Nat.reduceLT,Nat.reduceLeDiff,Nat.reduceAdd,Nat.reduceMul,Int.reduceToNat,Int.reduceLE,Int.reduceLT,List.length_map]
   by_cases bz:i<l.length
   · rw[show decide ((i:Int)<(l.length:Int))=true by simpa using bz]
     obtain⟨x,hx⟩:∃x,l[i]?=some x:=⟨_,List.getElem?_eq_getElem bz⟩
     have xf:=List.mem_of_getElem? hx
     have hw:IntKind.i64.wrap ((i:Int)+1)=((i+1:Nat):Int):=wrap64 (by omega) (by omega)
     have stop:cO x=false→aT l=false:=fun h=>by
       unfold aT
       rw[show l.all cO=false from List.all_eq_false.2 ⟨x,xf,by simp[h]⟩];rfl
     have next:cO x=true→∀y∈l.take (i+1),cO y=true:=fun h y hy=>by
       rw[List.take_add_one,hx] at hy
       simp only[Option.toList_some,List.mem_append,List.mem_singleton] at hy
       rcases hy with hy|rfl
       · exact hs y hy
       · exact h
     simp only[↓aX,mX,reduceCtorEq,Nat.reduceEqDiff,Nat.reduceLT,Nat.reduceLeDiff,Nat.reduceAdd,Nat.reduceMul,Int.reduceToNat,Int.reduceLE,Int.reduceLT,sF,hx,p_,Option.map_some,Step.aU,Step.cs]
     have tail:∀b:Bool,(x.name==[]||(x.name==[42]||named x.name))=b→cO x=(b&&(decide (0≤x.n)&&decide (x.n≤99))):=fun b h=>by unfold cO;rw[h]
     by_cases h4:x.n<0
     · simp only[↓aX,mX,reduceCtorEq,Nat.reduceEqDiff,Nat.reduceLT,Nat.reduceLeDiff,Nat.reduceAdd,Nat.reduceMul,Int.reduceToNat,Int.reduceLE,Int.reduceLT,h4,decide_true,stop (by unfold cO;rw[decide_eq_false (show ¬0≤x.n by omega),Bool.false_and,Bool.and_false])]
     by_cases h5:99<x.n
     · simp only[↓aX,mX,reduceCtorEq,Nat.reduceEqDiff,Nat.reduceLT,Nat.reduceLeDiff,Nat.reduceAdd,Nat.reduceMul,Int.reduceToNat,Int.reduceLE,Int.reduceLT,h4,decide_false,gt_iff_lt,h5,decide_true,Bool.not_false,stop (by unfold cO;rw[decide_eq_false (show ¬x.n≤99 by omega),Bool.and_false,Bool.and_false])]
     have hd:(decide (0≤x.n)&&decide (x.n≤99))=true:=by rw[decide_eq_true (show 0≤x.n by omega),decide_eq_true (show x.n≤99 by omega)];rfl
     simp only[↓aX,mX,reduceCtorEq,Nat.reduceEqDiff,Nat.reduceLT,Nat.reduceLeDiff,Nat.reduceAdd,Nat.reduceMul,Int.reduceToNat,Int.reduceLE,Int.reduceLT,h4,decide_false,gt_iff_lt,h5,Bool.not_false]
     cases h1:(x.name==[]) with
     |true=>
       have ht:=tail true (by rw[h1];rfl)
       simp only[↓aX,mX,reduceCtorEq,Nat.reduceEqDiff,Nat.reduceLT,Nat.reduceLeDiff,Nat.reduceAdd,Nat.reduceMul,Int.reduceToNat,Int.reduceLE,Int.reduceLT,show(x.name !=[])=false by simp[bne,h1],hw]
       exact⟨⟨i+1,bz,next (by rw[ht,hd];rfl)⟩,by simp only;omega,rfl⟩
     |false=>
       simp only[↓aX,mX,reduceCtorEq,Nat.reduceEqDiff,Nat.reduceLT,Nat.reduceLeDiff,Nat.reduceAdd,Nat.reduceMul,Int.reduceToNat,Int.reduceLE,Int.reduceLT,show(x.name !=[])=true by simp[bne,h1]]
       cases h2:(x.name==[42]) with
       |true=>
         have ht:=tail true (by rw[h1,h2];rfl)
         simp only[↓aX,mX,reduceCtorEq,Nat.reduceEqDiff,Nat.reduceLT,Nat.reduceLeDiff,Nat.reduceAdd,Nat.reduceMul,Int.reduceToNat,Int.reduceLE,Int.reduceLT,show(x.name !=[42])=false by simp[bne,h2],hw]
         exact⟨⟨i+1,bz,next (by rw[ht,hd];rfl)⟩,by simp only;omega,rfl⟩
       |false=>
         simp only[↓aX,mX,reduceCtorEq,Nat.reduceEqDiff,Nat.reduceLT,Nat.reduceLeDiff,Nat.reduceAdd,Nat.reduceMul,Int.reduceToNat,Int.reduceLE,Int.reduceLT,show(x.name !=[42])=true by simp[bne,h2]]
         refine aj (hN x xf) ?_
         cases h3:named x.name with
         |true=>
           have ht:=tail true (by rw[h1,h2,h3];rfl)
           simp only[↓aX,mX,reduceCtorEq,Nat.reduceEqDiff,Nat.reduceLT,Nat.reduceLeDiff,Nat.reduceAdd,Nat.reduceMul,Int.reduceToNat,Int.reduceLE,Int.reduceLT,Bool.not_true,hw]
           exact⟨⟨i+1,bz,next (by rw[ht,hd];rfl)⟩,by simp only;omega,rfl⟩
         |false=>
           have ht:=tail false (by rw[h1,h2,h3];rfl)
           simp only[↓aX,mX,reduceCtorEq,Nat.reduceEqDiff,Nat.reduceLT,Nat.reduceLeDiff,Nat.reduceAdd,Nat.reduceMul,Int.reduceToNat,Int.reduceLE,Int.reduceLT,Bool.not_false,stop ht]
   · have lC:l.take i=l:=List.take_of_length_le (by omega)
     have dN:l.all cO=true:=List.all_eq_true.2 fun x hx=>hs x (by rw[lC];exact hx)
     rw[show decide ((i:Int)<(l.length:Int))=false by simpa using bz]
     simp only[↓aX,mX,reduceCtorEq,Nat.reduceEqDiff,Nat.reduceLT,Nat.reduceLeDiff,Nat.reduceAdd,Nat.reduceMul,Int.reduceToNat,Int.reduceLE,Int.reduceLT,List.length_map]
     by_cases h1:1≤l.length
     · by_cases h2:l.length≤5
       · simp only[↓aX,mX,reduceCtorEq,Nat.reduceEqDiff,Nat.reduceLT,Nat.reduceLeDiff,Nat.reduceAdd,Nat.reduceMul,Int.reduceToNat,Int.reduceLE,Int.reduceLT,show((l.length:Int)>0) by omega,decide_true,List.length_map,show((l.length:Int)<6) by omega,aT,dN,h1,h2,Bool.and_true]
       · simp only[↓aX,mX,reduceCtorEq,Nat.reduceEqDiff,Nat.reduceLT,Nat.reduceLeDiff,Nat.reduceAdd,Nat.reduceMul,Int.reduceToNat,Int.reduceLE,Int.reduceLT,show((l.length:Int)>0) by omega,decide_true,List.length_map,show ¬((l.length:Int)<6) by omega,aT,dN,h1,h2,decide_false,Bool.and_false]
     · simp only[↓aX,mX,reduceCtorEq,Nat.reduceEqDiff,Nat.reduceLT,Nat.reduceLeDiff,Nat.reduceAdd,Nat.reduceMul,Int.reduceToNat,Int.reduceLE,Int.reduceLT,show ¬((l.length:Int)>0) by omega,decide_false,aT,dN,h1,Bool.and_false,Bool.false_and]
theorem lA {d:Doc} {k:Nat} {x:Node} (h:d[k]?=some x) (nm:Bs):dE d nm k=ey x.text x.s nm:=by simp only[dE,h]
theorem sY {d:Doc} {k:Nat} {x:Node} (h:d[k]?=some x) (p:Int):jq d p k=(x.parent==p):=by simp only[jq,h]
def gT (d:Doc) (p:Int) (nm:Bs) (n:Nat):Nat:=((List.range n).filter fun k=>jq d p k&&dE d nm k).length
theorem nv (d:Doc) (p:Int) (nm:Bs) (n:Nat):gT d p nm (n+1)=gT d p nm n+if jq d p n&&dE d nm n then 1 else 0:=by
 simp only[gT,List.range_succ,List.filter_append,List.length_append];cases h:(jq d p n&&dE d nm n)<;>simp[h]
theorem qe (d:Doc) (p:Int) (nm:Bs) (n:Nat):gT d p nm n≤n:=by
 have:=List.length_filter_le (fun k=>jq d p k&&dE d nm k) (List.range n);simpa[gT] using this
theorem sZ (d:Doc) (p:Int) (nm:Bs) (n:Nat):jH d p nm n=gT d p nm (n+1):=rfl
structure J3 (n:Nat) where
 k:Nat
 hk:k≤n+1
def eS (bZ bm:Nat):AC:=
(.seq (.au [⟨some 3,none,.box (.t 0)⟩,⟨some 6,none,.af (.c (.bool false))⟩]) (.seq (.au [⟨some 11,none,.af (.t 2)⟩,⟨some 12,none,.af (.t 2)⟩,⟨some 13,none,.len (.t 12)⟩,⟨some 14,none,.bin .sub (.t 13) (.c (.int .i64 1))⟩,⟨some 15,none,.fH (.t 11) (.t 14) 2⟩,⟨some 16,none,.load (some 2) (.t 15)⟩,⟨some 7,none,.new [(.str []),(.int .i64 0)]⟩,⟨none,none,.store 2 (.t 7) (.t 16)⟩]) (.seq (.au [⟨some 17,none,.bU (.t 3) 0⟩,⟨some 18,none,.load none (.t 17)⟩,⟨some 19,none,.af (.t 1)⟩,⟨some 20,none,.fH (.t 18) (.t 19) 5⟩,⟨some 21,none,.load (some 5) (.t 20)⟩,⟨some 8,none,.new [(.bool false),(.str []),.nil0,(.int .i64 0),.nil0]⟩,⟨none,none,.store 5 (.t 8) (.t 21)⟩]) (.seq (.seq (.au [⟨some 22,none,.load (some 5) (.t 8)⟩,⟨some 23,none,.bU (.t 7) 0⟩,⟨some 24,none,.load none (.t 23)⟩,⟨some 25,none,.call bZ [(.t 22),(.t 24)]⟩,⟨some 26,none,.not (.t 25)⟩]) (.cond (.t 26) (.seq (.au [⟨some 6,none,.af (.c (.bool false))⟩]) .ret) .skip)) (.seq (.seq (.fY [⟨some 27,none,.bU (.t 8) 3⟩,⟨some 28,none,.load none (.t 27)⟩,⟨some 29,none,.bin .lss (.t 28) (.c (.int .i64 0))⟩,⟨some 30,none,.af (.t 2)⟩,⟨some 31,none,.len (.t 30)⟩,⟨some 32,none,.bin .eql (.t 31) (.c (.int .i64 1))⟩,⟨some 33,none,.xa true (.t 29) (.t 32)⟩,⟨some 34,none,.af (.t 33)⟩,⟨some 35,(some (34,false)),(.bU (.t 8) 3)⟩,⟨some 36,(some (34,false)),(.load none (.t 35))⟩,⟨some 37,(some (34,false)),(.bin .geq (.t 36) (.c (.int .i64 0)))⟩,⟨some 38,(some (34,false)),(.af (.t 37))⟩,⟨some 39,(some (38,true)),(.load (some 1) (.t 3))⟩,⟨some 40,(some (38,true)),(.bU (.t 8) 3)⟩,⟨some 41,(some (38,true)),(.load none (.t 40))⟩,⟨some 42,(some (38,true)),(.af (.t 2))⟩,⟨some 43,(some (38,true)),(.af (.t 2))⟩,⟨some 44,(some (38,true)),(.len (.t 43))⟩,⟨some 45,(some (38,true)),(.bin .sub (.t 44) (.c (.int .i64 1)))⟩,⟨some 46,(some (38,true)),(.uM (.t 42) none (some (.t 45)) none 2)⟩,⟨some 47,(some (38,true)),(.call bm [(.t 39),(.t 41),(.t 46)])⟩,⟨some 48,(some (38,true)),(.not (.t 47))⟩,⟨some 49,(some (34,false)),(.pick (.t 38) (.t 48) (.c (.bool false)))⟩,⟨some 50,none,.pick (.t 34) (.c (.bool true)) (.t 49)⟩] [[],[0],[1],[],[3],[4],[2,5],[6],[7],[8,7],[9,7],[10,7,7],[11],[11],[13,11],[11],[11],[16,11],[17,11],[15,18,11],[12,14,19,11,11],[20,11],[11,21,7],[7,22]] [.no,.rw [.loc 8] [],.no,.no,.no,.no,.no,.no,.no,.rw [.loc 8] [],.no,.no,.rw [.loc 3] [],.no,.rw [.loc 8] [],.no,.no,.no,.no,.no,.no,.no,.no,.no]) (.cond (.t 50) (.seq (.au [⟨some 6,none,.af (.c (.bool false))⟩]) .ret) .skip)) (.seq (.au [⟨some 9,none,.af (.c (.int .i64 0))⟩]) (.seq (.seq (.au [⟨some 10,none,.af (.c (.int .i64 0))⟩]) (.block 0 (.loop (.seq (.seq (.au [⟨some 51,none,.af (.t 10)⟩,⟨some 52,none,.af (.t 1)⟩,⟨some 53,none,.bin .leq (.t 51) (.t 52)⟩]) (.cond (.t 53) .skip (.exit 0))) (.seq (.block 1 (.seq (.fY [⟨some 56,none,.bU (.t 3) 0⟩,⟨some 57,none,.load none (.t 56)⟩,⟨some 58,none,.af (.t 10)⟩,⟨some 59,none,.fH (.t 57) (.t 58) 5⟩,⟨some 60,none,.bU (.t 59) 3⟩,⟨some 61,none,.load none (.t 60)⟩,⟨some 62,none,.bU (.t 8) 3⟩,⟨some 63,none,.load none (.t 62)⟩,⟨some 64,none,.bin .eql (.t 61) (.t 63)⟩,⟨some 65,none,.af (.t 64)⟩,⟨some 66,(some (65,true)),(.bU (.t 3) 0)⟩,⟨some 67,(some (65,true)),(.load none (.t 66))⟩,⟨some 68,(some (65,true)),(.af (.t 10))⟩,⟨some 69,(some (65,true)),(.fH (.t 67) (.t 68) 5)⟩,⟨some 70,(some (65,true)),(.load (some 5) (.t 69))⟩,⟨some 71,(some (65,true)),(.bU (.t 7) 0)⟩,⟨some 72,(some (65,true)),(.load none (.t 71))⟩,⟨some 73,(some (65,true)),(.call bZ [(.t 70),(.t 72)])⟩,⟨some 74,none,.pick (.t 65) (.t 73) (.c (.bool false))⟩] [[],[0],[],[1,2],[3],[4],[],[6],[5,7],[8],[9],[10,9],[9],[11,12,9],[13,9],[9],[15,9],[14,16,9,9],[9,17]] [.no,.rw [.loc 3] [],.no,.no,.no,.no,.no,.rw [.loc 8] [],.no,.no,.no,.rw [.loc 3] [],.no,.no,.no,.no,.rw [.loc 7] [],.no,.no]) (.cond (.t 74) (.au [⟨some 75,none,.af (.t 9)⟩,⟨some 76,none,.bin .add (.t 75) (.c (.int .i64 1))⟩,⟨some 9,none,.af (.t 76)⟩]) .skip))) (.au [⟨some 54,none,.af (.t 10)⟩,⟨some 55,none,.bin .add (.t 54) (.c (.int .i64 1))⟩,⟨some 10,none,.af (.t 55)⟩])))))) (.seq (.au [⟨some 77,none,.bU (.t 7) 1⟩,⟨some 78,none,.load none (.t 77)⟩,⟨some 79,none,.bin .eql (.t 78) (.c (.int .i64 0))⟩,⟨some 80,none,.af (.t 79)⟩,⟨some 81,(some (80,false)),(.bU (.t 7) 1)⟩,⟨some 82,(some (80,false)),(.load none (.t 81))⟩,⟨some 83,(some (80,false)),(.af (.t 9))⟩,⟨some 84,(some (80,false)),(.bin .eql (.t 82) (.t 83))⟩,⟨some 85,none,.pick (.t 80) (.c (.bool true)) (.t 84)⟩,⟨some 6,none,.af (.t 85)⟩]) .ret))))))))
theorem zM {bm bZ : Nat} (hF : aB P G bm = some (86,[(none,6)],(eS bZ bm).bare)) (d : Doc) (hd : gO d ≤ B) (l : List Step) (s : Step) (hl : l.length ≤ 1000) (n : Nat) (x : Node) (hx : d[n]? = some x)
   (LF:x.parent<(n:Int)) (hC:∀y∈d,ai P G bZ [y.av,.str s.name] (.bool (ey y.text y.s s.name)))
   (hR:l≠[]→∀m:Nat,m<n→ai P G bm [Doc.av d,.int .i64 (m:Int),.list (l.map Step.iv)] (.bool (bn d l.reverse m))) :
   ai P G bm [Doc.av d,.int .i64 (n:Int),.list ((l++[s]).map Step.iv)] (.bool (bn d (l++[s]).reverse n)):=by
 refine aC hF (by simp) (by simp[ah,AV.ar,Doc.av]) (by simp[AV.ar]) ?_
 have rn:B=1073741824:=rfl
 have vo:=fk d
 have Hs:n<d.length:=(List.getElem?_eq_some_iff.1 hx).1
 unfold eS
 simp only[Node.av] at hC
 have xD:((l++[s]).map Step.iv).length=l.length+1:=by simp
 have G6:((l++[s]).map Step.iv)[l.length]?=some s.iv:=by simp
 have I8:IntKind.i64.wrap (((l.length+1:Nat):Int) - 1)=(l.length:Int):=by rw[wrap64 (by omega) (by omega)];omega
 have yP:((l++[s]).map Step.iv).take l.length=l.map Step.iv:=by simp
 have hm:bn d (l++[s]).reverse n=(ey x.text x.s s.name&&((if x.parent<0 then l.isEmpty else(!l.isEmpty&&bn d l.reverse x.parent.toNat))&&(s.n==0||s.n==((jH d x.parent s.name n:Nat):Int)))):=by
   rw[List.reverse_append]
   show bn d (s::l.reverse) n=_
   rw[iA hx rfl,lA hx]
   simp
 simp only[↓aX,mX,reduceCtorEq,Nat.reduceEqDiff,Nat.reduceLT,Nat.reduceLeDiff,Nat.reduceAdd,Nat.reduceMul,Int.reduceToNat,Int.reduceLE,Int.reduceLT,Doc.av,xD,I8,G6,p_,Step.aU,Step.cs,Doc.er hx,gJ,Node.aU,Node.cs,Int.natCast_nonneg,Int.toNat_natCast]
 refine aj (hC x (List.mem_of_getElem? hx)) ?_
 cases hf:ey x.text x.s s.name with
 |false=>simp only[↓aX,mX,reduceCtorEq,Nat.reduceEqDiff,Nat.reduceLT,Nat.reduceLeDiff,Nat.reduceAdd,Nat.reduceMul,Int.reduceToNat,Int.reduceLE,Int.reduceLT,Bool.not_false,hm,hf,Bool.false_and]
 |true=>
 obtain⟨b,hb⟩:∃b,((((l++[s]).length:Nat):Int)==1)=b:=⟨_,rfl⟩
 have Cm:l.isEmpty=b:=by rw[←hb];cases l<;>simp<;>omega
 simp only[↓aX,mX,reduceCtorEq,Nat.reduceEqDiff,Nat.reduceLT,Nat.reduceLeDiff,Nat.reduceAdd,Nat.reduceMul,Int.reduceToNat,Int.reduceLE,Int.reduceLT,Bool.not_true,List.length_map,hb]
 by_cases hp:x.parent<0
 · have hq:decide (0≤x.parent)=false:=by simpa using hp
   have CF:(if x.parent<0 then l.isEmpty else(!l.isEmpty&&bn d l.reverse x.parent.toNat))=b:=by rw[if_pos hp,Cm]
   cases b with
   |true=>
     simp only[↓aX,mX,reduceCtorEq,Nat.reduceEqDiff,Nat.reduceLT,Nat.reduceLeDiff,Nat.reduceAdd,Nat.reduceMul,Int.reduceToNat,Int.reduceLE,Int.reduceLT,hp,decide_true,List.length_map,hb,Bool.not_true,Bool.not_false,ge_iff_le,show(true==false)=false from rfl,show(false==true)=false from rfl,beq_self_eq_true,hq]
     refine⟨rfl,?_⟩
     refine eo (σ:=J3 n) [.loc 3,.loc 7,.loc 8] (fun q=>[(1,.int .i64 (n:Int)),(3,.ptr (.loc 3) 1 0 0),(7,.ptr (.loc 7) 2 0 0),(8,.ptr (.loc 8) 5 0 0),(9,.int .i64 (gT d x.parent s.name q.k)),(10,.int .i64 q.k)])
       (fun _=>[(.loc 3,⟨1,[[.list (d.map Node.iv)]]⟩),(.loc 7,⟨2,[[.str s.name,.int .i64 s.n]]⟩),(.loc 8,⟨5,[[.bool x.text,.str x.s,.list (eh x.attrs),.int .i64 x.parent,.list (x.kids.map bl)]]⟩)]) (fun q=>n+1 - q.k) ⟨0,by omega⟩ (fun _=>rfl) (by decide) (by simp[ah,AV.ar]) (by simp[ah,AV.ar]) ?_ ?_
     · refine dT ?_ ⟨rfl,rfl,rfl,rfl,rfl,rfl,trivial⟩ ⟨rfl,rfl,rfl,trivial⟩
       intro l qx hu
       cases l<;>simp_all[Lb.fresh,ae,Hp.none]
     · rintro⟨k,hk⟩
       simp only[↓aX,mX,reduceCtorEq,Nat.reduceEqDiff,Nat.reduceLT,Nat.reduceLeDiff,Nat.reduceAdd,Nat.reduceMul,Int.reduceToNat,Int.reduceLE,Int.reduceLT,cb,bO]
       by_cases bz:k≤n
       · obtain⟨y,hy⟩:∃y,d[k]?=some y:=⟨_,List.getElem?_eq_getElem (by omega)⟩
         have ku:IntKind.i64.wrap ((k:Int)+1)=((k+1:Nat):Int):=wrap64 (by omega) (by omega)
         have LG:=qe d x.parent s.name k
         have yX:IntKind.i64.wrap ((gT d x.parent s.name k:Int)+1)=((gT d x.parent s.name k+1:Nat):Int):=wrap64 (by omega) (by omega)
         have pc:=nv d x.parent s.name k
         rw[sY hy,lA hy] at pc
         have Jk:=hC y (List.mem_of_getElem? hy)
         simp only[↓aX,mX,reduceCtorEq,Nat.reduceEqDiff,Nat.reduceLT,Nat.reduceLeDiff,Nat.reduceAdd,Nat.reduceMul,Int.reduceToNat,Int.reduceLE,Int.reduceLT,show decide ((k:Int)≤(n:Int))=true by simpa using bz,Doc.er hy,gJ,Node.aU,Node.cs,Int.natCast_nonneg,Int.toNat_natCast]
         cases e1:(y.parent==x.parent) with
         |false=>
           rw[e1] at pc
           simp only[↓aX,mX,reduceCtorEq,Nat.reduceEqDiff,Nat.reduceLT,Nat.reduceLeDiff,Nat.reduceAdd,Nat.reduceMul,Int.reduceToNat,Int.reduceLE,Int.reduceLT,ku]
           refine⟨rfl,⟨k+1,by omega⟩,by simp only;omega,dT ?_ ⟨rfl,rfl,rfl,rfl,by simp[pc,put],rfl,trivial⟩ ⟨rfl,rfl,rfl,trivial⟩⟩
           intro l qx hu
           cases l<;>simp_all[Lb.fresh,ae,Hp.none]
         |true=>
           simp only[↓aX,mX,reduceCtorEq,Nat.reduceEqDiff,Nat.reduceLT,Nat.reduceLeDiff,Nat.reduceAdd,Nat.reduceMul,Int.reduceToNat,Int.reduceLE,Int.reduceLT,Doc.er hy,gJ,Node.aU,Node.cs,Int.natCast_nonneg,Int.toNat_natCast]
           refine⟨rfl,ik Jk ?_⟩
           cases e2:ey y.text y.s s.name with
           |false=>
             rw[e1,e2] at pc
             simp only[↓aX,mX,reduceCtorEq,Nat.reduceEqDiff,Nat.reduceLT,Nat.reduceLeDiff,Nat.reduceAdd,Nat.reduceMul,Int.reduceToNat,Int.reduceLE,Int.reduceLT,ku]
             refine⟨⟨k+1,by omega⟩,by simp only;omega,dT ?_ ⟨rfl,rfl,rfl,rfl,by simp[pc,put],rfl,trivial⟩ ⟨rfl,rfl,rfl,trivial⟩⟩
             intro l qx hu
             cases l<;>simp_all[Lb.fresh,ae,Hp.none]
           |true=>
             rw[e1,e2] at pc
             simp only[↓aX,mX,reduceCtorEq,Nat.reduceEqDiff,Nat.reduceLT,Nat.reduceLeDiff,Nat.reduceAdd,Nat.reduceMul,Int.reduceToNat,Int.reduceLE,Int.reduceLT,ku,yX]
             refine⟨⟨k+1,by omega⟩,by simp only;omega,dT ?_ ⟨rfl,rfl,rfl,rfl,by simp[pc,put],rfl,trivial⟩ ⟨rfl,rfl,rfl,trivial⟩⟩
             intro l qx hu
             cases l<;>simp_all[Lb.fresh,ae,Hp.none]
       · have zW:k=n+1:=by omega
         subst zW
         simp only[↓aX,mX,reduceCtorEq,Nat.reduceEqDiff,Nat.reduceLT,Nat.reduceLeDiff,Nat.reduceAdd,Nat.reduceMul,Int.reduceToNat,Int.reduceLE,Int.reduceLT,show decide (((n+1:Nat):Int)≤(n:Int))=false by simp;omega]
         rw[hm,hf,CF,sZ]
         cases e3:(s.n==0) with
         |true=>simp only[↓aX,mX,reduceCtorEq,Nat.reduceEqDiff,Nat.reduceLT,Nat.reduceLeDiff,Nat.reduceAdd,Nat.reduceMul,Int.reduceToNat,Int.reduceLE,Int.reduceLT,Bool.not_true,Bool.true_or,Bool.and_self]
         |false=>simp only[↓aX,mX,reduceCtorEq,Nat.reduceEqDiff,Nat.reduceLT,Nat.reduceLeDiff,Nat.reduceAdd,Nat.reduceMul,Int.reduceToNat,Int.reduceLE,Int.reduceLT,Bool.not_false,Bool.true_and,Bool.false_or]
   |false=>
     simp only[↓aX,mX,reduceCtorEq,Nat.reduceEqDiff,Nat.reduceLT,Nat.reduceLeDiff,Nat.reduceAdd,Nat.reduceMul,Int.reduceToNat,Int.reduceLE,Int.reduceLT,hp,decide_true,List.length_map,hb,Bool.not_true,Bool.not_false,ge_iff_le,show(true==false)=false from rfl,show(false==true)=false from rfl,beq_self_eq_true,hq]
     exact⟨rfl,by rw[hm,CF];simp⟩
 · have hq:decide (0≤x.parent)=true:=by simpa using hp
   obtain⟨m,He⟩:=Int.eq_ofNat_of_zero_le (show 0≤x.parent by omega)
   cases b with
   |true=>
     have CF:(if x.parent<0 then l.isEmpty else(!l.isEmpty&&bn d l.reverse x.parent.toNat))=false:=by rw[if_neg hp,Cm];rfl
     simp only[↓aX,mX,reduceCtorEq,Nat.reduceEqDiff,Nat.reduceLT,Nat.reduceLeDiff,Nat.reduceAdd,Nat.reduceMul,Int.reduceToNat,Int.reduceLE,Int.reduceLT,hp,decide_false,List.length_map,hb,Bool.not_true,Bool.not_false,ge_iff_le,show(true==false)=false from rfl,show(false==true)=false from rfl,beq_self_eq_true,hq]
     exact⟨rfl,by rw[hm,CF];simp⟩
   |false=>
     have hr:=hR (by intro e;simp[e] at Cm) m (by omega)
     have CF:(if x.parent<0 then l.isEmpty else(!l.isEmpty&&bn d l.reverse x.parent.toNat))=bn d l.reverse m:=by rw[if_neg hp,Cm,He];rfl
     rw[Doc.av,←He] at hr
     simp only[↓aX,mX,reduceCtorEq,Nat.reduceEqDiff,Nat.reduceLT,Nat.reduceLeDiff,Nat.reduceAdd,Nat.reduceMul,Int.reduceToNat,Int.reduceLE,Int.reduceLT,hp,decide_false,List.length_map,hb,Bool.not_true,Bool.not_false,ge_iff_le,show(true==false)=false from rfl,show(false==true)=false from rfl,beq_self_eq_true,hq,show IntKind.i64.wrap ((((l++[s]).length:Nat):Int) - 1)=(l.length:Int) by rw[List.length_append];exact I8,qk,j4,kZ,D0,p_,Int.natCast_nonneg,Int.toNat_natCast,show l.length≤(l++[s]).length by simp,and_self,List.drop_zero,yP]
     refine⟨rfl,ik hr ?_⟩
     cases Hl:bn d l.reverse m with
     |false=>
       simp only[↓aX,mX,reduceCtorEq,Nat.reduceEqDiff,Nat.reduceLT,Nat.reduceLeDiff,Nat.reduceAdd,Nat.reduceMul,Int.reduceToNat,Int.reduceLE,Int.reduceLT,hp,decide_false,List.length_map,hb,hq,Bool.not_true,Bool.not_false,ge_iff_le,show(true==false)=false from rfl,show(false==true)=false from rfl,beq_self_eq_true]
       rw[hm,CF,Hl];simp
     |true=>
       rw[Hl] at CF
       simp only[↓aX,mX,reduceCtorEq,Nat.reduceEqDiff,Nat.reduceLT,Nat.reduceLeDiff,Nat.reduceAdd,Nat.reduceMul,Int.reduceToNat,Int.reduceLE,Int.reduceLT,hp,decide_false,List.length_map,hb,hq,Bool.not_true,Bool.not_false,ge_iff_le,show(true==false)=false from rfl,show(false==true)=false from rfl,beq_self_eq_true]
       refine eo (σ:=J3 n) [.loc 3,.loc 7,.loc 8] (fun q=>[(1,.int .i64 (n:Int)),(3,.ptr (.loc 3) 1 0 0),(7,.ptr (.loc 7) 2 0 0),(8,.ptr (.loc 8) 5 0 0),(9,.int .i64 (gT d x.parent s.name q.k)),(10,.int .i64 q.k)])
         (fun _=>[(.loc 3,⟨1,[[.list (d.map Node.iv)]]⟩),(.loc 7,⟨2,[[.str s.name,.int .i64 s.n]]⟩),(.loc 8,⟨5,[[.bool x.text,.str x.s,.list (eh x.attrs),.int .i64 x.parent,.list (x.kids.map bl)]]⟩)]) (fun q=>n+1 - q.k) ⟨0,by omega⟩ (fun _=>rfl) (by decide) (by simp[ah,AV.ar]) (by simp[ah,AV.ar]) ?_ ?_
       · refine dT ?_ ⟨rfl,rfl,rfl,rfl,rfl,rfl,trivial⟩ ⟨rfl,rfl,rfl,trivial⟩
         intro l qx hu
         cases l<;>simp_all[Lb.fresh,ae,Hp.none]
       · rintro⟨k,hk⟩
         simp only[↓aX,mX,reduceCtorEq,Nat.reduceEqDiff,Nat.reduceLT,Nat.reduceLeDiff,Nat.reduceAdd,Nat.reduceMul,Int.reduceToNat,Int.reduceLE,Int.reduceLT,cb,bO]
         by_cases bz:k≤n
         · obtain⟨y,hy⟩:∃y,d[k]?=some y:=⟨_,List.getElem?_eq_getElem (by omega)⟩
           have ku:IntKind.i64.wrap ((k:Int)+1)=((k+1:Nat):Int):=wrap64 (by omega) (by omega)
           have LG:=qe d x.parent s.name k
           have yX:IntKind.i64.wrap ((gT d x.parent s.name k:Int)+1)=((gT d x.parent s.name k+1:Nat):Int):=wrap64 (by omega) (by omega)
           have pc:=nv d x.parent s.name k
           rw[sY hy,lA hy] at pc
           have Jk:=hC y (List.mem_of_getElem? hy)
           simp only[↓aX,mX,reduceCtorEq,Nat.reduceEqDiff,Nat.reduceLT,Nat.reduceLeDiff,Nat.reduceAdd,Nat.reduceMul,Int.reduceToNat,Int.reduceLE,Int.reduceLT,show decide ((k:Int)≤(n:Int))=true by simpa using bz,Doc.er hy,gJ,Node.aU,Node.cs,Int.natCast_nonneg,Int.toNat_natCast]
           cases e1:(y.parent==x.parent) with
           |false=>
             rw[e1] at pc
             simp only[↓aX,mX,reduceCtorEq,Nat.reduceEqDiff,Nat.reduceLT,Nat.reduceLeDiff,Nat.reduceAdd,Nat.reduceMul,Int.reduceToNat,Int.reduceLE,Int.reduceLT,ku]
             refine⟨rfl,⟨k+1,by omega⟩,by simp only;omega,dT ?_ ⟨rfl,rfl,rfl,rfl,by simp[pc,put],rfl,trivial⟩ ⟨rfl,rfl,rfl,trivial⟩⟩
             intro l qx hu
             cases l<;>simp_all[Lb.fresh,ae,Hp.none]
           |true=>
             simp only[↓aX,mX,reduceCtorEq,Nat.reduceEqDiff,Nat.reduceLT,Nat.reduceLeDiff,Nat.reduceAdd,Nat.reduceMul,Int.reduceToNat,Int.reduceLE,Int.reduceLT,Doc.er hy,gJ,Node.aU,Node.cs,Int.natCast_nonneg,Int.toNat_natCast]
             refine⟨rfl,ik Jk ?_⟩
             cases e2:ey y.text y.s s.name with
             |false=>
               rw[e1,e2] at pc
               simp only[↓aX,mX,reduceCtorEq,Nat.reduceEqDiff,Nat.reduceLT,Nat.reduceLeDiff,Nat.reduceAdd,Nat.reduceMul,Int.reduceToNat,Int.reduceLE,Int.reduceLT,ku]
               refine⟨⟨k+1,by omega⟩,by simp only;omega,dT ?_ ⟨rfl,rfl,rfl,rfl,by simp[pc,put],rfl,trivial⟩ ⟨rfl,rfl,rfl,trivial⟩⟩
               intro l qx hu
               cases l<;>simp_all[Lb.fresh,ae,Hp.none]
             |true=>
               rw[e1,e2] at pc
               simp only[↓aX,mX,reduceCtorEq,Nat.reduceEqDiff,Nat.reduceLT,Nat.reduceLeDiff,Nat.reduceAdd,Nat.reduceMul,Int.reduceToNat,Int.reduceLE,Int.reduceLT,ku,yX]
               refine⟨⟨k+1,by omega⟩,by simp only;omega,dT ?_ ⟨rfl,rfl,rfl,rfl,by simp[pc,put],rfl,trivial⟩ ⟨rfl,rfl,rfl,trivial⟩⟩
               intro l qx hu
               cases l<;>simp_all[Lb.fresh,ae,Hp.none]
         · have zW:k=n+1:=by omega
           subst zW
           simp only[↓aX,mX,reduceCtorEq,Nat.reduceEqDiff,Nat.reduceLT,Nat.reduceLeDiff,Nat.reduceAdd,Nat.reduceMul,Int.reduceToNat,Int.reduceLE,Int.reduceLT,show decide (((n+1:Nat):Int)≤(n:Int))=false by simp;omega]
           rw[hm,hf,CF,sZ]
           cases e3:(s.n==0) with
           |true=>simp only[↓aX,mX,reduceCtorEq,Nat.reduceEqDiff,Nat.reduceLT,Nat.reduceLeDiff,Nat.reduceAdd,Nat.reduceMul,Int.reduceToNat,Int.reduceLE,Int.reduceLT,Bool.not_true,Bool.true_or,Bool.and_self]
           |false=>simp only[↓aX,mX,reduceCtorEq,Nat.reduceEqDiff,Nat.reduceLT,Nat.reduceLeDiff,Nat.reduceAdd,Nat.reduceMul,Int.reduceToNat,Int.reduceLE,Int.reduceLT,Bool.not_false,Bool.true_and,Bool.false_or]
structure LH (d:Doc) where
 k:Nat
 hk:k≤d.length
def kr (d:Doc) (l:List Step) (k:Nat):List Int:=((List.range k).filter (bn d l.reverse)).map fun k:Nat=>(k:Int)
theorem wZ (d:Doc) (l:List Step) (k:Nat):kr d l (k+1)=kr d l k++if bn d l.reverse k then [(k:Int)] else []:=by
 simp only[kr,List.range_succ,List.filter_append,List.map_append];cases h:bn d l.reverse k<;>simp[h]
theorem s3 (d:Doc) (l:List Step) (k:Nat):(kr d l k).length≤k:=by
 have:=List.length_filter_le (bn d l.reverse) (List.range k);simpa[kr] using this
noncomputable def uK (d:Doc) (l:List Step):AV:=if cq d&&aT l then .ei [.list ((kr d l d.length).map bl),.int .i64 0] else .ei [.nil0,.int .i64 1]
def et (ct bj bm:Nat):AC:=
(.seq (.au [⟨some 2,none,.box (.t 0)⟩,⟨some 4,none,.af (.c .nil0)⟩,⟨some 5,none,.af (.c (.int .i64 0))⟩]) (.seq (.seq (.au [⟨some 8,none,.load (some 1) (.t 2)⟩,⟨some 9,none,.call ct [(.t 8)]⟩,⟨some 10,none,.not (.t 9)⟩,⟨some 11,none,.af (.t 10)⟩,⟨some 12,(some (11,false)),(.af (.t 1))⟩,⟨some 13,(some (11,false)),(.call bj [(.t 12)])⟩,⟨some 14,(some (11,false)),(.not (.t 13))⟩,⟨some 15,none,.pick (.t 11) (.c (.bool true)) (.t 14)⟩]) (.cond (.t 15) (.seq (.au [⟨some 4,none,.af (.c .nil0)⟩,⟨some 5,none,.af (.c (.int .i64 1))⟩]) .ret) .skip)) (.seq (.au [⟨some 6,none,.af (.c .nil0)⟩]) (.gh (.own 6 1) (.seq (.seq (.au [⟨some 16,none,.bU (.t 2) 0⟩,⟨some 17,none,.load none (.t 16)⟩,⟨some 18,none,.len (.t 17)⟩,⟨some 19,none,.af (.c (.int .i64 0))⟩]) (.block 0 (.loop (.seq (.au [⟨some 20,none,.bin .lss (.t 19) (.t 18)⟩]) (.seq (.cond (.t 20) .skip (.exit 0)) (.seq (.block 1 (.seq (.au [⟨some 21,none,.af (.t 19)⟩,⟨some 7,none,.af (.t 21)⟩]) (.seq (.au [⟨some 22,none,.load (some 1) (.t 2)⟩,⟨some 23,none,.af (.t 7)⟩,⟨some 24,none,.af (.t 1)⟩,⟨some 25,none,.call bm [(.t 22),(.t 23),(.t 24)]⟩]) (.cond (.t 25) (.au [⟨some 26,none,.af (.t 6)⟩,⟨some 27,none,.af (.t 7)⟩,⟨some 28,none,.lits 1 1 [(.int .i64 0)] [(0,(.t 27))]⟩,⟨some 29,none,.app (.t 26) (.t 28) 1 8⟩,⟨some 6,none,.af (.t 29)⟩]) .skip)))) (.au [⟨some 30,none,.bin .add (.t 19) (.c (.int .i64 1))⟩,⟨some 19,none,.af (.t 30)⟩]))))))) (.gh (.xQ (.loc 6) 6) (.seq (.au [⟨some 31,none,.af (.t 6)⟩,⟨some 4,none,.af (.t 31)⟩,⟨some 5,none,.af (.c (.int .i64 0))⟩]) .ret)))))))
theorem w5 {b5 ct bj bm:Nat} (hF:aB P G b5=some (32,[(none,4),(none,5)],(et ct bj bm).bare)) (d:Doc) (hd:gO d≤B) (l:List Step)
  (hD:ai P G ct [Doc.av d] (.bool (cq d))) (hP:ai P G bj [.list (l.map Step.iv)] (.bool (aT l)))
  (hM:cq d=true→aT l=true→∀m:Nat,m<d.length→ai P G bm [Doc.av d,.int .i64 (m:Int),.list (l.map Step.iv)] (.bool (bn d l.reverse m))) :
  ai P G b5 [Doc.av d,.list (l.map Step.iv)] (uK d l):=by
 refine aC hF (by simp) (by simp[ah,AV.ar,Doc.av]) (by unfold uK;split<;>simp[AV.ar,ah]) ?_;have rn:B=1073741824:=rfl;have vo:=fk d;unfold et;simp only[Doc.av] at hD;simp only[↓aX,mX,reduceCtorEq,Nat.reduceEqDiff,Nat.reduceLT,Nat.reduceLeDiff,Nat.reduceAdd,Nat.reduceMul,Int.reduceToNat,Int.reduceLE,Int.reduceLT,Doc.av];refine aj hD ?_;cases h1:cq d with
 |false=>simp only[↓aX,mX,reduceCtorEq,Nat.reduceEqDiff,Nat.reduceLT,Nat.reduceLeDiff,Nat.reduceAdd,Nat.reduceMul,Int.reduceToNat,Int.reduceLE,Int.reduceLT,Bool.not_false,↓df,uK,h1,Bool.false_and,Bool.false_eq_true]
 |true=>
 simp only[↓aX,mX,reduceCtorEq,Nat.reduceEqDiff,Nat.reduceLT,Nat.reduceLeDiff,Nat.reduceAdd,Nat.reduceMul,Int.reduceToNat,Int.reduceLE,Int.reduceLT,Bool.not_true];refine aj hP ?_;cases h2:aT l with
 |false=>simp only[↓aX,mX,reduceCtorEq,Nat.reduceEqDiff,Nat.reduceLT,Nat.reduceLeDiff,Nat.reduceAdd,Nat.reduceMul,Int.reduceToNat,Int.reduceLE,Int.reduceLT,Bool.not_false,↓df,uK,h1,h2,Bool.and_false,Bool.false_eq_true]
 |true=>
 simp only[↓aX,mX,reduceCtorEq,Nat.reduceEqDiff,Nat.reduceLT,Nat.reduceLeDiff,Nat.reduceAdd,Nat.reduceMul,Int.reduceToNat,Int.reduceLE,Int.reduceLT,Bool.not_true,List.length_map]
 refine dA (σ:=LH d) (fun _=>[.loc 2,.loc 6]) (fun _ _=>false)
  (fun q=>[(1,.list (l.map Step.iv)),(2,.ptr (.loc 2) 1 0 0),(6,.sl (.loc 6) 1 0 (kr d l q.k).length),(18,.int .i64 d.length),(19,.int .i64 q.k)])
  (fun q=>[(.loc 2,⟨1,[[.list (d.map Node.iv)]]⟩),(.loc 6,⟨1,aG ((kr d l q.k).map bl)⟩)]) (fun q=>d.length - q.k) ⟨0,by omega⟩ (fun _=>rfl) (fun q=>by simp[ah,AV.ar]) ?_ ⟨[],?_⟩ ?_
 ·intro q w hw cs bx z hz;simp only[List.mem_cons,List.not_mem_nil,or_false] at hw;rcases hw with rfl|rfl
  ·simp only[List.mem_singleton] at bx;subst bx;simp[ah,AV.ar] at hz
  ·rw[bY bx] at hz;simp at hz
 ·refine⟨?_,?_,?_,by simp[bq],fun l _=>⟨id,fun _=>rfl⟩⟩
  ·intro l hf hu;exfalso;apply hu;cases l<;>simp_all[Lb.fresh,ae,Hp.none]
  ·simp[iq,bq,bQ,put,kr,bE]
  ·simp[jW,bq,ae,bX,bT,bQ,aG,kr]
 ·rintro⟨k,hk⟩;rw[iu];have hr:∀(ρ:Lb→Lb) (xs:List IV),bX ρ ⟨1,aG xs⟩=⟨1,aG xs⟩:=fun ρ xs=>cr _ _ _
  have Hz:=s3 d l k;simp only[↓aX,mX,reduceCtorEq,Nat.reduceEqDiff,Nat.reduceLT,Nat.reduceLeDiff,Nat.reduceAdd,Nat.reduceMul,Int.reduceToNat,Int.reduceLE,Int.reduceLT,cb,bO];by_cases bz:k<d.length
  ·have ku:IntKind.i64.wrap ((k:Int)+1)=((k+1:Nat):Int):=wrap64 (by omega) (by omega);have GP:=hM h1 h2 k bz;simp only[Doc.av] at GP;have pc:=wZ d l k;simp only[↓aX,mX,reduceCtorEq,Nat.reduceEqDiff,Nat.reduceLT,Nat.reduceLeDiff,Nat.reduceAdd,Nat.reduceMul,Int.reduceToNat,Int.reduceLE,Int.reduceLT,show decide ((k:Int)<(d.length:Int))=true by simpa using bz];refine aj GP ?_
   cases hm:bn d l.reverse k with
   |false=>
    rw[hm] at pc;simp only[↓aX,mX,reduceCtorEq,Nat.reduceEqDiff,Nat.reduceLT,Nat.reduceLeDiff,Nat.reduceAdd,Nat.reduceMul,Int.reduceToNat,Int.reduceLE,Int.reduceLT,ku];refine⟨⟨k+1,bz⟩,by simp only;omega,[],?_⟩;refine⟨?_,?_,?_,by simp[bq],fun l _=>⟨id,fun _=>rfl⟩⟩
    ·intro l hf hu;exfalso;apply hu;cases l<;>simp_all[Lb.fresh,ae,Hp.none]
    ·simp[iq,bq,bQ,put,pc]
    ·simp only[jW,hr,pc];simp[bq,ae,bX,bT,bQ]
   |true=>
    rw[hm] at pc;simp only[↓aX,mX,reduceCtorEq,Nat.reduceEqDiff,Nat.reduceLT,Nat.reduceLeDiff,Nat.reduceAdd,Nat.reduceMul,Int.reduceToNat,Int.reduceLE,Int.reduceLT];rw[eX 1 8 29 6 ((kr d l k).map bl) (.int .i64 (k:Int)) (by simp[ae]) (by simp) rfl (by simp[IV.cells]) (by omega) (by omega) (by omega) (by simp[ae,Hp.none])]
    simp only[↓aX,mX,reduceCtorEq,Nat.reduceEqDiff,Nat.reduceLT,Nat.reduceLeDiff,Nat.reduceAdd,Nat.reduceMul,Int.reduceToNat,Int.reduceLE,Int.reduceLT,ku];refine⟨⟨k+1,bz⟩,by simp only;omega,[(.loc 6,.loc 29)],?_⟩;refine⟨?_,?_,?_,by simp[bq],?_⟩
    ·intro l hf hu;exfalso;apply hu;cases l<;>simp_all[Lb.fresh,ae,Hp.none]
    ·simp[iq,bq,bQ,put,pc]
    ·simp only[jW,hr,pc];simp[bq,ae,bX,bT,bQ,bl]
    ·intro l hl;simp only[List.mem_cons,List.not_mem_nil,or_false] at hl;rcases hl with rfl|rfl<;>exact⟨fun _=>rfl,fun h=>by simp[Lb.fresh] at h⟩
  ·have zW:k=d.length:=by omega
   subst zW;simp only[↓aX,mX,reduceCtorEq,Nat.reduceEqDiff,Nat.reduceLT,Nat.reduceLeDiff,Nat.reduceAdd,Nat.reduceMul,Int.reduceToNat,Int.reduceLE,Int.reduceLT,show decide ((d.length:Int)<(d.length:Int))=false by simp];have yP:List.take (kr d l d.length).length ((kr d l d.length).map bl)=(kr d l d.length).map bl:=List.take_of_length_le (by simp)
   refine⟨1,(kr d l d.length).map bl,0,(kr d l d.length).length,rfl,rfl,by simp,oz _,?_⟩;simp only[↓aX,mX,reduceCtorEq,Nat.reduceEqDiff,Nat.reduceLT,Nat.reduceLeDiff,Nat.reduceAdd,Nat.reduceMul,Int.reduceToNat,Int.reduceLE,Int.reduceLT,List.drop_zero,yP,↓df,uK,h1,h2,Bool.and_self,if_true]
end
end Go.Am

/- The law PathSelects. -/
set_option pp.deepTerms false
set_option pp.deepTerms.threshold 6
namespace Go.Am
open Go Go.RowKit
theorem B4 {S:St} {F:List Lb} {f:Nat} {args cQ:List AV} {sz:Nat} {xs:List IV} {R:AV→List IV→Prop} {H:Hp} {k:AV→Hp→Prop} {u:Tw k} {l:Lb} (h:nI S.P S.G f cQ sz xs R)
  (ha:args=bT (tL l) cQ) (hl:H l= .live ⟨sz,aG xs⟩) (hF:l.iM∉F) {x0:AV} {Jl:List IV} (h0:R x0 Jl) (h1:x0.ar=[]) (h2:Jl.length=xs.length)
  (hk:∀x jZ,R x jZ→x.ar=[]→jZ.length=xs.length→k x (bL H l (.live ⟨sz,aG jZ⟩))):Gi S F f args H k u:=by
 refine⟨fun x H'=>∃jZ,R x jZ∧x.ar=[]∧jZ.length=xs.length∧H'=bL H l (.live ⟨sz,aG jZ⟩),?_,⟨x0,_,Jl,h0,h1,h2,rfl⟩,?_⟩
 ·exact mO (k:=fun x H'=>∃jZ,R x jZ∧x.ar=[]∧jZ.length=xs.length∧H'=bL H l (.live ⟨sz,aG jZ⟩)) (u:= .mk) h ha hl (fun x jZ g1 g2 g3=>⟨jZ,g1,g2,g3,rfl⟩)
 ·rintro x H' ⟨jZ,g1,g2,g3,rfl⟩;refine⟨fun q hq=> ?_,hk x jZ g1 g2 g3⟩;rw[aA _ _ (fun e=>hF (by rw[e] at hq;exact hq))]
noncomputable def nJ (d:Doc) (l:List Step):AV:=if cq d&&aT l then .ei [.list ((bM d l).map bl),.int .i64 0] else .ei [.nil0,.int .i64 1]
theorem vJ {d:Doc} {l:List Step} (h:cq d=true) (hg:aT l=true):kr d l d.length=bM d l:=by
 obtain⟨t,ht,rfl⟩:=fE.1 h;have hl:l≠[]:=by intro e;subst e;simp[aT] at hg
 exact(kY l hl).symm
theorem B5 (d:Doc) (l:List Step):uK d l=nJ d l:=by
 unfold uK nJ;cases h:cq d with
 |false=>rfl
 |true=>
  cases hg:aT l with
  |false=>rfl
  |true=>rw[vJ h hg]
section
variable {P:Program} {G:Nat→Option (List IV)}
theorem w6 {ca cE a7 bF:Nat} (hF:aB P G ca=some (54,[(none,4),(none,5)],(iV cE a7 bF).bare)) (d:Doc) (hd:gO d≤B) (l:List Step) (hl:l.length≤B)
  (hG:ai P G cE [Doc.av d] (.bool (cq d))) (hP:nI P G a7 [.sl (.par 0) 2 0 l.length] 2 (l.map Step.iv) (fun x ys=>x= .bool (aT l)∧ys=l.map Step.iv))
  (hC:∀s∈l,∀ks:List Int,ks.length≤B→(∀n∈ks,0≤n∧n<(d.length:Int))→ai P G bF [Doc.av d,.list (ks.map bl),s.av] (.list ((bu d s 0 ks).map bl))) :
  nI P G ca [Doc.av d,.sl (.par 0) 2 0 l.length] 2 (l.map Step.iv) (fun x ys=>x=nJ d l∧ys=l.map Step.iv):=by
 by_cases hb:cq d=true∧aT l=true
 ·have:=zL hF d hd l hl hb.1 hb.2 hG hP hC;simpa only[nJ,hb.1,hb.2,Bool.and_self,ite_true] using this
 have Jj:aB P G ca=some (54,[(none,4),(none,5)],(fV cE a7 bF).bare):=hF;refine mQ Jj (by simp) (by simp[ah,AV.ar,Doc.av]) ?_;have rn:B=1073741824:=rfl
 have G7:nJ d l= .ei [.nil0,.int .i64 1]:=by
  unfold nJ;rw[if_neg];simpa using hb
 unfold fV;simp only[Doc.av] at hG;simp only[↓aX,mX,reduceCtorEq,Nat.reduceEqDiff,Nat.reduceLT,Nat.reduceLeDiff,Nat.reduceAdd,Nat.reduceMul,Int.reduceToNat,Int.reduceLE,Int.reduceLT,Doc.av,lz];refine aj hG ?_;cases h1:cq d with
 |false=>
  simp only[↓aX,mX,reduceCtorEq,Nat.reduceEqDiff,Nat.reduceLT,Nat.reduceLeDiff,Nat.reduceAdd,Nat.reduceMul,Int.reduceToNat,Int.reduceLE,Int.reduceLT,Bool.not_false,↓df];exact⟨_,⟨G7.symm,rfl⟩,by simp[AV.ar,ah],by simp,by simp[ae]⟩
 |true=>
  simp only[↓aX,mX,reduceCtorEq,Nat.reduceEqDiff,Nat.reduceLT,Nat.reduceLeDiff,Nat.reduceAdd,Nat.reduceMul,Int.reduceToNat,Int.reduceLE,Int.reduceLT,Bool.not_true];refine mO (l:= .par 0) hP (by simp[bT,bQ,tL]) (by simp[ae]) ?_;rintro x jZ ⟨rfl,rfl⟩ _ _;have h2:aT l=false:=by cases h:aT l<;>simp_all
  simp only[↓aX,mX,reduceCtorEq,Nat.reduceEqDiff,Nat.reduceLT,Nat.reduceLeDiff,Nat.reduceAdd,Nat.reduceMul,Int.reduceToNat,Int.reduceLE,Int.reduceLT,h2,Bool.not_false,↓df];exact⟨_,⟨G7.symm,rfl⟩,by simp[AV.ar,ah],by simp,by simp[ae]⟩
def dM (b' ca b5 aP a7 bj bg cw:Nat):AC:=
(.seq (.au [⟨some 2,none,.box (.t 0)⟩,⟨some 4,none,.af (.c (.bool false))⟩]) (.seq (.au [⟨some 10,none,.load (some 1) (.t 2)⟩,⟨some 11,none,.call b' [(.t 10)]⟩,⟨some 5,none,.new [.nil0]⟩,⟨none,none,.store 1 (.t 5) (.t 11)⟩]) (.seq (.fY [⟨some 13,none,.load (some 1) (.t 5)⟩,⟨some 14,none,.af (.t 1)⟩,⟨some 15,none,.app (.c .nil0) (.t 14) 2 24⟩,⟨some 16,none,.call ca [(.t 13),(.t 15)]⟩,⟨some 12,none,.af (.t 16)⟩,⟨some 17,none,.ext (.t 12) 0⟩,⟨some 18,none,.ext (.t 12) 1⟩,⟨some 6,none,.af (.t 17)⟩,⟨some 7,none,.af (.t 18)⟩] [[],[],[1],[0,2,2],[3],[4],[4],[5,3,0,1,2,3,4,5],[6,7,0,1,2,3,4,5,6,7]] [.rw [.loc 5] [],.no,.rw [] [.loc 15],(.ri [.loc 5]),.no,.no,.no,.no,.no]) (.seq (.au [⟨some 20,none,.load (some 1) (.t 2)⟩,⟨some 21,none,.af (.t 1)⟩,⟨some 22,none,.call b5 [(.t 20),(.t 21)]⟩,⟨some 19,none,.af (.t 22)⟩,⟨some 23,none,.ext (.t 19) 0⟩,⟨some 24,none,.ext (.t 19) 1⟩,⟨some 8,none,.af (.t 23)⟩,⟨some 9,none,.af (.t 24)⟩]) (.seq (.au [⟨some 25,none,.af (.t 6)⟩,⟨some 26,none,.af (.t 8)⟩,⟨some 27,none,.call aP [(.t 25),(.t 26)]⟩,⟨some 28,none,.af (.t 27)⟩,⟨some 29,(some (28,true)),(.af (.t 7))⟩,⟨some 30,(some (28,true)),(.af (.t 9))⟩,⟨some 31,(some (28,true)),(.bin .eql (.t 29) (.t 30))⟩,⟨some 32,none,.pick (.t 28) (.t 31) (.c (.bool false))⟩,⟨some 33,none,.af (.t 32)⟩,⟨some 34,(some (33,true)),(.af (.t 1))⟩,⟨some 35,(some (33,true)),(.call a7 [(.t 34)])⟩,⟨some 36,(some (33,true)),(.af (.t 1))⟩,⟨some 37,(some (33,true)),(.call bj [(.t 36)])⟩,⟨some 38,(some (33,true)),(.xa false (.t 35) (.t 37))⟩,⟨some 39,none,.pick (.t 33) (.t 38) (.c (.bool false))⟩,⟨some 40,none,.af (.t 39)⟩,⟨some 41,(some (40,true)),(.load (some 1) (.t 5))⟩,⟨some 42,(some (40,true)),(.load (some 1) (.t 2))⟩,⟨some 43,(some (40,true)),(.call bg [(.t 41),(.t 42)])⟩,⟨some 44,none,.pick (.t 40) (.t 43) (.c (.bool false))⟩,⟨some 45,none,.af (.t 44)⟩,⟨some 46,(some (45,true)),(.call cw [])⟩,⟨some 47,none,.pick (.t 45) (.t 46) (.c (.bool false))⟩,⟨some 4,none,.af (.t 47)⟩]) .ret)))))
theorem qZ {fi b' ca b5 aP a7 bj bg cw:Nat} (hF:aB P G fi=some (48,[(none,4)],(dM b' ca b5 aP a7 bj bg cw).bare)) (d:Doc) (hd:gO d≤B) (l:List Step) (hl:l.length≤2^22)
  (J4:ai P G b' [Doc.av d] (Doc.av d))
  (hS:nI P G ca [Doc.av d,.sl (.par 0) 2 0 l.length] 2 (l.map Step.iv) (fun x ys=>x=nJ d l∧ys=l.map Step.iv))
  (hO:ai P G b5 [Doc.av d,.list (l.map Step.iv)] (nJ d l))
  (hN:∀xs:List Int,xs.length≤B→ai P G aP [.list (xs.map bl),.list (xs.map bl)] (.bool true))
  (hG:ai P G a7 [.list (l.map Step.iv)] (.bool (aT l))) (hI:ai P G bj [.list (l.map Step.iv)] (.bool (aT l)))
  (Jm:ai P G bg [Doc.av d,Doc.av d] (.bool true)) (J5:ai P G cw [] (.bool true)) :
  ai P G fi [Doc.av d,.list (l.map Step.iv)] (.bool true):=by
 refine aC hF (by simp) (by simp[ah,AV.ar,Doc.av]) (by simp[AV.ar]) ?_;have rn:B=1073741824:=rfl;have vo:=fk d;unfold dM;simp only[Doc.av] at J4 hS hO Jm;simp only[↓aX,mX,reduceCtorEq,Nat.reduceEqDiff,Nat.reduceLT,Nat.reduceLeDiff,Nat.reduceAdd,Nat.reduceMul,Int.reduceToNat,Int.reduceLE,Int.reduceLT,Doc.av];refine aj J4 ?_
 simp only[↓aX,mX,reduceCtorEq,Nat.reduceEqDiff,Nat.reduceLT,Nat.reduceLeDiff,Nat.reduceAdd,Nat.reduceMul,Int.reduceToNat,Int.reduceLE,Int.reduceLT];rw[jk 2 24 15 (l.map Step.iv) (p_ _) (zw _) (by rw[List.length_map];omega) (by decide) (by simp[ae,Hp.none])]
 simp only[↓aX,mX,reduceCtorEq,Nat.reduceEqDiff,Nat.reduceLT,Nat.reduceLeDiff,Nat.reduceAdd,Nat.reduceMul,Int.reduceToNat,Int.reduceLE,Int.reduceLT];refine⟨rfl,B4 (l:= .loc 15) hS (by simp[bT,bQ,tL]) (by simp[ae]) (by decide) ⟨rfl,rfl⟩ (by unfold nJ;split<;>simp[AV.ar,ah]) rfl ?_⟩;rintro x jZ ⟨rfl,rfl⟩ _ _
 have uX:(∃xs:List Int,xs.length≤B∧nJ d l= .ei [.list (xs.map bl),.int .i64 0])∨nJ d l= .ei [.nil0,.int .i64 1]:=by
  unfold nJ;cases h1:cq d with
  |false=>exact .inr rfl
  |true=>
   cases h2:aT l with
   |false=>exact .inr rfl
   |true=>exact .inl ⟨_,by have:=s3 d l d.length;rw[←vJ h1 h2];omega,rfl⟩
 have LI:ai P G aP [.nil0,.nil0] (.bool true):=wV (hN [] (by simp)) (by simp[ah,AV.ar]) fun w β H I vs h=>by
  simp only[bo] at h ⊢;obtain⟨v,us,rfl,h1,v2,Mf,rfl,h2,rfl⟩:=h;exact⟨v,_,rfl,sV h1,v2,_,rfl,sV h2,rfl⟩
 rcases uX with⟨xs,hx,e⟩|e
 ·rw[e] at hO ⊢;simp only[↓aX,mX,reduceCtorEq,Nat.reduceEqDiff,Nat.reduceLT,Nat.reduceLeDiff,Nat.reduceAdd,Nat.reduceMul,Int.reduceToNat,Int.reduceLE,Int.reduceLT];refine aj hO ?_;simp only[↓aX,mX,reduceCtorEq,Nat.reduceEqDiff,Nat.reduceLT,Nat.reduceLeDiff,Nat.reduceAdd,Nat.reduceMul,Int.reduceToNat,Int.reduceLE,Int.reduceLT];refine aj (hN xs hx) ?_
  simp only[↓aX,mX,reduceCtorEq,Nat.reduceEqDiff,Nat.reduceLT,Nat.reduceLeDiff,Nat.reduceAdd,Nat.reduceMul,Int.reduceToNat,Int.reduceLE,Int.reduceLT,show((0:Int)==0)=true from rfl];refine aj hG ?_;simp only[↓aX,mX,reduceCtorEq,Nat.reduceEqDiff,Nat.reduceLT,Nat.reduceLeDiff,Nat.reduceAdd,Nat.reduceMul,Int.reduceToNat,Int.reduceLE,Int.reduceLT];refine aj hI ?_
  simp only[↓aX,mX,reduceCtorEq,Nat.reduceEqDiff,Nat.reduceLT,Nat.reduceLeDiff,Nat.reduceAdd,Nat.reduceMul,Int.reduceToNat,Int.reduceLE,Int.reduceLT,beq_self_eq_true];refine aj Jm ?_;simp only[↓aX,mX,reduceCtorEq,Nat.reduceEqDiff,Nat.reduceLT,Nat.reduceLeDiff,Nat.reduceAdd,Nat.reduceMul,Int.reduceToNat,Int.reduceLE,Int.reduceLT];refine aj J5 ?_
  simp only[↓aX,mX,reduceCtorEq,Nat.reduceEqDiff,Nat.reduceLT,Nat.reduceLeDiff,Nat.reduceAdd,Nat.reduceMul,Int.reduceToNat,Int.reduceLE,Int.reduceLT]
 ·rw[e] at hO ⊢;simp only[↓aX,mX,reduceCtorEq,Nat.reduceEqDiff,Nat.reduceLT,Nat.reduceLeDiff,Nat.reduceAdd,Nat.reduceMul,Int.reduceToNat,Int.reduceLE,Int.reduceLT];refine aj hO ?_;simp only[↓aX,mX,reduceCtorEq,Nat.reduceEqDiff,Nat.reduceLT,Nat.reduceLeDiff,Nat.reduceAdd,Nat.reduceMul,Int.reduceToNat,Int.reduceLE,Int.reduceLT];refine aj LI ?_
  simp only[↓aX,mX,reduceCtorEq,Nat.reduceEqDiff,Nat.reduceLT,Nat.reduceLeDiff,Nat.reduceAdd,Nat.reduceMul,Int.reduceToNat,Int.reduceLE,Int.reduceLT,show((1:Int)==1)=true from rfl];refine aj hG ?_;simp only[↓aX,mX,reduceCtorEq,Nat.reduceEqDiff,Nat.reduceLT,Nat.reduceLeDiff,Nat.reduceAdd,Nat.reduceMul,Int.reduceToNat,Int.reduceLE,Int.reduceLT];refine aj hI ?_
  simp only[↓aX,mX,reduceCtorEq,Nat.reduceEqDiff,Nat.reduceLT,Nat.reduceLeDiff,Nat.reduceAdd,Nat.reduceMul,Int.reduceToNat,Int.reduceLE,Int.reduceLT,beq_self_eq_true];refine aj Jm ?_;simp only[↓aX,mX,reduceCtorEq,Nat.reduceEqDiff,Nat.reduceLT,Nat.reduceLeDiff,Nat.reduceAdd,Nat.reduceMul,Int.reduceToNat,Int.reduceLE,Int.reduceLT];refine aj J5 ?_
  simp only[↓aX,mX,reduceCtorEq,Nat.reduceEqDiff,Nat.reduceLT,Nat.reduceLeDiff,Nat.reduceAdd,Nat.reduceMul,Int.reduceToNat,Int.reduceLE,Int.reduceLT]
theorem G8:jS [47,97,47,42,91,50,93,47,35]= .ei [.list ([⟨[97],0⟩,⟨[42],2⟩,⟨[],0⟩].map Step.iv),.int .i64 0]:=by
 have h:qa [47,97,47,42,91,50,93,47,35]=some [⟨[97],0⟩,⟨[42],2⟩,⟨[],0⟩]:=by
  have hn:sR [50]=some 2:=by simp[sR,show Lib.atoiAll [50]= .ok 2 from rfl,Lib.itoa,Lib.decDigits]
  have h2:ez [42,91,50,93]=some ⟨[42],2⟩:=by
   have:ml [42,91,50,93]=some 2:=hn;simp only[ez,this,Option.bind_some];rfl
  have h3:c6 [[97],[42,91,50,93],[35]]=some [⟨[97],0⟩,⟨[42],2⟩,⟨[],0⟩]:=by
   simp only[c6,h2];rfl
  show(c6 [[97],[42,91,50,93],[35]]).bind _=_;rw[h3];rfl
 simp only[jS,h]
def fx (ef:Nat):AC:=
(.seq (.au [⟨some 0,none,.af (.c (.bool false))⟩]) (.seq (.au [⟨some 4,none,.call ef [(.c (.str [47,97,47,42,91,50,93,47,35]))]⟩,⟨some 3,none,.af (.t 4)⟩,⟨some 5,none,.ext (.t 3) 0⟩,⟨some 6,none,.ext (.t 3) 1⟩,⟨some 1,none,.af (.t 5)⟩,⟨some 2,none,.af (.t 6)⟩]) (.seq (.au [⟨some 7,none,.af (.t 2)⟩,⟨some 8,none,.bin .eql (.t 7) (.c (.int .i64 0))⟩,⟨some 9,none,.af (.t 8)⟩,⟨some 10,(some (9,true)),(.af (.t 1))⟩,⟨some 11,(some (9,true)),(.len (.t 10))⟩,⟨some 12,(some (9,true)),(.bin .eql (.t 11) (.c (.int .i64 3)))⟩,⟨some 13,none,.pick (.t 9) (.t 12) (.c (.bool false))⟩,⟨some 14,none,.af (.t 13)⟩,⟨some 15,(some (14,true)),(.af (.t 1))⟩,⟨some 16,(some (14,true)),(.fH (.t 15) (.c (.int .i64 1)) 2)⟩,⟨some 17,(some (14,true)),(.load (some 2) (.t 16))⟩,⟨some 18,(some (14,true)),(.rp [(.str []),(.int .i64 0)] [(0,(1,(.c (.str [42])))),(1,(1,(.c (.int .i64 2))))])⟩,⟨some 19,(some (14,true)),(.ny false [.s,.i] (.t 17) (.t 18))⟩,⟨some 20,none,.pick (.t 14) (.t 19) (.c (.bool false))⟩,⟨some 21,none,.af (.t 20)⟩,⟨some 22,(some (21,true)),(.af (.t 1))⟩,⟨some 23,(some (21,true)),(.fH (.t 22) (.c (.int .i64 2)) 2)⟩,⟨some 24,(some (21,true)),(.load (some 2) (.t 23))⟩,⟨some 25,(some (21,true)),(.rp [(.str []),(.int .i64 0)] [])⟩,⟨some 26,(some (21,true)),(.ny false [.s,.i] (.t 24) (.t 25))⟩,⟨some 27,none,.pick (.t 21) (.t 26) (.c (.bool false))⟩,⟨some 0,none,.af (.t 27)⟩]) .ret)))
theorem w7 {cw ef:Nat} (hF:aB P G cw=some (28,[(none,0)],(fx ef).bare)) (hX:ai P G ef [.str [47,97,47,42,91,50,93,47,35]] (jS [47,97,47,42,91,50,93,47,35])) :
  ai P G cw [] (.bool true):=by
 rw[G8] at hX;refine aC hF (by simp) (by simp[ah]) (by simp[AV.ar]) ?_;unfold fx;have nz:ia 2 (o_.map Step.iv):=p_ _;simp only[↓aX,mX,reduceCtorEq,Nat.reduceEqDiff,Nat.reduceLT,Nat.reduceLeDiff,Nat.reduceAdd,Nat.reduceMul,Int.reduceToNat,Int.reduceLE,Int.reduceLT];refine aj hX ?_
 simp only[↓aX,mX,reduceCtorEq,Nat.reduceEqDiff,Nat.reduceLT,Nat.reduceLeDiff,Nat.reduceAdd,Nat.reduceMul,Int.reduceToNat,Int.reduceLE,Int.reduceLT,show(o_.map Step.iv).length=3 from rfl,show(((3:Nat):Int)==3)=true from rfl,nz,show(0:Int)≤1 by decide,show(0:Int)≤2 by decide,show(1:Int).toNat=1 from rfl,show(2:Int).toNat=2 from rfl,
  show(o_.map Step.iv)[1]?=some (.agg [.str [42],.int .i64 2]) from rfl,show(o_.map Step.iv)[2]?=some (.agg [.str [],.int .i64 0]) from rfl,IV.cells,eqs,Ha,show([⟨[97],0⟩,⟨[42],2⟩,⟨[],0⟩]:List Step)=o_ from rfl]
end
end Go.Am
