import Derived.Test.YtfinkeaikbmpgaaKT15
import Derived.Test.YtfinkeaikbmpgaaKAm33
set_option linter.unusedSimpArgs false
set_option linter.unusedVariables false
set_option linter.unnecessarySimpa false
set_option linter.defProp false
/- topiarykeep: documents that are the same. -/
set_option pp.deepTerms false
set_option pp.deepTerms.threshold 5
set_option maxRecDepth 20000
namespace Go.Am
open Go Go.RowKit
section
variable {P:Program} {G:Nat→Option (List IV)}
def eE:AC:=
(.seq (.aM [⟨some 4,none,.ak (.c (.bool false))⟩]) (.seq (.seq (.aM [⟨some 6,none,.ak (.t 0)⟩,⟨some 7,none,.len (.t 6)⟩,⟨some 8,none,.ak (.t 1)⟩,⟨some 9,none,.len (.t 8)⟩,⟨some 10,none,.bin .neq (.t 7) (.t 9)⟩]) (.cond (.t 10) (.seq (.aM [⟨some 4,none,.ak (.c (.bool false))⟩]) .ret) .skip)) (.seq (.seq (.aM [⟨some 11,none,.ak (.t 0)⟩,⟨some 12,none,.len (.t 11)⟩,⟨some 13,none,.ak (.c (.int .i64 0))⟩]) (.block 0 (.loop (.seq (.aM [⟨some 14,none,.bin .lss (.t 13) (.t 12)⟩]) (.seq (.cond (.t 14) .skip (.exit 0)) (.seq (.block 1 (.seq (.aM [⟨some 15,none,.ak (.t 13)⟩,⟨some 5,none,.ak (.t 15)⟩]) (.seq (.eY [⟨some 16,none,.ak (.t 0)⟩,⟨some 17,none,.ak (.t 5)⟩,⟨some 18,none,.fJ (.t 16) (.t 17) 1⟩,⟨some 19,none,.load none (.t 18)⟩,⟨some 20,none,.ak (.t 1)⟩,⟨some 21,none,.ak (.t 5)⟩,⟨some 22,none,.fJ (.t 20) (.t 21) 1⟩,⟨some 23,none,.load none (.t 22)⟩,⟨some 24,none,.bin .neq (.t 19) (.t 23)⟩] [[],[],[0,1],[2],[],[],[4,5],[6],[3,7]] [.no,.no,.no,.no,.no,.no,.no,.no,.no]) (.cond (.t 24) (.seq (.aM [⟨some 4,none,.ak (.c (.bool false))⟩]) .ret) .skip)))) (.aM [⟨some 25,none,.bin .add (.t 13) (.c (.int .i64 1))⟩,⟨some 13,none,.ak (.t 25)⟩]))))))) (.seq (.aM [⟨some 4,none,.ak (.c (.bool true))⟩]) .ret))))
theorem uW {cq:Nat} (hF:aA P G cq=some (26,[(none,4)],eE.bare)) (xs ys:List Int) (hx:xs.length≤B) :
  az P G cq [.list (xs.map a6),.list (ys.map a6)] (.bool (vp xs ys)):=by
 refine bm hF (by simp) (by simp[ax,AV.aI]) (by simp[AV.aI]) ?_;unfold eE;simp only[↓aX,mX,reduceCtorEq,Nat.reduceEqDiff,Nat.reduceLT,Nat.reduceLeDiff,Nat.reduceAdd,Nat.reduceMul,Int.reduceToNat,Int.reduceLE,Int.reduceLT,List.length_map];by_cases hl:xs.length=ys.length
 ·rw[show((xs.length:Int) !=(ys.length:Int))=false by simp[hl]];simp only[↓aX,mX,reduceCtorEq,Nat.reduceEqDiff,Nat.reduceLT,Nat.reduceLeDiff,Nat.reduceAdd,Nat.reduceMul,Int.reduceToNat,Int.reduceLE,Int.reduceLT,List.length_map]
  refine jW (σ:={i:Nat // i≤xs.length∧∀j,j<i→xs[j]?=ys[j]?}) (fun q=>[(0,.list (xs.map a6)),(1,.list (ys.map a6)),(12,.int .i64 xs.length),(13,.int .i64 q.1)]) (fun q=>xs.length - q.1) ⟨0,by simp⟩ (fun _=>rfl) ?_ ?_
  ·exact⟨by simp only[↓aX,mX,reduceCtorEq,Nat.reduceEqDiff,Nat.reduceLT,Nat.reduceLeDiff,Nat.reduceAdd,Nat.reduceMul,Int.reduceToNat,Int.reduceLE,Int.reduceLT],by repeat' constructor⟩
  ·rintro⟨i,hi,hs⟩;simp only[↓aX,mX,reduceCtorEq,Nat.reduceEqDiff,Nat.reduceLT,Nat.reduceLeDiff,Nat.reduceAdd,Nat.reduceMul,Int.reduceToNat,Int.reduceLE,Int.reduceLT,List.length_map];by_cases cj:i<xs.length
   ·rw[show decide ((i:Int)<(xs.length:Int))=true by simpa using cj];obtain⟨x,mj⟩:∃x,xs[i]?=some x:=⟨_,List.getElem?_eq_getElem cj⟩;obtain⟨y,vQ⟩:∃y,ys[i]?=some y:=⟨_,List.getElem?_eq_getElem (hl▸cj)⟩;have Rl:∀n,(a6 n).cells=[.int .i64 n]:=fun _=>rfl
    simp only[↓aX,mX,reduceCtorEq,Nat.reduceEqDiff,Nat.reduceLT,Nat.reduceLeDiff,Nat.reduceAdd,Nat.reduceMul,Int.reduceToNat,Int.reduceLE,Int.reduceLT,uV,mj,vQ,Option.map_some,oD,Rl]
    try refine⟨rfl,?_⟩
    by_cases xE:x=y
    ·subst xE;have hw:IntKind.i64.wrap ((i:Int)+1)=((i+1:Nat):Int):=wrap64 (by omega) (by unfold B at hx;omega);rw[show(x !=x)=false by simp];simp only[↓aX,mX,reduceCtorEq,Nat.reduceEqDiff,Nat.reduceLT,Nat.reduceLeDiff,Nat.reduceAdd,Nat.reduceMul,Int.reduceToNat,Int.reduceLE,Int.reduceLT,hw];refine⟨⟨i+1,cj,fun j hj=> ?_⟩,by simp only;omega,rfl⟩;by_cases e:j=i
     ·rw[e,mj,vQ]
     ·exact hs j (by omega)
    ·have dm:xs≠ys:=fun e=>xE (by rw[e,vQ] at mj;cases mj;rfl)
     rw[show(x !=y)=true by simpa using xE];simp only[↓aX,mX,reduceCtorEq,Nat.reduceEqDiff,Nat.reduceLT,Nat.reduceLeDiff,Nat.reduceAdd,Nat.reduceMul,Int.reduceToNat,Int.reduceLE,Int.reduceLT,iC dm]
   ·rw[show decide ((i:Int)<(xs.length:Int))=false by simpa using cj];simp only[↓aX,mX,reduceCtorEq,Nat.reduceEqDiff,Nat.reduceLT,Nat.reduceLeDiff,Nat.reduceAdd,Nat.reduceMul,Int.reduceToNat,Int.reduceLE,Int.reduceLT]
    have:xs=ys:=List.ext_getElem? fun j=>by
     by_cases hj:j<i
     ·exact hs j hj
     ·rw[List.getElem?_eq_none (by omega),List.getElem?_eq_none (by omega)]
    rw[this,jq]
 ·rw[show((xs.length:Int) !=(ys.length:Int))=true by simp;omega];have:xs≠ys:=fun e=>hl (by rw[e])
  simp only[↓aX,mX,reduceCtorEq,Nat.reduceEqDiff,Nat.reduceLT,Nat.reduceLeDiff,Nat.reduceAdd,Nat.reduceMul,Int.reduceToNat,Int.reduceLE,Int.reduceLT,iC this]
def fQ (cq:Nat):AC:=
(.seq (.aM [⟨some 2,none,.box (.t 0)⟩,⟨some 3,none,.box (.t 1)⟩,⟨some 4,none,.ak (.c (.bool false))⟩]) (.seq (.seq (.aM [⟨some 9,none,.bV (.t 2) 0⟩,⟨some 10,none,.load none (.t 9)⟩,⟨some 11,none,.len (.t 10)⟩,⟨some 12,none,.bV (.t 3) 0⟩,⟨some 13,none,.load none (.t 12)⟩,⟨some 14,none,.len (.t 13)⟩,⟨some 15,none,.bin .neq (.t 11) (.t 14)⟩]) (.cond (.t 15) (.seq (.aM [⟨some 4,none,.ak (.c (.bool false))⟩]) .ret) .skip)) (.seq (.seq (.aM [⟨some 16,none,.bV (.t 2) 0⟩,⟨some 17,none,.load none (.t 16)⟩,⟨some 18,none,.len (.t 17)⟩,⟨some 19,none,.ak (.c (.int .i64 0))⟩]) (.block 0 (.loop (.seq (.aM [⟨some 20,none,.bin .lss (.t 19) (.t 18)⟩]) (.seq (.cond (.t 20) .skip (.exit 0)) (.seq (.block 1 (.seq (.aM [⟨some 21,none,.ak (.t 19)⟩,⟨some 5,none,.ak (.t 21)⟩]) (.seq (.eY [⟨some 22,none,.bV (.t 2) 0⟩,⟨some 23,none,.load none (.t 22)⟩,⟨some 24,none,.ak (.t 5)⟩,⟨some 25,none,.fJ (.t 23) (.t 24) 5⟩,⟨some 26,none,.load (some 5) (.t 25)⟩,⟨some 27,none,.bV (.t 3) 0⟩,⟨some 28,none,.load none (.t 27)⟩,⟨some 29,none,.ak (.t 5)⟩,⟨some 30,none,.fJ (.t 28) (.t 29) 5⟩,⟨some 31,none,.load (some 5) (.t 30)⟩,⟨some 6,none,.new [(.bool false),(.str []),.nil0,(.int .i64 0),.nil0]⟩,⟨some 7,none,.new [(.bool false),(.str []),.nil0,(.int .i64 0),.nil0]⟩,⟨none,none,.store 5 (.t 6) (.t 26)⟩,⟨none,none,.store 5 (.t 7) (.t 31)⟩] [[],[0],[],[1,2],[3],[],[5],[],[6,7],[8],[],[],[10,4,0,1,2,3,4,10,11],[11,9,12,0,1,2,3,4,5,6,7,8,9,10,11,12]] [.no,.rw [.loc 2] [],.no,.no,.no,.no,.rw [.loc 3] [],.no,.no,.no,.rw [] [.loc 6],.rw [] [.loc 7],.rw [] [.loc 6],.rw [] [.loc 7]]) (.seq (.seq (.aM [⟨some 32,none,.bV (.t 6) 0⟩,⟨some 33,none,.load none (.t 32)⟩,⟨some 34,none,.bV (.t 7) 0⟩,⟨some 35,none,.load none (.t 34)⟩,⟨some 36,none,.Bu true (.t 33) (.t 35)⟩,⟨some 37,none,.ak (.t 36)⟩,⟨some 38,(some (37,false)),(.bV (.t 6) 1)⟩,⟨some 39,(some (37,false)),(.load none (.t 38))⟩,⟨some 40,(some (37,false)),(.bV (.t 7) 1)⟩,⟨some 41,(some (37,false)),(.load none (.t 40))⟩,⟨some 42,(some (37,false)),(.bin .neq (.t 39) (.t 41))⟩,⟨some 43,none,.pick (.t 37) (.c (.bool true)) (.t 42)⟩,⟨some 44,none,.ak (.t 43)⟩,⟨some 45,(some (44,false)),(.bV (.t 6) 3)⟩,⟨some 46,(some (44,false)),(.load none (.t 45))⟩,⟨some 47,(some (44,false)),(.bV (.t 7) 3)⟩,⟨some 48,(some (44,false)),(.load none (.t 47))⟩,⟨some 49,(some (44,false)),(.bin .neq (.t 46) (.t 48))⟩,⟨some 50,none,.pick (.t 44) (.c (.bool true)) (.t 49)⟩,⟨some 51,none,.ak (.t 50)⟩,⟨some 52,(some (51,false)),(.bV (.t 6) 2)⟩,⟨some 53,(some (51,false)),(.load none (.t 52))⟩,⟨some 54,(some (51,false)),(.len (.t 53))⟩,⟨some 55,(some (51,false)),(.bV (.t 7) 2)⟩,⟨some 56,(some (51,false)),(.load none (.t 55))⟩,⟨some 57,(some (51,false)),(.len (.t 56))⟩,⟨some 58,(some (51,false)),(.bin .neq (.t 54) (.t 57))⟩,⟨some 59,none,.pick (.t 51) (.c (.bool true)) (.t 58)⟩,⟨some 60,none,.ak (.t 59)⟩,⟨some 61,(some (60,false)),(.bV (.t 6) 4)⟩,⟨some 62,(some (60,false)),(.load none (.t 61))⟩,⟨some 63,(some (60,false)),(.bV (.t 7) 4)⟩,⟨some 64,(some (60,false)),(.load none (.t 63))⟩,⟨some 65,(some (60,false)),(.call cq [(.t 62),(.t 64)])⟩,⟨some 66,(some (60,false)),(.not (.t 65))⟩,⟨some 67,none,.pick (.t 60) (.c (.bool true)) (.t 66)⟩]) (.cond (.t 67) (.seq (.aM [⟨some 4,none,.ak (.c (.bool false))⟩]) .ret) .skip)) (.seq (.aM [⟨some 68,none,.bV (.t 6) 2⟩,⟨some 69,none,.load none (.t 68)⟩,⟨some 70,none,.len (.t 69)⟩,⟨some 71,none,.ak (.c (.int .i64 0))⟩]) (.block 2 (.loop (.seq (.aM [⟨some 72,none,.bin .lss (.t 71) (.t 70)⟩]) (.seq (.cond (.t 72) .skip (.exit 2)) (.seq (.block 3 (.seq (.aM [⟨some 73,none,.ak (.t 71)⟩,⟨some 8,none,.ak (.t 73)⟩]) (.seq (.eY [⟨some 74,none,.bV (.t 6) 2⟩,⟨some 75,none,.load none (.t 74)⟩,⟨some 76,none,.ak (.t 8)⟩,⟨some 77,none,.fJ (.t 75) (.t 76) 2⟩,⟨some 78,none,.load (some 2) (.t 77)⟩,⟨some 79,none,.bV (.t 7) 2⟩,⟨some 80,none,.load none (.t 79)⟩,⟨some 81,none,.ak (.t 8)⟩,⟨some 82,none,.fJ (.t 80) (.t 81) 2⟩,⟨some 83,none,.load (some 2) (.t 82)⟩,⟨some 84,none,.qJ true [.s,.s] (.t 78) (.t 83)⟩] [[],[0],[],[1,2],[3],[],[5],[],[6,7],[8],[4,9]] [.no,.rw [.loc 6] [],.no,.no,.no,.no,.rw [.loc 7] [],.no,.no,.no,.no]) (.cond (.t 84) (.seq (.aM [⟨some 4,none,.ak (.c (.bool false))⟩]) .ret) .skip)))) (.aM [⟨some 85,none,.bin .add (.t 71) (.c (.int .i64 1))⟩,⟨some 71,none,.ak (.t 85)⟩]))))))))))) (.aM [⟨some 86,none,.bin .add (.t 19) (.c (.int .i64 1))⟩,⟨some 19,none,.ak (.t 86)⟩]))))))) (.seq (.aM [⟨some 4,none,.ak (.c (.bool true))⟩]) .ret))))
def wi (d e:Doc) (i:Nat):List (Nat×AV):=[(2,.ptr (.loc 2) 1 0 0),(3,.ptr (.loc 3) 1 0 0),(18,.int .i64 d.length),(19,.int .i64 i)]
def yh (d e:Doc):List (Lb×Row):=[(.loc 2,⟨1,[[.list (d.map Node.iv)]]⟩),(.loc 3,⟨1,[[.list (e.map Node.iv)]]⟩)]
def FN (d e:Doc) (i:Nat) (x y:Node) (k:Nat):List (Nat×AV):=(6,.ptr (.loc 6) 5 0 0)::(7,.ptr (.loc 7) 5 0 0)::(70,.int .i64 x.attrs.length)::(71,.int .i64 k)::wi d e i
def FO (d e:Doc) (x y:Node):List (Lb×Row):=(.loc 6,⟨5,[[.bool x.text,.str x.s,.list (dY x.attrs),.int .i64 x.parent,.list (x.kids.map a6)]]⟩)::(.loc 7,⟨5,[[.bool y.text,.str y.s,.list (dY y.attrs),.int .i64 y.parent,.list (y.kids.map a6)]]⟩)::yh d e
theorem CP {cS cq : Nat} (hF : aA P G cS = some (87,[(none,4)],(fQ cq).bare)) (d e : Doc) (hd : kY d ≤ B)
   (hN:∀x∈d,∀y∈e,az P G cq [.list (x.kids.map a6),.list (y.kids.map a6)] (.bool (vp x.kids y.kids))) :
   az P G cS [Doc.av d,Doc.av e] (.bool (vp d e)):=by
 refine bm hF (by simp) (by simp[ax,AV.aI,Doc.av]) (by simp[AV.aI]) ?_
 have OL:=oN d
 have pw:B=1073741824:=rfl
 unfold fQ
 simp only[↓aX,mX,reduceCtorEq,Nat.reduceEqDiff,Nat.reduceLT,Nat.reduceLeDiff,Nat.reduceAdd,Nat.reduceMul,Int.reduceToNat,Int.reduceLE,Int.reduceLT,Doc.av,List.length_map]
 by_cases hl:d.length=e.length
 · rw [show ((d.length : Int) != (e.length : Int)) = false by simp [hl]]
   simp only[↓aX,mX,reduceCtorEq,Nat.reduceEqDiff,Nat.reduceLT,Nat.reduceLeDiff,Nat.reduceAdd,Nat.reduceMul,Int.reduceToNat,Int.reduceLE,Int.reduceLT,List.length_map]
   refine jX (σ:={i:Nat // i≤d.length∧∀j,j<i→d[j]?=e[j]?}) [.loc 2,.loc 3] (fun q=>wi d e q.1) (fun _=>yh d e) (fun q=>d.length - q.1) ⟨0,by simp⟩
     (fun _=>rfl) (by decide) (by simp[ax,AV.aI,wi]) (by
       intro q r hr cs b5 l hl
       simp only[yh,List.mem_cons,List.not_mem_nil,or_false] at hr
       rcases hr with rfl|rfl<;>(simp only[List.mem_singleton] at b5;subst b5;simp[ax,AV.aI] at hl)) ?_ ?_
   · exact ma (by simp only[uM,ri]) (by unfold wi;repeat' constructor) ⟨rfl,rfl,trivial⟩
   · rintro ⟨i,hi,hs⟩
     simp only[↓aX,mX,reduceCtorEq,Nat.reduceEqDiff,Nat.reduceLT,Nat.reduceLeDiff,Nat.reduceAdd,Nat.reduceMul,Int.reduceToNat,Int.reduceLE,Int.reduceLT,wi,yh,jQ,iD]
     by_cases cj:i<d.length
     · rw [show decide ((i : Int) < (d.length : Int)) = true by simpa using cj]
       obtain⟨x,mj⟩:∃x,d[i]?=some x:=⟨_,List.getElem?_eq_getElem cj⟩
       obtain⟨y,vQ⟩:∃y,e[i]?=some y:=⟨_,List.getElem?_eq_getElem (hl▸cj)⟩
       have N3:=List.mem_of_getElem? mj
       have Rm:=List.mem_of_getElem? vQ
       have stop:x≠y→vp d e=false:=fun h=>iC fun he=>h (by rw[he,vQ] at mj;cases mj;rfl)
       have hw:IntKind.i64.wrap ((i:Int)+1)=((i+1:Nat):Int):=wrap64 (by omega) (by omega)
       have Hn:=qD N3
       have Rn:=jM x.attrs
       simp only[Node.wt] at Hn
       simp only[↓aX,mX,reduceCtorEq,Nat.reduceEqDiff,Nat.reduceLT,Nat.reduceLeDiff,Nat.reduceAdd,Nat.reduceMul,Int.reduceToNat,Int.reduceLE,Int.reduceLT,Doc.pt mj,Doc.pt vQ,oE,Node.bL,Node.cs]
       refine⟨rfl,?_⟩
       cases h1:(x.text==y.text) with
       |false=>
         have dm:x≠y:=by rintro rfl;simp at h1
         simp only[↓aX,mX,reduceCtorEq,Nat.reduceEqDiff,Nat.reduceLT,Nat.reduceLeDiff,Nat.reduceAdd,Nat.reduceMul,Int.reduceToNat,Int.reduceLE,Int.reduceLT,stop dm]
       |true=>
         simp only[↓aX,mX,reduceCtorEq,Nat.reduceEqDiff,Nat.reduceLT,Nat.reduceLeDiff,Nat.reduceAdd,Nat.reduceMul,Int.reduceToNat,Int.reduceLE,Int.reduceLT]
         cases h2:(x.s==y.s) with
         |false=>
           have dm:x≠y:=by rintro rfl;simp at h2
           simp only[↓aX,mX,reduceCtorEq,Nat.reduceEqDiff,Nat.reduceLT,Nat.reduceLeDiff,Nat.reduceAdd,Nat.reduceMul,Int.reduceToNat,Int.reduceLE,Int.reduceLT,Bool.not_false,stop dm]
         |true=>
           simp only[↓aX,mX,reduceCtorEq,Nat.reduceEqDiff,Nat.reduceLT,Nat.reduceLeDiff,Nat.reduceAdd,Nat.reduceMul,Int.reduceToNat,Int.reduceLE,Int.reduceLT,Bool.not_true]
           cases h3:(x.parent !=y.parent) with
           |true=>
             have dm:x≠y:=by rintro rfl;simp at h3
             simp only[↓aX,mX,reduceCtorEq,Nat.reduceEqDiff,Nat.reduceLT,Nat.reduceLeDiff,Nat.reduceAdd,Nat.reduceMul,Int.reduceToNat,Int.reduceLE,Int.reduceLT,h3,stop dm]
           |false=>
             simp only[↓aX,mX,reduceCtorEq,Nat.reduceEqDiff,Nat.reduceLT,Nat.reduceLeDiff,Nat.reduceAdd,Nat.reduceMul,Int.reduceToNat,Int.reduceLE,Int.reduceLT,h3,cX]
             cases h4:((x.attrs.length:Int) !=(y.attrs.length:Int)) with
             |true=>
               have dm:x≠y:=by rintro rfl;simp at h4
               simp only[↓aX,mX,reduceCtorEq,Nat.reduceEqDiff,Nat.reduceLT,Nat.reduceLeDiff,Nat.reduceAdd,Nat.reduceMul,Int.reduceToNat,Int.reduceLE,Int.reduceLT,h4,stop dm]
             |false=>
               have Ev:x.attrs.length=y.attrs.length:=by simp at h4;omega
               simp only[↓aX,mX,reduceCtorEq,Nat.reduceEqDiff,Nat.reduceLT,Nat.reduceLeDiff,Nat.reduceAdd,Nat.reduceMul,Int.reduceToNat,Int.reduceLE,Int.reduceLT,h4]
               refine aO (hN x N3 y Rm) ?_
               by_cases h5:x.kids=y.kids
               · rw[h5,jq]
                 simp only[↓aX,mX,reduceCtorEq,Nat.reduceEqDiff,Nat.reduceLT,Nat.reduceLeDiff,Nat.reduceAdd,Nat.reduceMul,Int.reduceToNat,Int.reduceLE,Int.reduceLT,Bool.not_true,cX]
                 refine jX (σ:={k:Nat // k≤x.attrs.length∧∀j,j<k→x.attrs[j]?=y.attrs[j]?}) [.loc 6,.loc 7,.loc 2,.loc 3] (fun q=>FN d e i x y q.1) (fun _=>FO d e x y) (fun q=>x.attrs.length - q.1) ⟨0,by simp⟩
                   (fun _=>rfl) (by decide) (by simp[ax,AV.aI,FN,wi]) (by
                     intro q r hr cs b5 l hl
                     simp only[FO,yh,List.mem_cons,List.not_mem_nil,or_false] at hr
                     rcases hr with rfl|rfl|rfl|rfl<;>(simp only[List.mem_singleton] at b5;subst b5;simp[ax,AV.aI] at hl)) ?_ ?_
                 · refine ma ?_ (by unfold FN wi;repeat' constructor) ?_
                   · intro l hl hu
                     exfalso;apply hu
                     cases l<;>simp_all[Lb.fresh,ai,Hp.none]
                   · simp[FO,yh,rF,uQ,ai,h5]
                 · rintro⟨k,hk,m_⟩
                   simp only[↓aX,mX,reduceCtorEq,Nat.reduceEqDiff,Nat.reduceLT,Nat.reduceLeDiff,Nat.reduceAdd,Nat.reduceMul,Int.reduceToNat,Int.reduceLE,Int.reduceLT,FN,wi,FO,yh,jQ,iD]
                   by_cases jl:k<x.attrs.length
                   · rw[show decide ((k:Int)<(x.attrs.length:Int))=true by simpa using jl]
                     obtain⟨a,ha⟩:∃a,x.attrs[k]?=some a:=⟨_,List.getElem?_eq_getElem jl⟩
                     obtain⟨c,hc⟩:∃c,y.attrs[k]?=some c:=⟨_,List.getElem?_eq_getElem (Ev▸jl)⟩
                     have G9:IntKind.i64.wrap ((k:Int)+1)=((k+1:Nat):Int):=wrap64 (by omega) (by omega)
                     simp only[↓aX,mX,reduceCtorEq,Nat.reduceEqDiff,Nat.reduceLT,Nat.reduceLeDiff,Nat.reduceAdd,Nat.reduceMul,Int.reduceToNat,Int.reduceLE,Int.reduceLT,mY,ha,hc,Option.map_some,mA,Attr.bL,Attr.cs,eqs,M_]
                     refine⟨rfl,?_⟩
                     by_cases Kw:a=c
                     · subst Kw
                       rw[show(a.name==a.name&&a.val==a.val)=true by simp]
                       simp only[↓aX,mX,reduceCtorEq,Nat.reduceEqDiff,Nat.reduceLT,Nat.reduceLeDiff,Nat.reduceAdd,Nat.reduceMul,Int.reduceToNat,Int.reduceLE,Int.reduceLT,G9]
                       refine⟨⟨k+1,jl,fun j hj=> ?_⟩,by simp only;omega,ma ?_ (by repeat' constructor) ⟨rfl,rfl,rfl,rfl,trivial⟩⟩
                       · by_cases ej:j=k
                         · rw[ej,ha,hc]
                         · exact m_ j (by omega)
                       · intro l hl hu
                         exfalso;apply hu
                         cases l<;>simp_all[Lb.fresh,ai,Hp.none]
                     · have dm:x≠y:=by rintro rfl;rw[ha] at hc;cases hc;exact Kw rfl
                       have:(a.name==c.name&&a.val==c.val)=false:=by
                         cases a;cases c
                         simp only[Attr.mk.injEq,not_and] at Kw
                         simp only[Bool.and_eq_false_iff,beq_eq_false_iff_ne,ne_eq]
                         rename_i n1 v1 n2 v2
                         by_cases e:n1=n2
                         · exact .inr (Kw e)
                         · exact .inl e
                       rw[this]
                       simp only[↓aX,mX,reduceCtorEq,Nat.reduceEqDiff,Nat.reduceLT,Nat.reduceLeDiff,Nat.reduceAdd,Nat.reduceMul,Int.reduceToNat,Int.reduceLE,Int.reduceLT,stop dm]
                   · rw[show decide ((k:Int)<(x.attrs.length:Int))=false by simpa using jl]
                     have JI:x.attrs=y.attrs:=List.ext_getElem? fun j=>by
                       by_cases hj:j<k
                       · exact m_ j hj
                       · rw[List.getElem?_eq_none (by omega),List.getElem?_eq_none (by omega)]
                     simp only[↓aX,mX,reduceCtorEq,Nat.reduceEqDiff,Nat.reduceLT,Nat.reduceLeDiff,Nat.reduceAdd,Nat.reduceMul,Int.reduceToNat,Int.reduceLE,Int.reduceLT,hw]
                     refine⟨⟨i+1,cj,fun j hj=> ?_⟩,by simp only;omega,ma ?_ (by repeat' constructor) ⟨rfl,rfl,trivial⟩⟩
                     · by_cases ej : j = i
                       · rw[ej,mj,vQ]
                         congr 1
                         exact Node.ext' (by simpa using h1) (by simpa using h2) JI (by simpa using h3) h5
                       · exact hs j (by omega)
                     · intro l hl hu
                       exfalso;apply hu
                       cases l<;>simp_all[Lb.fresh,ai,Hp.none]
               · have dm:x≠y:=by rintro rfl;exact h5 rfl
                 rw[iC h5]
                 simp only[↓aX,mX,reduceCtorEq,Nat.reduceEqDiff,Nat.reduceLT,Nat.reduceLeDiff,Nat.reduceAdd,Nat.reduceMul,Int.reduceToNat,Int.reduceLE,Int.reduceLT,Bool.not_false,stop dm]
     · rw[show decide ((i:Int)<(d.length:Int))=false by simpa using cj]
       simp only[↓aX,mX,reduceCtorEq,Nat.reduceEqDiff,Nat.reduceLT,Nat.reduceLeDiff,Nat.reduceAdd,Nat.reduceMul,Int.reduceToNat,Int.reduceLE,Int.reduceLT]
       have:d=e:=List.ext_getElem? fun j=>by
         by_cases hj:j<i
         · exact hs j hj
         · rw[List.getElem?_eq_none (by omega),List.getElem?_eq_none (by omega)]
       rw[this,jq]
 · rw[show((d.length:Int) !=(e.length:Int))=true by simp;omega]
   have:d≠e:=fun h=>hl (by rw[h])
   simp only[↓aX,mX,reduceCtorEq,Nat.reduceEqDiff,Nat.reduceLT,Nat.reduceLeDiff,Nat.reduceAdd,Nat.reduceMul,Int.reduceToNat,Int.reduceLE,Int.reduceLT,iC this]
end
end Go.Am

/- THE ABSTRACT MACHINE, part 40: functions that are handed a row of data by a slice. -/
namespace Go.Am
open Go Go.RowKit
def kh (sz:Nat) (xs:List IV):Hp:=bG Hp.none (.par 0) (.live ⟨sz,ay xs⟩)
def JJ (P:Program) (G:Nat→Option (List IV)) (f:Nat) (args:List AV) (sz:Nat) (xs:List IV) (R:AV→List IV→Prop):Prop:=
 (∀l∈ax args,l= .par 0)∧eB P G f args (kh sz xs) fun x H'=>∃Lu,R x Lu∧x.aI=[]∧Lu.length=xs.length∧H' (.par 0)= .live ⟨sz,ay Lu⟩
theorem JJ.mono {P:Program} {G:Nat→Option (List IV)} {f:Nat} {args:List AV} {sz:Nat} {xs:List IV} {R R':AV→List IV→Prop} (h:JJ P G f args sz xs R) (hq:∀x c,R x c→R' x c):JJ P G f args sz xs R':=
 ⟨h.1,h.2.mono fun x H ⟨c,h1,h2⟩=>⟨c,hq _ _ h1,h2⟩⟩
end Go.Am

/- THE ABSTRACT MACHINE, part 41: functions that are handed a slice that grows, and hand it back. -/
namespace Go.Am
open Go Go.RowKit
theorem eB.Me {P:Program} {G:Nat→Option (List IV)} {f:Nat} {args:List AV} {H:Hp} {Q:AV→Hp→Prop} (h:eB P G f args H Q) (kp:AV→Lb→Prop) :
  eB P G f args H fun x H'=>∃H1,Q x H1∧H'=dN (kp x) H1:=by
 intro w A β vs hr hv;refine(h w A β vs hr hv).mono ?_;rintro e w' ⟨v,x,H1,β',rfl,hq,mq,hx,hm⟩;exact⟨v,x,dN (kp x) H1,β',rfl,⟨H1,hq,rfl⟩,mq.dN _,hx.dN _,fun l hl=>by rw[Ne,fw];exact hm l hl⟩
def rV (P:Program) (G:Nat→Option (List IV)) (sz f:Nat) (args:List AV) (xs ys:List IV):Prop:=
 (∀l∈ax args,l= .par 0)∧eB P G f args (kh sz xs) fun x H'=>∃L,x= .sl L sz 0 ys.length∧H' L= .live ⟨sz,ay ys⟩
theorem tE {S:St} {f:Nat} {args cO:List AV} {sz:Nat} {xs ys:List IV} {H:Hp} {k:AV→Hp→Prop} {u:Tw k} {l N:Lb} (h:rV S.P S.G sz f cO xs ys)
  (ha:args=cn (xR l) cO) (hl:H l= .live ⟨sz,ay xs⟩) (hN:H N= .unused) (Jv:N.fresh=true→l.fresh=true)
  (OM:k (.sl N sz 0 ys.length) (bG (bG H l .dead) N (.live ⟨sz,ay ys⟩))) (K8:k (.sl l sz 0 ys.length) (bG (bG H l .dead) l (.live ⟨sz,ay ys⟩))):Bq S f args H k u:=by
 obtain⟨h1,h3⟩:=h
 have bz:∀q r,kh sz xs q= .live r→q= .par 0∧r=⟨sz,ay xs⟩:=by
  intro q r h;by_cases e:q= .par 0
  ·subst e;simp[kh] at h;exact⟨rfl,h.symm⟩
  ·rw[kh,aq _ _ e] at h;simp[Hp.none] at h
 have OB:H l≠ .unused:=by rw[hl];simp
 have Jw:N≠l:=by rintro rfl;exact OB hN
 refine .inr<| .inr ⟨⟨xR l,kh sz xs,cO,_,h3.Me (fun x q=>q∈x.aI),ha,?_,?_,?_,?_,?_,?_,?_⟩⟩
 ·intro q r h;obtain⟨rfl,rfl⟩:=bz q r h;rw[de];simp only[xR,if_true,hl]
 ·intro q hq;by_cases e:q= .par 0
  ·subst e;exact⟨_,by simp[kh];rfl⟩
  ·rw[kh,aq _ _ e] at hq;simp[Hp.none] at hq
 ·rintro q q' ⟨r,h⟩ ⟨r',h'⟩ _;rw[(bz q r h).1,(bz q' r' h').1]
 ·intro q hq;rw[h1 q hq];simp[kh]
 ·rintro q ⟨r,h⟩;rw[(bz q r h).1];rfl
 ·intro q r h c hc z hz;obtain⟨rfl,rfl⟩:=bz q r h;rw[dK hc] at hz;simp at hz
 ·rintro x H' ⟨H1,⟨L,rfl,e5⟩,rfl⟩;obtain⟨L1,Jx⟩:∃L1,L1=(if L= .par 0 then l else N):=⟨_,rfl⟩;have ra:∀q,q∈(AV.sl L sz 0 ys.length).aI↔q=L:=fun q=>by simp[AV.aI]
  have hH:∀q r,dN (fun q=>q∈(AV.sl L sz 0 ys.length).aI) H1 q= .live r→q=L∧r=⟨sz,ay ys⟩:=by
   intro q r h;obtain⟨g1,g2⟩:=dj.1 h;rw[ra] at g2;subst g2;rw[e5] at g1;cases g1;exact⟨rfl,rfl⟩
  have pk:dN (fun q=>q∈(AV.sl L sz 0 ys.length).aI) H1 L= .live ⟨sz,ay ys⟩:=dj.2 ⟨e5,(ra L).2 rfl⟩;have hρ:(fun q=>if q=L then L1 else q) L=L1:=by simp
  have nG:∀q,H q≠ .unused→bG (bG H l .dead) L1 (.live ⟨sz,ay ys⟩) q≠ .unused:=by
   intro q hq;by_cases e:q=L1
   ·subst e;simp
   ·rw[aq _ _ e];by_cases e2:q=l
    ·subst e2;simp
    ·rw[aq _ _ e2];exact hq
  refine⟨fun q=>if q=L then L1 else q,bG (bG H l .dead) L1 (.live ⟨sz,ay ys⟩),?_,?_,?_,nG,?_,?_,?_,?_,?_⟩
  ·rintro q ⟨r,g1⟩ ⟨r',g2⟩;have e1:=(bz q r g1).1;have e2:=(hH q r' g2).1;subst e1;subst e2;simp only[if_true,Jx,xR]
  ·intro q r h;by_cases e:q=L1
   ·subst e;simp at h;refine .inr ⟨L,_,pk,by simp,?_⟩;rw[←h,de]
   ·rw[aq _ _ e] at h;by_cases e2:q=l
    ·subst e2;simp at h
    ·rw[aq _ _ e2] at h;refine .inl ⟨h,?_⟩;rintro z ⟨r',hz⟩;rw[(bz z r' hz).1];simp only[xR,if_true];exact Ne.symm e2
  ·rintro q q' ⟨r,h⟩ ⟨r',h'⟩ _;rw[(hH q r h).1,(hH q' r' h').1]
  ·intro q hq;rw[ra] at hq;subst hq;simp
  ·intro q r h c hc z hz;obtain⟨rfl,rfl⟩:=hH q r h;rw[dK hc] at hz;simp at hz
  ·rintro q ⟨r,h⟩;obtain⟨rfl,rfl⟩:=hH q r h;by_cases e:q= .par 0
   ·subst e;exact .inl ⟨_,by simp[kh];rfl⟩
   ·right;simp only[if_true,Jx,if_neg e];refine⟨hN,fun hf=> .inr ?_⟩;rintro z ⟨r',hz⟩;rw[(bz z r' hz).1];simp only[xR,if_true];exact Jv hf
  ·rintro q (hq|⟨l1,r1,c,g1,g2,g3⟩) _
   ·rw[ra] at hq;subst hq;exact⟨_,pk⟩
   ·obtain⟨rfl,rfl⟩:=hH l1 r1 g1;rw[dK g2] at g3;simp at g3
  ·simp only[cG,if_true];rw[Jx];split
   ·exact K8
   ·exact OM
theorem qE {S:St} {F:List Lb} {sz f:Nat} {args cO:List AV} {xs ys:List IV} {H:Hp} {k:AV→Hp→Prop} {u:Tw k} {l N:Lb} (h:rV S.P S.G sz f cO xs ys)
  (ha:args=cn (xR l) cO) (hl:H l= .live ⟨sz,ay xs⟩) (hN:H N= .unused) (Jv:N.fresh=true→l.fresh=true) (h1:l.iJ∉F) (h2:N.iJ∉F)
  (OM:k (.sl N sz 0 ys.length) (bG (bG H l .dead) N (.live ⟨sz,ay ys⟩))) (K8:k (.sl l sz 0 ys.length) (bG (bG H l .dead) l (.live ⟨sz,ay ys⟩))):FA S F f args H k u:=by
 refine⟨fun x H'=>(x= .sl N sz 0 ys.length∧H'=bG (bG H l .dead) N (.live ⟨sz,ay ys⟩))∨(x= .sl l sz 0 ys.length∧H'=bG (bG H l .dead) l (.live ⟨sz,ay ys⟩)),?_,⟨_,_,.inl ⟨rfl,rfl⟩⟩,?_⟩
 ·exact tE (k:=fun x H'=>(x= .sl N sz 0 ys.length∧H'=bG (bG H l .dead) N (.live ⟨sz,ay ys⟩))∨(x= .sl l sz 0 ys.length∧H'=bG (bG H l .dead) l (.live ⟨sz,ay ys⟩))) (u:= .mk) h ha hl hN Jv (.inl ⟨rfl,rfl⟩) (.inr ⟨rfl,rfl⟩)
 ·have key:∀q:Lb,q.iJ∈F→q≠l∧q≠N:=fun q hq=>⟨fun e=>h1 (e▸hq),fun e=>h2 (e▸hq)⟩
  rintro x H' (⟨rfl,rfl⟩|⟨rfl,rfl⟩)
  ·refine⟨fun q hq=> ?_,OM⟩;obtain⟨e1,e2⟩:=key q hq;rw[aq _ _ e2,aq _ _ e1]
  ·refine⟨fun q hq=> ?_,K8⟩;obtain⟨e1,e2⟩:=key q hq;rw[aq _ _ e1,aq _ _ e1]
end Go.Am

/- THE ABSTRACT MACHINE, part 42: loops in which a row that was handed in grows: only what was handed in keeps its name. -/
namespace Go.Am
open Go Go.RowKit
structure WE (ls:List Lb) (u:Lb→Bool) (ps:List (Nat×AV)) (rs:List (Lb×Row)) (env:Env) (H:Hp) (m:List (Lb×Lb)):Prop where
 nf:∀l:Lb,l.entry=true→H l≠ .unused→l∈ls∨u l=true
 e:nt (dS m) env ps
 r:zb (dS m) H rs
 inj:(ls.map (dS m)).Nodup
 fr:∀l∈ls,(l.fresh=true→(dS m l).fresh=true)∧(l.entry=true→dS m l=l)
theorem WE.wk {ls:List Lb} {u:Lb→Bool} {ps:List (Nat×AV)} {rs:List (Lb×Row)} {env:Env} {H:Hp} {m:List (Lb×Lb)} (h:WE ls u ps rs env H m) (nr:rs.map Prod.fst=ls) (hp:∀l∈ax (ps.map Prod.snd),l∈ls)
  (hr:∀q∈rs,∀cs∈q.2.els,∀l∈ax cs,l∈ls):Wk (dS m) env H (kF ps) (fM u rs):=by
 have sQ:∀l,live (fM u rs) l→l∈ls:=fun l ⟨r,h⟩=>by rw[←nr];exact List.mem_map.2 ⟨_,fI (iE.1 h),rfl⟩
 refine⟨h.e.we,fun l r hl=>qz h.r (fI (iE.1 hl)),fun l l' h1 h2 e=>gR h.inj l (sQ l h1) l' (sQ l' h2) e,nY fun l hl=>ju (.inl (by rw[nr];exact hp l hl)),fun l r hl cs b5 q hq=> ?_,
  fun l hf=>⟨fun hu=> ?_,fun hl=>(h.fr l (sQ l hl)).2 hf⟩,fun l hl hf=>(h.fr l (sQ l hl)).1 hf⟩
 ·exact ju (.inl (by rw[nr];exact hr _ (fI (iE.1 hl)) cs b5 q hq))
 ·exact ju (by rw[nr];exact h.nf l hf hu)
end Go.Am

/- THE ABSTRACT MACHINE, part 43: functions that are handed rows of any shape, and hand rows back. -/
namespace Go.Am
open Go Go.RowKit
structure kS where
 row:(Nat→Lb)→Nat→Option Row
 nat:∀(lab:Nat→Lb) (ρ:Lb→Lb) (p:Nat),row (fun i=>ρ (lab i)) p=(row lab p).map (dB ρ)
 aI:∀(lab:Nat→Lb) (p:Nat) (r:Row),row lab p=some r→∀cs∈r.els,∀q∈ax cs,∃p',(row lab p').isSome=true∧q=lab p'
def kS.ok (R:kS) (p:Nat):Prop:=(R.row Lb.par p).isSome=true
theorem kS.ia (R:kS) (lab:Nat→Lb) (p:Nat):(R.row lab p).isSome=true↔R.ok p:=by
 have h:=R.nat Lb.par (fun q=>match q with| .par i=>lab i|q=>q) p;simp only at h;unfold kS.ok;rw[show R.row lab p=_ from h];simp
structure jx (lab:Nat→Lb) (R:kS) (H:Hp):Prop where
 row:∀p r,R.row lab p=some r→H (lab p)= .live r
 inj:∀p q,R.ok p→R.ok q→lab p=lab q→p=q
theorem jx.live {lab:Nat→Lb} {R:kS} {H:Hp} (h:jx lab R H) {p:Nat} (hp:R.ok p):Am.live H (lab p):=by
 obtain⟨r,hr⟩:=Option.isSome_iff_exists.1 ((R.ia lab p).2 hp);exact⟨r,h.row p r hr⟩
open Classical in
noncomputable def sy (lab:Nat→Lb) (R:kS) (H:Hp):Hp:=fun q=>
 if h:∃p,R.ok p∧lab p=q then(match R.row lab (Classical.choose h) with|some r=> .live r|none=> .dead) else H q
theorem CQ {lab:Nat→Lb} {R:kS} (hi:∀p q,R.ok p→R.ok q→lab p=lab q→p=q) (H:Hp) {p:Nat} {r:Row} (hp:R.row lab p=some r):sy lab R H (lab p)= .live r:=by
 have n9:R.ok p:=(R.ia lab p).1 (by rw[hp];rfl);have h:∃p',R.ok p'∧lab p'=lab p:=⟨p,n9,rfl⟩;have hc:=Classical.choose_spec h;have e:Classical.choose h=p:=hi _ _ hc.1 n9 hc.2;unfold sy;rw[dif_pos h,e,hp]
theorem dD {lab:Nat→Lb} {R:kS} (H:Hp) {q:Lb} (h:∀p,R.ok p→lab p≠q):sy lab R H q=H q:=by
 unfold sy;rw[dif_neg (by rintro⟨p,h1,h2⟩;exact h p h1 h2)]
theorem mF {lab:Nat→Lb} {R:kS} (hi:∀p q,R.ok p→R.ok q→lab p=lab q→p=q) {H:Hp} {q:Lb} {r:Row} (h:sy lab R H q= .live r) :
  (∃p,R.ok p∧lab p=q∧R.row lab p=some r)∨((∀p,R.ok p→lab p≠q)∧H q= .live r):=by
 by_cases e:∃p,R.ok p∧lab p=q
 ·obtain⟨p,h1,rfl⟩:=e;obtain⟨r',hr⟩:=Option.isSome_iff_exists.1 ((R.ia lab p).2 h1);rw[CQ hi H hr] at h;cases h;exact .inl ⟨p,h1,rfl,hr⟩
 ·have e':∀p,R.ok p→lab p≠q:=fun p h1 h2=>e ⟨p,h1,h2⟩
  rw[dD H e'] at h;exact .inr ⟨e',h⟩
theorem jx.lM {lab:Nat→Lb} {R:kS} (hi:∀p q,R.ok p→R.ok q→lab p=lab q→p=q) (H:Hp):jx lab R (sy lab R H):=⟨fun _ _ hp=>CQ hi H hp,hi⟩
theorem zr:∀p q:Nat,Lb.par p=Lb.par q→p=q:=fun p q h=>by cases h;rfl
noncomputable def eC (R:kS):Hp:=sy Lb.par R Hp.none
theorem eF (R:kS):jx Lb.par R (eC R):= .lM (fun p q _ _ h=>zr p q h) _
theorem ki {R:kS} {q:Lb} {r:Row} (h:eC R q= .live r):∃p,R.ok p∧Lb.par p=q∧R.row Lb.par p=some r:=by
 rcases mF (fun p q _ _ h=>zr p q h) h with h|⟨_,h⟩
 ·exact h
 ·simp[Hp.none] at h
theorem CR {R:kS} {q:Lb} (h:eC R q≠ .unused):∃p,R.ok p∧q= .par p:=by
 by_cases e:∃p,R.ok p∧Lb.par p=q
 ·obtain⟨p,h1,h2⟩:=e;exact⟨p,h1,h2.symm⟩
 ·refine absurd ?_ h;unfold eC;rw[dD Hp.none fun p h1 h2=>e ⟨p,h1,h2⟩];rfl
theorem eB.Mf {T:Type} {P:Program} {G:Nat→Option (List IV)} {f:Nat} {args:List AV} {H:Hp} {Q:T→AV→Hp→Prop} (h:eB P G f args H fun x H'=>∃t,Q t x H') (kp:T→Lb→Prop) :
  eB P G f args H fun x H'=>∃t H1,Q t x H1∧H'=dN (kp t) H1:=by
 intro w A β vs hr hv;refine(h w A β vs hr hv).mono ?_;rintro e w' ⟨v,x,H1,β',rfl,⟨t,hq⟩,mq,hx,hm⟩;exact⟨v,x,dN (kp t) H1,β',rfl,⟨t,H1,hq,rfl⟩,mq.dN _,hx.dN _,fun l hl=>by rw[Ne,fw];exact hm l hl⟩
def n5 (P:Program) (G:Nat→Option (List IV)) (f:Nat) (args:List AV) (R:kS) (fx:List Nat) (Q:((Nat→Lb)→AV)→kS→Prop):Prop:=
 (∀l∈ax args,∃p,R.ok p∧l= .par p)∧eB P G f args (eC R) fun x H'=>∃t:((Nat→Lb)→AV)×kS×(Nat→Lb),
  Q t.1 t.2.1∧(∀ρ,cG ρ (t.1 t.2.2)=t.1 fun i=>ρ (t.2.2 i))∧(∀l∈x.aI,∃p,t.2.1.ok p∧l=t.2.2 p)∧x=t.1 t.2.2∧jx t.2.2 t.2.1 H'∧∀p∈fx,t.2.2 p= .par p
def rW (lab:Nat→Lb):Lb→Lb:=fun q=>match q with
 | .par i=>lab i
 |q=>q
open Classical in
theorem gV {S:St} {f:Nat} {args cO:List AV} {R:kS} {fx:List Nat} {Q:((Nat→Lb)→AV)→kS→Prop} {H:Hp} {k:AV→Hp→Prop} {u:Tw k} {lab:Nat→Lb} (N:Lb→Lb) (h:n5 S.P S.G f cO R fx Q)
  (ha:args=cn (rW lab) cO) (hl:jx lab R H) (hN:∀l,H (N l)= .unused) (Ro:∀l l',N l=N l'→l=l') (Jv:∀l,(N l).fresh=true→l.fresh=true∨∀p,R.ok p→(lab p).fresh=true) (Rq:∀p∈fx,R.ok p)
  (hk:∀X R2 cQ H2,Q X R2→jx cQ R2 H2→(∀p∈fx,cQ p=lab p)→(∀p,R2.ok p→(∃p0,R.ok p0∧cQ p=lab p0)∨∃l,cQ p=N l) →
   (∀q,(∀p,R.ok p→q≠lab p)→(∀l,q≠N l)→H2 q=H q)→(∀q,H q≠ .unused→H2 q≠ .unused)→(∀l,(∀p,R2.ok p→cQ p≠N l)→H2 (N l)= .unused)→k (X cQ) H2):Bq S f args H k u:=by
 obtain⟨h1,h3⟩:=h;refine .inr<| .inr ⟨⟨rW lab,eC R,cO,_,h3.Mf (fun t q=>∃p,t.2.1.ok p∧t.2.2 p=q),ha,?_,?_,?_,?_,?_,?_,?_⟩⟩
 ·intro q r hq;obtain⟨p,h4,rfl,h5⟩:=ki hq;refine hl.row p _ ?_;have:=R.nat Lb.par (rW lab) p;simp only[rW] at this;rw[show R.row lab p=_ from this,h5];rfl
 ·intro q hq;obtain⟨p,h4,rfl⟩:=CR hq;exact(eF R).live h4
 ·rintro q q' ⟨r,hq⟩ ⟨r',pP⟩ e;obtain⟨p,h4,rfl,_⟩:=ki hq;obtain⟨p',Ev,rfl,_⟩:=ki pP;rw[hl.inj p p' h4 Ev e]
 ·intro q hq;obtain⟨p,h4,rfl⟩:=h1 q hq;obtain⟨r,hr⟩:=(eF R).live h4;rw[hr];simp
 ·rintro q ⟨r,hq⟩;obtain⟨p,_,rfl,_⟩:=ki hq;rfl
 ·intro q r hq cs b5 z hz;obtain⟨p,h4,rfl,h5⟩:=ki hq;obtain⟨p',h6,rfl⟩:=R.aI Lb.par p r h5 cs b5 z hz;obtain⟨r',hr⟩:=(eF R).live ((R.ia _ _).1 h6);rw[hr];simp
 ·rintro x H' ⟨⟨X,R2,bO⟩,H1,⟨e1,e2,e3,rfl,e5,e6⟩,rfl⟩;simp only at e1 e2 e3 e5 e6 ⊢
  have hH:∀q,Am.live (dN (fun q=>∃p,R2.ok p∧bO p=q) H1) q→∃p,R2.ok p∧bO p=q:=by
   rintro q ⟨r,hq⟩;exact(dj.1 hq).2
  have pk:∀p r,R2.row bO p=some r→dN (fun q=>∃p,R2.ok p∧bO p=q) H1 (bO p)= .live r:=fun p r hp=>
   dj.2 ⟨e5.row p r hp,p,(R2.ia bO p).1 (by rw[hp];rfl),rfl⟩
  obtain⟨ρ',hρ⟩:∃ρ':Lb→Lb,ρ'=fun q=>if Am.live (eC R) q then rW lab q else N q:=⟨_,rfl⟩
  have mn:∀q,Am.live (eC R) q→∃p,R.ok p∧q= .par p:=by
   rintro q ⟨r,hq⟩;obtain⟨p,h4,rfl,_⟩:=ki hq;exact⟨p,h4,rfl⟩
  have CS:∀p,R.ok p→ρ' (.par p)=lab p:=fun p hp=>by rw[hρ];simp only[(eF R).live hp,if_true,rW]
  have nb:∀q,(∃p,R.ok p∧q= .par p∧ρ' q=lab p)∨(¬Am.live (eC R) q∧ρ' q=N q):=by
   intro q;by_cases e:Am.live (eC R) q
   ·obtain⟨p,h4,rfl⟩:=mn q e;exact .inl ⟨p,h4,rfl,CS p h4⟩
   ·exact .inr ⟨e,by rw[hρ];simp only[e,if_false]⟩
  have Jw:∀l p,R.ok p→N l≠lab p:=fun l p hp e=>by
   obtain⟨r,hr⟩:=hl.live hp;have:=hN l;rw[e,hr] at this;cases this
  have Mg:∀q q',ρ' q=ρ' q'→q=q':=by
   intro q q' e;rcases nb q with⟨p,g1,rfl,g2⟩|⟨g1,g2⟩
   ·rcases nb q' with⟨p',Mh,rfl,JK⟩|⟨Mh,JK⟩
    ·rw[g2,JK] at e;rw[hl.inj p p' g1 Mh e]
    ·rw[g2,JK] at e;exact absurd e.symm (Jw _ p g1)
   ·rcases nb q' with⟨p',Mh,rfl,JK⟩|⟨Mh,JK⟩
    ·rw[g2,JK] at e;exact absurd e (Jw _ p' Mh)
    ·rw[g2,JK] at e;exact Ro _ _ e
  obtain⟨cQ,me⟩:∃cQ:Nat→Lb,cQ=fun i=>ρ' (bO i):=⟨_,rfl⟩
  have zu:∀p q,R2.ok p→R2.ok q→cQ p=cQ q→p=q:=fun p q hp hq e=>by
   rw[me] at e;exact e5.inj p q hp hq (Mg _ _ e)
  obtain⟨Hd,Nt⟩:∃Hd:Hp,Hd=fun q=>if ∃p,R.ok p∧lab p=q then Slot.dead else H q:=⟨_,rfl⟩
  have ON:∀l,Hd (N l)= .unused:=fun l=>by
   rw[Nt];simp only;rw[if_neg (by rintro⟨p,g1,g2⟩;exact Jw l p g1 g2.symm)];exact hN l
  have Mi:∀p r,R2.row bO p=some r→R2.row cQ p=some (dB ρ' r):=fun p r hp=>by
   rw[me,R2.nat bO ρ' p,hp];rfl
  have nG:∀q,Hd q≠ .unused→sy cQ R2 Hd q≠ .unused:=by
   intro q hq;by_cases e:∃p,R2.ok p∧cQ p=q
   ·obtain⟨p,g1,rfl⟩:=e;obtain⟨r,hr⟩:=(jx.lM zu Hd).live g1;rw[hr];simp
   ·rw[dD Hd fun p g1 g2=>e ⟨p,g1,g2⟩];exact hq
  have Ho:∀q,H q≠ .unused→Hd q≠ .unused:=by
   intro q hq;rw[Nt];simp only;split
   ·simp
   ·exact hq
  have Hq:∀p,R2.ok p→sy cQ R2 Hd (cQ p)≠ .unused:=fun p hp=>by
   obtain⟨r,hr⟩:=(jx.lM zu Hd).live hp;rw[hr];simp
  refine⟨ρ',sy cQ R2 Hd,?_,?_,?_,fun q hq=>nG q (Ho q hq),?_,?_,?_,?_,?_⟩
  ·intro q g1 g2;obtain⟨p,h4,rfl⟩:=mn q g1;rw[CS p h4];rfl
  ·intro q r hq;rcases mF zu hq with⟨p,g1,rfl,g2⟩|⟨g1,g2⟩
   ·right;obtain⟨r0,D5⟩:=Option.isSome_iff_exists.1 ((R2.ia bO p).2 g1);have:=Mi p r0 D5;rw[g2] at this;simp only[Option.some.injEq] at this;exact⟨bO p,r0,pk p r0 D5,by rw[me],this⟩
   ·left;rw[Nt] at g2;simp only at g2;split at g2
    ·cases g2
    ·rename_i qv;refine⟨g2,fun l sQ e=> ?_⟩;obtain⟨p,h4,rfl⟩:=mn l sQ;exact qv ⟨p,h4,e⟩
  ·intro q q' _ _ e;exact Mg _ _ e
  ·intro q hq;obtain⟨p,g1,rfl⟩:=e3 q hq;have:=Hq p g1;rw[me] at this;rw[me];exact this
  ·intro q r hq cs b5 z hz;obtain⟨g0,p,g1,rfl⟩:=dj.1 hq;obtain⟨r0,D5⟩:=Option.isSome_iff_exists.1 ((R2.ia bO p).2 g1);have:=e5.row p r0 D5;rw[g0] at this;cases this;obtain⟨p',h6,rfl⟩:=R2.aI bO p _ D5 cs b5 z hz;have:=Hq p' ((R2.ia bO p').1 h6);rw[me] at this;rw[me];exact this
  ·intro q hq;obtain⟨p,g1,rfl⟩:=hH q hq;rcases nb (bO p) with⟨p',g2,g3,g4⟩|⟨g2,g3⟩
   ·left;rw[g3];exact(eF R).live g2
   ·right;rw[g3];refine⟨hN _,fun hf=> ?_⟩;rcases Jv _ hf with hf|hf
    ·exact .inl hf
    ·right;intro z hz;obtain⟨p',h4,rfl⟩:=mn z hz;exact hf p' h4
  ·rintro q hq _
   have key:∃p,R2.ok p∧bO p=q:=by
    rcases hq with hq|⟨l1,r1,cs,g1,g2,g3⟩
    ·obtain⟨p,g1,rfl⟩:=e3 q hq;exact⟨p,g1,rfl⟩
    ·obtain⟨g0,p,g4,rfl⟩:=dj.1 g1;obtain⟨r0,D5⟩:=Option.isSome_iff_exists.1 ((R2.ia bO p).2 g4);have:=e5.row p r0 D5;rw[g0] at this;cases this;obtain⟨p',h6,rfl⟩:=R2.aI bO p _ D5 cs g2 q g3;exact⟨p',(R2.ia bO p').1 h6,rfl⟩
   obtain⟨p,g1,rfl⟩:=key;obtain⟨r0,D5⟩:=Option.isSome_iff_exists.1 ((R2.ia bO p).2 g1);exact⟨r0,pk p r0 D5⟩
  ·rw[e2 ρ'];have:=hk X R2 cQ (sy cQ R2 Hd) e1 (.lM zu Hd) ?_ ?_ ?_ (fun q hq=>nG q (Ho q hq)) ?_
   ·rw[me] at this;rw[me];exact this
   ·intro p hp;rw[me];simp only;rw[e6 p hp];exact CS p (Rq p hp)
   ·intro p hp;rw[me];simp only;rcases nb (bO p) with⟨p',g2,g3,g4⟩|⟨g2,g3⟩
    ·exact .inl ⟨p',g2,g4⟩
    ·exact .inr ⟨_,g3⟩
   ·intro q g1 g2;rw[dD Hd,Nt]
    ·simp only;rw[if_neg (by rintro⟨p,g3,g4⟩;exact g1 p g3 g4.symm)]
    ·intro p hp e;rw[me] at e;simp only at e;rcases nb (bO p) with⟨p',g3,g4,g5⟩|⟨g3,g4⟩
     ·exact g1 p' g3 (e.symm.trans g5)
     ·exact g2 _ (e.symm.trans g4)
   ·intro l qv;rw[dD Hd qv];exact ON l
theorem dZ {P:Program} {G:Nat→Option (List IV)} {f:Nat} {n:Nat} {rs:List RO} {ac:AC} {args:List AV} {R:kS} {fx:List Nat} {Q:((Nat→Lb)→AV)→kS→Prop}
  (hF:aA P G f=some (n,rs,ac.bare)) (hn:args.length≤n) (ha:∀l∈ax args,∃p,R.ok p∧l= .par p)
  (hg:go ⟨P,G,n⟩ (iP rs fun x H'=>∃t:((Nat→Lb)→AV)×kS×(Nat→Lb),
   Q t.1 t.2.1∧(∀ρ,cG ρ (t.1 t.2.2)=t.1 fun i=>ρ (t.2.2 i))∧(∀l∈x.aI,∃p,t.2.1.ok p∧l=t.2.2 p)∧x=t.1 t.2.2∧jx t.2.2 t.2.1 H'∧∀p∈fx,t.2.2 p= .par p) [.code ac] (b7 args) (eC R)):n5 P G f args R fx Q:=by
 refine⟨ha,hQ hF hn ?_ ?_ hg⟩
 ·rintro l ⟨r,h⟩;obtain⟨p,_,rfl,_⟩:=ki h;rfl
 ·intro l hl;obtain⟨p,h4,rfl⟩:=ha l hl;obtain⟨r,hr⟩:=(eF R).live h4;rw[hr];simp
theorem n5.mono {P:Program} {G:Nat→Option (List IV)} {f:Nat} {args:List AV} {R:kS} {fx:List Nat} {Q Q':((Nat→Lb)→AV)→kS→Prop} (h:n5 P G f args R fx Q) (hq:∀X R,Q X R→Q' X R):n5 P G f args R fx Q':=
 ⟨h.1,h.2.mono fun x H ⟨t,h1,h2⟩=>⟨t,hq _ _ h1,h2⟩⟩
end Go.Am

/- THE ABSTRACT MACHINE, part 37: many rows become data at once. -/
namespace Go.Am
open Go Go.RowKit
mutual
def uX (X:Lb→Option (Nat×List IV)):AV→AV
 | .sl l sz i n=>match X l with
  |some (s,xs)=>if s=sz∧i+n≤xs.length then .list ((xs.drop i).take n) else .sl l sz i n
  |none=> .sl l sz i n
 | .agg cs=> .agg (kU X cs)
 | .dU cs=> .dU (kU X cs)
 |x=>x
def kU (X:Lb→Option (Nat×List IV)):List AV→List AV
 |[]=>[]
 |x::r=>uX X x::kU X r
end
def nv (X:Lb→Option (Nat×List IV)) (H:Hp):Hp:=fun l=>match X l with
 |some _=> .dead
 |none=>match H l with
  | .live r=> .live ⟨r.sz,r.els.map (kU X)⟩
  |s=>s
theorem wj (X:Lb→Option (Nat×List IV)):∀xs,(kU X xs).length=xs.length
 |[]=>rfl
 |x::r=>by simp[kU,wj X r]
theorem wm (X:Lb→Option (Nat×List IV)):∀(xs:List AV) (i:Nat),(kU X xs)[i]?=xs[i]?.map (uX X)
 |[],i=>by simp[kU]
 |x::r,0=>by simp[kU]
 |x::r,i+1=>by simp[kU,wm X r]
mutual
theorem zv (X:Lb→Option (Nat×List IV)):∀(x:AV) (l:Lb),l∈(uX X x).aI→l∈x.aI
 | .sl q sz i n,l,h=>by
  simp only[uX] at h;split at h
  ·split at h
   ·simp[AV.aI] at h
   ·exact h
  ·exact h
 | .agg cs,l,h=>by simp only[uX,AV.aI] at h ⊢;exact oO X cs l h
 | .dU cs,l,h=>by simp only[uX,AV.aI] at h ⊢;exact oO X cs l h
 | .slk ..,l,h| .ptr ..,l,h| .any,l,h| .un,l,h| .bool _,l,h| .int ..,l,h| .str _,l,h| .list _,l,h| .kL,l,h| .nil0,l,h| .jG,l,h| .lptr _,l,h| .fn ..,l,h| .ifc ..,l,h=>h
theorem oO (X:Lb→Option (Nat×List IV)):∀(xs:List AV) (l:Lb),l∈ax (kU X xs)→l∈ax xs
 |[],l,h=>h
 |x::r,l,h=>by
  simp only[kU,ax,List.mem_append] at h ⊢;exact h.imp (zv X x l) (oO X r l)
end
theorem oP {X:Lb→Option (Nat×List IV)} {H:Hp} {l:Lb} {r:Row} (h:nv X H l= .live r):X l=none∧∃r0,H l= .live r0∧r=⟨r0.sz,r0.els.map (kU X)⟩:=by
 unfold nv at h;split at h
 ·cases h
 ·rename_i e;split at h
  ·rename_i r0 h0;simp only[Slot.live.injEq] at h;exact⟨e,r0,h0,h.symm⟩
  ·rename_i hn;exact absurd h (hn r)
theorem rX {X:Lb→Option (Nat×List IV)} {H:Hp} {l:Lb} (h:H l≠ .unused):nv X H l≠ .unused:=by
 unfold nv;split
 ·simp
 ·split
  ·simp
  ·exact h
section
variable {K:Kx} {β:Lb→Option Nat} {env:Env} {H:Hp} {a:Act} {w:World} {X:Lb→Option (Nat×List IV)}
theorem lN (l:Lb) (h:live (nv X H) l):live H l:=by
 obtain⟨r,h⟩:=h;obtain⟨_,r0,h0,_⟩:=oP h;exact⟨r0,h0⟩
theorem oQ (ls:List Lb):g_ w w β β H (nv X H) (Im K β H) (Im K β (nv X H)) ls:=
 ⟨⟨fun k hk hs=>⟨⟨hk.1,fun l hl=>hk.2 l (lN l hl)⟩,hs,rfl⟩⟩,fun l _ hl=>⟨lN l hl,rfl,fun _ _ _ h=>h⟩⟩
mutual
theorem CT (hr:bj K β env H a w) (hX:∀l sz xs,X l=some (sz,xs)→H l= .live ⟨sz,ay xs⟩∧l.fresh=true∧Flat xs):∀(x:AV) (v:Value),RV w β H (Im K β H) x v→RV w β (nv X H) (Im K β (nv X H)) (uX X x) v
 | .sl l sz i n,v,h=>by
  simp only[uX];split
  ·rename_i s xs e;split
   ·rename_i hc;obtain⟨rfl,mn⟩:=hc;obtain⟨h1,h2,h3⟩:=hX l _ _ e;have h4:=xI hr h1 h2 mn h3 h;simp only[RV] at h4 ⊢;refine ic.mono ⟨fun k hk hs=>⟨⟨hk.1,fun q hq=>hk.2 q ?_⟩,hs,rfl⟩⟩ _ _ h4;obtain⟨r,hq⟩:=hq;obtain⟨q1,r0,q2,_⟩:=oP hq;refine⟨r0,?_⟩;rw[aq _ _ (by rintro rfl;rw[e] at q1;cases q1)];exact q2
   ·exact RV.mono _ _ (oQ _) h
  ·exact RV.mono _ _ (oQ _) h
 | .agg cs,v,h=>by
  simp only[uX,RV] at h ⊢;obtain⟨vs,rfl,h1⟩:=h;exact⟨vs,rfl,yi hr hX cs vs h1⟩
 | .dU cs,v,h=>by
  simp only[uX,RV] at h ⊢;obtain⟨vs,rfl,h1⟩:=h;exact⟨vs,rfl,yi hr hX cs vs h1⟩
 | .slk ..,v,h| .ptr ..,v,h| .any,v,h| .un,v,h| .bool _,v,h| .int ..,v,h| .str _,v,h| .list _,v,h| .kL,v,h| .nil0,v,h| .jG,v,h| .lptr _,v,h| .fn ..,v,h| .ifc ..,v,h=>RV.mono _ _ (oQ _) h
theorem yi (hr:bj K β env H a w) (hX:∀l sz xs,X l=some (sz,xs)→H l= .live ⟨sz,ay xs⟩∧l.fresh=true∧Flat xs):∀(xs:List AV) (vs:List Value),b8 w β H (Im K β H) xs vs→b8 w β (nv X H) (Im K β (nv X H)) (kU X xs) vs
 |[],vs,h=>h
 |x::r,vs,h=>by
  simp only[kU,b8] at h ⊢;obtain⟨v,us,rfl,h1,h2⟩:=h;exact⟨v,us,rfl,CT hr hX x v h1,yi hr hX r us h2⟩
end
theorem bj.fz (hr:bj K β env H a w) (hX:∀l sz xs,X l=some (sz,xs)→H l= .live ⟨sz,ay xs⟩∧l.fresh=true∧Flat xs) {env2:Env} (he:∀n,env2 n= .any∨env2 n=uX X (env n)):bj K β env2 (nv X H) a w where
 defers:=hr.defers
 size:=hr.size
 jj n:=by
  rcases he n with e|e
  ·rw[e];simp[RV]
  ·rw[e];exact CT hr hX _ _ (hr.jj n)
 rows l r hl:=by
  obtain⟨_,r0,h0,rfl⟩:=oP hl;obtain⟨h1,h2,h3⟩:=hr.rows l r0 h0;refine⟨h1,?_,?_⟩
  ·intro cs b5;obtain⟨c0,GO,rfl⟩:=List.mem_map.1 b5;rw[wj];exact h2 c0 GO
  ·cases hb:β l with
   |none=>rw[hb] at h3;simp only at h3;simp[h3]
   |some g=>
    rw[hb] at h3;simp only at h3 ⊢;obtain⟨cur,e,cap,e1,e2,e3,e4,e5⟩:=h3;refine⟨cur,e,cap,e1,e2,e3,by simpa using e4,?_⟩;intro i j cs x hi hj;rw[List.getElem?_map,Option.map_eq_some_iff] at hi;obtain⟨c0,hi,rfl⟩:=hi;rw[wm,Option.map_eq_some_iff] at hj;obtain⟨x0,hj,rfl⟩:=hj;obtain⟨v,k1,k2⟩:=e5 i j c0 x0 hi hj;exact⟨v,k1,CT hr hX _ _ k2⟩
 own l g hl:=hr.own l g (lN l hl)
 inj l l' g hl ir:=hr.inj l l' g (lN l hl) (lN l' ir)
 gO n l hl:=by
  rcases he n with e|e
  ·rw[e] at hl;simp[AV.aI] at hl
  ·rw[e] at hl;exact rX (hr.gO n l (zv X _ l hl))
 dA l r hl cs b5 q hq:=by
  obtain⟨_,r0,h0,rfl⟩:=oP hl;obtain⟨c0,GO,rfl⟩:=List.mem_map.1 b5;exact rX (hr.dA l r0 h0 c0 GO q (oO X _ q hq))
 frame:=hr.frame
 jI g cs hg:=by
  obtain⟨h1,h2,h3⟩:=hr.jI g cs hg;have hk:=(oQ (K:=K) (β:=β) (H:=H) (X:=X) (w:=w) []).tojH;exact⟨(hk.im g h1 h2).1,h2,ca.mono hk cs g 0 h1 h2 h3⟩
 jJ l hl:=⟨rX (hr.jJ l hl).1,fun h=>(hr.jJ l hl).2 (lN l h)⟩
 fr l g hl:=hr.fr l g (lN l hl)
end
theorem tF {S:St} {env:Env} {H:Hp} (X:Lb→Option (Nat×List IV)) (hX:∀l sz xs,X l=some (sz,xs)→H l= .live ⟨sz,ay xs⟩∧l.fresh=true∧Flat xs) {env2:Env}
  (he:∀n,env2 n= .any∨env2 n=uX X (env n)):iz S env H env2 (nv X H):=
 fun K β a w _ _ hr=>⟨β,hr.fz hX he⟩
theorem iz.trans {S:St} {env env2 Mj:Env} {H H2 H3:Hp} (h1:iz S env H env2 H2) (h2:iz S env2 H2 Mj H3):iz S env H Mj H3:=fun K β a w e hf hr=>by
 obtain⟨β',mq⟩:=h1 K β a w e hf hr;exact h2 K β' a w e hf mq
theorem rY {X:Lb→Option (Nat×List IV)} {H:Hp} {l:Lb} {r:Row} (h:X l=none) (hl:H l= .live r):nv X H l= .live ⟨r.sz,r.els.map (kU X)⟩:=by simp[nv,h,hl]
end Go.Am

/- THE ABSTRACT MACHINE, part 44: loops over rows of any shape. -/
namespace Go.Am
open Go Go.RowKit
open Classical in
noncomputable def iK (labC lab:Nat→Lb) (R:kS) (m:List (Lb×Lb)):Lb→Lb:=fun q=>
 if h:∃p,R.ok p∧labC p=q then lab (Classical.choose h) else dS m q
theorem fG {labC lab:Nat→Lb} {R:kS} {m:List (Lb×Lb)} (hi:∀p q,R.ok p→R.ok q→labC p=labC q→p=q) {p:Nat} (hp:R.ok p):iK labC lab R m (labC p)=lab p:=by
 have h:∃p',R.ok p'∧labC p'=labC p:=⟨p,hp,rfl⟩;have hc:=Classical.choose_spec h;unfold iK;rw[dif_pos h,hi _ _ hc.1 hp hc.2]
theorem eR {labC lab:Nat→Lb} {R:kS} {m:List (Lb×Lb)} {q:Lb} (h:∀p,R.ok p→labC p≠q):iK labC lab R m q=dS m q:=by
 unfold iK;rw[dif_neg (by rintro⟨p,h1,h2⟩;exact h p h1 h2)]
structure WH (labC:Nat→Lb) (R:kS) (ls:List Lb) (u:Lb→Bool) (ps:List (Nat×AV)) (rs:List (Lb×Row)) (env:Env) (H:Hp) (lab:Nat→Lb) (m:List (Lb×Lb)):Prop where
 at':jx lab R H
 nf:∀l:Lb,l.entry=true→H l≠ .unused→(∃p,R.ok p∧labC p=l)∨l∈ls∨u l=true
 e:nt (iK labC lab R m) env ps
 r:∀q∈rs,H (dS m q.1)= .live (dB (iK labC lab R m) q.2)
 inj:(ls.map (dS m)).Nodup
 ap:∀l∈ls,∀p,R.ok p→lab p≠dS m l
 fr:∀l∈ls,(l.fresh=true→(dS m l).fresh=true)∧(l.entry=true→dS m l=l)
 fp:∀p,R.ok p→((labC p).fresh=true→(lab p).fresh=true)∧((labC p).entry=true→lab p=labC p)
theorem WH.wk {labC:Nat→Lb} {R:kS} {ls:List Lb} {u:Lb→Bool} {ps:List (Nat×AV)} {rs:List (Lb×Row)} {env:Env} {H:Hp} {lab:Nat→Lb} {m:List (Lb×Lb)} (h:WH labC R ls u ps rs env H lab m)
   (hi:∀p q,R.ok p→R.ok q→labC p=labC q→p=q) (nr:rs.map Prod.fst=ls) (hC:∀l∈ls,∀p,R.ok p→labC p≠l) (hp:∀l∈ax (ps.map Prod.snd),l∈ls∨∃p,R.ok p∧labC p=l)
   (hr:∀q∈rs,∀cs∈q.2.els,∀l∈ax cs,l∈ls∨∃p,R.ok p∧labC p=l):Wk (iK labC lab R m) env H (kF ps) (sy labC R (fM u rs)):=by
 have sQ:∀l,live (sy labC R (fM u rs)) l→(∃p,R.ok p∧labC p=l)∨((∀p,R.ok p→labC p≠l)∧l∈ls):=by
   rintro l ⟨r,hl⟩
   rcases mF hi hl with⟨p,h1,h2,_⟩|⟨h1,h2⟩
   · exact .inl ⟨p,h1,h2⟩
   · exact .inr ⟨h1,by rw[←nr];exact List.mem_map.2 ⟨_,fI (iE.1 h2),rfl⟩⟩
 have Kz:∀l,(l∈ls∨∃p,R.ok p∧labC p=l)→sy labC R (fM u rs) l≠ .unused:=by
   intro l hl
   by_cases e:∃p,R.ok p∧labC p=l
   · obtain⟨p,h1,rfl⟩:=e
     obtain⟨r,hr⟩:=(jx.lM hi (fM u rs)).live h1
     rw[hr];simp
   · rw[dD _ fun p h1 h2=>e ⟨p,h1,h2⟩]
     rcases hl with hl|hl
     · exact ju (.inl (by rw[nr];exact hl))
     · exact absurd hl e
 refine⟨h.e.we,?_,?_,nY fun l hl=>Kz l (hp l hl),?_,?_,?_⟩
 · intro l r hl
   rcases mF hi hl with⟨p,h1,rfl,h2⟩|⟨h1,h2⟩
   · rw[fG hi h1]
     have:=R.nat labC (iK labC lab R m) p
     have e:R.row (fun i=>iK labC lab R m (labC i)) p=R.row lab p:=by
       have h0:=R.nat Lb.par (rW (fun i=>iK labC lab R m (labC i))) p
       have P':=R.nat Lb.par (rW lab) p
       simp only[rW] at h0 P'
       rw[h0,P']
       cases kP:R.row Lb.par p with
       |none=>rfl
       |some r0=>
         simp only[Option.map_some,Option.some.injEq,dB,Row.mk.injEq,true_and]
         refine List.map_congr_left fun cs b5=>gp cs fun z hz=> ?_
         obtain⟨p',h6,rfl⟩:=R.aI Lb.par p r0 kP cs b5 z hz
         simp only[rW]
         exact fG hi ((R.ia _ _).1 h6)
     rw[e,h2] at this
     exact h.at'.row p _ this
   · rw[eR h1]
     exact h.r _ (fI (iE.1 h2))
 · intro l l' g1 g2 e
   rcases sQ l g1 with⟨p,h1,rfl⟩|⟨h1,HS⟩<;>rcases sQ l' g2 with⟨p',h2,rfl⟩|⟨h2,Nb⟩
   · rw[fG hi h1,fG hi h2] at e
     rw[h.at'.inj p p' h1 h2 e]
   · rw[fG hi h1,eR h2] at e
     exact absurd e (h.ap _ Nb p h1)
   · rw[eR h1,fG hi h2] at e
     exact absurd e.symm (h.ap _ HS p' h2)
   · rw[eR h1,eR h2] at e
     exact gR h.inj l HS l' Nb e
 · intro l r hl cs b5 q hq
   rcases mF hi hl with⟨p,h1,rfl,h2⟩|⟨h1,h2⟩
   · obtain⟨p',h6,rfl⟩:=R.aI labC p r h2 cs b5 q hq
     exact Kz _ (.inr ⟨p',(R.ia _ _).1 h6,rfl⟩)
   · exact Kz q (hr _ (fI (iE.1 h2)) cs b5 q hq)
 · intro l hf
   refine⟨fun hu=> ?_,fun hl=> ?_⟩
   · rcases h.nf l hf hu with⟨p,h1,h2⟩|h1|h1
     · exact Kz l (.inr ⟨p,h1,h2⟩)
     · exact Kz l (.inl h1)
     · by_cases e : ∃ p,R.ok p ∧ labC p = l
       · exact Kz l (.inr e)
       · rw[dD _ fun p h1 h2=>e ⟨p,h1,h2⟩]
         exact ju (.inr h1)
   · rcases sQ l hl with⟨p,h1,rfl⟩|⟨h1,h2⟩
     · rw[fG hi h1];exact(h.fp p h1).2 hf
     · rw[eR h1];exact(h.fr l h2).2 hf
 · intro l hl hf
   rcases sQ l hl with⟨p,h1,rfl⟩|⟨h1,h2⟩
   · rw[fG hi h1];exact(h.fp p h1).1 hf
   · rw[eR h1];exact(h.fr l h2).1 hf
theorem oR {σ:Type} {S:St} {Q:ka} {c:AC} {k:List It} {env:Env} {H:Hp} (labC:Nat→Lb) (R:σ→kS) (ls:List Lb) (u:Lb→Bool) (ps:σ→List (Nat×AV)) (rs:σ→List (Lb×Row)) (μ:σ→Nat) (s0:σ)
  (hi:∀s p q,(R s).ok p→(R s).ok q→labC p=labC q→p=q) (nr:∀s,(rs s).map Prod.fst=ls) (hC:∀s,∀l∈ls,∀p,(R s).ok p→labC p≠l) (hp:∀s,∀l∈ax ((ps s).map Prod.snd),l∈ls∨∃p,(R s).ok p∧labC p=l)
  (hr:∀s,∀q∈rs s,∀cs∈q.2.els,∀l∈ax cs,l∈ls∨∃p,(R s).ok p∧labC p=l) (h0:∃lab m,WH labC (R s0) ls u (ps s0) (rs s0) env H lab m)
  (round:∀s,go S (nD S Q k (fun env H s=>∃lab m,WH labC (R s) ls u (ps s) (rs s) env H lab m) μ (μ s)) [.code c] (kF (ps s)) (sy labC (R s) (fM u (rs s)))):oq S Q c k env H:=
 mB (fun s=>kF (ps s)) (fun s=>sy labC (R s) (fM u (rs s))) _ (fun _ _ s ⟨lab,m,h⟩=>⟨_,h.wk (hi s) (nr s) (hC s) (hp s) (hr s)⟩) μ s0 h0 round
end Go.Am

/- THE ABSTRACT MACHINE, part 49: names for what a call makes; nil handed back as one's own. -/
namespace Go.Am
open Go Go.RowKit
def p2 (a b:Nat):Nat:=2^a*(2*b+1)
theorem fH:∀{a b c d:Nat},p2 a b=p2 c d→a=c∧b=d
 |0,b,0,d,h=>by simp[p2] at h;omega
 |0,b,c+1,d,h=>by
  simp only[p2,Nat.pow_succ,Nat.pow_zero,Nat.one_mul] at h;have:2^c*2*(2*d+1)=2*(2^c*(2*d+1)):=by rw[Nat.mul_comm (2^c) 2,Nat.mul_assoc]
  omega
 |a+1,b,0,d,h=>by
  simp only[p2,Nat.pow_succ,Nat.pow_zero,Nat.one_mul] at h;have:2^a*2*(2*b+1)=2*(2^a*(2*b+1)):=by rw[Nat.mul_comm (2^a) 2,Nat.mul_assoc]
  omega
 |a+1,b,c+1,d,h=>by
  have h2:p2 a b=p2 c d:=by
   simp only[p2,Nat.pow_succ] at h ⊢;have e1:2^a*2*(2*b+1)=2*(2^a*(2*b+1)):=by rw[Nat.mul_comm (2^a) 2,Nat.mul_assoc]
   have e2:2^c*2*(2*d+1)=2*(2^c*(2*d+1)):=by rw[Nat.mul_comm (2^c) 2,Nat.mul_assoc]
   omega
  have:=fH h2;omega
def Lb.enc:Lb→Nat
 | .loc n=>p2 0 n
 | .par n=>p2 1 n
 | .gen n=>p2 2 n
 | .nest l i j=>p2 3 (p2 l.enc (p2 i j))
theorem Lb.zw:∀l l':Lb,l.enc=l'.enc→l=l'
 | .loc n,.loc m,h=>by rw[(fH h).2]
 | .par n,.par m,h=>by rw[(fH h).2]
 | .gen n,.gen m,h=>by rw[(fH h).2]
 | .nest l i j,.nest l' i' j',h=>by
  have h1:=fH (fH h).2;have h2:=fH h1.2;rw[Lb.zw l l' h1.1,h2.1,h2.2]
 | .loc n,.par m,h=>by have:=(fH h).1;omega
 | .loc n,.gen m,h=>by have:=(fH h).1;omega
 | .loc n,.nest _ _ _,h=>by have:=(fH h).1;omega
 | .par n,.loc m,h=>by have:=(fH h).1;omega
 | .par n,.gen m,h=>by have:=(fH h).1;omega
 | .par n,.nest _ _ _,h=>by have:=(fH h).1;omega
 | .gen n,.loc m,h=>by have:=(fH h).1;omega
 | .gen n,.par m,h=>by have:=(fH h).1;omega
 | .gen n,.nest _ _ _,h=>by have:=(fH h).1;omega
 | .nest _ _ _,.loc m,h=>by have:=(fH h).1;omega
 | .nest _ _ _,.par m,h=>by have:=(fH h).1;omega
 | .nest _ _ _,.gen m,h=>by have:=(fH h).1;omega
def NW (c:Nat) (l:Lb):Lb:= .nest (.loc c) l.enc 1
theorem CU (c:Nat):∀l l',NW c l=NW c l'→l=l':=fun l l' h=>Lb.zw _ _ (by simpa[NW] using h)
def NC (c:Nat) (l:Lb):Lb:= .nest l c 2
theorem mG (c:Nat):∀l l',NC c l=NC c l'→l=l':=fun l l' h=>by simpa[NC] using h
def AK (sz:Nat) (xs:List IV):kS where
 row _ p:=if p=0 then some ⟨sz,ay xs⟩ else none
 nat lab ρ p:=by by_cases h:p=0<;>simp[h,de]
 aI lab p r h cs b5 q hq:=by
  by_cases h0:p=0
  ·simp[h0] at h;subst h;rw[dK b5] at hq;simp at hq
  ·simp[h0] at h
theorem oS {sz:Nat} {xs:List IV} {p:Nat}:(AK sz xs).ok p↔p=0:=by
 unfold kS.ok AK;by_cases h:p=0<;>simp[h]
def CV:kS where
 row _ _:=none
 nat _ _ _:=rfl
 aI _ _ _ h:=by cases h
theorem oT {p:Nat}:¬CV.ok p:=by simp[kS.ok,CV]
theorem JL:eC CV=Hp.none:=by
 funext q;exact dD _ fun p hp=>absurd hp oT
abbrev uY (P:Program) (G:Nat→Option (List IV)) (f:Nat) (args:List AV) (sz:Nat) (xs:List IV):Prop:=
 n5 P G f args CV [] fun X R2=>X=(fun lab=> .sl (lab 0) sz 0 xs.length)∧R2=AK sz xs
theorem tG {P:Program} {G:Nat→Option (List IV)} {f:Nat} {n:Nat} {rs:List RO} {ac:AC} {args:List AV} {sz:Nat} {xs:List IV}
  (hF:aA P G f=some (n,rs,ac.bare)) (hn:args.length≤n) (ha:ax args=[])
  (hg:go ⟨P,G,n⟩ (iP rs fun x H'=>∃L,x= .sl L sz 0 xs.length∧H' L= .live ⟨sz,ay xs⟩) [.code ac] (b7 args) Hp.none):uY P G f args sz xs:=by
 refine⟨by rw[ha];simp,?_⟩;rw[JL];refine(hQ hF hn (by intro l ⟨r,h⟩;simp[Hp.none] at h) (by rw[ha];simp) hg).mono ?_;rintro x H ⟨L,hx,hL⟩;refine⟨⟨fun lab=> .sl (lab 0) sz 0 xs.length,AK sz xs,fun _=>L⟩,⟨rfl,rfl⟩,fun ρ=>rfl,fun l hl=>⟨0,oS.2 rfl,?_⟩,hx,⟨fun p r hr=> ?_,fun p q hp hq _=>(oS.1 hp).trans (oS.1 hq).symm⟩,by simp⟩
 ·rw[hx] at hl;simpa[AV.aI] using hl
 ·simp only[AK] at hr;by_cases h:p=0
  ·simp[h] at hr;subst hr;exact hL
  ·simp[h] at hr
end Go.Am

/- THE ABSTRACT MACHINE, part 39: a slice's room, made known; rows cut short. -/
namespace Go.Am
open Go Go.RowKit
section
variable {S:St} {env:Env} {H:Hp}
theorem bj.wo {K:Kx} {β:Lb→Option Nat} {a:Act} {w:World} (hr:bj K β env H a w) {l:Lb} {sz:Nat} {els yj:List (List AV)} (hl:H l= .live ⟨sz,els⟩) (g:Nat) (hb:β l=some g)
   (hlen:∀cur e cap,w.heap[g]?=some (.cells cur e (0,0))→cur.size=cap*sz→els.length≤cap→yj.length≤cap) (b5:∀cs∈yj,cs.length=sz) (hm:∀cs∈yj,∀q∈ax cs,H q≠ .unused)
   (hc:∀(i j:Nat) cs x,yj[i]?=some cs→cs[j]?=some x→x= .any∨∃BL,els[i]?=some BL∧BL[j]?=some x):bj K β env (bG H l (.live ⟨sz,yj⟩)) a w:=by
 obtain⟨cur,e0,cap,k1,k2,k3,k4,k5⟩:=(hr.rows l _ hl).block hb
 have ld:=hr.setRow l (r':=⟨sz,yj⟩) (cur':=cur) (cap:=cap) hl hb k1 rfl rfl k2 k3 (hlen cur e0 cap k1 k2 k4) b5 hm (by
   intro i j cs x hi hj
   rcases hc i j cs x hi hj with rfl|⟨BL,h1,h2⟩
   · have GL:j<sz:=by
       have:=b5 cs (List.mem_of_getElem? hi)
       have:=(List.getElem?_eq_some_iff.1 hj).1
       omega
     have qT:i<yj.length:=(List.getElem?_eq_some_iff.1 hi).1
     have qR:=hlen cur e0 cap k1 k2 k4
     have:i*sz+j<cur.size:=by
       rw[k2]
       have:=Nat.mul_le_mul_right sz (show i+1≤cap by omega)
       rw[Nat.add_mul] at this
       simp only at this ⊢
       omega
     exact⟨cur[i*sz+j],Array.getElem?_eq_getElem this,by simp[RV]⟩
   · exact k5 i j BL x h1 h2)
 rw[setRow_self w g cur e0 (0,0) k1] at ld
 exact ld
theorem tH {l:Lb} {r:Row} (h:H l= .live r):bG H l (.live r)=H:=by
 funext q;by_cases e:q=l
 ·subst e;simp[h]
 ·rw[aq _ _ e]
theorem lO {d : Nat} {l : Lb} {sz n : Nat} {els : List (List AV)} (hd : env d = .sl l sz 0 n) (hl : H l = .live ⟨sz,els⟩) :
   Choice S env H {c:Nat // n≤c∧c≤maxLen} (fun c=>put env d (.slk l sz 0 n c.1)) (fun c=>bG H l (.live ⟨sz,els++List.replicate (c.1 - els.length) (List.replicate sz .any)⟩)):=by
 intro K β a w hS hf hr
 have hv:=hr.jj d
 rw[hd] at hv
 simp only[RV] at hv
 obtain⟨ad,c,h1,h2,h3,h4,h5⟩:=hv
 have k8:0<sz:=(hr.rows l _ hl).1
 refine⟨⟨c,h2,h3⟩,β,?_⟩
 have kP:bj K β env (bG H l (.live ⟨sz,els++List.replicate (c - els.length) (List.replicate sz .any)⟩)) a w:=by
   rcases h5 ⟨_,hl⟩ with h6|⟨g,Sz,g1,g2,g3,g4⟩
   · subst h6
     simp only[Nat.zero_sub,List.replicate_zero,List.append_nil]
     rw[tH hl]
     exact hr
   · refine hr.wo hl g g1 ?_ ?_ ?_ ?_
     · intro cur e cap k1 k2 k4
       have hS:cur.size=Sz:=by
         unfold lY at g3
         simp only[k1] at g3
         simpa using g3
       have:(0+c)*sz=cap*sz:=by rw[g4,←hS,k2]
       have:=Nat.eq_of_mul_eq_mul_right k8 this
       simp;omega
     · intro cs b5
       rcases List.mem_append.1 b5 with h|h
       · exact(hr.rows l _ hl).2.1 cs h
       · rw[List.eq_of_mem_replicate h];simp
     · intro cs b5 q hq
       rcases List.mem_append.1 b5 with h|h
       · exact hr.dA l _ hl cs h q hq
       · rw[List.eq_of_mem_replicate h] at hq
         have:∀m:Nat,ax (List.replicate m AV.any)=[]:=by
           intro m
           induction m with
           |zero=>rfl
           |succ m ih=>simp[List.replicate_succ,ax,AV.aI,ih]
         rw[this] at hq;simp at hq
     · intro i j cs x hi hj
       by_cases h:i<els.length
       · rw[List.getElem?_append_left h] at hi
         exact .inr ⟨cs,hi,hj⟩
       · rw[List.getElem?_append_right (by omega),List.getElem?_replicate] at hi
         split at hi
         · simp only[Option.some.injEq] at hi;subst hi
           rw[List.getElem?_replicate] at hj
           split at hj
           · simp only[Option.some.injEq] at hj
             exact .inl hj.symm
           · simp at hj
         · simp at hi
 refine qy kP d ?_ (by simp[AV.aI])
 simp only[RV]
 refine⟨ad,h1,h2,h3,?_,fun _=>h5 ⟨_,hl⟩⟩
 intro hc
 rcases h5 ⟨_,hl⟩ with h6|⟨g,Sz,g1,g2,g3,g4⟩
 · omega
 · rw[g2];rfl
end
end Go.Am
