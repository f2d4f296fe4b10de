import Derived.Test.YtfinkeaikbmpgaaGreatDoorKAm25
set_option linter.unusedSimpArgs false
set_option linter.unusedVariables false
set_option linter.unnecessarySimpa false
set_option linter.defProp false
/- THE ABSTRACT MACHINE, part 47: calls of values. -/
namespace Go.Am
open Go Go.RowKit
section
variable {S:St} {env:Env} {H:Hp}
def uQ (S:St) (x:AV) (args:List AV) (H:Hp) (k:AV→Hp→Prop) (_:Tw k):Prop:=∃f first cap,x= .fn f first cap∧db S.P f=true∧cY S f (first++args++cap) H k
theorem l3 (d:Option Nat) (x:O) (args:List O) (k:AV→Hp→Prop):an S d (.bH x args) env H k=uQ S (ev env x) (args.map (ev env)) H k .mk:=rfl
theorem qJ (f:Nat) (first cap args:List AV) (k:AV→Hp→Prop) (u:Tw k):uQ S (.fn f first cap) args H k u=(db S.P f=true∧s7 S f (first++args++cap) H k .mk):=by
 simp only[uQ,s7,AV.fn.injEq,eq_iff_iff];constructor
 ·rintro⟨_,_,_,⟨rfl,rfl,rfl⟩,h⟩;exact h
 ·intro h;exact⟨_,_,_,⟨rfl,rfl,rfl⟩,h⟩
end
end Go.Am

/- topiarylaw: a store that is nil. -/
set_option pp.deepTerms false
set_option pp.deepTerms.threshold 8
set_option maxRecDepth 20000
namespace Go.Am
open Go Go.RowKit
section
variable {P:Program} {G:Nat→Option (List IV)}
def ep (c:Int):AV:= .agg [.int .i64 c,.int .i64 0,.str []]
def bw:AC:=
(.seq (.ca [⟨some 2,none,.new [(.int .i64 0),(.int .i64 0),(.str [])]⟩]) (.seq (.ca [⟨some 3,none,.bT (.t 0)⟩,⟨some 4,none,.jb [(.int .i64 0),(.int .i64 0),(.str [])] [(0,(1,(.t 3)))]⟩,⟨none,none,.store 3 (.t 2) (.t 4)⟩]) .ret))
theorem wT {aA:Nat} (hF:dj P G aA=some (5,[((some (some 3)),2)],bw.bare)) (c:Int):aW P G aA [.int .i64 c] (ep c):=by
 refine cO hF (by simp) (by simp[ak,AV.aw]) (by simp[AV.aw,ak,ep]) ?_;unfold bw;simp only[↓aX,mX,reduceCtorEq,Nat.reduceEqDiff,Nat.reduceLT,Nat.reduceLeDiff,Nat.reduceAdd,Nat.reduceMul,Int.reduceToNat,Int.reduceLE,Int.reduceLT,ep]
def bF (aV a6:Nat):AC:=
(.seq (.ca [⟨some 2,none,.new [.nil0]⟩]) (.seq (.seq (.ca [⟨some 6,none,.bT (.t 0)⟩,⟨some 7,none,.kt false (.t 6) (.c .bY)⟩]) (.cond (.t 7) (.seq (.ca [⟨some 8,none,.jb [.nil0] []⟩,⟨none,none,.store 1 (.t 2) (.t 8)⟩]) .ret) .skip)) (.seq (.ca [⟨some 3,none,.new [.nil0]⟩]) (.seq (.seq (.ca [⟨some 9,none,.bT (.t 0)⟩,⟨some 10,none,.c_ (.t 9)⟩,⟨some 11,none,.dU (.t 10) 0⟩,⟨some 12,none,.dU (.t 11) 0⟩,⟨some 13,none,.load none (.t 12)⟩,⟨some 14,none,.len (.t 13)⟩,⟨some 15,none,.bT (.c (.int .i64 0))⟩]) (.block 0 (.loop (.seq (.ca [⟨some 16,none,.bin .lss (.t 15) (.t 14)⟩]) (.seq (.cond (.t 16) .skip (.exit 0)) (.seq (.block 1 (.seq (.ca [⟨some 17,none,.kr (.t 13) (.t 15) 5⟩,⟨some 18,none,.load (some 5) (.t 17)⟩,⟨some 5,none,.new [(.bool false),(.str []),.nil0,(.int .i64 0),.nil0]⟩,⟨none,none,.store 5 (.t 5) (.t 18)⟩]) (.seq (.hX [⟨some 19,none,.dU (.t 5) 2⟩,⟨some 20,none,.load none (.t 19)⟩,⟨some 21,none,.call aV [(.t 20)]⟩,⟨some 22,none,.dU (.t 5) 4⟩,⟨some 23,none,.load none (.t 22)⟩,⟨some 24,none,.call a6 [(.t 23)]⟩,⟨some 25,none,.dU (.t 5) 2⟩,⟨none,none,.store 1 (.t 25) (.t 21)⟩,⟨some 26,none,.dU (.t 5) 4⟩,⟨none,none,.store 1 (.t 26) (.t 24)⟩] [[],[0],[1],[],[3],[4,2],[0,1,2,3,4],[6,2,5,0,1,2,3,4],[0,1,2,3,4,5,6,7],[8,5,7,0,1,2,3,4,5,6,7]] [.no,.rw [.loc 5] [],.no,.no,.rw [.loc 5] [],.no,.no,.rw [] [.loc 5],.no,.rw [] [.loc 5]]) (.ca [⟨some 27,none,.dU (.t 3) 0⟩,⟨some 28,none,.load none (.t 27)⟩,⟨some 29,none,.load (some 5) (.t 5)⟩,⟨some 30,none,.lits 1 5 [(.bool false),(.str []),.nil0,(.int .i64 0),.nil0] [(0,(.t 29))]⟩,⟨some 31,none,.app (.t 28) (.t 30) 5 80⟩,⟨some 32,none,.dU (.t 3) 0⟩,⟨none,none,.store 1 (.t 32) (.t 31)⟩])))) (.ca [⟨some 33,none,.bin .add (.t 15) (.c (.int .i64 1))⟩,⟨some 15,none,.bT (.t 33)⟩]))))))) (.seq (.ca [⟨some 34,none,.load (some 1) (.t 3)⟩,⟨none,none,.store 1 (.t 2) (.t 34)⟩]) .ret)))))
theorem n0 {aF aV a6:Nat} (hF:dj P G aF=some (35,[((some (some 1)),2)],(bF aV a6).bare)):aW P G aF [.bY] (.agg [.nil0]):=by
 refine cO hF (by simp) (by simp[ak,AV.aw]) (by simp[AV.aw,ak]) ?_;unfold bF;simp only[↓aX,mX,reduceCtorEq,Nat.reduceEqDiff,Nat.reduceLT,Nat.reduceLeDiff,Nat.reduceAdd,Nat.reduceMul,Int.reduceToNat,Int.reduceLE,Int.reduceLT,sK]
def bO (aA cR dR bm dS cS:Nat):AC:=
(.seq (.ca [⟨some 3,none,.box (.t 1)⟩,⟨some 4,none,.new [(.int .i64 0),(.int .i64 0),(.str [])]⟩]) (.seq (.ca [⟨some 5,none,.bT (.c (.fn aA [] []))⟩]) (.seq (.block 0 (.seq (.ca [⟨some 13,none,.bT (.t 0)⟩,⟨some 14,none,.kt false (.t 13) (.c .bY)⟩,⟨some 12,none,.bT (.t 14)⟩]) (.cond (.t 12) (.seq (.ca [⟨some 15,none,.bT (.t 5)⟩,⟨some 16,none,.bH (.t 15) [(.c (.int .i64 3))]⟩,⟨none,none,.store 3 (.t 4) (.t 16)⟩]) .ret) (.seq (.ca [⟨some 18,none,.bT (.t 0)⟩,⟨some 19,none,.c_ (.t 18)⟩,⟨some 20,none,.dU (.t 19) 1⟩,⟨some 21,none,.load none (.t 20)⟩,⟨some 22,none,.bin .geq (.t 21) (.c (.int .i64 100))⟩,⟨some 17,none,.bT (.t 22)⟩]) (.cond (.t 17) (.seq (.ca [⟨some 23,none,.bT (.t 5)⟩,⟨some 24,none,.bH (.t 23) [(.c (.int .i64 7))]⟩,⟨none,none,.store 3 (.t 4) (.t 24)⟩]) .ret) .skip))))) (.seq (.ca [⟨some 25,none,.bT (.t 0)⟩,⟨some 26,none,.c_ (.t 25)⟩,⟨some 27,none,.dU (.t 26) 1⟩,⟨some 28,none,.load none (.t 27)⟩,⟨some 29,none,.bin .add (.t 28) (.c (.int .i64 1))⟩,⟨some 30,none,.c_ (.t 25)⟩,⟨some 31,none,.dU (.t 30) 1⟩,⟨none,none,.store 1 (.t 31) (.t 29)⟩]) (.seq (.seq (.ca [⟨some 32,none,.dU (.t 3) 0⟩,⟨some 33,none,.load none (.t 32)⟩]) (.block 1 (.seq (.ca [⟨some 35,none,.bin .eql (.t 33) (.c (.int .i64 1))⟩,⟨some 34,none,.bT (.t 35)⟩]) (.cond (.t 34) (.seq (.seq (.ca [⟨some 36,none,.dU (.t 3) 1⟩,⟨some 37,none,.load none (.t 36)⟩,⟨some 38,none,.len (.t 37)⟩,⟨some 39,none,.bin .neq (.t 38) (.c (.int .i64 1))⟩]) (.cond (.t 39) (.seq (.ca [⟨some 40,none,.bT (.t 5)⟩,⟨some 41,none,.bH (.t 40) [(.c (.int .i64 1))]⟩,⟨none,none,.store 3 (.t 4) (.t 41)⟩]) .ret) .skip)) (.seq (.ca [⟨some 43,none,.dU (.t 3) 1⟩,⟨some 44,none,.load none (.t 43)⟩,⟨some 45,none,.kr (.t 44) (.c (.int .i64 0)) 1⟩,⟨some 46,none,.load none (.t 45)⟩,⟨some 47,none,.call cR [(.t 46)]⟩,⟨some 42,none,.bT (.t 47)⟩,⟨some 48,none,.ext (.t 42) 0⟩,⟨some 49,none,.ext (.t 42) 1⟩,⟨some 6,none,.new [(.bool false),(.str []),.nil0,.nil0]⟩,⟨none,none,.store 4 (.t 6) (.t 48)⟩,⟨some 7,none,.bT (.t 49)⟩]) (.seq (.seq (.ca [⟨some 50,none,.bT (.t 7)⟩,⟨some 51,none,.bin .neq (.t 50) (.c (.int .i64 0))⟩]) (.cond (.t 51) (.seq (.ca [⟨some 52,none,.bT (.t 5)⟩,⟨some 53,none,.bT (.t 7)⟩,⟨some 54,none,.bH (.t 52) [(.t 53)]⟩,⟨none,none,.store 3 (.t 4) (.t 54)⟩]) .ret) .skip)) (.seq (.ca [⟨some 56,none,.bT (.t 0)⟩,⟨some 57,none,.load (some 4) (.t 6)⟩,⟨some 58,none,.call dR [(.t 57)]⟩,⟨some 55,none,.bT (.t 58)⟩,⟨some 59,none,.ext (.t 55) 0⟩,⟨some 60,none,.ext (.t 55) 1⟩,⟨some 61,none,.c_ (.t 56)⟩,⟨some 62,none,.dU (.t 61) 0⟩,⟨none,none,.store 1 (.t 62) (.t 59)⟩]) (.seq (.ca [⟨some 63,none,.bT (.t 0)⟩,⟨some 64,none,.c_ (.t 63)⟩,⟨some 65,none,.dU (.t 64) 0⟩,⟨some 66,none,.dU (.t 65) 0⟩,⟨some 67,none,.load none (.t 66)⟩,⟨some 68,none,.len (.t 67)⟩,⟨some 69,none,.jb [(.int .i64 0),(.int .i64 0),(.str [])] [(1,(1,(.t 68)))]⟩,⟨none,none,.store 3 (.t 4) (.t 69)⟩]) .ret))))) (.seq (.ca [⟨some 71,none,.bin .eql (.t 33) (.c (.int .i64 2))⟩,⟨some 70,none,.bT (.t 71)⟩]) (.cond (.t 70) (.seq (.ca [⟨some 72,none,.bT (.t 0)⟩,⟨some 73,none,.dU (.t 3) 1⟩,⟨some 74,none,.load none (.t 73)⟩,⟨some 75,none,.call bm [(.t 72),(.t 74)]⟩,⟨none,none,.store 3 (.t 4) (.t 75)⟩]) .ret) (.seq (.ca [⟨some 77,none,.bin .eql (.t 33) (.c (.int .i64 3))⟩,⟨some 76,none,.bT (.t 77)⟩]) (.cond (.t 76) (.seq (.ca [⟨some 79,none,.bT (.t 0)⟩,⟨some 80,none,.c_ (.t 79)⟩,⟨some 81,none,.dU (.t 80) 0⟩,⟨some 82,none,.load (some 1) (.t 81)⟩,⟨some 83,none,.call dS [(.t 82),(.c (.int .i64 0))]⟩,⟨some 78,none,.bT (.t 83)⟩,⟨some 84,none,.ext (.t 78) 0⟩,⟨some 85,none,.ext (.t 78) 1⟩,⟨some 8,none,.new [(.bool false),(.str []),.nil0,.nil0]⟩,⟨none,none,.store 4 (.t 8) (.t 84)⟩,⟨some 9,none,.bT (.t 85)⟩]) (.seq (.ca [⟨some 87,none,.load (some 4) (.t 8)⟩,⟨some 88,none,.call cS [(.t 87)]⟩,⟨some 86,none,.bT (.t 88)⟩,⟨some 89,none,.ext (.t 86) 0⟩,⟨some 90,none,.ext (.t 86) 1⟩,⟨some 10,none,.bT (.t 89)⟩,⟨some 11,none,.bT (.t 90)⟩]) (.seq (.seq (.ca [⟨some 91,none,.bT (.t 11)⟩,⟨some 92,none,.bin .neq (.t 91) (.c (.int .i64 0))⟩]) (.cond (.t 92) (.seq (.ca [⟨some 93,none,.bT (.t 5)⟩,⟨some 94,none,.bT (.t 11)⟩,⟨some 95,none,.bH (.t 93) [(.t 94)]⟩,⟨none,none,.store 3 (.t 4) (.t 95)⟩]) .ret) .skip)) (.seq (.ca [⟨some 96,none,.bT (.t 0)⟩,⟨some 97,none,.c_ (.t 96)⟩,⟨some 98,none,.dU (.t 97) 0⟩,⟨some 99,none,.dU (.t 98) 0⟩,⟨some 100,none,.load none (.t 99)⟩,⟨some 101,none,.len (.t 100)⟩,⟨some 102,none,.bT (.t 10)⟩,⟨some 103,none,.jb [(.int .i64 0),(.int .i64 0),(.str [])] [(1,(1,(.t 101))),(2,(1,(.t 102)))]⟩,⟨none,none,.store 3 (.t 4) (.t 103)⟩]) .ret)))) .skip)))))))) (.seq (.ca [⟨some 104,none,.bT (.t 5)⟩,⟨some 105,none,.bH (.t 104) [(.c (.int .i64 4))]⟩,⟨none,none,.store 3 (.t 4) (.t 105)⟩]) .ret))))))
theorem qK {aH aA cR dR bm dS cS:Nat} (hF:dj P G aH=some (106,[((some (some 3)),4)],(bO aA cR dR bm dS cS).bare)) (hN:aW P G aA [.int .i64 3] (ep 3)) (hB:db P aA=true) (k:Int) (ls:List IV) :
  aW P G aH [.bY,.agg [.int .i64 k,.list ls]] (ep 3):=by
 refine cO hF (by simp) (by simp[ak,AV.aw]) (by simp[AV.aw,ak,ep]) ?_;unfold bO;simp only[↓aX,mX,reduceCtorEq,Nat.reduceEqDiff,Nat.reduceLT,Nat.reduceLeDiff,Nat.reduceAdd,Nat.reduceMul,Int.reduceToNat,Int.reduceLE,Int.reduceLT,sK]
 simp only[l3,qJ,↓aX,mX,reduceCtorEq,Nat.reduceEqDiff,Nat.reduceLT,Nat.reduceLeDiff,Nat.reduceAdd,Nat.reduceMul,Int.reduceToNat,Int.reduceLE,Int.reduceLT,List.nil_append,List.append_nil];refine⟨hB,dQ hN ?_⟩;simp only[↓aX,mX,reduceCtorEq,Nat.reduceEqDiff,Nat.reduceLT,Nat.reduceLeDiff,Nat.reduceAdd,Nat.reduceMul,Int.reduceToNat,Int.reduceLE,Int.reduceLT,ep]
def bb (aH aF:Nat):AC:=
(.seq (.ca [⟨some 1,none,.box (.t 0)⟩,⟨some 2,none,.bT (.c (.bool false))⟩]) (.seq (.ca [⟨some 3,none,.bT (.c .bY)⟩]) (.seq (.ca [⟨some 4,none,.bT (.t 3)⟩,⟨some 5,none,.load (some 2) (.t 1)⟩,⟨some 6,none,.call aH [(.t 4),(.t 5)]⟩,⟨some 7,none,(.jb [(.int .i64 0),(.int .i64 0),(.str [])] [(0,(1,(.c (.int .i64 3))))])⟩,⟨some 8,none,.fx false [.i,.i,.s] (.t 6) (.t 7)⟩,⟨some 9,none,.bT (.t 8)⟩,⟨some 10,(some (9,true)),(.bT (.t 3))⟩,⟨some 11,(some (9,true)),(.call aF [(.t 10)])⟩,⟨some 12,(some (9,true)),(.fy (.t 11) 0 none)⟩,⟨some 13,(some (9,true)),(.len (.t 12))⟩,⟨some 14,(some (9,true)),(.bin .eql (.t 13) (.c (.int .i64 0)))⟩,⟨some 15,none,.pick (.t 9) (.t 14) (.c (.bool false))⟩,⟨some 2,none,.bT (.t 15)⟩]) .ret)))
theorem gG {bK aH aF:Nat} (hF:dj P G bK=some (16,[(none,2)],(bb aH aF).bare)) (k:Int) (ls:List IV) (hD:aW P G aH [.bY,.agg [.int .i64 k,.list ls]] (ep 3)) (uR:aW P G aF [.bY] (.agg [.nil0])) :
  aW P G bK [.agg [.int .i64 k,.list ls]] (.bool true):=by
 refine cO hF (by simp) (by simp[ak,AV.aw]) (by simp[AV.aw]) ?_;unfold bb;simp only[↓aX,mX,reduceCtorEq,Nat.reduceEqDiff,Nat.reduceLT,Nat.reduceLeDiff,Nat.reduceAdd,Nat.reduceMul,Int.reduceToNat,Int.reduceLE,Int.reduceLT];refine dQ hD ?_;simp only[↓aX,mX,reduceCtorEq,Nat.reduceEqDiff,Nat.reduceLT,Nat.reduceLeDiff,Nat.reduceAdd,Nat.reduceMul,Int.reduceToNat,Int.reduceLE,Int.reduceLT,ep]
 rw[show eqs [Kd.i,Kd.i,Kd.s] [AV.int IntKind.i64 3,AV.int IntKind.i64 0,AV.str []] [AV.int IntKind.i64 3,AV.int IntKind.i64 0,AV.str []]=some true from rfl];simp only[↓aX,mX,reduceCtorEq,Nat.reduceEqDiff,Nat.reduceLT,Nat.reduceLeDiff,Nat.reduceAdd,Nat.reduceMul,Int.reduceToNat,Int.reduceLE,Int.reduceLT];refine dQ uR ?_
 simp only[↓aX,mX,reduceCtorEq,Nat.reduceEqDiff,Nat.reduceLT,Nat.reduceLeDiff,Nat.reduceAdd,Nat.reduceMul,Int.reduceToNat,Int.reduceLE,Int.reduceLT,Int.reduceBEq]
 try rfl
end
end Go.Am

/- Acts: their values; out of readings. -/
namespace Go.Am
open Go Go.RowKit
structure iq where
 kind:Int
 lines:List Bs
def iq.cs (a:iq):List IV:=[.int .i64 a.kind,.list (a.lines.map IV.str)]
def iq.iv (a:iq):IV:= .agg a.cs
def iq.av (a:iq):AV:= .agg [.int .i64 a.kind,.list (a.lines.map IV.str)]
def sI:List Bs→Nat
 |[]=>0
 |s::r=>s.length+1+sI r
theorem jF:∀l:List Bs,fm (l.map IV.str)=sI l
 |[]=>rfl
 |s::r=>by simp only[List.map_cons,fm,IV.wt,sI,jF r]
section
variable {P:Program}
structure uU (P:Program) (T:kq P) where
 tI:TypeId
 tL:TypeId
 tC:TypeId
 vu:TypeId
 fC:Array Field
 uI:P.underlying tI=some (.int .i64)
 uL:P.underlying tL=some (.slice T.tS)
 uC:P.underlying tC=some (.struct fC)
 wU:P.underlying vu=some (.slice tC)
 sC:fC.toList.map (·.type)=[tI,tL]
theorem Sh.strs {T:kq P}:∀(ys:List IV),(∀y∈ys,Sh P T.tS y)→∃l:List Bs,ys=l.map IV.str
 |[],_=>⟨[],rfl⟩
 |y::r,h=>by
  obtain⟨s,rfl⟩:=(h y (by simp)).il T.uS;obtain⟨l,rfl⟩:=Sh.strs r (fun z hz=>h z (by simp[hz]));exact⟨s::l,rfl⟩
theorem Sh.lines {T:kq P} (D:uU P T) {y:IV} (h:Sh P D.tL y):∃l:List Bs,y= .list (l.map IV.str)∧sI l+1=y.wt:=by
 obtain⟨ys,rfl,fE⟩:=h.lY D.uL;obtain⟨l,rfl⟩:=Sh.strs ys fE;exact⟨l,rfl,by simp only[IV.wt,jF]⟩
theorem Sh.act {T:kq P} (D:uU P T) {y:IV} (h:Sh P D.tC y):∃a:iq,y=a.iv∧sI a.lines+1≤y.wt:=by
 obtain⟨ys,rfl,hl,fE⟩:=h.jE D.uC;have hs:D.fC.size=2:=by have:=congrArg List.length D.sC;simpa using this
 match ys,hl.trans hs,fE with
 |[y0,y1],_,fE=>
  obtain⟨f0,e0,t0⟩:=bl D.sC 0 D.tI rfl;obtain⟨f1,e1,t1⟩:=bl D.sC 1 D.tL rfl;have h0:=fE 0 f0 y0 e0 rfl;have h1:=fE 1 f1 y1 e1 rfl;rw[t0] at h0;rw[t1] at h1;obtain⟨k,rfl,_⟩:=h0.jD D.uI;obtain⟨l,rfl,h2⟩:=h1.lines D;exact⟨⟨k,l⟩,rfl,by simp only[IV.wt,fm] at h2 ⊢;omega⟩
end
end Go.Am
