import Derived.Test.YtfinkeaikbmpgaaGreatDoorE60
set_option linter.unusedSimpArgs false
set_option linter.unusedVariables false
set_option linter.unnecessarySimpa false
set_option linter.defProp false
/- TopEnds. -/
namespace Go.Am
open Go Go.RowKit
section
variable {P:Program} {G:Nat→Option (List IV)}
def ly (aI aP aF aA aH:Nat):AC:=
(ay [oN 3 1,jK 4 false] (ay [af 10 0,aE 11 (.call aI [(.t 10),(.c (.fn aP [] []))]),af 9 11,gQ 12 9 0,gQ 13 9 1,af 5 12,af 6 13] (.seq (ay [af 14 6,uk 15 14] (.cond (.t 15) (ay [jK 4 false] .ret) .skip)) (.seq (ay [af 16 0,ky 17 16,aE 18 (.min (.t 17) (ij 50)),af 7 18] (.block 0 (.loop (.seq (ay [af 19 7,db 20 .lss 19 100] (.cond (.t 20) .skip (.exit 0))) (.seq (.block 1 (ay [af 23 5,aE 24 (.oa [(.int .i64 0),.nil0] []),aE 25 (.call aF [(.t 23),(.t 24)]),aE 26 (.zM (.t 25) 0 none),db 27 .neq 26 4] (.cond (.t 27) (ay [jK 4 false] .ret) .skip))) (.ec [af 21 7,db 22 .add 21 1,af 7 22])))))) (ay [af 28 5,aE 29 (.call aA [(.t 28)]),aE 8 (.new [.nil0]),dT (.store 1 (.t 8) (.t 29))] (.seq (.fg [af 30 5,gd 31 2 3,aE 32 (.call aF [(.t 30),(.t 31)]),aE 33 (.oa [(.int .i64 0),(.int .i64 0),(.str [])] [(0,(1,(ij 7)))]),aE 34 (.zc false [.i,.i,.s] (.t 32) (.t 33)),af 35 34,eP 36 35 (.load (some 1) (.t 8)),eJ 37 35 5,eP 38 35 (.call aA [(.t 37)]),eP 39 35 (.call aH [(.t 36),(.t 38)]),l7 40 35 39,af 4 40] [[],[],[0,1],[],[2,3],[4,2],[5],[5],[7,5,5],[6,8,8,5],[5,9],[10,9,0,1,2,3,4,5,6,7,8,9,10]] [.no,.rw [.loc 3] [],(.vj []),.no,.no,.no,.rw [.loc 8] [],.no,(.vj [(.loc 8)]),.no,.no,.no]) .ret))))))
set_option maxRecDepth 10000 in
def Qg {oL aI aP aF aA aH:Nat} (hF:an P G oL=some (41,[(none,4)],(ly aI aP aF aA aH).bare)) (l:List bK) (hl:l.length≤B) (a:bK)
  (hP:qa P G aI aP l) (qT:II P G aA) (Bv:UK P G aF a) (ac4:UK P G aF ⟨0,[]⟩) (hS:BB P G aH) :
  aw P G oL [.list (l.map bK.iv),a.av] (.bool true):=by
 obtain⟨hi,h0,h1⟩:=l6 l (min l.length 50);obtain⟨m,hm⟩:∃m,min l.length 50=m:=⟨_,rfl⟩;have QC:(gF l m).2=m:=by rw[uf l _ (by omega) (by omega)]
 have nM:B=1073741824:=rfl;rw[hm] at hi h0 h1;unfold qa at hP;rw[hm,QC] at hP;obtain⟨d,hd⟩:∃d,(gF l m).1=d:=⟨_,rfl⟩;rw[hd] at hP hi;refine aM hF (by simp) (by simp[ah,AV.aB,bK.av]) (by simp[AV.aB]) ?_;unfold ly;simp only[↓aX,mX,reduceCtorEq,Nat.reduceEqDiff,Nat.reduceLT,Nat.reduceLeDiff,Nat.reduceAdd,Nat.reduceMul,Int.reduceToNat,Int.reduceLE,Int.reduceLT,bK.av];refine lM 11 (fun q=> .dM [.ptr q 2 0 0,.bool true]) hP (by simp[ah,AV.aB]) (fun l=>by simp[NW,Hp.none,ae]) fun q=> ?_;have hn:∀k,(Lb.loc k=NW 11 q)=False:=fun k=>by simp[NW]
 have za:∀k,(NW 11 q=Lb.loc k)=False:=fun k=>by simp[NW]
 have hmi:(if(50:Int)<((l.length:Nat):Int) then(50:Int) else((l.length:Nat):Int))=((m:Nat):Int):=by split<;>omega
 simp only[↓aX,mX,reduceCtorEq,Nat.reduceEqDiff,Nat.reduceLT,Nat.reduceLeDiff,Nat.reduceAdd,Nat.reduceMul,Int.reduceToNat,Int.reduceLE,Int.reduceLT,Bool.not_true,List.length_map,hmi];refine jj (σ:={i:Nat // m≤i∧i≤100}) (fun _=>[.loc 600,.loc 3]) (fun _ _=>false)
  (fun q=>[(3,.ptr (.loc 3) 2 0 0),(5,.ptr (.loc 600) 2 0 0),(7,.int .i64 q.1)])
  (fun q=>[(.loc 600,⟨2,[dL d q.1]⟩),(.loc 3,⟨2,[[.int .i64 a.kind,.list (a.lines.map IV.str)]]⟩)]) (fun q=>100 - q.1) ⟨m,by omega,by omega⟩ (fun _=>rfl) (fun q=>by simp[ah,AV.aB]) ?_ ⟨[(.loc 600,NW 11 q)],?_⟩ ?_
 ·intro q w hw cs bS z hz;simp only[List.mem_cons,List.not_mem_nil,or_false] at hw;rcases hw with rfl|rfl
  all_goals
   simp only[List.mem_singleton] at bS;subst bS;simp[ah,AV.aB,dL] at hz
 ·refine⟨?_,?_,?_,by simp[bZ,za],?_⟩
  ·intro l hf hu;cases l<;>simp_all[Lb.fresh,ae,Hp.none,NW,Lb.entry]
  ·simp[kv,bZ,ren,aY,put,lE]
  ·simp[qe,bZ,ae,cV,aY,ren,dL,hd,IV.gK,hn]
  intro l hl;simp only[List.mem_cons,List.not_mem_nil,or_false] at hl;rcases hl with rfl|rfl
  ·exact⟨fun _=>by simp[bZ,A7],fun h=>by simp[Lb.fresh] at h⟩
  exact⟨fun _=>by simp[bZ,Lb.fresh],fun h=>by simp[bZ]⟩
 rintro⟨i,adk,JJ⟩;rw[vt];simp only[↓aX,mX,reduceCtorEq,Nat.reduceEqDiff,Nat.reduceLT,Nat.reduceLeDiff,Nat.reduceAdd,Nat.reduceMul,Int.reduceToNat,Int.reduceLE,Int.reduceLT,ed,dk];by_cases bO:i<100
 ·have hw:IntKind.i64.wrap ((i:Int)+1)=((i+1:Nat):Int):=wrap64 (by omega) (by omega);simp only[↓aX,mX,reduceCtorEq,Nat.reduceEqDiff,Nat.reduceLT,Nat.reduceLeDiff,Nat.reduceAdd,Nat.reduceMul,Int.reduceToNat,Int.reduceLE,Int.reduceLT,show decide ((i:Int)<100)=true by simp;omega];have hD:=ac4 d i hi (by omega) (by omega);rw[Tj (by omega)] at hD;refine a7 (l:= .loc 600) (Ee hD) (by simp[aY,ren,iH]) (by simp[ae,dL]) ?_;rintro x2 Ta ⟨rfl,rfl⟩ _ _ _;simp only[↓aX,mX,reduceCtorEq,Nat.reduceEqDiff,Nat.reduceLT,Nat.reduceLeDiff,Nat.reduceAdd,Nat.reduceMul,Int.reduceToNat,Int.reduceLE,Int.reduceLT,l9.av,show((4:Int) !=4)=false from rfl,hw];refine⟨⟨i+1,by omega,by omega⟩,by simp only;omega,[],?_⟩;refine⟨?_,?_,?_,by simp[bZ],fun l _=>⟨id,fun _=>rfl⟩⟩
  ·intro l hf hu;exfalso;apply hu;cases l<;>simp_all[Lb.fresh,ae,Hp.none]
  ·simp[kv,bZ,ren,aY,put]
  simp[qe,bZ,ae,cV,aY,ren,dL]
 have ac5:i=100:=by omega
 subst ac5;simp only[↓aX,mX,reduceCtorEq,Nat.reduceEqDiff,Nat.reduceLT,Nat.reduceLeDiff,Nat.reduceAdd,Nat.reduceMul,Int.reduceToNat,Int.reduceLE,Int.reduceLT,show decide (((100:Nat):Int)<100)=false from rfl];refine a7 (l:= .loc 600) (qT d ((100:Nat):Int) hi) (by simp[aY,ren,iH]) (by simp[ae,dL]) ?_;rintro x2 Ta ⟨rfl,rfl⟩ _ _ _;simp only[↓aX,mX,reduceCtorEq,Nat.reduceEqDiff,Nat.reduceLT,Nat.reduceLeDiff,Nat.reduceAdd,Nat.reduceMul,Int.reduceToNat,Int.reduceLE,Int.reduceLT,Doc.av];refine⟨rfl,?_⟩;have hD:=Bv d 100 hi (by omega) (by omega);rw[Tl d (by omega) a] at hD;refine pd (l:= .loc 600) hD (by simp[aY,ren,iH,bK.av]) (by simp[ae,dL]) (by simp[Lb.kQ]) ⟨rfl,rfl⟩ (by simp[AV.aB,l9.av,ah]) (by simp[dL,ah,AV.aB]) rfl ?_;rintro x3 N5 ⟨rfl,rfl⟩ _ _ _;have e7:eqs [.i,.i,.s] [.int .i64 7,.int .i64 0,.str []] [.int .i64 7,.int .i64 0,.str []]=some true:=by decide
 simp only[↓aX,mX,reduceCtorEq,Nat.reduceEqDiff,Nat.reduceLT,Nat.reduceLeDiff,Nat.reduceAdd,Nat.reduceMul,Int.reduceToNat,Int.reduceLE,Int.reduceLT,l9.av,Hp.none,e7,Option.map_some];refine pd (l:= .loc 600) (qT d ((100:Nat):Int) hi) (by simp[aY,ren,iH]) (by simp[ae,dL]) (by simp[Lb.kQ]) ⟨rfl,rfl⟩ (by simp[AV.aB,Doc.av,ah]) (by simp[dL,ah,AV.aB]) rfl ?_;rintro x4 cs4 ⟨rfl,rfl⟩ _ _ _;simp only[↓aX,mX,reduceCtorEq,Nat.reduceEqDiff,Nat.reduceLT,Nat.reduceLeDiff,Nat.reduceAdd,Nat.reduceMul,Int.reduceToNat,Int.reduceLE,Int.reduceLT,Doc.av,Hp.none];refine gJ (hS d d hi hi) ?_;simp only[↓aX,mX,reduceCtorEq,Nat.reduceEqDiff,Nat.reduceLT,Nat.reduceLeDiff,Nat.reduceAdd,Nat.reduceMul,Int.reduceToNat,Int.reduceLE,Int.reduceLT,ng]
end
end Go.Am
namespace Go.Proofs.YtfinkeaikbmpgaaGreatDoor
open Go Go.Am Go.ChangeShapes
variable {t1 t2:Nat}
def Qi:an Tryz.prog (gS t1 t2) 18=some (41,[(none,4)],(ly 19 25 28 22 29).bare):=by kernel_rfl
def Qj (l:List bK) (hl:l.length≤B) (hw:∀a∈l,qf a.lines≤2^20) (a:bK) (ha:qf a.lines≤2^20):aw Tryz.prog (gS t1 t2) 18 [.list (l.map bK.iv),a.av] (.bool true):=
 Qg Qi l hl a (xo l hl hw) Dd (IJ a ha) (IJ ⟨0,[]⟩ (by simp[qf])) yp
end Go.Proofs.YtfinkeaikbmpgaaGreatDoor
