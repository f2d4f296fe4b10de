import Derived.Test.YtfinkeaikbmpgaaGreatDoorKAm25
import Derived.Test.YtfinkeaikbmpgaaGreatDoorKT15
set_option linter.unusedSimpArgs false
set_option linter.unusedVariables false
set_option linter.unnecessarySimpa false
set_option linter.defProp false
/- THE ABSTRACT MACHINE, part 47: calls of values. -/
namespace Go.Am
open Go Go.RowKit
section
variable {S:St} {env:Env} {H:Hp}
def cvK (S:St) (x:AV) (args:List AV) (H:Hp) (k:AV→Hp→Prop) (_:Tw k):Prop:=∃f first cap,x= .fn f first cap∧jQ S.P f=true∧sM S f (first++args++cap) H k
def lh (d:Option Nat) (x:O) (args:List O) (k:AV→Hp→Prop):cT S d (.jH x args) env H k=cvK S (ev env x) (args.map (ev env)) H k .mk:=rfl
def pP (f:Nat) (first cap args:List AV) (k:AV→Hp→Prop) (u:Tw k):cvK S (.fn f first cap) args H k u=(jQ S.P f=true∧He S f (first++args++cap) H k .mk):=by
 simp only[cvK,He,AV.fn.injEq,kG];constructor
 ·rintro⟨_,_,_,⟨rfl,rfl,rfl⟩,h⟩;exact h
 intro h;exact⟨_,_,_,⟨rfl,rfl,rfl⟩,h⟩
def pvK (S:St) (x:AV) (args:List AV) (k:AV→Prop) (_:Tv k):Prop:=∃f first cap res,x= .fn f first cap∧jQ S.P f=true∧aw S.P S.G f (first++args++cap) res∧k res
def tu (d:Option Nat) (x:O) (args:List O) (k:AV→Hp→Prop):a_ S .no d (.jH x args) env H k=pvK S (ev env x) (args.map (ev env)) (fun y=>k y H) .mk:=by
 simp only[a_,Quiet,aj,pvK,reduceCtorEq,false_or,kG];constructor
 ·rintro⟨res,⟨f,first,cap,h1,h2,h3⟩,h4⟩;exact⟨f,first,cap,res,h1,h2,h3,h4⟩
 rintro⟨f,first,cap,res,h1,h2,h3,h4⟩;exact⟨res,⟨f,first,cap,h1,h2,h3⟩,h4⟩
def AJ (f:Nat) (first cap args:List AV) (k:AV→Prop) (u:Tv k):pvK S (.fn f first cap) args k u=(jQ S.P f=true∧Zq S f (first++args++cap) k .mk):=by
 simp only[pvK,Zq,AV.fn.injEq,kG];constructor
 ·rintro⟨_,_,_,res,⟨rfl,rfl,rfl⟩,h2,h3,h4⟩;exact⟨h2,res,h3,h4⟩
 rintro⟨h2,res,h3,h4⟩;exact⟨_,_,_,res,⟨rfl,rfl,rfl⟩,h2,h3,h4⟩
end
end Go.Am

set_option maxRecDepth 20000
namespace Go.Am
open Go Go.RowKit
section
variable {P:Program} {G:Nat→Option (List IV)}
def vv (c:Int):AV:= .agg [.int .i64 c,.int .i64 0,.str []]
def mu:AC:=
(ay [aE 2 (.new [(.int .i64 0),(.int .i64 0),(.str [])])] (ay [af 3 0,aE 4 (.oa [(.int .i64 0),(.int .i64 0),(.str [])] [(0,(1,(.t 3)))]),dT (.store 3 (.t 2) (.t 4))] .ret))
def pNo {eU:Nat} (hF:an P G eU=some (5,[((some (some 3)),2)],mu.bare)) (c:Int):aw P G eU [.int .i64 c] (vv c):=by
 refine aM hF (by simp) (by simp[ah,AV.aB]) (by simp[AV.aB,ah,vv]) ?_;unfold mu;simp only[↓aX,mX,seval,vv]
def wQ (ai aJ:Nat):AC:=
(ay [aE 2 (.new [.nil0])] (.seq (ay [af 6 0,aE 7 (.Kj false (.t 6) (.c .nD))] (.cond (.t 7) (ay [aE 8 (.oa [.nil0] []),dT (.store 1 (.t 2) (.t 8))] .ret) .skip)) (ay [aE 3 (.new [.nil0])] (.seq (ay [af 9 0,aE 10 (.dc (.t 9)),b7 11 10 0,b7 12 11 0,cS 13 12,ky 14 13,eX 15 0] (.block 0 (.loop (ay [eS 16 .lss 15 14] (.seq (.cond (.t 16) .skip (.exit 0)) (.seq (.block 1 (ay [ig 17 13 15 5,gd 18 5 17,aE 5 (.new [(.bool false),(.str []),.nil0,(.int .i64 0),.nil0]),dT (.store 5 (.t 5) (.t 18))] (.seq (.fg [b7 19 5 2,cS 20 19,aE 21 (.call ai [(.t 20)]),b7 22 5 4,cS 23 22,aE 24 (.call aJ [(.t 23)]),b7 25 5 2,dT (.store 1 (.t 25) (.t 21)),b7 26 5 4,dT (.store 1 (.t 26) (.t 24))] [[],[0],[1],[],[3],[4,2],[0,1,2,3,4],[6,2,5,0,1,2,3,4],[0,1,2,3,4,5,6,7],[8,5,7,0,1,2,3,4,5,6,7]] [.no,.rw [.loc 5] [],.no,.no,.rw [.loc 5] [],.no,.no,.rw [] [.loc 5],.no,.rw [] [.loc 5]]) (.ec [b7 27 3 0,cS 28 27,gd 29 5 5,aE 30 (.lits 1 5 [(.bool false),(.str []),.nil0,(.int .i64 0),.nil0] [(0,(.t 29))]),aE 31 (.app (.t 28) (.t 30) 5 80),b7 32 3 0,dT (.store 1 (.t 32) (.t 31))])))) (.ec [db 33 .add 15 1,af 15 33]))))))) (ay [gd 34 1 3,dT (.store 1 (.t 2) (.t 34))] .ret)))))
def nV (eU fE cy eV de fG:Nat):AC:=
(ay [oN 3 1,aE 4 (.new [(.int .i64 0),(.int .i64 0),(.str [])])] (ay [aE 5 (.nE (.c (.fn eU [] [])))] (.seq (.block 0 (ay [af 13 0,aE 14 (.Kj false (.t 13) (.c .nD)),af 12 14] (.cond (.t 12) (ay [af 15 5,aE 16 (.jH (.t 15) [(ij 3)]),dT (.store 3 (.t 4) (.t 16))] .ret) (ay [af 18 0,aE 19 (.dc (.t 18)),b7 20 19 1,cS 21 20,db 22 .geq 21 100,af 17 22] (.cond (.t 17) (ay [af 23 5,aE 24 (.jH (.t 23) [(ij 7)]),dT (.store 3 (.t 4) (.t 24))] .ret) .skip))))) (ay [af 25 0,aE 26 (.dc (.t 25)),b7 27 26 1,cS 28 27,db 29 .add 28 1,aE 30 (.dc (.t 25)),b7 31 30 1,dT (.store 1 (.t 31) (.t 29))] (.seq (ay [b7 32 3 0,cS 33 32] (.block 1 (ay [db 35 .eql 33 1,af 34 35] (.cond (.t 34) (.seq (ay [b7 36 3 1,cS 37 36,ky 38 37,db 39 .neq 38 1] (.cond (.t 39) (ay [af 40 5,aE 41 (.jH (.t 40) [(ij 1)]),dT (.store 3 (.t 4) (.t 41))] .ret) .skip)) (ay [b7 43 3 1,cS 44 43,aE 45 (.Dg (.t 44) (ij 0) 1),cS 46 45,aE 47 (.call fE [(.t 46)]),af 42 47,gQ 48 42 0,gQ 49 42 1,aE 6 (.new [(.bool false),(.str []),.nil0,.nil0]),dT (.store 4 (.t 6) (.t 48)),af 7 49] (.seq (ay [af 50 7,db 51 .neq 50 0] (.cond (.t 51) (ay [af 52 5,af 53 7,aE 54 (.jH (.t 52) [(.t 53)]),dT (.store 3 (.t 4) (.t 54))] .ret) .skip)) (ay [af 56 0,gd 57 4 6,aE 58 (.call cy [(.t 57)]),af 55 58,gQ 59 55 0,gQ 60 55 1,aE 61 (.dc (.t 56)),b7 62 61 0,dT (.store 1 (.t 62) (.t 59))] (ay [af 63 0,aE 64 (.dc (.t 63)),b7 65 64 0,b7 66 65 0,cS 67 66,ky 68 67,aE 69 (.oa [(.int .i64 0),(.int .i64 0),(.str [])] [(1,(1,(.t 68)))]),dT (.store 3 (.t 4) (.t 69))] .ret))))) (ay [db 71 .eql 33 2,af 70 71] (.cond (.t 70) (ay [af 72 0,b7 73 3 1,cS 74 73,aE 75 (.call eV [(.t 72),(.t 74)]),dT (.store 3 (.t 4) (.t 75))] .ret) (ay [db 77 .eql 33 3,af 76 77] (.cond (.t 76) (ay [af 79 0,aE 80 (.dc (.t 79)),b7 81 80 0,gd 82 1 81,aE 83 (.call de [(.t 82),(ij 0)]),af 78 83,gQ 84 78 0,gQ 85 78 1,aE 8 (.new [(.bool false),(.str []),.nil0,.nil0]),dT (.store 4 (.t 8) (.t 84)),af 9 85] (ay [gd 87 4 8,aE 88 (.call fG [(.t 87)]),af 86 88,gQ 89 86 0,gQ 90 86 1,af 10 89,af 11 90] (.seq (ay [af 91 11,db 92 .neq 91 0] (.cond (.t 92) (ay [af 93 5,af 94 11,aE 95 (.jH (.t 93) [(.t 94)]),dT (.store 3 (.t 4) (.t 95))] .ret) .skip)) (ay [af 96 0,aE 97 (.dc (.t 96)),b7 98 97 0,b7 99 98 0,cS 100 99,ky 101 100,af 102 10,aE 103 (.oa [(.int .i64 0),(.int .i64 0),(.str [])] [(1,(1,(.t 101))),(2,(1,(.t 102)))]),dT (.store 3 (.t 4) (.t 103))] .ret)))) .skip)))))))) (ay [af 104 5,aE 105 (.jH (.t 104) [(ij 4)]),dT (.store 3 (.t 4) (.t 105))] .ret))))))
end

structure bK where
 kind:Int
 lines:List Bs
def bK.cs (a:bK):List IV:=[.int .i64 a.kind,.list (a.lines.map IV.str)]
def bK.iv (a:bK):IV:= .agg a.cs
def bK.av (a:bK):AV:= .agg [.int .i64 a.kind,.list (a.lines.map IV.str)]
def qf:List Bs→Nat
 |[]=>0
 |s::r=>s.length+1+qf r
theorem zB:∀{l:List Bs} {s:Bs},s∈l→s.length+1≤qf l
 |v::r,s,h=>by
  rcases adz.1 h with rfl|h
  ·simp[qf]
  have:=zB h;simp only[qf];omega
theorem zC:∀l:List Bs,l.length≤qf l
 |[]=>by simp[qf]
 |v::r=>by have:=zC r;simp only[qf,adK];omega
theorem Jq:∀l:List Bs,rI (l.map IV.str)=qf l
 |[]=>rfl
 |s::r=>by simp only[ad5,rI,IV.wt,qf,Jq r]
section
variable {P:Program}
structure Z5 (P:Program) (T:Ht P) where
 tI:TypeId
 tL:TypeId
 tC:TypeId
 tCs:TypeId
 fC:Array Field
 uI:P.underlying tI=some (.int .i64)
 uL:P.underlying tL=some (.slice T.tS)
 uC:P.underlying tC=some (.struct fC)
 uCs:P.underlying tCs=some (.slice tC)
 sC:fC.toList.map (·.type)=[tI,tL]
theorem Sh.strs {T:Ht P}:∀(ys:List IV),(∀y∈ys,Sh P T.tS y)→∃l:List Bs,ys=l.map IV.str
 |[],_=>⟨[],rfl⟩
 |y::r,h=>by
  obtain⟨s,rfl⟩:=(h y (by simp)).Cx T.uS;obtain⟨l,rfl⟩:=Sh.strs r (fun z hz=>h z (by simp[hz]));exact⟨s::l,rfl⟩
def Sh.lines {T:Ht P} (D:Z5 P T) {y:IV} (h:Sh P D.tL y):∃l:List Bs,y= .list (l.map IV.str)∧qf l+1=y.wt:=by
 obtain⟨ys,rfl,zf⟩:=h.Jn D.uL;obtain⟨l,rfl⟩:=Sh.strs ys zf;exact⟨l,rfl,by simp only[IV.wt,Jq]⟩
def Sh.act {T:Ht P} (D:Z5 P T) {y:IV} (h:Sh P D.tC y):∃a:bK,y=a.iv∧qf a.lines+1≤y.wt:=by
 obtain⟨ys,rfl,hl,zf⟩:=h.Jo D.uC;have hs:D.fC.size=2:=by have:=afb List.length D.sC;simpa using this
 match ys,hl.trans hs,zf with
 |[y0,y1],_,zf=>
  obtain⟨f0,e0,t0⟩:=ld D.sC 0 D.tI rfl;obtain⟨f1,e1,t1⟩:=ld D.sC 1 D.tL rfl;have h0:=zf 0 f0 y0 e0 rfl;have h1:=zf 1 f1 y1 e1 rfl;rw[t0] at h0;rw[t1] at h1;obtain⟨k,rfl,_⟩:=h0.Cw D.uI;obtain⟨l,rfl,h2⟩:=h1.lines D;exact⟨⟨k,l⟩,rfl,by simp only[IV.wt,rI] at h2 ⊢;omega⟩
theorem Sh.Z6 {T:Ht P} (D:Z5 P T):∀(ys:List IV),(∀y∈ys,Sh P D.tC y)→∃d:List bK,ys=d.map bK.iv∧d.length≤rI ys∧∀x∈d,qf x.lines≤rI ys
 |[],_=>⟨[],rfl,by simp[rI],by simp⟩
 |y::r,h=>by
  obtain⟨x,rfl,h1⟩:=(h y (by simp)).act D;obtain⟨d,rfl,h2,h3⟩:=Sh.Z6 D r (fun z hz=>h z (by simp[hz]));refine⟨x::d,rfl,by simp only[rI,adK];omega,fun z hz=> ?_⟩;rcases adz.1 hz with rfl|hz
  ·simp only[rI];omega
  have:=h3 z hz;simp only[rI];omega
def Sh.gf {T:Ht P} (D:Z5 P T) {y:IV} (h:Sh P D.tCs y):∃l:List bK,y= .list (l.map bK.iv)∧l.length≤y.wt∧∀x∈l,qf x.lines≤y.wt:=by
 obtain⟨ys,rfl,zf⟩:=h.Jn D.uCs;obtain⟨d,rfl,h2,h3⟩:=Sh.Z6 D ys zf;exact⟨d,rfl,by simp only[IV.wt];omega,fun x hx=>by have:=h3 x hx;simp only[IV.wt];omega⟩
end
end Go.Am
