import Derived.Test.YtfeijflhfhkbnaaGreatDoorKAm25
import Derived.Test.YtfeijflhfhkbnaaGreatDoorKAm34
set_option linter.all false
/- THE ABSTRACT MACHINE, part 47: calls of values. -/
namespace Go.Am
open Go Go.RowKit
section
variable {S:St} {env:Env} {H:Hp}
def Jm (S:St) (x:AV) (args:List AV) (H:Hp) (k:AV->Hp->Prop) (_:Tw k):Prop:=∃f first cap,x= .fn f first cap/\fU S.P f=true/\jJ S f (first++args++cap) H k
def yE (d:Option Nat) (x:O) (args:List O) (k:AV->Hp->Prop):bg S d (.fM x args) env H k=Jm S (ev env x) (args.map (ev env)) H k .mk:=rfl
def Ek (f:Nat) (first cap args:List AV) (k:AV->Hp->Prop) (u:Tw k):Jm S (.fn f first cap) args H k u=(fU S.P f=true/\C7 S f (first++args++cap) H k .mk):=by
 simp only[Jm,C7,AV.fn.injEq,eq_iff_iff];constructor
 ·rintro⟨_,_,_,⟨rfl,rfl,rfl⟩,h⟩;exact h
 intro h;exact⟨_,_,_,⟨rfl,rfl,rfl⟩,h⟩
def HJ (S:St) (x:AV) (args:List AV) (k:AV->Prop) (_:Tv k):Prop:=∃f first cap res,x= .fn f first cap/\fU S.P f=true/\au S.P S.G f (first++args++cap) res/\k res
def kc (d:Option Nat) (x:O) (args:List O) (k:AV->Hp->Prop):akH S .no d (.fM x args) env H k=HJ S (ev env x) (args.map (ev env)) (λy=>k y H) .mk:=by
 simp only[akH,Quiet,c6,HJ,reduceCtorEq,false_or,eq_iff_iff];constructor
 ·rintro⟨res,⟨f,first,cap,h1,h2,h3⟩,h4⟩;exact⟨f,first,cap,res,h1,h2,h3,h4⟩
 rintro⟨f,first,cap,res,h1,h2,h3,h4⟩;exact⟨res,⟨f,first,cap,h1,h2,h3⟩,h4⟩
def oi (f:Nat) (first cap args:List AV) (k:AV->Prop) (u:Tv k):HJ S (.fn f first cap) args k u=(fU S.P f=true/\F6 S f (first++args++cap) k .mk):=by
 simp only[HJ,F6,AV.fn.injEq,eq_iff_iff];constructor
 ·rintro⟨_,_,_,res,⟨rfl,rfl,rfl⟩,h2,h3,h4⟩;exact⟨h2,res,h3,h4⟩
 rintro⟨h2,res,h3,h4⟩;exact⟨_,_,_,res,⟨rfl,rfl,rfl⟩,h2,h3,h4⟩
end
end Go.Am

set_option maxRecDepth 20000
namespace Go.Am
open Go Go.RowKit
section
variable {P:Program} {G:Nat->Option (List IV)}
def amc (iJ l4:Nat):AC:=
(aM [aQ 2 (.new [.nil0])] (.seq (aM [MR 6 0,aQ 7 (.zu false (.t 6) (.c .jK))] (.cond (.t 7) (aM [aQ 8 (.sg [.nil0] []),gg (.store 1 (.t 2) (.t 8))] .ret) .skip)) (aM [aQ 3 (.new [.nil0])] (.seq (aM [MR 9 0,aQ 10 (.dp (.t 9)),ep 11 10 0,ep 12 11 0,fm 13 12,oy 14 13,gH 15 0] (.block 0 (.loop (aM [et 16 .lss 15 14] (.seq (.cond (.t 16) .skip (.exit 0)) (.seq (.block 1 (aM [jL 17 13 15 5,gz 18 5 17,aQ 5 (.new [(.bool false),(.str []),.nil0,(.int .i64 0),.nil0]),gg (.store 5 (.t 5) (.t 18))] (.seq (.VL [ep 19 5 2,fm 20 19,aQ 21 (.call iJ [(.t 20)]),ep 22 5 4,fm 23 22,aQ 24 (.call l4 [(.t 23)]),ep 25 5 2,gg (.store 1 (.t 25) (.t 21)),ep 26 5 4,gg (.store 1 (.t 26) (.t 24))] [[],[0],[1],[],[3],[4,2],[0,1,2,3,4],[6,2,5,0,1,2,3,4],[0,1,2,3,4,5,6,7],[8,5,7,0,1,2,3,4,5,6,7]] [.no,.rw [.loc 5] [],.no,.no,.rw [.loc 5] [],.no,.no,.rw [] [.loc 5],.no,.rw [] [.loc 5]]) (.cq [ep 27 3 0,fm 28 27,gz 29 5 5,aQ 30 (.lits 1 5 [(.bool false),(.str []),.nil0,(.int .i64 0),.nil0] [(0,(.t 29))]),aQ 31 (.app (.t 28) (.t 30) 5 80),ep 32 3 0,gg (.store 1 (.t 32) (.t 31))])))) (.cq [eY 33 .add 15 1,MR 15 33]))))))) (aM [gz 34 1 3,gg (.store 1 (.t 2) (.t 34))] .ret)))))
def alY (ak0 alv Vj ak1 alc cd:Nat):AC:=
(aM [zzX 3 1,aQ 4 (.new [(.int .i64 0),(.int .i64 0),(.str [])])] (aM [aQ 5 (.iC (.c (.fn ak0 [] [])))] (.seq (.block 0 (aM [MR 13 0,aQ 14 (.zu false (.t 13) (.c .jK)),MR 12 14] (.cond (.t 12) (aM [MR 15 5,aQ 16 (.fM (.t 15) [(jS 3)]),gg (.store 3 (.t 4) (.t 16))] .ret) (aM [MR 18 0,aQ 19 (.dp (.t 18)),ep 20 19 1,fm 21 20,eY 22 .geq 21 100,MR 17 22] (.cond (.t 17) (aM [MR 23 5,aQ 24 (.fM (.t 23) [(jS 7)]),gg (.store 3 (.t 4) (.t 24))] .ret) .skip))))) (aM [MR 25 0,aQ 26 (.dp (.t 25)),ep 27 26 1,fm 28 27,eY 29 .add 28 1,aQ 30 (.dp (.t 25)),ep 31 30 1,gg (.store 1 (.t 31) (.t 29))] (.seq (aM [ep 32 3 0,fm 33 32] (.block 1 (aM [eY 35 .eql 33 1,MR 34 35] (.cond (.t 34) (.seq (aM [ep 36 3 1,fm 37 36,oy 38 37,eY 39 .neq 38 1] (.cond (.t 39) (aM [MR 40 5,aQ 41 (.fM (.t 40) [(jS 1)]),gg (.store 3 (.t 4) (.t 41))] .ret) .skip)) (aM [ep 43 3 1,fm 44 43,aQ 45 (.Vc (.t 44) (jS 0) 1),fm 46 45,aQ 47 (.call alv [(.t 46)]),MR 42 47,ox 48 42 0,ox 49 42 1,aQ 6 (.new [(.bool false),(.str []),.nil0,.nil0]),gg (.store 4 (.t 6) (.t 48)),MR 7 49] (.seq (aM [MR 50 7,eY 51 .neq 50 0] (.cond (.t 51) (aM [MR 52 5,MR 53 7,aQ 54 (.fM (.t 52) [(.t 53)]),gg (.store 3 (.t 4) (.t 54))] .ret) .skip)) (aM [MR 56 0,gz 57 4 6,aQ 58 (.call Vj [(.t 57)]),MR 55 58,ox 59 55 0,ox 60 55 1,aQ 61 (.dp (.t 56)),ep 62 61 0,gg (.store 1 (.t 62) (.t 59))] (aM [MR 63 0,aQ 64 (.dp (.t 63)),ep 65 64 0,ep 66 65 0,fm 67 66,oy 68 67,aQ 69 (.sg [(.int .i64 0),(.int .i64 0),(.str [])] [(1,(1,(.t 68)))]),gg (.store 3 (.t 4) (.t 69))] .ret))))) (aM [eY 71 .eql 33 2,MR 70 71] (.cond (.t 70) (aM [MR 72 0,ep 73 3 1,fm 74 73,aQ 75 (.call ak1 [(.t 72),(.t 74)]),gg (.store 3 (.t 4) (.t 75))] .ret) (aM [eY 77 .eql 33 3,MR 76 77] (.cond (.t 76) (aM [MR 79 0,aQ 80 (.dp (.t 79)),ep 81 80 0,gz 82 1 81,aQ 83 (.call alc [(.t 82),(jS 0)]),MR 78 83,ox 84 78 0,ox 85 78 1,aQ 8 (.new [(.bool false),(.str []),.nil0,.nil0]),gg (.store 4 (.t 8) (.t 84)),MR 9 85] (aM [gz 87 4 8,aQ 88 (.call cd [(.t 87)]),MR 86 88,ox 89 86 0,ox 90 86 1,MR 10 89,MR 11 90] (.seq (aM [MR 91 11,eY 92 .neq 91 0] (.cond (.t 92) (aM [MR 93 5,MR 94 11,aQ 95 (.fM (.t 93) [(.t 94)]),gg (.store 3 (.t 4) (.t 95))] .ret) .skip)) (aM [MR 96 0,aQ 97 (.dp (.t 96)),ep 98 97 0,ep 99 98 0,fm 100 99,oy 101 100,MR 102 10,aQ 103 (.sg [(.int .i64 0),(.int .i64 0),(.str [])] [(1,(1,(.t 101))),(2,(1,(.t 102)))]),gg (.store 3 (.t 4) (.t 103))] .ret)))) .skip)))))))) (aM [MR 104 5,aQ 105 (.fM (.t 104) [(jS 4)]),gg (.store 3 (.t 4) (.t 105))] .ret))))))
end

structure ak7 where
 kind:Int
 lines:List Bs
def ak7.cs (a:ak7):List IV:=[.int .i64 a.kind,.list (a.lines.map IV.str)]
def ak7.iv (a:ak7):IV:= .agg a.cs
def ak7.av (a:ak7):AV:= .agg [.int .i64 a.kind,.list (a.lines.map IV.str)]
def wtL:List Bs->Nat
 |[]=>0
 |s::r=>s.length+1+wtL r
theorem aoH:∀l:List Bs,wtI (l.map IV.str)=wtL l
 |[]=>rfl
 |s::r=>by simp only[Rj,wtI,IV.wt,wtL,aoH r]
section
variable {P:Program}
structure TyC (P:Program) (T:Ci P) where
 tI:TypeId
 tL:TypeId
 tC:TypeId
 tCs:TypeId
 fC:Array Field
 uI:P.underlying tI=some (.int .i64)
 uL:P.underlying tL=some (.slice T.tS)
 uC:P.underlying tC=some (.struct fC)
 uCs:P.underlying tCs=some (.slice tC)
 sC:fC.toList.map (·.type)=[tI,tL]
theorem Sh.strs {T:Ci P}:∀(ys:List IV),(∀y∈ys,Sh P T.tS y)->∃l:List Bs,ys=l.map IV.str
 |[],_=>⟨[],rfl⟩
 |y::r,h=>by
  obtain⟨s,rfl⟩:=(h y tM).uJ T.uS;obtain⟨l,rfl⟩:=Sh.strs r (λz hz=>h z (by simp[hz]));exact⟨s::l,rfl⟩
def Sh.lines {T:Ci P} (D:TyC P T) {y:IV} (h:Sh P D.tL y):∃l:List Bs,y= .list (l.map IV.str)/\wtL l+1=y.wt:=by
 obtain⟨ys,rfl,sn⟩:=h.ZY D.uL;obtain⟨l,rfl⟩:=Sh.strs ys sn;exact⟨l,rfl,by simp only[IV.wt,aoH]⟩
def Sh.act {T:Ci P} (D:TyC P T) {y:IV} (h:Sh P D.tC y):∃a:ak7,y=a.iv/\wtL a.lines+1<=y.wt:=by
 obtain⟨ys,rfl,hl,sn⟩:=h.x9 D.uC;have hs:D.fC.size=2:=by have:=VZ List.length D.sC;simpa using this
 match ys,hl.trans hs,sn with
 |[y0,y1],_,sn=>
  obtain⟨f0,e0,t0⟩:=eC D.sC 0 D.tI rfl;obtain⟨f1,e1,t1⟩:=eC D.sC 1 D.tL rfl;have h0:=sn 0 f0 y0 e0 rfl;have h1:=sn 1 f1 y1 e1 rfl;rw[t0] at h0;rw[t1] at h1;obtain⟨k,rfl,_⟩:=h0.Ch D.uI;obtain⟨l,rfl,h2⟩:=h1.lines D;exact⟨⟨k,l⟩,rfl,by simp only[IV.wt,wtI] at h2 ⊢;omega⟩
theorem Sh.aqR {T:Ci P} (D:TyC P T):∀(ys:List IV),(∀y∈ys,Sh P D.tC y)->∃d:List ak7,ys=d.map ak7.iv/\d.length<=wtI ys/\∀x∈d,wtL x.lines<=wtI ys
 |[],_=>⟨[],rfl,by simp[wtI],tM⟩
 |y::r,h=>by
  obtain⟨x,rfl,h1⟩:=(h y tM).act D;obtain⟨d,rfl,h2,h3⟩:=Sh.aqR D r (λz hz=>h z (by simp[hz]));refine⟨x::d,rfl,by simp only[wtI,gL];omega,λz hz=> ?_⟩;rcases PY.1 hz with rfl|hz
  ·simp only[wtI];omega
  have:=h3 z hz;simp only[wtI];omega
def Sh.alb {T:Ci P} (D:TyC P T) {y:IV} (h:Sh P D.tCs y):∃l:List ak7,y= .list (l.map ak7.iv)/\l.length<=y.wt/\∀x∈l,wtL x.lines<=y.wt:=by
 obtain⟨ys,rfl,sn⟩:=h.ZY D.uCs;obtain⟨d,rfl,h2,h3⟩:=Sh.aqR D ys sn;exact⟨d,rfl,by simp only[IV.wt];omega,λx hx=>by have:=h3 x hx;simp only[IV.wt];omega⟩
end
end Go.Am
