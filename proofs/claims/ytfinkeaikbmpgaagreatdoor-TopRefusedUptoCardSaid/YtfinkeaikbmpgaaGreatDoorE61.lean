import Derived.Test.YtfinkeaikbmpgaaGreatDoorE60
set_option linter.unusedSimpArgs false
set_option linter.unusedVariables false
set_option linter.unnecessarySimpa false
set_option linter.defProp false
/- TopRefused. -/
namespace Go.Am
open Go Go.RowKit
section
variable {P:Program} {G:Nat→Option (List IV)}
def jZ (aI aP aA aF aH:Nat):AC:=
(ay [oN 3 1,jK 4 false] (ay [af 10 0,aE 11 (.call aI [(.t 10),(.c (.fn aP [] []))]),af 9 11,gQ 12 9 0,gQ 13 9 1,af 5 12,af 6 13] (.seq (ay [af 14 6,uk 15 14] (.cond (.t 15) (ay [jK 4 false] .ret) .skip)) (ay [af 16 5,aE 17 (.call aA [(.t 16)]),aE 7 (.new [.nil0]),dT (.store 1 (.t 7) (.t 17))] (ay [af 18 5,gd 19 2 3,aE 20 (.call aF [(.t 18),(.t 19)]),aE 8 (.new [(.int .i64 0),(.int .i64 0),(.str [])]),dT (.store 3 (.t 8) (.t 20))] (.seq (.fg [b7 21 8 0,cS 22 21,db 23 .eql 22 0,af 24 23,j3 25 24 8 1,jP 26 24 25,hQ 27 24 (.bin .eql (.t 26) (ij 0)),gj 28 24 27,iu 29 28 8 2,ir 30 28 29,eP 31 28 (.bin .eql (.t 30) (.c (.str []))),hQ 32 24 (.pick (.t 28) (.t 31) (vC false)),gj 33 24 32,eP 34 33 (.load (some 1) (.t 7)),eJ 35 33 5,eP 36 33 (.call aA [(.t 35)]),eP 37 33 (.call aH [(.t 34),(.t 36)]),hQ 38 24 (.pick (.t 33) (.t 37) (vC false)),nC 39 24 38,af 4 39] [[],[0],[1],[2],[3],[4,3],[5,3],[6,3,3],[7],[8,7],[9,7],[7,10,3],[11,7,3],[12],[12],[14,12,12],[13,15,15,12],[12,16,3],[3,17],[18,16,0,1,2,3,4,5,6,7,8,9,10,11,12,13,14,15,16,17,18]] [.no,.rw [.loc 8] [],.no,.no,.no,.rw [.loc 8] [],.no,.no,.no,.rw [.loc 8] [],.no,.no,.no,.rw [.loc 7] [],.no,(.vj [(.loc 7)]),.no,.no,.no,.no]) .ret))))))
set_option maxRecDepth 10000 in
def GA {mR aI aP aA aF aH:Nat} (hF:an P G mR=some (40,[(none,4)],(jZ aI aP aA aF aH).bare)) (l:List bK) (a:bK)
  (hP:qa P G aI aP l) (qT:II P G aA) (Bv:UK P G aF a) (hS:BB P G aH) :
  aw P G mR [.list (l.map bK.iv),a.av] (.bool true):=by
 obtain⟨hi,h0,h1⟩:=l6 l (min l.length 50);obtain⟨d,hd⟩:∃d,(gF l (min l.length 50)).1=d:=⟨_,rfl⟩;obtain⟨n,hn⟩:∃n,(gF l (min l.length 50)).2=n:=⟨_,rfl⟩;rw[hd] at hi;rw[hn] at h0 h1;unfold qa at hP;rw[hd,hn] at hP;refine aM hF (by simp) (by simp[ah,AV.aB,bK.av]) (by simp[AV.aB]) ?_;unfold jZ;simp only[↓aX,mX,seval,bK.av];refine lM 11 (fun q=> .dM [.ptr q 2 0 0,.bool true]) hP (by simp[ah,AV.aB]) (fun l=>by simp[NW,Hp.none,ae]) fun q=> ?_;have hn:∀k,(Lb.loc k=NW 11 q)=False:=fun k=>by simp[NW]
 have za:∀k,(NW 11 q=Lb.loc k)=False:=fun k=>by simp[NW]
 simp only[↓aX,mX,seval,Bool.not_true];refine a7 (l:=NW 11 q) (qT d n hi) (by simp[aY,ren,iH]) (by simp[ae,dL,ar,IV.cells,za]) ?_;rintro x1 Yo ⟨rfl,rfl⟩ _ _ _;simp only[↓aX,mX,seval,Doc.av,hn,Hp.none];refine a7 (l:=NW 11 q) (Bv d n hi h0 h1) (by simp[aY,ren,iH,bK.av]) (by simp[ae,dL,za]) ?_;rintro x2 Ta ⟨rfl,rfl⟩ _ _ _;have hw:=Gy hi n a;have Eu:=(Ef (q:=(d,n)) a ⟨hi,h0,h1⟩).1;simp only at Eu;generalize mQ d n a=x at hw Eu ⊢;obtain⟨⟨d2,n2⟩,⟨c,m,t⟩⟩:=x;simp only at hw Eu;simp only[↓aX,mX,seval,l9.av,hn,Hp.none];refine⟨rfl,?_⟩;rcases hw with⟨hc,h2,h3,h4⟩|hc
 ·simp only at hc h2 h3 h4;subst h2;subst h3;subst h4;have B4:(c==0)=false:=by simpa using hc
  simp only[↓aX,mX,seval,B4,show((0:Int)==0)=true from rfl,show(([]:Bs)==[])=true from rfl,hn,Hp.none];refine pd (l:=NW 11 q) (qT d2 n2 Eu) (by simp[aY,ren,iH]) (by simp[ae,dL,za,hn]) (by simp[NW,Lb.kQ]) ⟨rfl,rfl⟩ (by simp[AV.aB,Doc.av,ah]) (by simp[dL,ah,AV.aB]) rfl ?_;rintro x3 N5 ⟨rfl,rfl⟩ _ _ _;simp only[↓aX,mX,seval,hn,Hp.none,Doc.av];refine gJ (hS d2 d2 hi hi) ?_;simp only[↓aX,mX,seval,ng,B4]
 have EG:(c==0)=true:=by rcases hc with⟨h,_⟩|⟨h,_⟩|⟨h,_⟩<;>simpa using h
 simp only[↓aX,mX,seval,EG,hn,Hp.none]
end
end Go.Am
namespace Go.Proofs.YtfinkeaikbmpgaaGreatDoor
open Go Go.Am Go.ChangeShapes
variable {t1 t2:Nat}
def GB:an Tryz.prog (gS t1 t2) 16=some (40,[(none,4)],(jZ 19 25 22 28 29).bare):=by kernel_rfl
def GC (l:List bK) (hl:l.length≤B) (hw:∀a∈l,qf a.lines≤2^20) (a:bK) (ha:qf a.lines≤2^20):aw Tryz.prog (gS t1 t2) 16 [.list (l.map bK.iv),a.av] (.bool true):=
 GA GB l a (xo l hl hw) Dd (IJ a ha) yp
end Go.Proofs.YtfinkeaikbmpgaaGreatDoor
