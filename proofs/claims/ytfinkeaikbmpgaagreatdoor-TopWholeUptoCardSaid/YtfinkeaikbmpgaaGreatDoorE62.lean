import Derived.Test.YtfinkeaikbmpgaaGreatDoorE60
set_option linter.unusedSimpArgs false
set_option linter.unusedVariables false
set_option linter.unnecessarySimpa false
set_option linter.defProp false
/- TopWhole. -/
namespace Go.Am
open Go Go.RowKit
section
variable {P:Program} {G:Nat→Option (List IV)}
def jY (aA aH:Nat):AC:=
(ay [oN 5 1,oN 6 2,oN 7 3,jK 8 false] (.seq (ay [b7 9 7 0,cS 10 9,db 11 .neq 10 0,af 12 11,j3 13 12 6 0,jP 14 12 13,hQ 15 12 (.bin .eql (.t 14) (ij 3)),nC 16 12 15,af 17 16,j3 18 17 6 0,jP 19 17 18,hQ 20 17 (.bin .eql (.t 19) (ij 2)),gj 21 17 20,iu 22 21 7 1,ir 23 21 22,eP 24 21 (.bin .eql (.t 23) (ij 0)),hQ 25 17 (.pick (.t 21) (.t 24) (vC false)),nC 26 17 25] (.cond (.t 26) (.seq (.fg [gd 27 1 5,af 28 0,aE 29 (.call aA [(.t 28)]),aE 30 (.call aH [(.t 27),(.t 29)]),af 31 30,iu 32 31 7 0,ir 33 31 32,eP 34 31 (.bin .eql (.t 33) (ij 0)),eJ 35 31 34,j3 36 35 7 1,jP 37 35 36,hQ 38 35 (.bin .eql (.t 37) (ij 0)),gj 39 35 38,iu 40 39 7 2,ir 41 39 40,eP 42 39 (.bin .eql (.t 41) (.c (.str []))),hQ 43 35 (.pick (.t 39) (.t 42) (vC false)),eP 44 31 (.pick (.t 35) (vC true) (.t 43)),l7 45 31 44,af 8 45] [[],[],[1],[0,2,2],[3,3],[4],[5,4],[6,4],[7,4,4],[8],[9,8],[10,8],[11,8,8],[12],[13,12],[14,12],[12,15,8],[8,16,4],[4,17],[18,12,0,1,2,3,4,5,6,7,8,9,10,11,12,13,14,15,16,17,18]] [.rw [.loc 5] [],.no,(.vj [(.loc 5)]),.no,.no,.no,.rw [.loc 7] [],.no,.no,.no,.rw [.loc 7] [],.no,.no,.no,.rw [.loc 7] [],.no,.no,.no,.no,.no]) .ret) .skip)) (ay [b7 46 7 1,cS 47 46,db 48 .gtr 47 0,af 49 48,iu 50 49 7 2,ir 51 49 50,eP 52 49 (.bin .eql (.t 51) (.c (.str []))),l7 53 49 52,af 8 53] .ret)))
set_option maxRecDepth 10000 in
def IK {d_ aA aH:Nat} (hF:an P G d_=some (54,[(none,8)],(jY aA aH).bare)) (d d2:Doc) (n2:Int) (a:bK) (r:l9) (hi:cW d=true) (Eu:cW d2=true) (hw:Whole d a d2 r)
  (qT:II P G aA) (hS:BB P G aH) :
  ez P G d_ [.ptr (.par 0) 2 0 0,Doc.av d,a.av,r.av] (dL d2 n2) (fun x cs=>x= .bool true∧cs=dL d2 n2):=by
 obtain⟨c,m,t⟩:=r;refine ft hF (by simp) (by simp[ah,AV.aB,bK.av,Doc.av,l9.av]) (by simp[ah,AV.aB,dL]) ?_;unfold jY;have he:d2=d→GM d d2=true:=fun h=>by rw[h];exact ng _
 have z0:((0:Int)==0)=true:=rfl;have zn:(([]:Bs)==[])=true:=rfl;have z33:((3:Int)==3)=true:=rfl;have z22:((2:Int)==2)=true:=rfl;have zs:((0:Int) !=0)=false:=rfl;have z23:((2:Int)==3)=false:=rfl;rcases hw with⟨hc,h2,h3,h4⟩|⟨hc,hk,h2⟩|⟨hc,hk,h3,h2⟩|⟨hc,hk,hz,h3,h4⟩
 ·simp only at hc h2 h3 h4;have B4:(c==0)=false:=by simpa using hc
  have HT:(c !=0)=true:=by simpa using hc
  subst h3;subst h4;simp only[↓aX,mX,seval,kY,dL,bK.av,Doc.av,l9.av,HT];refine⟨rfl,?_⟩;refine pd (l:= .par 0) (qT d2 n2 Eu) (by simp[aY,ren,iH]) (by simp[ae,dL]) (by simp[Lb.kQ]) ⟨rfl,rfl⟩ (by simp[AV.aB,Doc.av,ah]) (by simp[dL,ah,AV.aB]) rfl ?_;rintro x3 N5 ⟨rfl,rfl⟩ _ _ _;simp only[↓aX,mX,seval,Doc.av];refine gJ (hS d d2 hi Eu) ?_;simp only[↓aX,mX,seval,he h2,B4,z0,zn,↓dB];exact⟨_,rfl,by simp[AV.aB],by simp[ah,AV.aB,dL],rfl,by simp[ae,dL]⟩
 ·simp only at hc h2 hk;subst hc;simp only[↓aX,mX,seval,kY,dL,bK.av,Doc.av,l9.av,hk,zs,z33];refine⟨rfl,?_⟩;refine pd (l:= .par 0) (qT d2 n2 Eu) (by simp[aY,ren,iH]) (by simp[ae,dL]) (by simp[Lb.kQ]) ⟨rfl,rfl⟩ (by simp[AV.aB,Doc.av,ah]) (by simp[dL,ah,AV.aB]) rfl ?_;rintro x3 N5 ⟨rfl,rfl⟩ _ _ _;simp only[↓aX,mX,seval,Doc.av];refine gJ (hS d d2 hi Eu) ?_;simp only[↓aX,mX,seval,he h2,z0,zn,↓dB];exact⟨_,rfl,by simp[AV.aB],by simp[ah,AV.aB,dL],rfl,by simp[ae,dL]⟩
 ·simp only at hc h2 hk h3;subst hc;subst h3;simp only[↓aX,mX,seval,kY,dL,bK.av,Doc.av,l9.av,hk,zs,z23,z22,z0];refine⟨rfl,?_⟩;refine pd (l:= .par 0) (qT d2 n2 Eu) (by simp[aY,ren,iH]) (by simp[ae,dL]) (by simp[Lb.kQ]) ⟨rfl,rfl⟩ (by simp[AV.aB,Doc.av,ah]) (by simp[dL,ah,AV.aB]) rfl ?_;rintro x3 N5 ⟨rfl,rfl⟩ _ _ _;simp only[↓aX,mX,seval,Doc.av];refine gJ (hS d d2 hi Eu) ?_;simp only[↓aX,mX,seval,he h2,z0,zn,↓dB];exact⟨_,rfl,by simp[AV.aB],by simp[ah,AV.aB,dL],rfl,by simp[ae,dL]⟩
 simp only at hc hk hz h3 h4;subst hc;subst h4;have hk3:(a.kind==3)=false:=by simpa using hk
 simp only[↓aX,mX,seval,kY,dL,bK.av,Doc.av,l9.av,hk3,zs];have hm:(m==0)=false:=by simp;omega
 cases MP:(a.kind==2) with
 |true=>
  simp only[↓aX,mX,seval,MP,hm,show decide (m>0)=true by simpa using h3,zn,↓dB];exact⟨_,rfl,by simp[AV.aB],by simp[ah,AV.aB,dL],rfl,by simp[ae,dL]⟩
 |false=>
 simp only[↓aX,mX,seval,MP,hm,show decide (m>0)=true by simpa using h3,zn,↓dB];exact⟨_,rfl,by simp[AV.aB],by simp[ah,AV.aB,dL],rfl,by simp[ae,dL]⟩
def kE (aI d_:Nat):AC:=
(ay [jK 2 false] (ay [af 6 0,aE 7 (.call aI [(.t 6),(.c (.fn d_ [] []))]),af 5 7,gQ 8 5 0,gQ 9 5 1,af 3 8,af 4 9] (ay [af 10 4,af 2 10] .ret)))
def Me {nN aI d_:Nat} (hF:an P G nN=some (11,[(none,2)],(kE aI d_).bare)) (l:List bK) (hP:qa P G aI d_ l) :
  aw P G nN [.list (l.map bK.iv)] (.bool true):=by
 refine aM hF (by simp) (by simp[ah,AV.aB]) (by simp[AV.aB]) ?_;unfold kE;simp only[↓aX,mX,seval];refine lM 7 (fun q=> .dM [.ptr q 2 0 0,.bool true]) hP (by simp[ah,AV.aB]) (fun l=>by simp[NW,Hp.none]) fun q=> ?_;simp only[↓aX,mX,seval]
end
end Go.Am
namespace Go.Proofs.YtfinkeaikbmpgaaGreatDoor
open Go Go.Am Go.ChangeShapes
variable {t1 t2:Nat}
def X6:an Tryz.prog (gS t1 t2) 50=some (54,[(none,8)],(jY 22 29).bare):=by kernel_rfl
def Mf:an Tryz.prog (gS t1 t2) 12=some (11,[(none,2)],(kE 19 50).bare):=by kernel_rfl
def Mg (l:List bK) (hl:l.length≤B) (hw:∀a∈l,qf a.lines≤2^20):aw Tryz.prog (gS t1 t2) 12 [.list (l.map bK.iv)] (.bool true):=
 Me Mf l (IH l hl hw (by kernel_rfl) fun i a _ ha=>
  IK X6 _ _ _ a _ (l6 l i).1 (l6 l (i+1)).1 (by rw[u0 ha];exact Gy (l6 l i).1 _ a) Dd yp)
end Go.Proofs.YtfinkeaikbmpgaaGreatDoor
