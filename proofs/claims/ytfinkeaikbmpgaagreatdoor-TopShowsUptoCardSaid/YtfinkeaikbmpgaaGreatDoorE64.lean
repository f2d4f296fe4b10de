import Derived.Test.YtfinkeaikbmpgaaGreatDoorE60
set_option linter.unusedSimpArgs false
set_option linter.unusedVariables false
set_option linter.unnecessarySimpa false
set_option linter.defProp false
/- TopShows. -/
namespace Go.Am
open Go Go.RowKit
section
variable {P:Program} {G:Nat→Option (List IV)}
def kG (aI aP aA de fG aF aH:Nat):AC:=
(ay [jK 2 false] (ay [af 13 0,aE 14 (.call aI [(.t 13),(.c (.fn aP [] []))]),af 12 14,gQ 15 12 0,gQ 16 12 1,af 3 15,af 4 16] (.seq (ay [af 17 4,uk 18 17] (.cond (.t 18) (ay [jK 2 false] .ret) .skip)) (ay [af 19 3,aE 20 (.call aA [(.t 19)]),aE 5 (.new [.nil0]),dT (.store 1 (.t 5) (.t 20))] (ay [gd 22 1 5,aE 23 (.call de [(.t 22),(ij 0)]),af 21 23,gQ 24 21 0,gQ 25 21 1,aE 6 (.new [(.bool false),(.str []),.nil0,.nil0]),dT (.store 4 (.t 6) (.t 24)),af 7 25] (ay [gd 27 4 6,aE 28 (.call fG [(.t 27)]),af 26 28,gQ 29 26 0,gQ 30 26 1,af 8 29,af 9 30] (ay [af 31 3,aE 32 (.oa [(.int .i64 0),.nil0] [(0,(1,(ij 3)))]),aE 33 (.call aF [(.t 31),(.t 32)]),aE 10 (.new [(.int .i64 0),(.int .i64 0),(.str [])]),dT (.store 3 (.t 10) (.t 33))] (.seq (ay [af 34 9,db 35 .neq 34 0] (.cond (.t 35) (ay [b7 36 10 0,cS 37 36,af 38 9,eS 39 .eql 37 38,af 40 39,iu 41 40 10 2,ir 42 40 41,eP 43 40 (.bin .eql (.t 42) (.c (.str []))),l7 44 40 43,af 2 44] .ret) .skip)) (.seq (ay [b7 45 10 0,cS 46 45,db 47 .neq 46 0,af 48 47,j3 49 48 10 2,jP 50 48 49,gj 51 48 8,hQ 52 48 (.bin .neq (.t 50) (.t 51)),nC 53 48 52,af 54 53,j3 55 54 10 1,jP 56 54 55,j3 57 54 5 0,jP 58 54 57,hQ 59 54 (.len (.t 58)),hQ 60 54 (.bin .neq (.t 56) (.t 59)),nC 61 54 60] (.cond (.t 61) (ay [jK 2 false] .ret) .skip)) (ay [af 62 3,b7 63 10 2,cS 64 63,aE 65 (.lits 1 1 [(.str [])] [(0,(.t 64))]),aE 66 (.oa [(.int .i64 0),.nil0] [(0,(1,(ij 1))),(1,(1,(.t 65)))]),aE 67 (.call aF [(.t 62),(.t 66)]),aE 11 (.new [(.int .i64 0),(.int .i64 0),(.str [])]),dT (.store 3 (.t 11) (.t 67))] (.seq (.fg [b7 68 11 0,cS 69 68,db 70 .eql 69 0,af 71 70,iu 72 71 11 1,ir 73 71 72,iu 74 71 5 0,ir 75 71 74,eP 76 71 (.len (.t 75)),eP 77 71 (.bin .eql (.t 73) (.t 76)),l7 78 71 77,af 79 78,eP 80 79 (.load (some 1) (.t 5)),eJ 81 79 3,eP 82 79 (.call aA [(.t 81)]),eP 83 79 (.call aH [(.t 80),(.t 82)]),l7 84 79 83,af 2 84] [[],[0],[1],[2],[3],[4,3],[3],[6,3],[7,3],[5,8,3],[3,9],[10,3],[11],[11],[13,11,11],[12,14,14,11],[11,15],[16,15,0,1,2,3,4,5,6,7,8,9,10,11,12,13,14,15,16]] [.no,.rw [.loc 11] [],.no,.no,.no,.rw [.loc 11] [],.no,.rw [.loc 5] [],.no,.no,.no,.no,.rw [.loc 5] [],.no,(.vj [(.loc 5)]),.no,.no,.no]) .ret)))))))))))
set_option maxRecDepth 10000 in
def Mk {nP aI aP aA de fG aF aH:Nat} (hF:an P G nP=some (85,[(none,2)],(kG aI aP aA de fG aF aH).bare)) (l:List bK)
  (hP:qa P G aI aP l) (qT:II P G aA) (Bv:∀a:bK,qf a.lines≤2^20→UK P G aF a) (hS:BB P G aH)
  (hT:∀d:Doc,cW d=true→aw P G de [Doc.av d,.int .i64 0] (.dM [(e_ d 0).1.av,.int .i64 (e_ d 0).2])) (XS:∀t:Tree,t.fZ=true→aw P G fG [t.av] (.dM [.str (dZ t).1,.int .i64 (dZ t).2])) :
  aw P G nP [.list (l.map bK.iv)] (.bool true):=by
 obtain⟨hi,h0,h1⟩:=l6 l (min l.length 50);have QC:(gF l (min l.length 50)).2<99:=by rw[uf l _ (by omega) (by omega)];omega
 obtain⟨d,hd⟩:∃d,(gF l (min l.length 50)).1=d:=⟨_,rfl⟩;obtain⟨n,hn⟩:∃n,(gF l (min l.length 50)).2=n:=⟨_,rfl⟩;rw[hd] at hi;rw[hn] at h0 h1 QC;unfold qa at hP;rw[hd,hn] at hP;clear hd hn;have hT:=hT d hi;obtain⟨t,ht,rfl⟩:=hZ.1 hi;rw[(u5 ht).2] at hT;have XS:=XS t ht;refine aM hF (by simp) (by simp[ah,AV.aB]) (by simp[AV.aB]) ?_;unfold kG;simp only[↓aX,mX,seval];refine lM 14 (fun q=> .dM [.ptr q 2 0 0,.bool true]) hP (by simp[ah,AV.aB]) (fun l=>by simp[NW,Hp.none,ae]) fun q=> ?_;have hn:∀k,(Lb.loc k=NW 14 q)=False:=fun k=>by simp[NW]
 have za:∀k,(NW 14 q=Lb.loc k)=False:=fun k=>by simp[NW]
 simp only[↓aX,mX,seval,Bool.not_true];refine a7 (l:=NW 14 q) (qT _ n hi) (by simp[aY,ren,iH]) (by simp[ae,dL,ar,IV.cells,za,Hp.none]) ?_;rintro x1 Yo ⟨rfl,rfl⟩ _ _ _;simp only[↓aX,mX,seval,Doc.av,hn,Hp.none];simp only[Doc.av] at hT;refine aq hT ?_;simp only[↓aX,mX,seval,Tree.av,hn,Hp.none];simp only[Tree.av] at XS;refine aq XS ?_;simp only[↓aX,mX,seval,hn,Hp.none];refine a7 (l:=NW 14 q) (Ee (Bv ⟨3,[]⟩ (by simp[qf]) _ n hi h0 h1)) (by simp[aY,ren,iH]) (by simp[ae,dL,za,hn]) ?_;rw[show mQ (aK t) n ⟨3,[]⟩=((aK t,n+1),if(dZ t).2=0 then⟨0,(aK t).length,(dZ t).1⟩ else⟨(dZ t).2,0,[]⟩) from Tm ht (by omega)];rintro x2 Ta ⟨rfl,rfl⟩ _ _ _;by_cases hp:(dZ t).2=0
 ·obtain⟨JN,EA⟩:=Gz ht hp;have hD2:=Bv ⟨1,[(dZ t).1]⟩ (by simp[qf];omega) (aK t) (n+1) hi (by omega) (by omega);rw[Kh (by omega) (by rw[JN]),JN] at hD2;simp only[↓aX,mX,seval,l9.av,hn,Hp.none,hp,if_true,List.length_map,show((0:Int) !=0)=false from rfl,show((dZ t).1 !=(dZ t).1)=false by simp,show((dZ t).1==(dZ t).1)=true by simp,Bool.not_true,show((((aK t).length:Nat):Int) !=(((aK t).length:Nat):Int))=false by simp];refine a7 (l:=NW 14 q) hD2 (by simp[aY,ren,iH,bK.av]) (by simp[ae,dL,za,hn]) ?_;rintro x3 N5 ⟨rfl,rfl⟩ _ _ _;simp only[↓aX,mX,seval,l9.av,hn,Hp.none,List.length_map,show((0:Int)==0)=true from rfl,show((((aK t).length:Nat):Int)==(((aK t).length:Nat):Int))=true by simp];refine⟨rfl,?_⟩;refine pd (l:=NW 14 q) (qT (aK t) (n+1+1) hi) (by simp[aY,ren,iH]) (by simp[ae,dL,za,hn]) (by simp[NW,Lb.kQ]) ⟨rfl,rfl⟩ (by simp[AV.aB,Doc.av,ah]) (by simp[dL,ah,AV.aB]) rfl ?_;rintro x4 cs4 ⟨rfl,rfl⟩ _ _ _;simp only[↓aX,mX,seval,hn,Hp.none,Doc.av];refine gJ (hS _ _ hi hi) ?_;simp only[↓aX,mX,seval,ng]
 have ff:((dZ t).2 !=0)=true:=by simpa using hp
 simp only[↓aX,mX,seval,l9.av,hn,Hp.none,if_neg hp,ff,show((dZ t).2==(dZ t).2)=true by simp,show(([]:Bs)==[])=true from rfl]
end
end Go.Am
namespace Go.Proofs.YtfinkeaikbmpgaaGreatDoor
open Go Go.Am Go.ChangeShapes
variable {t1 t2:Nat}
def Ml:an Tryz.prog (gS t1 t2) 5=some (85,[(none,2)],(kG 19 25 22 26 27 28 29).bare):=by kernel_rfl
def Mm (l:List bK) (hl:l.length≤B) (hw:∀a∈l,qf a.lines≤2^20):aw Tryz.prog (gS t1 t2) 5 [.list (l.map bK.iv)] (.bool true):=
 Mk Ml l (xo l hl hw) Dd IJ yp Qf (fun t ht=>P1 t (by have:=qy ht;unfold B;omega))
end Go.Proofs.YtfinkeaikbmpgaaGreatDoor
