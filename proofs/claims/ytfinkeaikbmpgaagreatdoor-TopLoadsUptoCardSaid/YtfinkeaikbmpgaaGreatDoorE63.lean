import Derived.Test.YtfinkeaikbmpgaaGreatDoorE60
set_option linter.unusedSimpArgs false
set_option linter.unusedVariables false
set_option linter.unnecessarySimpa false
set_option linter.defProp false
/- TopLoads. -/
namespace Go.Am
open Go Go.RowKit
section
variable {P:Program} {G:Nat→Option (List IV)}
def kF (aI aP fE aA aF aH de dp:Nat):AC:=
(ay [jK 4 false] (ay [af 14 0,aE 15 (.call aI [(.t 14),(.c (.fn aP [] []))]),af 13 15,gQ 16 13 0,gQ 17 13 1,af 5 16,af 6 17] (.seq (ay [af 18 6,uk 19 18] (.cond (.t 19) (ay [jK 4 false] .ret) .skip)) (ay [af 21 1,aE 22 (.call fE [(.t 21)]),af 20 22,gQ 23 20 0,gQ 24 20 1,aE 7 (.new [(.bool false),(.str []),.nil0,.nil0]),dT (.store 4 (.t 7) (.t 23)),af 8 24] (ay [af 25 5,aE 26 (.call aA [(.t 25)]),aE 9 (.new [.nil0]),dT (.store 1 (.t 9) (.t 26))] (ay [af 27 5,af 28 1,aE 29 (.lits 1 1 [(.str [])] [(0,(.t 28))]),aE 30 (.oa [(.int .i64 0),.nil0] [(0,(1,(ij 1))),(1,(1,(.t 29)))]),aE 31 (.call aF [(.t 27),(.t 30)]),aE 10 (.new [(.int .i64 0),(.int .i64 0),(.str [])]),dT (.store 3 (.t 10) (.t 31))] (.seq (ay [af 32 8,db 33 .neq 32 0] (.cond (.t 33) (.seq (.fg [b7 34 10 0,cS 35 34,af 36 8,eS 37 .eql 35 36,af 38 37,eP 39 38 (.load (some 1) (.t 9)),eJ 40 38 5,eP 41 38 (.call aA [(.t 40)]),eP 42 38 (.call aH [(.t 39),(.t 41)]),l7 43 38 42,af 4 43] [[],[0],[],[1,2],[3],[4],[4],[6,4,4],[5,7,7,4],[4,8],[9,8,0,1,2,3,4,5,6,7,8,9]] [.no,.rw [.loc 10] [],.no,.no,.no,.rw [.loc 9] [],.no,(.vj [(.loc 9)]),.no,.no,.no]) .ret) .skip)) (ay [af 45 5,aE 46 (.call aA [(.t 45)]),aE 47 (.call de [(.t 46),(ij 0)]),af 44 47,gQ 48 44 0,gQ 49 44 1,aE 11 (.new [(.bool false),(.str []),.nil0,.nil0]),dT (.store 4 (.t 11) (.t 48)),af 12 49] (ay [b7 50 10 0,cS 51 50,db 52 .eql 51 0,af 53 52,eJ 54 53 12,eP 55 53 (.bin .eql (.t 54) (ij 0)),l7 56 53 55,af 57 56,eP 58 57 (.load (some 4) (.t 7)),eP 59 57 (.load (some 4) (.t 11)),eP 60 57 (.call dp [(.t 58),(.t 59)]),l7 61 57 60,af 4 61] .ret)))))))))
set_option maxRecDepth 10000 in
def Mh {nO aI aP fE aA aF aH de dp:Nat} (hF:an P G nO=some (62,[(none,4)],(kF aI aP fE aA aF aH de dp).bare)) (l:List bK) (s:Bs)
  (hP:qa P G aI aP l) (hPa:aw P G fE [.str s] (.dM [(dQ s).1.av,.int .i64 (dQ s).2]))
  (qT:II P G aA) (Bv:UK P G aF ⟨1,[s]⟩) (hS:BB P G aH)
  (hT:∀d:Doc,cW d=true→aw P G de [Doc.av d,.int .i64 0] (.dM [(e_ d 0).1.av,.int .i64 (e_ d 0).2])) (hE:∀t:Tree,t.fZ=true→aw P G dp [t.av,t.av] (.bool true)) :
  aw P G nO [.list (l.map bK.iv),.str s] (.bool true):=by
 obtain⟨hi,h0,h1⟩:=l6 l (min l.length 50);have QC:(gF l (min l.length 50)).2<100:=by rw[uf l _ (by omega) (by omega)];omega
 obtain⟨d,hd⟩:∃d,(gF l (min l.length 50)).1=d:=⟨_,rfl⟩;obtain⟨n,hn⟩:∃n,(gF l (min l.length 50)).2=n:=⟨_,rfl⟩;rw[hd] at hi;rw[hn] at h0 h1 QC;unfold qa at hP;rw[hd,hn] at hP;refine aM hF (by simp) (by simp[ah,AV.aB,bK.av]) (by simp[AV.aB]) ?_;unfold kF;simp only[↓aX,mX,seval];refine lM 15 (fun q=> .dM [.ptr q 2 0 0,.bool true]) hP (by simp[ah,AV.aB]) (fun l=>by simp[NW,Hp.none,ae]) fun q=> ?_;have hn:∀k,(Lb.loc k=NW 15 q)=False:=fun k=>by simp[NW]
 have za:∀k,(NW 15 q=Lb.loc k)=False:=fun k=>by simp[NW]
 simp only[↓aX,mX,seval,Bool.not_true];refine aq hPa ?_;simp only[↓aX,mX,seval,hn,Hp.none,Tree.av];refine a7 (l:=NW 15 q) (qT d n hi) (by simp[aY,ren,iH]) (by simp[ae,dL,ar,IV.cells,za,Hp.none]) ?_;rintro x1 Yo ⟨rfl,rfl⟩ _ _ _;simp only[↓aX,mX,seval,Doc.av,hn,Hp.none];have Bv:=Bv d n hi h0 h1;by_cases hp:(dQ s).2=0
 ·rw[Kh QC hp] at Bv;have hg:=qb hp;have hx:cW (aK (dQ s).1)=true:=mc hg;have hT:=hT _ hx;rw[(u5 hg).2] at hT;refine a7 (l:=NW 15 q) Bv (by simp[aY,ren,iH,bK.av]) (by simp[ae,dL,za,hn]) ?_;rintro x2 Ta ⟨rfl,rfl⟩ _ _ _;simp only[↓aX,mX,seval,l9.av,hn,Hp.none,hp,show((0:Int) !=0)=false from rfl];refine a7 (l:=NW 15 q) (qT _ (n+1) hx) (by simp[aY,ren,iH]) (by simp[ae,dL,za]) ?_;rintro x3 N5 ⟨rfl,rfl⟩ _ _ _;simp only[↓aX,mX,seval,Doc.av,hn,Hp.none];simp only[Doc.av,Tree.av] at hT;refine aq hT ?_;have hE:=hE _ hg;simp only[Tree.av] at hE;simp only[↓aX,mX,seval,Tree.av,hn,Hp.none,show((0:Int)==0)=true from rfl];refine aq hE ?_;simp only[↓aX,mX,seval]
 have ff:((dQ s).2 !=0)=true:=by simpa using hp
 rw[Qe QC hp] at Bv;refine a7 (l:=NW 15 q) Bv (by simp[aY,ren,iH,bK.av]) (by simp[ae,dL,za,hn]) ?_;rintro x2 Ta ⟨rfl,rfl⟩ _ _ _;simp only[↓aX,mX,seval,l9.av,hn,Hp.none,ff,show((dQ s).2==(dQ s).2)=true by simp];refine⟨rfl,?_⟩;refine pd (l:=NW 15 q) (qT d (n+1) hi) (by simp[aY,ren,iH]) (by simp[ae,dL,za,hn]) (by simp[NW,Lb.kQ]) ⟨rfl,rfl⟩ (by simp[AV.aB,Doc.av,ah]) (by simp[dL,ah,AV.aB]) rfl ?_;rintro x3 N5 ⟨rfl,rfl⟩ _ _ _;simp only[↓aX,mX,seval,hn,Hp.none,Doc.av];refine gJ (hS d d hi hi) ?_;simp only[↓aX,mX,seval,ng]
end
end Go.Am
namespace Go.Proofs.YtfinkeaikbmpgaaGreatDoor
open Go Go.Am Go.ChangeShapes
variable {t1 t2:Nat}
def Mi:an Tryz.prog (gS t1 t2) 14=some (62,[(none,4)],(kF 19 25 51 22 28 29 26 52).bare):=by kernel_rfl
def Mj (l:List bK) (hl:l.length≤B) (hw:∀a∈l,qf a.lines≤2^20) (s:Bs) (hs:s.length<2^20):aw Tryz.prog (gS t1 t2) 14 [.list (l.map bK.iv),.str s] (.bool true):=
 Mh Mi l s (xo l hl hw) (P2 s (by unfold B;omega)) Dd (IJ ⟨1,[s]⟩ (by simp[qf];omega)) yp Qf (fun t ht=>by
  have h:=CK (P:=Tryz.prog) (G:=gS t1 t2) T_ t t (by have:=qy ht;unfold B;omega);rw[ng] at h;exact h)
end Go.Proofs.YtfinkeaikbmpgaaGreatDoor
