import Derived.Test.YtfinkeaikbmpgaaGreatDoorKC2
import Derived.Test.YtfinkeaikbmpgaaGreatDoorKAm47
import Derived.Test.YtfinkeaikbmpgaaGreatDoorKAm40
import Derived.Test.YtfinkeaikbmpgaaGreatDoorKT15
import Derived.Test.YtfinkeaikbmpgaaGreatDoorKT80
set_option linter.unusedSimpArgs false
set_option linter.unusedVariables false
set_option linter.unnecessarySimpa false
set_option linter.defProp false
/- Changes: what is wrong with one; with all of them. -/
set_option maxRecDepth 20000
namespace Go.Am
open Go Go.RowKit
noncomputable def kK (d:Doc) (o:Op):Int:=
 if cW d=true then(if o.kind<1∨10<o.kind then 4 else if o.target<0∨(d.length:Int)≤o.target then 3 else match d[o.target.toNat]? with|some x=>sv x o|none=>3) else 1
section
variable {P:Program} {G:Nat→Option (List IV)}
def om (bX dK:Nat):AC:=
(ay [oN 2 0,oN 3 1,eX 4 0] (.seq (ay [gd 5 1 2,aE 6 (.call bX [(.t 5)]),uk 7 6] (.cond (.t 7) (ay [eX 4 1] .ret) .skip)) (.seq (.block 0 (ay [b7 9 3 0,cS 10 9,db 11 .lss 10 1,af 12 11,j3 13 12 3 0,jP 14 12 13,hQ 15 12 (.bin .gtr (.t 14) (ij 10)),nC 16 12 15,af 8 16] (.cond (.t 8) (ay [eX 4 4] .ret) (ay [b7 18 3 1,cS 19 18,db 20 .lss 19 0,af 21 20,j3 22 21 3 1,jP 23 21 22,j3 24 21 2 0,jP 25 21 24,hQ 26 21 (.len (.t 25)),hQ 27 21 (.bin .geq (.t 23) (.t 26)),nC 28 21 27,af 17 28] (.cond (.t 17) (ay [eX 4 3] .ret) .skip))))) (.seq (.fg [b7 29 2 0,cS 30 29,b7 31 3 1,cS 32 31,ig 33 30 32 5,gd 34 5 33,gd 35 5 3,aE 36 (.call dK [(.t 34),(.t 35)]),af 4 36] [[],[0],[],[2],[1,3],[4],[],[5,6],[7,7,0,1,2,3,4,5,6,7]] [.no,(.rw [(.loc 2)] []),.no,(.rw [(.loc 3)] []),.no,.no,(.rw [(.loc 3)] []),.no,.no]) .ret))))
def F7 {eW bX dK:Nat} (hF:an P G eW=some (37,[(none,4)],(om bX dK).bare)) (d:Doc) (o:Op) (hG:aw P G bX [Doc.av d] (.bool (cW d)))
  (hW:∀x:Node,1≤o.kind→o.kind≤10→aw P G dK [x.av,o.av] (.int .i64 (sv x o))) :
  aw P G eW [Doc.av d,o.av] (.int .i64 (kK d o)):=by
 refine aM hF (by simp) (by simp[ah,AV.aB,Op.av,Doc.av]) (by simp[AV.aB]) ?_;unfold om;simp only[↓aX,mX,seval,Op.av,Doc.av];refine aq hG ?_;unfold kK;cases hd:cW d with
 |false=>simp only[↓aX,mX,seval,adI];try rfl
 |true=>
 simp only[↓aX,mX,seval,adL,Op.av,Doc.av];cases h1:decide (o.kind<1) with
 |true=>
  simp only[↓aX,mX,seval,h1,Op.av,Doc.av];have:o.kind<1:=by simpa using h1
  simp[this]
 |false=>
 simp only[↓aX,mX,seval,h1,Op.av,Doc.av,af3];cases h2:decide (10<o.kind) with
 |true=>
  simp only[↓aX,mX,seval,h1,h2,Op.av,Doc.av];have:10<o.kind:=by simpa using h2
  simp[this]
 |false=>
 simp only[↓aX,mX,seval,h1,h2,Op.av,Doc.av];have k1:¬o.kind<1:=by simpa using h1
 have k2:¬10<o.kind:=by simpa using h2
 cases h3:decide (o.target<0) with
 |true=>
  simp only[↓aX,mX,seval,h1,h2,h3,Op.av,Doc.av];have:o.target<0:=by simpa using h3
  simp[k1,k2,this]
 |false=>
 simp only[↓aX,mX,seval,h1,h2,h3,Op.av,Doc.av,agC,ag5];have k3:¬o.target<0:=by simpa using h3
 cases h4:decide ((d.length:Int)≤o.target) with
 |true=>
  simp only[↓aX,mX,seval,h1,h2,h3,h4,Op.av,Doc.av];have:(d.length:Int)≤o.target:=by simpa using h4
  simp[k1,k2,k3,this]
 |false=>
 have k4:¬(d.length:Int)≤o.target:=by simpa using h4
 obtain⟨x,hx⟩:∃x,d[o.target.toNat]?=some x:=⟨_,ag7 (by omega)⟩;have Xo:(d.map Node.iv)[o.target.toNat]?=some x.iv:=by rw[adX,hx];rfl
 have k5:0≤o.target:=by omega
 simp only[↓aX,mX,seval,h1,h2,h3,h4,Op.av,Doc.av,k5,Xo,tl,Node.bw,Node.cs];refine⟨rfl,gJ (hW x (by omega) (by omega)) ?_⟩;simp only[↓aX,mX,seval];simp[k1,k2,k3,k4,hx]
def lJ (dY:Nat):AC:=
(ay [oN 2 0,jK 3 false] (ay [gd 4 5 1,gd 5 5 2,aE 6 (.call dY [(.t 4),(.t 5)]),af 3 6] .ret))
def SI {dE dY:Nat} (hF:an P G dE=some (7,[(none,3)],(lJ dY).bare)) (a b:Op) (hA:aw P G dY [a.av,b.av] (.bool (aR a b))) :
  aw P G dE [b.av,.lptr a.cs] (.bool (aR a b)):=by
 refine aM hF (by simp) (by simp[ah,AV.aB,Op.av]) (by simp[AV.aB]) ?_;unfold lJ;simp only[↓aX,mX,seval,Op.av,Op.cs];refine aq hA ?_;simp only[↓aX,mX,seval]
def F8 {α:Type} (p:α→Bool) (l:List α):Int:=match l.findIdx? p with|some k=>(k:Int)|none=> -1
def SJ {α:Type} {p:α→Bool} {xs:List α} {k:Nat} {x:α} (h:xs[k]?=some x) (hx:p x=true) (hb:∀j y,j<k→xs[j]?=some y→p y=false):F8 p xs=k:=by
 have:xs.findIdx? p=some k:=by
  rw[afF];obtain⟨hk,e⟩:=ag6.1 h;refine⟨hk,by rw[e];exact hx,fun j hj=> ?_⟩;have h2:=hb j xs[j] hj (ag7 (by omega));simp[h2]
 rw[F8,this]
def LL {α:Type} {p:α→Bool} {xs:List α} (h:∀x∈xs,p x=false):F8 p xs= -1:=by
 have:xs.findIdx? p=none:=afY.2 fun x hx=>by rw[h x hx]
 rw[F8,this]
def O8 {α:Type} {p:α→Bool} {xs:List α}:decide (F8 p xs≥0)=xs.any p:=by
 unfold F8;cases h:xs.findIdx? p with
 |none=>
  rw[afY] at h;have:xs.any p=false:=by rw[agq];intro x hx;rw[h x hx];simp
  rw[this];decide
 |some k=>
 rw[afF] at h;obtain⟨hk,e,_⟩:=h;have:xs.any p=true:=kF.2 ⟨_,afu hk,e⟩;rw[this];simp
def gV:AC:=
(ay [eX 4 0] (.seq (ay [af 6 0,ky 7 6,eX 8 0] (.block 0 (.loop (ay [eS 9 .lss 8 7] (.seq (.cond (.t 9) .skip (.exit 0)) (.seq (.block 1 (ay [af 10 8,af 5 10] (ay [af 11 1,af 12 0,af 13 5,ig 14 12 13 5,gd 15 5 14,aE 16 (.jH (.t 11) [(.t 15)])] (.cond (.t 16) (ay [af 17 5,af 4 17] .ret) .skip)))) (.ec [db 18 .add 8 1,af 8 18]))))))) (ay [aE 4 (.nE (.c (.int .i64 (-1))))] .ret)))
def F9 {bY fc:Nat} {cs:List IV} (hF:an P G bY=some (19,[(none,4)],gV.bare)) (l:List Op) (hx:l.length≤B) (p:Op→Bool) (hb:jQ P fc=true) (hC:∀b∈l,aw P G fc [b.av,.lptr cs] (.bool (p b))) :
  aw P G bY [.list (l.map Op.iv),.fn fc [] [.lptr cs]] (.int .i64 (F8 p l)):=by
 refine aM hF (by simp) (by simp[ah,AV.aB]) (by simp[AV.aB]) ?_;unfold gV;have nM:B=1073741824:=rfl;simp only[↓aX,mX,seval,ag5];refine mK (σ:={i:Nat // i≤l.length∧∀j y,j<i→l[j]?=some y→p y=false}) (fun q=>[(0,.list (l.map Op.iv)),(1,.fn fc [] [.lptr cs]),(7,.int .i64 l.length),(8,.int .i64 q.1)]) (fun q=>l.length - q.1) ⟨0,by simp⟩ (fun _=>rfl) ?_ ?_
 ·exact⟨by simp only[↓aX,mX,seval],by repeat' constructor⟩
 rintro⟨i,hi,hs⟩;simp only[↓aX,mX,seval,ag5];by_cases bO:i<l.length
 ·rw[show decide ((i:Int)<(l.length:Int))=true by simpa using bO];obtain⟨x,BG⟩:∃x,l[i]?=some x:=⟨_,ag7 bO⟩;have hw:IntKind.i64.wrap ((i:Int)+1)=((i+1:Nat):Int):=wrap64 (by omega) (by omega);simp only[↓aX,mX,seval,JL,BG,adB,FU,Op.bw,Op.cs,lh,pP,hb];refine aq (hC x (adu BG)) ?_
  try simp only[↓aX,mX,seval]
  refine qG (fun h=> ?_) (fun h=> ?_)
  ·try simp only[↓aX,mX,seval]
   rw[SJ BG h hs]
  simp only[↓aX,mX,seval,hw];refine⟨⟨i+1,bO,fun j y hj hy=> ?_⟩,by simp only;omega,rfl⟩;by_cases e:j=i
  ·rw[e,BG] at hy;cases hy;exact h
  exact hs j y (by omega) hy
 rw[show decide ((i:Int)<(l.length:Int))=false by simpa using bO];simp only[↓aX,mX,seval];rw[LL fun x hx=>by
  obtain⟨j,hj⟩:=aeh hx;exact hs j x (by have:=(ag6.1 hj).1;omega) hj]
def fW (bY:Nat):AC:=
(ay [jK 4 false] (ay [af 5 0,af 6 1,aE 7 (.call bY [(.t 5),(.t 6)]),db 8 .geq 7 0,af 4 8] .ret))
def H_ {bG bY fc:Nat} {cs:List IV} (hF:an P G bG=some (9,[(none,4)],(fW bY).bare)) (l:List Op) (p:Op→Bool)
  (hI:aw P G bY [.list (l.map Op.iv),.fn fc [] [.lptr cs]] (.int .i64 (F8 p l))) :
  aw P G bG [.list (l.map Op.iv),.fn fc [] [.lptr cs]] (.bool (l.any p)):=by
 refine aM hF (by simp) (by simp[ah,AV.aB]) (by simp[AV.aB]) ?_;unfold fW;simp only[↓aX,mX,seval];refine aq hI ?_;simp only[↓aX,mX,seval,O8]
def pY:List Op→List Op→Bool
 |_,[]=>false
 |pre,a::r=>pre.any (aR a)||pY (pre++[a]) r
noncomputable def gZ (d:Doc) (l:List Op):Int:=
 if cW d=true then(if 20<l.length then 2 else match l.find? (fun o=>kK d o !=0) with|some o=>kK d o|none=>if pY [] l then 5 else 0) else 1
def nv (bX eW dE bG:Nat):AC:=
(ay [oN 2 0,eX 4 0] (.seq (ay [gd 10 1 2,aE 11 (.call bX [(.t 10)]),uk 12 11] (.cond (.t 12) (ay [eX 4 1] .ret) .skip)) (.seq (ay [af 13 1,ky 14 13,db 15 .gtr 14 20] (.cond (.t 15) (ay [eX 4 2] .ret) .skip)) (.seq (ay [af 16 1,ky 17 16,eX 18 0] (.block 0 (.loop (ay [eS 19 .lss 18 17] (.seq (.cond (.t 19) .skip (.exit 0)) (.seq (.block 1 (ay [ig 20 16 18 5,gd 21 5 20,aE 6 (.new [(.int .i64 0),(.int .i64 0),.nil0,(.str []),(.str [])]),dT (.store 5 (.t 6) (.t 21))] (ay [gd 22 1 2,gd 23 5 6,aE 24 (.call eW [(.t 22),(.t 23)]),af 7 24] (ay [af 25 7,db 26 .neq 25 0] (.cond (.t 26) (ay [af 27 7,af 4 27] .ret) .skip))))) (.ec [db 28 .add 18 1,af 18 28]))))))) (.seq (ay [af 29 1,ky 30 29,eX 31 0] (.block 2 (.loop (ay [eS 32 .lss 31 30] (.seq (.cond (.t 32) .skip (.exit 2)) (.seq (.block 3 (ay [af 33 31,ig 34 29 31 5,gd 35 5 34,aE 9 (.new [(.int .i64 0),(.int .i64 0),.nil0,(.str []),(.str [])]),af 8 33,dT (.store 5 (.t 9) (.t 35))] (.gh .xD (ay [af 36 1,af 37 8,aE 38 (.qd (.t 36) none (some (.t 37)) none 5),aE 39 (.Qo dE [(.t 9)]),aE 40 (.call bG [(.t 38),(.t 39)])] (.cond (.t 40) (ay [eX 4 5] .ret) .skip))))) (.ec [db 41 .add 31 1,af 31 41]))))))) (ay [eX 4 0] .ret))))))
def Xr {cz bX eW dE bG:Nat} (hF:an P G cz=some (42,[(none,4)],(nv bX eW dE bG).bare)) (d:Doc) (l:List Op) (hl:l.length≤B) (hG:aw P G bX [Doc.av d] (.bool (cW d)))
  (hO:∀o∈l,aw P G eW [Doc.av d,o.av] (.int .i64 (kK d o)))
  (hC:∀a∈l,∀i,aw P G bG [.list ((l.take i).map Op.iv),.fn dE [] [.lptr a.cs]] (.bool ((l.take i).any (aR a)))) :
  aw P G cz [Doc.av d,.list (l.map Op.iv)] (.int .i64 (gZ d l)):=by
 refine aM hF (by simp) (by simp[ah,AV.aB,Op.av,Doc.av]) (by simp[AV.aB]) ?_;unfold nv;have nM:B=1073741824:=rfl;simp only[↓aX,mX,seval,Op.av,Doc.av];refine aq hG ?_;unfold gZ;cases hd:cW d with
 |false=>simp only[↓aX,mX,seval,adI];try rfl
 |true=>
 simp only[↓aX,mX,seval,adL,Op.av,Doc.av,ag5,af3];cases h1:decide ((20:Int)<(l.length:Int)) with
 |true=>
  simp only[↓aX,mX,seval];have:20<l.length:=by simp at h1;omega
  simp[this]
 |false=>
 simp only[↓aX,mX,seval,ag5];have k1:¬20<l.length:=by simp at h1;omega
 rw[ag8 k1];refine jj (σ:={i:Nat // i≤l.length∧∀o∈l.take i,kK d o=0}) (fun _=>[.loc 2]) (fun _ _=>false)
  (fun q=>[(1,.list (l.map Op.iv)),(2,.ptr (.loc 2) 1 0 0),(16,.list (l.map Op.iv)),(17,.int .i64 l.length),(18,.int .i64 q.1)])
  (fun q=>[(.loc 2,⟨1,[[.list (d.map Node.iv)]]⟩)]) (fun q=>l.length - q.1) ⟨0,by simp⟩ (fun _=>rfl) (fun q=>by simp[ah,AV.aB]) ?_ ⟨[],?_⟩ ?_
 ·rintro q r hr cs bS l' mT;simp only[adr] at hr;subst hr;simp only[adr] at bS;subst bS;simp[ah,AV.aB] at mT
 ·refine⟨?_,?_,?_,by simp[bZ],fun l _=>⟨id,fun _=>rfl⟩⟩
  ·intro l' hf hu;exfalso;apply hu;cases l'<;>simp_all[Lb.fresh,ae,Hp.none]
  ·simp[kv,bZ,e7,put,lE]
  simp[qe,bZ,ae,cV,aY,e7]
 rintro⟨i,hi,hs⟩;rw[vt];simp only[↓aX,mX,seval,ed,dk,ag5];by_cases bO:i<l.length
 ·rw[show decide ((i:Int)<(l.length:Int))=true by simpa using bO];obtain⟨o,ho⟩:∃o,l[i]?=some o:=⟨_,ag7 bO⟩;have hw:IntKind.i64.wrap ((i:Int)+1)=((i+1:Nat):Int):=wrap64 (by omega) (by omega);have s4:l.take (i+1)=l.take i++[o]:=iP ho;simp only[↓aX,mX,seval,JL,ho,adB,FU,Op.bw,Op.cs];refine aq (hO o (adu ho)) ?_;simp only[↓aX,mX,seval];cases h0:(kK d o !=0) with
  |true=>
   simp only[↓aX,mX,seval,h0];have hf:l.find? (fun o=>kK d o !=0)=some o:=by
    rw[List.find?_eq_some_iff_append];refine⟨h0,l.take i,l.drop (i+1),?_,fun a ha=>by simp[hs a ha]⟩;rw[←drop_eq ho,ad0]
   rw[hf]
  |false=>
  simp only[↓aX,mX,seval,h0,hw];refine⟨⟨i+1,bO,fun a ha=> ?_⟩,by simp only;omega,[],?_⟩
  ·rw[s4,adD] at ha;rcases ha with ha|ha
   ·exact hs a ha
   simp only[adr] at ha;subst ha;simpa using h0
  refine⟨?_,?_,?_,by simp[bZ],fun l _=>⟨id,fun _=>rfl⟩⟩
  ·intro l' hf hu;exfalso;apply hu;cases l'<;>simp_all[Lb.fresh,ae,Hp.none]
  ·simp[kv,bZ,e7,put,qc]
  simp[qe,bZ,ae,cV,aY,e7]
 have qV:i=l.length:=by omega
 rw[show decide ((i:Int)<(l.length:Int))=false by simpa using bO];have hf:l.find? (fun o=>kK d o !=0)=none:=by
  rw[agl];intro a ha;rw[qV,aee] at hs;simp[hs a ha]
 rw[hf];simp only[↓aX,mX,seval,ag5];refine mK (σ:={j:Nat // j≤l.length∧pY [] l=pY (l.take j) (l.drop j)}) (fun q=>[(1,.list (l.map Op.iv)),(29,.list (l.map Op.iv)),(30,.int .i64 l.length),(31,.int .i64 q.1)]) (fun q=>l.length - q.1) ⟨0,by simp⟩ (fun _=>by simp[ah,AV.aB]) ?_ ?_
 ·refine⟨?_,?_⟩
  ·simp only[↓aX,mX,seval]
  simp[GL,put,qc]
 rintro⟨j,hj,vb⟩;simp only[↓aX,mX,seval,ag5];by_cases lA:j<l.length
 ·rw[show decide ((j:Int)<(l.length:Int))=true by simpa using lA];obtain⟨o,ho⟩:∃o,l[j]?=some o:=⟨_,ag7 lA⟩;have hw:IntKind.i64.wrap ((j:Int)+1)=((j+1:Nat):Int):=wrap64 (by omega) (by omega);simp only[↓aX,mX,seval,JL,ho,adB,FU,Op.bw,Op.cs,rS];refine⟨_,_,y5 (d:=9) (l:= .loc 9) (sz:=5) (y:=o.iv) (by simp[put]) (by simp[ae];rfl) rfl (Ul [o]),?_⟩;have Ol:((l.map Op.iv).take j).drop 0=(l.take j).map Op.iv:=by rw[ad1,afp]
  have s4:l.take (j+1)=l.take j++[o]:=iP ho;simp only[↓aX,mX,seval,Op.bw,nG,rK,mW,FU,ag5,hj,adt,ag9,ad8,ad3,Ol,ad7];have hc:=hC o (adu ho) j;refine aq hc ?_;have hd2:pY (l.take j) (l.drop j)=((l.take j).any (aR o)||pY (l.take (j+1)) (l.drop (j+1))):=by
   rw[drop_eq ho,s4];rfl
  cases h0:(l.take j).any (aR o) with
  |true=>
   simp only[↓aX,mX,seval];rw[vb,hd2,h0];simp
  |false=>
  simp only[↓aX,mX,seval,hw];refine⟨⟨j+1,lA,by rw[vb,hd2,h0];simp⟩,by simp only;omega,rfl⟩
 rw[show decide ((j:Int)<(l.length:Int))=false by simpa using lA];have wu:j=l.length:=by omega
 simp only[↓aX,mX,seval];rw[vb,wu];simp[pY]
end

section
variable {S:St} {f:Nat} {args:List AV} {sz:Nat} {xs:List IV} {H:Hp} {k:AV→Hp→Prop} {u:Tw k}
def LM (c:Nat) (h:DU S.P S.G f args sz xs) (ha:ah args=[]) (hN:∀l,H (NW c l)= .unused)
  (hk:∀l,k (.sl (NW c l) sz 0 xs.length) (bF H (NW c l) (.live ⟨sz,ar xs⟩))):He S f args H k u:=by
 refine lk (lab:=Lb.par) (N:=NW c) h (lF _ _ ha).symm ⟨fun p r hr=>by simp[DT] at hr,fun p q hp=>absurd hp pa⟩ hN (HR c) (fun l _=> .inr fun p hp=>absurd hp pa) (by simp) ?_;rintro X R2 et H2 ⟨rfl,rfl⟩ g1 g2 g3 g4 g5 g6;obtain⟨l,hl⟩:∃l,et 0=NW c l:=by
  rcases g3 0 (lH.2 rfl) with⟨p,hp,_⟩|h
  ·exact absurd hp pa
  exact h
 have e:H2=bF H (NW c l) (.live ⟨sz,ar xs⟩):=by
  funext q;by_cases hq:q=NW c l
  ·subst hq;rw[ae,adv rfl,←hl];exact g1.row 0 _ (by simp[xa])
  rw[ax _ _ hq];by_cases Ep:∃l',q=NW c l'
  ·obtain⟨l',rfl⟩:=Ep;rw[hN l',g6 l' fun p hp=>by rw[lH.1 hp,hl];exact aef hq]
  exact g4 q (fun p hp=>absurd hp pa) fun l' e=>Ep ⟨l',e⟩
 rw[e];have:=hk l;simpa only[hl] using this
def JW {F:List Lb} (c:Nat) (h:DU S.P S.G f args sz xs) (ha:ah args=[]) (hN:∀l,H (NW c l)= .unused) (hF:Lb.nest (.loc c) 0 1∉F)
  (hk:∀l,k (.sl (NW c l) sz 0 xs.length) (bF H (NW c l) (.live ⟨sz,ar xs⟩))):NI S F f args H k u:=by
 refine⟨fun x H'=>∃l,x= .sl (NW c l) sz 0 xs.length∧H'=bF H (NW c l) (.live ⟨sz,ar xs⟩),?_,⟨_,_,.loc 0,rfl,rfl⟩,?_⟩
 ·exact LM (k:=fun x H'=>∃l,x= .sl (NW c l) sz 0 xs.length∧H'=bF H (NW c l) (.live ⟨sz,ar xs⟩)) (u:= .mk) c h ha hN fun l=>⟨l,rfl,rfl⟩
 rintro x H' ⟨l,rfl,rfl⟩;refine⟨fun q hq=> ?_,hk l⟩;rw[ax];rintro rfl;exact hF hq
def Ia {env:Env} (R W:List Lb) (q:Nat) (n c:O) (sz b:Nat) (z:List AV) (k:AV→Hp→Prop):a_ S (.rw R W) (some q) (.Ej n c sz b z) env H k =
  pK (z8 sz b q z (ev env n) (ev env c) H) (fun y H'=>Lb.loc q∈W∧k y H') .mk:=by
 simp[a_,iK,fY,bc,pK,Lb.kQ]
def JX {sz b d m:Nat} {z:List AV} (hb:m*b≤140737488355328) (hu:H (.loc d)= .unused) :
  z8 sz b d z (.int .i64 (m:Int)) (.int .i64 (m:Int)) H=some (.sl (.loc d) sz 0 m,bF H (.loc d) (.live ⟨sz,List.replicate m z⟩)):=by
 simp[z8,hu,hb]
end
end Go.Am

set_option maxRecDepth 20000
namespace Go.Am
open Go Go.RowKit
def SK {sz b d n:Nat} {l q:Lb} {els:List (List AV)} {cs:List AV} {H:Hp} (hl:H l= .live ⟨sz,els⟩) (hq:H q= .live ⟨sz,[cs]⟩) (ho:AV.qE cs) (hn:els.length=n) (hb:(n+1)*b≤140737488355328) (h0:0<b)
  (hd:l≠l.app d) (hu:H (l.app d)= .unused):nH sz b d (.sl l sz 0 n) (.sl q sz 0 1) H=some (.sl (l.app d) sz 0 (n+1),bF (bF H l .dead) (l.app d) (.live ⟨sz,els++[cs]⟩)):=by
 subst hn;have hs:oT sz (.sl q sz 0 1) H=some [cs]:=by simp[oT,hq]
 unfold nH;rw[hs];simp[hl,ho,hb,h0,hd,hu]
def vA (n:Nat):List Int:=List.replicate n 0
def C5 (n:Nat):ar ((vA n).map aW)=List.replicate n [.int .i64 0]:=by simp[vA,ar,aW,IV.cells,IV.gK]
def sW (d:Doc) (i:Nat):Bn:=⟨i,d.take i,vA d.length,vA d.length⟩
def lc (p:Nat):Lb:= .nest (.loc 900) p 3
def qR {p q:Nat} (h:lc p=lc q):p=q:=by simpa[lc] using h
def nw (p n:Nat):lc p≠ .loc n:=by simp[lc]
def n8 (p n:Nat):Lb.loc n≠lc p:=by simp[lc]
def Ib (p:Nat):(lc p).kQ= .nest (.loc 900) 0 3:=rfl
def D8 (p d:Nat):(lc p).app d= .loc d:=rfl
def O9 (p:Nat):(lc p).fresh=true:=rfl
def C6 (p q:Nat):(lc p=lc q)=(p=q):=propext ⟨qR,fun h=>by rw[h]⟩
def zr:Nat→Lb
 |0=> .loc 32
 |1=> .loc 1001
 |2=> .loc 26
 |_=> .loc 30
def s5 (i:Nat) (A K:Lb) (p:Nat):Lb:=if p=1 then .loc 55 else if p=4+2*i then A else if p=5+2*i then K else lc p
def O' {d:Doc} {i:Nat} {y:Node} {A K:Lb} {H H1:Hp} (hy:d[i]?=some y) (hB:cR lc (sW d i) H) (hA:∀p,lc p≠A) (hK:∀p,lc p≠K) (hA5:A≠ .loc 55) (hK5:K≠ .loc 55) (hKA:K≠A)
  (h0:H1 (lc 0)= .live ⟨3,[[.sl (.loc 55) 5 0 (i+1),.sl (lc 2) 1 0 (vA d.length).length,.sl (lc 3) 1 0 (vA d.length).length]]⟩)
  (h1:H1 (.loc 55)= .live ⟨5,(sW d i).nodes.mapIdx (dN i lc)++[[.bool y.text,.str y.s,.sl A 2 0 y.attrs.length,.int .i64 y.parent,.sl K 1 0 y.kids.length]]⟩)
  (h2:H1 A= .live ⟨2,ar (dA y.attrs)⟩) (h3:H1 K= .live ⟨1,ar (y.kids.map aW)⟩) (h4:∀p,p≠0→p≠1→H1 (lc p)=H (lc p)):cR (s5 i A K) (sW d (i+1)) H1:=by
 have bO:i<d.length:=(ag6.1 hy).1;have s4:d.take (i+1)=d.take i++[y]:=iP hy;have hl:(d.take i).length=i:=by simp;omega
 have hX:∀p,p≠1→p≠4+2*i→p≠5+2*i→s5 i A K p=lc p:=fun p a b c=>by simp[s5,a,b,c]
 have Uq:s5 i A K (4+2*i)=A:=by unfold s5;rw[ag8 (by omega),adv rfl]
 have Ur:s5 i A K (5+2*i)=K:=by unfold s5;rw[ag8 (by omega),ag8 (by omega),adv rfl]
 have Yi:∀j z,(sW d i).nodes[j]?=some z→(sW d (i+1)).nodes[j]?=some z:=fun j z h=>by
  simp only[sW] at h ⊢;rw[s4,ad6 (ag6.1 h).1];exact h
 have hni:(sW d (i+1)).nodes[i]?=some y:=by simp only[sW];rw[s4,adU (by omega),hl];simp
 have hex:∀j,j<i→∃z,(sW d i).nodes[j]?=some z:=fun j hj=>⟨_,ag7 (show j<(d.take i).length by omega)⟩;refine cR.mk' ?_ ?_ ?_ ?_ ?_ ?_ ?_
 ·intro p q hp hq e;have YB:s5 i A K 1= .loc 55:=rfl;have hc:∀p,p=1∨p=4+2*i∨p=5+2*i∨(p≠1∧p≠4+2*i∧p≠5+2*i):=fun p=>by omega
  rcases hc p with rfl|rfl|rfl|⟨a1,a2,a3⟩<;>rcases hc q with rfl|rfl|rfl|⟨b1,b2,b3⟩
  ·rfl
  ·rw[YB,Uq] at e;exact absurd e.symm hA5
  ·rw[YB,Ur] at e;exact absurd e.symm hK5
  ·rw[YB,hX q b1 b2 b3] at e;exact absurd e.symm (nw _ _)
  ·rw[YB,Uq] at e;exact absurd e hA5
  ·rfl
  ·rw[Uq,Ur] at e;exact absurd e.symm hKA
  ·rw[Uq,hX q b1 b2 b3] at e;exact absurd e.symm (hA _)
  ·rw[YB,Ur] at e;exact absurd e hK5
  ·rw[Uq,Ur] at e;exact absurd e hKA
  ·rfl
  ·rw[Ur,hX q b1 b2 b3] at e;exact absurd e.symm (hK _)
  ·rw[YB,hX p a1 a2 a3] at e;exact absurd e (nw _ _)
  ·rw[Uq,hX p a1 a2 a3] at e;exact absurd e (hA _)
  ·rw[Ur,hX p a1 a2 a3] at e;exact absurd e (hK _)
  rw[hX p a1 a2 a3,hX q b1 b2 b3] at e;exact qR e
 ·rw[hX 0 (by omega) (by omega) (by omega),hX 2 (by omega) (by omega) (by omega),hX 3 (by omega) (by omega) (by omega),h0];have:(sW d (i+1)).nodes.length=i+1:=by simp[sW];omega
  rw[this];rfl
 ·show H1 (.loc 55)=_;rw[h1];simp only[Slot.live.injEq,Row.mk.injEq,adF];show _=(d.take (i+1)).mapIdx (dN (i+1) (s5 i A K));rw[s4,ag2,List.mapIdx_cons,List.mapIdx_nil,hl,adC,eO (by omega),Uq,Ur];congr 1;refine aeU fun j=> ?_;rw[aeX,aeX];cases hz:(d.take i)[j]? with
  |none=>show Option.map _ ((d.take i)[j]?)=_;rw[hz];rfl
  |some z=>
  have hj:j<i:=by have:=(ag6.1 hz).1;omega
  show Option.map _ ((d.take i)[j]?)=_;rw[hz,adB,adB,eO hj,eO (by omega:j<i+1),hX (4+2*j) (by omega) (by omega) (by omega),hX (5+2*j) (by omega) (by omega) (by omega)]
 ·rw[hX 2 (by omega) (by omega) (by omega),h4 2 (by decide) (by decide)];exact hB.f
 ·rw[hX 3 (by omega) (by omega) (by omega),h4 3 (by decide) (by decide)];exact hB.a
 ·intro j hj;by_cases e:j=i
  ·subst e;rw[Uq,h2,Bn.sd hni]
  have hj:j<i:=by have:j<i+1:=hj;omega
  obtain⟨z,hz⟩:=hex j hj;rw[hX (4+2*j) (by omega) (by omega) (by omega),h4 _ (by omega) (by omega),hB.at' hj hz,Bn.sd (Yi j z hz)]
 intro j hj;by_cases e:j=i
 ·subst e;rw[Ur,h3,Bn.oe hni]
 have hj:j<i:=by have:j<i+1:=hj;omega
 obtain⟨z,hz⟩:=hex j hj;rw[hX (5+2*j) (by omega) (by omega) (by omega),h4 _ (by omega) (by omega),hB.kd hj hz,Bn.oe (Yi j z hz)]
section
variable {P:Program} {G:Nat→Option (List IV)}
def iX (cz ai aJ da aC aQ bP cy:Nat):AC:=
(ay [oN 2 0,aE 4 (.new [.nil0]),eX 5 0] (.seq (ay [gd 16 1 2,af 17 1,aE 18 (.call cz [(.t 16),(.t 17)]),af 6 18] (ay [af 19 6,db 20 .neq 19 0] (.cond (.t 20) (ay [gd 21 1 2,af 22 6,dT (.store 1 (.t 4) (.t 21)),af 5 22] .ret) .skip))) (.seq (.fg [b7 23 2 0,cS 24 23,ky 25 24,aE 26 (.Ej (.t 25) (.t 25) 1 8 [(.int .i64 0)]),b7 27 2 0,cS 28 27,ky 29 28,aE 30 (.Ej (.t 29) (.t 29) 1 8 [(.int .i64 0)]),aE 31 (.oa [.nil0,.nil0,.nil0] [(1,(1,(.t 26))),(2,(1,(.t 30)))]),oN 32 31,af 7 32] [[],[0],[1],[2,2],[],[4],[5],[6,6],[3,7],[8],[9,0,1,2,3,4,5,6,7,8,9]] [.no,(.rw [(.loc 2)] []),.no,(.rw [] [(.loc 26)]),.no,(.rw [(.loc 2)] []),.no,(.rw [] [(.loc 30)]),.no,.rw [] [.loc 32],.no]) (.seq (.gh .xD (ay [b7 33 2 0,cS 34 33,ky 35 34,eX 36 0] (.block 0 (.loop (ay [eS 37 .lss 36 35] (.seq (.cond (.t 37) .skip (.exit 0)) (.seq (.block 1 (ay [ig 38 34 36 5,gd 39 5 38,aE 9 (.new [(.bool false),(.str []),.nil0,(.int .i64 0),.nil0]),dT (.store 5 (.t 9) (.t 39))] (.seq (.fg [b7 40 9 2,cS 41 40,aE 42 (.call ai [(.t 41)]),b7 43 9 4,cS 44 43,aE 45 (.call aJ [(.t 44)]),b7 46 9 2,dT (.store 1 (.t 46) (.t 42)),b7 47 9 4,dT (.store 1 (.t 47) (.t 45))] [[],[0],[1],[],[3],[4,2],[0,1,2,3,4],[6,2,5,0,1,2,3,4],[0,1,2,3,4,5,6,7],[8,5,7,0,1,2,3,4,5,6,7]] [.no,.rw [.loc 9] [],(.vj [(.loc 9)]),.no,.rw [.loc 9] [],(.vj []),.no,.rw [] [.loc 9],.no,.rw [] [.loc 9]]) (.fg [af 48 7,af 49 7,aE 50 (.dc (.t 49)),b7 51 50 0,cS 52 51,gd 53 5 9,aE 54 (.ou 5 [(.bool false),(.str []),.nil0,(.int .i64 0),.nil0] [(0,(.t 53))]),aE 55 (.app (.t 52) (.t 54) 5 80),aE 56 (.dc (.t 48)),b7 57 56 0,dT (.store 1 (.t 57) (.t 55))] [[],[],[1],[2],[3],[],[5],[4,6],[0,0,1,2,3,4,5,6,7],[8,0,1,2,3,4,5,6,7],[9,7,7,0,1,2,3,4,5,6,7]] [.no,.no,.no,.no,(.rw [(.nest (.loc 900) 0 3)] []),(.rw [(.loc 9)] []),(.rw [] [(.loc 54)]),(.rw [(.loc 54)] [(.nest (.loc 900) 0 3),(.loc 55)]),.no,.no,(.rw [] [(.nest (.loc 900) 0 3)])])))) (.ec [db 58 .add 36 1,af 36 58])))))))) (.seq (ay [eX 10 1] (.block 2 (.loop (.seq (ay [af 59 10,db 60 .leq 59 5] (.cond (.t 60) .skip (.exit 2))) (.seq (.block 3 (ay [af 63 1,ky 64 63,eX 65 0] (.block 4 (.loop (ay [eS 66 .lss 65 64] (.seq (.cond (.t 66) .skip (.exit 4)) (.seq (.block 5 (ay [ig 67 63 65 5,gd 68 5 67,aE 12 (.new [(.int .i64 0),(.int .i64 0),.nil0,(.str []),(.str [])]),dT (.store 5 (.t 12) (.t 68))] (.seq (.fg [b7 69 12 0,cS 70 69,b7 71 2 0,cS 72 71,b7 73 12 1,cS 74 73,ig 75 72 74 5,b7 76 75 0,cS 77 76,aE 78 (.call da [(.t 70),(.t 77)]),af 79 10,eS 80 .eql 78 79] [[],[0],[],[2],[],[4],[3,5],[6],[7],[1,8],[],[9,10]] [.no,.rw [.loc 12] [],.no,.rw [.loc 2] [],.no,.rw [.loc 12] [],.no,.no,.no,.no,.no,.no]) (.cond (.t 80) (.ec [af 81 7,gd 82 5 12,aE 83 (.call aC [(.t 81),(.t 82)])]) .skip)))) (.ec [db 84 .add 65 1,af 65 84])))))))) (.ec [af 61 10,db 62 .add 61 1,af 10 62])))))) (.gh .xD (ay [af 85 7,aE 86 (.call aQ [(.t 85),(ij 0)]),aE 13 (.new [(.bool false),(.str []),.nil0,.nil0]),dT (.store 4 (.t 13) (.t 86))] (ay [b7 87 13 3,cS 88 87,aE 89 (.call bP [(.t 88)]),b7 90 13 3,dT (.store 1 (.t 90) (.t 89))] (ay [gd 92 4 13,aE 93 (.call cy [(.t 92)]),af 91 93,gQ 94 91 0,gQ 95 91 1,aE 14 (.new [.nil0]),dT (.store 1 (.t 14) (.t 94)),af 15 95] (.seq (ay [af 96 15,db 97 .neq 96 0] (.cond (.t 97) (ay [gd 98 1 2,dT (.store 1 (.t 4) (.t 98)),eX 5 2] .ret) .skip)) (ay [gd 99 1 14,dT (.store 1 (.t 4) (.t 99)),eX 5 0] .ret)))))))))))
def SL (d:Doc) (l:List Op) (i:Nat):List (Nat×AV):=
 [(1,.list (l.map Op.iv)),(2,.ptr (.loc 2) 1 0 0),(4,.ptr (.loc 4) 1 0 0),(7,.ptr (lc 0) 3 0 0),(34,.list (d.map Node.iv)),(35,.int .i64 d.length),(36,.int .i64 i)]
def qi (d:Doc):List (Lb×Row):=[(.loc 2,⟨1,[[.list (d.map Node.iv)]]⟩),(.loc 4,⟨1,[[.nil0]]⟩)]
theorem Ic {env:Env} {f:AV→AV}:∀{ps:List (Nat×AV)},(∀q∈ps,q.2=f (env q.1))→∀n,qc ps n= .any∨qc ps n=f (env n)
 |[],_,n=> .inl rfl
 |(m,x)::r,h,n=>by
  rw[EY];by_cases e:n=m
  ·subst e;right;rw[Af,adv rfl];exact h (n,x) (by simp)
  rw[Af,ag8 e];exact Ic (fun q hq=>h q (by simp[hq])) n
def unl:Lb→Option Nat
 | .nest (.loc c) p k=>if c=900∧k=3 then some p else none
 |_=>none
def yh (p:Nat):unl (lc p)=some p:=by simp[unl,lc]
def O_ {l:Lb} {p:Nat} (h:unl l=some p):l=lc p:=by
 unfold unl at h;split at h
 ·split at h
  ·rename_i hc;cases h;obtain⟨rfl,rfl⟩:=hc;rfl
  cases h
 cases h
def X1r (b:Bn) (p:Nat):Option (Nat×List IV):=
 if p=2 then some (1,b.fs.map aW) else if p=3 then some (1,b.as.map aW)
 else if 4≤p∧p<4+2*b.n0 then(if p%2=0 then some (2,dA (b.at ((p - 4)/2))) else some (1,(b.kd ((p - 5)/2)).map aW)) else none
def X1 (b:Bn) (l:Lb):Option (Nat×List IV):=(unl l).bind (X1r b)
def acH (b:Bn) {i:Nat} (h:i<b.n0):X1 b (lc (4+2*i))=some (2,dA (b.at i)):=by
 unfold X1;rw[yh,adA];unfold X1r;rw[ag8 (by omega),ag8 (by omega),adv (by omega),adv (by omega)];rw[show(4+2*i - 4)/2=i by omega]
def acI (b:Bn) {i:Nat} (h:i<b.n0):X1 b (lc (5+2*i))=some (1,(b.kd i).map aW):=by
 unfold X1;rw[yh,adA];unfold X1r;rw[ag8 (by omega),ag8 (by omega),adv (by omega),ag8 (by omega)];rw[show(5+2*i - 5)/2=i by omega]
def acJ (b:Bn):X1 b (lc 2)=some (1,b.fs.map aW):=by unfold X1;rw[yh];rfl
def aaR (b:Bn):X1 b (lc 3)=some (1,b.as.map aW):=by unfold X1;rw[yh];rfl
def acK (b:Bn):X1 b (lc 0)=none:=by unfold X1;rw[yh];rfl
def aaS (b:Bn):X1 b (lc 1)=none:=by unfold X1;rw[yh];rfl
def Ie (b:Bn) (n:Nat):X1 b (.loc n)=none:=rfl
def aaT {b:Bn} {H:Hp} (hB:cR lc b H) (hn:b.n0≤b.nodes.length) (l:Lb) (sz:Nat) (xs:List IV) (h:X1 b l=some (sz,xs)):H l= .live ⟨sz,ar xs⟩∧l.fresh=true∧Flat xs:=by
 unfold X1 at h;obtain⟨p,hp,h'⟩:=adx.1 h;obtain rfl:=O_ hp;clear h;have h:=h';clear h';refine⟨?_,rfl,?_⟩
 ·unfold X1r at h;split at h
  ·rename_i e;subst e;cases h;exact hB.f
  split at h
  ·rename_i e;subst e;cases h;exact hB.a
  split at h
  ·rename_i hc;obtain⟨i,hi,e⟩:=cR.lists hB hc.1 hc.2;obtain⟨x,hx⟩:∃x,b.nodes[i]?=some x:=⟨_,ag7 (by omega)⟩;rcases e with rfl|rfl
   ·rw[adv (by omega),show(4+2*i - 4)/2=i by omega] at h;cases h;rw[Bn.sd hx];exact hB.at' hi hx
   rw[ag8 (by omega),show(5+2*i - 5)/2=i by omega] at h;cases h;rw[Bn.oe hx];exact hB.kd hi hx
  cases h
 unfold X1r at h;split at h
 ·cases h;exact oy _
 split at h
 ·cases h;exact oy _
 split at h
 ·split at h
  ·cases h;exact ri _
  cases h;exact oy _
 cases h
def X2 (d:Doc) (l:Lb):Option (Nat×List IV):=if l=lc 1 then some (5,d.map Node.iv) else none
def LN (b:Bn) (H:Hp):Hp:=bF (u_ (X2 b.nodes) (u_ (X1 b) H)) (lc 0) .dead
def xi {S:St} {env:Env} {b:Bn} {H:Hp} {c:List IV} (hB:cR lc b H) (hn:b.n0≤b.nodes.length) (h7:env 7= .ptr (lc 0) 3 0 0) (h2:env 2= .ptr (.loc 2) 1 0 0) (h4:env 4= .ptr (.loc 4) 1 0 0)
  (a2:H (.loc 2)= .live ⟨1,[[.list c]]⟩) (a4:H (.loc 4)= .live ⟨1,[[.nil0]]⟩) (al:∀n,n≠2→n≠4→H (.loc n)= .unused) :
  nb S env H (put (qc [(7,.ptr (lc 0) 3 0 0),(2,.ptr (.loc 2) 1 0 0),(4,.ptr (.loc 4) 1 0 0)]) 7 (pX b.nodes b.fs b.as)) (LN b H)∧LN b H (.loc 2)= .live ⟨1,[[.list c]]⟩∧LN b H (.loc 4)= .live ⟨1,[[.nil0]]⟩∧∀n,n≠2→n≠4→LN b H (.loc n)= .unused:=by
 have w1:nb S env H (qc [(7,.ptr (lc 0) 3 0 0),(2,.ptr (.loc 2) 1 0 0),(4,.ptr (.loc 4) 1 0 0)]) (u_ (X1 b) H):=CJ (X1 b) (aaT hB hn) (Ic (by simp[h7,h2,h4,DJ]));have n1:u_ (X1 b) H (lc 1)= .live ⟨5,ar (b.nodes.map Node.iv)⟩:=by
  rw[AR (aaS b) hB.n];simp only[Slot.live.injEq,Row.mk.injEq,adF];refine aeU fun i=> ?_;simp only[adX,aeX,ar,Option.map_map];cases hx:b.nodes[i]? with
  |none=>rfl
  |some x=>
  simp only[adB,jl,Function.comp];by_cases hi:i<b.n0
  ·rw[eO hi];simp only[qK,DJ,acH b hi,acI b hi,Bn.sd hx,Bn.oe hx,bQ,ag5,adC,adw,ad8,adH,ad1];rw[ads (by rw[bQ];exact adw _),ads (by rw[ag5];exact adw _)];rfl
  rw[Bd (by omega)];rfl
 have n0:u_ (X1 b) H (lc 0)= .live ⟨3,[[.sl (lc 1) 5 0 b.nodes.length,.list (b.fs.map aW),.list (b.as.map aW)]]⟩:=by
  rw[AR (acK b) hB.s];simp only[ad5,aeW,qK,DJ,aaS,acJ,aaR,ag5,adC,adw,ad8,adH,ad1];rw[ads (by rw[ag5];exact adw _),ads (by rw[ag5];exact adw _)]
 have hX2:∀l sz xs,X2 b.nodes l=some (sz,xs)→u_ (X1 b) H l= .live ⟨sz,ar xs⟩∧l.fresh=true∧Flat xs:=by
  intro l sz xs h;unfold X2 at h;split at h
  ·rename_i e;subst e;cases h;exact⟨n1,rfl,NL _⟩
  cases h
 have w2:nb S (qc [(7,.ptr (lc 0) 3 0 0),(2,.ptr (.loc 2) 1 0 0),(4,.ptr (.loc 4) 1 0 0)]) (u_ (X1 b) H) (qc [(7,.ptr (lc 0) 3 0 0),(2,.ptr (.loc 2) 1 0 0),(4,.ptr (.loc 4) 1 0 0)]) (u_ (X2 b.nodes) (u_ (X1 b) H)):=
  CJ (X2 b.nodes) hX2 (Ic (by simp[qc,put,DJ]))
 have m0:u_ (X2 b.nodes) (u_ (X1 b) H) (lc 0)= .live ⟨3,ar [.agg [.list (b.nodes.map Node.iv),.list (b.fs.map aW),.list (b.as.map aW)]]⟩:=by
  rw[AR (by simp[X2,C6]) n0];simp only[ad5,aeW,qK,DJ,X2,adH,ag5,adC,adw,ad8,ad1];rw[ads (by rw[ag5];exact adw _)];rfl
 have w3:nb S (qc [(7,.ptr (lc 0) 3 0 0),(2,.ptr (.loc 2) 1 0 0),(4,.ptr (.loc 4) 1 0 0)]) (u_ (X2 b.nodes) (u_ (X1 b) H)) _ _:=y5 (d:=7) rfl m0 rfl (by
  intro y hy z hz cs;simp only[adr] at hy;subst hy;simp only[IV.cells,adz,adG,adO] at hz;rcases hz with rfl|rfl|rfl<;>simp)
 have acL:∀n,H (.loc n)= .unused→bF (u_ (X2 b.nodes) (u_ (X1 b) H)) (lc 0) .dead (.loc n)= .unused:=fun n h=>by
  rw[ax _ _ (n8 _ _)];simp[u_,X2,n8,Ie,h]
 unfold LN;refine⟨(w1.trans w2).trans w3,?_,?_,fun n q1 q2=>acL n (al n q1 q2)⟩
 ·rw[ax _ _ (n8 _ _)];simp[u_,X2,n8,Ie,a2,qK,DJ]
 rw[ax _ _ (n8 _ _)];simp[u_,X2,n8,Ie,a4,qK,DJ]
def F_ {b:Bn} {lab:Nat→Lb} {env:Env} {H:Hp} {ps:List (Nat×AV)} {d:Doc} (hB:cR lab b H) (hl:∀p,p<4+2*b.n0→(lab p).fresh=true∧lab p≠ .loc 2∧lab p≠ .loc 4) (hE:∀l:Lb,l.entry=true→H l= .unused)
  (a2:H (.loc 2)= .live ⟨1,[[.list (d.map Node.iv)]]⟩) (a4:H (.loc 4)= .live ⟨1,[[.nil0]]⟩)
  (he:nI lc lab (dP b) [] (lc 0)=lab 0→nI lc lab (dP b) [] (.loc 2)= .loc 2→nI lc lab (dP b) [] (.loc 4)= .loc 4→kv (nI lc lab (dP b) []) env ps) :
  WH lc (dP b) [.loc 2,.loc 4] (fun _=>false) ps (qi d) env H lab []:=by
 refine⟨hB,?_,he (kj (fun p1 p2 _ _ e=>qR e) (bd.2 (by omega))) (ju (by simp[lc])) (ju (by simp[lc])),?_,by simp[bZ],?_,by simp[bZ,Lb.fresh,Lb.entry],?_⟩
 ·intro l' h1 hu;exact absurd (hE l' h1) hu
 ·intro z hz;simp only[qi,adz,adG,adO] at hz;rcases hz with rfl|rfl<;>simp[bZ,cV,aY,e7,a2,a4]
 ·intro l' mT p' iJ;have:=hl p' (bd.1 iJ);simp only[adz,adG,adO] at mT;rcases mT with rfl|rfl
  ·exact this.2.1
  exact this.2.2
 intro p' iJ;exact⟨fun _=>(hl p' (bd.1 iJ)).1,fun h=>by simp[lc,Lb.entry] at h⟩
def Bi (l:List Op) (p:Nat):List (Nat×AV):=[(1,.list (l.map Op.iv)),(2,.ptr (.loc 2) 1 0 0),(4,.ptr (.loc 4) 1 0 0),(7,.ptr (lc 0) 3 0 0),(10,.int .i64 p)]
def LO (l:List Op) (p i:Nat):List (Nat×AV):=(63,.list (l.map Op.iv))::(64,.int .i64 l.length)::(65,.int .i64 i)::Bi l p
def JY {b:Bn} {d:Doc} (H0:Hp) (wH:H0=BH lc (dP b) (fy (fun _=>false) (qi d))):cR lc b H0∧H0 (.loc 2)= .live ⟨1,[[.list (d.map Node.iv)]]⟩∧H0 (.loc 4)= .live ⟨1,[[.nil0]]⟩ ∧
  (∀l':Lb,l'.entry=true→H0 l'= .unused)∧(∀c l',H0 (NW c l')= .unused)∧(∀n,n≠2→n≠4→H0 (.loc n)= .unused):=by
 have hO:∀l':Lb,(∀p',lc p'≠l')→H0 l'=fy (fun _=>false) (qi d) l':=fun l' hl=>by rw[wH];exact gx _ fun p' _=>hl p'
 have Us:∀l':Lb,(∀p',lc p'≠l')→l'≠ .loc 2→l'≠ .loc 4→H0 l'= .unused:=fun l' h1 h2 h3=>(hO l' h1).trans (by simp[fy,qi,kx,ae,h2,h3,Hp.none]);refine⟨by rw[wH];exact nZ.sb (fun p1 p2 _ _ e=>qR e) _,(hO _ (by simp[lc])).trans (by simp[fy,qi,kx,ae]),(hO _ (by simp[lc])).trans (by simp[fy,qi,kx,ae]),?_,?_,?_⟩
 ·exact fun l' he=>Us l' (by intro p' e;subst e;simp[lc,Lb.entry] at he) (by rintro rfl;simp[Lb.entry] at he) (by rintro rfl;simp[Lb.entry] at he)
 ·exact fun c l'=>Us _ (by simp[lc,NW]) (by simp[NW]) (by simp[NW])
 exact fun n h1 h2=>Us _ (by simp[lc]) (by simpa using h1) (by simpa using h2)
def Pa {cP cz ai aJ da aC aQ bP cy:Nat} (hF:an P G cP=some (100,[((some (some 1)),4),(none,5)],(iX cz ai aJ da aC aQ bP cy).bare)) (d:Doc) (l:List Op) (x:Tree) (bt:Nat→Nat→Bn)
  (Wu:d.length≤2^20) (hl:l.length≤B) (LP:aw P G cz [Doc.av d,.list (l.map Op.iv)] (.int .i64 (gZ d l))) (h0:gZ d l=0)
  (hCA:∀xs:List Attr,xs.length≤B→DU P G ai [.list (dA xs)] 2 (dA xs)) (hCI:∀xs:List Int,xs.length≤B→DU P G aJ [.list (xs.map aW)] 1 (xs.map aW))
  (G5:∀y∈d,y.attrs.length≤B∧y.kids.length≤B) (zh:bt 1 0=sW d d.length) (vz:∀p i,(bt p i).n0=d.length) (hbt:∀p,bt (p+1) 0=bt p l.length) (Zh:d.length≤(bt 6 0).nodes.length)
  (Ut:∀o∈l,∃y:Node,0≤o.target∧d[o.target.toNat]?=some y∧aw P G da [.int .i64 o.kind,.bool y.text] (.int .i64 (lZ o.kind y.text)))
  (Sc:∀(p i:Nat) o y,l[i]?=some o→d[o.target.toNat]?=some y→lZ o.kind y.text≠(p:Int)→bt p (i+1)=bt p i)
  (BZ:∀(p i:Nat) o y,l[i]?=some o→d[o.target.toNat]?=some y→lZ o.kind y.text=(p:Int)→uO P G aC [.ptr (.par 0) 3 0 0,o.av] (dP (bt p i)) [0,2,3] fun X R2=>X=(fun _=> .dM [])∧R2=dP (bt p (i+1)))
  (hT:aw P G aQ [pX (bt 6 0).nodes (bt 6 0).fs (bt 6 0).as,.int .i64 0] x.av) (hJ:aw P G bP [.list (eR x.kids)] (.list (eR (jC x.kids))))
  (mk:Doc×Int) (hM:aw P G cy [(Tree.mk x.text x.s x.attrs (jC x.kids)).av] (.dM [Doc.av mk.1,.int .i64 mk.2])) :
  aw P G cP [Doc.av d,.list (l.map Op.iv)] (if mk.2=0 then .dM [Doc.av mk.1,.int .i64 0] else .dM [Doc.av d,.int .i64 2]):=by
 refine aM hF (by simp) (by simp[ah,AV.aB,Doc.av]) (by split<;>simp[AV.aB,ah,Doc.av]) ?_;have nM:B=1073741824:=rfl;have Uu:(2:Nat)^20=1048576:=by decide
 unfold iX;simp only[↓aX,mX,seval,Doc.av];refine aq LP ?_;simp only[↓aX,mX,seval,h0,Int.reduceBNe,Doc.av,ag5,Ia];refine⟨rfl,?_⟩;rw[JX (by omega) (by simp[ae,Hp.none])];simp only[↓aX,mX,seval,ag5,Ia];rw[JX (by omega) (by simp[ae,Hp.none])];simp only[↓aX,mX,seval,ag5,Ia,rS];refine⟨_,_,yW (q:= .loc 32) (N:= .loc 1001) (i:=0) (j:=0) (sz:=5) (sq:=3) (els:=[[.nil0,.sl (.loc 26) 1 0 d.length,.sl (.loc 30) 1 0 d.length]]) (by simp[ae]) rfl rfl (by simp[ae,Hp.none]) (by decide),?_⟩;simp only[↓aX,mX,seval,ag5];refine w_ (σ:={i:Nat // i≤d.length}) lc (fun q=>dP (sW d q.1)) [.loc 2,.loc 4] (fun _=>false) (fun q=>SL d l q.1) (fun _=>qi d) (fun q=>d.length - q.1) ⟨0,ad3 _⟩
  (fun q p1 p2 _ _ e=>qR e) (fun _=>rfl) (by simp[lc]) ?_ ?_ ?_ ?_
 ·intro q l' mT;simp[ah,AV.aB,SL] at mT;rcases mT with rfl|rfl|rfl
  ·simp
  ·simp
  right;exact⟨0,bd.2 (by omega),rfl⟩
 ·intro q z hz cs bS l' mT;simp only[qi,adz,adG,adO] at hz;rcases hz with rfl|rfl<;>(simp only[adr] at bS;subst bS;simp[ah,AV.aB] at mT)
 ·refine⟨zr,[],?_⟩;refine⟨?_,?_,?_,?_,by simp[bZ],?_,by simp[bZ,Lb.fresh,Lb.entry],?_⟩
  ·refine cR.mk' ?_ ?_ ?_ ?_ ?_ ?_ ?_
   ·intro p q hp hq e;have hp:p<4:=(by simpa[sW] using hp);have hq:q<4:=by simpa[sW] using hq
    match p,hp,q,hq with
    |0,_,0,_|1,_,1,_|2,_,2,_|3,_,3,_=>rfl
    |0,_,1,_|0,_,2,_|0,_,3,_|1,_,0,_|1,_,2,_|1,_,3,_|2,_,0,_|2,_,1,_|2,_,3,_|3,_,0,_|3,_,1,_|3,_,2,_=>simp[zr] at e
   ·simp[zr,ae,sW,vA]
   ·simp[zr,ae,sW]
   ·simp[zr,ae,sW,C5]
   ·simp[zr,ae,sW,C5]
   ·intro j hj;simp[sW] at hj
   intro j hj;simp[sW] at hj
  ·intro l' he hu;exfalso;apply hu;cases l'<;>simp_all[Lb.entry,ae,Hp.none]
  ·have r0:nI lc zr (dP (sW d 0)) [] (lc 0)=zr 0:=kj (fun p1 p2 _ _ e=>qR e) (bd.2 (by omega));have r2:nI lc zr (dP (sW d 0)) [] (.loc 2)= .loc 2:=ju (by simp[lc]);have r4:nI lc zr (dP (sW d 0)) [] (.loc 4)= .loc 4:=ju (by simp[lc]);simp[SL,kv,e7,put,lE,r0,r2,r4];simp[zr]
  ·intro z hz;simp only[qi,adz,adG,adO] at hz;rcases hz with rfl|rfl<;>simp[bZ,ae,cV,aY,e7]
  ·intro l' mT p' iJ;have iJ:p'<4:=(by simpa[sW] using bd.1 iJ);simp only[adz,adG,adO] at mT;rcases mT with rfl|rfl<;>(simp only[bZ];match p',iJ with|0,_|1,_|2,_|3,_=>simp[zr])
  intro p' iJ;have iJ:p'<4:=by simpa[sW] using bd.1 iJ
  refine⟨fun _=> ?_,fun h=>by simp[lc,Lb.entry] at h⟩
  match p',iJ with|0,_|1,_|2,_|3,_=>rfl
 rintro⟨i,hi⟩;obtain⟨H0,wH⟩:∃H0,H0=BH lc (dP (sW d i)) (fy (fun _=>false) (qi d)):=⟨_,rfl⟩;simp only;rw[←wH];have hB:cR lc (sW d i) H0:=by rw[wH];exact nZ.sb (fun p1 p2 _ _ e=>qR e) _
 have hO:∀l':Lb,(∀p',lc p'≠l')→H0 l'=fy (fun _=>false) (qi d) l':=fun l' hl=>by rw[wH];exact gx _ fun p' _=>hl p'
 have Us:∀l':Lb,(∀p',lc p'≠l')→l'≠ .loc 2→l'≠ .loc 4→H0 l'= .unused:=fun l' h1 h2 h3=>(hO l' h1).trans (by simp[fy,qi,kx,ae,h2,h3,Hp.none]);have a2:H0 (.loc 2)= .live ⟨1,[[.list (d.map Node.iv)]]⟩:=(hO _ (by simp[lc])).trans (by simp[fy,qi,kx,ae]);have a4:H0 (.loc 4)= .live ⟨1,[[.nil0]]⟩:=(hO _ (by simp[lc])).trans (by simp[fy,qi,kx,ae]);have hE:∀l':Lb,l'.entry=true→H0 l'= .unused:=fun l' he=>Us l' (by intro p' e;subst e;simp[lc,Lb.entry] at he) (by rintro rfl;simp[Lb.entry] at he) (by rintro rfl;simp[Lb.entry] at he);have aN:∀c l',H0 (NW c l')= .unused:=fun c l'=>Us _ (by simp[lc,NW]) (by simp[NW]) (by simp[NW]);have al:∀n,n≠2→n≠4→H0 (.loc n)= .unused:=fun n h1 h2=>Us _ (by simp[lc]) (by simpa using h1) (by simpa using h2);clear hO Us wH;have hs:H0 (lc 0)= .live ⟨3,[[.sl (lc 1) 5 0 (sW d i).nodes.length,.sl (lc 2) 1 0 (vA d.length).length,.sl (lc 3) 1 0 (vA d.length).length]]⟩:=hB.s;have Hi:H0 (lc 1)= .live ⟨5,(sW d i).nodes.mapIdx (dN i lc)⟩:=hB.n;have hln:(sW d i).nodes.length=i:=by simp[sW];omega
 rw[hln] at hs;simp only[↓aX,mX,seval,SL];refine qG (fun h=> ?_) (fun h=> ?_)
 ·have bO:i<d.length:=by simpa using h
  obtain⟨y,hy⟩:∃y,d[i]?=some y:=⟨_,ag7 bO⟩;have hw:IntKind.i64.wrap ((i:Int)+1)=((i+1:Nat):Int):=wrap64 (by omega) (by omega);have Xo:(d.map Node.iv)[i]?=some y.iv:=by rw[adX,hy];rfl
  obtain⟨hya,I3⟩:=G5 y (adu hy);simp only[↓aX,mX,seval,Xo,tl,Node.bw,Node.cs,al 9 (by decide) (by decide)];refine⟨rfl,?_⟩;refine JW 901 (hCA y.attrs hya) (by simp[ah,AV.aB]) (fun l'=>by rw[ax _ _ (by simp[NW]),ax _ _ (by simp[NW])];exact aN _ _) (by simp) fun l1=> ?_;have nA:∀n,NW 901 l1≠ .loc n:=by simp[NW]
  have Xs:∀p,lc p≠NW 901 l1:=by simp[NW,lc]
  have uA:H0 (NW 901 l1)= .unused:=aN _ _;have fA:(NW 901 l1).fresh=true:=rfl;have eA:(NW 901 l1).entry=false:=rfl;have hAK:∀l2,NW 902 l2≠NW 901 l1:=by simp[NW]
  generalize NW 901 l1=A at *;have Uv:∀n,Lb.loc n≠A:=fun n=>aef (nA n);simp only[↓aX,mX,seval,Uv,bQ];refine JW 902 (hCI y.kids I3) (by simp[ah,AV.aB]) (fun l'=>by rw[ax _ _ (hAK l'),ax _ _ (by simp[NW]),ax _ _ (by simp[NW])];exact aN _ _) (by simp) fun l2=> ?_;have nK:∀n,NW 902 l2≠ .loc n:=by simp[NW]
  have Xt:∀p,lc p≠NW 902 l2:=by simp[NW,lc]
  have uK:H0 (NW 902 l2)= .unused:=aN _ _;have fK:(NW 902 l2).fresh=true:=rfl;have eK:(NW 902 l2).entry=false:=rfl;have hAK:=hAK l2;generalize NW 902 l2=Kd at *;have Xu:∀n,Lb.loc n≠Kd:=fun n=>aef (nK n);have Pb:=aef hAK;simp only[↓aX,mX,seval,Uv,Xu,ag5,Pb];refine⟨rfl,?_⟩;simp only[↓aX,mX,seval,nw,n8,Xs,Xt,hs,Hi,Ib,D8,Uv,Xu,Pb,C6];have u54:=al 54 (by decide) (by decide);have u55:=al 55 (by decide) (by decide);rw[RW (sz:=5) (d:=54) (cs:=[.bool y.text,.str y.s,.sl A 2 0 y.attrs.length,.int .i64 y.parent,.sl Kd 1 0 y.kids.length]) (by simp[lO,AV.cells,AV.GF,AV.one,bQ]) (by simp[ae,Uv,Xu,u54]) rfl (by decide)];simp only[↓aX,mX,seval,nw,n8,Xs,Xt,hs,Hi,Ib,D8,Uv,Xu,Pb,C6];rw[SK (l:=lc 1) (q:= .loc 54) (d:=55) (els:=(sW d i).nodes.mapIdx (dN i lc)) (cs:=[.bool y.text,.str y.s,.sl A 2 0 y.attrs.length,.int .i64 y.parent,.sl Kd 1 0 y.kids.length]) (by simp[ae,nw,Xs,Xt,Hi]) (by simp[ae]) (by simp[AV.qE,AV.one]) (by rw[adZ,hln]) (by omega) (by decide) (by simp[lc];rintro⟨⟩) (by simp[D8,ae,Uv,Xu,u55])];simp only[↓aX,mX,seval,nw,n8,Xs,Xt,hs,Hi,Ib,D8,Uv,Xu,Pb,C6,O9,hw,ags,true_or];refine⟨by rintro l' (rfl|rfl)<;>simp[Lb.kQ,lc],?_⟩;refine⟨⟨i+1,bO⟩,by simp only;omega,s5 i A Kd,[],?_⟩;have hX0:s5 i A Kd 0=lc 0:=by unfold s5;rw[ag8 (by omega),ag8 (by omega),ag8 (by omega)]
  have r0:nI lc (s5 i A Kd) (dP (sW d (i+1))) [] (lc 0)=lc 0:=(kj (fun p1 p2 _ _ e=>qR e) (bd.2 (by omega))).trans hX0;have r2:nI lc (s5 i A Kd) (dP (sW d (i+1))) [] (.loc 2)= .loc 2:=ju (by simp[lc]);have r4:nI lc (s5 i A Kd) (dP (sW d (i+1))) [] (.loc 4)= .loc 4:=ju (by simp[lc]);have hXl:∀p n,n≠55→s5 i A Kd p≠ .loc n:=by
   intro p n hn;unfold s5;split
   ·simpa using aef hn
   split
   ·exact nA n
   split
   ·exact nK n
   exact nw _ _
  refine⟨?_,?_,?_,?_,by simp[bZ],?_,by simp[bZ,Lb.fresh,Lb.entry],?_⟩
  ·refine O' hy hB Xs Xt (nA 55) (nK 55) hAK ?_ ?_ ?_ ?_ ?_
   ·simp[ae,C6]
   ·simp[ae,n8]
   ·simp[ae,aef (Xs _),nA,Pb]
   ·simp[ae,aef (Xt _),nK]
   intro p g1 g2;simp[ae,C6,g1,g2,nw,Xs,Xt]
  ·intro l' he hu;exfalso;apply hu;have e1:∀p,l'≠lc p:=(by rintro p rfl;simp[lc,Lb.entry] at he);have e2:∀n,l'≠ .loc n:=(by rintro p rfl;simp[Lb.entry] at he);have e3:l'≠A:=(by rintro rfl;rw[eA] at he;cases he);have e4:l'≠Kd:=(by rintro rfl;rw[eK] at he;cases he);simp[ae,e1,e2,e3,e4,hE l' he]
  ·simp[kv,e7,put,qc,r0,r2,r4]
  ·intro z hz;simp only[qi,adz,adG,adO] at hz;rcases hz with rfl|rfl<;>simp[bZ,ae,cV,aY,e7,n8,Uv,Xu,a2,a4]
  ·intro l' mT p' iJ;simp only[adz,adG,adO] at mT;rcases mT with rfl|rfl
   ·exact hXl _ _ (by decide)
   exact hXl _ _ (by decide)
  intro p' iJ;refine⟨fun _=> ?_,fun h=>by simp[lc,Lb.entry] at h⟩;unfold s5;split
  ·rfl
  split
  ·exact fA
  split
  ·exact fK
  rfl
 have he:i=d.length:=by simp at h;omega
 clear hs Hi hln al aN;subst he;simp only[↓aX,mX,seval];have SM:∀b:Bn,∀p,p<4+2*b.n0→(lc p).fresh=true∧lc p≠ .loc 2∧lc p≠ .loc 4:=fun b p _=>⟨rfl,by simp[lc],by simp[lc]⟩;refine w_ (σ:={p:Nat // 1≤p∧p≤6}) lc (fun q=>dP (bt q.1 0)) [.loc 2,.loc 4] (fun _=>false) (fun q=>Bi l q.1) (fun _=>qi d) (fun q=>6 - q.1) ⟨1,by omega,by omega⟩
  (fun q p1 p2 _ _ e=>qR e) (fun _=>rfl) (by simp[lc]) ?_ ?_ ?_ ?_
 ·intro q l' mT;simp[ah,AV.aB,Bi] at mT;rcases mT with rfl|rfl|rfl
  ·simp
  ·simp
  right;exact⟨0,bd.2 (by omega),rfl⟩
 ·intro q z hz cs bS l' mT;simp only[qi,adz,adG,adO] at hz;rcases hz with rfl|rfl<;>(simp only[adr] at bS;subst bS;simp[ah,AV.aB] at mT)
 ·refine⟨lc,[],?_⟩;refine F_ (by simp only[zh];exact hB) (SM _) hE a2 a4 fun r0 r2 r4=> ?_;simp[Bi,kv,e7,put,qc,r0,r2,r4]
 rintro⟨p,Vl,hp6⟩;obtain⟨H1,TX⟩:∃H1,H1=BH lc (dP (bt p 0)) (fy (fun _=>false) (qi d)):=⟨_,rfl⟩;simp only;rw[←TX];obtain⟨hB1,b2,b4,bE,bN,bl⟩:=JY H1 TX;clear TX;simp only[↓aX,mX,seval,Bi];refine qG (fun h=> ?_) (fun h=> ?_)
 ·have hp5:p≤5:=by simp at h;omega
  simp only[↓aX,mX,seval,ag5];refine w_ (σ:={i:Nat // i≤l.length}) lc (fun q=>dP (bt p q.1)) [.loc 2,.loc 4] (fun _=>false) (fun q=>LO l p q.1) (fun _=>qi d) (fun q=>l.length - q.1) ⟨0,ad3 _⟩
   (fun q p1 p2 _ _ e=>qR e) (fun _=>rfl) (by simp[lc]) ?_ ?_ ?_ ?_
  ·intro q l' mT;simp[ah,AV.aB,Bi,LO] at mT;rcases mT with rfl|rfl|rfl
   ·simp
   ·simp
   right;exact⟨0,bd.2 (by omega),rfl⟩
  ·intro q z hz cs bS l' mT;simp only[qi,adz,adG,adO] at hz;rcases hz with rfl|rfl<;>(simp only[adr] at bS;subst bS;simp[ah,AV.aB] at mT)
  ·refine⟨lc,[],?_⟩;refine F_ hB1 (SM _) bE b2 b4 fun r0 r2 r4=> ?_;simp[Bi,LO,kv,e7,put,qc,r0,r2,r4]
  rintro⟨j,hj⟩;obtain⟨H2,hH2⟩:∃H2,H2=BH lc (dP (bt p j)) (fy (fun _=>false) (qi d)):=⟨_,rfl⟩;simp only;rw[←hH2];obtain⟨v7,c2,c4,cE,cN,cl⟩:=JY H2 hH2;clear hH2;simp only[↓aX,mX,seval,Bi,LO];refine qG (fun h=> ?_) (fun h=> ?_)
  ·have bO:j<l.length:=(by simpa using h);obtain⟨o,ho⟩:∃o,l[j]?=some o:=⟨_,ag7 bO⟩;have hw:IntKind.i64.wrap ((j:Int)+1)=((j+1:Nat):Int):=wrap64 (by omega) (by omega);obtain⟨y,Yv,hy,hPh⟩:=Ut o (adu ho);have Xo:(d.map Node.iv)[o.target.toNat]?=some y.iv:=(by rw[adX,hy];rfl);simp only[↓aX,mX,seval,JL,ho,adB,FU,Op.bw,Op.cs,cl 12 (by decide) (by decide),c2,Yv,Xo,tl,Node.bw,Node.cs];refine⟨rfl,gJ hPh ?_⟩;simp only[↓aX,mX,seval];refine qG (fun h=> ?_) (fun h=> ?_)
   ·simp only[↓aX,mX,seval];have hpe:lZ o.kind y.text=(p:Int):=(by simpa using h);refine lk (lab:=lc) (N:=NW 903) (BZ p j o y ho hy hpe) (by simp[aY,e7,A6,Op.av]) ((v7.n6 (fun p' _=>nw _ _)).n6 (fun p' _=>nw _ _)) (fun l'=>by rw[ax _ _ (by simp[NW]),ax _ _ (by simp[NW])];exact cN _ _) (HR 903) (fun _ _=> .inr fun p' _=>rfl) (fun p' iJ=>bd.2 (by simp at iJ;omega)) ?_;rintro X R2 et H3 ⟨rfl,rfl⟩ g1 g2 g3 g4 g5 g6;simp only[↓aX,mX,seval,hw];have e0:et 0=lc 0:=g2 0 (by simp);have g4':∀l':Lb,(∀p',l'≠lc p')→(∀q,l'≠NW 903 q)→l'≠ .loc 12→H3 l'=H2 l':=fun l' q1 q2 q3=>(by rw[g4 l' (fun p' _=>q1 p') q2,ax _ _ q3,ax _ _ q3]);refine⟨⟨j+1,bO⟩,by simp only;omega,et,[],?_⟩;refine F_ g1 (fun p' iJ=> ?_) (fun l' he=> ?_) ?_ ?_ fun r0 r2 r4=> ?_
    ·rcases g3 p' (bd.2 iJ) with⟨p0,_,e⟩|⟨q,e⟩<;>rw[e]
     ·exact⟨rfl,nw _ _,nw _ _⟩
     exact⟨rfl,by simp[NW],by simp[NW]⟩
    ·rw[g4' l' (by rintro p' rfl;simp[lc,Lb.entry] at he) (by rintro p' rfl;simp[NW,Lb.entry] at he) (by rintro rfl;simp[Lb.entry] at he)];exact cE l' he
    ·rw[g4' _ (fun p'=>n8 _ _) (by simp[NW]) (by simp)];exact c2
    ·rw[g4' _ (fun p'=>n8 _ _) (by simp[NW]) (by simp)];exact c4
    simp[Bi,LO,kv,e7,put,qc,r0,r2,r4,e0]
   simp only[↓aX,mX,seval,hw];have hpe:lZ o.kind y.text≠(p:Int):=(by simpa using h);refine⟨⟨j+1,bO⟩,by simp only;omega,lc,[],?_⟩;refine F_ (by rw[Sc p j o y ho hy hpe];exact(v7.n6 (fun p' _=>nw _ _)).n6 (fun p' _=>nw _ _)) (SM _) (fun l' he=> ?_) ?_ ?_ fun r0 r2 r4=> ?_
   ·have:l'≠ .loc 12:=(by rintro rfl;simp[Lb.entry] at he);simp[ae,this,cE l' he]
   ·simp[ae,c2]
   ·simp[ae,c4]
   simp[Bi,LO,kv,e7,put,qc,r0,r2,r4]
  have he:j=l.length:=by simp at h;omega
  have hw:IntKind.i64.wrap ((p:Int)+1)=((p+1:Nat):Int):=wrap64 (by omega) (by omega);simp only[↓aX,mX,seval,hw];refine⟨⟨p+1,by omega,by omega⟩,by simp only;omega,lc,[],?_⟩;refine F_ (by simp only[hbt p,←he];exact v7) (SM _) cE c2 c4 fun r0 r2 r4=> ?_;simp[Bi,kv,e7,put,qc,r0,r2,r4]
 have he:p=6:=by simp at h;omega
 subst he;simp only[↓aX,mX,seval,rS];refine⟨_,LN (bt 6 0) H1,(xi hB1 (by rw[vz];exact Zh) ?_ ?_ ?_ b2 b4 bl).1,?_⟩
 ·simp[put,qc]
 ·simp[put,qc]
 ·simp[put,qc]
 obtain⟨-,c2,c4,cl⟩:=xi (S:=⟨P,G,100⟩) (env:=qc [(7,.ptr (lc 0) 3 0 0),(2,.ptr (.loc 2) 1 0 0),(4,.ptr (.loc 4) 1 0 0)]) hB1 (by rw[vz];exact Zh) rfl rfl rfl b2 b4 bl;simp only[↓aX,mX,seval];refine aq hT ?_;have c13:=cl 13 (by decide) (by decide);have c14:=cl 14 (by decide) (by decide);simp only[↓aX,mX,seval,Tree.av,c13];refine aq hJ ?_;simp only[↓aX,mX,seval,Tree.av,c13];have YC:=hM;simp only[Tree.av,Tree.text,Tree.s,Tree.attrs,Tree.kids] at YC;refine aq YC ?_;simp only[↓aX,mX,seval,Doc.av,c14];by_cases hm:mk.2=0
 ·rw[adv hm,show(mk.2 !=0)=false by simp[hm]];simp only[↓aX,mX,seval,c2,c4,c14,jM]
 rw[ag8 hm,show(mk.2 !=0)=true by simpa using hm];simp only[↓aX,mX,seval,c2,c4,c14,jM]
def LQ {cP cz ai aJ da aC aQ bP cy:Nat} (hF:an P G cP=some (100,[((some (some 1)),4),(none,5)],(iX cz ai aJ da aC aQ bP cy).bare)) (d:Doc) (l:List Op)
  (LP:aw P G cz [Doc.av d,.list (l.map Op.iv)] (.int .i64 (gZ d l))) (h0:gZ d l≠0) :
  aw P G cP [Doc.av d,.list (l.map Op.iv)] (.dM [Doc.av d,.int .i64 (gZ d l)]):=by
 refine aM hF (by simp) (by simp[ah,AV.aB,Doc.av]) (by simp[AV.aB,ah,Doc.av]) ?_;unfold iX;simp only[↓aX,mX,seval,Doc.av];refine aq LP ?_;simp only[↓aX,mX,seval,Doc.av];rw[show(gZ d l !=0)=true by simpa using h0];simp only[↓aX,mX,seval,Doc.av,jM]
end

structure Bj (t:Tree) (pre:List Op) (o:Op):Prop where
 ex:∃n q y,Sub 0 (-1) t n q y∧o.target=(n:Int)∧1≤o.kind∧o.kind≤10∧(o.kind=1∨o.kind=2∨8≤o.kind→y.text=false)∧(3≤o.kind∧o.kind≤6→0≤q) ∧
  (o.kind=1∨o.kind=2→gi pre 7 n=false)∧(o.kind=3∨o.kind=4∨o.kind=6→gi pre 7 q.toNat=false∧gi pre 6 n=false∧gi pre 5 n=false)
def BJ (o:Op):Nat:=er o.content+o.s.length+1
def lL (l:List Op):Nat:=(l.map BJ).sum
def Bl (a b:List Op):lL (a++b)=lL a+lL b:=by simp[lL]
def LR {a b:List Op} (h:a.Perm b):lL a=lL b:=(h.map BJ).sum_nat
section
variable {t:Tree} {l:List Op} {b:Bn} {o:Op}
def Xv (h:xr t l b) (h0:∀i q y,Sub 0 (-1) t i q y→y.text=true→y.kids=[]) (hs:Bj t l o):xr t (l++[o]) (mj b o)∧(mj b o).nodes.length≤b.nodes.length+BJ o:=by
 obtain⟨n,q,y,hy,ht,k1,QA,c1,c2,c3,c4⟩:=hs.ex;have hw:=o9 o.content;have Qx:o.kind=1∨o.kind=2∨(o.kind=3∨o.kind=4∨o.kind=6)∨o.kind=5∨o.kind=7∨o.kind=8∨(o.kind=9∨o.kind=10):=by omega
 unfold BJ;rcases Qx with hk|hk|hk|hk|hk|hk|hk
 ·obtain⟨g1,g2⟩:=step1 h hy ht hk (c1 (by omega)) (c3 (by omega));exact⟨g1,by omega⟩
 ·obtain⟨g1,g2⟩:=step2 h hy ht hk (c1 (by omega)) (c3 (by omega));exact⟨g1,by omega⟩
 ·obtain⟨e1,e2,e3⟩:=c4 (by omega);obtain⟨g1,g2⟩:=Xm h h0 hy (c2 (by omega)) ht hk e1 e2 e3;exact⟨g1,by omega⟩
 ·obtain⟨g1,g2⟩:=aaN h h0 hy (c2 (by omega)) ht hk;exact⟨g1,by omega⟩
 ·obtain⟨g1,g2⟩:=aaO h hy ht hk;exact⟨g1,by omega⟩
 ·obtain⟨g1,g2⟩:=aaP h hy ht hk (c1 (by omega));exact⟨g1,by omega⟩
 obtain⟨g1,g2⟩:=aaQ h hy ht hk;exact⟨g1,by omega⟩
def t_ (t:Tree):Bn:=⟨t.fI,aK t,List.replicate t.fI 0,List.replicate t.fI 0⟩
theorem JZ (h0:∀i q y,Sub 0 (-1) t i q y→y.text=true→y.kids=[]):∀(m:Nat) (done:List Op),done.length=m→(∀pre o post,done=pre++o::post→Bj t pre o) →
  xr t done (done.foldl mj (t_ t))∧(done.foldl mj (t_ t)).nodes.length≤t.fI+lL done
 |0,done,hm,_=>by
  obtain rfl:=aea.1 hm;exact⟨LJ t h0,by simp[t_,jU,lL]⟩
 |m+1,done,hm,hs=>by
  rcases af_ done with rfl|⟨pre,o,rfl⟩
  ·simp at hm
  rw[List.concat_eq_append] at hm hs ⊢;obtain⟨g1,g2⟩:=JZ h0 m pre (by simpa using hm) fun p x post e=>hs p x (post++[o]) (by rw[e];simp);obtain⟨g3,g4⟩:=Xv g1 h0 (hs pre o [] (by simp));rw[afP,aeP,agM];refine⟨g3,?_⟩;rw[Bl];have:lL [o]=BJ o:=by simp[lL]
  omega
end
def ua (L:List Tree):(news L).length=L.length:=by simp[news]
def Xw (l:List Op):Nat:=(l.map fun o=>o.content.length).sum
def SN (l:List Op):Xw l≤lL l:=by
 unfold Xw lL;induction l with
 |nil=>simp
 |cons o r ih=>have:=jr o.content;simp only[ad5,afU,BJ];omega
def Ig (l:List Op) (c:Op→Bool):Nat:=((l.filter c).map fun o=>o.content.length).sum
def uZ (l:List Op) (k:Int) (n:Nat):(bg l k n).length=Ig l fun o=>o.kind==k&&o.target==(n:Int):=by
 unfold bg Ig zq;rw[List.length_flatMap]
def Ih (l:List Op) (c d:Op→Bool) (h:∀o∈l,¬(c o=true∧d o=true)):Ig l c+Ig l d=Ig l fun o=>c o||d o:=by
 unfold Ig;induction l with
 |nil=>rfl
 |cons o r ih=>
 have ih:=ih fun x hx=>h x (by simp[hx]);have h1:=h o (by simp);cases hc:c o<;>cases hd:d o<;>simp_all[aeo]<;>omega
def Ii (l:List Op) (c:Op→Bool):Ig l c≤lL l:=by
 refine aeZ ?_ (SN l);unfold Ig Xw;induction l with
 |nil=>simp
 |cons o r ih=>simp only[aeo];split<;>simp<;>omega
def LS (l:List Op) (k:Nat):(fR l k).length≤1+Ig l fun o=>decide (3≤o.kind∧o.kind≤6∧o.target=(k:Int)):=by
 have e:(bg l 3 k).length+(bg l 6 k).length+(bg l 4 k).length≤Ig l fun o=>decide (3≤o.kind∧o.kind≤6∧o.target=(k:Int)):=by
  rw[uZ,uZ,uZ,Ih,Ih]
  ·unfold Ig;induction l with
   |nil=>simp
   |cons o r ih=>
   simp only[aeo];split
   ·rename_i h;rw[adv (by simp at h ⊢;omega)];simp only[ad5,afU];omega
   split
   ·simp only[ad5,afU];omega
   exact ih
  ·intro o _;simp;omega
  intro o _;simp;omega
 generalize (Ig l fun o=>decide (3≤o.kind∧o.kind≤6∧o.target=(k:Int)))=C at *;unfold fR;simp only[adE,ua];split
 ·rw[ua];omega
 split
 ·simp only[aek];omega
 simp only[adK,aek];omega
theorem gM (l:List Op):∀ks:List Nat,ks.Nodup→(ks.flatMap (fR l)).length≤ks.length+Ig l fun o=>decide (3≤o.kind∧o.kind≤6)&&ks.any fun k=>decide (o.target=(k:Int))
 |[],_=>by simp
 |k::r,h=>by
  have ih:=gM l r (agf.1 h).2;have h1:=LS l k;have h2:=Ih l (fun o=>decide (3≤o.kind∧o.kind≤6∧o.target=(k:Int))) (fun o=>decide (3≤o.kind∧o.kind≤6)&&r.any fun k=>decide (o.target=(k:Int))) (by
   rintro o _ ⟨e1,e2⟩;simp only[adM,ady,kF] at e1 e2;obtain⟨_,k',vL,e3⟩:=e2;have:k=k':=(by omega);subst this;exact(agf.1 h).1 vL)
  have h3:(Ig l fun o=>decide (3≤o.kind∧o.kind≤6∧o.target=(k:Int))||(decide (3≤o.kind∧o.kind≤6)&&r.any fun k=>decide (o.target=(k:Int))))=Ig l fun o=>decide (3≤o.kind∧o.kind≤6)&&(k::r).any fun k=>decide (o.target=(k:Int)):=by
   congr 1;funext o;rw[List.any_cons];by_cases q1:3≤o.kind∧o.kind≤6
   ·simp[q1]
   have e1:decide (3≤o.kind∧o.kind≤6)=false:=ae1 q1;have e2:decide (3≤o.kind∧o.kind≤6∧o.target=(k:Int))=false:=ae1 fun h=>q1 ⟨h.1,h.2.1⟩;rw[e1,e2];rfl
  simp only[aeK,adE,adK];omega

def Bm (l:List Op) (i:Nat) (y:Tree):(fO l i y).length≤y.kids.length+3*lL l+1:=by
 unfold fO;have Hi:(cO (i+1) y.kids).Nodup:=by
  have:∀(off:Nat) (xs:List Tree),(cO off xs).Nodup:=by
   intro off xs;induction xs generalizing off with
   |nil=>simp[cO]
   |cons x r ih=>
   simp only[cO,agf];refine⟨fun h=> ?_,ih _⟩;have:=tp _ _ off h;have:=x.dH;omega
  exact this _ _
 have h1:=gM l (cO (i+1) y.kids) Hi;have h2:=Ii l fun o=>decide (3≤o.kind∧o.kind≤6)&&(cO (i+1) y.kids).any fun k=>decide (o.target=(k:Int));have h3:=Ii l fun o=>o.kind==1&&o.target==(i:Int);have h4:=Ii l fun o=>o.kind==2&&o.target==(i:Int);rw[←uZ] at h3 h4;have h5:(cO (i+1) y.kids).length=y.kids.length:=by
  have:=afb List.length (xS (i+1) y.kids);rw[ag5,iO] at this;exact this
 split
 ·simp
 split
 ·simp
 simp only[adE,ua];omega
def v8 {as:List Attr} (h:j5 as=true) (l:List Op) (n:Nat):j5 (en l n as)=true:=by
 unfold en;induction l generalizing as with
 |nil=>exact h
 |cons o r ih=>
 refine ih ?_;unfold o6;split
 ·exact n7 h o
 exact h
def Bo (as:List Attr) (l:List Op) (n:Nat):(en l n as).length≤as.length+l.length:=by
 unfold en;induction l generalizing as with
 |nil=>simp
 |cons o r ih=>
 have h1:=ih (as:=o6 n as o);have h2:(o6 n as o).length≤as.length+1:=by
  unfold o6;split
  ·exact LF as o
  omega
 simp only[aeP,adK];omega
theorem Ga:∀l:List Op,l.length≤lL l
 |[]=>by simp
 |o::r=>by
  have:=Ga r;unfold lL at this ⊢;simp only[ad5,afU,adK,BJ];omega
section
variable {P:Program} {G:Nat→Option (List IV)}
set_option maxHeartbeats 2000000 in
def cDo {aC ak az au aD aG:Nat} (hF:an P G aC=some (194,[],(aZ ak az au aD aG).bare))
   (hI:BX P G ak) (FY:sk P G az) (hD:OT P G au) (hV:D3 P G aD) (Jx:FW P G aG)
   {t:Tree} {l:List Op} {b:Bn} {o:Op} (h:xr t l b) (h0:∀i q y,Sub 0 (-1) t i q y→y.text=true→y.kids=[]) (hr:∀i q y,Sub 0 (-1) t i q y→j5 y.attrs=true∧y.attrs.length≤80∧y.kids.length≤80) (hs:Bj t l o)
   (hb:b.nodes.length+4*lL (l++[o])+200≤B) :
   uO P G aC [.ptr (.par 0) 3 0 0,o.av] (dP b) [0,2,3] fun X R2=>X=(fun _=> .dM [])∧R2=dP (mj b o):=by
 obtain⟨k,ta,co,na,st⟩:=o
 obtain⟨n,q,y,hy,ht,k1,QA,c1,c2,c3,c4⟩:=hs.ex
 simp only at ht k1 QA c1 c2 c3 c4
 subst ht
 have hw:lL (l++[(⟨k,n,co,na,st⟩:Op)])=lL l+(er co+st.length+1):=by rw[Bl];simp[lL,BJ]
 rw[hw] at hb
 have BE:=jr co
 have nM:B=1073741824:=rfl
 obtain⟨ks,h1,h2⟩:=h.nd n q y hy
 have hrg:=hy.Jj
 have Uo:=y.dH
 have hn:n<b.n0:=by rw[h.n0];omega
 have hle:=h.le
 have qX:=h.n0
 obtain⟨hra,W4,G4⟩:=hr n q y hy
 have Xf:=pT h2
 have qV:=Bm l n y
 have hlw:=Ga l
 have IX:k=1∨k=2∨(k=3∨k=4∨k=5∨k=6)∨k=7∨k=8∨k=9∨k=10:=by omega
 rcases IX with rfl|rfl|hk|rfl|rfl|rfl|rfl
 · have hT:=c1 (by omega)
   have hv:=c3 (by omega)
   have vi:=h.fs.2 n (by omega)
   have Zw:(b.fs.getD n 0).toNat=(bg l 1 n).length:=by rw[List.getD_eq_getElem?_getD,vi];simp
   have hd:mj b ⟨1,n,co,na,st⟩={b.ins n (bg l 1 n).length co with fs:=b.fs.set n (((bg l 1 n).length+co.length:Nat):Int)}:=by
     unfold mj;simp only[Int.toNat_natCast,h1,if_true,Zw]
   rw[hd]
   have hfk:(bg l 1 n).length≤ks.length:=by
     rw[Xf];unfold fO;rw[hT,hv];simp[ua]
   exact acx hF b hle n hn _ h1 co na st _ vi hfk (by omega) (by simp only;omega) hI
 · have hd:mj b ⟨2,n,co,na,st⟩=b.ins n ks.length co:=by
     unfold mj;simp[h1]
   rw[hd]
   exact acy hF b hle n hn _ h1 co na st (by omega) (by simp only;omega) hI
 · have hq:=c2 (by omega)
   obtain⟨B',H9⟩:=beside h h0 hy hq
   have hr2:=B'.hz.Jj
   have aaM:=B'.z.dH
   have hm:B'.m<b.n0:=by rw[h.n0];omega
   have zG:b.kd B'.m=B'.ks:=by rw[Bn.oe B'.nd]
   have adj:=Bm l B'.m B'.z
   have hbl:=pT B'.rp
   have hzk:=(hr _ _ _ B'.hz).2.2
   have key:k≠5→∃L:Nat,o2 B'.ks n=(L:Int)∧L<B'.ks.length∧L+1+(bg l 4 n).length≤B'.ks.length:=by
     intro h5
     obtain⟨hv,h6,h5⟩:=c4 (by omega)
     rw[H9,Int.toNat_natCast] at hv
     have Xn:=B'.items hv
     have O4:fR l n=news (bg l 3 n)++ .BI n::news (bg l 4 n):=by unfold fR;rw[h6,h5];simp
     have Qz:gT (Rp b) B'.ks ((B'.A++news (bg l 3 n))++ .BI n::(news (bg l 4 n)++B'.C)):=by
       have:=B'.rp;rw[Xn,O4] at this
       simpa using this
     have hA:∀x∈B'.A++news (bg l 3 n),pU n x=false:=by
       intro x hx
       rcases List.mem_append.1 hx with hx|hx
       · exact B'.JT x hx
       exact ll n _ x hx
     obtain⟨rD,bO⟩:=D7 hn Qz hA
     refine⟨_,rD,bO,?_⟩
     rw[pT Qz]
     simp[ua];omega
   have vL:k=3∨k=4∨k=5∨k=6:=hk
   have vy:(q.toNat:Nat)=B'.m:=by rw[H9];rfl
   rcases vL with rfl|rfl|rfl|rfl
   · obtain⟨L,rD,bO,_⟩:=key (by omega)
     have hd:mj b ⟨3,n,co,na,st⟩=b.ins B'.m L co:=by
       unfold mj;simp[h1,vy,zG,rD]
     rw[hd]
     exact acz hF b hle n hn _ h1 co na st B'.m H9 hm _ B'.nd (by simp only;omega) FY L rD (by simp only;omega) (by omega) (by simp only;omega) hI
   · obtain⟨L,rD,bO,Yn⟩:=key (by omega)
     have han:=h.as.2 n (by omega)
     have ha0:(b.as.getD n 0).toNat=(bg l 4 n).length:=by rw[List.getD_eq_getElem?_getD,han];simp
     have hd:mj b ⟨4,n,co,na,st⟩={b.ins B'.m (L+1+(bg l 4 n).length) co with as:=b.as.set n (((bg l 4 n).length+co.length:Nat):Int)}:=by
       unfold mj;simp only[Int.toNat_natCast,h1,vy,zG,rD,ha0];rfl
     rw[hd]
     exact acA hF b hle n hn _ h1 co na st B'.m H9 hm _ B'.nd (by simp only;omega) FY L rD _ han Yn (by omega) (by simp only;omega) hI
   · by_cases hx:0≤o2 B'.ks n
     · obtain⟨L,hL⟩:∃L:Nat,o2 B'.ks n=(L:Int):=⟨(o2 B'.ks n).toNat,by omega⟩
       have bO:L<B'.ks.length:=by
         unfold o2 at hL
         split at hL
         · rename_i k' vL
           obtain⟨h3,_⟩:=List.findIdx?_eq_some_iff_getElem.1 vL
           omega
         omega
       have hd:mj b ⟨5,n,co,na,st⟩=b.del B'.m L:=by
         unfold mj;simp[h1,vy,zG,hL]
       rw[hd]
       exact acB hF b hle n hn _ h1 co na st B'.m H9 hm _ B'.nd (by simp only;omega) FY L hL bO hD
     have hL:o2 B'.ks n= -1:=by
       unfold o2 at hx ⊢
       split at hx
       · omega
       rfl
     have hd:mj b ⟨5,n,co,na,st⟩=b:=by
       unfold mj;simp[h1,vy,zG,hL]
     rw[hd]
     exact aaJ hF b hle n hn _ h1 co na st B'.m H9 hm _ B'.nd (by simp only;omega) FY hL
   obtain⟨L,rD,bO,_⟩:=key (by omega)
   have hd:mj b ⟨6,n,co,na,st⟩=(b.del B'.m L).ins B'.m L co:=by
     unfold mj;simp[h1,vy,zG,rD]
   rw[hd]
   exact acC hF b hle n hn _ h1 co na st B'.m H9 hm _ B'.nd (by simp only;omega) FY L rD bO hD (by omega) (by simp only;omega) hI
 · have hd:mj b ⟨7,n,co,na,st⟩=b.value n st:=by unfold mj;simp[h1]
   rw[hd]
   exact acD hF b hle n hn _ h1 co na st (by omega) hV
 · have hd:mj b ⟨8,n,co,na,st⟩=b.name n na:=by unfold mj;simp[h1]
   rw[hd]
   exact acE hF b hle n hn _ h1 co na st
 · have hd:mj b ⟨9,n,co,na,st⟩=b.attr n ⟨9,n,co,na,st⟩:=by unfold mj;simp[h1]
   rw[hd]
   have:=Bo y.attrs l n
   exact acF hF b hle n hn _ h1 co na st (by simp only;omega) (v8 hra l n) Jx
 have hd:mj b ⟨10,n,co,na,st⟩=b.attr n ⟨10,n,co,na,st⟩:=by unfold mj;simp[h1]
 rw[hd]
 have:=Bo y.attrs l n
 exact aaK hF b hle n hn _ h1 co na st (by simp only;omega) (v8 hra l n) Jx
end
end Go.Am
