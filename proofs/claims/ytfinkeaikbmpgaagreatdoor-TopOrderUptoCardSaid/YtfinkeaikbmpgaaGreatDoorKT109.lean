import Derived.Test.YtfinkeaikbmpgaaGreatDoorKAm53
import Derived.Test.YtfinkeaikbmpgaaGreatDoorKT21
import Derived.Test.YtfinkeaikbmpgaaGreatDoorKAm48
import Derived.Test.YtfinkeaikbmpgaaGreatDoorKT4
import Derived.Test.YtfinkeaikbmpgaaGreatDoorKAm40
import Derived.Test.YtfinkeaikbmpgaaGreatDoorKT67
import Derived.Test.YtfinkeaikbmpgaaGreatDoorKC7
set_option linter.unusedSimpArgs false
set_option linter.unusedVariables false
set_option linter.unnecessarySimpa false
set_option linter.defProp false
/- The store's document, told; a new store. -/
namespace Go.Am
open Go Go.RowKit
section
variable {P:Program} {G:Nat→Option (List IV)}
def mE (ai aJ:Nat):AC:=
(ay [aE 2 (.new [.nil0])] (.seq (ay [af 6 0,aE 7 (.Kj false (.t 6) (.c .nD))] (.cond (.t 7) (ay [aE 8 (.oa [.nil0] []),dT (.store 1 (.t 2) (.t 8))] .ret) .skip)) (ay [aE 3 (.new [.nil0])] (.seq (.gh .xD (ay [af 9 0,aE 10 (.dc (.t 9)),b7 11 10 0,b7 12 11 0,cS 13 12,ky 14 13,eX 15 0] (.block 0 (.loop (ay [eS 16 .lss 15 14] (.seq (.cond (.t 16) .skip (.exit 0)) (.seq (.block 1 (ay [ig 17 13 15 5,gd 18 5 17,aE 5 (.new [(.bool false),(.str []),.nil0,(.int .i64 0),.nil0]),dT (.store 5 (.t 5) (.t 18))] (.seq (.fg [b7 19 5 2,cS 20 19,aE 21 (.call ai [(.t 20)]),b7 22 5 4,cS 23 22,aE 24 (.call aJ [(.t 23)]),b7 25 5 2,dT (.store 1 (.t 25) (.t 21)),b7 26 5 4,dT (.store 1 (.t 26) (.t 24))] [[],[0],[1],[],[3],[4,2],[0,1,2,3,4],[6,2,5,0,1,2,3,4],[0,1,2,3,4,5,6,7],[8,5,7,0,1,2,3,4,5,6,7]] [.no,.rw [.loc 5] [],.no,.no,.rw [.loc 5] [],.no,.no,.rw [] [.loc 5],.no,.rw [] [.loc 5]]) (.ec [b7 27 3 0,cS 28 27,gd 29 5 5,aE 30 (.lits 1 5 [(.bool false),(.str []),.nil0,(.int .i64 0),.nil0] [(0,(.t 29))]),aE 31 (.app (.t 28) (.t 30) 5 80),b7 32 3 0,dT (.store 1 (.t 32) (.t 31))])))) (.ec [db 33 .add 15 1,af 15 33])))))))) (.gh (.Ha (.loc 1000) (.loc 3) 0) (ay [gd 34 1 3,dT (.store 1 (.t 2) (.t 34))] .ret))))))
def XT {aA ai aJ:Nat} (hF:an P G aA=some (35,[((some (some 1)),2)],(wQ ai aJ).bare)) (d:Doc) (hd:rq d≤B) (gf:Int)
  (hA:∀x∈d,aw P G ai [.list (dA x.attrs)] (.list (dA x.attrs))) (hI:∀x∈d,aw P G aJ [.list (x.kids.map aW)] (.list (x.kids.map aW))) :
  ez P G aA [.ptr (.par 0) 2 0 0] (dL d gf) (fun x cs=>x=Doc.av d∧cs=dL d gf):=by
 have hF':an P G aA=some (35,[((some (some 1)),2)],(mE ai aJ).bare):=hF;refine A_ hF' (by simp) (by simp[ah,AV.aB]) (by simp[ah,AV.aB,dL]) ?_;have nM:B=1073741824:=rfl;have Mx:=uF d;unfold mE;simp only[↓aX,mX,seval,kY,dL,YI,ag5];rw[rS];refine⟨_,_,tn (q:= .loc 3) (cs:=[.nil0]) (j:=0) (d:=1000) (sz:=5) rfl rfl (by simp[ae,Hp.none]) (by decide),?_⟩;simp only[↓aX,mX,seval];refine ki (σ:={i:Nat // i≤d.length}) (fun _=>[.par 0,.loc 2,.loc 3,.loc 1000]) (fun _ _=>false)
  (fun q=>[(0,.ptr (.par 0) 2 0 0),(2,.ptr (.loc 2) 1 0 0),(3,.ptr (.loc 3) 1 0 0),(13,.list (d.map Node.iv)),(14,.int .i64 d.length),(15,.int .i64 q.1)])
  (fun q=>[(.par 0,⟨2,[dL d gf]⟩),(.loc 2,⟨1,[[.nil0]]⟩),(.loc 3,⟨1,[[.sl (.loc 1000) 5 0 q.1]]⟩),(.loc 1000,⟨5,ar ((d.take q.1).map Node.iv)⟩)])
  (fun q=>d.length - q.1) ⟨0,ad3 _⟩ (fun _=>rfl) (fun q=>by simp[ah,AV.aB]) ?_ ⟨[],?_⟩ ?_
 ·rintro q r hr cs bS l hl;simp only[adz,adG,adO] at hr;rcases hr with rfl|rfl|rfl|rfl
  ·simp only[adr] at bS;subst bS;simp[ah,AV.aB,dL] at hl
  ·simp only[adr] at bS;subst bS;simp[ah,AV.aB] at hl
  ·simp only[adr] at bS;subst bS;simp[ah,AV.aB] at hl;subst hl;simp
  rw[bT bS] at hl;simp at hl
 ·refine⟨?_,?_,?_,by simp[bZ],by simp[bZ]⟩
  ·intro l hf hu;left;cases l<;>simp[Lb.entry] at hf;rename_i n;by_cases e:n=0
   ·subst e;simp
   exfalso;apply hu;simp[ae,Hp.none,e]
  ·simp[kv,bZ,e7,put,lE]
  simp[qe,bZ,ae,cV,aY,e7,ar,dL]
 rintro⟨i,hi⟩;simp only;obtain⟨Db,vc⟩:∃Db,Db=[(Lb.par 0,(⟨2,[dL d gf]⟩:Row)),(Lb.loc 2,⟨1,[[.nil0]]⟩),(Lb.loc 3,⟨1,[[.sl (.loc 1000) 5 0 i]]⟩),(Lb.loc 1000,⟨5,ar ((d.take i).map Node.iv)⟩)]:=⟨_,rfl⟩;rw[←vc];have hU:∀d,d≠2→d≠3→d≠1000→fy (fun _=>false) Db (.loc d)= .unused:=fun d h4 h5 h6=>by rw[vc,jT (by simp[h4,h5,h6])];rfl
 have xc:∀d,d≠0→fy (fun _=>false) Db (.par d)= .unused:=fun d hd=>by rw[vc,jT (by simp[hd])];rfl
 have nh:fy (fun _=>false) Db (.par 0)= .live ⟨2,[dL d gf]⟩:=dm.2 (by simp[vc,kx,ae]);have hL2:fy (fun _=>false) Db (.loc 2)= .live ⟨1,[[.nil0]]⟩:=dm.2 (by simp[vc,kx,ae]);have zm:fy (fun _=>false) Db (.loc 3)= .live ⟨1,[[.sl (.loc 1000) 5 0 i]]⟩:=dm.2 (by simp[vc,kx,ae]);have YE:fy (fun _=>false) Db (.loc 1000)= .live ⟨5,ar ((d.take i).map Node.iv)⟩:=dm.2 (by simp[vc,kx,ae]);generalize fy (fun _=>false) Db=H0 at *;clear vc Db;by_cases bO:i<d.length
 ·obtain⟨x,hx⟩:∃x,d[i]?=some x:=⟨_,ag7 bO⟩;have hw:IntKind.i64.wrap ((i:Int)+1)=((i+1:Nat):Int):=wrap64 (by omega) (by omega);have TC:(d.take (i+1)).map Node.iv=(d.take i).map Node.iv++[x.iv]:=by rw[aei,hx];simp
  have hl5:((d.take i).map Node.iv).length=i:=by rw[ag5,adP];omega
  simp only[↓aX,mX,seval,show decide ((i:Int)<(d.length:Int))=true by simpa using bO,Doc.vS hx,tl,Node.bw,Node.cs,hU 5 (by decide) (by decide) (by decide)];have Yh:=adu hx;refine⟨rfl,gJ (hA x Yh) ?_⟩;simp only[↓aX,mX,seval];refine gJ (hI x Yh) ?_;simp only[↓aX,mX,seval,zm];rw[gU 5 80 31 1000 ((d.take i).map Node.iv) (.agg [.bool x.text,.str x.s,.list (dA x.attrs),.int .i64 x.parent,.list (x.kids.map aW)]) (by simp[ae,YE]) hl5 rfl x.uw (by omega) (by decide) (by decide) (by simp[ae,hU])];simp only[↓aX,mX,seval,hw,zm];refine⟨⟨i+1,bO⟩,by simp only;omega,[(.loc 1000,.loc 31)],?_,?_,?_,by simp[bZ],?_⟩
  ·intro z hf hu;left;cases z<;>simp[Lb.entry] at hf;rename_i m;by_cases e:m=0
   ·subst e;simp
   exfalso;apply hu;simp[ae,xc m e]
  ·simp[kv,bZ,e7,put]
  ·have hr:∀xs:List IV,cV (bZ [(.loc 1000,.loc 31)]) ⟨5,ar xs⟩=⟨5,ar xs⟩:=fun xs=>b5 _ _ _;simp only[qe,hr,TC];simp[bZ,ae,cV,aY,e7,Node.iv,Node.cs,dL,nh,hL2]
  intro z hz;simp only[adz,adG,adO] at hz;rcases hz with rfl|rfl|rfl|rfl<;>simp[bZ,Lb.fresh,Lb.entry]
 have qV:i=d.length:=by omega
 subst qV;simp only[↓aX,mX,seval,show decide ((d.length:Int)<(d.length:Int))=false by simp,aee];rw[aee] at YE;refine⟨5,d.map Node.iv,0,d.length,[.sl (.loc 1000) 5 0 d.length],by first|rfl|exact YE|exact zm,by first|rfl|exact YE|exact zm,by first|rfl|exact YE|exact zm,by first|rfl|exact YE|exact zm|simp,by simp,NL _,?_⟩
 simp only[↓aX,mX,seval,ad1,ads (show(d.map Node.iv).length≤d.length by simp),hL2];exact⟨dL d gf,⟨rfl,rfl⟩,by simp[AV.aB,ah],by simp[ah,AV.aB,dL],rfl,by simp[ae,nh]⟩
def yo:Tree:= .mk false [100,111,99] [] []
def rF:yo.fZ=true:=by decide
def rG:Doc:=aK yo
def Ed:cW rG=true:=mc rF
def ue (cy:Nat):AC:=
(ay [aE 0 (.nE (.c .nD))] (ay [aE 4 (.oa [(.bool false),(.str []),.nil0,.nil0] [(1,(1,(.c (.str [100,111,99]))))]),aE 5 (.call cy [(.t 4)]),af 3 5,gQ 6 3 0,gQ 7 3 1,aE 1 (.new [.nil0]),dT (.store 1 (.t 1) (.t 6)),af 2 7] (ay [gd 8 1 1,aE 9 (.oa [.nil0,(.int .i64 0)] [(0,(1,(.t 8)))]),oN 10 9,af 0 10] .ret)))
def XU {eg cy:Nat} (hF:an P G eg=some (11,[(none,0)],(ue cy).bare)) (hM:aw P G cy [yo.av] (.dM [Doc.av (jJ yo).1,.int .i64 (jJ yo).2])) :
  ID P G eg [] 2 [.list (rG.map Node.iv),.int .i64 0]:=by
 refine L_ hF (by simp) rfl ?_;have e:jJ yo=(rG,0):=by unfold jJ;rw[adv rF];rfl
 rw[e] at hM;have YC:aw P G cy [.agg [.bool false,.str [100,111,99],.list [],.list []]] (.dM [.agg [.list (rG.map Node.iv)],.int .i64 0]):=hM;have hM2:aw P G cy [.agg [.bool false,.str [100,111,99],.nil0,.nil0]] (.dM [.agg [.list (rG.map Node.iv)],.int .i64 0]):=KZ YC (by simp[ah,AV.aB]) fun w β H I vs h=>by
  simp only[cM,RV] at h ⊢;obtain⟨v,us,rfl,⟨vs,rfl,v1,u1,rfl,h1,v2,u2,rfl,h2,v3,u3,rfl,h3,v4,u4,rfl,h4,rfl⟩,rfl⟩:=h;exact⟨_,[],rfl,⟨_,rfl,v1,_,rfl,h1,v2,_,rfl,h2,v3,_,rfl,by have:=AI (w:=w) (β:=β) (H:=H) (I:=I) (v:=v3) (by simpa[RV] using h3);simpa[RV] using this,v4,_,rfl,by have:=AI (w:=w) (β:=β) (H:=H) (I:=I) (v:=v4) (by simpa[RV] using h4);simpa[RV] using this,rfl⟩,rfl⟩
 unfold ue;simp only[↓aX,mX,seval];refine aq hM2 ?_;simp only[↓aX,mX,seval];exact⟨.loc 10,rfl,by simp[IV.gK]⟩
end

noncomputable def xn:Doc×Int→List bK→Doc×Int
 |q,[]=>q
 |q,a::r=>xn (mQ q.1 q.2 a).1 r
theorem Dc:∀(l:List bK) (q:Doc×Int) (a:bK),xn q (l++[a])=(mQ (xn q l).1 (xn q l).2 a).1
 |[],q,a=>rfl
 |b::r,q,a=>by simp only[adR,xn,Dc r]
noncomputable def GN:Doc×Int:=(rG,0)
noncomputable def gF (l:List bK) (i:Nat):Doc×Int:=xn GN (l.take i)
def u0 {l:List bK} {i:Nat} {a:bK} (h:l[i]?=some a):gF l (i+1)=(mQ (gF l i).1 (gF l i).2 a).1:=by
 unfold gF;rw[aei,h,afA,Dc]
def bK.bw (a:bK):a.iv.cells=a.cs:=rfl
def sG (l:List bK):ko 2 (l.map bK.iv):=by
 intro y hy;simp only[adY] at hy;obtain⟨a,_,rfl⟩:=hy;rfl
def IE (l:List bK) (i:Nat):(l.map bK.iv)[i]?=(l[i]?).map bK.iv:=adX ..
section
variable {P:Program} {G:Nat→Option (List IV)}
def UH (P:Program) (G:Nat→Option (List IV)) (f:Nat) (l:List bK):Prop:=∀(i:Nat) (a:bK),i<50→l[i]?=some a →
 ez P G f [.ptr (.par 0) 2 0 0,Doc.av (gF l i).1,a.av,(mQ (gF l i).1 (gF l i).2 a).2.av] (dL (gF l (i+1)).1 (gF l (i+1)).2) (fun x cs=>x= .bool true∧cs=dL (gF l (i+1)).1 (gF l (i+1)).2)
abbrev qa (P:Program) (G:Nat→Option (List IV)) (f g:Nat) (l:List bK):Prop:=
 uO P G f [.list (l.map bK.iv),.fn g [] []] DT [] fun X R2=>X=(fun lab=> .dM [.ptr (lab 0) 2 0 0,.bool true])∧R2=xa 2 [.agg [.list ((gF l (min l.length 50)).1.map Node.iv),.int .i64 (gF l (min l.length 50)).2]]
def nB (bB eg aA aF:Nat):AC:=
(ay [aE 4 (.nE (.c .nD)),jK 5 false] (.seq (ay [aE 10 (.call bB []),uk 11 10] (.cond (.t 11) (ay [aE 4 (.nE (.c .nD)),jK 5 false] .ret) .skip)) (ay [aE 12 (.call eg []),af 6 12] (.seq (ay [eX 7 0] (.block 0 (.loop (.seq (ay [af 13 7,af 14 0,ky 15 14,eS 16 .lss 13 15,af 17 16,eJ 18 17 7,eP 19 17 (.bin .lss (.t 18) (ij 50)),l7 20 17 19] (.cond (.t 20) .skip (.exit 0))) (.seq (.block 1 (ay [af 23 6,aE 24 (.call aA [(.t 23)]),aE 8 (.new [.nil0]),dT (.store 1 (.t 8) (.t 24))] (ay [af 25 6,af 26 0,af 27 7,ig 28 26 27 2,gd 29 2 28,aE 30 (.call aF [(.t 25),(.t 29)]),aE 9 (.new [(.int .i64 0),(.int .i64 0),(.str [])]),dT (.store 3 (.t 9) (.t 30))] (.seq (.fg [af 31 1,af 32 6,gd 33 1 8,af 34 0,af 35 7,ig 36 34 35 2,gd 37 2 36,gd 38 3 9,aE 39 (.jH (.t 31) [(.t 32),(.t 33),(.t 37),(.t 38)]),uk 40 39] [[],[],[],[],[],[3,4],[5],[],[0,1,2,6,7],[8]] [.no,.no,.rw [.loc 8] [],.no,.no,.no,.no,.rw [.loc 9] [],.all,.no]) (.cond (.t 40) (ay [af 41 6,af 4 41,jK 5 false] .ret) .skip))))) (.ec [af 21 7,db 22 .add 21 1,af 7 22])))))) (ay [af 42 6,af 4 42,jK 5 true] .ret)))))
def abj {aI bB eg aA aF g:Nat} (hF:an P G aI=some (43,[(none,4),(none,5)],(nB bB eg aA aF).bare)) (l:List bK) (hl:l.length≤B)
  (GI:aw P G bB [] (.bool true)) (P5:ID P G eg [] 2 [.list (rG.map Node.iv),.int .i64 0])
  (qT:∀i,i≤50→ez P G aA [.ptr (.par 0) 2 0 0] (dL (gF l i).1 (gF l i).2) (fun x cs=>x=Doc.av (gF l i).1∧cs=dL (gF l i).1 (gF l i).2))
  (Bv:∀(i:Nat) (a:bK),i<50→l[i]?=some a→ez P G aF [.ptr (.par 0) 2 0 0,a.av] (dL (gF l i).1 (gF l i).2) (fun x cs=>x=(mQ (gF l i).1 (gF l i).2 a).2.av∧cs=dL (gF l (i+1)).1 (gF l (i+1)).2))
  (hB:jQ P g=true) (P6:UH P G g l):qa P G aI g l:=by
 refine gY hF (by simp) (by simp[ah,AV.aB]) ?_;rw[HS];have nM:B=1073741824:=rfl;unfold nB;simp only[↓aX,mX,seval,ag5];refine aq GI ?_;simp only[↓aX,mX,seval,adL];refine yn 12 P5 rfl (fun l=>by simp[NW,Hp.none]) fun q=> ?_;simp only[↓aX,mX,seval];have XV:gF l 0=GN:=by simp[gF,xn]
 refine jj (σ:={i:Nat // i≤l.length∧i≤50}) (fun _=>[.loc 600]) (fun _ _=>false)
  (fun q=>[(0,.list (l.map bK.iv)),(1,.fn g [] []),(6,.ptr (.loc 600) 2 0 0),(7,.int .i64 q.1)])
  (fun q=>[(.loc 600,⟨2,[dL (gF l q.1).1 (gF l q.1).2]⟩)]) (fun q=>50 - q.1) ⟨0,by omega,by omega⟩ (fun _=>rfl) (fun q=>by simp[ah,AV.aB]) ?_ ⟨[(.loc 600,NW 12 q)],?_⟩ ?_
 ·intro q w hw cs bS z hz;simp only[adr] at hw;subst hw;simp only[adr] at bS;subst bS;simp[ah,AV.aB,dL] at hz
 ·refine⟨?_,?_,?_,by simp[bZ],?_⟩
  ·intro l hf hu;exfalso;apply hu;cases l<;>simp_all[Lb.fresh,ae,Hp.none,NW,Lb.entry]
  ·simp[kv,bZ,e7,aY,put,lE]
  ·simp[qe,bZ,ae,cV,aY,e7,dL,XV,GN,IV.gK]
  intro l hl;simp only[adr] at hl;subst hl;exact⟨fun _=>by simp[bZ,A7],fun h=>by simp[Lb.fresh] at h⟩
 rintro⟨i,hi,hi5⟩;rw[vt];simp only[↓aX,mX,seval,ed,dk,ag5];have HK:∀(H:Hp),i=min l.length 50→H (.loc 600)= .live ⟨2,[dL (gF l i).1 (gF l i).2]⟩→∃t:((Nat→Lb)→AV)×qx×(Nat→Lb),
   (t.1=(fun lab=> .dM [.ptr (lab 0) 2 0 0,.bool true])∧t.2.1=xa 2 [.agg [.list ((gF l (min l.length 50)).1.map Node.iv),.int .i64 (gF l (min l.length 50)).2]])∧(∀ρ,e7 ρ (t.1 t.2.2)=t.1 fun i=>ρ (t.2.2 i)) ∧
   (∀z∈(AV.dM [.ptr (.loc 600) 2 0 0,.bool true]).aB,∃p,t.2.1.ok p∧z=t.2.2 p)∧AV.dM [.ptr (.loc 600) 2 0 0,.bool true]=t.1 t.2.2∧nZ t.2.2 t.2.1 H:=by
  intro H hi hH;subst hi;refine⟨⟨_,_,fun _=> .loc 600⟩,⟨rfl,rfl⟩,fun ρ=>by simp[e7,aY],fun z hz=>⟨0,lH.2 rfl,by simpa[AV.aB,ah] using hz⟩,rfl,⟨fun p r hr=> ?_,fun p q hp hq _=>(lH.1 hp).trans (lH.1 hq).symm⟩⟩;simp only[xa] at hr;by_cases h:p=0
  ·simp[h] at hr;subst hr;rw[hH];simp[ar,IV.cells,dL,IV.gK]
  simp[h] at hr
 by_cases bO:i<l.length
 ·simp only[↓aX,mX,seval,show decide ((i:Int)<(l.length:Int))=true by simpa using bO];by_cases YF:i<50
  ·obtain⟨a,ha⟩:∃a,l[i]?=some a:=⟨_,ag7 bO⟩;have hw:IntKind.i64.wrap ((i:Int)+1)=((i+1:Nat):Int):=wrap64 (by omega) (by omega);simp only[↓aX,mX,seval,show decide ((i:Int)<50)=true by simp;omega];refine a7 (l:= .loc 600) (qT i (by omega)) (by simp[aY,e7,iH]) (by simp[ae,dL]) ?_;rintro x1 Yo ⟨rfl,rfl⟩ _ _ _;simp only[↓aX,mX,seval,Doc.av,IE,ha,sG,adB,bK.bw,bK.cs,adt,ag9];refine a7 (l:= .loc 600) (Bv i a YF ha) (by simp[aY,e7,iH,bK.av]) (by simp[ae,dL]) ?_;rintro x2 Ta ⟨rfl,rfl⟩ _ _ _;simp only[↓aX,mX,seval,l9.av,IE,ha,sG,adB,bK.bw,bK.cs,adt,ag9];refine⟨rfl,?_⟩;simp only[lh,pP,↓aX,mX,seval,aec,adN];refine⟨hB,a7 (l:= .loc 600) (P6 i a YF ha) (by simp[aY,e7,iH,bK.av,Doc.av,l9.av]) (by simp[ae,dL]) ?_⟩;rintro x3 N5 ⟨rfl,rfl⟩ _ _ _;simp only[↓aX,mX,seval,adL,hw];refine⟨⟨i+1,bO,YF⟩,by simp only;omega,[],?_⟩;refine⟨?_,?_,?_,by simp[bZ],fun l _=>⟨id,fun _=>rfl⟩⟩
   ·intro l hf hu;exfalso;apply hu;cases l<;>simp_all[Lb.fresh,ae,Hp.none]
   ·simp[kv,bZ,e7,aY,put]
   simp[qe,bZ,ae,cV,aY,e7,dL]
  have h5:i=50:=by omega
  simp only[↓aX,mX,seval,show decide ((i:Int)<50)=false by simp;omega,↓eQ];refine HK _ (by omega) ?_;simp[ae]
 simp only[↓aX,mX,seval,show decide ((i:Int)<(l.length:Int))=false by simpa using bO,↓eQ];refine HK _ (by omega) ?_;simp[ae]
end

def tA:Tree:= .mk false [97] [] [.mk true [120] [] []]
def MB:Bs:=[108,97,115,116,32,47,100,111,99,32,60,97,62,120,60,47,97,62]
def MC:Bs:=[115,101,116,32,47,100,111,99,32,107,61,118]
def stD:List Step:=[⟨[100,111,99],0⟩]
def UI:tH [47,100,111,99]=some stD:=by rfl
def abk:iq [60,97,62,120,60,47,97,62]=([tA],0):=
 PQ (l:=[tA]) (by decide) (by decide) (by decide) (by decide) (by decide)
def acZ:nz [118]=([118],0):=by
 have h:=uH false [118] [] (by decide) (by simp);have e:nW false [118]++[]=([118]:Bs):=by rfl
 rw[e] at h;unfold nz;rw[ag8 (by decide),h];rfl
def abl:cQ MB=(⟨2,0,[tA],[],[]⟩,stD,0):=by
 have e1:ud qS (cU 32 MB).1=2:=by decide
 have e2:cU 32 (cU 32 MB).2.1=([47,100,111,99],[60,97,62,120,60,47,97,62],true):=by decide
 unfold cQ;simp only[e1,e2,UI,abk];rfl
def abm:cQ MC=(⟨9,0,[],[107],[118]⟩,stD,0):=by
 have e1:ud qS (cU 32 MC).1=9:=by decide
 have e2:cU 32 (cU 32 MC).2.1=([47,100,111,99],[107,61,118],true):=by decide
 have e3:cU 61 [107,61,118]=([107],[118],true):=by decide
 unfold cQ;simp only[e1,e2,e3,UI,acZ];rfl
def XW:gm rG stD=([0],0):=by
 unfold gm;rw[adv ⟨Ed,by decide⟩];rfl
def opA:Op:=⟨2,0,[tA],[],[]⟩
def opK:Op:=⟨9,0,[],[107],[118]⟩
def tK:Tree:= .mk false [100,111,99] [⟨[107],[118]⟩] [tA]
def abn:dR rG [] [MB,MC]= .ok [opA,opK]:=by
 simp only[dR,abl,abm,XW];rfl
def XX:eI rG [opA,opK]=(aK tK,0):=by
 have h:gZ (aK yo) [opA,opK]=0:=by
  rw[n9 rF];refine⟨fun o ho=> ?_,by decide,by decide⟩;simp only[adz,adG,adO] at ho;rcases ho with rfl|rfl
  ·exact⟨⟨0,-1,yo,.self 0 (-1) yo,rfl,by decide⟩,by decide,by decide⟩
  exact⟨⟨0,-1,yo,.self 0 (-1) yo,rfl,by decide⟩,by decide,by decide⟩
 have:=pZ rF h;have e:ny yo [opA,opK]=tK:=by rfl
 rw[e,adv (by decide)] at this;exact this
def UJ:cW (aK tK)=true:=mc (x:=tK) (by decide)
def abo:mQ rG 0 ⟨2,[MB,MC]⟩=((aK tK,1),⟨0,2,[]⟩):=by
 have h:adl rG [MB,MC]=(aK tK,⟨0,2,[]⟩):=by
  unfold adl;rw[ag8 (by decide),abn];simp only[XX];rfl
 unfold mQ kt;rw[ag8 (by decide),ag8 (by decide),adv rfl,h];rfl
def txK:Bs:=[60,100,111,99,32,107,61,34,118,34,62,60,97,62,120,60,47,97,62,60,47,100,111,99,62]
def XY:mQ (aK tK) 1 ⟨3,[]⟩=((aK tK,2),⟨0,3,txK⟩):=by
 have ht:e_ (aK tK) ((0:Nat):Int)=(tK,0):=tq (t:=tK) (by decide) (Sub.self 0 (-1) tK);have hp:dZ tK=(txK,0):=by rw[By (by decide) (by decide)];rfl
 unfold mQ kt;rw[ag8 (by decide),ag8 (by decide),ag8 (by decide),adv rfl];have ht':e_ (aK tK) 0=(tK,0):=ht;simp only[ht',hp];rfl
section
variable {P:Program} {G:Nat→Option (List IV)}
def P7 {f:Nat} {args vm:List AV} {cs:List AV} {R:AV→List AV→Prop} (h:ez P G f args cs R) (hl:∀l∈ah vm,l= .par 0)
  (hv:∀(w:World) β H I vs,cM w β H I vm vs→cM w β H I args vs):ez P G f vm cs R:=
 ⟨hl,h.2.1,fun w A β vs hr hq=>h.2.2 w A β vs hr (hv _ _ _ _ _ hq)⟩
def Ee {f:Nat} {k:Int} {cs:List AV} {R:AV→List AV→Prop} (h:ez P G f [.ptr (.par 0) 2 0 0,(⟨k,[]⟩:bK).av] cs R):ez P G f [.ptr (.par 0) 2 0 0,.agg [.int .i64 k,.nil0]] cs R:=
 P7 h (by simp[ah,AV.aB]) fun w β H I vs h=>by
  simp only[cM,RV,bK.av,aeW] at h ⊢;obtain⟨v,us,rfl,h1,v2,us2,rfl,⟨vs2,rfl,v3,u3,rfl,h3,v4,u4,rfl,h4,rfl⟩,rfl⟩:=h;have:=AI (w:=w) (β:=β) (H:=H) (I:=I) (v:=v4) (by simpa[RV] using h4);exact⟨v,_,rfl,h1,_,[],rfl,⟨_,rfl,v3,_,rfl,h3,v4,_,rfl,by simpa[RV] using this,rfl⟩,rfl⟩
def mF (eg aF aA:Nat):AC:=
(ay [jK 0 false] (ay [aE 4 (.call eg []),af 1 4] (.seq (ay [af 5 1,aE 6 (.Kj false (.t 5) (.c .nD))] (.cond (.t 6) (ay [jK 0 false] .ret) .skip)) (ay [af 7 1,aE 8 (.lits 2 1 [(.str [])] [(0,(.c (.str [108,97,115,116,32,47,100,111,99,32,60,97,62,120,60,47,97,62]))),(1,(.c (.str [115,101,116,32,47,100,111,99,32,107,61,118])))]),aE 9 (.oa [(.int .i64 0),.nil0] [(0,(1,(ij 2))),(1,(1,(.t 8)))]),aE 10 (.call aF [(.t 7),(.t 9)]),aE 2 (.new [(.int .i64 0),(.int .i64 0),(.str [])]),dT (.store 3 (.t 2) (.t 10))] (ay [af 11 1,aE 12 (.oa [(.int .i64 0),.nil0] [(0,(1,(ij 3)))]),aE 13 (.call aF [(.t 11),(.t 12)]),aE 3 (.new [(.int .i64 0),(.int .i64 0),(.str [])]),dT (.store 3 (.t 3) (.t 13))] (ay [b7 14 2 0,cS 15 14,db 16 .eql 15 0,af 17 16,iu 18 17 2 1,ir 19 17 18,eP 20 17 (.bin .eql (.t 19) (ij 2)),l7 21 17 20,af 22 21,iu 23 22 3 2,ir 24 22 23,eP 25 22 (.bin .eql (.t 24) (.c (.str [60,100,111,99,32,107,61,34,118,34,62,60,97,62,120,60,47,97,62,60,47,100,111,99,62]))),l7 26 22 25,af 27 26,eJ 28 27 1,eP 29 27 (.call aA [(.t 28)]),eP 30 27 (.zM (.t 29) 0 none),eP 31 27 (.len (.t 30)),eP 32 27 (.bin .eql (.t 31) (ij 3)),l7 33 27 32,af 0 33] .ret))))))
def XZ {bB eg aF aA:Nat} (hF:an P G bB=some (34,[(none,0)],(mF eg aF aA).bare)) (P5:ID P G eg [] 2 [.list (rG.map Node.iv),.int .i64 0])
  (h1:ez P G aF [.ptr (.par 0) 2 0 0,(⟨2,[MB,MC]⟩:bK).av] (dL rG 0) (fun x cs=>x=(mQ rG 0 ⟨2,[MB,MC]⟩).2.av∧cs=dL (mQ rG 0 ⟨2,[MB,MC]⟩).1.1 (mQ rG 0 ⟨2,[MB,MC]⟩).1.2))
  (h2:ez P G aF [.ptr (.par 0) 2 0 0,(⟨3,[]⟩:bK).av] (dL (aK tK) 1) (fun x cs=>x=(mQ (aK tK) 1 ⟨3,[]⟩).2.av∧cs=dL (mQ (aK tK) 1 ⟨3,[]⟩).1.1 (mQ (aK tK) 1 ⟨3,[]⟩).1.2))
  (h3:ez P G aA [.ptr (.par 0) 2 0 0] (dL (aK tK) 2) (fun x cs=>x=Doc.av (aK tK)∧cs=dL (aK tK) 2)) :
  aw P G bB [] (.bool true):=by
 rw[abo] at h1;rw[XY] at h2;refine aM hF (by simp) (by simp[ah]) (by simp[AV.aB]) ?_;unfold mF;simp only[↓aX,mX,reduceCtorEq,Nat.reduceEqDiff,Nat.reduceLT,Nat.reduceLeDiff,Nat.reduceAdd,Nat.reduceMul,Int.reduceToNat,Int.reduceLE,Int.reduceLT];refine yn 4 P5 rfl (fun l=>by simp[NW,Hp.none]) fun q=> ?_;simp only[↓aX,mX,reduceCtorEq,Nat.reduceEqDiff,Nat.reduceLT,Nat.reduceLeDiff,Nat.reduceAdd,Nat.reduceMul,Int.reduceToNat,Int.reduceLE,Int.reduceLT,YI];change ga (some (AV.list [IV.str MB,IV.str MC])) _ _;simp only[↓aX,mX,reduceCtorEq,Nat.reduceEqDiff,Nat.reduceLT,Nat.reduceLeDiff,Nat.reduceAdd,Nat.reduceMul,Int.reduceToNat,Int.reduceLE,Int.reduceLT];refine a7 (l:=NW 4 q) h1 (by simp[aY,e7,iH,bK.av]) (by simp[ae,dL,IV.gK]) ?_;rintro x1 Yo ⟨rfl,rfl⟩ _ _ _;simp only[↓aX,mX,reduceCtorEq,Nat.reduceEqDiff,Nat.reduceLT,Nat.reduceLeDiff,Nat.reduceAdd,Nat.reduceMul,Int.reduceToNat,Int.reduceLE,Int.reduceLT,l9.av];refine⟨by simp[NW],?_⟩;refine a7 (l:=NW 4 q) (Ee h2) (by simp[aY,e7,iH,bK.av]) (by simp[ae,dL,NW]) ?_;rintro x2 Ta ⟨rfl,rfl⟩ _ _ _;simp only[↓aX,mX,reduceCtorEq,Nat.reduceEqDiff,Nat.reduceLT,Nat.reduceLeDiff,Nat.reduceAdd,Nat.reduceMul,Int.reduceToNat,Int.reduceLE,Int.reduceLT,l9.av];have hn:∀k,(Lb.loc k=NW 4 q)=False:=fun k=>by simp[NW]
 refine⟨by simp[hn],?_⟩;simp only[↓aX,mX,reduceCtorEq,Nat.reduceEqDiff,Nat.reduceLT,Nat.reduceLeDiff,Nat.reduceAdd,Nat.reduceMul,Int.reduceToNat,Int.reduceLE,Int.reduceLT,hn,show((0:Int)==0)=true from rfl,show((2:Int)==2)=true from rfl,show(txK==[60,100,111,99,32,107,61,34,118,34,62,60,97,62,120,60,47,97,62,60,47,100,111,99,62])=true from rfl];refine a7 (l:=NW 4 q) h3 (by simp[aY,e7,iH]) (by simp[ae,dL,NW]) ?_;rintro x3 N5 ⟨rfl,rfl⟩ _ _ _;simp only[↓aX,mX,reduceCtorEq,Nat.reduceEqDiff,Nat.reduceLT,Nat.reduceLeDiff,Nat.reduceAdd,Nat.reduceMul,Int.reduceToNat,Int.reduceLE,Int.reduceLT,Doc.av,ag5,show(aK tK).length=3 from rfl,show(((3:Nat):Int)==3)=true from rfl]

def mG:AC:=
(ay [oN 5 1,oN 6 2,oN 7 3,jK 8 false] (ay [jK 8 true] .ret))
def X0 {aP:Nat} (hF:an P G aP=some (9,[(none,8)],mG.bare)) (d w:Doc) (n:Int) (a:bK) (r:l9) :
  ez P G aP [.ptr (.par 0) 2 0 0,Doc.av w,a.av,r.av] (dL d n) (fun x cs=>x= .bool true∧cs=dL d n):=by
 refine ft hF (by simp) (by simp[ah,AV.aB,bK.av,Doc.av,l9.av]) (by simp[ah,AV.aB,dL]) ?_;unfold mG;simp only[↓aX,mX,seval,kY,dL,bK.av,Doc.av,l9.av,↓dB];exact⟨_,rfl,by simp[AV.aB],by simp[ah,AV.aB],rfl,by simp[ae]⟩
def lv (de dp:Nat):AC:=
(ay [oN 2 0,oN 3 1,jK 4 false] (ay [gd 10 1 2,aE 11 (.call de [(.t 10),(ij 0)]),af 9 11,gQ 12 9 0,gQ 13 9 1,aE 5 (.new [(.bool false),(.str []),.nil0,.nil0]),dT (.store 4 (.t 5) (.t 12)),af 6 13] (ay [gd 15 1 3,aE 16 (.call de [(.t 15),(ij 0)]),af 14 16,gQ 17 14 0,gQ 18 14 1,aE 7 (.new [(.bool false),(.str []),.nil0,.nil0]),dT (.store 4 (.t 7) (.t 17)),af 8 18] (ay [af 19 6,db 20 .eql 19 0,af 21 20,eJ 22 21 8,eP 23 21 (.bin .eql (.t 22) (ij 0)),l7 24 21 23,af 25 24,eP 26 25 (.load (some 4) (.t 5)),eP 27 25 (.load (some 4) (.t 7)),eP 28 25 (.call dp [(.t 26),(.t 27)]),l7 29 25 28,af 4 29] .ret))))
def P8 {aH de dp:Nat} (hF:an P G aH=some (30,[(none,4)],(lv de dp).bare)) (d e:Doc) (hd:cW d=true) (he:cW e=true)
  (h1:aw P G de [Doc.av d,.int .i64 0] (.dM [(e_ d 0).1.av,.int .i64 (e_ d 0).2])) (h2:aw P G de [Doc.av e,.int .i64 0] (.dM [(e_ e 0).1.av,.int .i64 (e_ e 0).2]))
  (hS:aw P G dp [(e_ d 0).1.av,(e_ e 0).1.av] (.bool (GM (e_ d 0).1 (e_ e 0).1))):aw P G aH [Doc.av d,Doc.av e] (.bool (GM d e)):=by
 have tz:∀{d:Doc},cW d=true→∃t:Tree,t.fZ=true∧d=aK t∧e_ d 0=(t,0):=fun {d} h=>by
  obtain⟨t,ht,rfl⟩:=hZ.1 h;exact⟨t,ht,rfl,tq ht (Sub.self 0 (-1) t)⟩
 obtain⟨t,ht,rfl,e1⟩:=tz hd;obtain⟨u,hu,rfl,e2⟩:=tz he;have hq:GM (aK t) (aK u)=GM t u:=by
  rw[aeG,Jc,Jc];constructor
  ·intro h;have:=e1.symm.trans (h▸e2);exact(Prod.mk.inj this).1
  rintro rfl;rfl
 rw[e1] at h1 hS;rw[e2] at h2 hS;refine aM hF (by simp) (by simp[ah,AV.aB,Doc.av]) (by simp[AV.aB]) ?_;unfold lv;simp only[Doc.av,Tree.av] at h1 h2 hS;simp only[↓aX,mX,seval,Doc.av];refine aq h1 ?_;simp only[↓aX,mX,seval];refine aq h2 ?_;simp only[↓aX,mX,seval,show((0:Int)==0)=true from rfl];refine aq hS ?_;simp only[↓aX,mX,seval,hq]
def kn (aA bX:Nat):AC:=
(ay [oN 5 1,oN 6 2,oN 7 3,jK 8 false] (ay [af 9 0,aE 10 (.call aA [(.t 9)]),aE 11 (.call bX [(.t 10)]),af 8 11] .ret))
def Ma {ep aA bX:Nat} (hF:an P G ep=some (12,[(none,8)],(kn aA bX).bare)) (d w:Doc) (n:Int) (a:bK) (r:l9) (hi:cW d=true)
  (hD:ez P G aA [.ptr (.par 0) 2 0 0] (dL d n) (fun x cs=>x=Doc.av d∧cs=dL d n)) (hG:aw P G bX [Doc.av d] (.bool (cW d))) :
  ez P G ep [.ptr (.par 0) 2 0 0,Doc.av w,a.av,r.av] (dL d n) (fun x cs=>x= .bool true∧cs=dL d n):=by
 refine ft hF (by simp) (by simp[ah,AV.aB,bK.av,Doc.av,l9.av]) (by simp[ah,AV.aB,dL]) ?_;unfold kn;simp only[↓aX,mX,seval,kY,dL,bK.av,Doc.av,l9.av];refine a7 (l:= .par 0) hD (by simp[aY,e7,iH]) (by simp[ae,dL]) ?_;rintro x cs ⟨rfl,rfl⟩ _ _ _;simp only[↓aX,mX,seval];refine aq hG ?_;simp only[↓aX,mX,seval,hi,↓dB];exact⟨_,rfl,by simp[AV.aB],by simp[ah,AV.aB,dL],rfl,by simp[ae,dL]⟩
def lx (aI ep:Nat):AC:=
(ay [jK 2 false] (ay [af 6 0,aE 7 (.call aI [(.t 6),(.c (.fn ep [] []))]),af 5 7,gQ 8 5 0,gQ 9 5 1,af 3 8,af 4 9] (ay [af 10 4,af 2 10] .ret)))
def P9 {oK aI ep:Nat} (hF:an P G oK=some (11,[(none,2)],(lx aI ep).bare)) (l:List bK) (hP:qa P G aI ep l) :
  aw P G oK [.list (l.map bK.iv)] (.bool true):=by
 refine aM hF (by simp) (by simp[ah,AV.aB]) (by simp[AV.aB]) ?_;unfold lx;simp only[↓aX,mX,seval];refine lM 7 (fun q=> .dM [.ptr q 2 0 0,.bool true]) hP (by simp[ah,AV.aB]) (fun l=>by simp[NW,Hp.none]) fun q=> ?_;simp only[↓aX,mX,seval]
end

def qb {s:Bs} (h:(dQ s).2=0):(dQ s).1.fZ=true:=by
 unfold dQ sw at h ⊢;split at h
 ·cases h
 rename_i hl;rw[ag8 hl];split at h
 ·rename_i t he;split at h
  ·rename_i hg;simp only[he,hg,adH]
  cases h
 cases h
def Mb {d:Doc} (hd:cW d=true) (l:List Op):cW (eI d l).1=true:=by
 unfold eI;split
 ·simp only;split
  ·rename_i h;exact mc h
  exact hd
 exact hd
def IF {d:Doc} (hd:cW d=true) (ls:List Bs):cW (adl d ls).1=true:=by
 unfold adl;split
 ·exact hd
 split
 ·exact hd
 split
 ·exact Mb hd _
 exact hd
def Tc {d:Doc} (hd:cW d=true) (a:bK):cW (kt d a).1=true:=by
 unfold kt;split
 ·split
  ·split
   ·rename_i h;have hg:=qb h;unfold jJ;rw[adv hg];exact mc hg
   exact hd
  exact hd
 split
 ·exact IF hd _
 split
 ·split<;>exact hd
 exact hd
def Ef {q:Doc×Int} (a:bK) (h:cW q.1=true∧0≤q.2∧q.2≤100):cW (mQ q.1 q.2 a).1.1=true∧0≤(mQ q.1 q.2 a).1.2∧(mQ q.1 q.2 a).1.2≤100:=by
 unfold mQ;split
 ·exact h
 exact⟨Tc h.1 a,by simp only;omega,by simp only;omega⟩
theorem Kc:∀(l:List bK) (q:Doc×Int),(cW q.1=true∧0≤q.2∧q.2≤100)→cW (xn q l).1=true∧0≤(xn q l).2∧(xn q l).2≤100
 |[],q,h=>h
 |a::r,q,h=>Kc r _ (Ef a h)
def l6 (l:List bK) (i:Nat):cW (gF l i).1=true∧0≤(gF l i).2∧(gF l i).2≤100:=Kc _ _ ⟨Ed,by decide,by decide⟩
def Ke (s:Bs):(nz s).1.length≤40:=by
 unfold nz;split
 ·simp
 split
 ·split
  ·rename_i h;simp only[plain,ady,adM] at h;have:=h.2;simp only;omega
  simp
 simp
def Td (s:Bs):er (iq s).1≤2^22:=by
 unfold iq Bx;split
 ·simp[er]
 split
 ·split
  ·rename_i h;have:=Bq h;simp only;omega
  simp[er]
 simp[er]
def Te (s:Bs) (hs:s.length≤2^22):opB (cQ s).1:=by
 have l1:=(nn 32 s).2;have l2:=(nn 32 (cU 32 s).2.1).2;have l3:=(nn 61 (cU 32 (cU 32 s).2.1).2.1).1;have h0:opB wa:=⟨by simp[wa,er],by simp[wa],by simp[wa]⟩;unfold cQ;simp only;split
 ·exact h0
 split
 ·exact h0
 split
 ·exact h0
 split
 ·exact⟨by simp[er],by simp only;omega,by simp⟩
 split
 ·split
  ·split
   ·exact⟨by simp[er],by simp only;omega,by have:=Ke (cU 61 (cU 32 (cU 32 s).2.1).2.1).2.1;simp only;omega⟩
   exact h0
  exact h0
 split
 ·split
  ·exact⟨by simp[er],by simp,by have:=Ke (cU 32 (cU 32 s).2.1).2.1;simp only;omega⟩
  exact h0
 split
 ·exact⟨by simp[er],by simp,by simp⟩
 split
 ·exact⟨Td _,by simp,by simp⟩
 exact h0
def wb {d:Doc} (h:cW d=true):rq d≤38400:=by
 obtain⟨t,ht,rfl⟩:=hZ.1 h;have:=N0 t;have:=qy ht;omega
def Kf {d:Doc} (h:cW d=true):(e_ d 0).1.wt≤19200:=by
 obtain⟨t,ht,rfl⟩:=hZ.1 h;rw[show e_ (aK t) 0=(t,0) from tq ht (Sub.self 0 (-1) t)];exact qy ht
end Go.Am
