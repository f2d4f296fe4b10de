import Derived.Test.YtfinkeaikbmpgaaGreatDoorKC2
import Derived.Test.YtfinkeaikbmpgaaGreatDoorKAm47
import Derived.Test.YtfinkeaikbmpgaaGreatDoorKAm40
import Derived.Test.YtfinkeaikbmpgaaGreatDoorKT8
import Derived.Test.YtfinkeaikbmpgaaGreatDoorKT80
set_option linter.unusedSimpArgs false
set_option linter.unusedVariables false
set_option linter.unnecessarySimpa false
set_option linter.defProp false
/- Changes: what is wrong with one; with all of them. -/
set_option maxRecDepth 20000
namespace Go.Am
open Go Go.RowKit
noncomputable def U5 (d:Doc) (o:Op):Int:=
 if Vo d=true then(if o.kind<1∨10<o.kind then 4 else if o.target<0∨(d.length:Int)≤o.target then 3 else match d[o.target.toNat]? with|some x=>XS x o|none=>3) else 1
section
variable {P:Program} {G:Nat→Option (List IV)}
def Xo (Vd akT:Nat):AC:=
(aM [zzX 2 0,zzX 3 1,gH 4 0] (.seq (aM [gz 5 1 2,aQ 6 (.call Vd [(.t 5)]),sB 7 6] (.cond (.t 7) (aM [gH 4 1] .ret) .skip)) (.seq (.block 0 (aM [ep 9 3 0,fm 10 9,eY 11 .lss 10 1,MR 12 11,oH 13 12 3 0,oG 14 12 13,iR 15 12 (.bin .gtr (.t 14) (jS 10)),sj 16 12 15,MR 8 16] (.cond (.t 8) (aM [gH 4 4] .ret) (aM [ep 18 3 1,fm 19 18,eY 20 .lss 19 0,MR 21 20,oH 22 21 3 1,oG 23 21 22,oH 24 21 2 0,oG 25 21 24,iR 26 21 (.len (.t 25)),iR 27 21 (.bin .geq (.t 23) (.t 26)),sj 28 21 27,MR 17 28] (.cond (.t 17) (aM [gH 4 3] .ret) .skip))))) (.seq (.VL [ep 29 2 0,fm 30 29,ep 31 3 1,fm 32 31,jL 33 30 32 5,gz 34 5 33,gz 35 5 3,aQ 36 (.call akT [(.t 34),(.t 35)]),MR 4 36] [[],[0],[],[2],[1,3],[4],[],[5,6],[7,7,0,1,2,3,4,5,6,7]] [.no,(.rw [(.loc 2)] []),.no,(.rw [(.loc 3)] []),.no,.no,(.rw [(.loc 3)] []),.no,.no]) .ret))))
def abN {ak3 Vd akT:Nat} (hF:aw P G ak3=some (37,[(none,4)],(Xo Vd akT).bare)) (d:Doc) (o:Op) (hG:au P G Vd [Doc.av d] (.bool (Vo d)))
  (hW:∀x:Node,1≤o.kind→o.kind≤10→au P G akT [x.av,o.av] (.int .i64 (XS x o))) :
  au P G ak3 [Doc.av d,o.av] (.int .i64 (U5 d o)):=by
 refine aR hF N7 QH Pv ?_;unfold Xo;simp only[↓aX,mX,seval,Op.av,Doc.av];refine ay hG ?_;unfold U5;cases hd:Vo d with
 |false=>simp only[↓aX,mX,seval,fj];try rfl
 |true=>
 simp only[↓aX,mX,seval,ib,Op.av,Doc.av];cases h1:decide (o.kind<1) with
 |true=>
  simp only[↓aX,mX,seval,h1,Op.av,Doc.av];have:o.kind<1:=by simpa using h1
  simp[this]
 |false=>
 simp only[↓aX,mX,seval,h1,Op.av,Doc.av,Nu];cases h2:decide (10<o.kind) with
 |true=>
  simp only[↓aX,mX,seval,h1,h2,Op.av,Doc.av];have:10<o.kind:=by simpa using h2
  simp[this]
 |false=>
 simp only[↓aX,mX,seval,h1,h2,Op.av,Doc.av];have k1:¬o.kind<1:=by simpa using h1
 have k2:¬10<o.kind:=by simpa using h2
 cases h3:decide (o.target<0) with
 |true=>
  simp only[↓aX,mX,seval,h1,h2,h3,Op.av,Doc.av];have:o.target<0:=by simpa using h3
  simp[k1,k2,this]
 |false=>
 simp only[↓aX,mX,seval,h1,h2,h3,Op.av,Doc.av,OA,bA];have k3:¬o.target<0:=by simpa using h3
 cases h4:decide ((d.length:Int)≤o.target) with
 |true=>
  simp only[↓aX,mX,seval,h1,h2,h3,h4,Op.av,Doc.av];have:(d.length:Int)≤o.target:=by simpa using h4
  simp[k1,k2,k3,this]
 |false=>
 have k4:¬(d.length:Int)≤o.target:=by simpa using h4
 obtain⟨x,hx⟩:∃x,d[o.target.toNat]?=some x:=⟨_,bS tM⟩;have hgd:(d.map Node.iv)[o.target.toNat]?=some x.iv:=by rw[cn,hx];rfl
 have k5:0≤o.target:=tM
 simp only[↓aX,mX,seval,h1,h2,h3,h4,Op.av,Doc.av,k5,hgd,Xx,Node.cJ,Node.cs];refine⟨rfl,jw (hW x tM tM) ?_⟩;simp only[↓aX,mX,seval];simp[k1,k2,k3,k4,hx]
def WB (th:Nat):AC:=
(aM [zzX 2 0,jM 3 false] (aM [gz 4 5 1,gz 5 5 2,aQ 6 (.call th [(.t 4),(.t 5)]),MR 3 6] .ret))
def af1 {H4 th:Nat} (hF:aw P G H4=some (7,[(none,3)],(WB th).bare)) (a b:Op) (hA:au P G th [a.av,b.av] (.bool (eO a b))) :
  au P G H4 [b.av,.lptr a.cs] (.bool (eO a b)):=by
 refine aR hF N7 (by simp[ah,AV.an,Op.av]) Pv ?_;unfold WB;simp only[↓aX,mX,seval,Op.av,Op.cs];refine ay hA ?_;simp only[↓aX,mX,seval]
def abO {α:Type} (p:α→Bool) (l:List α):Int:=match l.findIdx? p with|some k=>(k:Int)|none=> -1
def af2 {α:Type} {p:α→Bool} {xs:List α} {k:Nat} {x:α} (h:xs[k]?=some x) (hx:p x=true) (hb:∀j y,j<k→xs[j]?=some y→p y=false):abO p xs=k:=by
 have:xs.findIdx? p=some k:=by
  rw[MY];obtain⟨hk,e⟩:=bd.1 h;refine⟨hk,by rw[e];exact hx,fun j hj=> ?_⟩;have h2:=hb j xs[j] hj (bS tM);simp[h2]
 rw[abO,this]
def adH {α:Type} {p:α→Bool} {xs:List α} (h:∀x∈xs,p x=false):abO p xs= -1:=by
 have:xs.findIdx? p=none:=Np.2 fun x hx=>by rw[h x hx]
 rw[abO,this]
def aeY {α:Type} {p:α→Bool} {xs:List α}:decide (abO p xs≥0)=xs.any p:=by
 unfold abO;cases h:xs.findIdx? p with
 |none=>
  rw[Np] at h;have:xs.any p=false:=by rw[N6];intro x hx;rw[h x hx];simp
  rw[this];decide
 |some k=>
 rw[MY] at h;obtain⟨hk,e,_⟩:=h;have:xs.any p=true:=O'.2 ⟨_,vI hk,e⟩;rw[this];simp
def VF:AC:=
(aM [gH 4 0] (.seq (aM [MR 6 0,oy 7 6,gH 8 0] (.block 0 (.loop (aM [et 9 .lss 8 7] (.seq (.cond (.t 9) .skip (.exit 0)) (.seq (.block 1 (aM [MR 10 8,MR 5 10] (aM [MR 11 1,MR 12 0,MR 13 5,jL 14 12 13 5,gz 15 5 14,aQ 16 (.fM (.t 11) [(.t 15)])] (.cond (.t 16) (aM [MR 17 5,MR 4 17] .ret) .skip)))) (.cq [eY 18 .add 8 1,MR 8 18]))))))) (aM [aQ 4 (.iC (.c (.int .i64 (-1))))] .ret)))
def abP {akI fc:Nat} {cs:List IV} (hF:aw P G akI=some (19,[(none,4)],VF.bare)) (l:List Op) (hx:l.length≤B) (p:Op→Bool) (hb:fU P fc=true) (hC:∀b∈l,au P G fc [b.av,.lptr cs] (.bool (p b))) :
  au P G akI [.list (l.map Op.iv),.fn fc [] [.lptr cs]] (.int .i64 (abO p l)):=by
 refine aR hF N7 PC Pv ?_;unfold VF;have zo:B=1073741824:=rfl;simp only[↓aX,mX,seval,bA];refine VR (σ:={i:Nat // i≤l.length∧∀j y,j<i→l[j]?=some y→p y=false}) (fun q=>[(0,.list (l.map Op.iv)),(1,.fn fc [] [.lptr cs]),(7,.int .i64 l.length),(8,.int .i64 q.1)]) (fun q=>l.length - q.1) ⟨0,N7⟩ (fun _=>rfl) ?_ ?_
 ·exact⟨by simp only[↓aX,mX,seval],PD⟩
 rintro⟨i,hi,hs⟩;simp only[↓aX,mX,seval,bA];by_cases bI:i<l.length
 ·rw[show decide ((i:Int)<(l.length:Int))=true by simpa using bI];obtain⟨x,D1⟩:∃x,l[i]?=some x:=⟨_,bS bI⟩;have hw:IntKind.i64.wrap ((i:Int)+1)=((i+1:Nat):Int):=wrap64 tM tM;simp only[↓aX,mX,seval,YO,D1,bT,Ys,Op.cJ,Op.cs,yE,Ek,hb];refine ay (hC x (dc D1)) ?_
  try simp only[↓aX,mX,seval]
  refine AU (fun h=> ?_) (fun h=> ?_)
  ·try simp only[↓aX,mX,seval]
   rw[af2 D1 h hs]
  simp only[↓aX,mX,seval,hw];refine⟨⟨i+1,bI,fun j y hj hy=> ?_⟩,Pq,rfl⟩;by_cases e:j=i
  ·rw[e,D1] at hy;cases hy;exact h
  exact hs j y tM hy
 rw[show decide ((i:Int)<(l.length:Int))=false by simpa using bI];simp only[↓aX,mX,seval];rw[adH fun x hx=>by
  obtain⟨j,hj⟩:=yl hx;exact hs j x (by have:=(bd.1 hj).1;omega) hj]
def Vr (akI:Nat):AC:=
(aM [jM 4 false] (aM [MR 5 0,MR 6 1,aQ 7 (.call akI [(.t 5),(.t 6)]),eY 8 .geq 7 0,MR 4 8] .ret))
def acw {hQ akI fc:Nat} {cs:List IV} (hF:aw P G hQ=some (9,[(none,4)],(Vr akI).bare)) (l:List Op) (p:Op→Bool)
  (hI:au P G akI [.list (l.map Op.iv),.fn fc [] [.lptr cs]] (.int .i64 (abO p l))) :
  au P G hQ [.list (l.map Op.iv),.fn fc [] [.lptr cs]] (.bool (l.any p)):=by
 refine aR hF N7 PC Pv ?_;unfold Vr;simp only[↓aX,mX,seval];refine ay hI ?_;simp only[↓aX,mX,seval,aeY]
def WM:List Op→List Op→Bool
 |_,[]=>false
 |pre,a::r=>pre.any (eO a)||WM (pre++[a]) r
noncomputable def VU (d:Doc) (l:List Op):Int:=
 if Vo d=true then(if 20<l.length then 2 else match l.find? (fun o=>U5 d o !=0) with|some o=>U5 d o|none=>if WM [] l then 5 else 0) else 1
def W9 (Vd ak3 H4 hQ:Nat):AC:=
(aM [zzX 2 0,gH 4 0] (.seq (aM [gz 10 1 2,aQ 11 (.call Vd [(.t 10)]),sB 12 11] (.cond (.t 12) (aM [gH 4 1] .ret) .skip)) (.seq (aM [MR 13 1,oy 14 13,eY 15 .gtr 14 20] (.cond (.t 15) (aM [gH 4 2] .ret) .skip)) (.seq (aM [MR 16 1,oy 17 16,gH 18 0] (.block 0 (.loop (aM [et 19 .lss 18 17] (.seq (.cond (.t 19) .skip (.exit 0)) (.seq (.block 1 (aM [jL 20 16 18 5,gz 21 5 20,aQ 6 (.new [(.int .i64 0),(.int .i64 0),.nil0,(.str []),(.str [])]),gg (.store 5 (.t 6) (.t 21))] (aM [gz 22 1 2,gz 23 5 6,aQ 24 (.call ak3 [(.t 22),(.t 23)]),MR 7 24] (aM [MR 25 7,eY 26 .neq 25 0] (.cond (.t 26) (aM [MR 27 7,MR 4 27] .ret) .skip))))) (.cq [eY 28 .add 18 1,MR 18 28]))))))) (.seq (aM [MR 29 1,oy 30 29,gH 31 0] (.block 2 (.loop (aM [et 32 .lss 31 30] (.seq (.cond (.t 32) .skip (.exit 2)) (.seq (.block 3 (aM [MR 33 31,jL 34 29 31 5,gz 35 5 34,aQ 9 (.new [(.int .i64 0),(.int .i64 0),.nil0,(.str []),(.str [])]),MR 8 33,gg (.store 5 (.t 9) (.t 35))] (.gh .vk (aM [MR 36 1,MR 37 8,aQ 38 (.zr (.t 36) none (some (.t 37)) none 5),aQ 39 (.zw H4 [(.t 9)]),aQ 40 (.call hQ [(.t 38),(.t 39)])] (.cond (.t 40) (aM [gH 4 5] .ret) .skip))))) (.cq [eY 41 .add 31 1,MR 31 41]))))))) (aM [gH 4 0] .ret))))))
def ag8 {mg Vd ak3 H4 hQ:Nat} (hF:aw P G mg=some (42,[(none,4)],(W9 Vd ak3 H4 hQ).bare)) (d:Doc) (l:List Op) (hl:l.length≤B) (hG:au P G Vd [Doc.av d] (.bool (Vo d)))
  (hO:∀o∈l,au P G ak3 [Doc.av d,o.av] (.int .i64 (U5 d o)))
  (hC:∀a∈l,∀i,au P G hQ [.list ((l.take i).map Op.iv),.fn H4 [] [.lptr a.cs]] (.bool ((l.take i).any (eO a)))) :
  au P G mg [Doc.av d,.list (l.map Op.iv)] (.int .i64 (VU d l)):=by
 refine aR hF N7 QH Pv ?_;unfold W9;have zo:B=1073741824:=rfl;simp only[↓aX,mX,seval,Op.av,Doc.av];refine ay hG ?_;unfold VU;cases hd:Vo d with
 |false=>simp only[↓aX,mX,seval,fj];try rfl
 |true=>
 simp only[↓aX,mX,seval,ib,Op.av,Doc.av,bA,Nu];cases h1:decide ((20:Int)<(l.length:Int)) with
 |true=>
  simp only[↓aX,mX,seval];have:20<l.length:=by simp at h1;omega
  simp[this]
 |false=>
 simp only[↓aX,mX,seval,bA];have k1:¬20<l.length:=by simp at h1;omega
 rw[cY k1];refine pe (σ:={i:Nat // i≤l.length∧∀o∈l.take i,U5 d o=0}) (fun _=>[.loc 2]) (fun _ _=>false)
  (fun q=>[(1,.list (l.map Op.iv)),(2,.ptr (.loc 2) 1 0 0),(16,.list (l.map Op.iv)),(17,.int .i64 l.length),(18,.int .i64 q.1)])
  (fun q=>[(.loc 2,⟨1,[[.list (d.map Node.iv)]]⟩)]) (fun q=>l.length - q.1) ⟨0,N7⟩ (fun _=>rfl) (fun q=>by simp[ah,AV.an]) ?_ ⟨[],?_⟩ ?_
 ·rintro q r hr cs bV l' kR;simp only[bY] at hr;subst hr;simp only[bY] at bV;subst bV;simp[ah,AV.an] at kR
 ·refine⟨?_,?_,?_,PN,fun l _=>⟨id,fun _=>rfl⟩⟩
  ·intro l' hf hu;exfalso;apply hu;cases l'<;>simp_all[Lb.fresh,ae,Hp.none]
  ·simp[k_,dn,bJ,put,jP]
  simp[tc,dn,ae,dO,bu,bJ]
 rintro⟨i,hi,hs⟩;rw[Cf];simp only[↓aX,mX,seval,cF,bW,bA];by_cases bI:i<l.length
 ·rw[show decide ((i:Int)<(l.length:Int))=true by simpa using bI];obtain⟨o,ho⟩:∃o,l[i]?=some o:=⟨_,bS bI⟩;have hw:IntKind.i64.wrap ((i:Int)+1)=((i+1:Nat):Int):=wrap64 tM tM;have E0:l.take (i+1)=l.take i++[o]:=Vl ho;simp only[↓aX,mX,seval,YO,ho,bT,Ys,Op.cJ,Op.cs];refine ay (hO o (dc ho)) ?_;simp only[↓aX,mX,seval];cases h0:(U5 d o !=0) with
  |true=>
   simp only[↓aX,mX,seval,h0];have hf:l.find? (fun o=>U5 d o !=0)=some o:=by
    rw[pJ];refine⟨h0,l.take i,l.drop (i+1),?_,fun a ha=>by simp[hs a ha]⟩;rw[←drop_eq ho,tO]
   rw[hf]
  |false=>
  simp only[↓aX,mX,seval,h0,hw];refine⟨⟨i+1,bI,fun a ha=> ?_⟩,Pq,[],?_⟩
  ·rw[E0,eR] at ha;rcases ha with ha|ha
   ·exact hs a ha
   simp only[bY] at ha;subst ha;simpa using h0
  refine⟨?_,?_,?_,PN,fun l _=>⟨id,fun _=>rfl⟩⟩
  ·intro l' hf hu;exfalso;apply hu;cases l'<;>simp_all[Lb.fresh,ae,Hp.none]
  ·simp[k_,dn,bJ,put,o9]
  simp[tc,dn,ae,dO,bu,bJ]
 have XV:i=l.length:=tM
 rw[show decide ((i:Int)<(l.length:Int))=false by simpa using bI];have hf:l.find? (fun o=>U5 d o !=0)=none:=by
  rw[N2];intro a ha;rw[XV,va] at hs;simp[hs a ha]
 rw[hf];simp only[↓aX,mX,seval,bA];refine VR (σ:={j:Nat // j≤l.length∧WM [] l=WM (l.take j) (l.drop j)}) (fun q=>[(1,.list (l.map Op.iv)),(29,.list (l.map Op.iv)),(30,.int .i64 l.length),(31,.int .i64 q.1)]) (fun q=>l.length - q.1) ⟨0,N7⟩ (fun _=>by simp[ah,AV.an]) ?_ ?_
 ·refine⟨?_,?_⟩
  ·simp only[↓aX,mX,seval]
  simp[sv,put,o9]
 rintro⟨j,hj,LV⟩;simp only[↓aX,mX,seval,bA];by_cases iG:j<l.length
 ·rw[show decide ((j:Int)<(l.length:Int))=true by simpa using iG];obtain⟨o,ho⟩:∃o,l[j]?=some o:=⟨_,bS iG⟩;have hw:IntKind.i64.wrap ((j:Int)+1)=((j+1:Nat):Int):=wrap64 tM tM;simp only[↓aX,mX,seval,YO,ho,bT,Ys,Op.cJ,Op.cs,Ox];refine⟨_,_,Yv (d:=9) (l:= .loc 9) (sz:=5) (y:=o.iv) (by simp[put]) (by simp[ae];rfl) rfl (agu [o]),?_⟩;have HG:((l.map Op.iv).take j).drop 0=(l.take j).map Op.iv:=by rw[tn,JD]
  have E0:l.take (j+1)=l.take j++[o]:=Vl ho;simp only[↓aX,mX,seval,Op.cJ,Cs,nB,bnd,Ys,bA,hj,eG,bX,A5,zd,HG,Mt];have hc:=hC o (dc ho) j;refine ay hc ?_;have Mx:WM (l.take j) (l.drop j)=((l.take j).any (eO o)||WM (l.take (j+1)) (l.drop (j+1))):=by
   rw[drop_eq ho,E0];rfl
  cases h0:(l.take j).any (eO o) with
  |true=>
   simp only[↓aX,mX,seval];rw[LV,Mx,h0];simp
  |false=>
  simp only[↓aX,mX,seval,hw];refine⟨⟨j+1,iG,by rw[LV,Mx,h0];simp⟩,Pq,rfl⟩
 rw[show decide ((j:Int)<(l.length:Int))=false by simpa using iG];have zk:j=l.length:=tM
 simp only[↓aX,mX,seval];rw[LV,zk];simp[WM]
end

section
variable {S:St} {f:Nat} {args:List AV} {sz:Nat} {xs:List IV} {H:Hp} {k:AV→Hp→Prop} {u:Tw k}
def adI (c:Nat) (h:aa4 S.P S.G f args sz xs) (ha:ah args=[]) (hN:∀l,H (NW c l)= .unused)
  (hk:∀l,k (.sl (NW c l) sz 0 xs.length) (bD H (NW c l) (.live ⟨sz,aB xs⟩))):C7 S f args H k u:=by
 refine WV (lab:=Lb.par) (N:=NW c) h (fZ _ _ ha).symm ⟨fun p r hr=>by simp[aeI] at hr,fun p q hp=>absurd hp Y8⟩ hN (aeH c) (fun l _=> .inr fun p hp=>absurd hp Y8) N7 ?_;rintro X R2 U9 H2 ⟨rfl,rfl⟩ g1 g2 g3 g4 g5 g6;obtain⟨l,hl⟩:∃l,U9 0=NW c l:=by
  rcases g3 0 (Y7.2 rfl) with⟨p,hp,_⟩|h
  ·exact absurd hp Y8
  exact h
 have e:H2=bD H (NW c l) (.live ⟨sz,aB xs⟩):=by
  funext q;by_cases hq:q=NW c l
  ·subst hq;rw[ae,eE rfl,←hl];exact g1.row 0 _ (by simp[adx])
  rw[aq _ _ hq];by_cases wx:∃l',q=NW c l'
  ·obtain⟨l',rfl⟩:=wx;rw[hN l',g6 l' fun p hp=>by rw[Y7.1 hp,hl];exact yd hq]
  exact g4 q (fun p hp=>absurd hp Y8) fun l' e=>wx ⟨l',e⟩
 rw[e];have:=hk l;simpa only[hl] using this
def ac' {F:List Lb} (c:Nat) (h:aa4 S.P S.G f args sz xs) (ha:ah args=[]) (hN:∀l,H (NW c l)= .unused) (hF:Lb.nest (.loc c) 0 1∉F)
  (hk:∀l,k (.sl (NW c l) sz 0 xs.length) (bD H (NW c l) (.live ⟨sz,aB xs⟩))):DX S F f args H k u:=by
 refine⟨fun x H'=>∃l,x= .sl (NW c l) sz 0 xs.length∧H'=bD H (NW c l) (.live ⟨sz,aB xs⟩),?_,⟨_,_,.loc 0,rfl,rfl⟩,?_⟩
 ·exact adI (k:=fun x H'=>∃l,x= .sl (NW c l) sz 0 xs.length∧H'=bD H (NW c l) (.live ⟨sz,aB xs⟩)) (u:= .mk) c h ha hN fun l=>⟨l,rfl,rfl⟩
 rintro x H' ⟨l,rfl,rfl⟩;refine⟨fun q hq=> ?_,hk l⟩;rw[aq];rintro rfl;exact hF hq
def acx {env:Env} (R W:List Lb) (q:Nat) (n c:O) (sz b:Nat) (z:List AV) (k:AV→Hp→Prop):akH S (.rw R W) (some q) (.tU n c sz b z) env H k =
  pK (vg sz b q z (ev env n) (ev env c) H) (fun y H'=>Lb.loc q∈W∧k y H') .mk:=by
 simp[akH,dm,cx,aA,pK,Lb.iQ]
def ac_ {sz b d m:Nat} {z:List AV} (hb:m*b≤140737488355328) (hu:H (.loc d)= .unused) :
  vg sz b d z (.int .i64 (m:Int)) (.int .i64 (m:Int)) H=some (.sl (.loc d) sz 0 m,bD H (.loc d) (.live ⟨sz,List.replicate m z⟩)):=by
 simp[vg,hu,hb]
end
end Go.Am

set_option maxRecDepth 20000
namespace Go.Am
open Go Go.RowKit
def SM {sz b d n:Nat} {l q:Lb} {els:List (List AV)} {cs:List AV} {H:Hp} (hl:H l= .live ⟨sz,els⟩) (hq:H q= .live ⟨sz,[cs]⟩) (ho:AV.oJ cs) (hn:els.length=n) (hb:(n+1)*b≤140737488355328) (h0:0<b)
  (hd:l≠l.app d) (hu:H (l.app d)= .unused):jN sz b d (.sl l sz 0 n) (.sl q sz 0 1) H=some (.sl (l.app d) sz 0 (n+1),bD (bD H l .dead) (l.app d) (.live ⟨sz,els++[cs]⟩)):=by
 subst hn;have hs:al_ sz (.sl q sz 0 1) H=some [cs]:=by simp[al_,hq]
 unfold jN;rw[hs];simp[hl,ho,hb,h0,hd,hu]
def YP (n:Nat):List Int:=List.replicate n 0
def aaQ (n:Nat):aB ((YP n).map xX)=List.replicate n [.int .i64 0]:=by simp[YP,aB,xX,IV.cells,IV.dQ]
def Yg (d:Doc) (i:Nat):Bn:=⟨i,d.take i,YP d.length,YP d.length⟩
def lc (p:Nat):Lb:= .nest (.loc 900) p 3
def P5 {p:Prop} (h:p:=by simp[lc]):p:=h
def QI {p:Prop} (h:p:=by simp[NW,lc]):p:=h
def XT {p q:Nat} (h:lc p=lc q):p=q:=by simpa[lc] using h
def W_ (p n:Nat):lc p≠ .loc n:=P5
def Xg (p n:Nat):Lb.loc n≠lc p:=P5
def acy (p:Nat):(lc p).iQ= .nest (.loc 900) 0 3:=rfl
def aba (p d:Nat):(lc p).app d= .loc d:=rfl
def aeZ (p:Nat):(lc p).fresh=true:=rfl
def aaR (p q:Nat):(lc p=lc q)=(p=q):=propext ⟨XT,fun h=>by rw[h]⟩
def ZG:Nat→Lb
 |0=> .loc 32
 |1=> .loc 1001
 |2=> .loc 26
 |_=> .loc 30
def Yi (i:Nat) (A K:Lb) (p:Nat):Lb:=if p=1 then .loc 55 else if p=4+2*i then A else if p=5+2*i then K else lc p
def ae0 {d:Doc} {i:Nat} {y:Node} {A K:Lb} {H H1:Hp} (hy:d[i]?=some y) (hB:Oi lc (Yg d i) H) (hA:∀p,lc p≠A) (hK:∀p,lc p≠K) (hA5:A≠ .loc 55) (hK5:K≠ .loc 55) (hKA:K≠A)
  (h0:H1 (lc 0)= .live ⟨3,[[.sl (.loc 55) 5 0 (i+1),.sl (lc 2) 1 0 (YP d.length).length,.sl (lc 3) 1 0 (YP d.length).length]]⟩)
  (h1:H1 (.loc 55)= .live ⟨5,(Yg d i).nodes.mapIdx (NI i lc)++[[.bool y.text,.str y.s,.sl A 2 0 y.attrs.length,.int .i64 y.parent,.sl K 1 0 y.kids.length]]⟩)
  (h2:H1 A= .live ⟨2,aB (cD y.attrs)⟩) (h3:H1 K= .live ⟨1,aB (y.kids.map xX)⟩) (h4:∀p,p≠0→p≠1→H1 (lc p)=H (lc p)):Oi (Yi i A K) (Yg d (i+1)) H1:=by
 have bI:i<d.length:=(bd.1 hy).1;have E0:d.take (i+1)=d.take i++[y]:=Vl hy;have hl:(d.take i).length=i:=PJ
 have hX:∀p,p≠1→p≠4+2*i→p≠5+2*i→Yi i A K p=lc p:=fun p a b c=>by simp[Yi,a,b,c]
 have hX4:Yi i A K (4+2*i)=A:=by unfold Yi;rw[cY tM,eE rfl]
 have hX5:Yi i A K (5+2*i)=K:=by unfold Yi;rw[cY tM,cY tM,eE rfl]
 have K0:∀j z,(Yg d i).nodes[j]?=some z→(Yg d (i+1)).nodes[j]?=some z:=fun j z h=>by
  simp only[Yg] at h ⊢;rw[E0,bB (bd.1 h).1];exact h
 have Ht:(Yg d (i+1)).nodes[i]?=some y:=by simp only[Yg];rw[E0,b_ tM,hl];simp
 have hex:∀j,j<i→∃z,(Yg d i).nodes[j]?=some z:=fun j hj=>⟨_,bS (show j<(d.take i).length by omega)⟩;refine Oi.mk' ?_ ?_ ?_ ?_ ?_ ?_ ?_
 ·intro p q hp hq e;have hX1:Yi i A K 1= .loc 55:=rfl;have hc:∀p,p=1∨p=4+2*i∨p=5+2*i∨(p≠1∧p≠4+2*i∧p≠5+2*i):=fun p=>by omega
  rcases hc p with rfl|rfl|rfl|⟨a1,a2,a3⟩<;>rcases hc q with rfl|rfl|rfl|⟨b1,b2,b3⟩
  ·rfl
  ·rw[hX1,hX4] at e;exact absurd e.symm hA5
  ·rw[hX1,hX5] at e;exact absurd e.symm hK5
  ·rw[hX1,hX q b1 b2 b3] at e;exact absurd e.symm (W_ _ _)
  ·rw[hX1,hX4] at e;exact absurd e hA5
  ·rfl
  ·rw[hX4,hX5] at e;exact absurd e.symm hKA
  ·rw[hX4,hX q b1 b2 b3] at e;exact absurd e.symm (hA _)
  ·rw[hX1,hX5] at e;exact absurd e hK5
  ·rw[hX4,hX5] at e;exact absurd e hKA
  ·rfl
  ·rw[hX5,hX q b1 b2 b3] at e;exact absurd e.symm (hK _)
  ·rw[hX1,hX p a1 a2 a3] at e;exact absurd e (W_ _ _)
  ·rw[hX4,hX p a1 a2 a3] at e;exact absurd e (hA _)
  ·rw[hX5,hX p a1 a2 a3] at e;exact absurd e (hK _)
  rw[hX p a1 a2 a3,hX q b1 b2 b3] at e;exact XT e
 ·rw[hX 0 tM tM tM,hX 2 tM tM tM,hX 3 tM tM tM,h0];have:(Yg d (i+1)).nodes.length=i+1:=by simp[Yg];omega
  rw[this];rfl
 ·show H1 (.loc 55)=_;rw[h1];simp only[Slot.live.injEq,Row.mk.injEq,tk];show _=(d.take (i+1)).mapIdx (NI (i+1) (Yi i A K));rw[E0,O0,List.mapIdx_cons,List.mapIdx_nil,hl,bM,Va tM,hX4,hX5];congr 1;refine fe fun j=> ?_;rw[yW,yW];cases hz:(d.take i)[j]? with
  |none=>show Option.map _ ((d.take i)[j]?)=_;rw[hz];rfl
  |some z=>
  have hj:j<i:=by have:=(bd.1 hz).1;omega
  show Option.map _ ((d.take i)[j]?)=_;rw[hz,bT,bT,Va hj,Va (by omega:j<i+1),hX (4+2*j) tM tM tM,hX (5+2*j) tM tM tM]
 ·rw[hX 2 tM tM tM,h4 2 Pr Pr];exact hB.f
 ·rw[hX 3 tM tM tM,h4 3 Pr Pr];exact hB.a
 ·intro j hj;by_cases e:j=i
  ·subst e;rw[hX4,h2,Bn.SK Ht]
  have hj:j<i:=by have:j<i+1:=hj;omega
  obtain⟨z,hz⟩:=hex j hj;rw[hX (4+2*j) tM tM tM,h4 _ tM tM,hB.at' hj hz,Bn.SK (K0 j z hz)]
 intro j hj;by_cases e:j=i
 ·subst e;rw[hX5,h3,Bn.Ru Ht]
 have hj:j<i:=by have:j<i+1:=hj;omega
 obtain⟨z,hz⟩:=hex j hj;rw[hX (5+2*j) tM tM tM,h4 _ tM tM,hB.kd hj hz,Bn.Ru (K0 j z hz)]
section
variable {P:Program} {G:Nat→Option (List IV)}
def VV (mg iJ l4 akQ kX fl mv Vj:Nat):AC:=
(aM [zzX 2 0,aQ 4 (.new [.nil0]),gH 5 0] (.seq (aM [gz 16 1 2,MR 17 1,aQ 18 (.call mg [(.t 16),(.t 17)]),MR 6 18] (aM [MR 19 6,eY 20 .neq 19 0] (.cond (.t 20) (aM [gz 21 1 2,MR 22 6,gg (.store 1 (.t 4) (.t 21)),MR 5 22] .ret) .skip))) (.seq (.VL [ep 23 2 0,fm 24 23,oy 25 24,aQ 26 (.tU (.t 25) (.t 25) 1 8 [(.int .i64 0)]),ep 27 2 0,fm 28 27,oy 29 28,aQ 30 (.tU (.t 29) (.t 29) 1 8 [(.int .i64 0)]),aQ 31 (.sg [.nil0,.nil0,.nil0] [(1,(1,(.t 26))),(2,(1,(.t 30)))]),zzX 32 31,MR 7 32] [[],[0],[1],[2,2],[],[4],[5],[6,6],[3,7],[8],[9,0,1,2,3,4,5,6,7,8,9]] [.no,(.rw [(.loc 2)] []),.no,(.rw [] [(.loc 26)]),.no,(.rw [(.loc 2)] []),.no,(.rw [] [(.loc 30)]),.no,.rw [] [.loc 32],.no]) (.seq (.gh .vk (aM [ep 33 2 0,fm 34 33,oy 35 34,gH 36 0] (.block 0 (.loop (aM [et 37 .lss 36 35] (.seq (.cond (.t 37) .skip (.exit 0)) (.seq (.block 1 (aM [jL 38 34 36 5,gz 39 5 38,aQ 9 (.new [(.bool false),(.str []),.nil0,(.int .i64 0),.nil0]),gg (.store 5 (.t 9) (.t 39))] (.seq (.VL [ep 40 9 2,fm 41 40,aQ 42 (.call iJ [(.t 41)]),ep 43 9 4,fm 44 43,aQ 45 (.call l4 [(.t 44)]),ep 46 9 2,gg (.store 1 (.t 46) (.t 42)),ep 47 9 4,gg (.store 1 (.t 47) (.t 45))] [[],[0],[1],[],[3],[4,2],[0,1,2,3,4],[6,2,5,0,1,2,3,4],[0,1,2,3,4,5,6,7],[8,5,7,0,1,2,3,4,5,6,7]] [.no,.rw [.loc 9] [],(.p_ [(.loc 9)]),.no,.rw [.loc 9] [],(.p_ []),.no,.rw [] [.loc 9],.no,.rw [] [.loc 9]]) (.VL [MR 48 7,MR 49 7,aQ 50 (.dp (.t 49)),ep 51 50 0,fm 52 51,gz 53 5 9,aQ 54 (.gG 5 [(.bool false),(.str []),.nil0,(.int .i64 0),.nil0] [(0,(.t 53))]),aQ 55 (.app (.t 52) (.t 54) 5 80),aQ 56 (.dp (.t 48)),ep 57 56 0,gg (.store 1 (.t 57) (.t 55))] [[],[],[1],[2],[3],[],[5],[4,6],[0,0,1,2,3,4,5,6,7],[8,0,1,2,3,4,5,6,7],[9,7,7,0,1,2,3,4,5,6,7]] [.no,.no,.no,.no,(.rw [(.nest (.loc 900) 0 3)] []),(.rw [(.loc 9)] []),(.rw [] [(.loc 54)]),(.rw [(.loc 54)] [(.nest (.loc 900) 0 3),(.loc 55)]),.no,.no,(.rw [] [(.nest (.loc 900) 0 3)])])))) (.cq [eY 58 .add 36 1,MR 36 58])))))))) (.seq (aM [gH 10 1] (.block 2 (.loop (.seq (aM [MR 59 10,eY 60 .leq 59 5] (.cond (.t 60) .skip (.exit 2))) (.seq (.block 3 (aM [MR 63 1,oy 64 63,gH 65 0] (.block 4 (.loop (aM [et 66 .lss 65 64] (.seq (.cond (.t 66) .skip (.exit 4)) (.seq (.block 5 (aM [jL 67 63 65 5,gz 68 5 67,aQ 12 (.new [(.int .i64 0),(.int .i64 0),.nil0,(.str []),(.str [])]),gg (.store 5 (.t 12) (.t 68))] (.seq (.VL [ep 69 12 0,fm 70 69,ep 71 2 0,fm 72 71,ep 73 12 1,fm 74 73,jL 75 72 74 5,ep 76 75 0,fm 77 76,aQ 78 (.call akQ [(.t 70),(.t 77)]),MR 79 10,et 80 .eql 78 79] [[],[0],[],[2],[],[4],[3,5],[6],[7],[1,8],[],[9,10]] [.no,.rw [.loc 12] [],.no,.rw [.loc 2] [],.no,.rw [.loc 12] [],.no,.no,.no,.no,.no,.no]) (.cond (.t 80) (.cq [MR 81 7,gz 82 5 12,aQ 83 (.call kX [(.t 81),(.t 82)])]) .skip)))) (.cq [eY 84 .add 65 1,MR 65 84])))))))) (.cq [MR 61 10,eY 62 .add 61 1,MR 10 62])))))) (.gh .vk (aM [MR 85 7,aQ 86 (.call fl [(.t 85),(jS 0)]),aQ 13 (.new [(.bool false),(.str []),.nil0,.nil0]),gg (.store 4 (.t 13) (.t 86))] (aM [ep 87 13 3,fm 88 87,aQ 89 (.call mv [(.t 88)]),ep 90 13 3,gg (.store 1 (.t 90) (.t 89))] (aM [gz 92 4 13,aQ 93 (.call Vj [(.t 92)]),MR 91 93,ox 94 91 0,ox 95 91 1,aQ 14 (.new [.nil0]),gg (.store 1 (.t 14) (.t 94)),MR 15 95] (.seq (aM [MR 96 15,eY 97 .neq 96 0] (.cond (.t 97) (aM [gz 98 1 2,gg (.store 1 (.t 4) (.t 98)),gH 5 2] .ret) .skip)) (aM [gz 99 1 14,gg (.store 1 (.t 4) (.t 99)),gH 5 0] .ret)))))))))))
def af3 (d:Doc) (l:List Op) (i:Nat):List (Nat×AV):=
 [(1,.list (l.map Op.iv)),(2,.ptr (.loc 2) 1 0 0),(4,.ptr (.loc 4) 1 0 0),(7,.ptr (lc 0) 3 0 0),(34,.list (d.map Node.iv)),(35,.int .i64 d.length),(36,.int .i64 i)]
def XP (d:Doc):List (Lb×Row):=[(.loc 2,⟨1,[[.list (d.map Node.iv)]]⟩),(.loc 4,⟨1,[[.nil0]]⟩)]
def Qs {p:Prop} (h:p:=by simp[ie,XP,kl,ae]):p:=h
theorem Sm {env:Env} {f:AV→AV}:∀{ps:List (Nat×AV)},(∀q∈ps,q.2=f (env q.1))→∀n,o9 ps n= .any∨o9 ps n=f (env n)
 |[],_,n=> .inl rfl
 |(m,x)::r,h,n=>by
  rw[xK];by_cases e:n=m
  ·subst e;right;rw[s9,eE rfl];exact h (n,x) N7
  rw[s9,cY e];exact Sm (fun q hq=>h q (by simp[hq])) n
def US:Lb→Option Nat
 | .nest (.loc c) p k=>if c=900∧k=3 then some p else none
 |_=>none
def Zn (p:Nat):US (lc p)=some p:=by simp[US,lc]
def ae1 {l:Lb} {p:Nat} (h:US l=some p):l=lc p:=by
 unfold US at h;split at h
 ·split at h
  ·rename_i hc;cases h;obtain⟨rfl,rfl⟩:=hc;rfl
  cases h
 cases h
def UT (b:Bn) (p:Nat):Option (Nat×List IV):=
 if p=2 then some (1,b.fs.map xX) else if p=3 then some (1,b.az.map xX)
 else if 4≤p∧p<4+2*b.n0 then(if p%2=0 then some (2,cD (b.at ((p - 4)/2))) else some (1,(b.kd ((p - 5)/2)).map xX)) else none
def X1 (b:Bn) (l:Lb):Option (Nat×List IV):=(US l).bind (UT b)
def aiO (b:Bn) {i:Nat} (h:i<b.n0):X1 b (lc (4+2*i))=some (2,cD (b.at i)):=by
 unfold X1;rw[Zn,eQ];unfold UT;rw[cY tM,cY tM,eE tM,eE tM];rw[show(4+2*i - 4)/2=i by omega]
def aiP (b:Bn) {i:Nat} (h:i<b.n0):X1 b (lc (5+2*i))=some (1,(b.kd i).map xX):=by
 unfold X1;rw[Zn,eQ];unfold UT;rw[cY tM,cY tM,eE tM,cY tM];rw[show(5+2*i - 5)/2=i by omega]
def aiQ (b:Bn):X1 b (lc 2)=some (1,b.fs.map xX):=by unfold X1;rw[Zn];rfl
def ah5 (b:Bn):X1 b (lc 3)=some (1,b.az.map xX):=by unfold X1;rw[Zn];rfl
def aiR (b:Bn):X1 b (lc 0)=none:=by unfold X1;rw[Zn];rfl
def ah6 (b:Bn):X1 b (lc 1)=none:=by unfold X1;rw[Zn];rfl
def acz (b:Bn) (n:Nat):X1 b (.loc n)=none:=rfl
def ah7 {b:Bn} {H:Hp} (hB:Oi lc b H) (hn:b.n0≤b.nodes.length) (l:Lb) (sz:Nat) (xs:List IV) (h:X1 b l=some (sz,xs)):H l= .live ⟨sz,aB xs⟩∧l.fresh=true∧Flat xs:=by
 unfold X1 at h;obtain⟨p,hp,h'⟩:=dJ.1 h;obtain rfl:=ae1 hp;clear h;have h:=h';clear h';refine⟨?_,rfl,?_⟩
 ·unfold UT at h;split at h
  ·rename_i e;subst e;cases h;exact hB.f
  split at h
  ·rename_i e;subst e;cases h;exact hB.a
  split at h
  ·rename_i hc;obtain⟨i,hi,e⟩:=Oi.lists hB hc.1 hc.2;obtain⟨x,hx⟩:∃x,b.nodes[i]?=some x:=⟨_,bS tM⟩;rcases e with rfl|rfl
   ·rw[eE tM,show(4+2*i - 4)/2=i by omega] at h;cases h;rw[Bn.SK hx];exact hB.at' hi hx
   rw[cY tM,show(5+2*i - 5)/2=i by omega] at h;cases h;rw[Bn.Ru hx];exact hB.kd hi hx
  cases h
 unfold UT at h;split at h
 ·cases h;exact XD _
 split at h
 ·cases h;exact XD _
 split at h
 ·split at h
  ·cases h;exact nW _
  cases h;exact XD _
 cases h
def X2 (d:Doc) (l:Lb):Option (Nat×List IV):=if l=lc 1 then some (5,d.map Node.iv) else none
def adJ (b:Bn) (H:Hp):Hp:=bD (Pz (X2 b.nodes) (Pz (X1 b) H)) (lc 0) .dead
def Zc {S:St} {env:Env} {b:Bn} {H:Hp} {c:List IV} (hB:Oi lc b H) (hn:b.n0≤b.nodes.length) (h7:env 7= .ptr (lc 0) 3 0 0) (h2:env 2= .ptr (.loc 2) 1 0 0) (h4:env 4= .ptr (.loc 4) 1 0 0)
  (a2:H (.loc 2)= .live ⟨1,[[.list c]]⟩) (a4:H (.loc 4)= .live ⟨1,[[.nil0]]⟩) (al:∀n,n≠2→n≠4→H (.loc n)= .unused) :
  nQ S env H (put (o9 [(7,.ptr (lc 0) 3 0 0),(2,.ptr (.loc 2) 1 0 0),(4,.ptr (.loc 4) 1 0 0)]) 7 (XO b.nodes b.fs b.az)) (adJ b H)∧adJ b H (.loc 2)= .live ⟨1,[[.list c]]⟩∧adJ b H (.loc 4)= .live ⟨1,[[.nil0]]⟩∧∀n,n≠2→n≠4→adJ b H (.loc n)= .unused:=by
 have w1:nQ S env H (o9 [(7,.ptr (lc 0) 3 0 0),(2,.ptr (.loc 2) 1 0 0),(4,.ptr (.loc 4) 1 0 0)]) (Pz (X1 b) H):=Rz (X1 b) (ah7 hB hn) (Sm (by simp[h7,h2,h4,Py]));have n1:Pz (X1 b) H (lc 1)= .live ⟨5,aB (b.nodes.map Node.iv)⟩:=by
  rw[PB (ah6 b) hB.n];simp only[Slot.live.injEq,Row.mk.injEq,tk];refine fe fun i=> ?_;simp only[cn,yW,aB,Option.map_map];cases hx:b.nodes[i]? with
  |none=>rfl
  |some x=>
  simp only[bT,di,Function.comp];by_cases hi:i<b.n0
  ·rw[Va hi];simp only[Ol,Py,aiO b hi,aiP b hi,Bn.SK hx,Bn.Ru hx,bp,bA,bM,eM,A5,ku,tn];rw[eN (by rw[bp];exact eM _),eN (by rw[bA];exact eM _)];rfl
  rw[aaa tM];rfl
 have n0:Pz (X1 b) H (lc 0)= .live ⟨3,[[.sl (lc 1) 5 0 b.nodes.length,.list (b.fs.map xX),.list (b.az.map xX)]]⟩:=by
  rw[PB (aiR b) hB.s];simp only[o2,D7,Ol,Py,ah6,aiQ,ah5,bA,bM,eM,A5,ku,tn];rw[eN (by rw[bA];exact eM _),eN (by rw[bA];exact eM _)]
 have hX2:∀l sz xs,X2 b.nodes l=some (sz,xs)→Pz (X1 b) H l= .live ⟨sz,aB xs⟩∧l.fresh=true∧Flat xs:=by
  intro l sz xs h;unfold X2 at h;split at h
  ·rename_i e;subst e;cases h;exact⟨n1,rfl,acH _⟩
  cases h
 have w2:nQ S (o9 [(7,.ptr (lc 0) 3 0 0),(2,.ptr (.loc 2) 1 0 0),(4,.ptr (.loc 4) 1 0 0)]) (Pz (X1 b) H) (o9 [(7,.ptr (lc 0) 3 0 0),(2,.ptr (.loc 2) 1 0 0),(4,.ptr (.loc 4) 1 0 0)]) (Pz (X2 b.nodes) (Pz (X1 b) H)):=
  Rz (X2 b.nodes) hX2 (Sm (by simp[o9,put,Py]))
 have m0:Pz (X2 b.nodes) (Pz (X1 b) H) (lc 0)= .live ⟨3,aB [.agg [.list (b.nodes.map Node.iv),.list (b.fs.map xX),.list (b.az.map xX)]]⟩:=by
  rw[PB (by simp[X2,aaR]) n0];simp only[o2,D7,Ol,Py,X2,ku,bA,bM,eM,A5,tn];rw[eN (by rw[bA];exact eM _)];rfl
 have w3:nQ S (o9 [(7,.ptr (lc 0) 3 0 0),(2,.ptr (.loc 2) 1 0 0),(4,.ptr (.loc 4) 1 0 0)]) (Pz (X2 b.nodes) (Pz (X1 b) H)) _ _:=Yv (d:=7) rfl m0 rfl (by
  intro y hy z hz cs;simp only[bY] at hy;subst hy;simp only[IV.cells,dU,e7,kt] at hz;rcases hz with rfl|rfl|rfl<;>simp)
 have aiS:∀n,H (.loc n)= .unused→bD (Pz (X2 b.nodes) (Pz (X1 b) H)) (lc 0) .dead (.loc n)= .unused:=fun n h=>by
  rw[aq _ _ (Xg _ _)];simp[Pz,X2,Xg,acz,h]
 unfold adJ;refine⟨(w1.trans w2).trans w3,?_,?_,fun n q1 q2=>aiS n (al n q1 q2)⟩
 ·rw[aq _ _ (Xg _ _)];simp[Pz,X2,Xg,acz,a2,Ol,Py]
 rw[aq _ _ (Xg _ _)];simp[Pz,X2,Xg,acz,a4,Ol,Py]
def abQ {b:Bn} {lab:Nat→Lb} {env:Env} {H:Hp} {ps:List (Nat×AV)} {d:Doc} (hB:Oi lab b H) (hl:∀p,p<4+2*b.n0→(lab p).fresh=true∧lab p≠ .loc 2∧lab p≠ .loc 4) (hE:∀l:Lb,l.entry=true→H l= .unused)
  (a2:H (.loc 2)= .live ⟨1,[[.list (d.map Node.iv)]]⟩) (a4:H (.loc 4)= .live ⟨1,[[.nil0]]⟩)
  (he:PM lc lab (Ut b) [] (lc 0)=lab 0→PM lc lab (Ut b) [] (.loc 2)= .loc 2→PM lc lab (Ut b) [] (.loc 4)= .loc 4→k_ (PM lc lab (Ut b) []) env ps) :
  WH lc (Ut b) [.loc 2,.loc 4] (fun _=>false) ps (XP d) env H lab []:=by
 refine⟨hB,?_,he (On (fun p1 p2 _ _ e=>XT e) (OO.2 tM)) (OE P5) (OE P5),?_,PN,?_,PZ,?_⟩
 ·intro l' h1 hu;exact absurd (hE l' h1) hu
 ·intro z hz;simp only[XP,dU,e7,kt] at hz;rcases hz with rfl|rfl<;>simp[dn,dO,bu,bJ,a2,a4]
 ·intro l' kR p' BT;have:=hl p' (OO.1 BT);simp only[dU,e7,kt] at kR;rcases kR with rfl|rfl
  ·exact this.2.1
  exact this.2.2
 intro p' BT;exact⟨fun _=>(hl p' (OO.1 BT)).1,fun h=>by simp[lc,Lb.entry] at h⟩
def aaf (l:List Op) (p:Nat):List (Nat×AV):=[(1,.list (l.map Op.iv)),(2,.ptr (.loc 2) 1 0 0),(4,.ptr (.loc 4) 1 0 0),(7,.ptr (lc 0) 3 0 0),(10,.int .i64 p)]
def adK (l:List Op) (p i:Nat):List (Nat×AV):=(63,.list (l.map Op.iv))::(64,.int .i64 l.length)::(65,.int .i64 i)::aaf l p
def ada {b:Bn} {d:Doc} (H0:Hp) (EY:H0=Lw lc (Ut b) (ie (fun _=>false) (XP d))):Oi lc b H0∧H0 (.loc 2)= .live ⟨1,[[.list (d.map Node.iv)]]⟩∧H0 (.loc 4)= .live ⟨1,[[.nil0]]⟩ ∧
  (∀l':Lb,l'.entry=true→H0 l'= .unused)∧(∀c l',H0 (NW c l')= .unused)∧(∀n,n≠2→n≠4→H0 (.loc n)= .unused):=by
 have hO:∀l':Lb,(∀p',lc p'≠l')→H0 l'=ie (fun _=>false) (XP d) l':=fun l' hl=>by rw[EY];exact Qa _ fun p' _=>hl p'
 have hO2:∀l':Lb,(∀p',lc p'≠l')→l'≠ .loc 2→l'≠ .loc 4→H0 l'= .unused:=fun l' h1 h2 h3=>(hO l' h1).trans (by simp[ie,XP,kl,ae,h2,h3,Hp.none]);refine⟨by rw[EY];exact Ed.R6 (fun p1 p2 _ _ e=>XT e) _,(hO _ P5).trans Qs,(hO _ P5).trans Qs,?_,?_,?_⟩
 ·exact fun l' he=>hO2 l' (by intro p' e;subst e;simp[lc,Lb.entry] at he) (by rintro rfl;simp[Lb.entry] at he) (by rintro rfl;simp[Lb.entry] at he)
 ·exact fun c l'=>hO2 _ (by simp[lc,NW]) PW PW
 exact fun n h1 h2=>hO2 _ P5 (by simpa using h1) (by simpa using h2)
def ae2 {akN mg iJ l4 akQ kX fl mv Vj:Nat} (hF:aw P G akN=some (100,[((some (some 1)),4),(none,5)],(VV mg iJ l4 akQ kX fl mv Vj).bare)) (d:Doc) (l:List Op) (x:Tree) (bt:Nat→Nat→Bn)
  (Lq:d.length≤2^20) (hl:l.length≤B) (adL:au P G mg [Doc.av d,.list (l.map Op.iv)] (.int .i64 (VU d l))) (h0:VU d l=0)
  (hCA:∀xs:List Attr,xs.length≤B→aa4 P G iJ [.list (cD xs)] 2 (cD xs)) (hCI:∀xs:List Int,xs.length≤B→aa4 P G l4 [.list (xs.map xX)] 1 (xs.map xX))
  (BY:∀y∈d,y.attrs.length≤B∧y.kids.length≤B) (oK:bt 1 0=Yg d d.length) (hbn:∀p i,(bt p i).n0=d.length) (hbt:∀p,bt (p+1) 0=bt p l.length) (J2:d.length≤(bt 6 0).nodes.length)
  (hph:∀o∈l,∃y:Node,0≤o.target∧d[o.target.toNat]?=some y∧au P G akQ [.int .i64 o.kind,.bool y.text] (.int .i64 (WL o.kind y.text)))
  (MF:∀(p i:Nat) o y,l[i]?=some o→d[o.target.toNat]?=some y→WL o.kind y.text≠(p:Int)→bt p (i+1)=bt p i)
  (hdo:∀(p i:Nat) o y,l[i]?=some o→d[o.target.toNat]?=some y→WL o.kind y.text=(p:Int)→Jg P G kX [.ptr (.par 0) 3 0 0,o.av] (Ut (bt p i)) [0,2,3] fun X R2=>X=(fun _=> .gf [])∧R2=Ut (bt p (i+1)))
  (hT:au P G fl [XO (bt 6 0).nodes (bt 6 0).fs (bt 6 0).az,.int .i64 0] x.av) (hJ:au P G mv [.list (dq x.kids)] (.list (dq (Wf x.kids))))
  (mk:Doc×Int) (hM:au P G Vj [(Tree.mk x.text x.s x.attrs (Wf x.kids)).av] (.gf [Doc.av mk.1,.int .i64 mk.2])) :
  au P G akN [Doc.av d,.list (l.map Op.iv)] (if mk.2=0 then .gf [Doc.av mk.1,.int .i64 0] else .gf [Doc.av d,.int .i64 2]):=by
 refine aR hF N7 P9 (by split<;>simp[AV.an,ah,Doc.av]) ?_;have zo:B=1073741824:=rfl;have G4:(2:Nat)^20=1048576:=Pr
 unfold VV;simp only[↓aX,mX,seval,Doc.av];refine ay adL ?_;simp only[↓aX,mX,seval,h0,Int.reduceBNe,Doc.av,bA,acx];refine⟨rfl,?_⟩;rw[ac_ tM PU];simp only[↓aX,mX,seval,bA,acx];rw[ac_ tM PU];simp only[↓aX,mX,seval,bA,acx,Ox];refine⟨_,_,Pp (q:= .loc 32) (N:= .loc 1001) (i:=0) (j:=0) (sz:=5) (sq:=3) (els:=[[.nil0,.sl (.loc 26) 1 0 d.length,.sl (.loc 30) 1 0 d.length]]) PE rfl rfl PU Pr,?_⟩;simp only[↓aX,mX,seval,bA];refine SJ (σ:={i:Nat // i≤d.length}) lc (fun q=>Ut (Yg d q.1)) [.loc 2,.loc 4] (fun _=>false) (fun q=>af3 d l q.1) (fun _=>XP d) (fun q=>d.length - q.1) ⟨0,zd _⟩
  (fun q p1 p2 _ _ e=>XT e) (fun _=>rfl) P5 ?_ ?_ ?_ ?_
 ·intro q l' kR;simp[ah,AV.an,af3] at kR;rcases kR with rfl|rfl|rfl
  ·simp
  ·simp
  right;exact⟨0,OO.2 tM,rfl⟩
 ·intro q z hz cs bV l' kR;simp only[XP,dU,e7,kt] at hz;rcases hz with rfl|rfl<;>(simp only[bY] at bV;subst bV;simp[ah,AV.an] at kR)
 ·refine⟨ZG,[],?_⟩;refine⟨?_,?_,?_,?_,PN,?_,PZ,?_⟩
  ·refine Oi.mk' ?_ ?_ ?_ ?_ ?_ ?_ ?_
   ·intro p q hp hq e;have hp:p<4:=(by simpa[Yg] using hp);have hq:q<4:=by simpa[Yg] using hq
    match p,hp,q,hq with
    |0,_,0,_|1,_,1,_|2,_,2,_|3,_,3,_=>rfl
    |0,_,1,_|0,_,2,_|0,_,3,_|1,_,0,_|1,_,2,_|1,_,3,_|2,_,0,_|2,_,1,_|2,_,3,_|3,_,0,_|3,_,1,_|3,_,2,_=>simp[ZG] at e
   ·simp[ZG,ae,Yg,YP]
   ·simp[ZG,ae,Yg]
   ·simp[ZG,ae,Yg,aaQ]
   ·simp[ZG,ae,Yg,aaQ]
   ·intro j hj;simp[Yg] at hj
   intro j hj;simp[Yg] at hj
  ·intro l' he hu;exfalso;apply hu;cases l'<;>simp_all[Lb.entry,ae,Hp.none]
  ·have r0:PM lc ZG (Ut (Yg d 0)) [] (lc 0)=ZG 0:=On (fun p1 p2 _ _ e=>XT e) (OO.2 tM);have r2:PM lc ZG (Ut (Yg d 0)) [] (.loc 2)= .loc 2:=OE P5;have r4:PM lc ZG (Ut (Yg d 0)) [] (.loc 4)= .loc 4:=OE P5;simp[af3,k_,bJ,put,jP,r0,r2,r4];simp[ZG]
  ·intro z hz;simp only[XP,dU,e7,kt] at hz;rcases hz with rfl|rfl<;>simp[dn,ae,dO,bu,bJ]
  ·intro l' kR p' BT;have BT:p'<4:=(by simpa[Yg] using OO.1 BT);simp only[dU,e7,kt] at kR;rcases kR with rfl|rfl<;>(simp only[dn];match p',BT with|0,_|1,_|2,_|3,_=>simp[ZG])
  intro p' BT;have BT:p'<4:=by simpa[Yg] using OO.1 BT
  refine⟨fun _=> ?_,fun h=>by simp[lc,Lb.entry] at h⟩
  match p',BT with|0,_|1,_|2,_|3,_=>rfl
 rintro⟨i,hi⟩;obtain⟨H0,EY⟩:∃H0,H0=Lw lc (Ut (Yg d i)) (ie (fun _=>false) (XP d)):=⟨_,rfl⟩;simp only;rw[←EY];have hB:Oi lc (Yg d i) H0:=by rw[EY];exact Ed.R6 (fun p1 p2 _ _ e=>XT e) _
 have hO:∀l':Lb,(∀p',lc p'≠l')→H0 l'=ie (fun _=>false) (XP d) l':=fun l' hl=>by rw[EY];exact Qa _ fun p' _=>hl p'
 have hO2:∀l':Lb,(∀p',lc p'≠l')→l'≠ .loc 2→l'≠ .loc 4→H0 l'= .unused:=fun l' h1 h2 h3=>(hO l' h1).trans (by simp[ie,XP,kl,ae,h2,h3,Hp.none]);have a2:H0 (.loc 2)= .live ⟨1,[[.list (d.map Node.iv)]]⟩:=(hO _ P5).trans Qs;have a4:H0 (.loc 4)= .live ⟨1,[[.nil0]]⟩:=(hO _ P5).trans Qs;have hE:∀l':Lb,l'.entry=true→H0 l'= .unused:=fun l' he=>hO2 l' (by intro p' e;subst e;simp[lc,Lb.entry] at he) (by rintro rfl;simp[Lb.entry] at he) (by rintro rfl;simp[Lb.entry] at he);have aN:∀c l',H0 (NW c l')= .unused:=fun c l'=>hO2 _ (by simp[lc,NW]) PW PW;have al:∀n,n≠2→n≠4→H0 (.loc n)= .unused:=fun n h1 h2=>hO2 _ P5 (by simpa using h1) (by simpa using h2);clear hO hO2 EY;have hs:H0 (lc 0)= .live ⟨3,[[.sl (lc 1) 5 0 (Yg d i).nodes.length,.sl (lc 2) 1 0 (YP d.length).length,.sl (lc 3) 1 0 (YP d.length).length]]⟩:=hB.s;have F2:H0 (lc 1)= .live ⟨5,(Yg d i).nodes.mapIdx (NI i lc)⟩:=hB.n;have I9:(Yg d i).nodes.length=i:=by simp[Yg];omega
 rw[I9] at hs;simp only[↓aX,mX,seval,af3];refine AU (fun h=> ?_) (fun h=> ?_)
 ·have bI:i<d.length:=by simpa using h
  obtain⟨y,hy⟩:∃y,d[i]?=some y:=⟨_,bS bI⟩;have hw:IntKind.i64.wrap ((i:Int)+1)=((i+1:Nat):Int):=wrap64 tM tM;have hgd:(d.map Node.iv)[i]?=some y.iv:=by rw[cn,hy];rfl
  obtain⟨hya,FP⟩:=BY y (dc hy);simp only[↓aX,mX,seval,hgd,Xx,Node.cJ,Node.cs,al 9 Pr Pr];refine⟨rfl,?_⟩;refine ac' 901 (hCA y.attrs hya) PC (fun l'=>by rw[aq _ _ PW,aq _ _ PW];exact aN _ _) N7 fun l1=> ?_;have nA:∀n,NW 901 l1≠ .loc n:=PW
  have nA2:∀p,lc p≠NW 901 l1:=QI
  have uA:H0 (NW 901 l1)= .unused:=aN _ _;have fA:(NW 901 l1).fresh=true:=rfl;have eA:(NW 901 l1).entry=false:=rfl;have hAK:∀l2,NW 902 l2≠NW 901 l1:=PW
  generalize NW 901 l1=A at *;have nA':∀n,Lb.loc n≠A:=fun n=>yd (nA n);simp only[↓aX,mX,seval,nA',bp];refine ac' 902 (hCI y.kids FP) PC (fun l'=>by rw[aq _ _ (hAK l'),aq _ _ PW,aq _ _ PW];exact aN _ _) N7 fun l2=> ?_;have nK:∀n,NW 902 l2≠ .loc n:=PW
  have nK2:∀p,lc p≠NW 902 l2:=QI
  have uK:H0 (NW 902 l2)= .unused:=aN _ _;have fK:(NW 902 l2).fresh=true:=rfl;have eK:(NW 902 l2).entry=false:=rfl;have hAK:=hAK l2;generalize NW 902 l2=Kd at *;have nK':∀n,Lb.loc n≠Kd:=fun n=>yd (nK n);have ae3:=yd hAK;simp only[↓aX,mX,seval,nA',nK',bA,ae3];refine⟨rfl,?_⟩;simp only[↓aX,mX,seval,W_,Xg,nA2,nK2,hs,F2,acy,aba,nA',nK',ae3,aaR];have u54:=al 54 Pr Pr;have u55:=al 55 Pr Pr;rw[aaV (sz:=5) (d:=54) (cs:=[.bool y.text,.str y.s,.sl A 2 0 y.attrs.length,.int .i64 y.parent,.sl Kd 1 0 y.kids.length]) Qv (by simp[ae,nA',nK',u54]) rfl Pr];simp only[↓aX,mX,seval,W_,Xg,nA2,nK2,hs,F2,acy,aba,nA',nK',ae3,aaR];rw[SM (l:=lc 1) (q:= .loc 54) (d:=55) (els:=(Yg d i).nodes.mapIdx (NI i lc)) (cs:=[.bool y.text,.str y.s,.sl A 2 0 y.attrs.length,.int .i64 y.parent,.sl Kd 1 0 y.kids.length]) (by simp[ae,W_,nA2,nK2,F2]) PE (by simp[AV.oJ,AV.one]) (by rw[pz,I9]) tM Pr (by simp[lc];rintro⟨⟩) (by simp[aba,ae,nA',nK',u55])];simp only[↓aX,mX,seval,W_,Xg,nA2,nK2,hs,F2,acy,aba,nA',nK',ae3,aaR,aeZ,hw,or_true,true_or];refine⟨by rintro l' (rfl|rfl)<;>simp[Lb.iQ,lc],?_⟩;refine⟨⟨i+1,bI⟩,Pq,Yi i A Kd,[],?_⟩;have hX0:Yi i A Kd 0=lc 0:=by unfold Yi;rw[cY tM,cY tM,cY tM]
  have r0:PM lc (Yi i A Kd) (Ut (Yg d (i+1))) [] (lc 0)=lc 0:=(On (fun p1 p2 _ _ e=>XT e) (OO.2 tM)).trans hX0;have r2:PM lc (Yi i A Kd) (Ut (Yg d (i+1))) [] (.loc 2)= .loc 2:=OE P5;have r4:PM lc (Yi i A Kd) (Ut (Yg d (i+1))) [] (.loc 4)= .loc 4:=OE P5;have hXl:∀p n,n≠55→Yi i A Kd p≠ .loc n:=by
   intro p n hn;unfold Yi;split
   ·simpa using yd hn
   split
   ·exact nA n
   split
   ·exact nK n
   exact W_ _ _
  refine⟨?_,?_,?_,?_,PN,?_,PZ,?_⟩
  ·refine ae0 hy hB nA2 nK2 (nA 55) (nK 55) hAK ?_ ?_ ?_ ?_ ?_
   ·simp[ae,aaR]
   ·simp[ae,Xg]
   ·simp[ae,yd (nA2 _),nA,ae3]
   ·simp[ae,yd (nK2 _),nK]
   intro p g1 g2;simp[ae,aaR,g1,g2,W_,nA2,nK2]
  ·intro l' he hu;exfalso;apply hu;have e1:∀p,l'≠lc p:=(by rintro p rfl;simp[lc,Lb.entry] at he);have e2:∀n,l'≠ .loc n:=(by rintro p rfl;simp[Lb.entry] at he);have e3:l'≠A:=(by rintro rfl;rw[eA] at he;cases he);have e4:l'≠Kd:=(by rintro rfl;rw[eK] at he;cases he);simp[ae,e1,e2,e3,e4,hE l' he]
  ·simp[k_,bJ,put,o9,r0,r2,r4]
  ·intro z hz;simp only[XP,dU,e7,kt] at hz;rcases hz with rfl|rfl<;>simp[dn,ae,dO,bu,bJ,Xg,nA',nK',a2,a4]
  ·intro l' kR p' BT;simp only[dU,e7,kt] at kR;rcases kR with rfl|rfl
   ·exact hXl _ _ Pr
   exact hXl _ _ Pr
  intro p' BT;refine⟨fun _=> ?_,fun h=>by simp[lc,Lb.entry] at h⟩;unfold Yi;split
  ·rfl
  split
  ·exact fA
  split
  ·exact fK
  rfl
 have he:i=d.length:=by simp at h;omega
 clear hs F2 I9 al aN;subst he;simp only[↓aX,mX,seval];have af4:∀b:Bn,∀p,p<4+2*b.n0→(lc p).fresh=true∧lc p≠ .loc 2∧lc p≠ .loc 4:=fun b p _=>⟨rfl,P5,P5⟩;refine SJ (σ:={p:Nat // 1≤p∧p≤6}) lc (fun q=>Ut (bt q.1 0)) [.loc 2,.loc 4] (fun _=>false) (fun q=>aaf l q.1) (fun _=>XP d) (fun q=>6 - q.1) ⟨1,tM,tM⟩
  (fun q p1 p2 _ _ e=>XT e) (fun _=>rfl) P5 ?_ ?_ ?_ ?_
 ·intro q l' kR;simp[ah,AV.an,aaf] at kR;rcases kR with rfl|rfl|rfl
  ·simp
  ·simp
  right;exact⟨0,OO.2 tM,rfl⟩
 ·intro q z hz cs bV l' kR;simp only[XP,dU,e7,kt] at hz;rcases hz with rfl|rfl<;>(simp only[bY] at bV;subst bV;simp[ah,AV.an] at kR)
 ·refine⟨lc,[],?_⟩;refine abQ (by simp only[oK];exact hB) (af4 _) hE a2 a4 fun r0 r2 r4=> ?_;simp[aaf,k_,bJ,put,o9,r0,r2,r4]
 rintro⟨p,zQ,hp6⟩;obtain⟨H1,hH1⟩:∃H1,H1=Lw lc (Ut (bt p 0)) (ie (fun _=>false) (XP d)):=⟨_,rfl⟩;simp only;rw[←hH1];obtain⟨L9,b2,b4,bE,bN,bl⟩:=ada H1 hH1;clear hH1;simp only[↓aX,mX,seval,aaf];refine AU (fun h=> ?_) (fun h=> ?_)
 ·have hp5:p≤5:=by simp at h;omega
  simp only[↓aX,mX,seval,bA];refine SJ (σ:={i:Nat // i≤l.length}) lc (fun q=>Ut (bt p q.1)) [.loc 2,.loc 4] (fun _=>false) (fun q=>adK l p q.1) (fun _=>XP d) (fun q=>l.length - q.1) ⟨0,zd _⟩
   (fun q p1 p2 _ _ e=>XT e) (fun _=>rfl) P5 ?_ ?_ ?_ ?_
  ·intro q l' kR;simp[ah,AV.an,aaf,adK] at kR;rcases kR with rfl|rfl|rfl
   ·simp
   ·simp
   right;exact⟨0,OO.2 tM,rfl⟩
  ·intro q z hz cs bV l' kR;simp only[XP,dU,e7,kt] at hz;rcases hz with rfl|rfl<;>(simp only[bY] at bV;subst bV;simp[ah,AV.an] at kR)
  ·refine⟨lc,[],?_⟩;refine abQ L9 (af4 _) bE b2 b4 fun r0 r2 r4=> ?_;simp[aaf,adK,k_,bJ,put,o9,r0,r2,r4]
  rintro⟨j,hj⟩;obtain⟨H2,hH2⟩:∃H2,H2=Lw lc (Ut (bt p j)) (ie (fun _=>false) (XP d)):=⟨_,rfl⟩;simp only;rw[←hH2];obtain⟨MQ,c2,c4,cE,cN,cl⟩:=ada H2 hH2;clear hH2;simp only[↓aX,mX,seval,aaf,adK];refine AU (fun h=> ?_) (fun h=> ?_)
  ·have bI:j<l.length:=(by simpa using h);obtain⟨o,ho⟩:∃o,l[j]?=some o:=⟨_,bS bI⟩;have hw:IntKind.i64.wrap ((j:Int)+1)=((j+1:Nat):Int):=wrap64 tM tM;obtain⟨y,HI,hy,hPh⟩:=hph o (dc ho);have hgd:(d.map Node.iv)[o.target.toNat]?=some y.iv:=(by rw[cn,hy];rfl);simp only[↓aX,mX,seval,YO,ho,bT,Ys,Op.cJ,Op.cs,cl 12 Pr Pr,c2,HI,hgd,Xx,Node.cJ,Node.cs];refine⟨rfl,jw hPh ?_⟩;simp only[↓aX,mX,seval];refine AU (fun h=> ?_) (fun h=> ?_)
   ·simp only[↓aX,mX,seval];have LI:WL o.kind y.text=(p:Int):=(by simpa using h);refine WV (lab:=lc) (N:=NW 903) (hdo p j o y ho hy LI) Qx ((MQ.Yr (fun p' _=>W_ _ _)).Yr (fun p' _=>W_ _ _)) (fun l'=>by rw[aq _ _ PW,aq _ _ PW];exact cN _ _) (aeH 903) (fun _ _=> .inr fun p' _=>rfl) (fun p' BT=>OO.2 (by simp at BT;omega)) ?_;rintro X R2 U9 H3 ⟨rfl,rfl⟩ g1 g2 g3 g4 g5 g6;simp only[↓aX,mX,seval,hw];have e0:U9 0=lc 0:=g2 0 N7;have g4':∀l':Lb,(∀p',l'≠lc p')→(∀q,l'≠NW 903 q)→l'≠ .loc 12→H3 l'=H2 l':=fun l' q1 q2 q3=>(by rw[g4 l' (fun p' _=>q1 p') q2,aq _ _ q3,aq _ _ q3]);refine⟨⟨j+1,bI⟩,Pq,U9,[],?_⟩;refine abQ g1 (fun p' BT=> ?_) (fun l' he=> ?_) ?_ ?_ fun r0 r2 r4=> ?_
    ·rcases g3 p' (OO.2 BT) with⟨p0,_,e⟩|⟨q,e⟩<;>rw[e]
     ·exact⟨rfl,W_ _ _,W_ _ _⟩
     exact⟨rfl,PW,PW⟩
    ·rw[g4' l' (by rintro p' rfl;simp[lc,Lb.entry] at he) (by rintro p' rfl;simp[NW,Lb.entry] at he) (by rintro rfl;simp[Lb.entry] at he)];exact cE l' he
    ·rw[g4' _ (fun p'=>Xg _ _) PW N7];exact c2
    ·rw[g4' _ (fun p'=>Xg _ _) PW N7];exact c4
    simp[aaf,adK,k_,bJ,put,o9,r0,r2,r4,e0]
   simp only[↓aX,mX,seval,hw];have LI:WL o.kind y.text≠(p:Int):=(by simpa using h);refine⟨⟨j+1,bI⟩,Pq,lc,[],?_⟩;refine abQ (by rw[MF p j o y ho hy LI];exact(MQ.Yr (fun p' _=>W_ _ _)).Yr (fun p' _=>W_ _ _)) (af4 _) (fun l' he=> ?_) ?_ ?_ fun r0 r2 r4=> ?_
   ·have:l'≠ .loc 12:=(by rintro rfl;simp[Lb.entry] at he);simp[ae,this,cE l' he]
   ·simp[ae,c2]
   ·simp[ae,c4]
   simp[aaf,adK,k_,bJ,put,o9,r0,r2,r4]
  have he:j=l.length:=by simp at h;omega
  have hw:IntKind.i64.wrap ((p:Int)+1)=((p+1:Nat):Int):=wrap64 tM tM;simp only[↓aX,mX,seval,hw];refine⟨⟨p+1,tM,tM⟩,Pq,lc,[],?_⟩;refine abQ (by simp only[hbt p,←he];exact MQ) (af4 _) cE c2 c4 fun r0 r2 r4=> ?_;simp[aaf,k_,bJ,put,o9,r0,r2,r4]
 have he:p=6:=by simp at h;omega
 subst he;simp only[↓aX,mX,seval,Ox];refine⟨_,adJ (bt 6 0) H1,(Zc L9 (by rw[hbn];exact J2) ?_ ?_ ?_ b2 b4 bl).1,?_⟩
 ·simp[put,o9]
 ·simp[put,o9]
 ·simp[put,o9]
 obtain⟨-,c2,c4,cl⟩:=Zc (S:=⟨P,G,100⟩) (env:=o9 [(7,.ptr (lc 0) 3 0 0),(2,.ptr (.loc 2) 1 0 0),(4,.ptr (.loc 4) 1 0 0)]) L9 (by rw[hbn];exact J2) rfl rfl rfl b2 b4 bl;simp only[↓aX,mX,seval];refine ay hT ?_;have c13:=cl 13 Pr Pr;have c14:=cl 14 Pr Pr;simp only[↓aX,mX,seval,Tree.av,c13];refine ay hJ ?_;simp only[↓aX,mX,seval,Tree.av,c13];have LZ:=hM;simp only[Tree.av,Tree.text,Tree.s,Tree.attrs,Tree.kids] at LZ;refine ay LZ ?_;simp only[↓aX,mX,seval,Doc.av,c14];by_cases hm:mk.2=0
 ·rw[eE hm,show(mk.2 !=0)=false by simp[hm]];simp only[↓aX,mX,seval,c2,c4,c14,kq]
 rw[cY hm,show(mk.2 !=0)=true by simpa using hm];simp only[↓aX,mX,seval,c2,c4,c14,kq]
def adM {akN mg iJ l4 akQ kX fl mv Vj:Nat} (hF:aw P G akN=some (100,[((some (some 1)),4),(none,5)],(VV mg iJ l4 akQ kX fl mv Vj).bare)) (d:Doc) (l:List Op)
  (adL:au P G mg [Doc.av d,.list (l.map Op.iv)] (.int .i64 (VU d l))) (h0:VU d l≠0) :
  au P G akN [Doc.av d,.list (l.map Op.iv)] (.gf [Doc.av d,.int .i64 (VU d l)]):=by
 refine aR hF N7 P9 (by simp[AV.an,ah,Doc.av]) ?_;unfold VV;simp only[↓aX,mX,seval,Doc.av];refine ay adL ?_;simp only[↓aX,mX,seval,Doc.av];rw[show(VU d l !=0)=true by simpa using h0];simp only[↓aX,mX,seval,Doc.av,kq]
end

structure aag (t:Tree) (pre:List Op) (o:Op):Prop where
 ex:∃n q y,Sub 0 (-1) t n q y∧o.target=(n:Int)∧1≤o.kind∧o.kind≤10∧(o.kind=1∨o.kind=2∨8≤o.kind→y.text=false)∧(3≤o.kind∧o.kind≤6→0≤q) ∧
  (o.kind=1∨o.kind=2→VA pre 7 n=false)∧(o.kind=3∨o.kind=4∨o.kind=6→VA pre 7 q.toNat=false∧VA pre 6 n=false∧VA pre 5 n=false)
def wOp (o:Op):Nat:=dE o.content+o.s.length+1
def WC (l:List Op):Nat:=(l.map wOp).sum
def aah (a b:List Op):WC (a++b)=WC a+WC b:=by simp[WC]
def adN {a b:List Op} (h:a.Perm b):WC a=WC b:=(h.map wOp).sum_nat
section
variable {t:Tree} {l:List Op} {b:Bn} {o:Op}
def ag9 (h:Ze t l b) (h0:∀i q y,Sub 0 (-1) t i q y→y.text=true→y.kids=[]) (hs:aag t l o):Ze t (l++[o]) (WX b o)∧(WX b o).nodes.length≤b.nodes.length+wOp o:=by
 obtain⟨n,q,y,hy,ht,k1,k10,c1,c2,c3,c4⟩:=hs.ex;have hw:=ql o.content;have Kq:o.kind=1∨o.kind=2∨(o.kind=3∨o.kind=4∨o.kind=6)∨o.kind=5∨o.kind=7∨o.kind=8∨(o.kind=9∨o.kind=10):=tM
 unfold wOp;rcases Kq with hk|hk|hk|hk|hk|hk|hk
 ·obtain⟨g1,g2⟩:=step1 h hy ht hk (c1 tM) (c3 tM);exact⟨g1,tM⟩
 ·obtain⟨g1,g2⟩:=step2 h hy ht hk (c1 tM) (c3 tM);exact⟨g1,tM⟩
 ·obtain⟨e1,e2,e3⟩:=c4 tM;obtain⟨g1,g2⟩:=ag4 h h0 hy (c2 tM) ht hk e1 e2 e3;exact⟨g1,tM⟩
 ·obtain⟨g1,g2⟩:=ah1 h h0 hy (c2 tM) ht hk;exact⟨g1,tM⟩
 ·obtain⟨g1,g2⟩:=ah2 h hy ht hk;exact⟨g1,tM⟩
 ·obtain⟨g1,g2⟩:=ah3 h hy ht hk (c1 tM);exact⟨g1,tM⟩
 obtain⟨g1,g2⟩:=ah4 h hy ht hk;exact⟨g1,tM⟩
def Yw (t:Tree):Bn:=⟨t.jz,lW t,List.replicate t.jz 0,List.replicate t.jz 0⟩
theorem adb (h0:∀i q y,Sub 0 (-1) t i q y→y.text=true→y.kids=[]):∀(m:Nat) (done:List Op),done.length=m→(∀pre o post,done=pre++o::post→aag t pre o) →
  Ze t done (done.foldl WX (Yw t))∧(done.foldl WX (Yw t)).nodes.length≤t.jz+WC done
 |0,done,hm,_=>by
  obtain rfl:=ye.1 hm;exact⟨adF t h0,by simp[Yw,pf,WC]⟩
 |m+1,done,hm,hs=>by
  rcases NL done with rfl|⟨pre,o,rfl⟩
  ·simp at hm
  rw[List.concat_eq_append] at hm hs ⊢;obtain⟨g1,g2⟩:=adb h0 m pre (by simpa using hm) fun p x post e=>hs p x (post++[o]) (by rw[e];simp);obtain⟨g3,g4⟩:=ag9 g1 h0 (hs pre o [] N7);rw[Nw,Bw,sc];refine⟨g3,?_⟩;rw[aah];have:WC [o]=wOp o:=by simp[WC]
  omega
end
def Yx (L:List Tree):(news L).length=L.length:=by simp[news]
def ag' (l:List Op):Nat:=(l.map fun o=>o.content.length).sum
def af5 (l:List Op):ag' l≤WC l:=by
 unfold ag' WC;induction l with
 |nil=>simp
 |cons o r ih=>have:=eZ o.content;simp only[o2,Nn,wOp];omega
def cAt (l:List Op) (c:Op→Bool):Nat:=((l.filter c).map fun o=>o.content.length).sum
def YI (l:List Op) (k:Int) (n:Nat):(gl l k n).length=cAt l fun o=>o.kind==k&&o.target==(n:Int):=by
 unfold gl cAt ofK;rw[List.length_flatMap]
def acA (l:List Op) (c d:Op→Bool) (h:∀o∈l,¬(c o=true∧d o=true)):cAt l c+cAt l d=cAt l fun o=>c o||d o:=by
 unfold cAt;induction l with
 |nil=>rfl
 |cons o r ih=>
 have ih:=ih fun x hx=>h x (by simp[hx]);have h1:=h o N7;cases hc:c o<;>cases hd:d o<;>simp_all[zp]<;>omega
def acB (l:List Op) (c:Op→Bool):cAt l c≤WC l:=by
 refine D' ?_ (af5 l);unfold cAt ag';induction l with
 |nil=>simp
 |cons o r ih=>simp only[zp];split<;>simp<;>omega
def adO (l:List Op) (k:Nat):(Vp l k).length≤1+cAt l fun o=>decide (3≤o.kind∧o.kind≤6∧o.target=(k:Int)):=by
 have e:(gl l 3 k).length+(gl l 6 k).length+(gl l 4 k).length≤cAt l fun o=>decide (3≤o.kind∧o.kind≤6∧o.target=(k:Int)):=by
  rw[YI,YI,YI,acA,acA]
  ·unfold cAt;induction l with
   |nil=>simp
   |cons o r ih=>
   simp only[zp];split
   ·rename_i h;rw[eE (by simp at h ⊢;omega)];simp only[o2,Nn];omega
   split
   ·simp only[o2,Nn];omega
   exact ih
  ·intro o _;simp;omega
  intro o _;simp;omega
 generalize (cAt l fun o=>decide (3≤o.kind∧o.kind≤6∧o.target=(k:Int)))=C at *;unfold Vp;simp only[ko,Yx];split
 ·rw[Yx];omega
 split
 ·simp only[yg];omega
 simp only[gL,yg];omega
theorem j9 (l:List Op):∀ks:List Nat,ks.Nodup→(ks.flatMap (Vp l)).length≤ks.length+cAt l fun o=>decide (3≤o.kind∧o.kind≤6)&&ks.any fun k=>decide (o.target=(k:Int))
 |[],_=>by simp
 |k::r,h=>by
  have ih:=j9 l r (Jb.1 h).2;have h1:=adO l k;have h2:=acA l (fun o=>decide (3≤o.kind∧o.kind≤6∧o.target=(k:Int))) (fun o=>decide (3≤o.kind∧o.kind≤6)&&r.any fun k=>decide (o.target=(k:Int))) (by
   rintro o _ ⟨e1,e2⟩;simp only[dj,de,O'] at e1 e2;obtain⟨_,k',vy,e3⟩:=e2;have:k=k':=tM;subst this;exact(Jb.1 h).1 vy)
  have h3:(cAt l fun o=>decide (3≤o.kind∧o.kind≤6∧o.target=(k:Int))||(decide (3≤o.kind∧o.kind≤6)&&r.any fun k=>decide (o.target=(k:Int))))=cAt l fun o=>decide (3≤o.kind∧o.kind≤6)&&(k::r).any fun k=>decide (o.target=(k:Int)):=by
   congr 1;funext o;rw[List.any_cons];by_cases q1:3≤o.kind∧o.kind≤6
   ·simp[q1]
   have e1:decide (3≤o.kind∧o.kind≤6)=false:=Ea q1;have e2:decide (3≤o.kind∧o.kind≤6∧o.target=(k:Int))=false:=Ea fun h=>q1 ⟨h.1,h.2.1⟩;rw[e1,e2];rfl
  simp only[Bc,ko,gL];omega

def aai (l:List Op) (i:Nat) (y:Tree):(Vm l i y).length≤y.kids.length+3*WC l+1:=by
 unfold Vm;have F2:(S6 (i+1) y.kids).Nodup:=by
  have:∀(off:Nat) (xs:List Tree),(S6 off xs).Nodup:=by
   intro off xs;induction xs generalizing off with
   |nil=>simp[S6]
   |cons x r ih=>
   simp only[S6,Jb];refine⟨fun h=> ?_,ih _⟩;have:=Y1 _ _ off h;have:=x.uE;omega
  exact this _ _
 have h1:=j9 l (S6 (i+1) y.kids) F2;have h2:=acB l fun o=>decide (3≤o.kind∧o.kind≤6)&&(S6 (i+1) y.kids).any fun k=>decide (o.target=(k:Int));have h3:=acB l fun o=>o.kind==1&&o.target==(i:Int);have h4:=acB l fun o=>o.kind==2&&o.target==(i:Int);rw[←YI] at h3 h4;have h5:(S6 (i+1) y.kids).length=y.kids.length:=by
  have:=GB List.length (aaE (i+1) y.kids);rw[bA,VS] at this;exact this
 split
 ·simp
 split
 ·simp
 simp only[ko,Yx];omega
def aaj {az:List Attr} (h:l_ az=true) (l:List Op) (n:Nat):l_ (Vb l n az)=true:=by
 unfold Vb;induction l generalizing az with
 |nil=>exact h
 |cons o r ih=>
 refine ih ?_;unfold X4;split
 ·exact adB h o
 exact h
def aak (az:List Attr) (l:List Op) (n:Nat):(Vb l n az).length≤az.length+l.length:=by
 unfold Vb;induction l generalizing az with
 |nil=>simp
 |cons o r ih=>
 have h1:=ih (az:=X4 n az o);have h2:(X4 n az o).length≤az.length+1:=by
  unfold X4;split
  ·exact adC az o
  omega
 simp only[Bw,gL];omega
theorem abR:∀l:List Op,l.length≤WC l
 |[]=>by simp
 |o::r=>by
  have:=abR r;unfold WC at this ⊢;simp only[o2,Nn,gL,wOp];omega
section
variable {P:Program} {G:Nat→Option (List IV)}
set_option maxHeartbeats 2000000 in
def cDo {kX ej hY gN en eF:Nat} (hF:aw P G kX=some (194,[],(fO ej hY gN en eF).bare))
   (hI:aau P G ej) (hPl:X' P G hY) (hD:aeK P G gN) (hV:aa7 P G en) (Km:abD P G eF)
   {t:Tree} {l:List Op} {b:Bn} {o:Op} (h:Ze t l b) (h0:∀i q y,Sub 0 (-1) t i q y→y.text=true→y.kids=[]) (hr:∀i q y,Sub 0 (-1) t i q y→l_ y.attrs=true∧y.attrs.length≤80∧y.kids.length≤80) (hs:aag t l o)
   (hb:b.nodes.length+4*WC (l++[o])+200≤B) :
   Jg P G kX [.ptr (.par 0) 3 0 0,o.av] (Ut b) [0,2,3] fun X R2=>X=(fun _=> .gf [])∧R2=Ut (WX b o):=by
 obtain⟨k,ta,co,na,st⟩:=o
 obtain⟨n,q,y,hy,ht,k1,k10,c1,c2,c3,c4⟩:=hs.ex
 simp only at ht k1 k10 c1 c2 c3 c4
 subst ht
 have hw:WC (l++[(⟨k,n,co,na,st⟩:Op)])=WC l+(dE co+st.length+1):=by rw[aah];simp[WC,wOp]
 rw[hw] at hb
 have qT:=eZ co
 have zo:B=1073741824:=rfl
 obtain⟨ks,h1,h2⟩:=h.nd n q y hy
 have hrg:=hy.rng
 have hcp:=y.uE
 have hn:n<b.n0:=by rw[h.n0];omega
 have hle:=h.le
 have wq:=h.n0
 obtain⟨hra,MB,Hm⟩:=hr n q y hy
 have agZ:=XL h2
 have XV:=aai l n y
 have hlw:=abR l
 have BU:k=1∨k=2∨(k=3∨k=4∨k=5∨k=6)∨k=7∨k=8∨k=9∨k=10:=tM
 rcases BU with rfl|rfl|hk|rfl|rfl|rfl|rfl
 · have hT:=c1 tM
   have hv:=c3 tM
   have w5:=h.fs.2 n tM
   have Ld:(b.fs.getD n 0).toNat=(gl l 1 n).length:=by rw[List.getD_eq_getElem?_getD,w5];simp
   have hd:WX b ⟨1,n,co,na,st⟩={b.ins n (gl l 1 n).length co with fs:=b.fs.set n (((gl l 1 n).length+co.length:Nat):Int)}:=by
     unfold WX;simp only[Int.toNat_natCast,h1,if_true,Ld]
   rw[hd]
   have hfk:(gl l 1 n).length≤ks.length:=by
     rw[agZ];unfold Vm;rw[hT,hv];simp[Yx]
   exact aiE hF b hle n hn _ h1 co na st _ w5 hfk tM Pq hI
 · have hd:WX b ⟨2,n,co,na,st⟩=b.ins n ks.length co:=by
     unfold WX;simp[h1]
   rw[hd]
   exact aiF hF b hle n hn _ h1 co na st tM Pq hI
 · have hq:=c2 tM
   obtain⟨B',hqm⟩:=beside h h0 hy hq
   have T0:=B'.hz.rng
   have ah0:=B'.z.uE
   have hm:B'.m<b.n0:=by rw[h.n0];omega
   have K2:b.kd B'.m=B'.ks:=by rw[Bn.Ru B'.nd]
   have ai2:=aai l B'.m B'.z
   have KX:=XL B'.rp
   have hzk:=(hr _ _ _ B'.hz).2.2
   have key:k≠5→∃L:Nat,Xw B'.ks n=(L:Int)∧L<B'.ks.length∧L+1+(gl l 4 n).length≤B'.ks.length:=by
     intro h5
     obtain⟨hv,h6,h5⟩:=c4 tM
     rw[hqm,Int.toNat_natCast] at hv
     have ag5:=B'.items hv
     have aeU:Vp l n=news (gl l 3 n)++ .old n::news (gl l 4 n):=by unfold Vp;rw[h6,h5];simp
     have hrp:iF (Rp b) B'.ks ((B'.A++news (gl l 3 n))++ .old n::(news (gl l 4 n)++B'.C)):=by
       have:=B'.rp;rw[ag5,aeU] at this
       simpa using this
     have hA:∀x∈B'.A++news (gl l 3 n),XM n x=false:=by
       intro x hx
       rcases List.mem_append.1 hx with hx|hx
       · exact B'.ac7 x hx
       exact Ww n _ x hx
     obtain⟨X5,bI⟩:=aa_ hn hrp hA
     refine⟨_,X5,bI,?_⟩
     rw[XL hrp]
     simp[Yx];omega
   have vy:k=3∨k=4∨k=5∨k=6:=hk
   have Yl:(q.toNat:Nat)=B'.m:=by rw[hqm];rfl
   rcases vy with rfl|rfl|rfl|rfl
   · obtain⟨L,X5,bI,_⟩:=key tM
     have hd:WX b ⟨3,n,co,na,st⟩=b.ins B'.m L co:=by
       unfold WX;simp[h1,Yl,K2,X5]
     rw[hd]
     exact aiG hF b hle n hn _ h1 co na st B'.m hqm hm _ B'.nd Pq hPl L X5 Pq tM Pq hI
   · obtain⟨L,X5,bI,MG⟩:=key tM
     have han:=h.az.2 n tM
     have U2:(b.az.getD n 0).toNat=(gl l 4 n).length:=by rw[List.getD_eq_getElem?_getD,han];simp
     have hd:WX b ⟨4,n,co,na,st⟩={b.ins B'.m (L+1+(gl l 4 n).length) co with az:=b.az.set n (((gl l 4 n).length+co.length:Nat):Int)}:=by
       unfold WX;simp only[Int.toNat_natCast,h1,Yl,K2,X5,U2];rfl
     rw[hd]
     exact aiH hF b hle n hn _ h1 co na st B'.m hqm hm _ B'.nd Pq hPl L X5 _ han MG tM Pq hI
   · by_cases hx:0≤Xw B'.ks n
     · obtain⟨L,hL⟩:∃L:Nat,Xw B'.ks n=(L:Int):=⟨(Xw B'.ks n).toNat,tM⟩
       have bI:L<B'.ks.length:=by
         unfold Xw at hL
         split at hL
         · rename_i k' vy
           obtain⟨h3,_⟩:=List.findIdx?_eq_some_iff_getElem.1 vy
           omega
         omega
       have hd:WX b ⟨5,n,co,na,st⟩=b.del B'.m L:=by
         unfold WX;simp[h1,Yl,K2,hL]
       rw[hd]
       exact aiI hF b hle n hn _ h1 co na st B'.m hqm hm _ B'.nd Pq hPl L hL bI hD
     have hL:Xw B'.ks n= -1:=by
       unfold Xw at hx ⊢
       split at hx
       · omega
       rfl
     have hd:WX b ⟨5,n,co,na,st⟩=b:=by
       unfold WX;simp[h1,Yl,K2,hL]
     rw[hd]
     exact ahX hF b hle n hn _ h1 co na st B'.m hqm hm _ B'.nd Pq hPl hL
   obtain⟨L,X5,bI,_⟩:=key tM
   have hd:WX b ⟨6,n,co,na,st⟩=(b.del B'.m L).ins B'.m L co:=by
     unfold WX;simp[h1,Yl,K2,X5]
   rw[hd]
   exact aiJ hF b hle n hn _ h1 co na st B'.m hqm hm _ B'.nd Pq hPl L X5 bI hD tM Pq hI
 · have hd:WX b ⟨7,n,co,na,st⟩=b.value n st:=by unfold WX;simp[h1]
   rw[hd]
   exact aiK hF b hle n hn _ h1 co na st tM hV
 · have hd:WX b ⟨8,n,co,na,st⟩=b.name n na:=by unfold WX;simp[h1]
   rw[hd]
   exact aiL hF b hle n hn _ h1 co na st
 · have hd:WX b ⟨9,n,co,na,st⟩=b.attr n ⟨9,n,co,na,st⟩:=by unfold WX;simp[h1]
   rw[hd]
   have:=aak y.attrs l n
   exact aiM hF b hle n hn _ h1 co na st Pq (aaj hra l n) Km
 have hd:WX b ⟨10,n,co,na,st⟩=b.attr n ⟨10,n,co,na,st⟩:=by unfold WX;simp[h1]
 rw[hd]
 have:=aak y.attrs l n
 exact ahY hF b hle n hn _ h1 co na st Pq (aaj hra l n) Km
end
end Go.Am
