import Derived.Test.YtfinkeaikbmpgaaGreatDoorKT8
import Derived.Test.YtfinkeaikbmpgaaGreatDoorKAm24
import Derived.Test.YtfinkeaikbmpgaaGreatDoorKAm33
set_option linter.unusedSimpArgs false
set_option linter.unusedVariables false
set_option linter.unnecessarySimpa false
set_option linter.defProp false
/- Documents: the tree at a place. -/
namespace Go.Am
open Go Go.RowKit
def Cf (rs:List (Lb×Row)):ie (fun _=>false) rs=kl rs:=by
 funext q;unfold ie;cases kl rs q<;>rfl
theorem ZX:∀(off:Nat) (xs:List Tree) (i:Nat),i<xs.length→(mw off xs)[i]?=some ((off+dP (xs.take i):Nat):Int)
 |_,[],i,h=>by simp at h
 |off,x::r,0,_=>by simp[mw,dP]
 |off,x::r,i+1,h=>by
  simp only[mw,GA,Cj,dP];rw[ZX (off+x.jz) r i (by simpa using h),ze]
def x7 (iJ x8:Nat):AC:=
(aM [zzX 2 0,aQ 4 (.new [(.bool false),(.str []),.nil0,.nil0])] (aM [ep 9 2 0,fm 10 9,MR 11 1,jL 12 10 11 5,gz 13 5 12,aQ 5 (.new [(.bool false),(.str []),.nil0,(.int .i64 0),.nil0]),gg (.store 5 (.t 5) (.t 13))] (.seq (.VL [ep 14 5 0,fm 15 14,ep 16 5 1,fm 17 16,ep 18 5 2,fm 19 18,aQ 20 (.call iJ [(.t 19)]),aQ 21 (.sg [(.bool false),(.str []),.nil0,.nil0] [(0,(1,(.t 15))),(1,(1,(.t 17))),(2,(1,(.t 20)))]),aQ 6 (.new [(.bool false),(.str []),.nil0,.nil0]),gg (.store 4 (.t 6) (.t 21))] [[],[0],[],[2],[],[4],[5],[1,3,6],[],[8,7,6,0,1,2,3,4,5,6,7,8]] [.no,.rw [.loc 5] [],.no,.rw [.loc 5] [],.no,.rw [.loc 5] [],.no,.no,.rw [] [.loc 6],.rw [] [.loc 6]]) (.seq (.gh .vk (aM [ep 22 5 4,fm 23 22,oy 24 23,gH 25 0] (.block 0 (.loop (aM [et 26 .lss 25 24] (.seq (.cond (.t 26) .skip (.exit 0)) (.seq (.block 1 (aM [jL 27 23 25 1,fm 28 27,MR 8 28] (.VL [ep 29 6 3,fm 30 29,gz 31 1 2,MR 32 8,aQ 33 (.call x8 [(.t 31),(.t 32)]),aQ 34 (.lits 1 4 [(.bool false),(.str []),.nil0,.nil0] [(0,(.t 33))]),aQ 35 (.app (.t 30) (.t 34) 4 72),ep 36 6 3,gg (.store 1 (.t 36) (.t 35))] [[],[0],[],[],[2,3],[4],[1,5,4],[0,1,2,3,4,5,6],[7,6,6,0,1,2,3,4,5,6]] [.no,.rw [.loc 6] [],.rw [.loc 2] [],.no,.no,.no,(.rw [] [.loc 50,.loc 35]),.no,.rw [] [.loc 6]]))) (.cq [eY 37 .add 25 1,MR 25 37])))))))) (.gh (.xd (.loc 50) (.loc 6) 3) (aM [gz 38 4 6,gg (.store 4 (.t 4) (.t 38))] .ret))))))
def pAt {P:Program} {G:Nat→Option (List IV)} {x8 iJ:Nat} (hF:aw P G x8=some (39,[((some (some 4)),4)],(x7 iJ x8).bare)) (d:Doc) (hd:d.length≤B) (n:Nat) (q:Int) (x:Tree) (hL:oc d n q x) (hx:x.wt≤B)
  (hC:au P G iJ [.list (cD x.attrs)] (.list (cD x.attrs)))
  (hK:∀k∈x.kids,∀(m:Nat) (p:Int),oc d m p k→au P G x8 [Doc.av d,.int .i64 m] k.av):au P G x8 [Doc.av d,.int .i64 n] x.av:=by
 refine Ws hF N7 P9 (by simp[AV.an,Tree.av,ah]) ?_;have Zs:=hL.node;have hlen:=hL.len;have bI:=(bd.1 Zs).1;have hwx:=x.gx;have Hm:=eZ x.kids;have JV:(mw (n+1) x.kids).length=x.kids.length:=VS _ _;unfold x7;simp only[↓aX,mX,seval,Doc.av,bA,Doc.XF Zs,Xx,Node.cJ,Node.cs,Tree.node];refine⟨rfl,jw hC ?_⟩;simp only[↓aX,mX,seval,bA];rw[Ox];refine⟨_,_,Qm (q:= .loc 6) (cs:=[.bool x.text,.str x.s,.list (cD x.attrs),.nil0]) (j:=3) (d:=50) (sz:=4) rfl rfl PU Pr,?_⟩;simp only[↓aX,mX,seval];refine pe (σ:={i:Nat // i≤x.kids.length}) (fun _=>[.loc 2,.loc 4,.loc 6,.loc 50]) (fun _ _=>false)
  (fun q=>[(2,.ptr (.loc 2) 1 0 0),(4,.ptr (.loc 4) 4 0 0),(6,.ptr (.loc 6) 4 0 0),(23,.list ((mw (n+1) x.kids).map xX)),(24,.int .i64 x.kids.length),(25,.int .i64 q.1)])
  (fun q=>[(.loc 2,⟨1,[[.list (d.map Node.iv)]]⟩),(.loc 4,⟨4,[[.bool false,.str [],.nil0,.nil0]]⟩),(.loc 6,⟨4,[[.bool x.text,.str x.s,.list (cD x.attrs),.sl (.loc 50) 4 0 q.1]]⟩),(.loc 50,⟨4,aB (dq (x.kids.take q.1))⟩)])
  (fun q=>x.kids.length - q.1) ⟨0,zd _⟩ (fun _=>rfl) (fun q=>by simp[ah,AV.an]) ?_ ⟨[],?_⟩ ?_
 ·rintro q r hr cs bV l hl;simp only[dU,e7,kt] at hr;rcases hr with rfl|rfl|rfl|rfl
  ·simp only[bY] at bV;subst bV;simp[ah,AV.an] at hl
  ·simp only[bY] at bV;subst bV;simp[ah,AV.an] at hl
  ·simp only[bY] at bV;subst bV;simp[ah,AV.an] at hl;subst hl;simp
  rw[bU bV] at hl;simp at hl
 ·refine⟨?_,?_,?_,PN,fun l _=>⟨id,fun _=>rfl⟩⟩
  ·intro l hf hu;exfalso;apply hu;cases l<;>simp_all[Lb.fresh,ae,Hp.none]
  ·simp[k_,dn,bJ,put,JV]
  simp[tc,dn,ae,dO,bu,bJ,aB,dq]
 rintro⟨i,hi⟩;rw[Cf];simp only[↓aX,mX,seval,cF,bW];by_cases bI:i<x.kids.length
 ·rw[show decide ((i:Int)<(x.kids.length:Int))=true by simpa using bI];obtain⟨k,HA⟩:∃k,x.kids[i]?=some k:=⟨_,bS bI⟩;have hw:IntKind.i64.wrap ((i:Int)+1)=((i+1:Nat):Int):=wrap64 tM (by unfold B at hx;omega);have hg:=ZX (n+1) x.kids i bI;simp only[↓aX,mX,seval,aaX,hg,YN,bA,bT,xX,IV.cells];have hkm:=dc HA;have hkL:oc d (n+1+dP (x.kids.take i)) n k:=hL.Ce (x.kids.take i) (x.kids.drop (i+1)) k (by rw[←drop_eq HA,tO]);have MG:(dq (x.kids.take i)).length=i:=by rw[bF,tp];omega
  have zB:dq (x.kids.take (i+1))=dq (x.kids.take i)++[.agg [.bool k.text,.str k.s,.list (cD k.attrs),.list (dq k.kids)]]:=by rw[Vl HA,qh];simp[dq,Tree.o_,Tree.cs]
  refine⟨rfl,jw (hK k hkm _ _ hkL) ?_⟩;simp only[↓aX,mX,seval,Tree.av];rw[qg 4 72 35 50 (dq (x.kids.take i)) (.agg [.bool k.text,.str k.s,.list (cD k.attrs),.list (dq k.kids)]) PE MG rfl PX (by unfold B at hx;omega) Pr Pr PU];simp only[↓aX,mX,seval,hw];refine⟨by rintro l (rfl|rfl)<;>simp[Lb.iQ],?_⟩;refine⟨⟨i+1,bI⟩,Pq,[(.loc 50,.loc 35)],?_⟩;refine⟨?_,?_,?_,PN,?_⟩
  ·intro l hf hu;exfalso;apply hu;cases l<;>simp_all[Lb.fresh,ae,Hp.none]
  ·simp[k_,dn,bJ,put]
  ·have hr:∀xs:List IV,dO (dn [(.loc 50,.loc 35)]) ⟨4,aB xs⟩=⟨4,aB xs⟩:=fun xs=>dy _ _ _;simp[tc,dn,ae,dO,bu,bJ,zB];simp[aB,nT]
  intro l hl;simp only[dU,e7,kt] at hl;rcases hl with rfl|rfl|rfl|rfl
  ·exact⟨fun _=>rfl,fun _=>rfl⟩
  ·exact⟨fun _=>rfl,fun _=>rfl⟩
  ·exact⟨fun _=>rfl,fun _=>rfl⟩
  exact⟨fun _=>rfl,fun h=>by simp[Lb.fresh] at h⟩
 have XV:i=x.kids.length:=tM
 subst XV;rw[show decide ((x.kids.length:Int)<(x.kids.length:Int))=false by simp];simp only[↓aX,mX,seval,va];refine⟨4,dq x.kids,0,x.kids.length,[.bool x.text,.str x.s,.list (cD x.attrs),.sl (.loc 50) 4 0 x.kids.length],rfl,rfl,rfl,N7,by rw[bF];omega,pa _,?_⟩;simp only[↓aX,mX,seval,tn,eN (show(dq x.kids).length≤x.kids.length by rw[bF];exact eM _)];rfl

def Node.wt (x:Node):Nat:=1+x.s.length+dX x.attrs+x.kids.length
def zn:Doc→Nat
 |[]=>0
 |x::r=>x.wt+zn r
theorem nv:∀a b:Doc,zn (a++b)=zn a+zn b
 |[],b=>by simp[zn]
 |x::r,b=>by simp[zn,nv r b,ze]
theorem XR:∀d:Doc,d.length≤zn d
 |[]=>by simp
 |x::r=>by have:=XR r;simp only[zn,Node.wt,gL];omega
theorem Y2:∀{d:Doc} {x:Node},x∈d→x.wt≤zn d
 |[],x,h=>by simp at h
 |y::r,x,h=>by
  simp only[dU] at h;rcases h with rfl|h
  ·simp[zn]
  have:=Y2 h;simp only[zn];omega
mutual
theorem Tree.uH (off:Nat) (p:Int):∀x:Tree,x.wt≤zn (x.flat off p)
 | .mk t s az ks=>by
  have:=ru (off+1) off ks;simp only[Tree.flat,zn,Node.wt,Tree.wt];omega
theorem ru (off p:Nat):∀xs:List Tree,dE xs≤zn (akX off p xs)
 |[]=>by simp[dE]
 |k::r=>by
  have:=k.uH off p;have:=ru (off+k.jz) p r;simp only[akX,nv,dE];omega
end
def oc.wt {d:Doc} {n:Nat} {q:Int} {y:Tree} (h:oc d n q y):y.wt≤zn d:=by
 obtain⟨post,h⟩:=h;have h1:=y.uH n q;have h2:=nv (d.take n) (d.drop n);rw[tO,h,nv] at h2;omega
section
variable {P:Program} {G:Nat→Option (List IV)}
def wAt {x8 iJ:Nat} (hF:aw P G x8=some (39,[((some (some 4)),4)],(x7 iJ x8).bare)) (hC:∀xs:List Attr,xs.length≤B→au P G iJ [.list (cD xs)] (.list (cD xs))) (d:Doc) (hd:zn d≤B) (n:Nat) (q:Int) (x:Tree) (hL:oc d n q x) :
  au P G x8 [Doc.av d,.int .i64 n] x.av:=by
 have key:=A4 (M:=fun l=>∀x∈l,∀(n:Nat) (q:Int),oc d n q x→au P G x8 [Doc.av d,.int .i64 n] x.av)
  (fun l h x hx n q hL=>pAt hF d (by have:=XR d;omega) n q x hL (by have:=hL.wt;omega) (hC _ (by have:=hL.wt;have:=lY x;have:=iz x.attrs;omega)) fun k hk m p hL'=>h x hx k hk m p hL')
 exact key [x] x N7 n q hL
end
def abj (x:Tree):Vo (lW x)=x.d_:=by
 cases h:x.d_ with
 |true=>exact Yj h
 |false=>exact XX fun⟨y,h1,h2⟩=>by rw[adp h2,h1] at h;cases h
def uF.len {d:Doc} (h:uF d):1≤d.length∧d.length≤80:=by
 obtain⟨x,hx,rfl⟩:=h;have:=(ia x).1 hx;have:=x.uE;rw[pf];omega
def uF.wk {d:Doc} (h:uF d):wk d 8 0 (-1) 0=some (d.length:Int):=by
 obtain⟨x,hx,rfl⟩:=h;exact A3 ((ia x).1 hx).2.1
def YW (V3 x8 dD:Nat):AC:=
(aM [zzX 1 0,jM 2 false] (.seq (aM [ep 4 1 0,fm 5 4,oy 6 5,eY 7 .lss 6 1,MR 8 7,oH 9 8 1 0,oG 10 8 9,iR 11 8 (.len (.t 10)),iR 12 8 (.bin .gtr (.t 11) (jS 80)),sj 13 8 12] (.cond (.t 13) (aM [jM 2 false] .ret) .skip)) (aM [aQ 3 (.new [(.int .i64 0)]),gg (.store 1 (.t 3) (jS 0))] (.seq (aM [gz 14 1 1,aQ 15 (.call V3 [(.t 14),(jS 0),(.c (.int .i64 (-1))),(jS 1),(.t 3)]),sB 16 15,MR 17 16,oG 18 17 3,oH 19 17 1 0,oG 20 17 19,iR 21 17 (.len (.t 20)),iR 22 17 (.bin .neq (.t 18) (.t 21)),sj 23 17 22] (.cond (.t 23) (aM [jM 2 false] .ret) .skip)) (aM [gz 24 1 1,aQ 25 (.call x8 [(.t 24),(jS 0)]),aQ 26 (.call dD [(.t 25)]),MR 2 26] .ret)))))
def aef {P:Program} {G:Nat→Option (List IV)} {Vd V3 x8 dD:Nat} (hF:aw P G Vd=some (27,[(none,2)],(YW V3 x8 dD).bare)) (d:Doc) (hd:zn d≤B)
  (hW:cR P G V3 [Doc.av d,.int .i64 0,.int .i64 (-1),.int .i64 (9 - ((8:Nat):Int)),.ptr (.par 0) 1 0 0] [.int .i64 0] fun x cs=>∃v,x= .bool (wk d 8 0 (-1) 0).isSome∧cs=[.int .i64 v]∧∀r,wk d 8 0 (-1) 0=some r→v=r)
  (hA:∀x,d=lW x→au P G x8 [Doc.av d,.int .i64 0] x.av) (hG:∀x,d=lW x→au P G dD [x.av] (.bool x.d_)):au P G Vd [Doc.av d] (.bool (Vo d)):=by
 refine aR hF N7 P9 Pv ?_;have hlen:=XR d;unfold YW;simp only[↓aX,mX,seval,Doc.av,bA];cases h1:decide ((d.length:Int)<1) with
 |true=>
  have:Vo d=false:=XX fun h=>by have:=h.len;simp at h1;omega
  simp only[↓aX,mX,seval,this]
 |false=>
 cases h2:decide ((d.length:Int)>80) with
 |true=>
  have:Vo d=false:=XX fun h=>by have:=h.len;simp at h2;omega
  simp only[↓aX,mX,seval,bA,h2,this]
 |false=>
 simp only[↓aX,mX,seval,bA,h2];refine bj (l:= .loc 3) hW rfl (by simp only[↓aX,mX,seval];try rfl) ?_
 rintro x1 dF ⟨v,rfl,rfl,hv⟩ _ _ _;cases hr:wk d 8 0 (-1) 0 with
 |none=>
  have:Vo d=false:=XX fun h=>by have:=h.wk;rw[hr] at this;cases this
  simp only[↓aX,mX,seval,Mt,fj,this]
 |some r=>
 have:=hv r hr;subst this;simp only[↓aX,mX,seval,N0,ib,bA];cases h3:(v !=(d.length:Int)) with
 |true=>
  have:Vo d=false:=XX fun h=>by have:=h.wk;rw[hr] at this;cases this;simp at h3
  simp only[↓aX,mX,seval,this]
 |false=>
 have Hl:v=d.length:=by simpa using h3
 rw[Hl] at hr;obtain⟨x,D1,T8⟩:=agK hr;simp only[↓aX,mX,seval];refine ay (hA x T8) ?_;simp only[↓aX,mX,seval];refine ay (hG x T8) ?_;simp only[↓aX,mX,seval];rw[T8,abj]
def amz (Vd x8:Nat):AC:=
(aM [zzX 2 0,aQ 4 (.new [(.bool false),(.str []),.nil0,.nil0]),gH 5 0] (.seq (aM [gz 6 1 2,aQ 7 (.call Vd [(.t 6)]),sB 8 7] (.cond (.t 8) (aM [aQ 9 (.sg [(.bool false),(.str []),.nil0,.nil0] []),gg (.store 4 (.t 4) (.t 9)),gH 5 1] .ret) .skip)) (.seq (aM [MR 10 1,eY 11 .lss 10 0,MR 12 11,gV 13 12 1,oH 14 12 2 0,oG 15 12 14,iR 16 12 (.len (.t 15)),iR 17 12 (.bin .geq (.t 13) (.t 16)),sj 18 12 17] (.cond (.t 18) (aM [aQ 19 (.sg [(.bool false),(.str []),.nil0,.nil0] []),gg (.store 4 (.t 4) (.t 19)),gH 5 3] .ret) .skip)) (aM [gz 20 1 2,MR 21 1,aQ 22 (.call x8 [(.t 20),(.t 21)]),gg (.store 4 (.t 4) (.t 22)),gH 5 0] .ret))))
def ape {P:Program} {G:Nat→Option (List IV)} {alc Vd x8:Nat} (hF:aw P G alc=some (23,[((some (some 4)),4),(none,5)],(amz Vd x8).bare)) (d:Doc) (hd:zn d≤B) (n:Int)
  (hG:au P G Vd [Doc.av d] (.bool (Vo d))) (hA:∀(m:Nat) (q:Int) (x:Tree),oc d m q x→au P G x8 [Doc.av d,.int .i64 m] x.av) :
  au P G alc [Doc.av d,.int .i64 n] (.gf [(aec d n).1.av,.int .i64 (aec d n).2]):=by
 refine Ws hF N7 P9 (by simp[AV.an,ah,Tree.av]) ?_;unfold amz;simp only[↓aX,mX,seval,Doc.av,bA];refine ay hG ?_;cases hg:Vo d with
 |false=>
  simp only[↓aX,mX,seval,kq];simp[norm,fi,aec,hg,Tree.av,Tree.text,Tree.s,Tree.attrs,Tree.kids];exact⟨rfl,rfl⟩
 |true=>
 obtain⟨t,ht,rfl⟩:=XW.1 hg;simp only[↓aX,mX,seval,bA];cases h1:decide (n<0) with
 |true=>
  have:aec (lW t) n=(.mk false [] [] [],3):=by unfold aec;rw[eE hg,cY (by simp at h1;omega)]
  simp only[↓aX,mX,seval,kq];rw[this];rfl
 |false=>
 obtain⟨m,rfl⟩:∃m:Nat,n=m:=⟨n.toNat,by simp at h1;omega⟩;simp only[↓aX,mX,seval,bA];cases h2:decide ((m:Int)≥((lW t).length:Int)) with
 |true=>
  have:aec (lW t) m=(.mk false [] [] [],3):=by unfold aec;rw[eE hg,cY (by simp at h2;omega)]
  simp only[↓aX,mX,seval,kq];rw[this];rfl
 |false=>
 obtain⟨q,y,l,s⟩:=ZR (t:=t) (n:=m) (by simp at h2;omega);simp only[↓aX,mX,seval];refine ay (hA m q y l) ?_;simp only[↓aX,mX,seval,kq,Tree.av];rw[aed ht s];rfl

def Ot (Oy Ok:Nat):AC:=
(aM [jM 2 false] (aM [gH 3 0] (.seq (aM [MR 8 0,oy 9 8,gH 10 0] (.block 0 (.loop (aM [et 11 .lss 10 9] (.seq (.cond (.t 11) .skip (.exit 0)) (.seq (.block 1 (aM [jL 12 8 10 4,gz 13 4 12,aQ 5 (.new [(.bool false),(.str []),.nil0,.nil0]),gg (.store 4 (.t 5) (.t 13))] (aM [gz 15 4 5,aQ 16 (.call Oy [(.t 15)]),MR 14 16,ox 17 14 0,ox 18 14 1,MR 6 17,MR 7 18] (.seq (aM [MR 19 6,eY 20 .gtr 19 8] (.cond (.t 20) (aM [jM 2 false] .ret) .skip)) (.cq [MR 21 3,MR 22 7,et 23 .add 21 22,MR 3 23]))))) (.cq [eY 24 .add 10 1,MR 10 24]))))))) (aM [MR 25 3,eY 26 .leq 25 80,MR 27 26,cU 28 27 0,dW 29 27 (.call Ok [(.t 28)]),jT 30 27 29,MR 2 30] .ret))))
def content (l:List Tree):Bool:=l.all (fun x=>decide (x.dep≤8))&&(decide (dP l≤80)&&bQ none l)
def R1 {P:Program} {G:Nat→Option (List IV)} {No Oy Ok:Nat} (hF:aw P G No=some (31,[(none,2)],(Ot Oy Ok).bare)) (l:List Tree) (hx:dE l≤B)
  (hS:∀x∈l,au P G Oy [x.av] (.gf [.int .i64 x.dep,.int .i64 x.jz])) (Gn:au P G Ok [.list (dq l)] (.bool (bQ none l))):au P G No [.list (dq l)] (.bool (content l)):=by
 refine aR hF N7 PC Pv ?_;have hl:=eZ l;unfold Ot;simp only[↓aX,mX,seval,bF];refine VR (σ:={i:Nat // i≤l.length∧(l.take i).all (fun x=>decide (x.dep≤8))=true}) (fun q=>[(0,.list (dq l)),(3,.int .i64 (dP (l.take q.1))),(8,.list (dq l)),(9,.int .i64 l.length),(10,.int .i64 q.1)]) (fun q=>l.length - q.1) ⟨0,N7⟩ (fun _=>rfl) ?_ ?_
 ·exact⟨by simp only[↓aX,mX,seval],PD⟩
 rintro⟨i,hi,hs⟩;simp only[↓aX,mX,seval,bF];refine AU (fun h=> ?_) (fun h=> ?_)
 ·have bI:i<l.length:=by simpa using h
  obtain⟨x,Ja⟩:∃x,l[i]?=some x:=⟨_,bS bI⟩;have hw:IntKind.i64.wrap ((i:Int)+1)=((i+1:Nat):Int):=wrap64 tM (by unfold B at hx;omega);have h2:=lV l i;have h3:=ql (l.take i);have h5:=jx _ _ _ Ja;have h6:=x.td;have h1:l.take (i+1)=l.take i++[x]:=by rw[yf,Ja];rfl
  have hc:IntKind.i64.wrap ((dP (l.take i):Int)+(x.jz:Int))=((dP (l.take (i+1)):Nat):Int):=by
   rw[wrap64 tM (by unfold B at hx;omega),h1,lU];simp[dP]
  simp only[↓aX,mX,seval,iy,Ja,lT,Tree.cJ,Tree.cs];refine ay (hS x (dc Ja)) ?_;simp only[↓aX,mX,seval];refine AU (fun h9=> ?_) (fun h9=> ?_)
  ·simp only[↓aX,mX,seval];have:l.all (fun x=>decide (x.dep≤8))=false:=by
    rw[qA];intro dN;have:=yq.1 dN x (dc Ja);simp at this h9;omega
   rw[content,this];rfl
  simp only[↓aX,mX,seval,hw,hc];refine⟨⟨i+1,bI,?_⟩,Pq,by simp only[↓aX,mX,seval],PD⟩;rw[h1,List.all_append,hs];simp at h9 ⊢;omega
 have XV:i=l.length:=by simp at h;omega
 subst XV;rw[va] at hs;simp only[↓aX,mX,seval,va];cases h9:decide ((dP l:Int)≤80) with
 |true=>
  simp only[↓aX,mX,seval];refine ay Gn ?_;simp only[↓aX,mX,seval];have:decide (dP l≤80)=true:=by simp at h9 ⊢;omega
  rw[content,hs,this];rfl
 |false=>
 simp only[↓aX,mX,seval];have:decide (dP l≤80)=false:=by simp at h9 ⊢;omega
 rw[content,hs,this];rfl

def acf (x:Tree):oc (lW x) 0 (-1) x:=⟨[],Qb⟩

section
variable {P:Program}
def Sh.Cg {t:TypeId} {y:IV} (h:Sh P t y) (hu:P.underlying t=some .bool):∃x,y= .bool x:=by
 cases h<;>simp_all
def Sh.Ch {t:TypeId} {y:IV} {k:IntKind} (h:Sh P t y) (hu:P.underlying t=some (.int k)):∃n,y= .int k n∧(Lit.int k n).wf=true:=by
 cases h<;>simp_all
def Sh.uJ {t:TypeId} {y:IV} (h:Sh P t y) (hu:P.underlying t=some .string):∃x,y= .str x:=by
 cases h<;>simp_all
def Sh.ZY {t e:TypeId} {y:IV} (h:Sh P t y) (hu:P.underlying t=some (.slice e)):∃ys,y= .list ys∧∀y∈ys,Sh P e y:=by
 cases h<;>simp_all
def Sh.x9 {t:TypeId} {fs:Array Field} {y:IV} (h:Sh P t y) (hu:P.underlying t=some (.struct fs)) :
  ∃ys,y= .agg ys∧ys.length=fs.size∧∀(j:Nat) (f:Field) (y:IV),fs[j]?=some f→ys[j]?=some y→Sh P f.type y:=by
 cases h with
 |g DG h1 h2=>
  rw[DG] at hu;cases hu;exact⟨_,rfl,h1,h2⟩
 |_=>simp_all
structure Ci (P:Program) where
 tB:TypeId
 tS:TypeId
 tA:TypeId
 EZ:TypeId
 tT:TypeId
 HB:TypeId
 fA:Array Field
 fT:Array Field
 uB:P.underlying tB=some .bool
 uS:P.underlying tS=some .string
 I3:P.underlying EZ=some (.slice tA)
 Kg:P.underlying HB=some (.slice tT)
 uA:P.underlying tA=some (.struct fA)
 uT:P.underlying tT=some (.struct fT)
 sA:fA.toList.map (·.type)=[tS,tS]
 sT:fT.toList.map (·.type)=[tB,tS,EZ,HB]
def eC {fs:Array Field} {ts:List TypeId} (h:fs.toList.map (·.type)=ts) (j:Nat) (t:TypeId) (ht:ts[j]?=some t):∃f,fs[j]?=some f∧f.type=t:=by
 subst h;rw[cn] at ht;obtain⟨f,h1,rfl⟩:=bR.1 ht;exact⟨f,by simpa using h1,rfl⟩
def Sh.attr (T:Ci P) {y:IV} (h:Sh P T.tA y):∃a:Attr,y=a.iv∧a.wt≤y.wt:=by
 obtain⟨ys,rfl,hl,hy⟩:=h.x9 T.uA;have hs:T.fA.size=2:=by have:=GB List.length T.sA;simpa using this
 match ys,hl.trans hs,hy with
 |[y0,y1],_,hy=>
  obtain⟨f0,e0,t0⟩:=eC T.sA 0 T.tS rfl;obtain⟨f1,e1,t1⟩:=eC T.sA 1 T.tS rfl;have h0:=hy 0 f0 y0 e0 rfl;have h1:=hy 1 f1 y1 e1 rfl;rw[t0] at h0;rw[t1] at h1;obtain⟨x0,rfl⟩:=h0.uJ T.uS;obtain⟨x1,rfl⟩:=h1.uJ T.uS;exact⟨⟨x0,x1⟩,rfl,by simp[Attr.wt,IV.wt,k9];omega⟩
theorem Sh.attrs (T:Ci P):∀(ys:List IV),(∀y∈ys,Sh P T.tA y)→∃az,ys=cD az∧dX az≤k9 ys
 |[],_=>⟨[],rfl,by simp[dX,k9]⟩
 |y::r,h=>by
  obtain⟨a,rfl,h1⟩:=(h y N7).attr T;obtain⟨az,rfl,h2⟩:=Sh.attrs T r (fun z hz=>h z (by simp[hz]));exact⟨a::az,rfl,by simp only[dX,k9];omega⟩
end

mutual
theorem Tree.ZZ (off:Nat) (p:Int):∀x:Tree,zn (x.flat off p)+1≤2*x.wt
 | .mk t s az ks=>by
  have:=Zx (off+1) off ks;simp only[Tree.flat,zn,Node.wt,Tree.wt,VS];omega
theorem Zx (off p:Nat):∀xs:List Tree,zn (akX off p xs)+xs.length≤2*dE xs
 |[]=>by simp[dE,akX,zn]
 |k::r=>by
  have:=k.ZZ off p;have:=Zx (off+k.jz) p r;simp only[akX,nv,dE,gL];omega
end
def aeg (x:Tree):zn (lW x)≤2*x.wt:=by have:=x.ZZ 0 (-1);unfold lW;omega
section
variable {P:Program}
structure Kh (P:Program) (T:Ci P) where
 tI:TypeId
 I4:TypeId
 tN:TypeId
 Ki:TypeId
 tD:TypeId
 fN:Array Field
 fD:Array Field
 uI:P.underlying tI=some (.int .i64)
 Lm:P.underlying I4=some (.slice tI)
 uN:P.underlying tN=some (.struct fN)
 Mr:P.underlying Ki=some (.slice tN)
 uD:P.underlying tD=some (.struct fD)
 sN:fN.toList.map (·.type)=[T.tB,T.tS,T.EZ,tI,I4]
 sD:fD.toList.map (·.type)=[Ki]
theorem Sh.ints {T:Ci P} (D:Kh P T):∀(ys:List IV),(∀y∈ys,Sh P D.tI y)→∃xs:List Int,ys=xs.map xX∧xs.length≤k9 ys
 |[],_=>⟨[],rfl,by simp[k9]⟩
 |y::r,h=>by
  obtain⟨n,rfl,_⟩:=(h y N7).Ch D.uI;obtain⟨xs,rfl,h2⟩:=Sh.ints D r (fun z hz=>h z (by simp[hz]));exact⟨n::xs,rfl,by simp only[gL,k9,IV.wt];omega⟩
def Sh.node {T:Ci P} (D:Kh P T) {y:IV} (h:Sh P D.tN y):∃x:Node,y=x.iv∧x.wt≤y.wt:=by
 obtain⟨ys,rfl,hl,sn⟩:=h.x9 D.uN;have hs:D.fN.size=5:=by have:=GB List.length D.sN;simpa using this
 match ys,hl.trans hs,sn with
 |[y0,y1,y2,y3,y4],_,sn=>
  obtain⟨f0,e0,t0⟩:=eC D.sN 0 T.tB rfl;obtain⟨f1,e1,t1⟩:=eC D.sN 1 T.tS rfl;obtain⟨f2,e2,t2⟩:=eC D.sN 2 T.EZ rfl;obtain⟨f3,e3,t3⟩:=eC D.sN 3 D.tI rfl;obtain⟨f4,e4,t4⟩:=eC D.sN 4 D.I4 rfl;have h0:=sn 0 f0 y0 e0 rfl;have h1:=sn 1 f1 y1 e1 rfl;have h2:=sn 2 f2 y2 e2 rfl;have h3:=sn 3 f3 y3 e3 rfl;have h4:=sn 4 f4 y4 e4 rfl;rw[t0] at h0;rw[t1] at h1;rw[t2] at h2;rw[t3] at h3;rw[t4] at h4;obtain⟨b,rfl⟩:=h0.Cg T.uB;obtain⟨s,rfl⟩:=h1.uJ T.uS;obtain⟨z2,rfl,g2⟩:=h2.ZY T.I3;obtain⟨p,rfl,_⟩:=h3.Ch D.uI;obtain⟨z4,rfl,g4⟩:=h4.ZY D.Lm;obtain⟨az,rfl,w2⟩:=Sh.attrs T z2 g2;obtain⟨ks,rfl,w4⟩:=Sh.ints D z4 g4;exact⟨⟨b,s,az,p,ks⟩,rfl,by simp only[Node.wt,IV.wt,k9];omega⟩
theorem Sh.nodes {T:Ci P} (D:Kh P T):∀(ys:List IV),(∀y∈ys,Sh P D.tN y)→∃d:Doc,ys=d.map Node.iv∧zn d≤k9 ys
 |[],_=>⟨[],rfl,by simp[k9,zn]⟩
 |y::r,h=>by
  obtain⟨x,rfl,h1⟩:=(h y N7).node D;obtain⟨d,rfl,h2⟩:=Sh.nodes D r (fun z hz=>h z (by simp[hz]));exact⟨x::d,rfl,by simp only[zn,k9];omega⟩
end

structure Step where
 name:Bs
 n:Int
def Step.cs (x:Step):List IV:=[.str x.name,.int .i64 x.n]
def Step.iv (x:Step):IV:= .agg x.cs
def Step.av (x:Step):AV:= .agg [.str x.name,.int .i64 x.n]
def al1 (s:Step):Bool:=(s.name==[]||(s.name==[42]||named s.name))&&(decide (0≤s.n)&&decide (s.n≤99))
def ak6 (l:List Step):Bool:=l.all al1&&(decide (1≤l.length)&&decide (l.length≤5))
def Ha (text:Bool) (s:Bs) (name:Bs):Bool:=if name==[]||text then name==[]&&text else name==[42]||name==s
def kz (d:Doc) (s:Step):Nat→List Int→List Int
 |_,[]=>[]
 |k,n::r=>match d[n.toNat]? with
  |some x=>if Ha x.text x.s s.name then(if s.n=0∨s.n=((k+1:Nat):Int) then n::kz d s (k+1) r else kz d s (k+1) r) else kz d s k r
  |none=>kz d s k r
def al6 (d:Doc) (n:Int):List Int:=match d[n.toNat]? with
 |some x=>x.kids
 |none=>[]
def ama (d:Doc):List Int→List Step→List Int
 |now,[]=>now
 |now,s::l=>ama d (now.flatMap fun n=>kz d s 0 (al6 d n)) l
def akU (d:Doc):List Step→List Int
 |[]=>[]
 |s::l=>ama d (kz d s 0 [0]) l
theorem anX (d:Doc):∀(l:List Step) (a b:List Int),ama d (a++b) l=ama d a l++ama d b l
 |[],a,b=>rfl
 |s::l,a,b=>by simp only[ama,tG,anX d l]
theorem am4 (d:Doc):∀(l:List Step),ama d [] l=[]
 |[]=>rfl
 |s::l=>by simp only[ama,Ke,am4 d l]
theorem anu (d:Doc):∀(l:List Step) (a:List Int),ama d a l=a.flatMap fun n=>ama d [n] l
 |l,[]=>by simp[am4]
 |l,n::r=>by rw[show n::r=[n]++r from rfl,anX,anu d l r];simp
theorem anv (d:Doc) (s:Step):∀(l:List Step) (a:List Int),ama d a (l++[s])=(ama d a l).flatMap fun n=>kz d s 0 (al6 d n)
 |[],a=>rfl
 |t::l,a=>by simp only[List.cons_append,ama,anv d s l]
def alN (d:Doc) (name:Bs) (k:Nat):Bool:=match d[k]? with
 |some x=>Ha x.text x.s name
 |none=>false
def am5 (d:Doc) (p:Int) (k:Nat):Bool:=match d[k]? with
 |some x=>x.parent==p
 |none=>false
def amA (d:Doc) (p:Int) (name:Bs) (n:Nat):Nat:=((List.range (n+1)).filter fun k=>am5 d p k&&alN d name k).length
def ak9 (d:Doc):List Step→Nat→Bool
 |[],_=>false
 |s::l,n=>match d[n]? with
  |some x=>alN d s.name n&&((if x.parent<0 then l.isEmpty else(!l.isEmpty&&ak9 d l x.parent.toNat))&&(s.n==0||s.n==((amA d x.parent s.name n:Nat):Int)))
  |none=>false

section
variable {P:Program}
structure TyP (P:Program) (T:Ci P) where
 tI:TypeId
 tP:TypeId
 tPs:TypeId
 fP:Array Field
 uI:P.underlying tI=some (.int .i64)
 uP:P.underlying tP=some (.struct fP)
 uPs:P.underlying tPs=some (.slice tP)
 sP:fP.toList.map (·.type)=[T.tS,tI]
def Sh.step {T:Ci P} (D:TyP P T) {y:IV} (h:Sh P D.tP y):∃x:Step,y=x.iv∧1+x.name.length≤y.wt:=by
 obtain⟨ys,rfl,hl,sn⟩:=h.x9 D.uP;have hs:D.fP.size=2:=by have:=GB List.length D.sP;simpa using this
 match ys,hl.trans hs,sn with
 |[y0,y1],_,sn=>
  obtain⟨f0,e0,t0⟩:=eC D.sP 0 T.tS rfl;obtain⟨f1,e1,t1⟩:=eC D.sP 1 D.tI rfl;have h0:=sn 0 f0 y0 e0 rfl;have h1:=sn 1 f1 y1 e1 rfl;rw[t0] at h0;rw[t1] at h1;obtain⟨s,rfl⟩:=h0.uJ T.uS;obtain⟨p,rfl,_⟩:=h1.Ch D.uI;exact⟨⟨s,p⟩,rfl,by simp only[IV.wt,k9];omega⟩
end
end Go.Am
