import Derived.Test.YtfinkeaikbmpgaaGreatDoorKT21
import Derived.Test.YtfinkeaikbmpgaaGreatDoorKT15
import Derived.Test.YtfinkeaikbmpgaaGreatDoorKT9
set_option linter.unusedSimpArgs false
set_option linter.unusedVariables false
set_option linter.unnecessarySimpa false
set_option linter.defProp false
/- Documents alike, copied; the tree at a place, by parents. -/
namespace Go.Am
open Go Go.RowKit
def V4:AC:=
(aM [jM 4 false] (.seq (aM [MR 6 0,oy 7 6,MR 8 1,oy 9 8,et 10 .neq 7 9] (.cond (.t 10) (aM [jM 4 false] .ret) .skip)) (.seq (aM [MR 11 0,oy 12 11,gH 13 0] (.block 0 (.loop (aM [et 14 .lss 13 12] (.seq (.cond (.t 14) .skip (.exit 0)) (.seq (.block 1 (aM [MR 15 13,MR 5 15] (.seq (.VL [MR 16 0,MR 17 5,jL 18 16 17 1,fm 19 18,MR 20 1,MR 21 5,jL 22 20 21 1,fm 23 22,et 24 .neq 19 23] [[],[],[0,1],[2],[],[],[4,5],[6],[3,7]] [.no,.no,.no,.no,.no,.no,.no,.no,.no]) (.cond (.t 24) (aM [jM 4 false] .ret) .skip)))) (.cq [eY 25 .add 13 1,MR 13 25]))))))) (aM [jM 4 true] .ret))))
def adr {x y:Int} (h:x≠y):(x !=y)=true:=by simpa using h
def aej (n:Int):(xX n).cells=[.int .i64 n]:=rfl
def aaY {P:Program} {G:Nat→Option (List IV)} {Rg:Nat} (hF:aw P G Rg=some (26,[(none,4)],V4.bare)) (xs ys:List Int) (hx:xs.length≤B) :
  au P G Rg [.list (xs.map xX),.list (ys.map xX)] (.bool (P2 xs ys)):=by
 refine aR hF (by simp) (by simp[ah,AV.an]) (by simp[AV.an]) ?_;unfold V4;simp only[↓aX,mX,seval,ax];by_cases hl:xs.length=ys.length
 ·rw[show((xs.length:Int) !=(ys.length:Int))=false by simp[hl]];simp only[↓aX,mX,seval,ax];refine VR (σ:={i:Nat // i≤xs.length∧∀j,j<i→xs[j]?=ys[j]?}) (fun q=>[(0,.list (xs.map xX)),(1,.list (ys.map xX)),(12,.int .i64 xs.length),(13,.int .i64 q.1)]) (fun q=>xs.length - q.1) ⟨0,by simp⟩ (fun _=>rfl) ?_ ?_
  ·exact⟨by simp only[↓aX,mX,seval],by repeat' constructor⟩
  rintro⟨i,hi,hs⟩;simp only[↓aX,mX,seval,ax];by_cases bI:i<xs.length
  ·rw[show decide ((i:Int)<(xs.length:Int))=true by simpa using bI];obtain⟨x,D1⟩:∃x,xs[i]?=some x:=⟨_,aC bI⟩;obtain⟨y,zl⟩:∃y,ys[i]?=some y:=⟨_,aC (hl▸bI)⟩;simp only[↓aX,mX,seval,aaX,D1,zl,bT,YN,aej];refine⟨rfl,?_⟩;by_cases KW:x=y
   ·subst KW;have hw:IntKind.i64.wrap ((i:Int)+1)=((i+1:Nat):Int):=wrap64 (by omega) (by unfold B at hx;omega);rw[show(x !=x)=false by simp];simp only[↓aX,mX,seval,hw];refine⟨⟨i+1,bI,fun j hj=> ?_⟩,by simp only;omega,rfl⟩;by_cases e:j=i
    ·rw[e,D1,zl]
    exact hs j (by omega)
   have Vi:xs≠ys:=fun e=>KW (by rw[e,zl] at D1;cases D1;rfl);rw[adr KW];simp only[↓aX,mX,seval,NJ Vi]
  rw[show decide ((i:Int)<(xs.length:Int))=false by simpa using bI];simp only[↓aX,mX,seval];have:xs=ys:=fe fun j=>by
   by_cases hj:j<i
   ·exact hs j hj
   rw[dV (by omega),dV (by omega)]
  rw[this,Oh]
 rw[show((xs.length:Int) !=(ys.length:Int))=true by simp;omega];have:xs≠ys:=fun e=>hl (by rw[e]);simp only[↓aX,mX,seval,NJ this]
def Wt (VO Rg:Nat):AC:=
(aM [sC 2 0,sC 3 1,jM 4 false] (.seq (aM [ep 8 2 0,fm 9 8,oy 10 9,ep 11 3 0,fm 12 11,oy 13 12,et 14 .neq 10 13] (.cond (.t 14) (aM [jM 4 false] .ret) .skip)) (.seq (aM [ep 15 2 0,fm 16 15,oy 17 16,gH 18 0] (.block 0 (.loop (aM [et 19 .lss 18 17] (.seq (.cond (.t 19) .skip (.exit 0)) (.seq (.block 1 (aM [MR 20 18,MR 5 20] (.seq (.VL [ep 21 2 0,fm 22 21,MR 23 5,jL 24 22 23 5,gz 25 5 24,ep 26 3 0,fm 27 26,MR 28 5,jL 29 27 28 5,gz 30 5 29,aQ 6 (.new [(.bool false),(.str []),.nil0,(.int .i64 0),.nil0]),aQ 7 (.new [(.bool false),(.str []),.nil0,(.int .i64 0),.nil0]),gg (.store 5 (.t 6) (.t 25)),gg (.store 5 (.t 7) (.t 30))] [[],[0],[],[1,2],[3],[],[5],[],[6,7],[8],[],[],[10,4,0,1,2,3,4,10,11],[11,9,12,0,1,2,3,4,5,6,7,8,9,10,11,12]] [.no,.rw [.loc 2] [],.no,.no,.no,.no,.rw [.loc 3] [],.no,.no,.no,.rw [] [.loc 6],.rw [] [.loc 7],.rw [] [.loc 6],.rw [] [.loc 7]]) (aM [ep 31 6 0,fm 32 31,ep 33 7 0,fm 34 33,aQ 35 (.eqb true (.t 32) (.t 34)),MR 36 35,oH 37 36 6 1,oG 38 36 37,oH 39 36 7 1,oG 40 36 39,iR 41 36 (.bin .neq (.t 38) (.t 40)),sj 42 36 41,MR 43 42,oH 44 43 6 3,oG 45 43 44,oH 46 43 7 3,oG 47 43 46,iR 48 43 (.bin .neq (.t 45) (.t 47)),sj 49 43 48,MR 50 49,oH 51 50 6 2,oG 52 50 51,oH 53 50 7 2,oG 54 50 53,iR 55 50 (.call VO [(.t 52),(.t 54)]),iR 56 50 (.not (.t 55)),sj 57 50 56,MR 58 57,oH 59 58 6 4,oG 60 58 59,oH 61 58 7 4,oG 62 58 61,iR 63 58 (.call Rg [(.t 60),(.t 62)]),iR 64 58 (.not (.t 63)),sj 65 58 64] (.cond (.t 65) (aM [jM 4 false] .ret) .skip))))) (.cq [eY 66 .add 18 1,MR 18 66]))))))) (aM [jM 4 true] .ret))))
def aaZ (d e:Doc) (i:Nat):List (Nat×AV):=[(2,.ptr (.loc 2) 1 0 0),(3,.ptr (.loc 3) 1 0 0),(17,.int .i64 d.length),(18,.int .i64 i)]
def acg (d e:Doc):List (Lb×Row):=[(.loc 2,⟨1,[[.list (d.map Node.iv)]]⟩),(.loc 3,⟨1,[[.list (e.map Node.iv)]]⟩)]
def aek {P:Program} {G:Nat→Option (List IV)} {tk VO Rg:Nat} (hF:aw P G tk=some (67,[(none,4)],(Wt VO Rg).bare)) (d e:Doc) (hd:zn d≤B)
  (hA:∀x∈d,∀y∈e,au P G VO [.list (cD x.attrs),.list (cD y.attrs)] (.bool (P2 x.attrs y.attrs)))
  (hN:∀x∈d,∀y∈e,au P G Rg [.list (x.kids.map xX),.list (y.kids.map xX)] (.bool (P2 x.kids y.kids))) :
  au P G tk [Doc.av d,Doc.av e] (.bool (P2 d e)):=by
 refine aR hF (by simp) (by simp[ah,AV.an,Doc.av]) (by simp[AV.an]) ?_;have zR:=XR d;unfold Wt;simp only[↓aX,mX,seval,Doc.av,ax];by_cases hl:d.length=e.length
 ·rw[show((d.length:Int) !=(e.length:Int))=false by simp[hl]];simp only[↓aX,mX,seval,ax];refine ca (σ:={i:Nat // i≤d.length∧∀j,j<i→d[j]?=e[j]?}) [.loc 2,.loc 3] (fun q=>aaZ d e q.1) (fun _=>acg d e) (fun q=>d.length - q.1) ⟨0,by simp⟩
   (fun _=>rfl) (by decide) (by simp[ah,AV.an,aaZ]) (by
    intro q r hr cs bV l hl;simp only[acg,bb,b5,b7] at hr;rcases hr with rfl|rfl<;>(simp only[aW] at bV;subst bV;simp[ah,AV.an] at hl)) ?_ ?_
  ·exact eL (by simp only[uu,rn]) (by unfold aaZ;repeat' constructor) ⟨rfl,rfl,trivial⟩
  rintro⟨i,hi,hs⟩;simp only[↓aX,mX,seval,aaZ,acg,cF,bW];by_cases bI:i<d.length
  ·rw[show decide ((i:Int)<(d.length:Int))=true by simpa using bI];obtain⟨x,D1⟩:∃x,d[i]?=some x:=⟨_,aC bI⟩;obtain⟨y,zl⟩:∃y,e[i]?=some y:=⟨_,aC (hl▸bI)⟩;have Md:=aV D1;have hym:=aV zl;have stop:x≠y→P2 d e=false:=fun h=>NJ fun he=>h (by rw[he,zl] at D1;cases D1;rfl);have hw:IntKind.i64.wrap ((i:Int)+1)=((i+1:Nat):Int):=wrap64 (by omega) (by unfold B at hd;omega);simp only[↓aX,mX,seval,Doc.XF D1,Doc.XF zl,Xx,Node.cJ,Node.cs];refine⟨rfl,?_⟩;cases h1:(x.text==y.text) with
   |false=>
    have Vi:x≠y:=(by rintro rfl;simp at h1);simp only[↓aX,mX,seval,stop Vi]
   |true=>
   simp only[↓aX,mX,seval];cases h2:(x.s==y.s) with
   |false=>
    have Vi:x≠y:=(by rintro rfl;simp at h2);simp only[↓aX,mX,seval,bx,stop Vi]
   |true=>
   simp only[↓aX,mX,seval,bG];cases h3:(x.parent !=y.parent) with
   |true=>
    have Vi:x≠y:=(by rintro rfl;simp at h3);simp only[↓aX,mX,seval,stop Vi]
   |false=>
   simp only[↓aX,mX,seval];refine ay (hA x Md y hym) ?_;by_cases h4:x.attrs=y.attrs
   ·rw[h4,Oh];simp only[↓aX,mX,seval,bG];refine ay (hN x Md y hym) ?_;by_cases h5:x.kids=y.kids
    ·rw[h5,Oh];simp only[↓aX,mX,seval,bG,hw];refine⟨⟨i+1,bI,fun j hj=> ?_⟩,by simp only;omega,eL ?_ ⟨rfl,rfl,rfl,rfl,trivial⟩ ⟨rfl,rfl,trivial⟩⟩
     ·by_cases ej:j=i
      ·rw[ej,D1,zl];congr 1;exact Node.ext' (by simpa using h1) (by simpa using h2) h4 (by simpa using h3) h5
      exact hs j (by omega)
     intro l II hu;by_cases e0:l= .loc 2
     ·subst e0;simp
     by_cases e1:l= .loc 3
     ·subst e1;simp
     exfalso;apply hu;cases l<;>simp_all[Lb.fresh,ae,Hp.none]
    have Vi:x≠y:=(by rintro rfl;exact h5 rfl);rw[NJ h5];simp only[↓aX,mX,seval,bx,stop Vi]
   have Vi:x≠y:=(by rintro rfl;exact h4 rfl);rw[NJ h4];simp only[↓aX,mX,seval,bx,stop Vi]
  rw[show decide ((i:Int)<(d.length:Int))=false by simpa using bI];simp only[↓aX,mX,seval];have:d=e:=fe fun j=>by
   by_cases hj:j<i
   ·exact hs j hj
   rw[dV (by omega),dV (by omega)]
  rw[this,Oh]
 rw[show((d.length:Int) !=(e.length:Int))=true by simp;omega];have:d≠e:=fun h=>hl (by rw[h]);simp only[↓aX,mX,seval,NJ this]

def Wu:AC:=
(aM [sC 1 0,aQ 2 (.new [.nil0])] (aM [aQ 3 (.new [.nil0])] (.seq (.gh .vk (aM [ep 6 1 0,fm 7 6,oy 8 7,gH 9 0] (.block 0 (.loop (aM [et 10 .lss 9 8] (.seq (.cond (.t 10) .skip (.exit 0)) (.seq (.block 1 (aM [jL 11 7 9 5,gz 12 5 11,aQ 5 (.new [(.bool false),(.str []),.nil0,(.int .i64 0),.nil0]),gg (.store 5 (.t 5) (.t 12))] (.seq (.VL [ep 13 5 2,fm 14 13,aQ 15 (.app (.c .nil0) (.t 14) 2 32),ep 16 5 4,fm 17 16,aQ 18 (.app (.c .nil0) (.t 17) 1 8),ep 19 5 2,gg (.store 1 (.t 19) (.t 15)),ep 20 5 4,gg (.store 1 (.t 20) (.t 18))] [[],[0],[1],[],[3],[4,2],[0,1,2,3,4],[6,2,5,0,1,2,3,4],[0,1,2,3,4,5,6,7],[8,5,7,0,1,2,3,4,5,6,7]] [.no,.rw [.loc 5] [],.rw [] [.loc 15],.no,.rw [.loc 5] [],.rw [] [.loc 18],.no,.rw [] [.loc 5],.no,.rw [] [.loc 5]]) (.gh .vk (.cq [ep 21 3 0,fm 22 21,gz 23 5 5,aQ 24 (.lits 1 5 [(.bool false),(.str []),.nil0,(.int .i64 0),.nil0] [(0,(.t 23))]),aQ 25 (.app (.t 22) (.t 24) 5 80),ep 26 3 0,gg (.store 1 (.t 26) (.t 25))]))))) (.cq [eY 27 .add 9 1,MR 9 27])))))))) (.gh (.xd (.loc 1000) (.loc 3) 0) (aM [gz 28 1 3,gg (.store 1 (.t 2) (.t 28))] .ret)))))
def ach (a b:Lb) (xs:Nat×List IV) (ys:Nat×List IV):Lb→Option (Nat×List IV):=fun l=>if l=a then some xs else if l=b then some ys else none
def ael {P:Program} {G:Nat→Option (List IV)} {Ve:Nat} (hF:aw P G Ve=some (29,[((some (some 1)),2)],Wu.bare)) (d:Doc) (hd:zn d≤B) :
  au P G Ve [Doc.av d] (Doc.av d):=by
 refine Ws hF (by simp) (by simp[ah,AV.an,Doc.av]) (by simp[AV.an,ah,Doc.av]) ?_;have zo:B=1073741824:=rfl;have zR:=XR d;unfold Wu;simp only[↓aX,mX,seval,Doc.av,ax];rw[Ox];refine⟨_,_,Qm (q:= .loc 3) (cs:=[.nil0]) (j:=0) (d:=1000) (sz:=5) rfl rfl (by simp[ae,Hp.none]) (by decide),?_⟩;simp only[↓aX,mX,seval];refine pe (σ:={i:Nat // i≤d.length}) (fun _=>[.loc 2,.loc 3,.loc 1000]) (fun _ _=>false)
  (fun q=>[(2,.ptr (.loc 2) 1 0 0),(3,.ptr (.loc 3) 1 0 0),(7,.list (d.map Node.iv)),(8,.int .i64 d.length),(9,.int .i64 q.1)])
  (fun q=>[(.loc 2,⟨1,[[.nil0]]⟩),(.loc 3,⟨1,[[.sl (.loc 1000) 5 0 q.1]]⟩),(.loc 1000,⟨5,aB ((d.take q.1).map Node.iv)⟩)])
  (fun q=>d.length - q.1) ⟨0,gS _⟩ (fun _=>rfl) (fun q=>by simp[ah,AV.an]) ?_ ⟨[],?_⟩ ?_
 ·rintro q r hr cs bV l hl;simp only[bb,b5,b7] at hr;rcases hr with rfl|rfl|rfl
  ·simp only[aW] at bV;subst bV;simp[ah,AV.an] at hl
  ·simp only[aW] at bV;subst bV;simp[ah,AV.an] at hl;subst hl;simp
  rw[bU bV] at hl;simp at hl
 ·refine⟨?_,?_,?_,by simp[dn],fun l _=>⟨id,fun _=>rfl⟩⟩
  ·intro l hf hu;exfalso;apply hu;cases l<;>simp_all[Lb.fresh,ae,Hp.none]
  ·simp[k_,dn,bJ,put]
  simp[tc,dn,ae,dO,bu,bJ,aB]
 rintro⟨i,hi⟩;rw[Cf];simp only[↓aX,mX,seval,cF,bW];by_cases bI:i<d.length
 ·rw[show decide ((i:Int)<(d.length:Int))=true by simpa using bI];obtain⟨x,hx⟩:∃x,d[i]?=some x:=⟨_,aC bI⟩;have hw:IntKind.i64.wrap ((i:Int)+1)=((i+1:Nat):Int):=wrap64 (by omega) (by omega);have hxw:=Y2 (aV hx);have MB:=iz x.attrs;simp only[Node.wt] at hxw;have zB:(d.take (i+1)).map Node.iv=(d.take i).map Node.iv++[x.iv]:=by rw[fa,hx];simp
  have hl5:((d.take i).map Node.iv).length=i:=by rw[ax,cT];omega
  simp only[↓aX,mX,seval,Doc.XF hx,Xx,Node.cJ,Node.cs];rw[Xp 2 32 15 (cD x.attrs) (rq _) (nW _) (by rw[bp];omega) (by decide) (by simp[ae,Hp.none])];simp only[↓aX,mX,seval];rw[Xp 1 8 18 (x.kids.map xX) (YN _) (XD _) (by rw[ax];omega) (by decide) (by simp[ae,Hp.none])];simp only[↓aX,mX,seval];refine⟨rfl,?_⟩;rw[Ox];refine⟨_,_,YX (ach (.loc 15) (.loc 18) (2,cD x.attrs) (1,x.kids.map xX))
   [(2,.ptr (.loc 2) 1 0 0),(3,.ptr (.loc 3) 1 0 0),(5,.ptr (.loc 5) 5 0 0),(7,.list (d.map Node.iv)),(8,.int .i64 d.length),(9,.int .i64 i)]
   [(.loc 2,⟨1,[[.nil0]]⟩),(.loc 3,⟨1,[[.sl (.loc 1000) 5 0 i]]⟩),(.loc 1000,⟨5,aB ((d.take i).map Node.iv)⟩),(.loc 5,⟨5,[x.iv.cells.map IV.dQ]⟩)] [] ?_ ?_ ?_ ?_,?_⟩
  ·intro l sz xs hl;unfold ach at hl;split at hl
   ·rename_i e;subst e;simp only[di,bZ] at hl;obtain⟨rfl,rfl⟩:=hl;exact⟨by simp[ae],rfl,nW _⟩
   split at hl
   ·rename_i e;subst e;simp only[di,bZ] at hl;obtain⟨rfl,rfl⟩:=hl;exact⟨by simp[ae],rfl,XD _⟩
   cases hl
  ·simp[ah,AV.an]
  ·rintro r hr cs bV l hl;simp only[bb,b5,b7] at hr;rcases hr with rfl|rfl|rfl|rfl
   ·simp only[aW] at bV;subst bV;simp[ah,AV.an] at hl
   ·simp only[aW] at bV;subst bV;simp[ah,AV.an] at hl;subst hl;simp
   ·rw[bU bV] at hl;simp at hl
   simp only[aW] at bV;subst bV;rw[jq] at hl;simp at hl
  ·refine⟨?_,?_,?_,by simp[dn],fun l hl=>⟨id,fun _=>rfl⟩⟩
   ·intro l hf hu;exfalso;apply hu;cases l<;>simp_all[Lb.fresh,ae,Hp.none,Pz,ach]
   ·simp[k_,dn,bJ,put,Py]
   have e1:(ach (.loc 15) (.loc 18) (2,cD x.attrs) (1,x.kids.map xX)) (.loc 15)=some (2,cD x.attrs):=rfl;have e2:(ach (.loc 15) (.loc 18) (2,cD x.attrs) (1,x.kids.map xX)) (.loc 18)=some (1,x.kids.map xX):=rfl;have e3:(ach (.loc 15) (.loc 18) (2,cD x.attrs) (1,x.kids.map xX)) (.loc 1000)=none:=rfl;simp[tc,dn,Pz,ach,ae,dO,bu,bJ,Ol,Py,R4,nT,Node.cJ,Node.cs,IV.dQ,S8 e1 rfl,S8 e2 (ax _).symm];exact⟨(aei _ _).symm,bo (by simp)⟩
  rw[Cf];simp only[↓aX,mX,seval,cF,bW,Node.cJ,Node.cs];rw[qg 5 80 25 1000 ((d.take i).map Node.iv) (.agg [.bool x.text,.str x.s,.list (cD x.attrs),.int .i64 x.parent,.list (x.kids.map xX)]) (by simp[ae]) hl5 rfl x.uy (by omega) (by decide) (by decide) (by simp[ae,Hp.none])];simp only[↓aX,mX,seval,hw];refine⟨⟨i+1,bI⟩,by simp only;omega,[(.loc 1000,.loc 25)],?_⟩;refine⟨?_,?_,?_,by simp[dn],?_⟩
  ·intro l hf hu;exfalso;apply hu;cases l<;>simp_all[Lb.fresh,ae,Hp.none]
  ·simp[k_,dn,bJ,put]
  ·have hr:∀xs:List IV,dO (dn [(.loc 1000,.loc 25)]) ⟨5,aB xs⟩=⟨5,aB xs⟩:=fun xs=>dy _ _ _;simp only[tc,hr,zB];simp[dn,ae,dO,bu,bJ,Node.iv,Node.cs]
  intro l hl;simp only[bb,b5,b7] at hl;rcases hl with rfl|rfl|rfl
  ·exact⟨fun _=>rfl,fun _=>rfl⟩
  ·exact⟨fun _=>rfl,fun _=>rfl⟩
  exact⟨fun _=>rfl,fun h=>by simp[Lb.fresh] at h⟩
 have XV:i=d.length:=by omega
 subst XV;rw[show decide ((d.length:Int)<(d.length:Int))=false by simp];simp only[↓aX,mX,seval,ea];refine⟨5,d.map Node.iv,0,d.length,[.sl (.loc 1000) 5 0 d.length],rfl,rfl,rfl,by simp,by simp,acH _,?_⟩;simp only[↓aX,mX,seval,e_,bo (show(d.map Node.iv).length≤d.length by simp)];rfl

def Y3 (m:Int) (j:Nat) (a:List Node) (k:Nat) (h:k∈x6 m j a):j≤k∧k<j+a.length:=by
 obtain⟨h1,x,h2,_⟩:=(YU m j a k).1 h;have:=(aI.1 h2).1;omega
theorem Z0 (m:Int):∀(j:Nat) (a:List Node),(x6 m j a).length≤a.length
 |j,[]=>by simp[x6]
 |j,x::r=>by
  have:=Z0 m (j+1) r;simp only[x6,cy,cG];split<;>simp<;>omega
theorem Y4 (d:Doc):∀(f g n:Nat),d.length - n≤f→d.length - n≤g→uG d f n=uG d g n
 |0,0,n,_,_=>rfl
 |0,g+1,n,h,_=>by
  have:d[n]?=none:=dV (by omega);simp[uG,this]
 |f+1,0,n,_,h=>by
  have:d[n]?=none:=dV (by omega);simp[uG,this]
 |f+1,g+1,n,h1,h2=>by
  simp only[uG];cases hx:d[n]? with
  |none=>rfl
  |some x=>
  simp only;congr 1;refine dh fun k hk=> ?_;have:=Y3 _ _ _ _ hk;exact Y4 d f g k (by omega) (by omega)
def Cj (d:Doc) (n:Nat):Tree:=uG d d.length n
def abk {d:Doc} {n:Nat} {x:Node} (hx:d[n]?=some x):Cj d n= .mk x.text x.s x.attrs ((x6 n (n+1) (d.drop (n+1))).map (Cj d)):=by
 have bI:=(aI.1 hx).1;obtain⟨f,hf⟩:∃f,d.length=f+1:=⟨d.length - 1,by omega⟩;unfold Cj;rw[hf,uG,hx];simp only;congr 1;refine dh fun k hk=> ?_;have:=Y3 _ _ _ _ hk;rw[vW] at this;exact Y4 d f (f+1) k (by omega) (by omega)
def ZF (T:Nat→Nat) (p:Int→Bool):Nat→List Node→Nat
 |_,[]=>0
 |j,x::r=>(if p x.parent then T j else 0)+ZF T p (j+1) r
def Node.wt0 (x:Node):Nat:=1+x.s.length+dX x.attrs
def aem:List Node→Nat
 |[]=>0
 |x::r=>x.wt0+aem r
theorem Z1 (T:Nat→Nat) (j:Nat):∀(i:Nat) (l:List Node),ZF T (fun p=>decide (p<((j+1:Nat):Int))) i l=ZF T (fun p=>decide (p<(j:Int))) i l+ZF T (fun p=>decide (p=(j:Int))) i l
 |i,[]=>rfl
 |i,x::r=>by
  have ih:=Z1 T j (i+1) r;simp only[ZF,ih];by_cases h1:x.parent<(j:Int)
  ·rw[bf (by simp;omega),bf (by simpa using h1),a_ (by simp;omega)];omega
  by_cases h2:x.parent=(j:Int)
  ·rw[bf (by simp;omega),a_ (by simpa using h1),bf (by simpa using h2)];omega
  rw[a_ (by simp;omega),a_ (by simpa using h1),a_ (by simpa using h2)];omega
theorem abl (T:Nat→Nat):∀(l:List Node) (j:Nat),(∀k x,l[k]?=some x→x.parent<((j+k:Nat):Int)) →
  (∀k x,l[k]?=some x→T (j+k)=x.wt0+ZF T (fun p=>decide (p=((j+k:Nat):Int))) (j+k+1) (l.drop (k+1)))→ZF T (fun p=>decide (p<(j:Int))) j l=aem l
 |[],j,_,_=>rfl
 |x::r,j,h1,h2=>by
  have a1:=h1 0 x rfl;have a2:=h2 0 x rfl;have ih:=abl T r (j+1) (fun k y hk=>by have:=h1 (k+1) y (by simpa using hk);rw[show j+1+k=j+(k+1) by omega];exact this)
   (fun k y hk=>by have:=h2 (k+1) y (by simpa using hk);rw[show j+1+k=j+(k+1) by omega];simpa using this)
  rw[Z1] at ih;simp only[ZF,aem,kf,iP,e_] at a1 a2 ⊢;rw[bf (by simpa using a1),a2];omega
theorem abm (T:Nat→Tree) (m:Int):∀(j:Nat) (l:List Node),ZF (fun k=>(T k).wt) (fun p=>decide (p=m)) j l=dE ((x6 m j l).map T)
 |j,[]=>by simp[ZF,x6,dE]
 |j,x::r=>by
  have ih:=abm T m (j+1) r;simp only[ZF,x6,eV,kn,ih];by_cases h:x.parent=m
  ·rw[bf (by simpa using h),bf h];simp[dE]
  rw[a_ (by simpa using h),a_ h];simp[dE]
theorem acP:∀d:List Node,aem d≤zn d
 |[]=>bm _
 |x::r=>by have:=acP r;simp only[aem,zn,Node.wt0,Node.wt];omega
def aen {d:Doc} (hp:∀(k:Nat) (x:Node),d[k]?=some x→x.parent<(k:Int)) (h:0<d.length):(Cj d 0).wt≤zn d:=by
 have dN:=abl (fun k=>(Cj d k).wt) d 0 (fun k x hk=>by simpa using hp k x hk) (fun k x hk=>by
  simp only[bM];rw[abk hk,Tree.gx,abm];rfl)
 have hle:=acP d;cases d with
 |nil=>simp at h
 |cons x r=>
 simp only[ZF] at dN;have:=hp 0 x rfl;rw[bf (by simpa using this)] at dN;omega
def V6 (n3:Nat):AC:=
(aM [sC 2 0,aQ 4 (.new [(.bool false),(.str []),.nil0,.nil0])] (aM [ep 8 2 0,fm 9 8,MR 10 1,jL 11 9 10 5,gz 12 5 11,aQ 5 (.new [(.bool false),(.str []),.nil0,(.int .i64 0),.nil0]),gg (.store 5 (.t 5) (.t 12))] (.seq (.VL [ep 13 5 0,fm 14 13,ep 15 5 1,fm 16 15,ep 17 5 2,fm 18 17,aQ 19 (.app (.c .nil0) (.t 18) 2 32),aQ 20 (.sg [(.bool false),(.str []),.nil0,.nil0] [(0,(1,(.t 14))),(1,(1,(.t 16))),(2,(1,(.t 19)))]),aQ 6 (.new [(.bool false),(.str []),.nil0,.nil0]),gg (.store 4 (.t 6) (.t 20))] [[],[0],[],[2],[],[4],[5],[1,3,6],[],[8,7,6,0,1,2,3,4,5,6,7,8]] [.no,.rw [.loc 5] [],.no,.rw [.loc 5] [],.no,.rw [.loc 5] [],.rw [] [.loc 19],.no,.rw [] [.loc 6],.rw [] [.loc 6]]) (.seq (.gh .vk (aM [MR 21 1,eY 22 .add 21 1,MR 7 22] (.block 0 (.loop (.seq (aM [MR 23 7,ep 24 2 0,fm 25 24,oy 26 25,et 27 .lss 23 26] (.cond (.t 27) .skip (.exit 0))) (.seq (.block 1 (aM [ep 30 2 0,fm 31 30,MR 32 7,jL 33 31 32 5,ep 34 33 3,fm 35 34,MR 36 1,et 37 .eql 35 36] (.cond (.t 37) (.VL [ep 38 6 3,fm 39 38,gz 40 1 2,MR 41 7,aQ 42 (.call n3 [(.t 40),(.t 41)]),aQ 43 (.lits 1 4 [(.bool false),(.str []),.nil0,.nil0] [(0,(.t 42))]),aQ 44 (.app (.t 39) (.t 43) 4 72),ep 45 6 3,gg (.store 1 (.t 45) (.t 44))] [[],[0],[],[],[2,3],[4],[1,5,4],[0,1,2,3,4,5,6],[7,6,6,0,1,2,3,4,5,6]] [.no,.rw [.loc 6] [],.rw [.loc 2] [],.no,.no,.no,(.rw [] [.loc 1000,.loc 44]),.no,.rw [] [.loc 6]]) .skip))) (.cq [MR 28 7,eY 29 .add 28 1,MR 7 29]))))))) (.gh (.xd (.loc 1000) (.loc 6) 3) (aM [gz 46 4 6,gg (.store 4 (.t 4) (.t 46))] .ret))))))
def ads {l:Lb} {sz:Nat} {xs:List IV} {H:Hp} (h1:H l= .live ⟨sz,aB xs⟩) (h2:l.fresh=true) (h3:Flat xs) :
  ∀q s ys,(fun p:Lb=>if p=l then some (sz,xs) else none) q=some (s,ys)→H q= .live ⟨s,aB ys⟩∧q.fresh=true∧Flat ys:=by
 intro q s ys hq;simp only at hq;split at hq
 ·rename_i e;subst e;simp only[di,bZ] at hq;obtain⟨rfl,rfl⟩:=hq;exact⟨h1,h2,h3⟩
 cases hq
def abn (m:Int) (j:Nat) (l:List Node) (i:Nat) (x:Node) (h:l[i]?=some x):x6 m j (l.take (i+1))=x6 m j (l.take i)++(if x.parent=m then [j+i] else []):=by
 have bI:=(aI.1 h).1;rw[fa,h,Xe];simp only[Option.toList_some,x6,bO,cT];rw[ov (by omega)]
def afI {P:Program} {G:Nat→Option (List IV)} {n3:Nat} (hF:aw P G n3=some (47,[((some (some 4)),4)],(V6 n3).bare)) (d:Doc) (hd:zn d≤B) (n:Nat) (hn:n<d.length)
  (hK:∀k,n<k→k<d.length→au P G n3 [Doc.av d,.int .i64 (k:Int)] (Cj d k).av):au P G n3 [Doc.av d,.int .i64 (n:Int)] (Cj d n).av:=by
 refine Ws hF (by simp) (by simp[ah,AV.an,Doc.av]) (by simp[AV.an,ah,Tree.av]) ?_;have zo:B=1073741824:=rfl;have zR:=XR d;obtain⟨x,hx⟩:∃x,d[n]?=some x:=⟨_,aC hn⟩;have hxw:=Y2 (aV hx);have MB:=iz x.attrs;simp only[Node.wt] at hxw;unfold V6;have pU:IntKind.i64.wrap ((n:Int)+1)=((n+1:Nat):Int):=wrap64 (by omega) (by omega);simp only[↓aX,mX,seval,Doc.av,ax,Doc.XF hx,Xx,Node.cJ,Node.cs];rw[Xp 2 32 19 (cD x.attrs) (rq _) (nW _) (by rw[bp];omega) (by decide) (by simp[ae,Hp.none])];simp only[↓aX,mX,seval];refine⟨rfl,?_⟩;rw[Ox];refine⟨_,_,(YX (fun p:Lb=>if p= .loc 19 then some (2,cD x.attrs) else none)
    [(1,.int .i64 n),(2,.ptr (.loc 2) 1 0 0),(4,.ptr (.loc 4) 4 0 0),(6,.ptr (.loc 6) 4 0 0)]
    [(.loc 2,⟨1,[[.list (d.map Node.iv)]]⟩),(.loc 4,⟨4,[[.bool false,.str [],.nil0,.nil0]]⟩),(.loc 6,⟨4,[[.bool x.text,.str x.s,.list (cD x.attrs),.nil0]]⟩)] []
    (ads (by simp[ae]) rfl (nW _)) ?_ ?_ ?_).trans (Qm (q:= .loc 6) (cs:=[.bool x.text,.str x.s,.list (cD x.attrs),.nil0]) (j:=3) (d:=1000) (sz:=4) rfl rfl rfl (by decide)),?_⟩
 ·simp[ah,AV.an]
 ·rintro r hr cs bV l hl;simp only[bb,b5,b7] at hr;rcases hr with rfl|rfl|rfl<;>(simp only[aW] at bV;subst bV;simp[ah,AV.an] at hl)
 ·refine⟨?_,?_,?_,by simp[dn],fun l hl=>⟨id,fun _=>rfl⟩⟩
  ·intro l hf hu;exfalso;apply hu;cases l<;>simp_all[Lb.fresh,ae,Hp.none,Pz]
  ·simp[k_,dn,bJ,put,Py,jP]
  simp[tc,dn,Pz,ae,dO,bu,bJ,Ol,Py,bp];exact bo (by simp[bp])
 rw[Cf];simp only[↓aX,mX,seval,cF,bW,pU];have Hm:∀i,i≤d.length - (n+1)→((x6 n (n+1) ((d.drop (n+1)).take i)).map (Cj d)).length≤i:=fun i hi=>by
  rw[ax];refine gU (Z0 _ _ _) ?_;rw[cT];omega
 refine pe (σ:={i:Nat // i≤d.length - (n+1)}) (fun _=>[.loc 2,.loc 4,.loc 6,.loc 1000]) (fun _ _=>false)
  (fun q=>[(1,.int .i64 n),(2,.ptr (.loc 2) 1 0 0),(4,.ptr (.loc 4) 4 0 0),(6,.ptr (.loc 6) 4 0 0),(7,.int .i64 ((n+1+q.1:Nat):Int))])
  (fun q=>[(.loc 2,⟨1,[[.list (d.map Node.iv)]]⟩),(.loc 4,⟨4,[[.bool false,.str [],.nil0,.nil0]]⟩),(.loc 6,⟨4,[[.bool x.text,.str x.s,.list (cD x.attrs),.sl (.loc 1000) 4 0 ((x6 n (n+1) ((d.drop (n+1)).take q.1)).map (Cj d)).length]]⟩),
   (.loc 1000,⟨4,aB (dq ((x6 n (n+1) ((d.drop (n+1)).take q.1)).map (Cj d)))⟩)])
  (fun q=>d.length - q.1) ⟨0,gS _⟩ (fun _=>rfl) (fun q=>by simp[ah,AV.an]) ?_ ⟨[],?_⟩ ?_
 ·rintro q r hr cs bV l hl;simp only[bb,b5,b7] at hr;rcases hr with rfl|rfl|rfl|rfl
  ·simp only[aW] at bV;subst bV;simp[ah,AV.an] at hl
  ·simp only[aW] at bV;subst bV;simp[ah,AV.an] at hl
  ·simp only[aW] at bV;subst bV;simp[ah,AV.an] at hl;subst hl;simp
  rw[bU bV] at hl;simp at hl
 ·refine⟨?_,?_,?_,by simp[dn],fun l _=>⟨id,fun _=>rfl⟩⟩
  ·intro l hf hu;exfalso;apply hu;cases l<;>simp_all[Lb.fresh,ae,Hp.none]
  ·simp[k_,dn,bJ,put]
  simp[tc,dn,ae,dO,bu,bJ,aB,x6,dq]
 rintro⟨i,hi⟩;rw[Cf];simp only[↓aX,mX,seval,cF,bW,ax];have KX:=Hm i hi;by_cases bI:n+1+i<d.length
 ·rw[show decide (((n+1+i:Nat):Int)<(d.length:Int))=true by rw[dj];omega];obtain⟨y,hy⟩:∃y,d[n+1+i]?=some y:=⟨_,aC bI⟩;have hyd:(d.drop (n+1))[i]?=some y:=by rw[fG];exact hy
  have hw:IntKind.i64.wrap (((n+1+i:Nat):Int)+1)=((n+1+(i+1):Nat):Int):=by rw[wrap64 (by omega) (by omega)];omega
  have gr:=abn n (n+1) (d.drop (n+1)) i y hyd;have hr:∀(ρ:Lb→Lb) (xs:List IV),dO ρ ⟨4,aB xs⟩=⟨4,aB xs⟩:=fun ρ xs=>dy _ _ _;simp only[↓aX,mX,seval,Doc.XF hy,Xx,Node.cJ,Node.cs];cases Yl:(y.parent==(n:Int)) with
  |false=>
   have Vi:¬y.parent=(n:Int):=(by simpa using Yl);rw[a_ Vi,bO] at gr;simp only[↓aX,mX,seval,hw];refine⟨⟨i+1,by omega⟩,by simp only;omega,[],?_⟩;refine⟨?_,?_,?_,by simp[dn],fun l _=>⟨id,fun _=>rfl⟩⟩
   ·intro l hf hu;exfalso;apply hu;cases l<;>simp_all[Lb.fresh,ae,Hp.none]
   ·simp[k_,dn,bJ,put]
   simp only[tc,hr,gr];simp[dn,ae,dO,bu,bJ]
  |true=>
  have he:y.parent=(n:Int):=by simpa using Yl
  rw[bf he] at gr;simp only[↓aX,mX,seval];refine⟨rfl,jw (hK (n+1+i) (by omega) bI) ?_⟩;simp only[↓aX,mX,seval,Tree.av];rw[qg 4 72 44 1000 (dq ((x6 n (n+1) ((d.drop (n+1)).take i)).map (Cj d))) (.agg [.bool (Cj d (n+1+i)).text,.str (Cj d (n+1+i)).s,.list (cD (Cj d (n+1+i)).attrs),.list (dq (Cj d (n+1+i)).kids)]) (by simp[ae]) (by rw[bF,ax]) rfl (by simp[IV.cells])
   (by rw[ax] at KX;omega) (by decide) (by decide) (by simp[ae,Hp.none])]
  simp only[↓aX,mX,seval,hw];refine⟨by rintro l (rfl|rfl)<;>simp[Lb.iQ],⟨i+1,by omega⟩,by simp only;omega,[(.loc 1000,.loc 44)],?_⟩;refine⟨?_,?_,?_,by simp[dn],?_⟩
  ·intro l hf hu;exfalso;apply hu;cases l<;>simp_all[Lb.fresh,ae,Hp.none]
  ·simp[k_,dn,bJ,put]
  ·simp only[tc,hr,gr,eV,qh];simp[dn,ae,dO,bu,bJ,dq,Tree.o_,Tree.cs,lR]
  intro l hl;simp only[bb,b5,b7] at hl;rcases hl with rfl|rfl|rfl|rfl
  ·exact⟨fun _=>rfl,fun _=>rfl⟩
  ·exact⟨fun _=>rfl,fun _=>rfl⟩
  ·exact⟨fun _=>rfl,fun _=>rfl⟩
  exact⟨fun _=>rfl,fun h=>by simp[Lb.fresh] at h⟩
 rw[show decide (((n+1+i:Nat):Int)<(d.length:Int))=false by rw[px];omega];have XV:(d.drop (n+1)).take i=d.drop (n+1):=bo (by rw[vW];omega);rw[XV];simp only[↓aX,mX,seval];refine⟨4,dq ((x6 n (n+1) (d.drop (n+1))).map (Cj d)),0,_,[.bool x.text,.str x.s,.list (cD x.attrs),.sl (.loc 1000) 4 0 _],rfl,rfl,rfl,by simp,by rw[bF,ax,bM];exact bm _,pa _,?_⟩;simp only[↓aX,mX,seval,e_,bo (show(dq ((x6 n (n+1) (d.drop (n+1))).map (Cj d))).length≤(x6 n (n+1) (d.drop (n+1))).length by rw[bF,ax];exact bm _)];rw[abk hx];rfl
end Go.Am
