import Derived.Test.YtfinkeaikbmpgaaGreatDoorKT9
import Derived.Test.YtfinkeaikbmpgaaGreatDoorKAm24
import Derived.Test.YtfinkeaikbmpgaaGreatDoorKAm33
set_option linter.unusedSimpArgs false
set_option linter.unusedVariables false
set_option linter.unnecessarySimpa false
set_option linter.defProp false
/- Documents: made; walked; the trees in them. -/
namespace Go.Am
open Go Go.RowKit
def Doc.av (d:Doc):AV:= .agg [.list (d.map Node.iv)]
section
variable {P:Program} {G:Nat→Option (List IV)}
def air {Vt iJ:Nat} (hF:aw P G Vt=some (58,[(none,6)],(YB iJ Vt).bare)) (hC:∀xs:List Attr,xs.length≤B→au P G iJ [.list (cD xs)] (.list (cD xs))) (x:Tree) (d:Doc) (p:Int) (hx:d.length+x.wt≤B) :
  adm P G 5 Vt [.ptr (.par 0) 1 0 0,x.av,.int .i64 p] (d.map Node.iv) (.int .i64 d.length) ((d++x.flat d.length p).map Node.iv):=by
 have key:=A4 (M:=fun l=>∀x∈l,∀(d:Doc) (p:Int),d.length+x.wt≤B→adm P G 5 Vt [.ptr (.par 0) 1 0 0,x.av,.int .i64 p] (d.map Node.iv) (.int .i64 d.length) ((d++x.flat d.length p).map Node.iv))
  (fun l h x hx d p hB=>aip hF x d p hB (hC _ (by have:=lY x;have:=iz x.attrs;omega)) fun k hk d' B5=>h x hx k hk d' d.length (by omega))
 exact key [x] x (by simp) d p hx
end
def YV (dD Vt:Nat):AC:=
(aM [sC 1 0,aQ 2 (.new [.nil0]),gH 3 0] (.seq (aM [gz 5 4 1,aQ 6 (.call dD [(.t 5)]),sB 7 6] (.cond (.t 7) (aM [aQ 8 (.sg [.nil0] []),gg (.store 1 (.t 2) (.t 8)),gH 3 1] .ret) .skip)) (aM [aQ 4 (.new [.nil0])] (aM [gz 9 4 1,aQ 10 (.call Vt [(.t 4),(.t 9),(.c (.int .i64 (-1)))])] (aM [gz 11 1 4,gg (.store 1 (.t 2) (.t 11)),gH 3 0] (.gh (.xd (.loc 100) (.loc 2) 0) .ret))))))
def ahz {P:Program} {G:Nat→Option (List IV)} {Vj dD Vt:Nat} (hF:aw P G Vj=some (12,[((some (some 1)),2),(none,3)],(YV dD Vt).bare)) (x:Tree) (hx:x.wt≤B)
  (hG:au P G dD [x.av] (.bool x.d_)) (hP:adm P G 5 Vt [.ptr (.par 0) 1 0 0,x.av,.int .i64 (-1)] [] (.int .i64 0) ((lW x).map Node.iv)) :
  au P G Vj [x.av] (.gf [Doc.av (Wo x).1,.int .i64 (Wo x).2]):=by
 refine Ws hF (by simp) (by simp[ah,AV.an,Tree.av]) (by simp[AV.an,ah,Doc.av]) ?_;unfold YV;simp only[↓aX,mX,seval,Tree.av];refine ay hG ?_;cases hg:x.d_ with
 |false=>
  simp only[↓aX,mX,seval,kq];simp[norm,fi,Wo,hg,Doc.av]
 |true=>
 simp only[↓aX,mX,seval];refine Zf (l:= .loc 4) (N:= .loc 100) (o:=none) hP rfl ⟨by simp only[↓aX,mX,seval],rfl⟩ (by simp only[↓aX,mX,seval]) (fun _=>⟨rfl,by simp⟩) ?_;rintro L' kK hL' ⟨b1,b2,b3⟩ j0 GJ;have hL:L'= .loc 100:=by simpa using hL'
 subst hL;have c2:kK (.loc 2)= .live ⟨1,[[.nil0]]⟩:=by rw[j0 _ (by simp) (by simp) (by simp)];simp only[↓aX,mX,seval]
 simp only[↓aX,mX,seval,b2,c2,kq];refine⟨5,(lW x).map Node.iv,0,(lW x).length,[.sl (.loc 100) 5 0 (lW x).length],rfl,rfl,b3,by simp,by simp,acH _,?_⟩;simp only[↓aX,mX,seval,kq,norm,fi,Wo,hg,Doc.av,ax];simp;exact bo (by simp)
def X7 (V3:Nat):AC:=
(aM [sC 5 0,jM 10 false] (.seq (aM [MR 13 1,MR 14 4,aQ 15 (.dp (.t 14)),fm 16 15,et 17 .neq 13 16,MR 18 17,gV 19 18 1,oH 20 18 5 0,oG 21 18 20,iR 22 18 (.len (.t 21)),iR 23 18 (.bin .geq (.t 19) (.t 22)),sj 24 18 23,MR 25 24,oH 26 25 5 0,oG 27 25 26,gV 28 25 1,iR 29 25 (.Vc (.t 27) (.t 28) 5),oH 30 25 29 3,oG 31 25 30,gV 32 25 2,iR 33 25 (.bin .neq (.t 31) (.t 32)),sj 34 25 33,MR 35 34,gV 36 35 3,iR 37 35 (.bin .gtr (.t 36) (jS 8)),sj 38 35 37] (.cond (.t 38) (aM [jM 10 false] .ret) .skip)) (aM [MR 39 4,aQ 40 (.dp (.t 39)),fm 41 40,eY 42 .add 41 1,aQ 43 (.dp (.t 39)),gg (.store 1 (.t 43) (.t 42))] (.seq (aM [ep 44 5 0,fm 45 44,MR 46 1,jL 47 45 46 5,ep 48 47 4,fm 49 48,oy 50 49,gH 51 0] (.block 0 (.loop (aM [et 52 .lss 51 50] (.seq (.cond (.t 52) .skip (.exit 0)) (.seq (.block 1 (aM [jL 53 49 51 1,fm 54 53,MR 12 54] (aM [gz 55 1 5,MR 56 12,MR 57 1,MR 58 3,eY 59 .add 58 1,MR 60 4,aQ 61 (.call V3 [(.t 55),(.t 56),(.t 57),(.t 59),(.t 60)]),sB 62 61] (.cond (.t 62) (aM [jM 10 false] .ret) .skip)))) (.cq [eY 63 .add 51 1,MR 51 63]))))))) (aM [jM 10 true] .ret)))))
def afH {d:Doc} {f:Nat} {n p nx:Int} {x:Node} (hn:n=nx) (hx:d[n.toNat]?=some x) (hp:x.parent=p):wk d (f+1) n p nx=x.kids.foldlM (fun q k=>wk d f k n q) (nx+1):=by
 rw[wk,bf hn,hx];simp[hp]
def aee {d:Doc}:∀{f:Nat} {n p nx v:Int},0≤nx→wk d f n p nx=some v→nx<v∧v≤d.length:=by
 intro f n p nx v h0 h;have hn:n=nx:=by
  cases f with
  |zero=>simp[wk] at h
  |succ f=>rw[wk] at h;split at h;assumption;simp at h
 obtain⟨m,rfl⟩:∃m:Nat,nx=m:=⟨nx.toNat,by omega⟩;obtain⟨_,x,_,⟨post,h2⟩,rfl⟩:=acK d f m n p v h;have hc:=x.uE;have:=jR List.length h2;rw[vW,cy,x.j9] at this;omega
def Doc.XF {d:Doc} {n:Nat} {x:Node} (h:d[n]?=some x):(d.map Node.iv)[n]?=some x.iv:=by rw[cn,h];rfl
def aaX (l:List Int) (i:Nat):(l.map xX)[i]?=(l[i]?).map xX:=cn ..
def agn {d:Doc} {f:Nat} {n p nx:Int} (h:n≠nx):wk d f n p nx=none:=by
 cases f with
 |zero=>rfl
 |succ f=>rw[wk,a_ h]
def agN {d:Doc} {f:Nat} {n p nx:Int} (h:d[n.toNat]?=none):wk d f n p nx=none:=by
 cases f with
 |zero=>rfl
 |succ f=>rw[wk,h];simp
def agO {d:Doc} {f:Nat} {n p nx:Int} {x:Node} (h:d[n.toNat]?=some x) (hp:x.parent≠p):wk d f n p nx=none:=by
 cases f with
 |zero=>rfl
 |succ f=>rw[wk,h];simp[hp]
def ahA {P:Program} {G:Nat→Option (List IV)} {V3:Nat} (hF:aw P G V3=some (64,[(none,10)],(X7 V3).bare)) (d:Doc) (hd:d.length≤B) (hk:∀x∈d,x.kids.length≤B):∀(f:Nat) (n p nx:Int),f≤8→0≤nx→nx≤B →
  cR P G V3 [Doc.av d,.int .i64 n,.int .i64 p,.int .i64 (9 - (f:Int)),.ptr (.par 0) 1 0 0] [.int .i64 nx] fun x cs=>∃v,x= .bool (wk d f n p nx).isSome∧cs=[.int .i64 v]∧∀r,wk d f n p nx=some r→v=r:=by
 intro f;induction f with
 |zero=>
  intro n p nx hf h0 hB;refine dw hF (by simp) (by simp[ah,AV.an,Doc.av]) (by simp[ah,AV.an]) ?_;unfold X7;have hd9:decide ((9:Int) - ((0:Nat):Int)>8)=true:=by decide
  simp only[↓aX,mX,reduceCtorEq,Nat.reduceEqDiff,Nat.reduceLT,Nat.reduceLeDiff,Nat.reduceAdd,Nat.reduceMul,Int.reduceToNat,Int.reduceLE,Int.reduceLT,Doc.av,Oj];cases h1:(n !=nx) with
  |true=>
   simp only[↓aX,mX,reduceCtorEq,Nat.reduceEqDiff,Nat.reduceLT,Nat.reduceLeDiff,Nat.reduceAdd,Nat.reduceMul,Int.reduceToNat,Int.reduceLE,Int.reduceLT];exact⟨_,⟨nx,rfl,rfl,by simp[wk]⟩,rfl,rfl,rfl,rfl⟩
  |false=>
  have:n=nx:=by simpa using h1
  subst this;obtain⟨m,rfl⟩:∃m:Nat,n=m:=⟨n.toNat,by omega⟩;cases hx:d[m]? with
  |none=>
   have qS:decide ((m:Int)≥(d.length:Int))=true:=by
    have:=ow.1 hx;simp;omega
   simp only[↓aX,mX,reduceCtorEq,Nat.reduceEqDiff,Nat.reduceLT,Nat.reduceLeDiff,Nat.reduceAdd,Nat.reduceMul,Int.reduceToNat,Int.reduceLE,Int.reduceLT,ax,qS];exact⟨_,⟨m,rfl,rfl,by simp[wk]⟩,rfl,rfl,rfl,rfl⟩
  |some x=>
  have bI:=(aI.1 hx).1;have qS:decide ((m:Int)≥(d.length:Int))=false:=by simp;omega
  simp only[↓aX,mX,reduceCtorEq,Nat.reduceEqDiff,Nat.reduceLT,Nat.reduceLeDiff,Nat.reduceAdd,Nat.reduceMul,Int.reduceToNat,Int.reduceLE,Int.reduceLT,ax,qS,Doc.XF hx,Xx,Node.cJ,Node.cs];cases h2:(x.parent !=p) with
  |true=>
   simp only[↓aX,mX,reduceCtorEq,Nat.reduceEqDiff,Nat.reduceLT,Nat.reduceLeDiff,Nat.reduceAdd,Nat.reduceMul,Int.reduceToNat,Int.reduceLE,Int.reduceLT];exact⟨_,⟨m,rfl,rfl,by simp[wk]⟩,rfl,rfl,rfl,rfl⟩
  |false=>
  simp only[↓aX,mX,reduceCtorEq,Nat.reduceEqDiff,Nat.reduceLT,Nat.reduceLeDiff,Nat.reduceAdd,Nat.reduceMul,Int.reduceToNat,Int.reduceLE,Int.reduceLT,hd9];exact⟨_,⟨m,rfl,rfl,by simp[wk]⟩,rfl,rfl,rfl,rfl⟩
 |succ f ih=>
 intro n p nx hf h0 hB;refine dw hF (by simp) (by simp[ah,AV.an,Doc.av]) (by simp[ah,AV.an]) ?_;unfold X7;have hd9:decide ((9:Int) - ((f+1:Nat):Int)>8)=false:=by simp;omega
 have hw9:IntKind.i64.wrap ((9:Int) - ((f+1:Nat):Int)+1)=9 - (f:Int):=by rw[wrap64 (by omega) (by omega)];omega
 simp only[↓aX,mX,reduceCtorEq,Nat.reduceEqDiff,Nat.reduceLT,Nat.reduceLeDiff,Nat.reduceAdd,Nat.reduceMul,Int.reduceToNat,Int.reduceLE,Int.reduceLT,Doc.av,Oj];cases h1:(n !=nx) with
 |true=>
  have wL:n≠nx:=by simpa using h1
  simp only[↓aX,mX,reduceCtorEq,Nat.reduceEqDiff,Nat.reduceLT,Nat.reduceLeDiff,Nat.reduceAdd,Nat.reduceMul,Int.reduceToNat,Int.reduceLE,Int.reduceLT];exact⟨_,⟨nx,by rw[agn wL];rfl,rfl,by rw[agn wL];simp⟩,rfl,rfl,rfl,rfl⟩
 |false=>
 have:n=nx:=by simpa using h1
 subst this;obtain⟨m,rfl⟩:∃m:Nat,n=m:=⟨n.toNat,by omega⟩;cases hx:d[m]? with
 |none=>
  have qS:decide ((m:Int)≥(d.length:Int))=true:=by
   have:=ow.1 hx;simp;omega
  have ME:wk d (f+1) (m:Int) p (m:Int)=none:=agN (by simpa using hx);simp only[↓aX,mX,reduceCtorEq,Nat.reduceEqDiff,Nat.reduceLT,Nat.reduceLeDiff,Nat.reduceAdd,Nat.reduceMul,Int.reduceToNat,Int.reduceLE,Int.reduceLT,ax,qS];exact⟨_,⟨m,by rw[ME];rfl,rfl,by rw[ME];simp⟩,rfl,rfl,rfl,rfl⟩
 |some x=>
 have bI:=(aI.1 hx).1;have qS:decide ((m:Int)≥(d.length:Int))=false:=by simp;omega
 have UX:=hk x (aV hx);have JA:IntKind.i64.wrap ((m:Int)+1)=(m:Int)+1:=wrap64 (by omega) (by unfold B at hd;omega);simp only[↓aX,mX,reduceCtorEq,Nat.reduceEqDiff,Nat.reduceLT,Nat.reduceLeDiff,Nat.reduceAdd,Nat.reduceMul,Int.reduceToNat,Int.reduceLE,Int.reduceLT,ax,qS,Doc.XF hx,Xx,Node.cJ,Node.cs];cases h2:(x.parent !=p) with
 |true=>
  have ME:wk d (f+1) (m:Int) p (m:Int)=none:=agO (by simpa using hx) (by simpa using h2);simp only[↓aX,mX,reduceCtorEq,Nat.reduceEqDiff,Nat.reduceLT,Nat.reduceLeDiff,Nat.reduceAdd,Nat.reduceMul,Int.reduceToNat,Int.reduceLE,Int.reduceLT];exact⟨_,⟨m,by rw[ME];rfl,rfl,by rw[ME];simp⟩,rfl,rfl,rfl,rfl⟩
 |false=>
 have hp:x.parent=p:=by simpa using h2
 have g_:=afH (d:=d) (f:=f) (n:=m) (nx:=m) rfl (by simpa using hx) hp;simp only[↓aX,mX,reduceCtorEq,Nat.reduceEqDiff,Nat.reduceLT,Nat.reduceLeDiff,Nat.reduceAdd,Nat.reduceMul,Int.reduceToNat,Int.reduceLE,Int.reduceLT,hd9,JA,ax,Doc.XF hx,Xx,Node.cJ,Node.cs];refine ca (σ:={q:Nat×Int // q.1≤x.kids.length∧0≤q.2∧q.2≤d.length∧wk d (f+1) (m:Int) p (m:Int)=(x.kids.drop q.1).foldlM (fun q k=>wk d f k (m:Int) q) q.2}) [.par 0,.loc 5]
  (fun q=>[(1,.int .i64 m),(3,.int .i64 (9 - ((f+1:Nat):Int))),(4,.ptr (.par 0) 1 0 0),(5,.ptr (.loc 5) 1 0 0),(49,.list (x.kids.map xX)),(50,.int .i64 x.kids.length),(51,.int .i64 q.1.1)])
  (fun q=>[(.par 0,⟨1,[[.int .i64 q.1.2]]⟩),(.loc 5,⟨1,[[.list (d.map Node.iv)]]⟩)]) (fun q=>x.kids.length - q.1.1) ⟨(0,(m:Int)+1),by simp,by simp only;omega,by simp only;omega,by rw[g_];rfl⟩
  (fun _=>rfl) (by decide) (by simp[ah,AV.an]) (by simp[ah,AV.an]) ?_ ?_
 ·refine eL ?_ (by repeat' constructor) (by repeat' constructor);intro l hl hu;by_cases e:l= .par 0
  ·subst e;simp
  exfalso;apply hu;cases l<;>simp_all[Lb.fresh,ae,Hp.none]
 rintro⟨⟨i,q⟩,hi,KH,TF,hs⟩;simp only at hi KH TF hs;simp only[↓aX,mX,reduceCtorEq,Nat.reduceEqDiff,Nat.reduceLT,Nat.reduceLeDiff,Nat.reduceAdd,Nat.reduceMul,Int.reduceToNat,Int.reduceLE,Int.reduceLT,cF,bW];by_cases bI:i<x.kids.length
 ·obtain⟨k,HA⟩:∃k,x.kids[i]?=some k:=⟨_,aC bI⟩;have hw:IntKind.i64.wrap ((i:Int)+1)=((i+1:Nat):Int):=wrap64 (by omega) (by unfold B at UX;omega);rw[show decide ((i:Int)<(x.kids.length:Int))=true by simpa using bI];simp only[↓aX,mX,reduceCtorEq,Nat.reduceEqDiff,Nat.reduceLT,Nat.reduceLeDiff,Nat.reduceAdd,Nat.reduceMul,Int.reduceToNat,Int.reduceLE,Int.reduceLT,aaX,HA,YN,ax,bT,xX,IV.cells,hw9];refine bj (l:= .par 0) (ih k m q (by omega) KH (by unfold B at hd ⊢;omega)) rfl (by simp only[↓aX,mX,reduceCtorEq,Nat.reduceEqDiff,Nat.reduceLT,Nat.reduceLeDiff,Nat.reduceAdd,Nat.reduceMul,Int.reduceToNat,Int.reduceLE,Int.reduceLT];try rfl) ?_
  rintro x1 dF ⟨v,rfl,rfl,hv⟩ _ _ _;have hdr:x.kids.drop i=k::x.kids.drop (i+1):=drop_eq HA;rw[hdr,rJ] at hs;cases hr:wk d f k m q with
  |none=>
   rw[hr] at hs;simp only[qt,Option.bind_none] at hs;simp only[↓aX,mX,reduceCtorEq,Nat.reduceEqDiff,Nat.reduceLT,Nat.reduceLeDiff,Nat.reduceAdd,Nat.reduceMul,Int.reduceToNat,Int.reduceLE,Int.reduceLT,jf,bx];exact⟨_,⟨v,by rw[hs];rfl,rfl,by rw[hs];simp⟩,rfl,rfl,rfl,rfl⟩
  |some r=>
  have hvr:=hv r hr;subst hvr;rw[hr] at hs;simp only[qt,cu] at hs;have hb:=aee KH hr;simp only[↓aX,mX,reduceCtorEq,Nat.reduceEqDiff,Nat.reduceLT,Nat.reduceLeDiff,Nat.reduceAdd,Nat.reduceMul,Int.reduceToNat,Int.reduceLE,Int.reduceLT,qu,bG,hw];refine⟨⟨(i+1,v),bI,by simp only;omega,by simp only;omega,hs⟩,by simp only;omega,eL ?_ (by repeat' constructor) (by repeat' constructor)⟩;intro l hl hu;by_cases e:l= .par 0
  ·subst e;simp
  exfalso;apply hu;cases l<;>simp_all[Lb.fresh,ae,Hp.none]
 have XV:i=x.kids.length:=by omega
 subst XV;rw[rK] at hs;simp only[List.foldlM_nil] at hs;rw[show decide ((x.kids.length:Int)<(x.kids.length:Int))=false by simp];simp only[↓aX,mX,reduceCtorEq,Nat.reduceEqDiff,Nat.reduceLT,Nat.reduceLeDiff,Nat.reduceAdd,Nat.reduceMul,Int.reduceToNat,Int.reduceLE,Int.reduceLT];exact⟨_,⟨q,by rw[hs];rfl,rfl,by rw[hs];rintro r h;cases h;rfl⟩,rfl,rfl,rfl,rfl⟩

def Cf (rs:List (Lb×Row)):ie (fun _=>false) rs=kl rs:=by
 funext q;unfold ie;cases kl rs q<;>rfl
theorem ZX:∀(off:Nat) (xs:List Tree) (i:Nat),i<xs.length→(mw off xs)[i]?=some ((off+dP (xs.take i):Nat):Int)
 |_,[],i,h=>by simp at h
 |off,x::r,0,_=>by simp[mw,dP]
 |off,x::r,i+1,h=>by
  simp only[mw,jC,lf,dP];rw[ZX (off+x.jz) r i (by simpa using h),gQ]
def x7 (iJ x8:Nat):AC:=
(aM [sC 2 0,aQ 4 (.new [(.bool false),(.str []),.nil0,.nil0])] (aM [ep 9 2 0,fm 10 9,MR 11 1,jL 12 10 11 5,gz 13 5 12,aQ 5 (.new [(.bool false),(.str []),.nil0,(.int .i64 0),.nil0]),gg (.store 5 (.t 5) (.t 13))] (.seq (.VL [ep 14 5 0,fm 15 14,ep 16 5 1,fm 17 16,ep 18 5 2,fm 19 18,aQ 20 (.call iJ [(.t 19)]),aQ 21 (.sg [(.bool false),(.str []),.nil0,.nil0] [(0,(1,(.t 15))),(1,(1,(.t 17))),(2,(1,(.t 20)))]),aQ 6 (.new [(.bool false),(.str []),.nil0,.nil0]),gg (.store 4 (.t 6) (.t 21))] [[],[0],[],[2],[],[4],[5],[1,3,6],[],[8,7,6,0,1,2,3,4,5,6,7,8]] [.no,.rw [.loc 5] [],.no,.rw [.loc 5] [],.no,.rw [.loc 5] [],.no,.no,.rw [] [.loc 6],.rw [] [.loc 6]]) (.seq (.gh .vk (aM [ep 22 5 4,fm 23 22,oy 24 23,gH 25 0] (.block 0 (.loop (aM [et 26 .lss 25 24] (.seq (.cond (.t 26) .skip (.exit 0)) (.seq (.block 1 (aM [jL 27 23 25 1,fm 28 27,MR 8 28] (.VL [ep 29 6 3,fm 30 29,gz 31 1 2,MR 32 8,aQ 33 (.call x8 [(.t 31),(.t 32)]),aQ 34 (.lits 1 4 [(.bool false),(.str []),.nil0,.nil0] [(0,(.t 33))]),aQ 35 (.app (.t 30) (.t 34) 4 72),ep 36 6 3,gg (.store 1 (.t 36) (.t 35))] [[],[0],[],[],[2,3],[4],[1,5,4],[0,1,2,3,4,5,6],[7,6,6,0,1,2,3,4,5,6]] [.no,.rw [.loc 6] [],.rw [.loc 2] [],.no,.no,.no,(.rw [] [.loc 50,.loc 35]),.no,.rw [] [.loc 6]]))) (.cq [eY 37 .add 25 1,MR 25 37])))))))) (.gh (.xd (.loc 50) (.loc 6) 3) (aM [gz 38 4 6,gg (.store 4 (.t 4) (.t 38))] .ret))))))
def pAt {P:Program} {G:Nat→Option (List IV)} {x8 iJ:Nat} (hF:aw P G x8=some (39,[((some (some 4)),4)],(x7 iJ x8).bare)) (d:Doc) (hd:d.length≤B) (n:Nat) (q:Int) (x:Tree) (hL:oc d n q x) (hx:x.wt≤B)
  (hC:au P G iJ [.list (cD x.attrs)] (.list (cD x.attrs)))
  (hK:∀k∈x.kids,∀(m:Nat) (p:Int),oc d m p k→au P G x8 [Doc.av d,.int .i64 m] k.av):au P G x8 [Doc.av d,.int .i64 n] x.av:=by
 refine Ws hF (by simp) (by simp[ah,AV.an,Doc.av]) (by simp[AV.an,Tree.av,ah]) ?_;have Zs:=hL.node;have hlen:=hL.len;have bI:=(aI.1 Zs).1;have hwx:=x.gx;have Hm:=eZ x.kids;have JV:(mw (n+1) x.kids).length=x.kids.length:=VS _ _;unfold x7;simp only[↓aX,mX,seval,Doc.av,ax,Doc.XF Zs,Xx,Node.cJ,Node.cs,Tree.node];refine⟨rfl,jw hC ?_⟩;simp only[↓aX,mX,seval,ax];rw[Ox];refine⟨_,_,Qm (q:= .loc 6) (cs:=[.bool x.text,.str x.s,.list (cD x.attrs),.nil0]) (j:=3) (d:=50) (sz:=4) rfl rfl (by simp[ae,Hp.none]) (by decide),?_⟩;simp only[↓aX,mX,seval];refine pe (σ:={i:Nat // i≤x.kids.length}) (fun _=>[.loc 2,.loc 4,.loc 6,.loc 50]) (fun _ _=>false)
  (fun q=>[(2,.ptr (.loc 2) 1 0 0),(4,.ptr (.loc 4) 4 0 0),(6,.ptr (.loc 6) 4 0 0),(23,.list ((mw (n+1) x.kids).map xX)),(24,.int .i64 x.kids.length),(25,.int .i64 q.1)])
  (fun q=>[(.loc 2,⟨1,[[.list (d.map Node.iv)]]⟩),(.loc 4,⟨4,[[.bool false,.str [],.nil0,.nil0]]⟩),(.loc 6,⟨4,[[.bool x.text,.str x.s,.list (cD x.attrs),.sl (.loc 50) 4 0 q.1]]⟩),(.loc 50,⟨4,aB (dq (x.kids.take q.1))⟩)])
  (fun q=>x.kids.length - q.1) ⟨0,gS _⟩ (fun _=>rfl) (fun q=>by simp[ah,AV.an]) ?_ ⟨[],?_⟩ ?_
 ·rintro q r hr cs bV l hl;simp only[bb,b5,b7] at hr;rcases hr with rfl|rfl|rfl|rfl
  ·simp only[aW] at bV;subst bV;simp[ah,AV.an] at hl
  ·simp only[aW] at bV;subst bV;simp[ah,AV.an] at hl
  ·simp only[aW] at bV;subst bV;simp[ah,AV.an] at hl;subst hl;simp
  rw[bU bV] at hl;simp at hl
 ·refine⟨?_,?_,?_,by simp[dn],fun l _=>⟨id,fun _=>rfl⟩⟩
  ·intro l hf hu;exfalso;apply hu;cases l<;>simp_all[Lb.fresh,ae,Hp.none]
  ·simp[k_,dn,bJ,put,JV]
  simp[tc,dn,ae,dO,bu,bJ,aB,dq]
 rintro⟨i,hi⟩;rw[Cf];simp only[↓aX,mX,seval,cF,bW];by_cases bI:i<x.kids.length
 ·rw[show decide ((i:Int)<(x.kids.length:Int))=true by simpa using bI];obtain⟨k,HA⟩:∃k,x.kids[i]?=some k:=⟨_,aC bI⟩;have hw:IntKind.i64.wrap ((i:Int)+1)=((i+1:Nat):Int):=wrap64 (by omega) (by unfold B at hx;omega);have hg:=ZX (n+1) x.kids i bI;simp only[↓aX,mX,seval,aaX,hg,YN,ax,bT,xX,IV.cells];have hkm:=aV HA;have hkL:oc d (n+1+dP (x.kids.take i)) n k:=hL.Ce (x.kids.take i) (x.kids.drop (i+1)) k (by rw[←drop_eq HA,dM]);have MG:(dq (x.kids.take i)).length=i:=by rw[bF,cT];omega
  have zB:dq (x.kids.take (i+1))=dq (x.kids.take i)++[.agg [.bool k.text,.str k.s,.list (cD k.attrs),.list (dq k.kids)]]:=by rw[Vl HA,qh];simp[dq,Tree.o_,Tree.cs]
  refine⟨rfl,jw (hK k hkm _ _ hkL) ?_⟩;simp only[↓aX,mX,seval,Tree.av];rw[qg 4 72 35 50 (dq (x.kids.take i)) (.agg [.bool k.text,.str k.s,.list (cD k.attrs),.list (dq k.kids)]) (by simp[ae]) MG rfl (by simp[IV.cells]) (by unfold B at hx;omega) (by decide) (by decide) (by simp[ae,Hp.none])];simp only[↓aX,mX,seval,hw];refine⟨by rintro l (rfl|rfl)<;>simp[Lb.iQ],?_⟩;refine⟨⟨i+1,bI⟩,by simp only;omega,[(.loc 50,.loc 35)],?_⟩;refine⟨?_,?_,?_,by simp[dn],?_⟩
  ·intro l hf hu;exfalso;apply hu;cases l<;>simp_all[Lb.fresh,ae,Hp.none]
  ·simp[k_,dn,bJ,put]
  ·have hr:∀xs:List IV,dO (dn [(.loc 50,.loc 35)]) ⟨4,aB xs⟩=⟨4,aB xs⟩:=fun xs=>dy _ _ _;simp[tc,dn,ae,dO,bu,bJ,zB];simp[aB,nT]
  intro l hl;simp only[bb,b5,b7] at hl;rcases hl with rfl|rfl|rfl|rfl
  ·exact⟨fun _=>rfl,fun _=>rfl⟩
  ·exact⟨fun _=>rfl,fun _=>rfl⟩
  ·exact⟨fun _=>rfl,fun _=>rfl⟩
  exact⟨fun _=>rfl,fun h=>by simp[Lb.fresh] at h⟩
 have XV:i=x.kids.length:=by omega
 subst XV;rw[show decide ((x.kids.length:Int)<(x.kids.length:Int))=false by simp];simp only[↓aX,mX,seval,ea];refine⟨4,dq x.kids,0,x.kids.length,[.bool x.text,.str x.s,.list (cD x.attrs),.sl (.loc 50) 4 0 x.kids.length],rfl,rfl,rfl,by simp,by rw[bF];omega,pa _,?_⟩;simp only[↓aX,mX,seval,e_,bo (show(dq x.kids).length≤x.kids.length by rw[bF];exact bm _)];rfl

def Node.wt (x:Node):Nat:=1+x.s.length+dX x.attrs+x.kids.length
def zn:Doc→Nat
 |[]=>0
 |x::r=>x.wt+zn r
theorem nv:∀a b:Doc,zn (a++b)=zn a+zn b
 |[],b=>by simp[zn]
 |x::r,b=>by simp[zn,nv r b,gQ]
theorem XR:∀d:Doc,d.length≤zn d
 |[]=>by simp
 |x::r=>by have:=XR r;simp only[zn,Node.wt,cG];omega
theorem Y2:∀{d:Doc} {x:Node},x∈d→x.wt≤zn d
 |[],x,h=>by simp at h
 |y::r,x,h=>by
  simp only[bb] at h;rcases h with rfl|h
  ·simp[zn]
  have:=Y2 h;simp only[zn];omega
mutual
theorem Tree.uH (off:Nat) (p:Int):∀x:Tree,x.wt≤zn (x.flat off p)
 | .mk t s as ks=>by
  have:=ru (off+1) off ks;simp only[Tree.flat,zn,Node.wt,Tree.wt];omega
theorem ru (off p:Nat):∀xs:List Tree,dE xs≤zn (fC off p xs)
 |[]=>by simp[dE]
 |k::r=>by
  have:=k.uH off p;have:=ru (off+k.jz) p r;simp only[fC,nv,dE];omega
end
def oc.wt {d:Doc} {n:Nat} {q:Int} {y:Tree} (h:oc d n q y):y.wt≤zn d:=by
 obtain⟨post,h⟩:=h;have h1:=y.uH n q;have h2:=nv (d.take n) (d.drop n);rw[dM,h,nv] at h2;omega
section
variable {P:Program} {G:Nat→Option (List IV)}
def wAt {x8 iJ:Nat} (hF:aw P G x8=some (39,[((some (some 4)),4)],(x7 iJ x8).bare)) (hC:∀xs:List Attr,xs.length≤B→au P G iJ [.list (cD xs)] (.list (cD xs))) (d:Doc) (hd:zn d≤B) (n:Nat) (q:Int) (x:Tree) (hL:oc d n q x) :
  au P G x8 [Doc.av d,.int .i64 n] x.av:=by
 have key:=A4 (M:=fun l=>∀x∈l,∀(n:Nat) (q:Int),oc d n q x→au P G x8 [Doc.av d,.int .i64 n] x.av)
  (fun l h x hx n q hL=>pAt hF d (by have:=XR d;omega) n q x hL (by have:=hL.wt;omega) (hC _ (by have:=hL.wt;have:=lY x;have:=iz x.attrs;omega)) fun k hk m p hL'=>h x hx k hk m p hL')
 exact key [x] x (by simp) n q hL
end
def abj (x:Tree):Vo (lW x)=x.d_:=by
 cases h:x.d_ with
 |true=>exact Yj h
 |false=>exact XX fun⟨y,h1,h2⟩=>by rw[adp h2,h1] at h;cases h
def uF.len {d:Doc} (h:uF d):1≤d.length∧d.length≤80:=by
 obtain⟨x,hx,rfl⟩:=h;have:=(ia x).1 hx;have:=x.uE;rw[pf];omega
def uF.wk {d:Doc} (h:uF d):wk d 8 0 (-1) 0=some (d.length:Int):=by
 obtain⟨x,hx,rfl⟩:=h;exact A3 ((ia x).1 hx).2.1
def YW (V3 x8 dD:Nat):AC:=
(aM [sC 1 0,jM 2 false] (.seq (aM [ep 4 1 0,fm 5 4,oy 6 5,eY 7 .lss 6 1,MR 8 7,oH 9 8 1 0,oG 10 8 9,iR 11 8 (.len (.t 10)),iR 12 8 (.bin .gtr (.t 11) (jS 80)),sj 13 8 12] (.cond (.t 13) (aM [jM 2 false] .ret) .skip)) (aM [aQ 3 (.new [(.int .i64 0)]),gg (.store 1 (.t 3) (jS 0))] (.seq (aM [gz 14 1 1,aQ 15 (.call V3 [(.t 14),(jS 0),(.c (.int .i64 (-1))),(jS 1),(.t 3)]),sB 16 15,MR 17 16,oG 18 17 3,oH 19 17 1 0,oG 20 17 19,iR 21 17 (.len (.t 20)),iR 22 17 (.bin .neq (.t 18) (.t 21)),sj 23 17 22] (.cond (.t 23) (aM [jM 2 false] .ret) .skip)) (aM [gz 24 1 1,aQ 25 (.call x8 [(.t 24),(jS 0)]),aQ 26 (.call dD [(.t 25)]),MR 2 26] .ret)))))
def aef {P:Program} {G:Nat→Option (List IV)} {Vd V3 x8 dD:Nat} (hF:aw P G Vd=some (27,[(none,2)],(YW V3 x8 dD).bare)) (d:Doc) (hd:zn d≤B)
  (hW:cR P G V3 [Doc.av d,.int .i64 0,.int .i64 (-1),.int .i64 (9 - ((8:Nat):Int)),.ptr (.par 0) 1 0 0] [.int .i64 0] fun x cs=>∃v,x= .bool (wk d 8 0 (-1) 0).isSome∧cs=[.int .i64 v]∧∀r,wk d 8 0 (-1) 0=some r→v=r)
  (hA:∀x,d=lW x→au P G x8 [Doc.av d,.int .i64 0] x.av) (hG:∀x,d=lW x→au P G dD [x.av] (.bool x.d_)):au P G Vd [Doc.av d] (.bool (Vo d)):=by
 refine aR hF (by simp) (by simp[ah,AV.an,Doc.av]) (by simp[AV.an]) ?_;have hlen:=XR d;unfold YW;simp only[↓aX,mX,seval,Doc.av,ax];cases h1:decide ((d.length:Int)<1) with
 |true=>
  have:Vo d=false:=XX fun h=>by have:=h.len;simp at h1;omega
  simp only[↓aX,mX,seval,this]
 |false=>
 cases h2:decide ((d.length:Int)>80) with
 |true=>
  have:Vo d=false:=XX fun h=>by have:=h.len;simp at h2;omega
  simp only[↓aX,mX,seval,ax,h2,this]
 |false=>
 simp only[↓aX,mX,seval,ax,h2];refine bj (l:= .loc 3) hW rfl (by simp only[↓aX,mX,seval];try rfl) ?_
 rintro x1 dF ⟨v,rfl,rfl,hv⟩ _ _ _;cases hr:wk d 8 0 (-1) 0 with
 |none=>
  have:Vo d=false:=XX fun h=>by have:=h.wk;rw[hr] at this;cases this
  simp only[↓aX,mX,seval,jf,bx,this]
 |some r=>
 have:=hv r hr;subst this;simp only[↓aX,mX,seval,qu,bG,ax];cases h3:(v !=(d.length:Int)) with
 |true=>
  have:Vo d=false:=XX fun h=>by have:=h.wk;rw[hr] at this;cases this;simp at h3
  simp only[↓aX,mX,seval,this]
 |false=>
 have Hl:v=d.length:=by simpa using h3
 rw[Hl] at hr;obtain⟨x,D1,T8⟩:=agK hr;simp only[↓aX,mX,seval];refine ay (hA x T8) ?_;simp only[↓aX,mX,seval];refine ay (hG x T8) ?_;simp only[↓aX,mX,seval];rw[T8,abj]

def Ot (Oy Ok:Nat):AC:=
(aM [jM 2 false] (aM [gH 3 0] (.seq (aM [MR 8 0,oy 9 8,gH 10 0] (.block 0 (.loop (aM [et 11 .lss 10 9] (.seq (.cond (.t 11) .skip (.exit 0)) (.seq (.block 1 (aM [jL 12 8 10 4,gz 13 4 12,aQ 5 (.new [(.bool false),(.str []),.nil0,.nil0]),gg (.store 4 (.t 5) (.t 13))] (aM [gz 15 4 5,aQ 16 (.call Oy [(.t 15)]),MR 14 16,ox 17 14 0,ox 18 14 1,MR 6 17,MR 7 18] (.seq (aM [MR 19 6,eY 20 .gtr 19 8] (.cond (.t 20) (aM [jM 2 false] .ret) .skip)) (.cq [MR 21 3,MR 22 7,et 23 .add 21 22,MR 3 23]))))) (.cq [eY 24 .add 10 1,MR 10 24]))))))) (aM [MR 25 3,eY 26 .leq 25 80,MR 27 26,cU 28 27 0,dW 29 27 (.call Ok [(.t 28)]),jT 30 27 29,MR 2 30] .ret))))
def content (l:List Tree):Bool:=l.all (fun x=>decide (x.dep≤8))&&(decide (dP l≤80)&&bQ none l)
def R1 {P:Program} {G:Nat→Option (List IV)} {No Oy Ok:Nat} (hF:aw P G No=some (31,[(none,2)],(Ot Oy Ok).bare)) (l:List Tree) (hx:dE l≤B)
  (hS:∀x∈l,au P G Oy [x.av] (.gf [.int .i64 x.dep,.int .i64 x.jz])) (Gn:au P G Ok [.list (dq l)] (.bool (bQ none l))):au P G No [.list (dq l)] (.bool (content l)):=by
 refine aR hF (by simp) (by simp[ah,AV.an]) (by simp[AV.an]) ?_;have hl:=eZ l;unfold Ot;simp only[↓aX,mX,seval,bF];refine VR (σ:={i:Nat // i≤l.length∧(l.take i).all (fun x=>decide (x.dep≤8))=true}) (fun q=>[(0,.list (dq l)),(3,.int .i64 (dP (l.take q.1))),(8,.list (dq l)),(9,.int .i64 l.length),(10,.int .i64 q.1)]) (fun q=>l.length - q.1) ⟨0,by simp⟩ (fun _=>rfl) ?_ ?_
 ·exact⟨by simp only[↓aX,mX,seval],by repeat' constructor⟩
 rintro⟨i,hi,hs⟩;simp only[↓aX,mX,seval,bF];refine AU (fun h=> ?_) (fun h=> ?_)
 ·have bI:i<l.length:=by simpa using h
  obtain⟨x,Ja⟩:∃x,l[i]?=some x:=⟨_,aC bI⟩;have hw:IntKind.i64.wrap ((i:Int)+1)=((i+1:Nat):Int):=wrap64 (by omega) (by unfold B at hx;omega);have h2:=lV l i;have h3:=ql (l.take i);have h5:=jx _ _ _ Ja;have h6:=x.td;have h1:l.take (i+1)=l.take i++[x]:=by rw[fa,Ja];rfl
  have hc:IntKind.i64.wrap ((dP (l.take i):Int)+(x.jz:Int))=((dP (l.take (i+1)):Nat):Int):=by
   rw[wrap64 (by omega) (by unfold B at hx;omega),h1,lU];simp[dP]
  simp only[↓aX,mX,seval,iy,Ja,lT,Tree.cJ,Tree.cs];refine ay (hS x (aV Ja)) ?_;simp only[↓aX,mX,seval];refine AU (fun h9=> ?_) (fun h9=> ?_)
  ·simp only[↓aX,mX,seval];have:l.all (fun x=>decide (x.dep≤8))=false:=by
    rw[qA];intro dN;have:=ek.1 dN x (aV Ja);simp at this h9;omega
   rw[content,this];rfl
  simp only[↓aX,mX,seval,hw,hc];refine⟨⟨i+1,bI,?_⟩,by simp only;omega,by simp only[↓aX,mX,seval],by repeat' constructor⟩;rw[h1,vT,hs];simp at h9 ⊢;omega
 have XV:i=l.length:=by simp at h;omega
 subst XV;rw[ea] at hs;simp only[↓aX,mX,seval,ea];cases h9:decide ((dP l:Int)≤80) with
 |true=>
  simp only[↓aX,mX,seval];refine ay Gn ?_;simp only[↓aX,mX,seval];have:decide (dP l≤80)=true:=by simp at h9 ⊢;omega
  rw[content,hs,this];rfl
 |false=>
 simp only[↓aX,mX,seval];have:decide (dP l≤80)=false:=by simp at h9 ⊢;omega
 rw[content,hs,this];rfl

def acf (x:Tree):oc (lW x) 0 (-1) x:=⟨[],by simp[lW]⟩

section
variable {P:Program}
def Sh.Cg {t:TypeId} {y:IV} (h:Sh P t y) (hu:P.underlying t=some .bool):∃x,y= .bool x:=by
 cases h<;>simp_all
def Sh.Ch {t:TypeId} {y:IV} {k:IntKind} (h:Sh P t y) (hu:P.underlying t=some (.int k)):∃n,y= .int k n∧(Lit.int k n).wf=true:=by
 cases h<;>simp_all
def Sh.uJ {t:TypeId} {y:IV} (h:Sh P t y) (hu:P.underlying t=some .string):∃x,y= .str x:=by
 cases h<;>simp_all
def Sh.ZY {t e:TypeId} {y:IV} (h:Sh P t y) (hu:P.underlying t=some (.slice e)):∃ys,y= .list ys∧∀y∈ys,Sh P e y:=by
 cases h<;>simp_all
def Sh.x9 {t:TypeId} {fs:Array Field} {y:IV} (h:Sh P t y) (hu:P.underlying t=some (.struct fs)) :
  ∃ys,y= .agg ys∧ys.length=fs.size∧∀(j:Nat) (f:Field) (y:IV),fs[j]?=some f→ys[j]?=some y→Sh P f.type y:=by
 cases h with
 |g DG h1 h2=>
  rw[DG] at hu;cases hu;exact⟨_,rfl,h1,h2⟩
 |_=>simp_all
structure Ci (P:Program) where
 tB:TypeId
 tS:TypeId
 tA:TypeId
 EZ:TypeId
 tT:TypeId
 HB:TypeId
 fA:Array Field
 fT:Array Field
 uB:P.underlying tB=some .bool
 uS:P.underlying tS=some .string
 I3:P.underlying EZ=some (.slice tA)
 Kg:P.underlying HB=some (.slice tT)
 uA:P.underlying tA=some (.struct fA)
 uT:P.underlying tT=some (.struct fT)
 sA:fA.toList.map (·.type)=[tS,tS]
 sT:fT.toList.map (·.type)=[tB,tS,EZ,HB]
def eC {fs:Array Field} {ts:List TypeId} (h:fs.toList.map (·.type)=ts) (j:Nat) (t:TypeId) (ht:ts[j]?=some t):∃f,fs[j]?=some f∧f.type=t:=by
 subst h;rw[cn] at ht;obtain⟨f,h1,rfl⟩:=aP.1 ht;exact⟨f,by simpa using h1,rfl⟩
def Sh.attr (T:Ci P) {y:IV} (h:Sh P T.tA y):∃a:Attr,y=a.iv∧a.wt≤y.wt:=by
 obtain⟨ys,rfl,hl,hy⟩:=h.x9 T.uA;have hs:T.fA.size=2:=by have:=jR List.length T.sA;simpa using this
 match ys,hl.trans hs,hy with
 |[y0,y1],_,hy=>
  obtain⟨f0,e0,t0⟩:=eC T.sA 0 T.tS rfl;obtain⟨f1,e1,t1⟩:=eC T.sA 1 T.tS rfl;have h0:=hy 0 f0 y0 e0 rfl;have h1:=hy 1 f1 y1 e1 rfl;rw[t0] at h0;rw[t1] at h1;obtain⟨x0,rfl⟩:=h0.uJ T.uS;obtain⟨x1,rfl⟩:=h1.uJ T.uS;exact⟨⟨x0,x1⟩,rfl,by simp[Attr.wt,IV.wt,k9];omega⟩
theorem Sh.attrs (T:Ci P):∀(ys:List IV),(∀y∈ys,Sh P T.tA y)→∃as,ys=cD as∧dX as≤k9 ys
 |[],_=>⟨[],rfl,by simp[dX,k9]⟩
 |y::r,h=>by
  obtain⟨a,rfl,h1⟩:=(h y (by simp)).attr T;obtain⟨as,rfl,h2⟩:=Sh.attrs T r (fun z hz=>h z (by simp[hz]));exact⟨a::as,rfl,by simp only[dX,k9];omega⟩
def Sh.Cj (T:Ci P):∀(n:Nat),(∀y:IV,y.wt≤n→Sh P T.tT y→∃x:Tree,y=x.iv∧x.wt≤y.wt)∧∀ys:List IV,k9 ys≤n→(∀y∈ys,Sh P T.tT y)→∃xs,ys=dq xs∧dE xs≤k9 ys:=by
 intro n;induction n with
 |zero=>
  refine⟨fun y hy h=> ?_,fun ys hy h=> ?_⟩
  ·exfalso;cases y<;>simp[IV.wt] at hy
  cases ys with
  |nil=>exact⟨[],rfl,by simp[dE,k9]⟩
  |cons y r=>exfalso;cases y<;>simp[IV.wt,k9] at hy
 |succ n ih=>
 have one:∀y:IV,y.wt≤n+1→Sh P T.tT y→∃x:Tree,y=x.iv∧x.wt≤y.wt:=by
  intro y hy h;obtain⟨ys,rfl,hl,sn⟩:=h.x9 T.uT;have hs:T.fT.size=4:=by have:=jR List.length T.sT;simpa using this
  match ys,hl.trans hs,sn,hy with
  |[y0,y1,y2,y3],_,sn,hy=>
   obtain⟨f0,e0,t0⟩:=eC T.sT 0 T.tB rfl;obtain⟨f1,e1,t1⟩:=eC T.sT 1 T.tS rfl;obtain⟨f2,e2,t2⟩:=eC T.sT 2 T.EZ rfl;obtain⟨f3,e3,t3⟩:=eC T.sT 3 T.HB rfl;have h0:=sn 0 f0 y0 e0 rfl;have h1:=sn 1 f1 y1 e1 rfl;have h2:=sn 2 f2 y2 e2 rfl;have h3:=sn 3 f3 y3 e3 rfl;rw[t0] at h0;rw[t1] at h1;rw[t2] at h2;rw[t3] at h3;obtain⟨b,rfl⟩:=h0.Cg T.uB;obtain⟨s,rfl⟩:=h1.uJ T.uS;obtain⟨z2,rfl,g2⟩:=h2.ZY T.I3;obtain⟨z3,rfl,g3⟩:=h3.ZY T.Kg;obtain⟨as,rfl,w2⟩:=Sh.attrs T z2 g2;simp only[IV.wt,k9] at hy;obtain⟨ks,rfl,w3⟩:=ih.2 z3 (by omega) g3;exact⟨.mk b s as ks,by simp[Tree.iv],by simp only[Tree.wt,IV.wt,k9];omega⟩
 refine⟨one,fun ys=> ?_⟩;induction ys with
 |nil=>exact fun _ _=>⟨[],rfl,by simp[dE,k9]⟩
 |cons y r Ll=>
 intro hy h;simp only[k9] at hy;obtain⟨x,rfl,h1⟩:=one y (by omega) (h y (by simp));obtain⟨xs,rfl,h2⟩:=Ll (by omega) (fun z hz=>h z (by simp[hz]));exact⟨x::xs,rfl,by simp only[dE,k9];omega⟩
def Sh.trees (T:Ci P) {y:IV} (h:Sh P T.HB y):∃xs:List Tree,y= .list (dq xs)∧dE xs≤y.wt:=by
 obtain⟨ys,rfl,hy⟩:=h.ZY T.Kg;obtain⟨xs,rfl,hw⟩:=(Sh.Cj T (k9 ys)).2 ys (bm _) hy;exact⟨xs,rfl,by simp only[IV.wt];omega⟩
end

mutual
theorem Tree.ZZ (off:Nat) (p:Int):∀x:Tree,zn (x.flat off p)+1≤2*x.wt
 | .mk t s as ks=>by
  have:=Zx (off+1) off ks;simp only[Tree.flat,zn,Node.wt,Tree.wt,VS];omega
theorem Zx (off p:Nat):∀xs:List Tree,zn (fC off p xs)+xs.length≤2*dE xs
 |[]=>by simp[dE,fC,zn]
 |k::r=>by
  have:=k.ZZ off p;have:=Zx (off+k.jz) p r;simp only[fC,nv,dE,cG];omega
end
def aeg (x:Tree):zn (lW x)≤2*x.wt:=by have:=x.ZZ 0 (-1);unfold lW;omega
section
variable {P:Program}
structure Kh (P:Program) (T:Ci P) where
 tI:TypeId
 I4:TypeId
 tN:TypeId
 Ki:TypeId
 tD:TypeId
 fN:Array Field
 fD:Array Field
 uI:P.underlying tI=some (.int .i64)
 Lm:P.underlying I4=some (.slice tI)
 uN:P.underlying tN=some (.struct fN)
 Mr:P.underlying Ki=some (.slice tN)
 uD:P.underlying tD=some (.struct fD)
 sN:fN.toList.map (·.type)=[T.tB,T.tS,T.EZ,tI,I4]
 sD:fD.toList.map (·.type)=[Ki]
theorem Sh.ints {T:Ci P} (D:Kh P T):∀(ys:List IV),(∀y∈ys,Sh P D.tI y)→∃xs:List Int,ys=xs.map xX∧xs.length≤k9 ys
 |[],_=>⟨[],rfl,by simp[k9]⟩
 |y::r,h=>by
  obtain⟨n,rfl,_⟩:=(h y (by simp)).Ch D.uI;obtain⟨xs,rfl,h2⟩:=Sh.ints D r (fun z hz=>h z (by simp[hz]));exact⟨n::xs,rfl,by simp only[cG,k9,IV.wt];omega⟩
def Sh.node {T:Ci P} (D:Kh P T) {y:IV} (h:Sh P D.tN y):∃x:Node,y=x.iv∧x.wt≤y.wt:=by
 obtain⟨ys,rfl,hl,sn⟩:=h.x9 D.uN;have hs:D.fN.size=5:=by have:=jR List.length D.sN;simpa using this
 match ys,hl.trans hs,sn with
 |[y0,y1,y2,y3,y4],_,sn=>
  obtain⟨f0,e0,t0⟩:=eC D.sN 0 T.tB rfl;obtain⟨f1,e1,t1⟩:=eC D.sN 1 T.tS rfl;obtain⟨f2,e2,t2⟩:=eC D.sN 2 T.EZ rfl;obtain⟨f3,e3,t3⟩:=eC D.sN 3 D.tI rfl;obtain⟨f4,e4,t4⟩:=eC D.sN 4 D.I4 rfl;have h0:=sn 0 f0 y0 e0 rfl;have h1:=sn 1 f1 y1 e1 rfl;have h2:=sn 2 f2 y2 e2 rfl;have h3:=sn 3 f3 y3 e3 rfl;have h4:=sn 4 f4 y4 e4 rfl;rw[t0] at h0;rw[t1] at h1;rw[t2] at h2;rw[t3] at h3;rw[t4] at h4;obtain⟨b,rfl⟩:=h0.Cg T.uB;obtain⟨s,rfl⟩:=h1.uJ T.uS;obtain⟨z2,rfl,g2⟩:=h2.ZY T.I3;obtain⟨p,rfl,_⟩:=h3.Ch D.uI;obtain⟨z4,rfl,g4⟩:=h4.ZY D.Lm;obtain⟨as,rfl,w2⟩:=Sh.attrs T z2 g2;obtain⟨ks,rfl,w4⟩:=Sh.ints D z4 g4;exact⟨⟨b,s,as,p,ks⟩,rfl,by simp only[Node.wt,IV.wt,k9];omega⟩
theorem Sh.nodes {T:Ci P} (D:Kh P T):∀(ys:List IV),(∀y∈ys,Sh P D.tN y)→∃d:Doc,ys=d.map Node.iv∧zn d≤k9 ys
 |[],_=>⟨[],rfl,by simp[k9,zn]⟩
 |y::r,h=>by
  obtain⟨x,rfl,h1⟩:=(h y (by simp)).node D;obtain⟨d,rfl,h2⟩:=Sh.nodes D r (fun z hz=>h z (by simp[hz]));exact⟨x::d,rfl,by simp only[zn,k9];omega⟩
def Sh.doc {T:Ci P} (D:Kh P T) {y:IV} (h:Sh P D.tD y):∃d:Doc,y= .agg [.list (d.map Node.iv)]∧zn d≤y.wt:=by
 obtain⟨ys,rfl,hl,sn⟩:=h.x9 D.uD;have hs:D.fD.size=1:=by have:=jR List.length D.sD;simpa using this
 match ys,hl.trans hs,sn with
 |[y0],_,sn=>
  obtain⟨f0,e0,t0⟩:=eC D.sD 0 D.Ki rfl;have h0:=sn 0 f0 y0 e0 rfl;rw[t0] at h0;obtain⟨z,rfl,g⟩:=h0.ZY D.Mr;obtain⟨d,rfl,w⟩:=Sh.nodes D z g;exact⟨d,rfl,by simp only[IV.wt,k9];omega⟩
end

structure Step where
 name:Bs
 n:Int
def Step.cs (x:Step):List IV:=[.str x.name,.int .i64 x.n]
def Step.iv (x:Step):IV:= .agg x.cs
def Step.av (x:Step):AV:= .agg [.str x.name,.int .i64 x.n]
def Ha (text:Bool) (s:Bs) (name:Bs):Bool:=if name==[]||text then name==[]&&text else name==[42]||name==s
def kz (d:Doc) (s:Step):Nat→List Int→List Int
 |_,[]=>[]
 |k,n::r=>match d[n.toNat]? with
  |some x=>if Ha x.text x.s s.name then(if s.n=0∨s.n=((k+1:Nat):Int) then n::kz d s (k+1) r else kz d s (k+1) r) else kz d s k r
  |none=>kz d s k r

section
variable {P:Program}
structure TyP (P:Program) (T:Ci P) where
 tI:TypeId
 tP:TypeId
 tPs:TypeId
 fP:Array Field
 uI:P.underlying tI=some (.int .i64)
 uP:P.underlying tP=some (.struct fP)
 uPs:P.underlying tPs=some (.slice tP)
 sP:fP.toList.map (·.type)=[T.tS,tI]
def Sh.step {T:Ci P} (D:TyP P T) {y:IV} (h:Sh P D.tP y):∃x:Step,y=x.iv∧1+x.name.length≤y.wt:=by
 obtain⟨ys,rfl,hl,sn⟩:=h.x9 D.uP;have hs:D.fP.size=2:=by have:=jR List.length D.sP;simpa using this
 match ys,hl.trans hs,sn with
 |[y0,y1],_,sn=>
  obtain⟨f0,e0,t0⟩:=eC D.sP 0 T.tS rfl;obtain⟨f1,e1,t1⟩:=eC D.sP 1 D.tI rfl;have h0:=sn 0 f0 y0 e0 rfl;have h1:=sn 1 f1 y1 e1 rfl;rw[t0] at h0;rw[t1] at h1;obtain⟨s,rfl⟩:=h0.uJ T.uS;obtain⟨p,rfl,_⟩:=h1.Ch D.uI;exact⟨⟨s,p⟩,rfl,by simp only[IV.wt,k9];omega⟩
end
end Go.Am
