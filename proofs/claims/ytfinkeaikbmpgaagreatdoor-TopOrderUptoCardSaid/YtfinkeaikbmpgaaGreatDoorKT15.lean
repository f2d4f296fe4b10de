import Derived.Test.YtfinkeaikbmpgaaGreatDoorKD2
import Derived.Test.YtfinkeaikbmpgaaGreatDoorKAm25
set_option linter.unusedSimpArgs false
set_option linter.unusedVariables false
set_option linter.unnecessarySimpa false
set_option linter.defProp false
/- Documents: made; walked; the trees in them. -/
namespace Go.Am
open Go Go.RowKit
def Doc.av (d:Doc):AV:= .agg [.list (d.map Node.iv)]
section
variable {P:Program} {G:Nat→Option (List IV)}
def ab1 {gA ai:Nat} (hF:an P G gA=some (58,[(none,6)],(uz ai gA).bare)) (hC:∀xs:List Attr,xs.length≤B→aw P G ai [.list (dA xs)] (.list (dA xs))) (x:Tree) (d:Doc) (p:Int) (hx:d.length+x.wt≤B) :
  KR P G 5 gA [.ptr (.par 0) 1 0 0,x.av,.int .i64 p] (d.map Node.iv) (.int .i64 d.length) ((d++x.flat d.length p).map Node.iv):=by
 have key:=KW (M:=fun l=>∀x∈l,∀(d:Doc) (p:Int),d.length+x.wt≤B→KR P G 5 gA [.ptr (.par 0) 1 0 0,x.av,.int .i64 p] (d.map Node.iv) (.int .i64 d.length) ((d++x.flat d.length p).map Node.iv))
  (fun l h x hx d p hB=>abZ hF x d p hB (hC _ (by have:=tm x;have:=oc x.attrs;omega)) fun k hk d' QU=>h x hx k hk d' d.length (by omega))
 exact key [x] x (by simp) d p hx
end
def vR (dI gA:Nat):AC:=
(ay [oN 1 0,aE 2 (.new [.nil0]),eX 3 0] (.seq (ay [gd 5 4 1,aE 6 (.call dI [(.t 5)]),uk 7 6] (.cond (.t 7) (ay [aE 8 (.oa [.nil0] []),dT (.store 1 (.t 2) (.t 8)),eX 3 1] .ret) .skip)) (ay [aE 4 (.new [.nil0])] (ay [gd 9 4 1,aE 10 (.call gA [(.t 4),(.t 9),(.c (.int .i64 (-1)))])] (ay [gd 11 1 4,dT (.store 1 (.t 2) (.t 11)),eX 3 0] (.gh (.Ha (.loc 100) (.loc 2) 0) .ret))))))
def ZZ {P:Program} {G:Nat→Option (List IV)} {cy dI gA:Nat} (hF:an P G cy=some (12,[((some (some 1)),2),(none,3)],(vR dI gA).bare)) (x:Tree) (hx:x.wt≤B)
  (hG:aw P G dI [x.av] (.bool x.fZ)) (hP:KR P G 5 gA [.ptr (.par 0) 1 0 0,x.av,.int .i64 (-1)] [] (.int .i64 0) ((aK x).map Node.iv)) :
  aw P G cy [x.av] (.dM [Doc.av (jJ x).1,.int .i64 (jJ x).2]):=by
 refine iC hF (by simp) (by simp[ah,AV.aB,Tree.av]) (by simp[AV.aB,ah,Doc.av]) ?_;unfold vR;simp only[↓aX,mX,seval,Tree.av];refine aq hG ?_;cases hg:x.fZ with
 |false=>
  simp only[↓aX,mX,seval,jM];simp[norm,dC,jJ,hg,Doc.av]
 |true=>
 simp only[↓aX,mX,seval];refine xP (l:= .loc 4) (N:= .loc 100) (o:=none) hP rfl ⟨by simp only[↓aX,mX,seval],rfl⟩ (by simp only[↓aX,mX,seval]) (fun _=>⟨rfl,by simp⟩) ?_;rintro L' m_ KY ⟨b1,b2,b3⟩ fH vq;have hL:L'= .loc 100:=by simpa using KY
 subst hL;have c2:m_ (.loc 2)= .live ⟨1,[[.nil0]]⟩:=by rw[fH _ (by simp) (by simp) (by simp)];simp only[↓aX,mX,seval]
 simp only[↓aX,mX,seval,b2,c2,jM];refine⟨5,(aK x).map Node.iv,0,(aK x).length,[.sl (.loc 100) 5 0 (aK x).length],rfl,rfl,b3,by simp,by simp,NL _,?_⟩;simp only[↓aX,mX,seval,jM,norm,dC,jJ,hg,Doc.av,ag5];simp;exact ads (by simp)
def rW (jD:Nat):AC:=
(ay [oN 5 0,jK 10 false] (.seq (ay [af 13 1,af 14 4,aE 15 (.dc (.t 14)),cS 16 15,eS 17 .neq 13 16,af 18 17,gj 19 18 1,j3 20 18 5 0,jP 21 18 20,hQ 22 18 (.len (.t 21)),hQ 23 18 (.bin .geq (.t 19) (.t 22)),nC 24 18 23,af 25 24,j3 26 25 5 0,jP 27 25 26,gj 28 25 1,hQ 29 25 (.Dg (.t 27) (.t 28) 5),j3 30 25 29 3,jP 31 25 30,gj 32 25 2,hQ 33 25 (.bin .neq (.t 31) (.t 32)),nC 34 25 33,af 35 34,gj 36 35 3,hQ 37 35 (.bin .gtr (.t 36) (ij 8)),nC 38 35 37] (.cond (.t 38) (ay [jK 10 false] .ret) .skip)) (ay [af 39 4,aE 40 (.dc (.t 39)),cS 41 40,db 42 .add 41 1,aE 43 (.dc (.t 39)),dT (.store 1 (.t 43) (.t 42))] (.seq (ay [b7 44 5 0,cS 45 44,af 46 1,ig 47 45 46 5,b7 48 47 4,cS 49 48,ky 50 49,eX 51 0] (.block 0 (.loop (ay [eS 52 .lss 51 50] (.seq (.cond (.t 52) .skip (.exit 0)) (.seq (.block 1 (ay [ig 53 49 51 1,cS 54 53,af 12 54] (ay [gd 55 1 5,af 56 12,af 57 1,af 58 3,db 59 .add 58 1,af 60 4,aE 61 (.call jD [(.t 55),(.t 56),(.t 57),(.t 59),(.t 60)]),uk 62 61] (.cond (.t 62) (ay [jK 10 false] .ret) .skip)))) (.ec [db 63 .add 51 1,af 51 63]))))))) (ay [jK 10 true] .ret)))))
def R7 {d:Doc} {f:Nat} {n p nx:Int} {x:Node} (hn:n=nx) (hx:d[n.toNat]?=some x) (hp:x.parent=p):wk d (f+1) n p nx=x.kids.foldlM (fun q k=>wk d f k n q) (nx+1):=by
 rw[wk,adv hn,hx];simp[hp]
def NV {d:Doc}:∀{f:Nat} {n p nx v:Int},0≤nx→wk d f n p nx=some v→nx<v∧v≤d.length:=by
 intro f n p nx v h0 h;have hn:n=nx:=by
  cases f with
  |zero=>simp[wk] at h
  |succ f=>rw[wk] at h;split at h;assumption;simp at h
 obtain⟨m,rfl⟩:∃m:Nat,nx=m:=⟨nx.toNat,by omega⟩;obtain⟨_,x,_,⟨post,h2⟩,rfl⟩:=Jf d f m n p v h;have hc:=x.dH;have:=afb List.length h2;rw[aen,adE,x.gM] at this;omega
def Doc.vS {d:Doc} {n:Nat} {x:Node} (h:d[n]?=some x):(d.map Node.iv)[n]?=some x.iv:=by rw[adX,h];rfl
def xT (l:List Int) (i:Nat):(l.map aW)[i]?=(l[i]?).map aW:=adX ..
def T5 {d:Doc} {f:Nat} {n p nx:Int} (h:n≠nx):wk d f n p nx=none:=by
 cases f with
 |zero=>rfl
 |succ f=>rw[wk,ag8 h]
def Wx {d:Doc} {f:Nat} {n p nx:Int} (h:d[n.toNat]?=none):wk d f n p nx=none:=by
 cases f with
 |zero=>rfl
 |succ f=>rw[wk,h];simp
def Wy {d:Doc} {f:Nat} {n p nx:Int} {x:Node} (h:d[n.toNat]?=some x) (hp:x.parent≠p):wk d f n p nx=none:=by
 cases f with
 |zero=>rfl
 |succ f=>rw[wk,h];simp[hp]
def Z0 {P:Program} {G:Nat→Option (List IV)} {jD:Nat} (hF:an P G jD=some (64,[(none,10)],(rW jD).bare)) (d:Doc) (hd:d.length≤B) (hk:∀x∈d,x.kids.length≤B):∀(f:Nat) (n p nx:Int),f≤8→0≤nx→nx≤B →
  ez P G jD [Doc.av d,.int .i64 n,.int .i64 p,.int .i64 (9 - (f:Int)),.ptr (.par 0) 1 0 0] [.int .i64 nx] fun x cs=>∃v,x= .bool (wk d f n p nx).isSome∧cs=[.int .i64 v]∧∀r,wk d f n p nx=some r→v=r:=by
 intro f;induction f with
 |zero=>
  intro n p nx hf h0 hB;refine ft hF (by simp) (by simp[ah,AV.aB,Doc.av]) (by simp[ah,AV.aB]) ?_;unfold rW;have hd9:decide ((9:Int) - ((0:Nat):Int)>8)=true:=by decide
  simp only[↓aX,mX,reduceCtorEq,Nat.reduceEqDiff,Nat.reduceLT,Nat.reduceLeDiff,Nat.reduceAdd,Nat.reduceMul,Int.reduceToNat,Int.reduceLE,Int.reduceLT,Doc.av,kY];cases h1:(n !=nx) with
  |true=>
   simp only[↓aX,mX,reduceCtorEq,Nat.reduceEqDiff,Nat.reduceLT,Nat.reduceLeDiff,Nat.reduceAdd,Nat.reduceMul,Int.reduceToNat,Int.reduceLE,Int.reduceLT];exact⟨_,⟨nx,rfl,rfl,by simp[wk]⟩,rfl,rfl,rfl,rfl⟩
  |false=>
  have:n=nx:=by simpa using h1
  subst this;obtain⟨m,rfl⟩:∃m:Nat,n=m:=⟨n.toNat,by omega⟩;cases hx:d[m]? with
  |none=>
   have xy:decide ((m:Int)≥(d.length:Int))=true:=by
    have:=afX.1 hx;simp;omega
   simp only[↓aX,mX,reduceCtorEq,Nat.reduceEqDiff,Nat.reduceLT,Nat.reduceLeDiff,Nat.reduceAdd,Nat.reduceMul,Int.reduceToNat,Int.reduceLE,Int.reduceLT,ag5,xy];exact⟨_,⟨m,rfl,rfl,by simp[wk]⟩,rfl,rfl,rfl,rfl⟩
  |some x=>
  have bO:=(ag6.1 hx).1;have xy:decide ((m:Int)≥(d.length:Int))=false:=by simp;omega
  simp only[↓aX,mX,reduceCtorEq,Nat.reduceEqDiff,Nat.reduceLT,Nat.reduceLeDiff,Nat.reduceAdd,Nat.reduceMul,Int.reduceToNat,Int.reduceLE,Int.reduceLT,ag5,xy,Doc.vS hx,tl,Node.bw,Node.cs];cases h2:(x.parent !=p) with
  |true=>
   simp only[↓aX,mX,reduceCtorEq,Nat.reduceEqDiff,Nat.reduceLT,Nat.reduceLeDiff,Nat.reduceAdd,Nat.reduceMul,Int.reduceToNat,Int.reduceLE,Int.reduceLT];exact⟨_,⟨m,rfl,rfl,by simp[wk]⟩,rfl,rfl,rfl,rfl⟩
  |false=>
  simp only[↓aX,mX,reduceCtorEq,Nat.reduceEqDiff,Nat.reduceLT,Nat.reduceLeDiff,Nat.reduceAdd,Nat.reduceMul,Int.reduceToNat,Int.reduceLE,Int.reduceLT,hd9];exact⟨_,⟨m,rfl,rfl,by simp[wk]⟩,rfl,rfl,rfl,rfl⟩
 |succ f ih=>
 intro n p nx hf h0 hB;refine ft hF (by simp) (by simp[ah,AV.aB,Doc.av]) (by simp[ah,AV.aB]) ?_;unfold rW;have hd9:decide ((9:Int) - ((f+1:Nat):Int)>8)=false:=by simp;omega
 have hw9:IntKind.i64.wrap ((9:Int) - ((f+1:Nat):Int)+1)=9 - (f:Int):=by rw[wrap64 (by omega) (by omega)];omega
 simp only[↓aX,mX,reduceCtorEq,Nat.reduceEqDiff,Nat.reduceLT,Nat.reduceLeDiff,Nat.reduceAdd,Nat.reduceMul,Int.reduceToNat,Int.reduceLE,Int.reduceLT,Doc.av,kY];cases h1:(n !=nx) with
 |true=>
  have UU:n≠nx:=by simpa using h1
  simp only[↓aX,mX,reduceCtorEq,Nat.reduceEqDiff,Nat.reduceLT,Nat.reduceLeDiff,Nat.reduceAdd,Nat.reduceMul,Int.reduceToNat,Int.reduceLE,Int.reduceLT];exact⟨_,⟨nx,by rw[T5 UU];rfl,rfl,by rw[T5 UU];simp⟩,rfl,rfl,rfl,rfl⟩
 |false=>
 have:n=nx:=by simpa using h1
 subst this;obtain⟨m,rfl⟩:∃m:Nat,n=m:=⟨n.toNat,by omega⟩;cases hx:d[m]? with
 |none=>
  have xy:decide ((m:Int)≥(d.length:Int))=true:=by
   have:=afX.1 hx;simp;omega
  have Mw:wk d (f+1) (m:Int) p (m:Int)=none:=Wx (by simpa using hx);simp only[↓aX,mX,reduceCtorEq,Nat.reduceEqDiff,Nat.reduceLT,Nat.reduceLeDiff,Nat.reduceAdd,Nat.reduceMul,Int.reduceToNat,Int.reduceLE,Int.reduceLT,ag5,xy];exact⟨_,⟨m,by rw[Mw];rfl,rfl,by rw[Mw];simp⟩,rfl,rfl,rfl,rfl⟩
 |some x=>
 have bO:=(ag6.1 hx).1;have xy:decide ((m:Int)≥(d.length:Int))=false:=by simp;omega
 have NX:=hk x (adu hx);have Qw:IntKind.i64.wrap ((m:Int)+1)=(m:Int)+1:=wrap64 (by omega) (by unfold B at hd;omega);simp only[↓aX,mX,reduceCtorEq,Nat.reduceEqDiff,Nat.reduceLT,Nat.reduceLeDiff,Nat.reduceAdd,Nat.reduceMul,Int.reduceToNat,Int.reduceLE,Int.reduceLT,ag5,xy,Doc.vS hx,tl,Node.bw,Node.cs];cases h2:(x.parent !=p) with
 |true=>
  have Mw:wk d (f+1) (m:Int) p (m:Int)=none:=Wy (by simpa using hx) (by simpa using h2);simp only[↓aX,mX,reduceCtorEq,Nat.reduceEqDiff,Nat.reduceLT,Nat.reduceLeDiff,Nat.reduceAdd,Nat.reduceMul,Int.reduceToNat,Int.reduceLE,Int.reduceLT];exact⟨_,⟨m,by rw[Mw];rfl,rfl,by rw[Mw];simp⟩,rfl,rfl,rfl,rfl⟩
 |false=>
 have hp:x.parent=p:=by simpa using h2
 have mZ:=R7 (d:=d) (f:=f) (n:=m) (nx:=m) rfl (by simpa using hx) hp;simp only[↓aX,mX,reduceCtorEq,Nat.reduceEqDiff,Nat.reduceLT,Nat.reduceLeDiff,Nat.reduceAdd,Nat.reduceMul,Int.reduceToNat,Int.reduceLE,Int.reduceLT,hd9,Qw,ag5,Doc.vS hx,tl,Node.bw,Node.cs];refine eB (σ:={q:Nat×Int // q.1≤x.kids.length∧0≤q.2∧q.2≤d.length∧wk d (f+1) (m:Int) p (m:Int)=(x.kids.drop q.1).foldlM (fun q k=>wk d f k (m:Int) q) q.2}) [.par 0,.loc 5]
  (fun q=>[(1,.int .i64 m),(3,.int .i64 (9 - ((f+1:Nat):Int))),(4,.ptr (.par 0) 1 0 0),(5,.ptr (.loc 5) 1 0 0),(49,.list (x.kids.map aW)),(50,.int .i64 x.kids.length),(51,.int .i64 q.1.1)])
  (fun q=>[(.par 0,⟨1,[[.int .i64 q.1.2]]⟩),(.loc 5,⟨1,[[.list (d.map Node.iv)]]⟩)]) (fun q=>x.kids.length - q.1.1) ⟨(0,(m:Int)+1),by simp,by simp only;omega,by simp only;omega,by rw[mZ];rfl⟩
  (fun _=>rfl) (by decide) (by simp[ah,AV.aB]) (by simp[ah,AV.aB]) ?_ ?_
 ·refine jI ?_ (by repeat' constructor) (by repeat' constructor);intro l hl hu;by_cases e:l= .par 0
  ·subst e;simp
  exfalso;apply hu;cases l<;>simp_all[Lb.fresh,ae,Hp.none]
 rintro⟨⟨i,q⟩,hi,Y1,Wv,hs⟩;simp only at hi Y1 Wv hs;simp only[↓aX,mX,reduceCtorEq,Nat.reduceEqDiff,Nat.reduceLT,Nat.reduceLeDiff,Nat.reduceAdd,Nat.reduceMul,Int.reduceToNat,Int.reduceLE,Int.reduceLT,ed,dk];by_cases bO:i<x.kids.length
 ·obtain⟨k,vo⟩:∃k,x.kids[i]?=some k:=⟨_,ag7 bO⟩;have hw:IntKind.i64.wrap ((i:Int)+1)=((i+1:Nat):Int):=wrap64 (by omega) (by unfold B at NX;omega);rw[show decide ((i:Int)<(x.kids.length:Int))=true by simpa using bO];simp only[↓aX,mX,reduceCtorEq,Nat.reduceEqDiff,Nat.reduceLT,Nat.reduceLeDiff,Nat.reduceAdd,Nat.reduceMul,Int.reduceToNat,Int.reduceLE,Int.reduceLT,xT,vo,rj,ag5,adB,aW,IV.cells,hw9];refine a7 (l:= .par 0) (ih k m q (by omega) Y1 (by unfold B at hd ⊢;omega)) rfl (by simp only[↓aX,mX,reduceCtorEq,Nat.reduceEqDiff,Nat.reduceLT,Nat.reduceLeDiff,Nat.reduceAdd,Nat.reduceMul,Int.reduceToNat,Int.reduceLE,Int.reduceLT];try rfl) ?_
  rintro x1 jm ⟨v,rfl,rfl,hv⟩ _ _ _;have hdr:x.kids.drop i=k::x.kids.drop (i+1):=drop_eq vo;rw[hdr,agw] at hs;cases hr:wk d f k m q with
  |none=>
   rw[hr] at hs;simp only[agi,Option.bind_none] at hs;simp only[↓aX,mX,reduceCtorEq,Nat.reduceEqDiff,Nat.reduceLT,Nat.reduceLeDiff,Nat.reduceAdd,Nat.reduceMul,Int.reduceToNat,Int.reduceLE,Int.reduceLT,ad7,adI];exact⟨_,⟨v,by rw[hs];rfl,rfl,by rw[hs];simp⟩,rfl,rfl,rfl,rfl⟩
  |some r=>
  have hvr:=hv r hr;subst hvr;rw[hr] at hs;simp only[agi,adA] at hs;have hb:=NV Y1 hr;simp only[↓aX,mX,reduceCtorEq,Nat.reduceEqDiff,Nat.reduceLT,Nat.reduceLeDiff,Nat.reduceAdd,Nat.reduceMul,Int.reduceToNat,Int.reduceLE,Int.reduceLT,afK,adL,hw];refine⟨⟨(i+1,v),bO,by simp only;omega,by simp only;omega,hs⟩,by simp only;omega,jI ?_ (by repeat' constructor) (by repeat' constructor)⟩;intro l hl hu;by_cases e:l= .par 0
  ·subst e;simp
  exfalso;apply hu;cases l<;>simp_all[Lb.fresh,ae,Hp.none]
 have qV:i=x.kids.length:=by omega
 subst qV;rw[agx] at hs;simp only[List.foldlM_nil] at hs;rw[show decide ((x.kids.length:Int)<(x.kids.length:Int))=false by simp];simp only[↓aX,mX,reduceCtorEq,Nat.reduceEqDiff,Nat.reduceLT,Nat.reduceLeDiff,Nat.reduceAdd,Nat.reduceMul,Int.reduceToNat,Int.reduceLE,Int.reduceLT];exact⟨_,⟨q,by rw[hs];rfl,rfl,by rw[hs];rintro r h;cases h;rfl⟩,rfl,rfl,rfl,rfl⟩

def vt (rs:List (Lb×Row)):fy (fun _=>false) rs=kx rs:=by
 funext q;unfold fy;cases kx rs q<;>rfl
theorem AD:∀(off:Nat) (xs:List Tree) (i:Nat),i<xs.length→(aV off xs)[i]?=some ((off+bC (xs.take i):Nat):Int)
 |_,[],i,h=>by simp at h
 |off,x::r,0,_=>by simp[aV,bC]
 |off,x::r,i+1,h=>by
  simp only[aV,afa,aeF,bC];rw[AD (off+x.fI) r i (by simpa using h),aer]
def wN (ai fw:Nat):AC:=
(ay [oN 2 0,aE 4 (.new [(.bool false),(.str []),.nil0,.nil0])] (ay [b7 9 2 0,cS 10 9,af 11 1,ig 12 10 11 5,gd 13 5 12,aE 5 (.new [(.bool false),(.str []),.nil0,(.int .i64 0),.nil0]),dT (.store 5 (.t 5) (.t 13))] (.seq (.fg [b7 14 5 0,cS 15 14,b7 16 5 1,cS 17 16,b7 18 5 2,cS 19 18,aE 20 (.call ai [(.t 19)]),aE 21 (.oa [(.bool false),(.str []),.nil0,.nil0] [(0,(1,(.t 15))),(1,(1,(.t 17))),(2,(1,(.t 20)))]),aE 6 (.new [(.bool false),(.str []),.nil0,.nil0]),dT (.store 4 (.t 6) (.t 21))] [[],[0],[],[2],[],[4],[5],[1,3,6],[],[8,7,6,0,1,2,3,4,5,6,7,8]] [.no,.rw [.loc 5] [],.no,.rw [.loc 5] [],.no,.rw [.loc 5] [],.no,.no,.rw [] [.loc 6],.rw [] [.loc 6]]) (.seq (.gh .xD (ay [b7 22 5 4,cS 23 22,ky 24 23,eX 25 0] (.block 0 (.loop (ay [eS 26 .lss 25 24] (.seq (.cond (.t 26) .skip (.exit 0)) (.seq (.block 1 (ay [ig 27 23 25 1,cS 28 27,af 8 28] (.fg [b7 29 6 3,cS 30 29,gd 31 1 2,af 32 8,aE 33 (.call fw [(.t 31),(.t 32)]),aE 34 (.lits 1 4 [(.bool false),(.str []),.nil0,.nil0] [(0,(.t 33))]),aE 35 (.app (.t 30) (.t 34) 4 72),b7 36 6 3,dT (.store 1 (.t 36) (.t 35))] [[],[0],[],[],[2,3],[4],[1,5,4],[0,1,2,3,4,5,6],[7,6,6,0,1,2,3,4,5,6]] [.no,.rw [.loc 6] [],.rw [.loc 2] [],.no,.no,.no,(.rw [] [.loc 50,.loc 35]),.no,.rw [] [.loc 6]]))) (.ec [db 37 .add 25 1,af 25 37])))))))) (.gh (.Ha (.loc 50) (.loc 6) 3) (ay [gd 38 4 6,dT (.store 4 (.t 4) (.t 38))] .ret))))))
def pAt {P:Program} {G:Nat→Option (List IV)} {fw ai:Nat} (hF:an P G fw=some (39,[((some (some 4)),4)],(wN ai fw).bare)) (d:Doc) (hd:d.length≤B) (n:Nat) (q:Int) (x:Tree) (hL:mf d n q x) (hx:x.wt≤B)
  (hC:aw P G ai [.list (dA x.attrs)] (.list (dA x.attrs)))
  (hK:∀k∈x.kids,∀(m:Nat) (p:Int),mf d m p k→aw P G fw [Doc.av d,.int .i64 m] k.av):aw P G fw [Doc.av d,.int .i64 n] x.av:=by
 refine iC hF (by simp) (by simp[ah,AV.aB,Doc.av]) (by simp[AV.aB,Tree.av,ah]) ?_;have yD:=hL.node;have hlen:=hL.len;have bO:=(ag6.1 yD).1;have hwx:=x.kZ;have G4:=jr x.kids;have BF:(aV (n+1) x.kids).length=x.kids.length:=iO _ _;unfold wN;simp only[↓aX,mX,seval,Doc.av,ag5,Doc.vS yD,tl,Node.bw,Node.cs,Tree.node];refine⟨rfl,gJ hC ?_⟩;simp only[↓aX,mX,seval,ag5];rw[rS];refine⟨_,_,tn (q:= .loc 6) (cs:=[.bool x.text,.str x.s,.list (dA x.attrs),.nil0]) (j:=3) (d:=50) (sz:=4) rfl rfl (by simp[ae,Hp.none]) (by decide),?_⟩;simp only[↓aX,mX,seval];refine jj (σ:={i:Nat // i≤x.kids.length}) (fun _=>[.loc 2,.loc 4,.loc 6,.loc 50]) (fun _ _=>false)
  (fun q=>[(2,.ptr (.loc 2) 1 0 0),(4,.ptr (.loc 4) 4 0 0),(6,.ptr (.loc 6) 4 0 0),(23,.list ((aV (n+1) x.kids).map aW)),(24,.int .i64 x.kids.length),(25,.int .i64 q.1)])
  (fun q=>[(.loc 2,⟨1,[[.list (d.map Node.iv)]]⟩),(.loc 4,⟨4,[[.bool false,.str [],.nil0,.nil0]]⟩),(.loc 6,⟨4,[[.bool x.text,.str x.s,.list (dA x.attrs),.sl (.loc 50) 4 0 q.1]]⟩),(.loc 50,⟨4,ar (eR (x.kids.take q.1))⟩)])
  (fun q=>x.kids.length - q.1) ⟨0,ad3 _⟩ (fun _=>rfl) (fun q=>by simp[ah,AV.aB]) ?_ ⟨[],?_⟩ ?_
 ·rintro q r hr cs bS l hl;simp only[adz,adG,adO] at hr;rcases hr with rfl|rfl|rfl|rfl
  ·simp only[adr] at bS;subst bS;simp[ah,AV.aB] at hl
  ·simp only[adr] at bS;subst bS;simp[ah,AV.aB] at hl
  ·simp only[adr] at bS;subst bS;simp[ah,AV.aB] at hl;subst hl;simp
  rw[bT bS] at hl;simp at hl
 ·refine⟨?_,?_,?_,by simp[bZ],fun l _=>⟨id,fun _=>rfl⟩⟩
  ·intro l hf hu;exfalso;apply hu;cases l<;>simp_all[Lb.fresh,ae,Hp.none]
  ·simp[kv,bZ,e7,put,BF]
  simp[qe,bZ,ae,cV,aY,e7,ar,eR]
 rintro⟨i,hi⟩;rw[vt];simp only[↓aX,mX,seval,ed,dk];by_cases bO:i<x.kids.length
 ·rw[show decide ((i:Int)<(x.kids.length:Int))=true by simpa using bO];obtain⟨k,vo⟩:∃k,x.kids[i]?=some k:=⟨_,ag7 bO⟩;have hw:IntKind.i64.wrap ((i:Int)+1)=((i+1:Nat):Int):=wrap64 (by omega) (by unfold B at hx;omega);have hg:=AD (n+1) x.kids i bO;simp only[↓aX,mX,seval,xT,hg,rj,ag5,adB,aW,IV.cells];have hkm:=adu vo;have hkL:mf d (n+1+bC (x.kids.take i)) n k:=hL.BS (x.kids.take i) (x.kids.drop (i+1)) k (by rw[←drop_eq vo,ad0]);have Yn:(eR (x.kids.take i)).length=i:=by rw[bx,adP];omega
  have TC:eR (x.kids.take (i+1))=eR (x.kids.take i)++[.agg [.bool k.text,.str k.s,.list (dA k.attrs),.list (eR k.kids)]]:=by rw[iP vo,DF];simp[eR,Tree.Cl,Tree.cs]
  refine⟨rfl,gJ (hK k hkm _ _ hkL) ?_⟩;simp only[↓aX,mX,seval,Tree.av];rw[gU 4 72 35 50 (eR (x.kids.take i)) (.agg [.bool k.text,.str k.s,.list (dA k.attrs),.list (eR k.kids)]) (by simp[ae]) Yn rfl (by simp[IV.cells]) (by unfold B at hx;omega) (by decide) (by decide) (by simp[ae,Hp.none])];simp only[↓aX,mX,seval,hw];refine⟨by rintro l (rfl|rfl)<;>simp[Lb.kQ],?_⟩;refine⟨⟨i+1,bO⟩,by simp only;omega,[(.loc 50,.loc 35)],?_⟩;refine⟨?_,?_,?_,by simp[bZ],?_⟩
  ·intro l hf hu;exfalso;apply hu;cases l<;>simp_all[Lb.fresh,ae,Hp.none]
  ·simp[kv,bZ,e7,put]
  ·have hr:∀xs:List IV,cV (bZ [(.loc 50,.loc 35)]) ⟨4,ar xs⟩=⟨4,ar xs⟩:=fun xs=>b5 _ _ _;simp[qe,bZ,ae,cV,aY,e7,TC];simp[ar,pJ]
  intro l hl;simp only[adz,adG,adO] at hl;rcases hl with rfl|rfl|rfl|rfl
  ·exact⟨fun _=>rfl,fun _=>rfl⟩
  ·exact⟨fun _=>rfl,fun _=>rfl⟩
  ·exact⟨fun _=>rfl,fun _=>rfl⟩
  exact⟨fun _=>rfl,fun h=>by simp[Lb.fresh] at h⟩
 have qV:i=x.kids.length:=by omega
 subst qV;rw[show decide ((x.kids.length:Int)<(x.kids.length:Int))=false by simp];simp only[↓aX,mX,seval,aee];refine⟨4,eR x.kids,0,x.kids.length,[.bool x.text,.str x.s,.list (dA x.attrs),.sl (.loc 50) 4 0 x.kids.length],rfl,rfl,rfl,by simp,by rw[bx];omega,Cm _,?_⟩;simp only[↓aX,mX,seval,ad1,ads (show(eR x.kids).length≤x.kids.length by rw[bx];exact adw _)];rfl

def Node.wt (x:Node):Nat:=1+x.s.length+j0 x.attrs+x.kids.length
def rq:Doc→Nat
 |[]=>0
 |x::r=>x.wt+rq r
theorem wO:∀a b:Doc,rq (a++b)=rq a+rq b
 |[],b=>by simp[rq]
 |x::r,b=>by simp[rq,wO r b,aer]
theorem uF:∀d:Doc,d.length≤rq d
 |[]=>by simp
 |x::r=>by have:=uF r;simp only[rq,Node.wt,adK];omega
theorem zA:∀{d:Doc} {x:Node},x∈d→x.wt≤rq d
 |[],x,h=>by simp at h
 |y::r,x,h=>by
  simp only[adz] at h;rcases h with rfl|h
  ·simp[rq]
  have:=zA h;simp only[rq];omega
mutual
theorem Tree.Jm (off:Nat) (p:Int):∀x:Tree,x.wt≤rq (x.flat off p)
 | .mk t s as ks=>by
  have:=E_ (off+1) off ks;simp only[Tree.flat,rq,Node.wt,Tree.wt];omega
theorem E_ (off p:Nat):∀xs:List Tree,er xs≤rq (eE off p xs)
 |[]=>by simp[er]
 |k::r=>by
  have:=k.Jm off p;have:=E_ (off+k.fI) p r;simp only[eE,wO,er];omega
end
def mf.wt {d:Doc} {n:Nat} {q:Int} {y:Tree} (h:mf d n q y):y.wt≤rq d:=by
 obtain⟨post,h⟩:=h;have h1:=y.Jm n q;have h2:=wO (d.take n) (d.drop n);rw[ad0,h,wO] at h2;omega
section
variable {P:Program} {G:Nat→Option (List IV)}
def wAt {fw ai:Nat} (hF:an P G fw=some (39,[((some (some 4)),4)],(wN ai fw).bare)) (hC:∀xs:List Attr,xs.length≤B→aw P G ai [.list (dA xs)] (.list (dA xs))) (d:Doc) (hd:rq d≤B) (n:Nat) (q:Int) (x:Tree) (hL:mf d n q x) :
  aw P G fw [Doc.av d,.int .i64 n] x.av:=by
 have key:=KW (M:=fun l=>∀x∈l,∀(n:Nat) (q:Int),mf d n q x→aw P G fw [Doc.av d,.int .i64 n] x.av)
  (fun l h x hx n q hL=>pAt hF d (by have:=uF d;omega) n q x hL (by have:=hL.wt;omega) (hC _ (by have:=hL.wt;have:=tm x;have:=oc x.attrs;omega)) fun k hk m p KY=>h x hx k hk m p KY)
 exact key [x] x (by simp) n q hL
end
def Fa (x:Tree):cW (aK x)=x.fZ:=by
 cases h:x.fZ with
 |true=>exact mc h
 |false=>exact rk fun⟨y,h1,h2⟩=>by rw[KU h2,h1] at h;cases h
def Av.len {d:Doc} (h:Av d):1≤d.length∧d.length≤80:=by
 obtain⟨x,hx,rfl⟩:=h;have:=(oC x).1 hx;have:=x.dH;rw[jU];omega
def Av.wk {d:Doc} (h:Av d):wk d 8 0 (-1) 0=some (d.length:Int):=by
 obtain⟨x,hx,rfl⟩:=h;exact R0 ((oC x).1 hx).2.1
def vT (jD fw dI:Nat):AC:=
(ay [oN 1 0,jK 2 false] (.seq (ay [b7 4 1 0,cS 5 4,ky 6 5,db 7 .lss 6 1,af 8 7,j3 9 8 1 0,jP 10 8 9,hQ 11 8 (.len (.t 10)),hQ 12 8 (.bin .gtr (.t 11) (ij 80)),nC 13 8 12] (.cond (.t 13) (ay [jK 2 false] .ret) .skip)) (ay [aE 3 (.new [(.int .i64 0)]),dT (.store 1 (.t 3) (ij 0))] (.seq (ay [gd 14 1 1,aE 15 (.call jD [(.t 14),(ij 0),(.c (.int .i64 (-1))),(ij 1),(.t 3)]),uk 16 15,af 17 16,jP 18 17 3,j3 19 17 1 0,jP 20 17 19,hQ 21 17 (.len (.t 20)),hQ 22 17 (.bin .neq (.t 18) (.t 21)),nC 23 17 22] (.cond (.t 23) (ay [jK 2 false] .ret) .skip)) (ay [gd 24 1 1,aE 25 (.call fw [(.t 24),(ij 0)]),aE 26 (.call dI [(.t 25)]),af 2 26] .ret)))))
def NY {P:Program} {G:Nat→Option (List IV)} {bX jD fw dI:Nat} (hF:an P G bX=some (27,[(none,2)],(vT jD fw dI).bare)) (d:Doc) (hd:rq d≤B)
  (hW:ez P G jD [Doc.av d,.int .i64 0,.int .i64 (-1),.int .i64 (9 - ((8:Nat):Int)),.ptr (.par 0) 1 0 0] [.int .i64 0] fun x cs=>∃v,x= .bool (wk d 8 0 (-1) 0).isSome∧cs=[.int .i64 v]∧∀r,wk d 8 0 (-1) 0=some r→v=r)
  (hA:∀x,d=aK x→aw P G fw [Doc.av d,.int .i64 0] x.av) (hG:∀x,d=aK x→aw P G dI [x.av] (.bool x.fZ)):aw P G bX [Doc.av d] (.bool (cW d)):=by
 refine aM hF (by simp) (by simp[ah,AV.aB,Doc.av]) (by simp[AV.aB]) ?_;have hlen:=uF d;unfold vT;simp only[↓aX,mX,seval,Doc.av,ag5];cases h1:decide ((d.length:Int)<1) with
 |true=>
  have:cW d=false:=rk fun h=>by have:=h.len;simp at h1;omega
  simp only[↓aX,mX,seval,this]
 |false=>
 cases h2:decide ((d.length:Int)>80) with
 |true=>
  have:cW d=false:=rk fun h=>by have:=h.len;simp at h2;omega
  simp only[↓aX,mX,seval,ag5,h2,this]
 |false=>
 simp only[↓aX,mX,seval,ag5,h2];refine a7 (l:= .loc 3) hW rfl (by simp only[↓aX,mX,seval];try rfl) ?_
 rintro x1 jm ⟨v,rfl,rfl,hv⟩ _ _ _;cases hr:wk d 8 0 (-1) 0 with
 |none=>
  have:cW d=false:=rk fun h=>by have:=h.wk;rw[hr] at this;cases this
  simp only[↓aX,mX,seval,ad7,adI,this]
 |some r=>
 have:=hv r hr;subst this;simp only[↓aX,mX,seval,afK,adL,ag5];cases h3:(v !=(d.length:Int)) with
 |true=>
  have:cW d=false:=rk fun h=>by have:=h.wk;rw[hr] at this;cases this;simp at h3
  simp only[↓aX,mX,seval,this]
 |false=>
 have Em:v=d.length:=by simpa using h3
 rw[Em] at hr;obtain⟨x,BG,T6⟩:=Wo hr;simp only[↓aX,mX,seval];refine aq (hA x T6) ?_;simp only[↓aX,mX,seval];refine aq (hG x T6) ?_;simp only[↓aX,mX,seval];rw[T6,Fa]
def vU (bX fw:Nat):AC:=
(ay [oN 2 0,aE 4 (.new [(.bool false),(.str []),.nil0,.nil0]),eX 5 0] (.seq (ay [gd 6 1 2,aE 7 (.call bX [(.t 6)]),uk 8 7] (.cond (.t 8) (ay [aE 9 (.oa [(.bool false),(.str []),.nil0,.nil0] []),dT (.store 4 (.t 4) (.t 9)),eX 5 1] .ret) .skip)) (.seq (ay [af 10 1,db 11 .lss 10 0,af 12 11,gj 13 12 1,j3 14 12 2 0,jP 15 12 14,hQ 16 12 (.len (.t 15)),hQ 17 12 (.bin .geq (.t 13) (.t 16)),nC 18 12 17] (.cond (.t 18) (ay [aE 19 (.oa [(.bool false),(.str []),.nil0,.nil0] []),dT (.store 4 (.t 4) (.t 19)),eX 5 3] .ret) .skip)) (ay [gd 20 1 2,af 21 1,aE 22 (.call fw [(.t 20),(.t 21)]),dT (.store 4 (.t 4) (.t 22)),eX 5 0] .ret))))
def NZ {P:Program} {G:Nat→Option (List IV)} {de bX fw:Nat} (hF:an P G de=some (23,[((some (some 4)),4),(none,5)],(vU bX fw).bare)) (d:Doc) (hd:rq d≤B) (n:Int)
  (hG:aw P G bX [Doc.av d] (.bool (cW d))) (hA:∀(m:Nat) (q:Int) (x:Tree),mf d m q x→aw P G fw [Doc.av d,.int .i64 m] x.av) :
  aw P G de [Doc.av d,.int .i64 n] (.dM [(e_ d n).1.av,.int .i64 (e_ d n).2]):=by
 refine iC hF (by simp) (by simp[ah,AV.aB,Doc.av]) (by simp[AV.aB,ah,Tree.av]) ?_;unfold vU;simp only[↓aX,mX,seval,Doc.av,ag5];refine aq hG ?_;cases hg:cW d with
 |false=>
  simp only[↓aX,mX,seval,jM];simp[norm,dC,e_,hg,Tree.av,Tree.text,Tree.s,Tree.attrs,Tree.kids];exact⟨rfl,rfl⟩
 |true=>
 obtain⟨t,ht,rfl⟩:=hZ.1 hg;simp only[↓aX,mX,seval,ag5];cases h1:decide (n<0) with
 |true=>
  have:e_ (aK t) n=(.mk false [] [] [],3):=by unfold e_;rw[adv hg,ag8 (by simp at h1;omega)]
  simp only[↓aX,mX,seval,jM];rw[this];rfl
 |false=>
 obtain⟨m,rfl⟩:∃m:Nat,n=m:=⟨n.toNat,by simp at h1;omega⟩;simp only[↓aX,mX,seval,ag5];cases h2:decide ((m:Int)≥((aK t).length:Int)) with
 |true=>
  have:e_ (aK t) m=(.mk false [] [] [],3):=by unfold e_;rw[adv hg,ag8 (by simp at h2;omega)]
  simp only[↓aX,mX,seval,jM];rw[this];rfl
 |false=>
 obtain⟨q,y,l,s⟩:=wL (t:=t) (n:=m) (by simp at h2;omega);simp only[↓aX,mX,seval];refine aq (hA m q y l) ?_;simp only[↓aX,mX,seval,jM,Tree.av];rw[tq ht s];rfl

def ni (qt o_:Nat):AC:=
(ay [jK 2 false] (ay [eX 3 0] (.seq (ay [af 8 0,ky 9 8,eX 10 0] (.block 0 (.loop (ay [eS 11 .lss 10 9] (.seq (.cond (.t 11) .skip (.exit 0)) (.seq (.block 1 (ay [ig 12 8 10 4,gd 13 4 12,aE 5 (.new [(.bool false),(.str []),.nil0,.nil0]),dT (.store 4 (.t 5) (.t 13))] (ay [gd 15 4 5,aE 16 (.call qt [(.t 15)]),af 14 16,gQ 17 14 0,gQ 18 14 1,af 6 17,af 7 18] (.seq (ay [af 19 6,db 20 .gtr 19 8] (.cond (.t 20) (ay [jK 2 false] .ret) .skip)) (.ec [af 21 3,af 22 7,eS 23 .add 21 22,af 3 23]))))) (.ec [db 24 .add 10 1,af 10 24]))))))) (ay [af 25 3,db 26 .leq 25 80,af 27 26,eJ 28 27 0,eP 29 27 (.call o_ [(.t 28)]),l7 30 27 29,af 2 30] .ret))))
def content (l:List Tree):Bool:=l.all (fun x=>decide (x.dep≤8))&&(decide (bC l≤80)&&iD none l)
def Fb {P:Program} {G:Nat→Option (List IV)} {cj qt o_:Nat} (hF:an P G cj=some (31,[(none,2)],(ni qt o_).bare)) (l:List Tree) (hx:er l≤B)
  (hS:∀x∈l,aw P G qt [x.av] (.dM [.int .i64 x.dep,.int .i64 x.fI])) (Wg:aw P G o_ [.list (eR l)] (.bool (iD none l))):aw P G cj [.list (eR l)] (.bool (content l)):=by
 refine aM hF (by simp) (by simp[ah,AV.aB]) (by simp[AV.aB]) ?_;have hl:=jr l;unfold ni;simp only[↓aX,mX,seval,bx];refine mK (σ:={i:Nat // i≤l.length∧(l.take i).all (fun x=>decide (x.dep≤8))=true}) (fun q=>[(0,.list (eR l)),(3,.int .i64 (bC (l.take q.1))),(8,.list (eR l)),(9,.int .i64 l.length),(10,.int .i64 q.1)]) (fun q=>l.length - q.1) ⟨0,by simp⟩ (fun _=>rfl) ?_ ?_
 ·exact⟨by simp only[↓aX,mX,seval],by repeat' constructor⟩
 rintro⟨i,hi,hs⟩;simp only[↓aX,mX,seval,bx];refine qG (fun h=> ?_) (fun h=> ?_)
 ·have bO:i<l.length:=by simpa using h
  obtain⟨x,Qv⟩:∃x,l[i]?=some x:=⟨_,ag7 bO⟩;have hw:IntKind.i64.wrap ((i:Int)+1)=((i+1:Nat):Int):=wrap64 (by omega) (by unfold B at hx;omega);have h2:=k9 l i;have h3:=o9 (l.take i);have h5:=o8 _ _ _ Qv;have h6:=x.Hj;have h1:l.take (i+1)=l.take i++[x]:=by rw[aei,Qv];rfl
  have hc:IntKind.i64.wrap ((bC (l.take i):Int)+(x.fI:Int))=((bC (l.take (i+1)):Nat):Int):=by
   rw[wrap64 (by omega) (by unfold B at hx;omega),h1,jt];simp[bC]
  simp only[↓aX,mX,seval,ml,Qv,tj,Tree.bw,Tree.cs];refine aq (hS x (adu Qv)) ?_;simp only[↓aX,mX,seval];refine qG (fun h9=> ?_) (fun h9=> ?_)
  ·simp only[↓aX,mX,seval];have:l.all (fun x=>decide (x.dep≤8))=false:=by
    rw[Bool.eq_false_iff];intro fX;have:=aeg.1 fX x (adu Qv);simp at this h9;omega
   rw[content,this];rfl
  simp only[↓aX,mX,seval,hw,hc];refine⟨⟨i+1,bO,?_⟩,by simp only;omega,by simp only[↓aX,mX,seval],by repeat' constructor⟩;rw[h1,List.all_append,hs];simp at h9 ⊢;omega
 have qV:i=l.length:=by simp at h;omega
 subst qV;rw[aee] at hs;simp only[↓aX,mX,seval,aee];cases h9:decide ((bC l:Int)≤80) with
 |true=>
  simp only[↓aX,mX,seval];refine aq Wg ?_;simp only[↓aX,mX,seval];have:decide (bC l≤80)=true:=by simp at h9 ⊢;omega
  rw[content,hs,this];rfl
 |false=>
 simp only[↓aX,mX,seval];have:decide (bC l≤80)=false:=by simp at h9 ⊢;omega
 rw[content,hs,this];rfl

def Hs (x:Tree):mf (aK x) 0 (-1) x:=⟨[],by simp[aK]⟩

section
variable {P:Program}
def Sh.Z1 {t:TypeId} {y:IV} (h:Sh P t y) (hu:P.underlying t=some .bool):∃x,y= .bool x:=by
 cases h<;>simp_all
def Sh.Cw {t:TypeId} {y:IV} {k:IntKind} (h:Sh P t y) (hu:P.underlying t=some (.int k)):∃n,y= .int k n∧(Lit.int k n).wf=true:=by
 cases h<;>simp_all
def Sh.Cx {t:TypeId} {y:IV} (h:Sh P t y) (hu:P.underlying t=some .string):∃x,y= .str x:=by
 cases h<;>simp_all
def Sh.Jn {t e:TypeId} {y:IV} (h:Sh P t y) (hu:P.underlying t=some (.slice e)):∃ys,y= .list ys∧∀y∈ys,Sh P e y:=by
 cases h<;>simp_all
def Sh.Jo {t:TypeId} {fs:Array Field} {y:IV} (h:Sh P t y) (hu:P.underlying t=some (.struct fs)) :
  ∃ys,y= .agg ys∧ys.length=fs.size∧∀(j:Nat) (f:Field) (y:IV),fs[j]?=some f→ys[j]?=some y→Sh P f.type y:=by
 cases h with
 |g ZA h1 h2=>
  rw[ZA] at hu;cases hu;exact⟨_,rfl,h1,h2⟩
 |_=>simp_all
structure Ht (P:Program) where
 tB:TypeId
 tS:TypeId
 tA:TypeId
 Z2:TypeId
 tT:TypeId
 tTs:TypeId
 fA:Array Field
 fT:Array Field
 uB:P.underlying tB=some .bool
 uS:P.underlying tS=some .string
 uAs:P.underlying Z2=some (.slice tA)
 uTs:P.underlying tTs=some (.slice tT)
 uA:P.underlying tA=some (.struct fA)
 uT:P.underlying tT=some (.struct fT)
 sA:fA.toList.map (·.type)=[tS,tS]
 sT:fT.toList.map (·.type)=[tB,tS,Z2,tTs]
def ld {fs:Array Field} {ts:List TypeId} (h:fs.toList.map (·.type)=ts) (j:Nat) (t:TypeId) (ht:ts[j]?=some t):∃f,fs[j]?=some f∧f.type=t:=by
 subst h;rw[adX] at ht;obtain⟨f,h1,rfl⟩:=ag4.1 ht;exact⟨f,by simpa using h1,rfl⟩
def Sh.attr (T:Ht P) {y:IV} (h:Sh P T.tA y):∃a:Attr,y=a.iv∧a.wt≤y.wt:=by
 obtain⟨ys,rfl,hl,hy⟩:=h.Jo T.uA;have hs:T.fA.size=2:=by have:=afb List.length T.sA;simpa using this
 match ys,hl.trans hs,hy with
 |[y0,y1],_,hy=>
  obtain⟨f0,e0,t0⟩:=ld T.sA 0 T.tS rfl;obtain⟨f1,e1,t1⟩:=ld T.sA 1 T.tS rfl;have h0:=hy 0 f0 y0 e0 rfl;have h1:=hy 1 f1 y1 e1 rfl;rw[t0] at h0;rw[t1] at h1;obtain⟨x0,rfl⟩:=h0.Cx T.uS;obtain⟨x1,rfl⟩:=h1.Cx T.uS;exact⟨⟨x0,x1⟩,rfl,by simp[Attr.wt,IV.wt,rI];omega⟩
theorem Sh.attrs (T:Ht P):∀(ys:List IV),(∀y∈ys,Sh P T.tA y)→∃as,ys=dA as∧j0 as≤rI ys
 |[],_=>⟨[],rfl,by simp[j0,rI]⟩
 |y::r,h=>by
  obtain⟨a,rfl,h1⟩:=(h y (by simp)).attr T;obtain⟨as,rfl,h2⟩:=Sh.attrs T r (fun z hz=>h z (by simp[hz]));exact⟨a::as,rfl,by simp only[j0,rI];omega⟩
end

mutual
theorem Tree.AE (off:Nat) (p:Int):∀x:Tree,rq (x.flat off p)+1≤2*x.wt
 | .mk t s as ks=>by
  have:=yF (off+1) off ks;simp only[Tree.flat,rq,Node.wt,Tree.wt,iO];omega
theorem yF (off p:Nat):∀xs:List Tree,rq (eE off p xs)+xs.length≤2*er xs
 |[]=>by simp[er,eE,rq]
 |k::r=>by
  have:=k.AE off p;have:=yF (off+k.fI) p r;simp only[eE,wO,er,adK];omega
end
def N0 (x:Tree):rq (aK x)≤2*x.wt:=by have:=x.AE 0 (-1);unfold aK;omega
section
variable {P:Program}
structure TyD (P:Program) (T:Ht P) where
 tI:TypeId
 tIs:TypeId
 tN:TypeId
 tNs:TypeId
 tD:TypeId
 fN:Array Field
 fD:Array Field
 uI:P.underlying tI=some (.int .i64)
 uIs:P.underlying tIs=some (.slice tI)
 uN:P.underlying tN=some (.struct fN)
 uNs:P.underlying tNs=some (.slice tN)
 uD:P.underlying tD=some (.struct fD)
 sN:fN.toList.map (·.type)=[T.tB,T.tS,T.Z2,tI,tIs]
 sD:fD.toList.map (·.type)=[tNs]
theorem Sh.ints {T:Ht P} (D:TyD P T):∀(ys:List IV),(∀y∈ys,Sh P D.tI y)→∃xs:List Int,ys=xs.map aW∧xs.length≤rI ys
 |[],_=>⟨[],rfl,by simp[rI]⟩
 |y::r,h=>by
  obtain⟨n,rfl,_⟩:=(h y (by simp)).Cw D.uI;obtain⟨xs,rfl,h2⟩:=Sh.ints D r (fun z hz=>h z (by simp[hz]));exact⟨n::xs,rfl,by simp only[adK,rI,IV.wt];omega⟩
def Sh.node {T:Ht P} (D:TyD P T) {y:IV} (h:Sh P D.tN y):∃x:Node,y=x.iv∧x.wt≤y.wt:=by
 obtain⟨ys,rfl,hl,zf⟩:=h.Jo D.uN;have hs:D.fN.size=5:=by have:=afb List.length D.sN;simpa using this
 match ys,hl.trans hs,zf with
 |[y0,y1,y2,y3,y4],_,zf=>
  obtain⟨f0,e0,t0⟩:=ld D.sN 0 T.tB rfl;obtain⟨f1,e1,t1⟩:=ld D.sN 1 T.tS rfl;obtain⟨f2,e2,t2⟩:=ld D.sN 2 T.Z2 rfl;obtain⟨f3,e3,t3⟩:=ld D.sN 3 D.tI rfl;obtain⟨f4,e4,t4⟩:=ld D.sN 4 D.tIs rfl;have h0:=zf 0 f0 y0 e0 rfl;have h1:=zf 1 f1 y1 e1 rfl;have h2:=zf 2 f2 y2 e2 rfl;have h3:=zf 3 f3 y3 e3 rfl;have h4:=zf 4 f4 y4 e4 rfl;rw[t0] at h0;rw[t1] at h1;rw[t2] at h2;rw[t3] at h3;rw[t4] at h4;obtain⟨b,rfl⟩:=h0.Z1 T.uB;obtain⟨s,rfl⟩:=h1.Cx T.uS;obtain⟨z2,rfl,g2⟩:=h2.Jn T.uAs;obtain⟨p,rfl,_⟩:=h3.Cw D.uI;obtain⟨z4,rfl,g4⟩:=h4.Jn D.uIs;obtain⟨as,rfl,w2⟩:=Sh.attrs T z2 g2;obtain⟨ks,rfl,w4⟩:=Sh.ints D z4 g4;exact⟨⟨b,s,as,p,ks⟩,rfl,by simp only[Node.wt,IV.wt,rI];omega⟩
theorem Sh.nodes {T:Ht P} (D:TyD P T):∀(ys:List IV),(∀y∈ys,Sh P D.tN y)→∃d:Doc,ys=d.map Node.iv∧rq d≤rI ys
 |[],_=>⟨[],rfl,by simp[rI,rq]⟩
 |y::r,h=>by
  obtain⟨x,rfl,h1⟩:=(h y (by simp)).node D;obtain⟨d,rfl,h2⟩:=Sh.nodes D r (fun z hz=>h z (by simp[hz]));exact⟨x::d,rfl,by simp only[rq,rI];omega⟩
end

structure Step where
 name:Bs
 n:Int
def Step.cs (x:Step):List IV:=[.str x.name,.int .i64 x.n]
def Step.iv (x:Step):IV:= .agg x.cs
def Step.av (x:Step):AV:= .agg [.str x.name,.int .i64 x.n]
def qH (s:Step):Bool:=(s.name==[]||(s.name==[42]||named s.name))&&(decide (0≤s.n)&&decide (s.n≤99))
def gN (l:List Step):Bool:=l.all qH&&(decide (1≤l.length)&&decide (l.length≤5))
def o5 (text:Bool) (s:Bs) (name:Bs):Bool:=if name==[]||text then name==[]&&text else name==[42]||name==s
def c_ (d:Doc) (s:Step):Nat→List Int→List Int
 |_,[]=>[]
 |k,n::r=>match d[n.toNat]? with
  |some x=>if o5 x.text x.s s.name then(if s.n=0∨s.n=((k+1:Nat):Int) then n::c_ d s (k+1) r else c_ d s (k+1) r) else c_ d s k r
  |none=>c_ d s k r
def rr (d:Doc) (n:Int):List Int:=match d[n.toNat]? with
 |some x=>x.kids
 |none=>[]
def qI (d:Doc):List Int→List Step→List Int
 |now,[]=>now
 |now,s::l=>qI d (now.flatMap fun n=>c_ d s 0 (rr d n)) l
def ew (d:Doc):List Step→List Int
 |[]=>[]
 |s::l=>qI d (c_ d s 0 [0]) l
theorem Fc (d:Doc):∀(l:List Step) (a b:List Int),qI d (a++b) l=qI d a l++qI d b l
 |[],a,b=>rfl
 |s::l,a,b=>by simp only[qI,afe,Fc d l]
theorem AF (d:Doc):∀(l:List Step),qI d [] l=[]
 |[]=>rfl
 |s::l=>by simp only[qI,afG,AF d l]
theorem Cy (d:Doc):∀(l:List Step) (a:List Int),qI d a l=a.flatMap fun n=>qI d [n] l
 |l,[]=>by simp[AF]
 |l,n::r=>by rw[show n::r=[n]++r from rfl,Fc,Cy d l r];simp
theorem Cz (d:Doc) (s:Step):∀(l:List Step) (a:List Int),qI d a (l++[s])=(qI d a l).flatMap fun n=>c_ d s 0 (rr d n)
 |[],a=>rfl
 |t::l,a=>by simp only[adR,qI,Cz d s l]
def nj (d:Doc) (name:Bs) (k:Nat):Bool:=match d[k]? with
 |some x=>o5 x.text x.s name
 |none=>false
def AG (d:Doc) (p:Int) (k:Nat):Bool:=match d[k]? with
 |some x=>x.parent==p
 |none=>false
def vV (d:Doc) (p:Int) (name:Bs) (n:Nat):Nat:=((List.range (n+1)).filter fun k=>AG d p k&&nj d name k).length
def fB (d:Doc):List Step→Nat→Bool
 |[],_=>false
 |s::l,n=>match d[n]? with
  |some x=>nj d s.name n&&((if x.parent<0 then l.isEmpty else(!l.isEmpty&&fB d l x.parent.toNat))&&(s.n==0||s.n==((vV d x.parent s.name n:Nat):Int)))
  |none=>false

section
variable {P:Program}
structure TyP (P:Program) (T:Ht P) where
 tI:TypeId
 tP:TypeId
 tPs:TypeId
 fP:Array Field
 uI:P.underlying tI=some (.int .i64)
 uP:P.underlying tP=some (.struct fP)
 uPs:P.underlying tPs=some (.slice tP)
 sP:fP.toList.map (·.type)=[T.tS,tI]
def Sh.step {T:Ht P} (D:TyP P T) {y:IV} (h:Sh P D.tP y):∃x:Step,y=x.iv∧1+x.name.length≤y.wt:=by
 obtain⟨ys,rfl,hl,zf⟩:=h.Jo D.uP;have hs:D.fP.size=2:=by have:=afb List.length D.sP;simpa using this
 match ys,hl.trans hs,zf with
 |[y0,y1],_,zf=>
  obtain⟨f0,e0,t0⟩:=ld D.sP 0 T.tS rfl;obtain⟨f1,e1,t1⟩:=ld D.sP 1 D.tI rfl;have h0:=zf 0 f0 y0 e0 rfl;have h1:=zf 1 f1 y1 e1 rfl;rw[t0] at h0;rw[t1] at h1;obtain⟨s,rfl⟩:=h0.Cx T.uS;obtain⟨p,rfl,_⟩:=h1.Cw D.uI;exact⟨⟨s,p⟩,rfl,by simp only[IV.wt,rI];omega⟩
end
end Go.Am
