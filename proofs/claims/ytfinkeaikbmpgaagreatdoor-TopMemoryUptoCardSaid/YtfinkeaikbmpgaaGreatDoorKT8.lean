import Derived.Test.YtfinkeaikbmpgaaGreatDoorKAm24
import Derived.Test.YtfinkeaikbmpgaaGreatDoorKAm33
set_option linter.unusedSimpArgs false
set_option linter.unusedVariables false
set_option linter.unnecessarySimpa false
set_option linter.defProp false
/- Joined. -/
namespace Go.Am
open Go Go.RowKit
def Xi (mv:Nat):AC:=
(aM [zi 2] (aM [zi 3] (.gh (.own 3 4) (.seq (aM [MR 7 0,oy 8 7,gH 9 0] (.block 0 (.loop (aM [et 10 .lss 9 8] (.seq (.cond (.t 10) .skip (.exit 0)) (.seq (.block 1 (aM [jL 11 7 9 4,gz 12 4 11,aQ 5 (.new [(.bool false),(.str []),.nil0,.nil0]),gg (.store 4 (.t 5) (.t 12))] (aM [ep 13 5 3,fm 14 13,aQ 15 (.call mv [(.t 14)]),ep 16 5 3,gg (.store 1 (.t 16) (.t 15))] (aM [MR 17 3,oy 18 17,MR 6 18] (.block 2 (aM [ep 24 5 0,fm 25 24,MR 26 25,Wb 27 26 5 1,jm 28 26 27,dW 29 26 (.bin .eql (.t 28) (.c (.str []))),jT 30 26 29,MR 23 30] (.cond (.t 23) .skip (aM [ep 32 5 0,fm 33 32,MR 34 33,cU 35 34 6,dW 36 34 (.bin .gtr (.t 35) (jS 0)),jT 37 34 36,MR 38 37,cU 39 38 3,cU 40 38 6,dW 41 38 (.bin .sub (.t 40) (jS 1)),dW 42 38 (.Vc (.t 39) (.t 41) 4),Wb 43 38 42 0,jm 44 38 43,jT 45 38 44,MR 31 45] (.cond (.t 31) (.VL [MR 46 3,MR 47 6,eY 48 .sub 47 1,jL 49 46 48 4,ep 50 49 1,fm 51 50,ep 52 5 1,fm 53 52,et 54 .add 51 53,jL 55 46 48 4,ep 56 55 1,gg (.store 1 (.t 56) (.t 54))] [[],[],[1],[0,2],[3],[4],[],[6],[5,7],[0,2,0,1,2,3,4,5,6,7,8],[9,0,1,2,3,4,5,6,7,8],[10,8,0,1,2,3,4,5,6,7,8]] [.no,.no,.no,.no,.no,(.rw [.loc 3] []),.no,.rw [.loc 5] [],.no,.no,.no,(.rw [] [.loc 3])]) (.cq [MR 19 3,gz 20 4 5,aQ 21 (.lits 1 4 [(.bool false),(.str []),.nil0,.nil0] [(0,(.t 20))]),aQ 22 (.app (.t 19) (.t 21) 4 72),MR 3 22])))))))))) (.cq [eY 57 .add 9 1,MR 9 57]))))))) (aM [MR 58 3,MR 2 58] (.gh (.zS (.loc 3) 2) .ret))))))
def Tree.ahx (x:Tree):x.cs.map IV.dQ=[.bool x.text,.str x.s,.list (cD x.attrs),.list (dq x.kids)]:=rfl
def afD {P:Program} {G:Nat→Option (List IV)} {mv:Nat} (hF:aw P G mv=some (59,[(none,2)],(Xi mv).bare)) (l:List Tree) (hx:dE l≤B)
  (hJ:∀x∈l,au P G mv [.list (dq x.kids)] (.list (dq (Wf x.kids)))):au P G mv [.list (dq l)] (.list (dq (Wf l))):=by
 refine aR hF (by simp) (by simp[ah,AV.an]) (by simp[AV.an]) ?_;have hl:=eZ l;unfold Xi;simp only[↓aX,mX,reduceCtorEq,Nat.reduceEqDiff,Nat.reduceLT,Nat.reduceLeDiff,Nat.reduceAdd,Nat.reduceMul,Int.reduceToNat,Int.reduceLE,Int.reduceLT,bF];refine xL (σ:={i:Nat // i≤l.length}) 3 4 (fun q=>[(7,.list (dq l)),(8,.int .i64 l.length),(9,.int .i64 q.1)]) (fun q=>dq (Xc [] (l.take q.1))) (fun q=>l.length - q.1) ⟨0,by simp⟩ (fun _=>rfl) ?_ ?_
 ·simp only[Gi,↓aX,mX,reduceCtorEq,Nat.reduceEqDiff,Nat.reduceLT,Nat.reduceLeDiff,Nat.reduceAdd,Nat.reduceMul,Int.reduceToNat,Int.reduceLE,Int.reduceLT];exact⟨rfl,3,[],rfl,rfl,rfl⟩
 rintro⟨i,hi⟩;have zO:=YA [] (l.take i);have pU:=lV l i;have wB:=eZ (Xc [] (l.take i));simp only[dE] at zO;simp only[↓aX,mX,reduceCtorEq,Nat.reduceEqDiff,Nat.reduceLT,Nat.reduceLeDiff,Nat.reduceAdd,Nat.reduceMul,Int.reduceToNat,Int.reduceLE,Int.reduceLT,bF];refine AU (fun h=> ?_) (fun h=> ?_)
 ·have bI:i<l.length:=by simpa using h
  obtain⟨x,Ja⟩:∃x,l[i]?=some x:=⟨_,bS bI⟩;have hw:IntKind.i64.wrap ((i:Int)+1)=((i+1:Nat):Int):=wrap64 (by omega) (by unfold B at hx;omega);have gr:Xc [] (l.take (i+1))=push (Xc [] (l.take i)) x.jn:=by rw[yf,Ja,aaz];rfl
  simp only[↓aX,mX,reduceCtorEq,Nat.reduceEqDiff,Nat.reduceLT,Nat.reduceLeDiff,Nat.reduceAdd,Nat.reduceMul,Int.reduceToNat,Int.reduceLE,Int.reduceLT,h,hw,iy,Ja,lT,Tree.cJ,Tree.cs];generalize ai0:Xc [] (l.take i)=out at *;refine ay (hJ x (dc Ja)) ?_;have hlen:(dq out).length=out.length:=bF _;have agL:dq (out++[x.jn])=dq out++[.agg [.bool x.text,.str x.s,.list (cD x.attrs),.list (dq (Wf x.kids))]]:=by
   rw[qh];simp[dq,Tree.o_,Tree.cs,x.Yz,x.ad9,x.ad_,x.afC]
  have next:∀(afE:List Tree) (env:Env) (H:Hp) (n:Nat),push out x.jn=afE→NF H→env 7= .list (dq l)→env 8= .int .i64 l.length→env 9= .int .i64 ((i+1:Nat):Int)→env 3= .sl (.loc n) 4 0 afE.length→H (.loc n)= .live ⟨4,aB (dq afE)⟩ →
    ∃s:{i:Nat // i≤l.length},l.length - s.1<l.length - i∧WR 3 4 (fun q:{i:Nat // i≤l.length}=>[(7,.list (dq l)),(8,.int .i64 l.length),(9,.int .i64 q.1)]) (fun q=>dq (Xc [] (l.take q.1))) env H s:=by
   intro afE env H n h1 h2 h3 h4 h5 h6 h7;refine⟨⟨i+1,bI⟩,by simp only;omega,?_⟩;rw[Gi];simp only[xM,AT,Oc,gr,h1,bF];exact⟨h2,⟨h3,h4,h5⟩,n,_,h6,h7,rfl⟩
  simp only[↓aX,mX,reduceCtorEq,Nat.reduceEqDiff,Nat.reduceLT,Nat.reduceLeDiff,Nat.reduceAdd,Nat.reduceMul,Int.reduceToNat,Int.reduceLE,Int.reduceLT,bF];cases ht:x.text with
  |false=>
   have hp:push out x.jn=out++[x.jn]:=(by unfold push;rw[x.Yz,ht];simp);simp only[↓aX,mX,reduceCtorEq,Nat.reduceEqDiff,Nat.reduceLT,Nat.reduceLeDiff,Nat.reduceAdd,Nat.reduceMul,Int.reduceToNat,Int.reduceLE,Int.reduceLT,bF];rw[qg 4 72 22 3 (dq out) (.agg [.bool false,.str x.s,.list (cD x.attrs),.list (dq (Wf x.kids))]) (by simp[ae]) hlen rfl (by simp[IV.cells]) (by unfold B at hx;omega) (by decide) (by decide) (by simp[ae,Hp.none])];simp only[↓aX,mX,reduceCtorEq,Nat.reduceEqDiff,Nat.reduceLT,Nat.reduceLeDiff,Nat.reduceAdd,Nat.reduceMul,Int.reduceToNat,Int.reduceLE,Int.reduceLT,hw];refine next _ _ _ 22 hp (by simp only[↓aX,mX,reduceCtorEq,Nat.reduceEqDiff,Nat.reduceLT,Nat.reduceLeDiff,Nat.reduceAdd,Nat.reduceMul,Int.reduceToNat,Int.reduceLE,Int.reduceLT]) rfl rfl rfl (by simp only[↓aX,mX,reduceCtorEq,Nat.reduceEqDiff,Nat.reduceLT,Nat.reduceLeDiff,Nat.reduceAdd,Nat.reduceMul,Int.reduceToNat,Int.reduceLE,Int.reduceLT];simp) ?_
   rw[agL,ht];simp only[↓aX,mX,reduceCtorEq,Nat.reduceEqDiff,Nat.reduceLT,Nat.reduceLeDiff,Nat.reduceAdd,Nat.reduceMul,Int.reduceToNat,Int.reduceLE,Int.reduceLT]
  |true=>
  simp only[↓aX,mX,reduceCtorEq,Nat.reduceEqDiff,Nat.reduceLT,Nat.reduceLeDiff,Nat.reduceAdd,Nat.reduceMul,Int.reduceToNat,Int.reduceLE,Int.reduceLT,bF];cases hs:(x.s==[]) with
  |true=>
   have hp:push out x.jn=out:=(by unfold push;rw[x.Yz,ht,x.ad9,hs];rfl);simp only[↓aX,mX,reduceCtorEq,Nat.reduceEqDiff,Nat.reduceLT,Nat.reduceLeDiff,Nat.reduceAdd,Nat.reduceMul,Int.reduceToNat,Int.reduceLE,Int.reduceLT,hw];exact next _ _ _ 3 hp (by simp only[↓aX,mX,reduceCtorEq,Nat.reduceEqDiff,Nat.reduceLT,Nat.reduceLeDiff,Nat.reduceAdd,Nat.reduceMul,Int.reduceToNat,Int.reduceLE,Int.reduceLT]) rfl rfl rfl (by simp only[↓aX,mX,reduceCtorEq,Nat.reduceEqDiff,Nat.reduceLT,Nat.reduceLeDiff,Nat.reduceAdd,Nat.reduceMul,Int.reduceToNat,Int.reduceLE,Int.reduceLT,bF]) rfl
  |false=>
  simp only[↓aX,mX,reduceCtorEq,Nat.reduceEqDiff,Nat.reduceLT,Nat.reduceLeDiff,Nat.reduceAdd,Nat.reduceMul,Int.reduceToNat,Int.reduceLE,Int.reduceLT];by_cases h0:out=[]
  ·have hp:push out x.jn=out++[x.jn]:=(by unfold push;rw[x.Yz,ht,x.ad9,hs,h0];rfl);rw[show decide ((out.length:Int)>0)=false by rw[h0];rfl];simp only[↓aX,mX,reduceCtorEq,Nat.reduceEqDiff,Nat.reduceLT,Nat.reduceLeDiff,Nat.reduceAdd,Nat.reduceMul,Int.reduceToNat,Int.reduceLE,Int.reduceLT,bF];rw[qg 4 72 22 3 (dq out) (.agg [.bool true,.str x.s,.list (cD x.attrs),.list (dq (Wf x.kids))]) (by simp[ae]) hlen rfl (by simp[IV.cells]) (by unfold B at hx;omega) (by decide) (by decide) (by simp[ae,Hp.none])];simp only[↓aX,mX,reduceCtorEq,Nat.reduceEqDiff,Nat.reduceLT,Nat.reduceLeDiff,Nat.reduceAdd,Nat.reduceMul,Int.reduceToNat,Int.reduceLE,Int.reduceLT,hw];refine next _ _ _ 22 hp (by simp only[↓aX,mX,reduceCtorEq,Nat.reduceEqDiff,Nat.reduceLT,Nat.reduceLeDiff,Nat.reduceAdd,Nat.reduceMul,Int.reduceToNat,Int.reduceLE,Int.reduceLT]) rfl rfl rfl (by simp only[↓aX,mX,reduceCtorEq,Nat.reduceEqDiff,Nat.reduceLT,Nat.reduceLeDiff,Nat.reduceAdd,Nat.reduceMul,Int.reduceToNat,Int.reduceLE,Int.reduceLT];simp) ?_
   rw[agL,ht];simp only[↓aX,mX,reduceCtorEq,Nat.reduceEqDiff,Nat.reduceLT,Nat.reduceLeDiff,Nat.reduceAdd,Nat.reduceMul,Int.reduceToNat,Int.reduceLE,Int.reduceLT]
  have xg:0<out.length:=M0.2 h0;obtain⟨y,hy,TI⟩:=aaA false out h0;have Es:IntKind.i64.wrap ((out.length:Int) - 1)=((out.length - 1:Nat):Int):=by rw[wrap64 (by omega) (by unfold B at hx;omega)];omega
  have jY:(aB (dq out))[out.length - 1]?=some [.bool y.text,.str y.s,.list (cD y.attrs),.list (dq y.kids)]:=by rw[xT,iy,hy];simp[Tree.cJ,Tree.cs,IV.dQ]
  have iG:out.length - 1<out.length:=by omega
  rw[show decide ((out.length:Int)>0)=true by simp;exact xg];simp only[↓aX,mX,reduceCtorEq,Nat.reduceEqDiff,Nat.reduceLT,Nat.reduceLeDiff,Nat.reduceAdd,Nat.reduceMul,Int.reduceToNat,Int.reduceLE,Int.reduceLT,Es,iG,jY,bF];cases hyt:y.text with
  |false=>
   have hp:push out x.jn=out++[x.jn]:=(by unfold push;rw[x.Yz,ht,x.ad9,hs,TI,hyt];rfl);simp only[↓aX,mX,reduceCtorEq,Nat.reduceEqDiff,Nat.reduceLT,Nat.reduceLeDiff,Nat.reduceAdd,Nat.reduceMul,Int.reduceToNat,Int.reduceLE,Int.reduceLT,bF];rw[qg 4 72 22 3 (dq out) (.agg [.bool true,.str x.s,.list (cD x.attrs),.list (dq (Wf x.kids))]) (by simp[ae]) hlen rfl (by simp[IV.cells]) (by unfold B at hx;omega) (by decide) (by decide) (by simp[ae,Hp.none])];simp only[↓aX,mX,reduceCtorEq,Nat.reduceEqDiff,Nat.reduceLT,Nat.reduceLeDiff,Nat.reduceAdd,Nat.reduceMul,Int.reduceToNat,Int.reduceLE,Int.reduceLT,hw];refine next _ _ _ 22 hp (by simp only[↓aX,mX,reduceCtorEq,Nat.reduceEqDiff,Nat.reduceLT,Nat.reduceLeDiff,Nat.reduceAdd,Nat.reduceMul,Int.reduceToNat,Int.reduceLE,Int.reduceLT]) rfl rfl rfl (by simp only[↓aX,mX,reduceCtorEq,Nat.reduceEqDiff,Nat.reduceLT,Nat.reduceLeDiff,Nat.reduceAdd,Nat.reduceMul,Int.reduceToNat,Int.reduceLE,Int.reduceLT];simp) ?_
   rw[agL,ht];simp only[↓aX,mX,reduceCtorEq,Nat.reduceEqDiff,Nat.reduceLT,Nat.reduceLeDiff,Nat.reduceAdd,Nat.reduceMul,Int.reduceToNat,Int.reduceLE,Int.reduceLT]
  |true=>
  have hp:push out x.jn=grow x.s out:=by unfold push;rw[x.Yz,ht,x.ad9,hs,TI,hyt];rfl
  have hg:=acM x.s out y hy;simp only[↓aX,mX,reduceCtorEq,Nat.reduceEqDiff,Nat.reduceLT,Nat.reduceLeDiff,Nat.reduceAdd,Nat.reduceMul,Int.reduceToNat,Int.reduceLE,Int.reduceLT,Es,iG,jY,bF,hyt];refine⟨rfl,?_⟩;have Tm:y.s.length+x.s.length≤9223372036854775807:=by
   have h1:=jx _ _ _ hy;have h2:=y.gx;have h3:=jx _ _ _ Ja;have h4:=x.gx;unfold B at hx;omega
  simp only[↓aX,mX,reduceCtorEq,Nat.reduceEqDiff,Nat.reduceLT,Nat.reduceLeDiff,Nat.reduceAdd,Nat.reduceMul,Int.reduceToNat,Int.reduceLE,Int.reduceLT,Tm,Es,iG,jY,bF,hyt,lQ,hw];refine next (grow x.s out) _ _ 3 hp (by simp only[↓aX,mX,reduceCtorEq,Nat.reduceEqDiff,Nat.reduceLT,Nat.reduceLeDiff,Nat.reduceAdd,Nat.reduceMul,Int.reduceToNat,Int.reduceLE,Int.reduceLT]) rfl rfl rfl (by simp only[↓aX,mX,reduceCtorEq,Nat.reduceEqDiff,Nat.reduceLT,Nat.reduceLeDiff,Nat.reduceAdd,Nat.reduceMul,Int.reduceToNat,Int.reduceLE,Int.reduceLT,bF,abe]) ?_
  have hiv:(y.Gr (y.s++x.s)).iv.cells.map IV.dQ=[.bool true,.str (y.s++x.s),.list (cD y.attrs),.list (dq y.kids)]:=by
   rw[Tree.cJ,Tree.ahx];simp[Tree.Gr,Tree.text,Tree.s,Tree.attrs,Tree.kids];rw[←hyt];rfl
  simp only[↓aX,mX,reduceCtorEq,Nat.reduceEqDiff,Nat.reduceLT,Nat.reduceLeDiff,Nat.reduceAdd,Nat.reduceMul,Int.reduceToNat,Int.reduceLE,Int.reduceLT];have vf:dq (out.set (out.length - 1) (y.Gr (y.s++x.s)))=(dq out).set (out.length - 1) (y.Gr (y.s++x.s)).iv:=by rw[ix,ix,Nh]
  rw[hg,vf,←xU,hiv]
 simp only[↓aX,mX,reduceCtorEq,Nat.reduceEqDiff,Nat.reduceLT,Nat.reduceLeDiff,Nat.reduceAdd,Nat.reduceMul,Int.reduceToNat,Int.reduceLE,Int.reduceLT,h];refine⟨4,dq (Xc [] (l.take i)),0,_,rfl,rfl,by rw[bF];omega,pa _,?_⟩;have XV:i=l.length:=by simp at h;omega
 subst XV;simp only[Wf,va,tn,bF];congr 1;exact eN (by rw[bF];exact eM _)

def Vl {α:Type} {l:List α} {i:Nat} {x:α} (h:l[i]?=some x):l.take (i+1)=l.take i++[x]:=by rw[yf,h];rfl

def A4 {M:List Tree→Prop} (step:∀l,(∀x∈l,M x.kids)→M l):∀l,M l:=by
 have key:∀(n:Nat) (l:List Tree),dE l≤n→M l:=by
  intro n;induction n with
  |zero=>
   intro l hn;refine step l fun x hx=> ?_;obtain⟨i,hi⟩:=yl hx;have:=jx l i x hi;have:=x.gx;omega
  |succ n ih=>
  intro l hn;refine step l fun x hx=>ih _ ?_;obtain⟨i,hi⟩:=yl hx;have:=jx l i x hi;have:=x.gx;omega
 exact fun l=>key _ l (eM _)
def j_ {l:List Tree} {x:Tree} (h:x∈l):x.wt≤dE l:=by
 obtain⟨i,hi⟩:=yl h;exact jx l i x hi
def jA (x:Tree):dE x.kids≤x.wt:=by have:=x.gx;omega
def Gs (x:Tree):x.s.length≤x.wt:=by have:=x.gx;omega
def lY (x:Tree):dX x.attrs≤x.wt:=by have:=x.gx;omega
theorem lZ:∀{l:List Attr} {a:Attr},a∈l→a.wt≤dX l
 |[],a,h=>by simp at h
 |b::r,a,h=>by
  simp only[dU] at h;rcases h with rfl|h
  ·simp[dX]
  have:=lZ h;simp only[dX];omega
section
variable {P:Program} {G:Nat→Option (List IV)}
def afF {mv:Nat} (hF:aw P G mv=some (59,[(none,2)],(Xi mv).bare)) (l:List Tree):dE l≤B→au P G mv [.list (dq l)] (.list (dq (Wf l))):=
 A4 (M:=fun l=>dE l≤B→au P G mv [.list (dq l)] (.list (dq (Wf l)))) (fun l h hB=>afD hF l hB fun x hx=>h x hx (by have:=j_ hx;have:=jA x;omega)) l
def Gt {g:Nat} (hF:aw P G g=some (32,[(none,2),(none,3)],(uz g).bare)):∀x:Tree,x.wt≤B→au P G g [x.av] (.gf [.int .i64 x.dep,.int .i64 x.jz]):=by
 have key:=A4 (M:=fun l=>∀x∈l,x.wt≤B→au P G g [x.av] (.gf [.int .i64 x.dep,.int .i64 x.jz])) (fun l h x hx hB=>Gm hF x hB fun k hk=>h x hx k hk (by have:=j_ hk;have:=jA x;omega));exact fun x=>key [x] x N7
def xY {fP fN zm fF wA:Nat} (hP:aw P G fP=some (29,[(none,2)],nZ.bare)) (hN:aw P G fN=some (28,[(none,2)],n4.bare)) (hA:aw P G zm=some (41,[(none,2)],(hZ fN fP).bare))
  (hF:aw P G fF=some (38,[(none,2)],(rr fP fN zm wA).bare)) (Gn:aw P G wA=some (32,[(none,2)],(n_ fF).bare)) (l:List Tree):dE l≤B→au P G wA [.list (dq l)] (.bool (bQ none l)):=by
 refine A4 (M:=fun l=>dE l≤B→au P G wA [.list (dq l)] (.bool (bQ none l))) (fun l h hB=>D2 Gn l (by have:=eZ l;omega) fun x hx=> ?_) l;have h1:=j_ hx;have h2:=jA x;have h3:=Gs x;have h4:=lY x;have h5:=iz x.attrs;refine Cc hF x (qj hP _ tM) (qk hN _ tM) (n6 hA _ tM (fun a ha=>qk hN _ ?_) (fun a ha=>qj hP _ ?_)) (h x hx tM)
 ·have:=lZ ha;unfold Attr.wt at this;omega
 have:=lZ ha;unfold Attr.wt at this;omega
def Gu {fP fN zm fF wA:Nat} (hP:aw P G fP=some (29,[(none,2)],nZ.bare)) (hN:aw P G fN=some (28,[(none,2)],n4.bare)) (hA:aw P G zm=some (41,[(none,2)],(hZ fN fP).bare))
  (hF:aw P G fF=some (38,[(none,2)],(rr fP fN zm wA).bare)) (Gn:aw P G wA=some (32,[(none,2)],(n_ fF).bare)) (x:Tree) (hB:x.wt≤B):au P G fF [x.av] (.bool x.fu):=by
 have h2:=jA x;have h3:=Gs x;have h4:=lY x;have h5:=iz x.attrs;refine Cc hF x (qj hP _ tM) (qk hN _ tM) (n6 hA _ tM (fun a ha=>qk hN _ ?_) (fun a ha=>qj hP _ ?_)) (xY hP hN hA hF Gn _ tM)
 ·have:=lZ ha;unfold Attr.wt at this;omega
 have:=lZ ha;unfold Attr.wt at this;omega
end

def YB (iJ Vt:Nat):AC:=
(aM [zzX 4 1,gH 6 0] (aM [MR 11 0,aQ 12 (.dp (.t 11)),ep 13 12 0,fm 14 13,oy 15 14,MR 7 15] (.seq (.VL [MR 16 0,MR 17 0,aQ 18 (.dp (.t 17)),ep 19 18 0,fm 20 19,ep 21 4 0,fm 22 21,ep 23 4 1,fm 24 23,ep 25 4 2,fm 26 25,aQ 27 (.call iJ [(.t 26)]),MR 28 2,aQ 29 (.sg [(.bool false),(.str []),.nil0,(.int .i64 0),.nil0] [(0,(1,(.t 22))),(1,(1,(.t 24))),(2,(1,(.t 27))),(3,(1,(.t 28)))]),aQ 30 (.lits 1 5 [(.bool false),(.str []),.nil0,(.int .i64 0),.nil0] [(0,(.t 29))]),aQ 31 (.app (.t 20) (.t 30) 5 80),aQ 32 (.dp (.t 16)),ep 33 32 0,gg (.store 1 (.t 33) (.t 31))] [[],[],[1],[2],[3],[],[5],[],[7],[],[9],[10],[],[6,8,11,12],[13],[4,14,11],[0,0,1,2,3,4,5,6,7,8,9,10,11,12,13,14,15],[16,0,1,2,3,4,5,6,7,8,9,10,11,12,13,14,15],[17,15,15,0,1,2,3,4,5,6,7,8,9,10,11,12,13,14,15]] [.no,.no,.no,.no,(.rw [.par 0] []),.no,.rw [.loc 4] [],.no,.rw [.loc 4] [],.no,.rw [.loc 4] [],.no,.no,.no,.no,(.rw [] [.par 1,.gen 31,.loc 31]),.no,.no,(.rw [] [.par 0])]) (aM [zi 8] (.gh (.own 8 1) (.seq (aM [ep 34 4 3,fm 35 34,oy 36 35,gH 37 0] (.block 0 (.loop (aM [et 38 .lss 37 36] (.seq (.cond (.t 38) .skip (.exit 0)) (.seq (.block 1 (aM [jL 39 35 37 4,gz 40 4 39,aQ 10 (.new [(.bool false),(.str []),.nil0,.nil0]),gg (.store 4 (.t 10) (.t 40))] (.cq [MR 41 8,MR 42 0,gz 43 4 10,MR 44 7,aQ 45 (.call Vt [(.t 42),(.t 43),(.t 44)]),aQ 46 (.lits 1 1 [(.int .i64 0)] [(0,(.t 45))]),aQ 47 (.app (.t 41) (.t 46) 1 8),MR 8 47]))) (.cq [eY 48 .add 37 1,MR 37 48]))))))) (.gh (.zS (.loc 8) 8) (aM [MR 49 0,aQ 50 (.dp (.t 49)),ep 51 50 0,fm 52 51,MR 53 7,MR 54 8,jL 55 52 53 5,ep 56 55 4,gg (.store 1 (.t 56) (.t 54))] (aM [MR 57 7,MR 6 57] .ret)))))))))
def Tree.acN (x:Tree) (p:Int):Node:=⟨x.text,x.s,x.attrs,p,[]⟩
def Wq (d:Doc) (x:Tree) (p:Int) (i:Nat):Doc:=d++[x.acN p]++akX (d.length+1) d.length (x.kids.take i)
def XE (d:Doc) (x:Tree) (p:Int) (i:Nat):(Wq d x p i).length=d.length+1+dP (x.kids.take i):=by simp[Wq,my];omega
def aaB {d:Doc} {x:Tree} {p:Int} {i:Nat} {k:Tree} (h:x.kids[i]?=some k):Wq d x p (i+1)=Wq d x p i++k.flat (Wq d x p i).length d.length:=by
 rw[XE];unfold Wq;rw[yf,h,pd];simp[akX]
structure Lk (x:Tree) where
 i:Nat
 L:Lb
 u:Lb→Bool
 hi:i≤x.kids.length
 l0:L≠ .par 0
 l8:L≠ .loc 8
 l10:L≠ .loc 10
 Mo:L≠ .loc 47
 lg:∀j,i≤j→L≠ .gen (1000+j)
 Mp:u (.loc 10)=false
 Mq:u (.loc 47)=false
 ug:∀j,i≤j→u (.gen (1000+j))=false
def Xr {x:Tree} (q:Lk x):List Lb:=[.par 0,q.L,.loc 8]
def XQ (d:Doc) {x:Tree} (q:Lk x):List (Nat×AV):=
 [(0,.ptr (.par 0) 1 0 0),(7,.int .i64 d.length),(8,.sl (.loc 8) 1 0 (mw (d.length+1) (x.kids.take q.i)).length),(35,.list (dq x.kids)),(36,.int .i64 x.kids.length),(37,.int .i64 q.i)]
def VE (d:Doc) (p:Int) {x:Tree} (q:Lk x):List (Lb×Row):=
 [(.par 0,⟨1,[[.sl q.L 5 0 (Wq d x p q.i).length]]⟩),(q.L,⟨5,aB ((Wq d x p q.i).map Node.iv)⟩),(.loc 8,⟨1,aB ((mw (d.length+1) (x.kids.take q.i)).map xX)⟩)]
def aaC {x:Tree} (d:Doc) (p:Int) (q:Lk x):∀r∈VE d p q,∀cs∈r.2.els,∀l∈ah cs,l∈Xr q:=by
 intro r hr cs bV l hl;simp only[VE,dU,e7,kt] at hr;rcases hr with rfl|rfl|rfl
 ·simp only[bY] at bV;subst bV;simp only[ah,AV.an,rI,bY] at hl;subst hl;simp[Xr]
 ·rw[bU bV] at hl;simp at hl
 rw[bU bV] at hl;simp at hl
def aip {P:Program} {G:Nat→Option (List IV)} {Vt iJ:Nat} (hF:aw P G Vt=some (58,[(none,6)],(YB iJ Vt).bare)) (x:Tree) (d:Doc) (p:Int) (hx:d.length+x.wt≤B)
  (hC:au P G iJ [.list (cD x.attrs)] (.list (cD x.attrs)))
  (hK:∀k∈x.kids,∀(d':Doc),d'.length+k.wt≤d.length+x.wt→adm P G 5 Vt [.ptr (.par 0) 1 0 0,k.av,.int .i64 d.length] (d'.map Node.iv) (.int .i64 d'.length) ((d'++k.flat d'.length d.length).map Node.iv)) :
  adm P G 5 Vt [.ptr (.par 0) 1 0 0,x.av,.int .i64 p] (d.map Node.iv) (.int .i64 d.length) ((d++x.flat d.length p).map Node.iv):=by
 refine⟨P6,rfl,fun b hb=> ?_⟩;refine WY hF N7 ?_ ?_ ?_
 ·rintro l ⟨r,h⟩;rcases We h with⟨rfl,_⟩|⟨_,rfl,_⟩<;>rfl
 ·intro l hl;simp[ah,AV.an,Tree.av] at hl;subst hl;cases b<;>simp[Xq]
 have hlB:d.length≤B:=tM
 have hwx:=x.gx;have Hm:=eZ x.kids;unfold YB;have Zs:(x.acN p).iv= .agg [.bool x.text,.str x.s,.list (cD x.attrs),.int .i64 p,.list []]:=rfl;cases b with
 |true=>
  simp only[↓aX,mX,seval,Xq,Tree.av,bA];refine⟨rfl,jw hC ?_⟩;simp only[↓aX,mX,seval];rw[afA 5 80 31 (.par 1) (d.map Node.iv) (.agg [.bool x.text,.str x.s,.list (cD x.attrs),.int .i64 p,.list []]) rfl PE N7 rfl PX (by unfold B at hlB;omega) Pr N7 PU];simp only[↓aX,mX,seval,bF];refine⟨by rintro l (rfl|rfl)<;>simp[Lb.iQ],?_⟩;refine pe (σ:=Lk x) Xr (fun q=>q.u) (XQ d) (VE d p) (fun q=>x.kids.length - q.i)
   {i:=0,L:= .gen 31,u:=fun q=>decide (q= .par 1),hi:=zd _,l0:=by simp,l8:=by simp,l10:=by simp,Mo:=by simp,lg:=fun j _=>by simp;omega,Mp:=by simp,Mq:=by simp,ug:=fun j _=>by simp}
   (fun _=>rfl) (fun q=>by simp[ah,AV.an,XQ,Xr]) (aaC d p) ⟨[],?_⟩ ?_
  ·refine⟨?_,?_,?_,by simp[Xr,dn],fun l _=>⟨id,fun _=>rfl⟩⟩
   ·intro l hf hu;by_cases e0:l= .par 0
    ·subst e0;simp[Xr]
    by_cases e1:l= .gen 31
    ·subst e1;simp[Xr]
    by_cases e2:l= .par 1
    ·subst e2;simp
    exfalso;apply hu;cases l<;>simp_all[Lb.fresh,ae,Hp.none]
   ·simp[XQ,k_,dn,bJ,mw,put,jP]
   simp[VE,tc,dn,ae,dO,bu,bJ,Wq,akX,mw,aB,Node.iv,Node.cs,Tree.acN,IV.cells,IV.dQ,nT]
  intro q;have a0:ie q.u (VE d p q) (.par 0)= .live ⟨1,[[.sl q.L 5 0 (Wq d x p q.i).length]]⟩:=by simp[ie,VE,kl,bD]
  have aL:ie q.u (VE d p q) q.L= .live ⟨5,aB ((Wq d x p q.i).map Node.iv)⟩:=by simp[ie,VE,kl,bD,q.l0]
  have a8:ie q.u (VE d p q) (.loc 8)= .live ⟨1,aB ((mw (d.length+1) (x.kids.take q.i)).map xX)⟩:=by simp[ie,VE,kl,bD,yd q.l8]
  have a10:ie q.u (VE d p q) (.loc 10)= .unused:=by simp[ie,VE,kl,bD,yd q.l10,q.Mp,Hp.none]
  have a47:ie q.u (VE d p q) (.loc 47)= .unused:=by simp[ie,VE,kl,bD,yd q.Mo,q.Mq,Hp.none]
  have ag:ie q.u (VE d p q) (.gen (1000+q.i))= .unused:=by simp[ie,VE,kl,bD,yd (q.lg q.i (eM _)),q.ug q.i (eM _),Hp.none]
  have anf:∀l:Lb,l.fresh=false→ie q.u (VE d p q) l≠ .unused→l= .par 0∨l=q.L∨q.u l=true:=by
   intro l hf hu;by_cases e0:l= .par 0
   ·exact .inl e0
   by_cases e1:l=q.L
   ·exact .inr (.inl e1)
   by_cases e2:q.u l=true
   ·exact .inr (.inr e2)
   exfalso;apply hu;have e3:l≠ .loc 8:=(by rintro rfl;simp[Lb.fresh] at hf);simp[ie,VE,kl,bD,e0,e1,e2,e3,Hp.none]
  have lr:ah ((XQ d q).map Prod.snd)=[.par 0,.loc 8]:=by simp[ah,AV.an,XQ]
  generalize ie q.u (VE d p q)=H0 at *;have ab_:=q.l10;have MN:=q.l8;have aca:=q.Mo;have hi:=q.hi;have JV:(mw (d.length+1) (x.kids.take q.i)).length=q.i:=by rw[VS,tp];omega
  have Lp:=ql (x.kids.take q.i);have MA:=lV x.kids q.i;simp only[↓aX,mX,seval,XQ];refine AU (fun h=> ?_) (fun h=> ?_)
  ·have bI:q.i<x.kids.length:=(by simpa using h);obtain⟨k,HA⟩:∃k,x.kids[q.i]?=some k:=⟨_,bS bI⟩;have hw:IntKind.i64.wrap ((q.i:Int)+1)=((q.i+1:Nat):Int):=wrap64 tM (by unfold B at hx;omega);have E0:x.kids.take (q.i+1)=x.kids.take q.i++[k]:=Vl HA;have ME:dE (x.kids.take q.i)+k.wt≤dE x.kids:=by
    have:=lV x.kids (q.i+1);rw[E0,kn] at this;simp only[dE] at this;omega
   simp only[↓aX,mX,seval,iy,HA,lT,Tree.cJ,Tree.cs,a10];refine Zf (l:= .par 0) (N:= .gen (1000+q.i)) (o:=some q.L) (hK k (dc HA) (Wq d x p q.i) (by rw[XE];omega)) rfl ⟨q.l0,by simp only[↓aX,mX,seval,a0,bA],by simp only[↓aX,mX,seval,aL,cY ab_]⟩ (by simp only[↓aX,mX,seval,ag]) (by intro h;simp[Lb.fresh] at h) ?_;rintro L' kK hL' ⟨b1,b2,b3⟩ j0 GJ;have c8:kK (.loc 8)= .live ⟨1,aB ((mw (d.length+1) (x.kids.take q.i)).map xX)⟩:=by
    rw[j0 _ N7 N7 (by simpa using MN)];simp only[↓aX,mX,seval,a8]
   have LK:kK (.loc 47)= .unused:=by
    rw[j0 _ N7 N7 (by simpa using aca)];simp only[↓aX,mX,seval,a47]
   simp only[↓aX,mX,seval];rw[qg 1 8 47 8 ((mw (d.length+1) (x.kids.take q.i)).map xX) (.int .i64 (Wq d x p q.i).length) c8 (by rw[bA]) rfl PX (by rw[JV];unfold B at hx;omega) Pr Pr LK];simp only[↓aX,mX,seval,hw];have hL8:L'≠ .loc 8:=by rcases hL' with rfl|e;simp;simp only[di] at e;rw[←e];exact MN
   have agM:L'≠ .loc 10:=by rcases hL' with rfl|e;simp;simp only[di] at e;rw[←e];exact ab_
   have acb:L'≠ .loc 47:=by rcases hL' with rfl|e;simp;simp only[di] at e;rw[←e];exact aca
   refine⟨{i:=q.i+1,L:=L',u:=fun l=>q.u l||(decide (l=q.L)||decide (l= .gen (1000+q.i))),hi:=bI,l0:=b1,l8:=hL8,l10:=agM,Mo:=acb,lg:= ?_,Mp:= ?_,Mq:= ?_,ug:= ?_},Pq,[(.loc 8,.loc 47)],?_⟩
   ·intro j hj;rcases hL' with rfl|e
    ·simp;omega
    simp only[di] at e;rw[←e];exact q.lg j tM
   ·simp[q.Mp,yd ab_]
   ·simp[q.Mq,yd aca]
   ·intro j hj;have:=yd (q.lg j tM);simp[q.ug j tM,this];omega
   have hP:=aaB (d:=d) (p:=p) HA;have acd:mw (d.length+1) (x.kids.take (q.i+1))=mw (d.length+1) (x.kids.take q.i)++[((Wq d x p q.i).length:Int)]:=by
    rw[E0,WZ,XE];simp[mw]
   refine⟨?_,?_,?_,?_,?_⟩
   ·intro l hf hu;by_cases e0:l= .par 0
    ·subst e0;simp[Xr]
    by_cases e1:l=q.L
    ·right;simp[e1]
    by_cases e2:l= .gen (1000+q.i)
    ·right;simp[e2]
    have e3:l≠ .loc 47:=(by rintro rfl;simp[Lb.fresh] at hf);have e4:l≠ .loc 8:=(by rintro rfl;simp[Lb.fresh] at hf);have e5:l≠ .loc 10:=(by rintro rfl;simp[Lb.fresh] at hf);rw[aq _ _ e3,aq _ _ e4,j0 l e0 e2 (by simpa using yd e1),aq _ _ e5,aq _ _ e5] at hu;rcases anf l hf hu with h|h|h
    ·exact absurd h e0
    ·exact absurd h e1
    right;simp[h]
   ·simp[XQ,k_,dn,bJ,put,JV,E0,WZ,mw]
   ·have r0:dn [(.loc 8,.loc 47)] (.par 0)= .par 0:=rfl;have rL:dn [(.loc 8,.loc 47)] L'=L':=(by simp[dn,hL8]);have r8:dn [(.loc 8,.loc 47)] (.loc 8)= .loc 47:=rfl;refine⟨?_,?_,?_,trivial⟩
    ·show bD (bD kK (.loc 8) .dead) (.loc 47) _ (.par 0)= .live (dO (dn [(.loc 8,.loc 47)]) ⟨1,[[.sl L' 5 0 (Wq d x p (q.i+1)).length]]⟩);rw[aq _ _ N7,aq _ _ N7,b2,hP];simp[dO,bu,bJ,rL]
    ·show bD (bD kK (.loc 8) .dead) (.loc 47) _ (dn [(.loc 8,.loc 47)] L')= .live (dO (dn [(.loc 8,.loc 47)]) ⟨5,aB ((Wq d x p (q.i+1)).map Node.iv)⟩);rw[rL,aq _ _ acb,aq _ _ hL8,b3,dy,hP]
    show bD (bD kK (.loc 8) .dead) (.loc 47) _ (.loc 47)= .live (dO (dn [(.loc 8,.loc 47)]) ⟨1,aB ((mw (d.length+1) (x.kids.take (q.i+1))).map xX)⟩);rw[dy,acd,BG];simp only[↓aX,mX,seval];rfl
   ·simp[Xr,dn,hL8,yd b1,acb]
   intro l hl;simp only[Xr,dU,e7,kt] at hl;rcases hl with rfl|rfl|rfl
   ·exact⟨id,fun _=>rfl⟩
   ·have rL:dn [(.loc 8,.loc 47)] l=l:=(by simp[dn,hL8]);rw[rL];exact⟨id,fun _=>rfl⟩
   exact⟨fun _=>rfl,fun h=>by simp[Lb.fresh] at h⟩
  have XV:q.i=x.kids.length:=by simp at h;omega
  have CM:x.kids.take q.i=x.kids:=by rw[XV,va]
  rw[CM] at a8;have ve:=XE d x p q.i;have bI:d.length<(Wq d x p q.i).length:=tM
  have jY:(aB ((Wq d x p q.i).map Node.iv))[d.length]?=some [.bool x.text,.str x.s,.list (cD x.attrs),.int .i64 p,.list []]:=by
   rw[xT,cn,Wq,yo,b_ (eM _),Gl];rfl
  simp only[↓aX,mX,seval,h,CM];refine⟨1,(mw (d.length+1) x.kids).map xX,0,_,rfl,a8,N7,XD _,?_⟩;simp only[↓aX,mX,seval,a0,aL,bI,MN,jY,lQ,bA];have GN:(aB ((Wq d x p q.i).map Node.iv)).set d.length ((x.node d.length p).iv.cells.map IV.dQ)=aB ((d++x.flat d.length p).map Node.iv):=by
   rw[x.qm,xU,Wq,CM];congr 1;simp[Pd]
  have Yd:(d++x.flat d.length p).length=(Wq d x p q.i).length:=by
   rw[ko,x.j9,ve,CM,x.n8];omega
  refine⟨q.L,q.l0,?_,?_⟩
  ·rw[aq _ _ (yd q.l0),aq _ _ N7,a0,bA,Yd]
  rw[←GN];have:(List.take (mw (d.length+1) x.kids).length ((mw (d.length+1) x.kids).map xX))=(mw (d.length+1) x.kids).map xX:=eN N7;rw[this];simp only[↓aX,mX,seval];rfl
 |false=>
 have hd:d=[]:=by simpa using hb rfl
 have Lq:d.length=0:=by rw[hd];rfl
 simp only[↓aX,mX,seval,Xq,Tree.av];refine⟨rfl,jw hC ?_⟩;simp only[↓aX,mX,seval];rw[Xp 5 80 31 [.agg [.bool x.text,.str x.s,.list (cD x.attrs),.int .i64 p,.list []]] (by simp[jV,IV.cells]) (by simp[Flat,IV.cells]) N7 Pr PU];simp only[↓aX,mX,seval,bF];refine⟨N7,?_⟩;refine pe (σ:=Lk x) Xr (fun q=>q.u) (XQ d) (VE d p) (fun q=>x.kids.length - q.i)
  {i:=0,L:= .loc 31,u:=fun q=>false,hi:=zd _,l0:=by simp,l8:=by simp,l10:=by simp,Mo:=by simp,lg:=fun j _=>by simp,Mp:=rfl,Mq:=rfl,ug:=fun j _=>rfl}
  (fun _=>rfl) (fun q=>by simp[ah,AV.an,XQ,Xr]) (aaC d p) ⟨[],?_⟩ ?_
 ·refine⟨?_,?_,?_,by simp[Xr,dn],fun l _=>⟨id,fun _=>rfl⟩⟩
  ·intro l hf hu;by_cases e0:l= .par 0
   ·subst e0;simp[Xr]
   exfalso;apply hu;cases l<;>simp_all[Lb.fresh,ae,Hp.none]
  ·simp[XQ,k_,dn,bJ,mw,put,jP,hd]
  simp[VE,tc,dn,ae,dO,bu,bJ,Wq,akX,mw,aB,Node.iv,Node.cs,Tree.acN,IV.cells,IV.dQ,nT,hd]
 intro q;have a0:ie q.u (VE d p q) (.par 0)= .live ⟨1,[[.sl q.L 5 0 (Wq d x p q.i).length]]⟩:=by simp[ie,VE,kl,bD]
 have aL:ie q.u (VE d p q) q.L= .live ⟨5,aB ((Wq d x p q.i).map Node.iv)⟩:=by simp[ie,VE,kl,bD,q.l0]
 have a8:ie q.u (VE d p q) (.loc 8)= .live ⟨1,aB ((mw (d.length+1) (x.kids.take q.i)).map xX)⟩:=by simp[ie,VE,kl,bD,yd q.l8]
 have a10:ie q.u (VE d p q) (.loc 10)= .unused:=by simp[ie,VE,kl,bD,yd q.l10,q.Mp,Hp.none]
 have a47:ie q.u (VE d p q) (.loc 47)= .unused:=by simp[ie,VE,kl,bD,yd q.Mo,q.Mq,Hp.none]
 have ag:ie q.u (VE d p q) (.gen (1000+q.i))= .unused:=by simp[ie,VE,kl,bD,yd (q.lg q.i (eM _)),q.ug q.i (eM _),Hp.none]
 have anf:∀l:Lb,l.fresh=false→ie q.u (VE d p q) l≠ .unused→l= .par 0∨l=q.L∨q.u l=true:=by
  intro l hf hu;by_cases e0:l= .par 0
  ·exact .inl e0
  by_cases e1:l=q.L
  ·exact .inr (.inl e1)
  by_cases e2:q.u l=true
  ·exact .inr (.inr e2)
  exfalso;apply hu;have e3:l≠ .loc 8:=by rintro rfl;simp[Lb.fresh] at hf
  simp[ie,VE,kl,bD,e0,e1,e2,e3,Hp.none]
 have lr:ah ((XQ d q).map Prod.snd)=[.par 0,.loc 8]:=by simp[ah,AV.an,XQ]
 generalize ie q.u (VE d p q)=H0 at *;have ab_:=q.l10;have MN:=q.l8;have aca:=q.Mo;have hi:=q.hi;have JV:(mw (d.length+1) (x.kids.take q.i)).length=q.i:=by rw[VS,tp];omega
 have Lp:=ql (x.kids.take q.i);have MA:=lV x.kids q.i;simp only[↓aX,mX,seval,XQ];refine AU (fun h=> ?_) (fun h=> ?_)
 ·have bI:q.i<x.kids.length:=by simpa using h
  obtain⟨k,HA⟩:∃k,x.kids[q.i]?=some k:=⟨_,bS bI⟩;have hw:IntKind.i64.wrap ((q.i:Int)+1)=((q.i+1:Nat):Int):=wrap64 tM (by unfold B at hx;omega);have E0:x.kids.take (q.i+1)=x.kids.take q.i++[k]:=Vl HA;have ME:dE (x.kids.take q.i)+k.wt≤dE x.kids:=by
   have:=lV x.kids (q.i+1);rw[E0,kn] at this;simp only[dE] at this;omega
  simp only[↓aX,mX,seval,iy,HA,lT,Tree.cJ,Tree.cs,a10];refine Zf (l:= .par 0) (N:= .gen (1000+q.i)) (o:=some q.L) (hK k (dc HA) (Wq d x p q.i) (by rw[XE];omega)) rfl ⟨q.l0,by simp only[↓aX,mX,seval,a0,bA],by simp only[↓aX,mX,seval,aL,cY ab_]⟩ (by simp only[↓aX,mX,seval,ag]) (by intro h;simp[Lb.fresh] at h) ?_;rintro L' kK hL' ⟨b1,b2,b3⟩ j0 GJ;have c8:kK (.loc 8)= .live ⟨1,aB ((mw (d.length+1) (x.kids.take q.i)).map xX)⟩:=by
   rw[j0 _ N7 N7 (by simpa using MN)];simp only[↓aX,mX,seval,a8]
  have LK:kK (.loc 47)= .unused:=by
   rw[j0 _ N7 N7 (by simpa using aca)];simp only[↓aX,mX,seval,a47]
  simp only[↓aX,mX,seval];rw[qg 1 8 47 8 ((mw (d.length+1) (x.kids.take q.i)).map xX) (.int .i64 (Wq d x p q.i).length) c8 (by rw[bA]) rfl PX (by rw[JV];unfold B at hx;omega) Pr Pr LK];simp only[↓aX,mX,seval,hw];have hL8:L'≠ .loc 8:=by rcases hL' with rfl|e;simp;simp only[di] at e;rw[←e];exact MN
  have agM:L'≠ .loc 10:=by rcases hL' with rfl|e;simp;simp only[di] at e;rw[←e];exact ab_
  have acb:L'≠ .loc 47:=by rcases hL' with rfl|e;simp;simp only[di] at e;rw[←e];exact aca
  refine⟨{i:=q.i+1,L:=L',u:=fun l=>q.u l||(decide (l=q.L)||decide (l= .gen (1000+q.i))),hi:=bI,l0:=b1,l8:=hL8,l10:=agM,Mo:=acb,lg:= ?_,Mp:= ?_,Mq:= ?_,ug:= ?_},Pq,[(.loc 8,.loc 47)],?_⟩
  ·intro j hj;rcases hL' with rfl|e
   ·simp;omega
   simp only[di] at e;rw[←e];exact q.lg j tM
  ·simp[q.Mp,yd ab_]
  ·simp[q.Mq,yd aca]
  ·intro j hj;have:=yd (q.lg j tM);simp[q.ug j tM,this];omega
  have hP:=aaB (d:=d) (p:=p) HA;have acd:mw (d.length+1) (x.kids.take (q.i+1))=mw (d.length+1) (x.kids.take q.i)++[((Wq d x p q.i).length:Int)]:=by
   rw[E0,WZ,XE];simp[mw]
  refine⟨?_,?_,?_,?_,?_⟩
  ·intro l hf hu;by_cases e0:l= .par 0
   ·subst e0;simp[Xr]
   by_cases e1:l=q.L
   ·right;simp[e1]
   by_cases e2:l= .gen (1000+q.i)
   ·right;simp[e2]
   have e3:l≠ .loc 47:=(by rintro rfl;simp[Lb.fresh] at hf);have e4:l≠ .loc 8:=(by rintro rfl;simp[Lb.fresh] at hf);have e5:l≠ .loc 10:=(by rintro rfl;simp[Lb.fresh] at hf);rw[aq _ _ e3,aq _ _ e4,j0 l e0 e2 (by simpa using yd e1),aq _ _ e5,aq _ _ e5] at hu;rcases anf l hf hu with h|h|h
   ·exact absurd h e0
   ·exact absurd h e1
   right;simp[h]
  ·simp[XQ,k_,dn,bJ,put,JV,E0,WZ,mw]
  ·have r0:dn [(.loc 8,.loc 47)] (.par 0)= .par 0:=rfl;have rL:dn [(.loc 8,.loc 47)] L'=L':=(by simp[dn,hL8]);have r8:dn [(.loc 8,.loc 47)] (.loc 8)= .loc 47:=rfl;refine⟨?_,?_,?_,trivial⟩
   ·show bD (bD kK (.loc 8) .dead) (.loc 47) _ (.par 0)= .live (dO (dn [(.loc 8,.loc 47)]) ⟨1,[[.sl L' 5 0 (Wq d x p (q.i+1)).length]]⟩);rw[aq _ _ N7,aq _ _ N7,b2,hP];simp[dO,bu,bJ,rL]
   ·show bD (bD kK (.loc 8) .dead) (.loc 47) _ (dn [(.loc 8,.loc 47)] L')= .live (dO (dn [(.loc 8,.loc 47)]) ⟨5,aB ((Wq d x p (q.i+1)).map Node.iv)⟩);rw[rL,aq _ _ acb,aq _ _ hL8,b3,dy,hP]
   show bD (bD kK (.loc 8) .dead) (.loc 47) _ (.loc 47)= .live (dO (dn [(.loc 8,.loc 47)]) ⟨1,aB ((mw (d.length+1) (x.kids.take (q.i+1))).map xX)⟩);rw[dy,acd,BG];simp only[↓aX,mX,seval];rfl
  ·simp[Xr,dn,hL8,yd b1,acb]
  intro l hl;simp only[Xr,dU,e7,kt] at hl;rcases hl with rfl|rfl|rfl
  ·exact⟨id,fun _=>rfl⟩
  ·have rL:dn [(.loc 8,.loc 47)] l=l:=(by simp[dn,hL8]);rw[rL];exact⟨id,fun _=>rfl⟩
  exact⟨fun _=>rfl,fun h=>by simp[Lb.fresh] at h⟩
 have XV:q.i=x.kids.length:=by simp at h;omega
 have CM:x.kids.take q.i=x.kids:=by rw[XV,va]
 rw[CM] at a8;have ve:=XE d x p q.i;have bI:d.length<(Wq d x p q.i).length:=tM
 have jY:(aB ((Wq d x p q.i).map Node.iv))[d.length]?=some [.bool x.text,.str x.s,.list (cD x.attrs),.int .i64 p,.list []]:=by
  rw[xT,cn,Wq,yo,b_ (eM _),Gl];rfl
 simp only[↓aX,mX,seval,h,CM];refine⟨1,(mw (d.length+1) x.kids).map xX,0,_,rfl,a8,N7,XD _,?_⟩;simp only[↓aX,mX,seval,a0,aL,bI,MN,jY,lQ,bA];have GN:(aB ((Wq d x p q.i).map Node.iv)).set d.length ((x.node d.length p).iv.cells.map IV.dQ)=aB ((d++x.flat d.length p).map Node.iv):=by
  rw[x.qm,xU,Wq,CM];congr 1;simp[Pd]
 have Yd:(d++x.flat d.length p).length=(Wq d x p q.i).length:=by
  rw[ko,x.j9,ve,CM,x.n8];omega
 refine⟨q.L,q.l0,?_,?_⟩
 ·rw[aq _ _ (yd q.l0),aq _ _ N7,a0,bA,Yd]
 rw[←GN];have:(List.take (mw (d.length+1) x.kids).length ((mw (d.length+1) x.kids).map xX))=(mw (d.length+1) x.kids).map xX:=eN N7;rw[this];simp only[↓aX,mX,seval];rfl

theorem Px {p:Lb}:∀{ds:List AV},p∈ah ds→∃y∈ds,p∈y.an
 |[],h=>by simp[ah] at h
 |y::r,h=>by
  simp only[ah,eR] at h;rcases h with h|h
  ·exact⟨y,N7,h⟩
  obtain⟨z,hz,hp⟩:=Px h;exact⟨z,by simp[hz],hp⟩
def Qm {S:St} {env:Env} {H:Hp} {q:Lb} {cs:List AV} {j d sz:Nat} (g1:H q= .live ⟨cs.length,[cs]⟩) (g2:cs[j]?=some .nil0) (g3:H (.loc d)= .unused) (g4:0<sz) :
  nQ S env H env (bD (bD H (.loc d) (.live ⟨sz,[]⟩)) q (.live ⟨cs.length,[cs.set j (.sl (.loc d) sz 0 0)]⟩)):=by
 intro K β a w IJ hS hr;have hk:=hr.OI (.loc d) g3 (r:=⟨sz,[]⟩) (Below.refl _ _) none N7 N7 ⟨g4,N7,N7⟩;have TF:q≠ .loc d:=by rintro rfl;rw[g1] at g3;cases g3
 have hq:bD H (.loc d) (.live ⟨sz,[]⟩) q= .live ⟨cs.length,[cs]⟩:=by rw[aq _ _ TF];exact g1
 have gm:0<cs.length:=(hr.rows q _ g1).1;have TG:bD β (.loc d) none q=β q:=aq _ _ TF;cases hb:β q with
 |none=>
  have:=(hr.rows q _ g1).2.2;simp[hb] at this
 |some g=>
 obtain⟨cur,e0,cap,k1,k2,k3,k4,k5⟩:=(hk.rows q _ hq).block (TG.trans hb);have zk:j<cs.length:=(bd.1 g2).1;have vf:=hk.setRow q (r':=⟨cs.length,[cs.set j (.sl (.loc d) sz 0 0)]⟩) (cur':=cur) (cap:=cap) hq (TG.trans hb) k1 rfl rfl k2 k3 (by simpa using k4) N7
  (by
   intro ds ua p hp;simp at ua;subst ua;obtain⟨y,hy,J'⟩:=Px hp;rcases D9 hy with hy|rfl
   ·obtain⟨m,hm⟩:=yl hy;exact hk.cH q _ hq cs N7 p (cW _ _ _ hm p J')
   simp only[AV.an,bY] at J';subst J';simp)
  (by
   intro i' j' ds x0 ed iX;cases i' with
   |succ i'=>simp at ed
   |zero=>
   simp at ed;subst ed;by_cases e:j'=j
   ·subst e;rw[A9 zk] at iX;cases iX;obtain⟨v,q1,q2⟩:=k5 0 j' cs _ N7 g2;simp only[RV] at q2;obtain⟨ad,rfl⟩:=q2;refine⟨_,q1,?_⟩;simp only[RV];exact⟨ad,0,rfl,eM _,by simp[maxLen],N7,fun _=> .inl rfl⟩
   rw[Bd (yd e)] at iX;exact k5 0 j' cs x0 N7 iX)
 have j0:w.setRow g cur=w:=setRow_self w g cur e0 (0,0) k1;rw[j0] at vf;exact⟨_,vf⟩
section
variable {env:Env} {H:Hp}
def kq (m:Option Nat) (t u:Nat) (R:AV→Hp→Prop):fX [(some m,t),(none,u)] R .ret env H=cw (Wl m (env t) H) (fun x=>R (.gf [x,env u]) H) .mk:=by
 simp only[fX,ef,oO,cw];cases Wl m (env t) H<;>simp[gD]
end

inductive Sub:Nat→Int→Tree→Nat→Int→Tree→Prop
 |self (off:Nat) (p:Int) (t:Tree):Sub off p t off p t
 |Ce {off:Nat} {p:Int} {t:Tree} {n:Nat} {q:Int} {y:Tree} (a b:List Tree) (k:Tree):t.kids=a++k::b→Sub (off+1+dP a) off k n q y→Sub off p t n q y
def oc (d:Doc) (n:Nat) (q:Int) (y:Tree):Prop:=∃post,d.drop n=y.flat n q++post
def Sub.rng {off:Nat} {p:Int} {t:Tree} {n:Nat} {q:Int} {y:Tree} (h:Sub off p t n q y):off≤n∧n+y.jz≤off+t.jz:=by
 induction h with
 |self=>exact⟨eM _,eM _⟩
 |@Ce off p t n q y a b k hk _ ih=>
 have h1:=t.n8;rw[hk,lU] at h1;simp only[dP] at h1;omega
def xZ {α:Type} {a b c:List α} {n:Nat} (h:a.length=n):(a++b).drop n=b:=by subst h;simp
def Sub.Gv {off:Nat} {p:Int} {t:Tree} {n:Nat} {q:Int} {y:Tree} (h:Sub off p t n q y):∀d:Doc,oc d off p t→oc d n q y:=by
 induction h with
 |self=>exact fun _ h=>h
 |@Ce off p t n q y a b k hk _ ih=>
 rintro d ⟨post,h⟩;refine ih d ⟨akX (off+1+dP a+k.jz) off b++post,?_⟩;rw[t.qm,hk] at h;have h2:=(ob h).2;rw[pd] at h2;have h3:d.drop (off+1)=akX (off+1) off a++(akX (off+1+dP a) off (k::b)++post):=by rw[h2];exact yo _ _ _
 rw[←JO,h3,xZ (c:=[]) (my _ _ _)];simp[akX]
def Sub.parent {off:Nat} {p:Int} {t:Tree} {n:Nat} {q:Int} {y:Tree} (h:Sub off p t n q y) :
  (n=off∧q=p∧y=t)∨∃(m:Nat) (z:Tree) (r:Int),q=(m:Int)∧Sub off p t m r z∧m<n∧n+y.jz≤m+z.jz∧y∈z.kids∧off≤m:=by
 induction h with
 |self=>exact .inl ⟨rfl,rfl,rfl⟩
 |@Ce off p t n q y a b k hk hs ih=>
 right;rcases ih with⟨rfl,rfl,rfl⟩|⟨m,z,r,e1,e2,e3,e4,e5,e6⟩
 ·have h1:=t.n8;rw[hk,lU] at h1;simp only[dP] at h1;exact⟨off,t,p,rfl,.self _ _ _,tM,tM,by rw[hk];simp,eM _⟩
 exact⟨m,z,r,e1,.Ce a b k hk e2,e3,e4,e5,tM⟩
def Sub.trans {off:Nat} {p:Int} {t:Tree} {n:Nat} {q:Int} {y:Tree} (h:Sub off p t n q y) {m:Nat} {r:Int} {z:Tree} (h2:Sub n q y m r z):Sub off p t m r z:=by
 induction h with
 |self=>exact h2
 |Ce a b k hk _ ih=>exact .Ce a b k hk (ih h2)
def afG:∀(sz:Nat) (t:Tree) (off:Nat) (p:Int) (n:Nat),t.jz≤sz→off≤n→n<off+t.jz→∃q y,Sub off p t n q y:=by
 intro sz;induction sz with
 |zero=>intro t off p n h;have:=t.uE;omega
 |succ sz ih=>
 intro t off p n h h1 h2;by_cases e:n=off
 ·subst e;exact⟨_,_,.self _ _ _⟩
 have key:∀(ks a:List Tree),t.kids=a++ks→off+1+dP a≤n→n<off+1+dP a+dP ks→∃q y,Sub off p t n q y:=by
  intro ks;induction ks with
  |nil=>intro a _ h3 h4;simp[dP] at h4;omega
  |cons k ks Li=>
  intro a hk h3 h4;by_cases bI:n<off+1+dP a+k.jz
  ·have hc:=t.n8;rw[hk,lU] at hc;simp only[dP] at hc;obtain⟨q,y,hs⟩:=ih k (off+1+dP a) off n tM h3 bI;exact⟨q,y,.Ce a ks k hk hs⟩
  simp only[dP] at h4;refine Li (a++[k]) (by rw[hk];simp) ?_ ?_
  ·rw[lU];simp only[dP];omega
  rw[lU];simp only[dP];omega
 refine key t.kids [] rfl ?_ ?_
 ·simp[dP];omega
 have:=t.n8;simp[dP];omega
def oc.node {d:Doc} {n:Nat} {q:Int} {y:Tree} (h:oc d n q y):d[n]?=some (y.node n q):=by
 obtain⟨post,h⟩:=h;rw[y.qm] at h;exact(ob h).1
def oc.len {d:Doc} {n:Nat} {q:Int} {y:Tree} (h:oc d n q y):n+y.jz≤d.length:=by
 obtain⟨post,h⟩:=h;have:=GB List.length h;rw[BH,ko,y.j9] at this;have:=y.uE;omega
def oc.Ce {d:Doc} {n:Nat} {q:Int} {y:Tree} (h:oc d n q y) (a b:List Tree) (k:Tree) (hk:y.kids=a++k::b):oc d (n+1+dP a) n k:=
 (Sub.Ce (off:=n) (p:=q) a b k hk (.self _ _ _)).Gv d h
def oc.uniq {d:Doc} {n:Nat} {q q':Int} {y y':Tree} (h:oc d n q y) (h':oc d n q' y'):y=y'∧q=q':=by
 have e:q=q':=by
  have:=h.node.symm.trans h'.node;simp only[di] at this;exact GB Node.parent this
 subst e;obtain⟨post,h⟩:=h;obtain⟨ahy,h'⟩:=h';exact⟨y.ZQ y' n q post ahy (h.symm.trans h'),rfl⟩
def ZR {t:Tree} {n:Nat} (h:n<(lW t).length):∃q y,oc (lW t) n q y∧Sub 0 (-1) t n q y:=by
 rw[pf] at h;obtain⟨q,y,hs⟩:=afG t.jz t 0 (-1) n (eM _) (zd _) tM;exact⟨q,y,hs.Gv _ ⟨[],Qb⟩,hs⟩
theorem pg:∀{p:Option Bool} {l:List Tree},bQ p l=true→∀x∈l,x.fu=true
 |_,[],_,x,hx=>by simp at hx
 |p,y::r,h,x,hx=>by
  simp only[bQ,de] at h;simp only[dU] at hx;rcases hx with rfl|hx
  ·exact h.1
  exact pg h.2.2 x hx
def Tree.vH {x:Tree} (h:x.fu=true):bQ none x.kids=true:=by
 cases ht:x.text with
 |true=>
  rw[x.oa ht] at h;simp only[de,yt,ye] at h;rw[h.2.2.2];rfl
 |false=>
 rw[x.Pa ht] at h;simp only[de] at h;exact h.2.2
def Sub.fu {off:Nat} {p:Int} {t:Tree} {n:Nat} {q:Int} {y:Tree} (h:Sub off p t n q y):t.fu=true→y.fu=true:=by
 induction h with
 |self=>exact id
 |Ce a b k hk _ ih=>exact fun h=>ih (pg (Tree.vH h) k (by rw[hk];simp))
def Tree.Zg {x:Tree} (h:x.fu=true) (ht:x.text=true):x.kids=[]∧x.attrs=[]∧x.s≠[]:=by
 rw[x.oa ht] at h;simp only[de,yt,ye,sd] at h;exact⟨h.2.2.2,h.2.2.1,h.2.1⟩

def x4:Nat→List (Tree×Int)→List (Nat×Int)
 |_,[]=>[]
 |n,(t,p)::r=>(n,p)::x4 (n+t.jz) r
def D3 (j:Int) (ps:List (Nat×Int)):List Int:=(ps.filter fun x=>x.2==j).map fun x=>(x.1:Int)
def x5:Nat→List (Tree×Int)→List Node
 |_,[]=>[]
 |n,(t,p)::r=>t.flat n p++x5 (n+t.jz) r
def fill (ps:List (Nat×Int)):Nat→List Node→List Node
 |_,[]=>[]
 |j,x::r=>{x with kids:=x.kids++D3 j ps}::fill ps (j+1) r
def whole (d:List Node) (l:List (Tree×Int)):List Node:=fill (x4 d.length l) 0 d++x5 d.length l

def x6 (m:Int):Nat→List Node→List Nat
 |_,[]=>[]
 |j,x::r=>(if x.parent=m then [j] else [])++x6 m (j+1) r
theorem Xe (m:Int):∀(j:Nat) (a b:List Node),x6 m j (a++b)=x6 m j a++x6 m (j+a.length) b
 |j,[],b=>by simp[x6]
 |j,x::a,b=>by simp only[List.cons_append,x6,Xe m (j+1) a b,gL,yo,Oa 1,ze]
theorem YU (m:Int):∀(j:Nat) (a:List Node) (k:Nat),k∈x6 m j a↔j≤k∧∃x,a[k - j]?=some x∧x.parent=m
 |j,[],k=>by simp[x6]
 |j,x::a,k=>by
  simp only[x6,eR,YU m (j+1) a k];constructor
  ·rintro(h|⟨h1,y,h2,h3⟩)
   ·split at h
    ·rename_i hp;simp only[bY] at h;subst h;exact⟨eM _,x,N7,hp⟩
    simp at h
   exact⟨tM,y,by rw[show k - j=(k - (j+1))+1 by omega];simpa using h2,h3⟩
  rintro⟨h1,y,h2,h3⟩;by_cases e:k=j
  ·subst e;simp only[Gl,yr,di] at h2;subst h2;left;rw[eE h3];simp
  right;rw[show k - j=(k - (j+1))+1 by omega,GA] at h2;exact⟨tM,y,h2,h3⟩
mutual
theorem Tree.acO (off:Nat) (p m:Int):∀x:Tree,(m<off∨(off+x.jz:Nat)≤m)→x6 m off (x.flat off p)=if p=m then [off] else []
 | .mk t s az ks,h=>by
  simp only[Tree.flat,x6];simp only[Tree.jz] at h;rw[Y0 (off+1) off m ks tM tM];simp
theorem Y0 (off p:Nat) (m:Int):∀xs:List Tree,(m<off∨(off+dP xs:Nat)≤m)→(p:Int)≠m→x6 m off (akX off p xs)=[]
 |[],_,_=>rfl
 |k::r,h,hp=>by
  simp only[dP] at h;simp only[akX,Xe,k.j9];rw[k.acO off p m tM,Y0 (off+k.jz) p m r tM hp,cY hp];rfl
end
def S6 (off:Nat):List Tree→List Nat
 |[]=>[]
 |k::r=>off::S6 (off+k.jz) r
theorem aaE:∀(off:Nat) (xs:List Tree),(S6 off xs).map (fun k:Nat=>(k:Int))=mw off xs
 |_,[]=>rfl
 |off,k::r=>by simp[S6,mw,aaE _ r]
theorem aaF (off p:Nat):∀xs:List Tree,p<off→x6 p off (akX off p xs)=S6 off xs
 |[],_=>rfl
 |k::r,h=>by
  simp only[akX,Xe,k.j9,S6];rw[k.acO off p p tM,aaF (off+k.jz) p r tM];simp
def Sub.aiq {off:Nat} {p:Int} {t:Tree} {n:Nat} {q:Int} {y:Tree} (h:Sub off p t n q y):p<off→x6 n off (t.flat off p)=S6 (n+1) y.kids:=by
 induction h with
 |self off p t=>
  intro hp;rw[t.qm];simp only[x6];rw[cY (show ¬(t.node off p).parent=(off:Int) by show ¬p=(off:Int);omega),aaF (off+1) off t.kids tM];rfl
 |@Ce off p t n q y a b k hk hs ih=>
 intro hp;have hr:=hs.rng;have h1:=t.n8;rw[hk,lU] at h1;simp only[dP] at h1;have hy:=y.uE;rw[t.qm,hk,pd];simp only[x6,Xe,my,akX,k.j9];rw[cY (show ¬(t.node off p).parent=(n:Int) by show ¬p=(n:Int);omega),Y0 (off+1) off n a tM tM,ih tM,Y0 (off+1+dP a+k.jz) off n b tM tM];simp
def aeb {t:Tree} {n:Nat} {q:Int} {y:Tree} (h:Sub 0 (-1) t n q y):x6 n 0 (lW t)=S6 (n+1) y.kids:=h.aiq tM
def uG (d:Doc):Nat→Nat→Tree
 |0,_=> .mk false [] [] []
 |f+1,n=>match d[n]? with
  |some x=> .mk x.text x.s x.attrs ((x6 n (n+1) (d.drop (n+1))).map (uG d f))
  |none=> .mk false [] [] []
def abi {d:Doc} {m:Int} {n:Nat} (h:∀k∈x6 m 0 d,n≤k) (hn:n≤d.length):x6 m n (d.drop n)=x6 m 0 d:=by
 have e:d=d.take n++d.drop n:=(tO n d).symm;have h2:x6 m 0 d=x6 m 0 (d.take n)++x6 m n (d.drop n):=by
  conv=>lhs;rw[e]
  rw[Xe,tp,ov hn,bM]
 have h3:x6 m 0 (d.take n)=[]:=by
  apply M6.2;intro k hk;have:=h k (by rw[h2];simp[hk]);obtain⟨_,x,hx,_⟩:=(YU m 0 _ k).1 hk;have:=(bd.1 hx).1;simp at this;omega
 rw[h2,h3];rfl
theorem Y1:∀(off:Nat) (xs:List Tree),∀k∈S6 off xs,off≤k
 |_,[],k,h=>by simp[S6] at h
 |off,x::r,k,h=>by
  simp only[S6,dU] at h;rcases h with rfl|h
  ·exact eM _
  have:=Y1 _ r k h;omega
def Zw {t:Tree}:∀(f:Nat) (n:Nat) (q:Int) (y:Tree),Sub 0 (-1) t n q y→y.dep≤f→uG (lW t) f n=y:=by
 intro f;induction f with
 |zero=>intro n q y _ h;rw[y.n7] at h;omega
 |succ f ih=>
 intro n q y hs hd;have hl:=hs.Gv (lW t) ⟨[],Qb⟩;have Zs:=hl.node;have hlen:=hl.len;have hp:=aeb hs;have hy:=y.uE;unfold uG;rw[Zs];simp only[Tree.node];rw[abi (by rw[hp];exact Y1 _ _) tM,hp];have kids:∀(b a:List Tree),y.kids=a++b→(S6 (n+1+dP a) b).map (uG (lW t) f)=b:=by
  intro b;induction b with
  |nil=>intro a _;rfl
  |cons k b ihb=>
  intro a hk;simp only[S6,o2];have hdk:k.dep≤f:=by
   have h1:=y.n7;rw[hk,n9] at h1;simp only[fB] at h1;omega
  rw[ih _ n k (hs.trans (.Ce a b k hk (.self _ _ _))) hdk];have:=ihb (a++[k]) (by rw[hk];simp);rw[lU] at this;simp only[dP,kf] at this;rw[show n+1+dP a+k.jz=n+1+(dP a+k.jz) by omega,this]
 have:=kids y.kids [] rfl;simp only[dP,kf] at this;rw[this];cases y;rfl

noncomputable def aec (d:Doc) (n:Int):Tree×Int:=if Vo d=true then(if 0≤n∧n<d.length then(uG d d.length n.toNat,0) else(.mk false [] [] [],3)) else(.mk false [] [] [],1)
def Wo (x:Tree):Doc×Int:=if x.d_=true then(lW x,0) else([],1)
section
variable {t:Tree}
def aed (ht:t.d_=true) {n:Nat} {q:Int} {y:Tree} (hs:Sub 0 (-1) t n q y):aec (lW t) n=(y,0):=by
 have h:=hs.Gv (lW t) ⟨[],Qb⟩;have hl:=h.len;have hc:=y.uE;unfold aec;rw[eE (Yj ht),eE ⟨tM,tM⟩,bX];have hd:y.dep≤(lW t).length:=by
  have h1:=(ia t).1 ht;have h2:∀x:Tree,x.dep≤x.jz:=by
   have key:∀n:Nat,(∀x:Tree,x.jz≤n→x.dep≤x.jz)∧∀xs:List Tree,dP xs≤n→fB xs≤dP xs:=by
    intro n;induction n with
    |zero=>exact⟨fun x h=>by have:=x.uE;omega,fun xs h=>by cases xs with|nil=>simp[fB]|cons a r=>have:=a.uE;simp[dP] at h;omega⟩
    |succ n ih=>
    have one:∀x:Tree,x.jz≤n+1→x.dep≤x.jz:=fun x h=>by
     have:=ih.2 x.kids (by have:=x.n8;omega);rw[x.n7,x.n8];omega
    refine⟨one,fun xs=> ?_⟩;induction xs with
    |nil=>intro _;simp[fB]
    |cons a r Ll=>
    intro h;simp only[dP] at h;have:=a.uE;have:=one a tM;have:=Ll tM;simp only[fB,dP];omega
   exact fun x=>(key x.jz).1 x (eM _)
  have:=h2 y;omega
 rw[Zw _ n q y hs hd]
end

def Doc.av (d:Doc):AV:= .agg [.list (d.map Node.iv)]
def P9 {p:Prop} (h:p:=by simp[ah,AV.an,Doc.av]):p:=h
def Ql {p:Prop} (h:p:=by simp[AV.an,Doc.av,ah]):p:=h
section
variable {P:Program} {G:Nat→Option (List IV)}
def air {Vt iJ:Nat} (hF:aw P G Vt=some (58,[(none,6)],(YB iJ Vt).bare)) (hC:∀xs:List Attr,xs.length≤B→au P G iJ [.list (cD xs)] (.list (cD xs))) (x:Tree) (d:Doc) (p:Int) (hx:d.length+x.wt≤B) :
  adm P G 5 Vt [.ptr (.par 0) 1 0 0,x.av,.int .i64 p] (d.map Node.iv) (.int .i64 d.length) ((d++x.flat d.length p).map Node.iv):=by
 have key:=A4 (M:=fun l=>∀x∈l,∀(d:Doc) (p:Int),d.length+x.wt≤B→adm P G 5 Vt [.ptr (.par 0) 1 0 0,x.av,.int .i64 p] (d.map Node.iv) (.int .i64 d.length) ((d++x.flat d.length p).map Node.iv))
  (fun l h x hx d p hB=>aip hF x d p hB (hC _ (by have:=lY x;have:=iz x.attrs;omega)) fun k hk d' B5=>h x hx k hk d' d.length tM)
 exact key [x] x N7 d p hx
end
def YV (dD Vt:Nat):AC:=
(aM [zzX 1 0,aQ 2 (.new [.nil0]),gH 3 0] (.seq (aM [gz 5 4 1,aQ 6 (.call dD [(.t 5)]),sB 7 6] (.cond (.t 7) (aM [aQ 8 (.sg [.nil0] []),gg (.store 1 (.t 2) (.t 8)),gH 3 1] .ret) .skip)) (aM [aQ 4 (.new [.nil0])] (aM [gz 9 4 1,aQ 10 (.call Vt [(.t 4),(.t 9),(.c (.int .i64 (-1)))])] (aM [gz 11 1 4,gg (.store 1 (.t 2) (.t 11)),gH 3 0] (.gh (.xd (.loc 100) (.loc 2) 0) .ret))))))
def ahz {P:Program} {G:Nat→Option (List IV)} {Vj dD Vt:Nat} (hF:aw P G Vj=some (12,[((some (some 1)),2),(none,3)],(YV dD Vt).bare)) (x:Tree) (hx:x.wt≤B)
  (hG:au P G dD [x.av] (.bool x.d_)) (hP:adm P G 5 Vt [.ptr (.par 0) 1 0 0,x.av,.int .i64 (-1)] [] (.int .i64 0) ((lW x).map Node.iv)) :
  au P G Vj [x.av] (.gf [Doc.av (Wo x).1,.int .i64 (Wo x).2]):=by
 refine Ws hF N7 P6 (by simp[AV.an,ah,Doc.av]) ?_;unfold YV;simp only[↓aX,mX,seval,Tree.av];refine ay hG ?_;cases hg:x.d_ with
 |false=>
  simp only[↓aX,mX,seval,kq];simp[norm,fi,Wo,hg,Doc.av]
 |true=>
 simp only[↓aX,mX,seval];refine Zf (l:= .loc 4) (N:= .loc 100) (o:=none) hP rfl ⟨by simp only[↓aX,mX,seval],rfl⟩ (by simp only[↓aX,mX,seval]) (fun _=>⟨rfl,N7⟩) ?_;rintro L' kK hL' ⟨b1,b2,b3⟩ j0 GJ;have hL:L'= .loc 100:=by simpa using hL'
 subst hL;have c2:kK (.loc 2)= .live ⟨1,[[.nil0]]⟩:=by rw[j0 _ N7 N7 N7];simp only[↓aX,mX,seval]
 simp only[↓aX,mX,seval,b2,c2,kq];refine⟨5,(lW x).map Node.iv,0,(lW x).length,[.sl (.loc 100) 5 0 (lW x).length],rfl,rfl,b3,N7,N7,acH _,?_⟩;simp only[↓aX,mX,seval,kq,norm,fi,Wo,hg,Doc.av,bA];simp;exact eN N7
def X7 (V3:Nat):AC:=
(aM [zzX 5 0,jM 10 false] (.seq (aM [MR 13 1,MR 14 4,aQ 15 (.dp (.t 14)),fm 16 15,et 17 .neq 13 16,MR 18 17,gV 19 18 1,oH 20 18 5 0,oG 21 18 20,iR 22 18 (.len (.t 21)),iR 23 18 (.bin .geq (.t 19) (.t 22)),sj 24 18 23,MR 25 24,oH 26 25 5 0,oG 27 25 26,gV 28 25 1,iR 29 25 (.Vc (.t 27) (.t 28) 5),oH 30 25 29 3,oG 31 25 30,gV 32 25 2,iR 33 25 (.bin .neq (.t 31) (.t 32)),sj 34 25 33,MR 35 34,gV 36 35 3,iR 37 35 (.bin .gtr (.t 36) (jS 8)),sj 38 35 37] (.cond (.t 38) (aM [jM 10 false] .ret) .skip)) (aM [MR 39 4,aQ 40 (.dp (.t 39)),fm 41 40,eY 42 .add 41 1,aQ 43 (.dp (.t 39)),gg (.store 1 (.t 43) (.t 42))] (.seq (aM [ep 44 5 0,fm 45 44,MR 46 1,jL 47 45 46 5,ep 48 47 4,fm 49 48,oy 50 49,gH 51 0] (.block 0 (.loop (aM [et 52 .lss 51 50] (.seq (.cond (.t 52) .skip (.exit 0)) (.seq (.block 1 (aM [jL 53 49 51 1,fm 54 53,MR 12 54] (aM [gz 55 1 5,MR 56 12,MR 57 1,MR 58 3,eY 59 .add 58 1,MR 60 4,aQ 61 (.call V3 [(.t 55),(.t 56),(.t 57),(.t 59),(.t 60)]),sB 62 61] (.cond (.t 62) (aM [jM 10 false] .ret) .skip)))) (.cq [eY 63 .add 51 1,MR 51 63]))))))) (aM [jM 10 true] .ret)))))
def afH {d:Doc} {f:Nat} {n p nx:Int} {x:Node} (hn:n=nx) (hx:d[n.toNat]?=some x) (hp:x.parent=p):wk d (f+1) n p nx=x.kids.foldlM (fun q k=>wk d f k n q) (nx+1):=by
 rw[wk,eE hn,hx];simp[hp]
def aee {d:Doc}:∀{f:Nat} {n p nx v:Int},0≤nx→wk d f n p nx=some v→nx<v∧v≤d.length:=by
 intro f n p nx v h0 h;have hn:n=nx:=by
  cases f with
  |zero=>simp[wk] at h
  |succ f=>rw[wk] at h;split at h;assumption;simp at h
 obtain⟨m,rfl⟩:∃m:Nat,nx=m:=⟨nx.toNat,tM⟩;obtain⟨_,x,_,⟨post,h2⟩,rfl⟩:=acK d f m n p v h;have hc:=x.uE;have:=GB List.length h2;rw[BH,ko,x.j9] at this;omega
def Doc.XF {d:Doc} {n:Nat} {x:Node} (h:d[n]?=some x):(d.map Node.iv)[n]?=some x.iv:=by rw[cn,h];rfl
def aaX (l:List Int) (i:Nat):(l.map xX)[i]?=(l[i]?).map xX:=cn ..
def agn {d:Doc} {f:Nat} {n p nx:Int} (h:n≠nx):wk d f n p nx=none:=by
 cases f with
 |zero=>rfl
 |succ f=>rw[wk,cY h]
def agN {d:Doc} {f:Nat} {n p nx:Int} (h:d[n.toNat]?=none):wk d f n p nx=none:=by
 cases f with
 |zero=>rfl
 |succ f=>rw[wk,h];simp
def agO {d:Doc} {f:Nat} {n p nx:Int} {x:Node} (h:d[n.toNat]?=some x) (hp:x.parent≠p):wk d f n p nx=none:=by
 cases f with
 |zero=>rfl
 |succ f=>rw[wk,h];simp[hp]
def ahA {P:Program} {G:Nat→Option (List IV)} {V3:Nat} (hF:aw P G V3=some (64,[(none,10)],(X7 V3).bare)) (d:Doc) (hd:d.length≤B) (hk:∀x∈d,x.kids.length≤B):∀(f:Nat) (n p nx:Int),f≤8→0≤nx→nx≤B →
  cR P G V3 [Doc.av d,.int .i64 n,.int .i64 p,.int .i64 (9 - (f:Int)),.ptr (.par 0) 1 0 0] [.int .i64 nx] fun x cs=>∃v,x= .bool (wk d f n p nx).isSome∧cs=[.int .i64 v]∧∀r,wk d f n p nx=some r→v=r:=by
 intro f;induction f with
 |zero=>
  intro n p nx hf h0 hB;refine dw hF (by simp) (by simp[ah,AV.an,Doc.av]) (by simp[ah,AV.an]) ?_;unfold X7;have hd9:decide ((9:Int) - ((0:Nat):Int)>8)=true:=by decide
  simp only[↓aX,mX,reduceCtorEq,Nat.reduceEqDiff,Nat.reduceLT,Nat.reduceLeDiff,Nat.reduceAdd,Nat.reduceMul,Int.reduceToNat,Int.reduceLE,Int.reduceLT,Doc.av,Oj];cases h1:(n !=nx) with
  |true=>
   simp only[↓aX,mX,reduceCtorEq,Nat.reduceEqDiff,Nat.reduceLT,Nat.reduceLeDiff,Nat.reduceAdd,Nat.reduceMul,Int.reduceToNat,Int.reduceLE,Int.reduceLT];exact⟨_,⟨nx,rfl,rfl,by simp[wk]⟩,rfl,rfl,rfl,rfl⟩
  |false=>
  have:n=nx:=by simpa using h1
  subst this;obtain⟨m,rfl⟩:∃m:Nat,n=m:=⟨n.toNat,by omega⟩;cases hx:d[m]? with
  |none=>
   have qS:decide ((m:Int)≥(d.length:Int))=true:=by
    have:=ow.1 hx;simp;omega
   simp only[↓aX,mX,reduceCtorEq,Nat.reduceEqDiff,Nat.reduceLT,Nat.reduceLeDiff,Nat.reduceAdd,Nat.reduceMul,Int.reduceToNat,Int.reduceLE,Int.reduceLT,bA,qS];exact⟨_,⟨m,rfl,rfl,by simp[wk]⟩,rfl,rfl,rfl,rfl⟩
  |some x=>
  have bI:=(bd.1 hx).1;have qS:decide ((m:Int)≥(d.length:Int))=false:=by simp;omega
  simp only[↓aX,mX,reduceCtorEq,Nat.reduceEqDiff,Nat.reduceLT,Nat.reduceLeDiff,Nat.reduceAdd,Nat.reduceMul,Int.reduceToNat,Int.reduceLE,Int.reduceLT,bA,qS,Doc.XF hx,Xx,Node.cJ,Node.cs];cases h2:(x.parent !=p) with
  |true=>
   simp only[↓aX,mX,reduceCtorEq,Nat.reduceEqDiff,Nat.reduceLT,Nat.reduceLeDiff,Nat.reduceAdd,Nat.reduceMul,Int.reduceToNat,Int.reduceLE,Int.reduceLT];exact⟨_,⟨m,rfl,rfl,by simp[wk]⟩,rfl,rfl,rfl,rfl⟩
  |false=>
  simp only[↓aX,mX,reduceCtorEq,Nat.reduceEqDiff,Nat.reduceLT,Nat.reduceLeDiff,Nat.reduceAdd,Nat.reduceMul,Int.reduceToNat,Int.reduceLE,Int.reduceLT,hd9];exact⟨_,⟨m,rfl,rfl,by simp[wk]⟩,rfl,rfl,rfl,rfl⟩
 |succ f ih=>
 intro n p nx hf h0 hB;refine dw hF (by simp) (by simp[ah,AV.an,Doc.av]) (by simp[ah,AV.an]) ?_;unfold X7;have hd9:decide ((9:Int) - ((f+1:Nat):Int)>8)=false:=by simp;omega
 have hw9:IntKind.i64.wrap ((9:Int) - ((f+1:Nat):Int)+1)=9 - (f:Int):=by rw[wrap64 (by omega) (by omega)];omega
 simp only[↓aX,mX,reduceCtorEq,Nat.reduceEqDiff,Nat.reduceLT,Nat.reduceLeDiff,Nat.reduceAdd,Nat.reduceMul,Int.reduceToNat,Int.reduceLE,Int.reduceLT,Doc.av,Oj];cases h1:(n !=nx) with
 |true=>
  have wL:n≠nx:=by simpa using h1
  simp only[↓aX,mX,reduceCtorEq,Nat.reduceEqDiff,Nat.reduceLT,Nat.reduceLeDiff,Nat.reduceAdd,Nat.reduceMul,Int.reduceToNat,Int.reduceLE,Int.reduceLT];exact⟨_,⟨nx,by rw[agn wL];rfl,rfl,by rw[agn wL];simp⟩,rfl,rfl,rfl,rfl⟩
 |false=>
 have:n=nx:=by simpa using h1
 subst this;obtain⟨m,rfl⟩:∃m:Nat,n=m:=⟨n.toNat,by omega⟩;cases hx:d[m]? with
 |none=>
  have qS:decide ((m:Int)≥(d.length:Int))=true:=by
   have:=ow.1 hx;simp;omega
  have ME:wk d (f+1) (m:Int) p (m:Int)=none:=agN (by simpa using hx);simp only[↓aX,mX,reduceCtorEq,Nat.reduceEqDiff,Nat.reduceLT,Nat.reduceLeDiff,Nat.reduceAdd,Nat.reduceMul,Int.reduceToNat,Int.reduceLE,Int.reduceLT,bA,qS];exact⟨_,⟨m,by rw[ME];rfl,rfl,by rw[ME];simp⟩,rfl,rfl,rfl,rfl⟩
 |some x=>
 have bI:=(bd.1 hx).1;have qS:decide ((m:Int)≥(d.length:Int))=false:=by simp;omega
 have UX:=hk x (dc hx);have JA:IntKind.i64.wrap ((m:Int)+1)=(m:Int)+1:=wrap64 (by omega) (by unfold B at hd;omega);simp only[↓aX,mX,reduceCtorEq,Nat.reduceEqDiff,Nat.reduceLT,Nat.reduceLeDiff,Nat.reduceAdd,Nat.reduceMul,Int.reduceToNat,Int.reduceLE,Int.reduceLT,bA,qS,Doc.XF hx,Xx,Node.cJ,Node.cs];cases h2:(x.parent !=p) with
 |true=>
  have ME:wk d (f+1) (m:Int) p (m:Int)=none:=agO (by simpa using hx) (by simpa using h2);simp only[↓aX,mX,reduceCtorEq,Nat.reduceEqDiff,Nat.reduceLT,Nat.reduceLeDiff,Nat.reduceAdd,Nat.reduceMul,Int.reduceToNat,Int.reduceLE,Int.reduceLT];exact⟨_,⟨m,by rw[ME];rfl,rfl,by rw[ME];simp⟩,rfl,rfl,rfl,rfl⟩
 |false=>
 have hp:x.parent=p:=by simpa using h2
 have g_:=afH (d:=d) (f:=f) (n:=m) (nx:=m) rfl (by simpa using hx) hp;simp only[↓aX,mX,reduceCtorEq,Nat.reduceEqDiff,Nat.reduceLT,Nat.reduceLeDiff,Nat.reduceAdd,Nat.reduceMul,Int.reduceToNat,Int.reduceLE,Int.reduceLT,hd9,JA,bA,Doc.XF hx,Xx,Node.cJ,Node.cs];refine ca (σ:={q:Nat×Int // q.1≤x.kids.length∧0≤q.2∧q.2≤d.length∧wk d (f+1) (m:Int) p (m:Int)=(x.kids.drop q.1).foldlM (fun q k=>wk d f k (m:Int) q) q.2}) [.par 0,.loc 5]
  (fun q=>[(1,.int .i64 m),(3,.int .i64 (9 - ((f+1:Nat):Int))),(4,.ptr (.par 0) 1 0 0),(5,.ptr (.loc 5) 1 0 0),(49,.list (x.kids.map xX)),(50,.int .i64 x.kids.length),(51,.int .i64 q.1.1)])
  (fun q=>[(.par 0,⟨1,[[.int .i64 q.1.2]]⟩),(.loc 5,⟨1,[[.list (d.map Node.iv)]]⟩)]) (fun q=>x.kids.length - q.1.1) ⟨(0,(m:Int)+1),by simp,by simp only;omega,by simp only;omega,by rw[g_];rfl⟩
  (fun _=>rfl) (by decide) (by simp[ah,AV.an]) (by simp[ah,AV.an]) ?_ ?_
 ·refine eL ?_ (by repeat' constructor) (by repeat' constructor);intro l hl hu;by_cases e:l= .par 0
  ·subst e;simp
  exfalso;apply hu;cases l<;>simp_all[Lb.fresh,ae,Hp.none]
 rintro⟨⟨i,q⟩,hi,KH,TF,hs⟩;simp only at hi KH TF hs;simp only[↓aX,mX,reduceCtorEq,Nat.reduceEqDiff,Nat.reduceLT,Nat.reduceLeDiff,Nat.reduceAdd,Nat.reduceMul,Int.reduceToNat,Int.reduceLE,Int.reduceLT,cF,bW];by_cases bI:i<x.kids.length
 ·obtain⟨k,HA⟩:∃k,x.kids[i]?=some k:=⟨_,bS bI⟩;have hw:IntKind.i64.wrap ((i:Int)+1)=((i+1:Nat):Int):=wrap64 (by omega) (by unfold B at UX;omega);rw[show decide ((i:Int)<(x.kids.length:Int))=true by simpa using bI];simp only[↓aX,mX,reduceCtorEq,Nat.reduceEqDiff,Nat.reduceLT,Nat.reduceLeDiff,Nat.reduceAdd,Nat.reduceMul,Int.reduceToNat,Int.reduceLE,Int.reduceLT,aaX,HA,YN,bA,bT,xX,IV.cells,hw9];refine bj (l:= .par 0) (ih k m q (by omega) KH (by unfold B at hd ⊢;omega)) rfl (by simp only[↓aX,mX,reduceCtorEq,Nat.reduceEqDiff,Nat.reduceLT,Nat.reduceLeDiff,Nat.reduceAdd,Nat.reduceMul,Int.reduceToNat,Int.reduceLE,Int.reduceLT];try rfl) ?_
  rintro x1 dF ⟨v,rfl,rfl,hv⟩ _ _ _;have hdr:x.kids.drop i=k::x.kids.drop (i+1):=drop_eq HA;rw[hdr,Oe] at hs;cases hr:wk d f k m q with
  |none=>
   rw[hr] at hs;simp only[NV,Option.bind_none] at hs;simp only[↓aX,mX,reduceCtorEq,Nat.reduceEqDiff,Nat.reduceLT,Nat.reduceLeDiff,Nat.reduceAdd,Nat.reduceMul,Int.reduceToNat,Int.reduceLE,Int.reduceLT,Mt,fj];exact⟨_,⟨v,by rw[hs];rfl,rfl,by rw[hs];simp⟩,rfl,rfl,rfl,rfl⟩
  |some r=>
  have hvr:=hv r hr;subst hvr;rw[hr] at hs;simp only[NV,eQ] at hs;have hb:=aee KH hr;simp only[↓aX,mX,reduceCtorEq,Nat.reduceEqDiff,Nat.reduceLT,Nat.reduceLeDiff,Nat.reduceAdd,Nat.reduceMul,Int.reduceToNat,Int.reduceLE,Int.reduceLT,N0,ib,hw];refine⟨⟨(i+1,v),bI,by simp only;omega,by simp only;omega,hs⟩,by simp only;omega,eL ?_ (by repeat' constructor) (by repeat' constructor)⟩;intro l hl hu;by_cases e:l= .par 0
  ·subst e;simp
  exfalso;apply hu;cases l<;>simp_all[Lb.fresh,ae,Hp.none]
 have XV:i=x.kids.length:=by omega
 subst XV;rw[Of] at hs;simp only[List.foldlM_nil] at hs;rw[show decide ((x.kids.length:Int)<(x.kids.length:Int))=false by simp];simp only[↓aX,mX,reduceCtorEq,Nat.reduceEqDiff,Nat.reduceLT,Nat.reduceLeDiff,Nat.reduceAdd,Nat.reduceMul,Int.reduceToNat,Int.reduceLE,Int.reduceLT];exact⟨_,⟨q,by rw[hs];rfl,rfl,by rw[hs];rintro r h;cases h;rfl⟩,rfl,rfl,rfl,rfl⟩
end Go.Am
