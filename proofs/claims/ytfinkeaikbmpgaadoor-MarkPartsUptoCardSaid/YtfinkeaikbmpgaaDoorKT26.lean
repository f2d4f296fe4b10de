import Derived.Test.YtfinkeaikbmpgaaDoorKT21
import Derived.Test.YtfinkeaikbmpgaaDoorKD2
set_option linter.unusedSimpArgs false
set_option linter.unusedVariables false
set_option linter.unnecessarySimpa false
set_option linter.defProp false
/- The size of a tree, level by level; what is a tree, what is content. -/
namespace Go.Am
open Go Go.RowKit
def ym (sz b d k:Nat) (xs ys:List IV) {n:Nat} {H:Hp} (hl:H (.loc k)= .live ⟨sz,aB xs⟩) (hn:xs.length=n) (he:jV sz ys) (hf:Flat ys) (hb:(n+ys.length)*b≤140737488355328) (h0:0<b)
  (fO:k≠d) (hu:H (.loc d)= .unused) :
  jN sz b d (.sl (.loc k) sz 0 n) (.list ys) H=some (.sl (.loc d) sz 0 (n+ys.length),bD (bD H (.loc k) .dead) (.loc d) (.live ⟨sz,aB (xs++ys)⟩)):=by
 have h1:(aB xs).length=n:=by rw[lQ,hn]
 rw[s_ (l:= .loc k) (els:=aB xs) hl (by omega) he hf hb h0 (by simpa[Lb.app,Lb.fresh] using fO) (by simpa[Lb.app,Lb.fresh] using hu)];simp only[Lb.app,Lb.fresh,Vp];rw[Vq (by omega),lR]
def eR:AC:=
(aM [sC 1 0,gH 2 0,gH 3 0] (aM [gH 4 0,gH 5 0] (.seq (aM [gz 10 4 1,aQ 11 (.lits 1 4 [(.bool false),(.str []),.nil0,.nil0] [(0,(.t 10))]),MR 6 11] (.block 0 (.loop (.seq (aM [MR 12 6,oy 13 12,eY 14 .gtr 13 0] (.cond (.t 14) .skip (.exit 0))) (.block 1 (aM [MR 15 4,eY 16 .add 15 1,MR 4 16] (aM [MR 17 5,MR 18 6,oy 19 18,et 20 .add 17 19,MR 5 20] (aM [zi 7] (.gh (.own 7 4) (.seq (aM [MR 21 6,oy 22 21,gH 23 0] (.block 2 (.loop (aM [et 24 .lss 23 22] (.seq (.cond (.t 24) .skip (.exit 2)) (.seq (.block 3 (aM [jL 25 21 23 4,gz 26 4 25,aQ 9 (.new [(.bool false),(.str []),.nil0,.nil0]),gg (.store 4 (.t 9) (.t 26))] (.cq [MR 27 7,ep 28 9 3,fm 29 28,aQ 30 (.app (.t 27) (.t 29) 4 72),MR 7 30]))) (.cq [eY 31 .add 23 1,MR 23 31]))))))) (.gh (.zS (.loc 7) 7) (.cq [MR 32 7,MR 6 32])))))))))))) (aM [MR 33 4,MR 34 5,MR 2 33,MR 3 34] .ret))))
def A_ {P:Program} {G:Nat→Option (List IV)} {bX:Nat} (hF:aw P G bX=some (35,[(none,2),(none,3)],eR.bare)) (x:Tree) (hx:x.wt≤B) :
  au P G bX [x.av] (.gf [.int .i64 x.dep,.int .i64 x.jz]):=by
 refine aR hF (by simp) (by simp[ah,AV.an,Tree.av]) (by simp[AV.an,ah]) ?_;unfold eR;have D1:[x.iv]=dq [x]:=by simp[dq]
 have wT:[IV.agg [.bool x.text,.str x.s,.list (cD x.attrs),.list (dq x.kids)]]=dq [x]:=by rw[←D1,x.o_];rfl
 simp only[↓aX,mX,reduceCtorEq,Nat.reduceEqDiff,Nat.reduceLT,Nat.reduceLeDiff,Nat.reduceAdd,Nat.reduceMul,Int.reduceToNat,Int.reduceLE,Int.reduceLT,Tree.av,wT];have zo:B=1073741824:=rfl;have hd:=x.td;have Mt:=x.xV;refine kk (σ:={q:Nat×Nat×List Tree // q.1+fB q.2.2=x.dep∧q.2.1+dP q.2.2=x.jz∧dE q.2.2≤B}) (fun q=>[(4,.int .i64 q.1.1),(5,.int .i64 q.1.2.1),(6,.list (dq q.1.2.2))]) (fun q=>dP q.1.2.2) ⟨(0,0,[x]),by simp[fB,dP,dE,hx]⟩ (fun _=>rfl) ?_ ?_
 ·exact⟨by simp only[↓aX,mX,reduceCtorEq,Nat.reduceEqDiff,Nat.reduceLT,Nat.reduceLeDiff,Nat.reduceAdd,Nat.reduceMul,Int.reduceToNat,Int.reduceLE,Int.reduceLT],by repeat' constructor⟩
 rintro⟨⟨d,c,xs⟩,h1,h2,h3⟩;simp only at h1 h2 h3;simp only[↓aX,mX,reduceCtorEq,Nat.reduceEqDiff,Nat.reduceLT,Nat.reduceLeDiff,Nat.reduceAdd,Nat.reduceMul,Int.reduceToNat,Int.reduceLE,Int.reduceLT,bF];by_cases hn:xs=[]
 ·subst hn;simp only[fB,dP,Xj] at h1 h2;simp only[VR,show decide (((0:Nat):Int)>0)=false from rfl,↓aX,mX,reduceCtorEq,Nat.reduceEqDiff,Nat.reduceLT,Nat.reduceLeDiff,Nat.reduceAdd,Nat.reduceMul,Int.reduceToNat,Int.reduceLE,Int.reduceLT,h1,h2,↓h_]
 have xg:0<xs.length:=Wz.2 hn;have BR:=eZ xs;have pU:IntKind.i64.wrap ((d:Int)+1)=((d+1:Nat):Int):=wrap64 (by omega) (by omega);have wB:IntKind.i64.wrap ((c:Int)+(xs.length:Int))=((c+xs.length:Nat):Int):=by
  have:=kt xs;exact wrap64 (by omega) (by omega)
 simp only[show decide ((xs.length:Int)>0)=true by simpa using xg,↓aX,mX,reduceCtorEq,Nat.reduceEqDiff,Nat.reduceLT,Nat.reduceLeDiff,Nat.reduceAdd,Nat.reduceMul,Int.reduceToNat,Int.reduceLE,Int.reduceLT,bF,pU,wB];refine xL (σ:={i:Nat // i≤xs.length}) 7 4 (fun q=>[(4,.int .i64 ((d+1:Nat):Int)),(5,.int .i64 ((c+xs.length:Nat):Int)),(21,.list (dq xs)),(22,.int .i64 xs.length),(23,.int .i64 q.1)]) (fun q=>dq (fj (xs.take q.1))) (fun q=>xs.length - q.1) ⟨0,by simp⟩ (fun _=>rfl) ?_ ?_
 ·simp only[Gi,↓aX,mX,reduceCtorEq,Nat.reduceEqDiff,Nat.reduceLT,Nat.reduceLeDiff,Nat.reduceAdd,Nat.reduceMul,Int.reduceToNat,Int.reduceLE,Int.reduceLT];exact⟨rfl,7,[],rfl,rfl,rfl⟩
 rintro⟨i,hi⟩;have Mu:=l3 xs;have Mv:dE (fj (xs.take i))≤dE xs:=Wf (by have:=l3 (xs.take i);omega) (lV xs i);have ve:=eZ (fj (xs.take i));simp only[↓aX,mX,reduceCtorEq,Nat.reduceEqDiff,Nat.reduceLT,Nat.reduceLeDiff,Nat.reduceAdd,Nat.reduceMul,Int.reduceToNat,Int.reduceLE,Int.reduceLT,bF];by_cases bI:i<xs.length
 ·obtain⟨y,hy⟩:∃y,xs[i]?=some y:=⟨_,U' bI⟩;have hw:IntKind.i64.wrap ((i:Int)+1)=((i+1:Nat):Int):=wrap64 (by omega) (by omega);have gr:fj (xs.take (i+1))=fj (xs.take i)++y.kids:=by rw[V2,hy];simp[fj]
  have Jb:dE (fj (xs.take (i+1)))≤dE xs:=Wf (by have:=l3 (xs.take (i+1));omega) (lV xs (i+1));rw[gr,kn] at Jb;have Hm:=eZ y.kids;simp only[show decide ((i:Int)<(xs.length:Int))=true by simpa using bI,↓aX,mX,reduceCtorEq,Nat.reduceEqDiff,Nat.reduceLT,Nat.reduceLeDiff,Nat.reduceAdd,Nat.reduceMul,Int.reduceToNat,Int.reduceLE,Int.reduceLT,iy,hy,lT,Tree.cJ,Tree.cs];rw[ym 4 72 30 7 (dq (fj (xs.take i))) (dq y.kids) (by simp[ae]) (by rw[bF]) (lT _) (pa _) (by have:=bF y.kids;have:=bF (fj (xs.take i));omega) (by decide) (by decide) (by simp[ae,Hp.none])];simp only[↓aX,mX,reduceCtorEq,Nat.reduceEqDiff,Nat.reduceLT,Nat.reduceLeDiff,Nat.reduceAdd,Nat.reduceMul,Int.reduceToNat,Int.reduceLE,Int.reduceLT,hw];refine⟨⟨i+1,bI⟩,by simp only;omega,?_⟩;refine Gj 30 (by simp only[↓aX,mX,reduceCtorEq,Nat.reduceEqDiff,Nat.reduceLT,Nat.reduceLeDiff,Nat.reduceAdd,Nat.reduceMul,Int.reduceToNat,Int.reduceLE,Int.reduceLT]) ⟨rfl,rfl,rfl,rfl,rfl,trivial⟩ ?_ ?_
  ·simp only[↓aX,mX,reduceCtorEq,Nat.reduceEqDiff,Nat.reduceLT,Nat.reduceLeDiff,Nat.reduceAdd,Nat.reduceMul,Int.reduceToNat,Int.reduceLE,Int.reduceLT,gr,qh,Vw,bF]
  simp only[↓aX,mX,reduceCtorEq,Nat.reduceEqDiff,Nat.reduceLT,Nat.reduceLeDiff,Nat.reduceAdd,Nat.reduceMul,Int.reduceToNat,Int.reduceLE,Int.reduceLT,gr,qh]
 have oI:i=xs.length:=by omega
 subst oI;simp only[show decide ((xs.length:Int)<(xs.length:Int))=false by simp,↓aX,mX,reduceCtorEq,Nat.reduceEqDiff,Nat.reduceLT,Nat.reduceLeDiff,Nat.reduceAdd,Nat.reduceMul,Int.reduceToNat,Int.reduceLE,Int.reduceLT];refine⟨4,dq (fj (xs.take xs.length)),0,_,rfl,rfl,by simp,pa _,?_⟩;simp only[↓aX,mX,reduceCtorEq,Nat.reduceEqDiff,Nat.reduceLT,Nat.reduceLeDiff,Nat.reduceAdd,Nat.reduceMul,Int.reduceToNat,Int.reduceLE,Int.reduceLT,VS,VU];refine⟨⟨(d+1,c+xs.length,fj xs),?_,?_,?_⟩,?_,?_⟩
 ·have:=ph xs hn;simp only;omega
 ·have:=kt xs;simp only;omega
 ·simp only;omega
 ·have:=kt xs;simp only;omega
 exact⟨by simp only[↓aX,mX,reduceCtorEq,Nat.reduceEqDiff,Nat.reduceLT,Nat.reduceLeDiff,Nat.reduceAdd,Nat.reduceMul,Int.reduceToNat,Int.reduceLE,Int.reduceLT],by repeat' constructor⟩
def eS (bX bA:Nat):AC:=
(aM [sC 1 0,jM 2 false] (aM [gz 6 4 1,aQ 7 (.call bX [(.t 6)]),MR 5 7,ox 8 5 0,ox 9 5 1,MR 3 8,MR 4 9] (aM [ep 10 1 0,fm 11 10,sB 12 11,MR 13 12,cU 14 13 3,dW 15 13 (.bin .lss (.t 14) (jS 9)),jT 16 13 15,MR 17 16,cU 18 17 4,dW 19 17 (.bin .lss (.t 18) (jS 81)),jT 20 17 19,MR 21 20,dW 22 21 (.load (some 4) (.t 1)),dW 23 21 (.lits 1 4 [(.bool false),(.str []),.nil0,.nil0] [(0,(.t 22))]),dW 24 21 (.call bA [(.t 23)]),jT 25 21 24,MR 2 25] .ret)))
def Ba {P:Program} {G:Nat→Option (List IV)} {bY bX bA:Nat} (hF:aw P G bY=some (26,[(none,2)],(eS bX bA).bare)) (x:Tree)
  (hS:au P G bX [x.av] (.gf [.int .i64 x.dep,.int .i64 x.jz])) (hR:au P G bA [.list (dq [x])] (.bool (bQ none [x]))) :
  au P G bY [x.av] (.bool x.d_):=by
 refine aR hF (by simp) (by simp[ah,AV.an,Tree.av]) (by simp[AV.an]) ?_;unfold eS;have wT:[IV.agg [.bool x.text,.str x.s,.list (cD x.attrs),.list (dq x.kids)]]=dq [x]:=by simp only[dq,x.o_];rfl
 have hf:bQ none [x]=x.fu:=by simp[bQ]
 simp only[↓aX,mX,seval,Tree.av];refine ay hS ?_;simp only[↓aX,mX,seval];cases ht:x.text with
 |true=>
  have:x.d_=false:=by
   cases hg:x.d_ with
   |false=>rfl
   |true=>have:=(ia x).1 hg;rw[ht] at this;simp at this
  simp only[↓aX,mX,seval,Vh,this]
 |false=>
 simp only[↓aX,mX,seval,Ve];cases h1:decide ((x.dep:Int)<9) with
 |false=>
  have:x.d_=false:=by
   cases hg:x.d_ with
   |false=>rfl
   |true=>have:=(ia x).1 hg;have:=XO h1;omega
  simp only[↓aX,mX,seval,this]
 |true=>
 simp only[↓aX,mX,seval];cases h2:decide ((x.jz:Int)<81) with
 |false=>
  have:x.d_=false:=by
   cases hg:x.d_ with
   |false=>rfl
   |true=>have:=(ia x).1 hg;have:=XO h2;omega
  simp only[↓aX,mX,seval,this]
 |true=>
 simp only[↓aX,mX,seval];rw[←ht,wT];refine ay hR ?_;have Mw:=W1 h1;have Mx:=W1 h2;have:x.d_=x.fu:=by
  rw[VY,ia];constructor
  ·exact fun h=>h.2.2.2
  exact fun h=>⟨ht,by omega,by omega,h⟩
 simp only[↓aX,mX,seval,hf,this]
def Nw (bX bA:Nat):AC:=
(aM [jM 2 false] (aM [gH 3 0] (.seq (aM [MR 8 0,oy 9 8,gH 10 0] (.block 0 (.loop (aM [et 11 .lss 10 9] (.seq (.cond (.t 11) .skip (.exit 0)) (.seq (.block 1 (aM [jL 12 8 10 4,gz 13 4 12,aQ 5 (.new [(.bool false),(.str []),.nil0,.nil0]),gg (.store 4 (.t 5) (.t 13))] (aM [gz 15 4 5,aQ 16 (.call bX [(.t 15)]),MR 14 16,ox 17 14 0,ox 18 14 1,MR 6 17,MR 7 18] (aM [MR 19 3,MR 20 7,et 21 .add 19 20,MR 3 21] (aM [MR 22 6,eY 23 .gtr 22 8] (.cond (.t 23) (aM [jM 2 false] .ret) .skip)))))) (.cq [eY 24 .add 10 1,MR 10 24]))))))) (aM [MR 25 3,eY 26 .leq 25 80,MR 27 26,cU 28 27 0,dW 29 27 (.call bA [(.t 28)]),jT 30 27 29,MR 2 30] .ret))))
def QQ {P:Program} {G:Nat→Option (List IV)} {M4 bX bA:Nat} (hF:aw P G M4=some (31,[(none,2)],(Nw bX bA).bare)) (l:List Tree) (hx:dE l≤B)
  (hS:∀x∈l,au P G bX [x.av] (.gf [.int .i64 x.dep,.int .i64 x.jz])) (hR:au P G bA [.list (dq l)] (.bool (bQ none l))) :
  au P G M4 [.list (dq l)] (.bool (content l)):=by
 refine aR hF (by simp) (by simp[ah,AV.an]) (by simp[AV.an]) ?_;unfold Nw;have zo:B=1073741824:=rfl;have hl:=eZ l;simp only[↓aX,mX,seval,bF];refine kk (σ:={i:Nat // i≤l.length∧(l.take i).all (fun x=>decide (x.dep≤8))=true}) (fun q=>[(0,.list (dq l)),(3,.int .i64 (dP (l.take q.1))),(8,.list (dq l)),(9,.int .i64 l.length),(10,.int .i64 q.1)]) (fun q=>l.length - q.1) ⟨0,by simp⟩ (fun _=>rfl) ?_ ?_
 ·exact⟨by simp only[↓aX,mX,seval],by repeat' constructor⟩
 rintro⟨i,hi,hs⟩;simp only[↓aX,mX,seval,bF];refine AU (fun h=> ?_) (fun h=> ?_)
 ·have bI:i<l.length:=by simpa using h
  obtain⟨x,Ja⟩:∃x,l[i]?=some x:=⟨_,U' bI⟩;have hw:IntKind.i64.wrap ((i:Int)+1)=((i+1:Nat):Int):=wrap64 (by omega) (by unfold B at hx;omega);have h2:=lV l i;have h3:=ql (l.take i);have h5:=jx _ _ _ Ja;have h6:=x.td;have h1:l.take (i+1)=l.take i++[x]:=by rw[V2,Ja];rfl
  have hc:IntKind.i64.wrap ((dP (l.take i):Int)+(x.jz:Int))=((dP (l.take (i+1)):Nat):Int):=by
   rw[wrap64 (by omega) (by unfold B at hx;omega),h1,lU];simp[dP]
  simp only[↓aX,mX,seval,iy,Ja,lT,Tree.cJ,Tree.cs];refine ay (hS x (U_ Ja)) ?_;simp only[↓aX,mX,seval];refine AU (fun h9=> ?_) (fun h9=> ?_)
  ·simp only[↓aX,mX,seval];have:l.all (fun x=>decide (x.dep≤8))=false:=by
    rw[Xq];intro dN;have:=Vx.1 dN x (U_ Ja);simp at this h9;omega
   rw[content,this];rfl
  simp only[↓aX,mX,seval,hw,hc];refine⟨⟨i+1,bI,?_⟩,by simp only;omega,by simp only[↓aX,mX,seval],by repeat' constructor⟩;rw[h1,YB,hs];simp at h9 ⊢;omega
 have oI:i=l.length:=by simp at h;omega
 subst oI;rw[VS] at hs;simp only[↓aX,mX,seval,VS];cases h9:decide ((dP l:Int)≤80) with
 |true=>
  simp only[↓aX,mX,seval];refine ay hR ?_;simp only[↓aX,mX,seval];have:decide (dP l≤80)=true:=by simp at h9 ⊢;omega
  rw[content,hs,this];rfl
 |false=>
 simp only[↓aX,mX,seval];have:decide (dP l≤80)=false:=by simp at h9 ⊢;omega
 rw[content,hs,this];rfl

mutual
def Py (X:Lb→Option (Nat×List IV)):AV→AV
 | .sl l sz i n=>match X l with
  |some (s,xs)=>if s=sz∧i+n≤xs.length then .list ((xs.drop i).take n) else .sl l sz i n
  |none=> .sl l sz i n
 | .agg cs=> .agg (Ol X cs)
 | .gf cs=> .gf (Ol X cs)
 |x=>x
def Ol (X:Lb→Option (Nat×List IV)):List AV→List AV
 |[]=>[]
 |x::r=>Py X x::Ol X r
end
def Pz (X:Lb→Option (Nat×List IV)) (H:Hp):Hp:=fun l=>match X l with
 |some _=> .dead
 |none=>match H l with
  | .live r=> .live ⟨r.sz,r.els.map (Ol X)⟩
  |s=>s
theorem Qn (X:Lb→Option (Nat×List IV)):∀xs,(Ol X xs).length=xs.length
 |[]=>rfl
 |x::r=>by simp[Ol,Qn X r]
theorem Qo (X:Lb→Option (Nat×List IV)):∀(xs:List AV) (i:Nat),(Ol X xs)[i]?=xs[i]?.map (Py X)
 |[],i=>by simp[Ol]
 |x::r,0=>by simp[Ol]
 |x::r,i+1=>by simp[Ol,Qo X r]
mutual
theorem Rq (X:Lb→Option (Nat×List IV)):∀(x:AV) (l:Lb),l∈(Py X x).an→l∈x.an
 | .sl q sz i n,l,h=>by
  simp only[Py] at h;split at h
  ·split at h
   ·simp[AV.an] at h
   exact h
  exact h
 | .agg cs,l,h=>by simp only[Py,AV.an] at h ⊢;exact O3 X cs l h
 | .gf cs,l,h=>by simp only[Py,AV.an] at h ⊢;exact O3 X cs l h
 | .slk ..,l,h| .ptr ..,l,h| .any,l,h| .un,l,h| .bool _,l,h| .int ..,l,h| .str _,l,h| .list _,l,h| .jK,l,h| .nil0,l,h| .iT,l,h| .lptr _,l,h| .fn ..,l,h| .ifc ..,l,h| .mis _,l,h=>h
theorem O3 (X:Lb→Option (Nat×List IV)):∀(xs:List AV) (l:Lb),l∈ah (Ol X xs)→l∈ah xs
 |[],l,h=>h
 |x::r,l,h=>by
  simp only[Ol,ah,Vi] at h ⊢;exact h.imp (Rq X x l) (O3 X r l)
end
def O4 {X:Lb→Option (Nat×List IV)} {H:Hp} {l:Lb} {r:Row} (h:Pz X H l= .live r):X l=none∧∃r0,H l= .live r0∧r=⟨r0.sz,r0.els.map (Ol X)⟩:=by
 unfold Pz at h;split at h
 ·cases h
 rename_i e;split at h
 ·rename_i r0 h0;simp only[Slot.live.injEq] at h;exact⟨e,r0,h0,h.symm⟩
 rename_i hn;exact absurd h (hn r)
def PA {X:Lb→Option (Nat×List IV)} {H:Hp} {l:Lb} (h:H l≠ .unused):Pz X H l≠ .unused:=by
 unfold Pz;split
 ·simp
 split
 ·simp
 exact h
section
variable {K:Kx} {β:Lb→Option Nat} {env:Env} {H:Hp} {a:Act} {w:World} {X:Lb→Option (Nat×List IV)}
def OB (l:Lb) (h:live (Pz X H) l):live H l:=by
 obtain⟨r,h⟩:=h;obtain⟨_,r0,h0,_⟩:=O4 h;exact⟨r0,h0⟩
def O5 (ls:List Lb):ND w w β β H (Pz X H) (Im K β H) (Im K β (Pz X H)) ls:=
 ⟨⟨fun k hk hs=>⟨⟨hk.1,fun l hl=>hk.2 l (OB l hl)⟩,hs,rfl⟩⟩,fun l _ hl=>⟨OB l hl,rfl,fun _ _ _ h=>h⟩⟩
mutual
theorem R2 (hr:aH K β env H a w) (hX:∀l sz xs,X l=some (sz,xs)→H l= .live ⟨sz,aB xs⟩∧l.fresh=true∧Flat xs):∀(x:AV) (v:Value),RV w β H (Im K β H) x v→RV w β (Pz X H) (Im K β (Pz X H)) (Py X x) v
 | .sl l sz i n,v,h=>by
  simp only[Py];split
  ·rename_i s xs e;split
   ·rename_i hc;obtain⟨rfl,qB⟩:=hc;obtain⟨h1,h2,h3⟩:=hX l _ _ e;have h4:=xf hr h1 h2 qB h3 h;simp only[RV] at h4 ⊢;refine NN.mono ⟨fun k hk hs=>⟨⟨hk.1,fun q hq=>hk.2 q ?_⟩,hs,rfl⟩⟩ _ _ h4;obtain⟨r,hq⟩:=hq;obtain⟨q1,r0,q2,_⟩:=O4 hq;refine⟨r0,?_⟩;rw[aq _ _ (by rintro rfl;rw[e] at q1;cases q1)];exact q2
   exact RV.mono _ _ (O5 _) h
  exact RV.mono _ _ (O5 _) h
 | .agg cs,v,h=>by
  simp only[Py,RV] at h ⊢;obtain⟨vs,rfl,h1⟩:=h;exact⟨vs,rfl,QR hr hX cs vs h1⟩
 | .gf cs,v,h=>by
  simp only[Py,RV] at h ⊢;obtain⟨vs,rfl,h1⟩:=h;exact⟨vs,rfl,QR hr hX cs vs h1⟩
 | .slk ..,v,h| .ptr ..,v,h| .any,v,h| .un,v,h| .bool _,v,h| .int ..,v,h| .str _,v,h| .list _,v,h| .jK,v,h| .nil0,v,h| .iT,v,h| .lptr _,v,h| .fn ..,v,h| .ifc ..,v,h| .mis _,v,h=>RV.mono _ _ (O5 _) h
theorem QR (hr:aH K β env H a w) (hX:∀l sz xs,X l=some (sz,xs)→H l= .live ⟨sz,aB xs⟩∧l.fresh=true∧Flat xs):∀(xs:List AV) (vs:List Value),br w β H (Im K β H) xs vs→br w β (Pz X H) (Im K β (Pz X H)) (Ol X xs) vs
 |[],vs,h=>h
 |x::r,vs,h=>by
  simp only[Ol,br] at h ⊢;obtain⟨v,us,rfl,h1,h2⟩:=h;exact⟨v,us,rfl,R2 hr hX x v h1,QR hr hX r us h2⟩
end
def aH.fz (hr:aH K β env H a w) (hX:∀l sz xs,X l=some (sz,xs)→H l= .live ⟨sz,aB xs⟩∧l.fresh=true∧Flat xs) {env2:Env} (he:∀n,env2 n= .any∨env2 n=Py X (env n)):aH K β env2 (Pz X H) a w where
 defers:=hr.defers
 size:=hr.size
 N8 n:=by
  rcases he n with e|e
  ·rw[e];simp[RV]
  rw[e];exact R2 hr hX _ _ (hr.N8 n)
 rows l r hl:=by
  obtain⟨_,r0,h0,rfl⟩:=O4 hl;obtain⟨h1,h2,h3⟩:=hr.rows l r0 h0;refine⟨h1,?_,?_⟩
  ·intro cs bV;obtain⟨c0,BZ,rfl⟩:=VC.1 bV;rw[Qn];exact h2 c0 BZ
  cases hb:β l with
  |none=>rw[hb] at h3;simp only at h3;simp[h3]
  |some g=>
  rw[hb] at h3;simp only at h3 ⊢;obtain⟨cur,e,cap,e1,e2,e3,e4,e5⟩:=h3;refine⟨cur,e,cap,e1,e2,e3,by simpa using e4,?_⟩;intro i j cs x hi hj;rw[VL,oA] at hi;obtain⟨c0,hi,rfl⟩:=hi;rw[Qo,oA] at hj;obtain⟨x0,hj,rfl⟩:=hj;obtain⟨v,k1,k2⟩:=e5 i j c0 x0 hi hj;exact⟨v,k1,R2 hr hX _ _ k2⟩
 own l g hl:=hr.own l g (OB l hl)
 inj l l' g hl kR:=hr.inj l l' g (OB l hl) (OB l' kR)
 eI n l hl:=by
  rcases he n with e|e
  ·rw[e] at hl;simp[AV.an] at hl
  rw[e] at hl;exact PA (hr.eI n l (Rq X _ l hl))
 cH l r hl cs bV q hq:=by
  obtain⟨_,r0,h0,rfl⟩:=O4 hl;obtain⟨c0,BZ,rfl⟩:=VC.1 bV;exact PA (hr.cH l r0 h0 c0 BZ q (O3 X _ q hq))
 frame:=hr.frame
 fo g cs hg:=by
  obtain⟨h1,h2,h3⟩:=hr.fo g cs hg;have hk:=(O5 (K:=K) (β:=β) (H:=H) (X:=X) (w:=w) []).tofv;exact⟨(hk.im g h1 h2).1,h2,da.mono hk h1 h2 h3⟩
 gA l hl:=⟨PA (hr.gA l hl).1,fun h=>(hr.gA l hl).2 (OB l h)⟩
 fr l g hl:=hr.fr l g (OB l hl)
end
def Rz {S:St} {env:Env} {H:Hp} (X:Lb→Option (Nat×List IV)) (hX:∀l sz xs,X l=some (sz,xs)→H l= .live ⟨sz,aB xs⟩∧l.fresh=true∧Flat xs) {env2:Env}
  (he:∀n,env2 n= .any∨env2 n=Py X (env n)):nQ S env H env2 (Pz X H):=
 fun K β a w _ _ hr=>⟨β,hr.fz hX he⟩
def nQ.trans {S:St} {env env2 GD:Env} {H H2 H3:Hp} (h1:nQ S env H env2 H2) (h2:nQ S env2 H2 GD H3):nQ S env H GD H3:=fun K β a w e hf hr=>by
 obtain⟨β',lz⟩:=h1 K β a w e hf hr;exact h2 K β' a w e hf lz
def PB {X:Lb→Option (Nat×List IV)} {H:Hp} {l:Lb} {r:Row} (h:X l=none) (hl:H l= .live r):Pz X H l= .live ⟨r.sz,r.els.map (Ol X)⟩:=by simp[Pz,h,hl]
def PC (X:Lb→Option (Nat×List IV)):Ol X []=[]:=rfl
def Pb (X:Lb→Option (Nat×List IV)) (x:AV) (r:List AV):Ol X (x::r)=Py X x::Ol X r:=rfl
def S8 {X:Lb→Option (Nat×List IV)} {l:Lb} {sz n:Nat} {xs:List IV} (h:X l=some (sz,xs)) (hn:n=xs.length):Py X (.sl l sz 0 n)= .list xs:=by
 subst hn;simp[Py,h]
mutual
theorem R3 (X:Lb→Option (Nat×List IV)):∀x:AV,x.an=[]→Py X x=x
 | .sl ..,h| .slk ..,h| .ptr ..,h=>by simp[AV.an] at h
 | .any,_| .un,_| .bool _,_| .int ..,_| .str _,_| .list _,_| .nil0,_| .jK,_| .iT,_| .lptr _,_| .fn ..,_| .ifc ..,_| .mis _,_=>rfl
 | .agg cs,h=>by simp only[AV.an] at h;simp[Py,OR X cs h]
 | .gf cs,h=>by simp only[AV.an] at h;simp[Py,OR X cs h]
theorem OR (X:Lb→Option (Nat×List IV)):∀xs:List AV,ah xs=[]→Ol X xs=xs
 |[],_=>rfl
 |x::r,h=>by simp only[ah,WB] at h;simp[Ol,R3 X x h.1,OR X r h.2]
end
def R4 (X:Lb→Option (Nat×List IV)) (xs:List IV):(aB xs).map (Ol X)=aB xs:=by
 conv=>rhs;rw[←List.map_id (aB xs)]
 exact VO fun cs bV=>OR X cs (bU bV)
def O6 (g:Lb→AV→AV) (H:Hp):Hp:=fun l=>match H l with
 | .live r=> .live ⟨r.sz,r.els.map fun cs=>cs.map (g l)⟩
 |s=>s
def Pc {g:Lb→AV→AV} {H:Hp} {l:Lb} {r:Row} (h:O6 g H l= .live r):∃r0,H l= .live r0∧r=⟨r0.sz,r0.els.map fun cs=>cs.map (g l)⟩:=by
 unfold O6 at h;split at h
 ·rename_i r0 h0;simp only[Slot.live.injEq] at h;exact⟨r0,h0,h.symm⟩
 rename_i hn;exact absurd h (hn r)
def Pd {g:Lb→AV→AV} {H:Hp} {l:Lb} (h:H l≠ .unused):O6 g H l≠ .unused:=by
 unfold O6;split
 ·simp
 exact h
def Ou {g:Lb→AV→AV} {H:Hp} (l:Lb):live (O6 g H) l↔live H l:=by
 constructor
 ·rintro⟨r,h⟩;obtain⟨r0,h0,_⟩:=Pc h;exact⟨r0,h0⟩
 rintro⟨r,h⟩;exact⟨_,by unfold O6;rw[h]⟩
theorem Qp {f:AV→AV} (hf:∀x q,q∈(f x).an→q∈x.an):∀(cs:List AV) (q:Lb),q∈ah (cs.map f)→q∈ah cs
 |[],q,h=>h
 |x::r,q,h=>by
  simp only[VE,ah,Vi] at h ⊢;exact h.imp (hf x q) (Qp hf r q)
def QS {S:St} {env:Env} {H:Hp} (g:Lb→AV→AV) (hg:∀l x (w:World) (β:Lb→Option Nat) (H:Hp) (I:Nat→Prop) v,RV w β H I x v→RV w β H I (g l x) v) (hl:∀l x q,q∈(g l x).an→q∈x.an) :
  nQ S env H env (O6 g H):=by
 intro K β a w _ _ hr;have EN:∀k,Im K β (O6 g H) k↔Im K β H k:=by
  intro k;simp only[Im,Ou]
 have cX:∀ls,ND w w β β H (O6 g H) (Im K β H) (Im K β (O6 g H)) ls:=fun ls=>
  ⟨⟨fun k hk hs=>⟨(EN k).2 hk,hs,rfl⟩⟩,fun l _ hl=>⟨(Ou l).1 hl,rfl,fun _ _ _ h=>h⟩⟩
 refine⟨β,⟨hr.defers,hr.size,fun n=>RV.mono _ _ (cX _) (hr.N8 n),?_,fun l g0 h=>hr.own l g0 ((Ou l).1 h),fun l l' g0 h h'=>hr.inj l l' g0 ((Ou l).1 h) ((Ou l').1 h'),
  fun n l h=>Pd (hr.eI n l h),?_,hr.frame,?_,fun l h=>⟨Pd (hr.gA l h).1,fun h2=>(hr.gA l h).2 ((Ou l).1 h2)⟩,fun l g0 h=>hr.fr l g0 ((Ou l).1 h)⟩⟩
 ·intro l r h;obtain⟨r0,h0,rfl⟩:=Pc h;obtain⟨h1,h2,h3⟩:=hr.rows l r0 h0;refine⟨h1,?_,?_⟩
  ·intro cs bV;obtain⟨c0,BZ,rfl⟩:=VC.1 bV;rw[Wo];exact h2 c0 BZ
  cases hb:β l with
  |none=>rw[hb] at h3;simp only at h3;simp[h3]
  |some g0=>
  rw[hb] at h3;simp only at h3 ⊢;obtain⟨cur,e,cap,e1,e2,e3,e4,e5⟩:=h3;refine⟨cur,e,cap,e1,e2,e3,by simpa using e4,?_⟩;intro i j cs x hi hj;rw[VL,oA] at hi;obtain⟨c0,hi,rfl⟩:=hi;rw[VL,oA] at hj;obtain⟨x0,hj,rfl⟩:=hj;obtain⟨v,k1,k2⟩:=e5 i j c0 x0 hi hj;exact⟨v,k1,hg l _ _ _ _ _ _ (RV.mono _ _ (cX _) k2)⟩
 ·intro l r h cs bV q hq;obtain⟨r0,h0,rfl⟩:=Pc h;obtain⟨c0,BZ,rfl⟩:=VC.1 bV;exact Pd (hr.cH l r0 h0 c0 BZ q (Qp (hl l) _ _ hq))
 intro g0 cs h;obtain⟨h1,h2,h3⟩:=hr.fo g0 cs h;exact⟨(EN g0).2 h1,h2,da.mono (cX []).tofv h1 h2 h3⟩
def S0 (p:Lb→Bool) (l:Lb) (x:AV):AV:=if p l then norm x else x
def Qq {S:St} {env:Env} {H:Hp} (p:Lb→Bool):nQ S env H env (O6 (S0 p) H):=
 QS _ (fun l x w β H I v h=>by unfold S0;split;exact RV.norm x v h;exact h) (fun l x q h=>by
  unfold S0 at h;split at h
  ·rwa[nV] at h
  exact h)

structure My (x:Tree) where
 d:List Node
 l:List (Tree×Int)
 hw:whole d l=lW x
 hp:∀y∈l,y.2<(d.length:Int)
 hc:d.length+dP (l.map Prod.fst)=x.jz
 hb:dE (l.map Prod.fst)≤B
 hk:∀y∈d,y.kids.length≤d.length
end Go.Am
