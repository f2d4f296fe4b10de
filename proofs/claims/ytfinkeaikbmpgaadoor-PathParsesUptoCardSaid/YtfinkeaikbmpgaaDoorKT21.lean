import Derived.Test.YtfinkeaikbmpgaaDoorKD1
import Derived.Test.YtfinkeaikbmpgaaDoorKAm25
set_option linter.unusedSimpArgs false
set_option linter.unusedVariables false
set_option linter.unnecessarySimpa false
set_option linter.defProp false
/- Letters: sets of bytes; a string cut at both ends. -/
namespace Go.Am
open Go Go.RowKit
def sH:AV→Nat→Option Nat
 | .int _ v,mx=>if 0≤v∧v.toNat≤mx then some v.toNat else none
 |_,_=>none
def wB (env:Env) (d mx:Nat):gR env none d mx=some d:=rfl
def wC (env:Env) (x:O) (d mx:Nat):gR env (some x) d mx=sH (ev env x) mx:=by
 simp only[gR];generalize ev env x=v;cases v<;>rfl
def nu (k:IntKind) (n mx:Nat) (h:n≤mx):sH (.int k (n:Int)) mx=some n:=by simp[sH,h]
def cZ (f:Nat→Bool):List AV:=(List.range 256).map fun i=> .bool (f i)
def aJ (f:Nat→Bool):(cZ f).length=256:=by simp[cZ]
def iH (f:Nat→Bool) (i:Nat) (h:i<256):(cZ f)[i]?=some (.bool (f i)):=by simp[cZ,List.getElem?_range h]
def c6 (f:Nat→Bool):af (cZ f)=[]:=by
 have:∀l:List Nat,af (l.map fun i=>AV.bool (f i))=[]:=by
  intro l;induction l with
  |nil=>rfl
  |cons a r ih=>simp[af,AV.ax,ih]
 exact this _
def pq:List.replicate 256 (AV.bool false)=cZ (fun _=>false):=by
 apply H8;intro i;by_cases h:i<256
 ·rw[iH _ _ h,G_,FG h]
 rw[GD (by rw[GX];omega),GD (by rw[aJ];omega)]
def sI (f:Nat→Bool) (j:Nat):(cZ f).set j (.bool true)=cZ (fun k=>k==j||f k):=by
 apply H8;intro i;by_cases h:i<256
 ·rw[iH _ _ h,List.getElem?_set];by_cases e:j=i
  ·subst e;rw[FG rfl,FG (by rw[aJ];exact h)];simp
  rw[FU e,iH _ _ h];have:(i==j)=false:=by simpa using GP e
  rw[this];simp
 rw[GD (by rw[List.length_set,aJ];omega),GD (by rw[aJ];omega)]
def sJ (f:Nat→Bool) (j:Nat) (h:j<256):(cZ f).take j++[.bool true]++(cZ f).drop (j+1)=cZ (fun k=>k==j||f k):=by
 rw[←sI,List.set_eq_take_append_cons_drop,FG (by rw[aJ];exact h)];simp
def lC (f:Nat→Bool):(cZ f).take 256=cZ f:=F_ (by rw[aJ];exact FJ _)
def lD (f:Nat→Bool):(cZ f).drop 256=[]:=HK (by rw[aJ];exact FJ _)
def nv (f:Nat→Bool):(cZ f).all AV.one=true:=by
 rw[F3];intro x hx;obtain⟨i,_,rfl⟩:=F2.1 hx;rfl
def dP (s:Bs) (k:Nat):Bool:=s.any fun c=>k==c.toNat
def jA {α:Type} {l:List α} {i:Nat} {x:α} (h:l[i]?=some x):l.take (i+1)=l.take i++[x]:=by rw[Gy,h];rfl
def qm (s:Bs) (c:UInt8):dP (s++[c])=fun k=>k==c.toNat||dP s k:=by
 funext k;simp[dP,Bool.or_comm]
def cG:AC:=
(aK [bg 2 (.new (List.replicate 256 (.bool false))),gQ 3 false] (.seq (aK [iK 4 0] (.block 0 (.loop (.seq (aK [ah 6 4,ah 7 0,ia 8 7,ga 9 .lss 6 8] (.cond (.t 9) .skip (.exit 0))) (.seq (.block 1 (aK [ah 12 0,ah 13 4,bg 14 (.f_ (.t 12) (.t 13)),ah 5 14] (.seq (aK [ah 15 5,bg 16 (.bin .geq (.t 15) (.c (.int .u8 128)))] (.cond (.t 16) (aK [qP 17 256 2,mq (.store 256 (.t 2) (.t 17)),gQ 3 false] .ret) .skip)) (.fU [ah 18 5,bg 19 (.qO (.t 2) (.t 18) 256 1),mq (.store 1 (.t 19) (Bg true))])))) (.fU [ah 10 4,ew 11 .add 10 1,ah 4 11])))))) (aK [qP 20 256 2,mq (.store 256 (.t 2) (.t 20)),gQ 3 true] .ret)))
def sK {P:Program} {G:Nat→Option (List IV)} {aY:Nat} (hF:aM P G aY=some (21,[((some (some 256)),2),(none,3)],cG.bare)) (s:Bs) (hs:s.length≤B) (CI:∀c∈s,c.toNat<128) :
  aw P G aY [.str s] (.dG [.agg (cZ (dP s)),.bool true]):=by
 refine aG hF (by simp) (by simp[af,AV.ax]) (by simp[AV.ax,af,c6]) ?_;unfold cG;simp only[↓aX,mX,reduceCtorEq,Nat.reduceEqDiff,Nat.reduceLT,Nat.reduceLeDiff,Nat.reduceAdd,Nat.reduceMul,Int.reduceToNat,Int.reduceLE,Int.reduceLT,pq,aJ];refine gA (σ:={i:Nat // i≤s.length}) [.loc 2] (fun q=>[(0,.str s),(2,.ptr (.loc 2) 256 0 0),(4,.int .i64 q.1)]) (fun q=>[(.loc 2,⟨256,[cZ (dP (s.take q.1))]⟩)]) (fun q=>s.length - q.1) ⟨0,HL _⟩
  (fun _=>rfl) (by decide) (by simp[af,AV.ax]) (fun q r hr cs bt l hl=>by
   simp only[FN] at hr;subst hr;simp only[FN] at bt;subst bt;rw[c6] at hl;simp at hl) ?_ ?_
 ·exact jz (by simp only[jX,iC]) (by repeat' constructor) ⟨rfl,trivial⟩
 rintro⟨i,hi⟩;simp only[↓aX,mX,reduceCtorEq,Nat.reduceEqDiff,Nat.reduceLT,Nat.reduceLeDiff,Nat.reduceAdd,Nat.reduceMul,Int.reduceToNat,Int.reduceLE,Int.reduceLT,dJ,cY,aJ];by_cases cD:i<s.length
 ·rw[show decide ((i:Int)<(s.length:Int))=true by simpa using cD];obtain⟨c,hc⟩:∃c,s[i]?=some c:=⟨_,FF cD⟩;have hw:IntKind.i64.wrap ((i:Int)+1)=((i+1:Nat):Int):=wrap64 (by omega) (by unfold B at hs;omega);have nO:=CI c (Fx hc);simp only[↓aX,mX,reduceCtorEq,Nat.reduceEqDiff,Nat.reduceLT,Nat.reduceLeDiff,Nat.reduceAdd,Nat.reduceMul,Int.reduceToNat,Int.reduceLE,Int.reduceLT,hc,show decide (((c.toNat:Nat):Int)≥128)=false by simp;omega,aJ,hw];simp only[↓aX,mX,reduceCtorEq,Nat.reduceEqDiff,Nat.reduceLT,Nat.reduceLeDiff,Nat.reduceAdd,Nat.reduceMul,Int.reduceToNat,Int.reduceLE,Int.reduceLT,FG (show c.toNat<256 by omega),FG (show c.toNat≤255 by omega),sJ _ _ (show c.toNat<256 by omega),aJ,hw];refine⟨⟨i+1,cD⟩,by simp only;omega,jz (by simp only[jX,iC]) (by repeat' constructor) ⟨?_,trivial⟩⟩;rw[jA hc,qm];rfl
 have qZ:i=s.length:=by omega
 subst qZ;rw[show decide ((s.length:Int)<(s.length:Int))=false by simp];simp only[↓aX,mX,reduceCtorEq,Nat.reduceEqDiff,Nat.reduceLT,Nat.reduceLeDiff,Nat.reduceAdd,Nat.reduceMul,Int.reduceToNat,Int.reduceLE,Int.reduceLT,GB,aJ,lC,lD,nv,GF,vD]
def bW:AC:=
(aK [gQ 4 false] (aK [ah 5 0,ah 6 1,bg 7 (.kI (.t 5)),bg 8 (.qO (.t 7) (.t 6) 256 1),oT 9 8,ah 4 9] .ret))
def lE {P:Program} {G:Nat→Option (List IV)} {aq:Nat} (hF:aM P G aq=some (10,[(none,4)],bW.bare)) (f:Nat→Bool) (c:UInt8) :
  jS P G aq [.ptr (.par 0) 256 0 0,.int .u8 (c.toNat:Int)] (cZ f) fun x cs=>x= .bool (f c.toNat)∧cs=cZ f:=by
 refine ja hF (by simp) (by simp[af,AV.ax]) (c6 f) ?_;have hc:c.toNat<256:=c.toNat_lt;unfold bW;simp only[↓aX,mX,seval,hQ,aJ,FG hc,iH f _ hc];exact⟨_,rfl,rfl,c6 f,aJ f,rfl⟩
def cz (aq:Nat):AC:=
(aK [bg 4 (.gG (.c (.str [])))] (.seq (.block 0 (.loop (.seq (aK [ah 5 0,ia 6 5,ew 7 .gtr 6 0] (.cond (.t 7) .skip (.exit 0))) (.block 1 (.seq (aK [ah 8 1,ah 9 0,bg 10 (.f_ (.t 9) (iJ 0)),bg 11 (.call aq [(.t 8),(.t 10)]),vU 12 11] (.cond (.t 12) (.exit 0) .skip)) (.fU [ah 13 0,bg 14 (.en (.t 13) (some (iJ 1)) none),ah 0 14])))))) (aK [ah 15 0,ah 4 15] .ret)))
def cp (aq:Nat):AC:=
(aK [bg 4 (.gG (.c (.str [])))] (.seq (.block 0 (.loop (.seq (aK [ah 5 0,ia 6 5,ew 7 .gtr 6 0] (.cond (.t 7) .skip (.exit 0))) (.block 1 (.seq (aK [ah 8 1,ah 9 0,ah 10 0,ia 11 10,ew 12 .sub 11 1,bg 13 (.f_ (.t 9) (.t 12)),bg 14 (.call aq [(.t 8),(.t 13)]),vU 15 14] (.cond (.t 15) (.exit 0) .skip)) (.fU [ah 16 0,ah 17 0,ia 18 17,ew 19 .sub 18 1,bg 20 (.en (.t 16) none (some (.t 19))),ah 0 20])))))) (aK [ah 21 0,ah 4 21] .ret)))
def cO (f:Nat→Bool) (s:Bs):Bs:=s.dropWhile fun c=>f c.toNat
def dh (f:Nat→Bool) (s:Bs):Bs:=(cO f s.reverse).reverse
def lF {f:Nat→Bool} {q:Lb×Row} (hr:q∈[((.par 0:Lb),(⟨256,[cZ f]⟩:Row))]) {ls:List Lb}:∀cs∈q.2.bN,∀l∈af cs,l∈ls:=by
 intro cs bt l hl;simp only[FN] at hr;subst hr;simp only[FN] at bt;subst bt;rw[c6] at hl;simp at hl
def qn {P:Program} {G:Nat→Option (List IV)} {aU aq:Nat} (hF:aM P G aU=some (16,[(none,4)],(cz aq).bare)) (f:Nat→Bool) (s:Bs) (hs:s.length≤B)
  (hC:∀c:UInt8,jS P G aq [.ptr (.par 0) 256 0 0,.int .u8 (c.toNat:Int)] (cZ f) fun x cs=>x= .bool (f c.toNat)∧cs=cZ f) :
  jS P G aU [.str s,.ptr (.par 0) 256 0 0] (cZ f) fun x cs=>x= .str (cO f s)∧cs=cZ f:=by
 refine ja hF (by simp) (by simp[af,AV.ax]) (c6 f) ?_;unfold cz;simp only[↓aX,mX,reduceCtorEq,Nat.reduceEqDiff,Nat.reduceLT,Nat.reduceLeDiff,Nat.reduceAdd,Nat.reduceMul,Int.reduceToNat,Int.reduceLE,Int.reduceLT,hQ,aJ];refine gA (σ:={t:Bs // t.length≤B∧cO f t=cO f s}) [.par 0] (fun t=>[(0,.str t.1),(1,.ptr (.par 0) 256 0 0)]) (fun _=>[(.par 0,⟨256,[cZ f]⟩)]) (fun t=>t.1.length) ⟨s,hs,rfl⟩
  (fun _=>rfl) (by decide) (by simp[af,AV.ax]) (fun _ q hr=>lF hr) ?_ ?_
 ·refine jz ?_ (by repeat' constructor) ⟨rfl,trivial⟩;intro l hl hu;by_cases e:l= .par 0
  ·subst e;simp
  exfalso;apply hu;cases l<;>simp_all[Lb.fresh,al,Hp.none]
 rintro⟨t,ht,cL⟩;cases t with
 |nil=>
  simp only[↓aX,mX,reduceCtorEq,Nat.reduceEqDiff,Nat.reduceLT,Nat.reduceLeDiff,Nat.reduceAdd,Nat.reduceMul,Int.reduceToNat,Int.reduceLE,Int.reduceLT,dJ,cY,Gq,show decide (((0:Nat):Int)>0)=false from rfl];rw[←cL];exact⟨_,⟨rfl,rfl⟩,rfl,c6 f,aJ f,rfl⟩
 |cons c r=>
 have hg:decide (((r.length+1:Nat):Int)>0)=true:=by rw[FV];omega
 have EH:(c::r)[0]?=some c:=rfl;simp only[↓aX,mX,reduceCtorEq,Nat.reduceEqDiff,Nat.reduceLT,Nat.reduceLeDiff,Nat.reduceAdd,Nat.reduceMul,Int.reduceToNat,Int.reduceLE,Int.reduceLT,dJ,cY,FW,hg,EH];refine gy (l:= .par 0) (hC c) rfl (by simp only[↓aX,mX,reduceCtorEq,Nat.reduceEqDiff,Nat.reduceLT,Nat.reduceLeDiff,Nat.reduceAdd,Nat.reduceMul,Int.reduceToNat,Int.reduceLE,Int.reduceLT,aJ]) ?_;rintro x1 gS ⟨rfl,rfl⟩ _ _ _;simp only[↓aX,mX,reduceCtorEq,Nat.reduceEqDiff,Nat.reduceLT,Nat.reduceLeDiff,Nat.reduceAdd,Nat.reduceMul,Int.reduceToNat,Int.reduceLE,Int.reduceLT,aJ];cases hf:f c.toNat with
 |false=>
  have:cO f s=c::r:=by rw[←cL];simp[cO,hf]
  simp only[↓aX,mX,reduceCtorEq,Nat.reduceEqDiff,Nat.reduceLT,Nat.reduceLeDiff,Nat.reduceAdd,Nat.reduceMul,Int.reduceToNat,Int.reduceLE,Int.reduceLT,F8,this];exact⟨_,rfl,rfl,c6 f,aJ f,by rw[aJ]⟩
 |true=>
 have h2:cO f r=cO f s:=by rw[←cL];simp[cO,hf]
 have hb:sH (.int .i64 1) (r.length+1)=some 1:=nu .i64 1 _ (by omega);have vF:(c::r).take (r.length+1)=c::r:=F_ (by simp);simp only[↓aX,mX,reduceCtorEq,Nat.reduceEqDiff,Nat.reduceLT,Nat.reduceLeDiff,Nat.reduceAdd,Nat.reduceMul,Int.reduceToNat,Int.reduceLE,Int.reduceLT,Ge,aJ,FW,wB,wC,hb,vF,Fy,F4,GI,GK];refine⟨⟨r,by rw[FW] at ht;omega,h2⟩,by simp only[FW];omega,jz ?_ (by repeat' constructor) ⟨rfl,trivial⟩⟩;intro l hl hu;by_cases e:l= .par 0
 ·subst e;simp
 exfalso;apply hu;cases l<;>simp_all[Lb.fresh,al,Hp.none]
def ky (f:Nat→Bool) (t:Bs) (c:UInt8):dh f (t++[c])=if f c.toNat=true then dh f t else t++[c]:=by
 unfold dh cO;rw[List.reverse_append];simp only[List.reverse_cons,List.reverse_nil,HE,List.singleton_append,HV];split<;>simp
def ot {P:Program} {G:Nat→Option (List IV)} {aS aq:Nat} (hF:aM P G aS=some (22,[(none,4)],(cp aq).bare)) (f:Nat→Bool) (s:Bs) (hs:s.length≤B)
  (hC:∀c:UInt8,jS P G aq [.ptr (.par 0) 256 0 0,.int .u8 (c.toNat:Int)] (cZ f) fun x cs=>x= .bool (f c.toNat)∧cs=cZ f) :
  jS P G aS [.str s,.ptr (.par 0) 256 0 0] (cZ f) fun x cs=>x= .str (dh f s)∧cs=cZ f:=by
 refine ja hF (by simp) (by simp[af,AV.ax]) (c6 f) ?_;unfold cp;simp only[↓aX,mX,reduceCtorEq,Nat.reduceEqDiff,Nat.reduceLT,Nat.reduceLeDiff,Nat.reduceAdd,Nat.reduceMul,Int.reduceToNat,Int.reduceLE,Int.reduceLT,hQ,aJ];refine gA (σ:={n:Nat // n≤s.length∧dh f (s.take n)=dh f s}) [.par 0] (fun n=>[(0,.str (s.take n.1)),(1,.ptr (.par 0) 256 0 0)]) (fun _=>[(.par 0,⟨256,[cZ f]⟩)]) (fun n=>n.1) ⟨s.length,FJ _,by rw[GB]⟩
  (fun _=>rfl) (by decide) (by simp[af,AV.ax]) (fun _ q hr=>lF hr) ?_ ?_
 ·refine jz ?_ ⟨by rw[GB];rfl,rfl,trivial⟩ ⟨rfl,trivial⟩;intro l hl hu;by_cases e:l= .par 0
  ·subst e;simp
  exfalso;apply hu;cases l<;>simp_all[Lb.fresh,al,Hp.none]
 rintro⟨n,hn,cL⟩;have CJ:(s.take n).length=n:=by rw[F0];omega
 cases n with
 |zero=>
  simp only[↓aX,mX,reduceCtorEq,Nat.reduceEqDiff,Nat.reduceLT,Nat.reduceLeDiff,Nat.reduceAdd,Nat.reduceMul,Int.reduceToNat,Int.reduceLE,Int.reduceLT,dJ,cY,CJ,show decide (((0:Nat):Int)>0)=false from rfl];rw[←cL];exact⟨_,⟨rfl,rfl⟩,rfl,c6 f,aJ f,rfl⟩
 |succ n=>
 obtain⟨c,hc⟩:∃c,s[n]?=some c:=⟨_,FF (by omega)⟩;have hg:decide (((n+1:Nat):Int)>0)=true:=by rw[FV];omega
 have hw:IntKind.i64.wrap (((n+1:Nat):Int) - 1)=(n:Int):=by rw[wrap64 (by omega) (by unfold B at hs;omega)];omega
 have EI:(s.take (n+1))[n]?=some c:=by rw[FA,FG (by omega)];exact hc
 have zX:s.take (n+1)=s.take n++[c]:=jA hc;simp only[↓aX,mX,reduceCtorEq,Nat.reduceEqDiff,Nat.reduceLT,Nat.reduceLeDiff,Nat.reduceAdd,Nat.reduceMul,Int.reduceToNat,Int.reduceLE,Int.reduceLT,dJ,cY,CJ,hg,hw,EI];refine gy (l:= .par 0) (hC c) rfl (by simp only[↓aX,mX,reduceCtorEq,Nat.reduceEqDiff,Nat.reduceLT,Nat.reduceLeDiff,Nat.reduceAdd,Nat.reduceMul,Int.reduceToNat,Int.reduceLE,Int.reduceLT,aJ]) ?_;rintro x1 gS ⟨rfl,rfl⟩ _ _ _;simp only[↓aX,mX,reduceCtorEq,Nat.reduceEqDiff,Nat.reduceLT,Nat.reduceLeDiff,Nat.reduceAdd,Nat.reduceMul,Int.reduceToNat,Int.reduceLE,Int.reduceLT,aJ];cases hf:f c.toNat with
 |false=>
  have:dh f s=s.take (n+1):=by rw[←cL,zX,ky,FU (by rw[hf];simp)]
  simp only[↓aX,mX,reduceCtorEq,Nat.reduceEqDiff,Nat.reduceLT,Nat.reduceLeDiff,Nat.reduceAdd,Nat.reduceMul,Int.reduceToNat,Int.reduceLE,Int.reduceLT,F8,this];exact⟨_,rfl,rfl,c6 f,aJ f,by rw[aJ]⟩
 |true=>
 have h2:dh f (s.take n)=dh f s:=by rw[←cL,zX,ky,FG hf]
 have hb:sH (.int .i64 (n:Int)) (n+1)=some n:=nu .i64 n _ (by omega);have vF:(s.take (n+1)).take n=s.take n:=by rw[List.take_take,Hn (Nat.le_succ n)]
 simp only[↓aX,mX,reduceCtorEq,Nat.reduceEqDiff,Nat.reduceLT,Nat.reduceLeDiff,Nat.reduceAdd,Nat.reduceMul,Int.reduceToNat,Int.reduceLE,Int.reduceLT,Ge,aJ,CJ,hw,wB,wC,hb,vF,Fy,F4,GK];refine⟨⟨n,by omega,h2⟩,by simp only;omega,jz ?_ (by repeat' constructor) ⟨rfl,trivial⟩⟩;intro l hl hu;by_cases e:l= .par 0
 ·subst e;simp
 exfalso;apply hu;cases l<;>simp_all[Lb.fresh,al,Hp.none]

def eP (cA cH aY aS aU bY b9:Nat):AC:=
(aK [bg 4 (.gG (.c (.str [])))] (.seq (aK [ah 7 0,bg 8 (.bin .eql (.t 7) (.c (.str []))),ah 9 8,e8 10 9 1,jJ 11 9 (.bin .eql (.t 10) (.c (.str []))),nS 12 9 11] (.cond (.t 12) (aK [ah 13 0,ah 4 13] .ret) .skip)) (.seq (aK [ah 14 1,ia 15 14,ew 16 .eql 15 1,ah 17 16,cm 18 17 1,dC 19 17 (.f_ (.t 18) (iJ 0)),dC 20 17 (.bin .lss (.t 19) (.c (.int .u8 128))),jk 21 17 20] (.cond (.t 21) (.seq (.ix [ah 22 0,ah 23 1,bg 24 (.f_ (.t 23) (iJ 0)),bg 25 (.call cA [(.t 22),(.t 24)]),ah 26 1,bg 27 (.f_ (.t 26) (iJ 0)),bg 28 (.call cH [(.t 25),(.t 27)]),ah 4 28] [[],[],[1],[0,2],[],[4],[3,5,3],[6,6,0,1,2,3,4,5,6]] [.no,.no,.no,.no,.no,.no,.no,.no]) .ret) .skip)) (.seq (aK [ah 30 1,bg 31 (.call aY [(.t 30)]),ah 29 31,gp 32 29 0,gp 33 29 1,bg 5 (.new (List.replicate 256 (.bool false))),mq (.store 256 (.t 5) (.t 32)),ah 6 33] (aK [ah 34 6] (.cond (.t 34) (aK [ah 35 0,bg 36 (.call aS [(.t 35),(.t 5)]),bg 37 (.call aU [(.t 36),(.t 5)]),ah 4 37] .ret) .skip))) (aK [ah 38 0,ah 39 1,bg 40 (.call bY [(.t 38),(.t 39)]),ah 41 1,bg 42 (.call b9 [(.t 40),(.t 41)]),ah 4 42] .ret)))))
def vG (f:Nat→Bool) (s:Bs):(dh f s).length≤s.length:=by
 unfold dh cO;rw[HW];have:=(Hf (l:=s.reverse) (fun c=>f c.toNat)).length_le
 rwa[HW] at this
def AU {P:Program} {G:Nat→Option (List IV)} {bZ aY aS aU cA cH bY b9:Nat} (hF:aM P G bZ=some (43,[(none,4)],(eP cA cH aY aS aU bY b9).bare)) (s t:Bs) (hs:s.length≤B) (ht:2≤t.length)
  (hM:aw P G aY [.str t] (.dG [.agg (cZ (dP t)),.bool true]))
  (hR:jS P G aS [.str s,.ptr (.par 0) 256 0 0] (cZ (dP t)) fun x cs=>x= .str (dh (dP t) s)∧cs=cZ (dP t))
  (hL:jS P G aU [.str (dh (dP t) s),.ptr (.par 0) 256 0 0] (cZ (dP t)) fun x cs=>x= .str (cO (dP t) (dh (dP t) s))∧cs=cZ (dP t)) :
  aw P G bZ [.str s,.str t] (.str (cO (dP t) (dh (dP t) s))):=by
 refine aG hF (by simp) (by simp[af,AV.ax]) (by simp[AV.ax]) ?_;unfold eP;simp only[↓aX,mX,reduceCtorEq,Nat.reduceEqDiff,Nat.reduceLT,Nat.reduceLeDiff,Nat.reduceAdd,Nat.reduceMul,Int.reduceToNat,Int.reduceLE,Int.reduceLT];have e1:(t==[])=false:=by cases t<;>simp_all
 have e2:(((t.length:Nat):Int)==1)=false:=by rw[HX];omega
 cases oW:(s==[]) with
 |true=>
  have:s=[]:=by simpa using oW
  subst this;simp only[↓aX,mX,reduceCtorEq,Nat.reduceEqDiff,Nat.reduceLT,Nat.reduceLeDiff,Nat.reduceAdd,Nat.reduceMul,Int.reduceToNat,Int.reduceLE,Int.reduceLT];rfl
 |false=>
 simp only[↓aX,mX,reduceCtorEq,Nat.reduceEqDiff,Nat.reduceLT,Nat.reduceLeDiff,Nat.reduceAdd,Nat.reduceMul,Int.reduceToNat,Int.reduceLE,Int.reduceLT,e1,e2];refine ae hM ?_;simp only[↓aX,mX,reduceCtorEq,Nat.reduceEqDiff,Nat.reduceLT,Nat.reduceLeDiff,Nat.reduceAdd,Nat.reduceMul,Int.reduceToNat,Int.reduceLE,Int.reduceLT,GX,pq,aJ,lC,lD,nv,GF];refine gy (l:= .loc 5) hR rfl (by simp only[↓aX,mX,reduceCtorEq,Nat.reduceEqDiff,Nat.reduceLT,Nat.reduceLeDiff,Nat.reduceAdd,Nat.reduceMul,Int.reduceToNat,Int.reduceLE,Int.reduceLT,aJ]) ?_;rintro x1 gS ⟨rfl,rfl⟩ _ _ _;simp only[↓aX,mX,reduceCtorEq,Nat.reduceEqDiff,Nat.reduceLT,Nat.reduceLeDiff,Nat.reduceAdd,Nat.reduceMul,Int.reduceToNat,Int.reduceLE,Int.reduceLT,aJ,GX];refine gy (l:= .loc 5) hL rfl (by simp only[↓aX,mX,reduceCtorEq,Nat.reduceEqDiff,Nat.reduceLT,Nat.reduceLeDiff,Nat.reduceAdd,Nat.reduceMul,Int.reduceToNat,Int.reduceLE,Int.reduceLT,aJ]) ?_;rintro x1 gS ⟨rfl,rfl⟩ _ _ _;simp only[↓aX,mX,reduceCtorEq,Nat.reduceEqDiff,Nat.reduceLT,Nat.reduceLeDiff,Nat.reduceAdd,Nat.reduceMul,Int.reduceToNat,Int.reduceLE,Int.reduceLT,aJ]
theorem gC (f:Nat→Bool):∀s:Bs,cO f s=[]↔s.all (fun c=>f c.toNat)=true
 |[]=>by simp[cO]
 |c::r=>by
  have ih:=gC f r;unfold cO at ih ⊢;rw[HV,List.all_cons];cases h:f c.toNat with
  |true=>rw[FG rfl,ih];simp
  |false=>simp
def sL (f:Nat→Bool) (s:Bs):cO f (dh f s)=[]↔s.all (fun c=>f c.toNat)=true:=by
 constructor
 ·intro h;cases bG:s.all (fun c=>f c.toNat) with
  |true=>rfl
  |false=>
  have h1:∃x,x∈cO f s.reverse∧f x.toNat=false:=by
   have:(s.reverse).all (fun c=>f c.toNat)=false:=(by rw[Ih];exact bG);have fa:cO f s.reverse≠[]:=fun e=>(by rw[(gC f _).1 e] at this;cases this);unfold cO at fa ⊢;cases hd:(s.reverse.dropWhile fun c=>f c.toNat) with
   |nil=>exact absurd hd fa
   |cons x r=>
   refine⟨x,by simp,?_⟩;have:=List.head?_dropWhile_not (p:=fun c:UInt8=>f c.toNat) (l:=s.reverse);rw[hd] at this;simpa using this
  obtain⟨x,hx,EJ⟩:=h1;have h2:=(gC f _).1 h;have h3:=F3.1 h2 x (by unfold dh;simpa using hx);rw[EJ] at h3;cases h3
 intro h;have:cO f s.reverse=[]:=(gC f _).2 (by rw[Ih];exact h);unfold dh;rw[this];rfl
def bU:Bs:=[97,98,99,100,101,102,103,104,105,106,107,108,109,110,111,112,113,114,115,116,117,118,119,120,121,122]
def qo (c:UInt8):dP bU c.toNat=eX c:=by
 have:∀n:Fin 256,dP bU (UInt8.ofNat n.val).toNat=eX (UInt8.ofNat n.val):=by decide +kernel
 have h:=this ⟨c.toNat,c.toNat_lt⟩;simpa using h
def sM (s:Bs):named s=(decide (s≠[])&&(decide (((s.length:Nat):Int)≤8)&&(cO (dP bU) (dh (dP bU) s)==[]))):=by
 have h1:(s.all fun c=>dP bU c.toNat)=s.all eX:=by congr 1;funext c;exact qo c
 have h2:(cO (dP bU) (dh (dP bU) s)==[])=s.all eX:=by
  rw[←h1,Hs,Hj];exact sL _ s
 have h3:decide ((s.length:Int)≥1)=decide (s≠[]):=by
  rw[decide_eq_decide];cases s with
  |nil=>simp
  |cons c r=>simp;omega
 rw[h2,named,h3];cases decide (s≠[])<;>cases s.all eX<;>simp
def dj (bZ:Nat):AC:=
(aK [gQ 2 false] (aK [ah 3 0,bg 4 (.bin .neq (.t 3) (.c (.str []))),ah 5 4,cm 6 5 0,dC 7 5 (.lens (.t 6)),dC 8 5 (.bin .leq (.t 7) (iJ 8)),jk 9 5 8,ah 10 9,cm 11 10 0,dC 12 10 (.call bZ [(.t 11),(.c (.str [97,98,99,100,101,102,103,104,105,106,107,108,109,110,111,112,113,114,115,116,117,118,119,120,121,122]))]),dC 13 10 (.bin .eql (.t 12) (.c (.str []))),jk 14 10 13,ah 2 14] .ret))
def vH {P:Program} {G:Nat→Option (List IV)} {bh bZ:Nat} (hF:aM P G bh=some (15,[(none,2)],(dj bZ).bare)) (s:Bs)
  (hT:aw P G bZ [.str s,.str bU] (.str (cO (dP bU) (dh (dP bU) s)))):aw P G bh [.str s] (.bool (named s)):=by
 refine aG hF (by simp) (by simp[af,AV.ax]) (by simp[AV.ax]) ?_;unfold dj;rw[sM];simp only[↓aX,mX,seval];cases h1:(s==[]) with
 |true=>
  have zd:s=[]:=by simpa using h1
  simp only[↓aX,mX,seval,Ge,zd];rfl
 |false=>
 have zd:s≠[]:=by simpa using h1
 simp only[↓aX,mX,seval,F8];cases h2:decide (((s.length:Nat):Int)≤8) with
 |false=>simp only[↓aX,mX,seval,Gg zd,Hx,GY]
 |true=>
 simp only[↓aX,mX,seval];refine ae hT ?_;simp only[↓aX,mX,seval,Gg zd,Hx]

section
variable {K:Kx} {β:Lb→Option Nat} {env:Env} {H:Hp} {a:Act} {w:World} {X:Lb→Option (Nat×List IV)}
end
def kk.trans {S:St} {env env2 AW:Env} {H H2 H3:Hp} (h1:kk S env H env2 H2) (h2:kk S env2 H2 AW H3):kk S env H AW H3:=fun K β a w e hf hr=>by
 obtain⟨β',jP⟩:=h1 K β a w e hf hr;exact h2 K β' a w e hf jP

structure Fk (x:Tree) where
 d:List Node
 l:List (Tree×Int)
 hw:whole d l=iF x
 hp:∀y∈l,y.2<(d.length:Int)
 hc:d.length+eO (l.map Prod.fst)=x.kR
 hb:zw (l.map Prod.fst)≤B
 hk:∀y∈d,y.kids.length≤d.length
end Go.Am
