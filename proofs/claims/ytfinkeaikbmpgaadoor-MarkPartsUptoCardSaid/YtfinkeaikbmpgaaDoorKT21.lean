import Derived.Test.YtfinkeaikbmpgaaDoorKD2
import Derived.Test.YtfinkeaikbmpgaaDoorKT1
import Derived.Test.YtfinkeaikbmpgaaDoorKAm24
set_option linter.unusedSimpArgs false
set_option linter.unusedVariables false
set_option linter.unnecessarySimpa false
set_option linter.defProp false
/- Letters: sets of bytes; a string cut at both ends. -/
namespace Go.Am
open Go Go.RowKit
def ya:AV→Nat→Option Nat
 | .int _ v,mx=>if 0≤v∧v.toNat≤mx then some v.toNat else none
 |_,_=>none
def Ck (env:Env) (d mx:Nat):lk env none d mx=some d:=rfl
def Cl (env:Env) (x:O) (d mx:Nat):lk env (some x) d mx=ya (ev env x) mx:=by
 simp only[lk];generalize ev env x=v;cases v<;>rfl
def rA (k:IntKind) (n mx:Nat) (h:n≤mx):ya (.int k (n:Int)) mx=some n:=by simp[ya,h]
def eh (f:Nat→Bool):List AV:=(List.range 256).map fun i=> .bool (f i)
def bc (f:Nat→Bool):(eh f).length=256:=by simp[eh]
def l5 (f:Nat→Bool) (i:Nat) (h:i<256):(eh f)[i]?=some (.bool (f i)):=by simp[eh,List.getElem?_range h]
def eD (f:Nat→Bool):ah (eh f)=[]:=by
 have:∀l:List Nat,ah (l.map fun i=>AV.bool (f i))=[]:=by
  intro l;induction l with
  |nil=>rfl
  |cons a r ih=>simp[ah,AV.an,ih]
 exact this _
def qo:List.replicate 256 (AV.bool false)=eh (fun _=>false):=by
 apply V';intro i;by_cases h:i<256
 ·rw[l5 _ _ h,Xp,Vd h]
 rw[VV (by rw[Wn];omega),VV (by rw[bc];omega)]
def yb (f:Nat→Bool) (j:Nat):(eh f).set j (.bool true)=eh (fun k=>k==j||f k):=by
 apply V';intro i;by_cases h:i<256
 ·rw[l5 _ _ h,WN];by_cases e:j=i
  ·subst e;rw[Vd rfl,Vd (by rw[bc];exact h)];simp
  rw[U8 e,l5 _ _ h];have:(i==j)=false:=by simpa using V7 e
  rw[this];simp
 rw[VV (by rw[YC,bc];omega),VV (by rw[bc];omega)]
def yc (f:Nat→Bool) (j:Nat) (h:j<256):(eh f).take j++[.bool true]++(eh f).drop (j+1)=eh (fun k=>k==j||f k):=by
 rw[←yb,List.set_eq_take_append_cons_drop,Vd (by rw[bc];exact h)];simp
def mz (f:Nat→Bool):(eh f).take 256=eh f:=Vq (by rw[bc];exact Va _)
def mA (f:Nat→Bool):(eh f).drop 256=[]:=Xr (by rw[bc];exact Va _)
def od (f:Nat→Bool):(eh f).all AV.one=true:=by
 rw[Vx];intro x hx;obtain⟨i,_,rfl⟩:=VC.1 hx;rfl
def er (s:Bs) (k:Nat):Bool:=s.any fun c=>k==c.toNat
def mW {α:Type} {l:List α} {i:Nat} {x:α} (h:l[i]?=some x):l.take (i+1)=l.take i++[x]:=by rw[V2,h];rfl
def vM (s:Bs) (c:UInt8):er (s++[c])=fun k=>k==c.toNat||er s k:=by
 funext k;simp[er,Bool.or_comm]
def c6:AC:=
(aM [aQ 2 (.new (List.replicate 256 (.bool false))),jM 3 false] (.seq (aM [gH 4 0] (.block 0 (.loop (.seq (aM [MR 6 4,MR 7 0,oF 8 7,et 9 .lss 6 8] (.cond (.t 9) .skip (.exit 0))) (.seq (.block 1 (aM [MR 12 0,MR 13 4,aQ 14 (.lj (.t 12) (.t 13)),MR 5 14] (.seq (aM [MR 15 5,aQ 16 (.bin .geq (.t 15) (.c (.int .u8 128)))] (.cond (.t 16) (aM [gz 17 256 2,gg (.store 256 (.t 2) (.t 17)),jM 3 false] .ret) .skip)) (.cq [MR 18 5,aQ 19 (.wC (.t 2) (.t 18) 256 1),gg (.store 1 (.t 19) (me true))])))) (.cq [MR 10 4,eY 11 .add 10 1,MR 4 11])))))) (aM [gz 20 256 2,gg (.store 256 (.t 2) (.t 20)),jM 3 true] .ret)))
def rB {P:Program} {G:Nat→Option (List IV)} {aS:Nat} (hF:aw P G aS=some (21,[((some (some 256)),2),(none,3)],c6.bare)) (s:Bs) (hs:s.length≤B) (I8:∀c∈s,c.toNat<128) :
  au P G aS [.str s] (.gf [.agg (eh (er s)),.bool true]):=by
 refine aR hF (by simp) (by simp[ah,AV.an]) (by simp[AV.an,ah,eD]) ?_;unfold c6;simp only[↓aX,mX,reduceCtorEq,Nat.reduceEqDiff,Nat.reduceLT,Nat.reduceLeDiff,Nat.reduceAdd,Nat.reduceMul,Int.reduceToNat,Int.reduceLE,Int.reduceLT,qo,bc];refine ca (σ:={i:Nat // i≤s.length}) [.loc 2] (fun q=>[(0,.str s),(2,.ptr (.loc 2) 256 0 0),(4,.int .i64 q.1)]) (fun q=>[(.loc 2,⟨256,[eh (er (s.take q.1))]⟩)]) (fun q=>s.length - q.1) ⟨0,WC _⟩
  (fun _=>rfl) (by decide) (by simp[ah,AV.an]) (fun q r hr cs bV l hl=>by
   simp only[Vm] at hr;subst hr;simp only[Vm] at bV;subst bV;rw[eD] at hl;simp at hl) ?_ ?_
 ·exact eL (by simp only[uu,rn]) (by repeat' constructor) ⟨rfl,trivial⟩
 rintro⟨i,hi⟩;simp only[↓aX,mX,reduceCtorEq,Nat.reduceEqDiff,Nat.reduceLT,Nat.reduceLeDiff,Nat.reduceAdd,Nat.reduceMul,Int.reduceToNat,Int.reduceLE,Int.reduceLT,cF,bW,bc];by_cases bI:i<s.length
 ·rw[show decide ((i:Int)<(s.length:Int))=true by simpa using bI];obtain⟨c,hc⟩:∃c,s[i]?=some c:=⟨_,U' bI⟩;have hw:IntKind.i64.wrap ((i:Int)+1)=((i+1:Nat):Int):=wrap64 (by omega) (by unfold B at hs;omega);have qT:=I8 c (U_ hc);simp only[↓aX,mX,reduceCtorEq,Nat.reduceEqDiff,Nat.reduceLT,Nat.reduceLeDiff,Nat.reduceAdd,Nat.reduceMul,Int.reduceToNat,Int.reduceLE,Int.reduceLT,hc,show decide (((c.toNat:Nat):Int)≥128)=false by simp;omega,bc,hw];simp only[↓aX,mX,reduceCtorEq,Nat.reduceEqDiff,Nat.reduceLT,Nat.reduceLeDiff,Nat.reduceAdd,Nat.reduceMul,Int.reduceToNat,Int.reduceLE,Int.reduceLT,Vd (show c.toNat<256 by omega),Vd (show c.toNat≤255 by omega),yc _ _ (show c.toNat<256 by omega),bc,hw];refine⟨⟨i+1,bI⟩,by simp only;omega,eL (by simp only[uu,rn]) (by repeat' constructor) ⟨?_,trivial⟩⟩;rw[mW hc,vM];rfl
 have oI:i=s.length:=by omega
 subst oI;rw[show decide ((s.length:Int)<(s.length:Int))=false by simp];simp only[↓aX,mX,reduceCtorEq,Nat.reduceEqDiff,Nat.reduceLT,Nat.reduceLeDiff,Nat.reduceAdd,Nat.reduceMul,Int.reduceToNat,Int.reduceLE,Int.reduceLT,VS,bc,mz,mA,od,V5,kq]
def cr:AC:=
(aM [jM 4 false] (aM [MR 5 0,MR 6 1,aQ 7 (.dp (.t 5)),aQ 8 (.wC (.t 7) (.t 6) 256 1),fm 9 8,MR 4 9] .ret))
def mB {P:Program} {G:Nat→Option (List IV)} {aG:Nat} (hF:aw P G aG=some (10,[(none,4)],cr.bare)) (f:Nat→Bool) (c:UInt8) :
  cR P G aG [.ptr (.par 0) 256 0 0,.int .u8 (c.toNat:Int)] (eh f) fun x cs=>x= .bool (f c.toNat)∧cs=eh f:=by
 refine dw hF (by simp) (by simp[ah,AV.an]) (eD f) ?_;have hc:c.toNat<256:=c.toNat_lt;unfold cr;simp only[↓aX,mX,seval,Oj,bc,Vd hc,l5 f _ hc];exact⟨_,rfl,rfl,eD f,bc f,rfl⟩
def cS (aG:Nat):AC:=
(aM [aQ 4 (.iC (.c (.str [])))] (.seq (.block 0 (.loop (.seq (aM [MR 5 0,oF 6 5,eY 7 .gtr 6 0] (.cond (.t 7) .skip (.exit 0))) (.block 1 (.seq (aM [MR 8 1,MR 9 0,aQ 10 (.lj (.t 9) (jS 0)),aQ 11 (.call aG [(.t 8),(.t 10)]),sB 12 11] (.cond (.t 12) (.exit 0) .skip)) (.cq [MR 13 0,aQ 14 (.kB (.t 13) (some (jS 1)) none),MR 0 14])))))) (aM [MR 15 0,MR 4 15] .ret)))
def dJ (aG:Nat):AC:=
(aM [aQ 4 (.iC (.c (.str [])))] (.seq (.block 0 (.loop (.seq (aM [MR 5 0,oF 6 5,eY 7 .gtr 6 0] (.cond (.t 7) .skip (.exit 0))) (.block 1 (.seq (aM [MR 8 1,MR 9 0,MR 10 0,oF 11 10,eY 12 .sub 11 1,aQ 13 (.lj (.t 9) (.t 12)),aQ 14 (.call aG [(.t 8),(.t 13)]),sB 15 14] (.cond (.t 15) (.exit 0) .skip)) (.cq [MR 16 0,MR 17 0,oF 18 17,eY 19 .sub 18 1,aQ 20 (.kB (.t 16) none (some (.t 19))),MR 0 20])))))) (aM [MR 21 0,MR 4 21] .ret)))
def dB (f:Nat→Bool) (s:Bs):Bs:=s.dropWhile fun c=>f c.toNat
def eM (f:Nat→Bool) (s:Bs):Bs:=(dB f s.reverse).reverse
def pn {f:Nat→Bool} {q:Lb×Row} (hr:q∈[((.par 0:Lb),(⟨256,[eh f]⟩:Row))]) {ls:List Lb}:∀cs∈q.2.els,∀l∈ah cs,l∈ls:=by
 intro cs bV l hl;simp only[Vm] at hr;subst hr;simp only[Vm] at bV;subst bV;rw[eD] at hl;simp at hl
def po {P:Program} {G:Nat→Option (List IV)} {aO aG:Nat} (hF:aw P G aO=some (16,[(none,4)],(cS aG).bare)) (f:Nat→Bool) (s:Bs) (hs:s.length≤B)
  (hC:∀c:UInt8,cR P G aG [.ptr (.par 0) 256 0 0,.int .u8 (c.toNat:Int)] (eh f) fun x cs=>x= .bool (f c.toNat)∧cs=eh f) :
  cR P G aO [.str s,.ptr (.par 0) 256 0 0] (eh f) fun x cs=>x= .str (dB f s)∧cs=eh f:=by
 refine dw hF (by simp) (by simp[ah,AV.an]) (eD f) ?_;unfold cS;simp only[↓aX,mX,reduceCtorEq,Nat.reduceEqDiff,Nat.reduceLT,Nat.reduceLeDiff,Nat.reduceAdd,Nat.reduceMul,Int.reduceToNat,Int.reduceLE,Int.reduceLT,Oj,bc];refine ca (σ:={t:Bs // t.length≤B∧dB f t=dB f s}) [.par 0] (fun t=>[(0,.str t.1),(1,.ptr (.par 0) 256 0 0)]) (fun _=>[(.par 0,⟨256,[eh f]⟩)]) (fun t=>t.1.length) ⟨s,hs,rfl⟩
  (fun _=>rfl) (by decide) (by simp[ah,AV.an]) (fun _ q hr=>pn hr) ?_ ?_
 ·refine eL ?_ (by repeat' constructor) ⟨rfl,trivial⟩;intro l hl hu;by_cases e:l= .par 0
  ·subst e;simp
  exfalso;apply hu;cases l<;>simp_all[Lb.fresh,ae,Hp.none]
 rintro⟨t,ht,g_⟩;cases t with
 |nil=>
  simp only[↓aX,mX,reduceCtorEq,Nat.reduceEqDiff,Nat.reduceLT,Nat.reduceLeDiff,Nat.reduceAdd,Nat.reduceMul,Int.reduceToNat,Int.reduceLE,Int.reduceLT,cF,bW,VR,show decide (((0:Nat):Int)>0)=false from rfl];rw[←g_];exact⟨_,⟨rfl,rfl⟩,rfl,eD f,bc f,rfl⟩
 |cons c r=>
 have hg:decide (((r.length+1:Nat):Int)>0)=true:=by rw[Vn];omega
 have Lr:(c::r)[0]?=some c:=rfl;simp only[↓aX,mX,reduceCtorEq,Nat.reduceEqDiff,Nat.reduceLT,Nat.reduceLeDiff,Nat.reduceAdd,Nat.reduceMul,Int.reduceToNat,Int.reduceLE,Int.reduceLT,cF,bW,Vo,hg,Lr];refine bj (l:= .par 0) (hC c) rfl (by simp only[↓aX,mX,reduceCtorEq,Nat.reduceEqDiff,Nat.reduceLT,Nat.reduceLeDiff,Nat.reduceAdd,Nat.reduceMul,Int.reduceToNat,Int.reduceLE,Int.reduceLT,bc]) ?_;rintro x1 dF ⟨rfl,rfl⟩ _ _ _;simp only[↓aX,mX,reduceCtorEq,Nat.reduceEqDiff,Nat.reduceLT,Nat.reduceLeDiff,Nat.reduceAdd,Nat.reduceMul,Int.reduceToNat,Int.reduceLE,Int.reduceLT,bc];cases hf:f c.toNat with
 |false=>
  have:dB f s=c::r:=by rw[←g_];simp[dB,hf]
  simp only[↓aX,mX,reduceCtorEq,Nat.reduceEqDiff,Nat.reduceLT,Nat.reduceLeDiff,Nat.reduceAdd,Nat.reduceMul,Int.reduceToNat,Int.reduceLE,Int.reduceLT,Ve,this];exact⟨_,rfl,rfl,eD f,bc f,by rw[bc]⟩
 |true=>
 have h2:dB f r=dB f s:=by rw[←g_];simp[dB,hf]
 have hb:ya (.int .i64 1) (r.length+1)=some 1:=rA .i64 1 _ (by omega);have E0:(c::r).take (r.length+1)=c::r:=Vq (by simp);simp only[↓aX,mX,reduceCtorEq,Nat.reduceEqDiff,Nat.reduceLT,Nat.reduceLeDiff,Nat.reduceAdd,Nat.reduceMul,Int.reduceToNat,Int.reduceLE,Int.reduceLT,Vh,bc,Vo,Ck,Cl,hb,E0,U7,Vf,Wj,VU];refine⟨⟨r,by rw[Vo] at ht;omega,h2⟩,by simp only[Vo];omega,eL ?_ (by repeat' constructor) ⟨rfl,trivial⟩⟩;intro l hl hu;by_cases e:l= .par 0
 ·subst e;simp
 exfalso;apply hu;cases l<;>simp_all[Lb.fresh,ae,Hp.none]
def oe (f:Nat→Bool) (t:Bs) (c:UInt8):eM f (t++[c])=if f c.toNat=true then eM f t else t++[c]:=by
 unfold eM dB;rw[XI];simp only[List.reverse_cons,List.reverse_nil,VH,Ww,Wl];split<;>simp
def tg {P:Program} {G:Nat→Option (List IV)} {bE aG:Nat} (hF:aw P G bE=some (22,[(none,4)],(dJ aG).bare)) (f:Nat→Bool) (s:Bs) (hs:s.length≤B)
  (hC:∀c:UInt8,cR P G aG [.ptr (.par 0) 256 0 0,.int .u8 (c.toNat:Int)] (eh f) fun x cs=>x= .bool (f c.toNat)∧cs=eh f) :
  cR P G bE [.str s,.ptr (.par 0) 256 0 0] (eh f) fun x cs=>x= .str (eM f s)∧cs=eh f:=by
 refine dw hF (by simp) (by simp[ah,AV.an]) (eD f) ?_;unfold dJ;simp only[↓aX,mX,reduceCtorEq,Nat.reduceEqDiff,Nat.reduceLT,Nat.reduceLeDiff,Nat.reduceAdd,Nat.reduceMul,Int.reduceToNat,Int.reduceLE,Int.reduceLT,Oj,bc];refine ca (σ:={n:Nat // n≤s.length∧eM f (s.take n)=eM f s}) [.par 0] (fun n=>[(0,.str (s.take n.1)),(1,.ptr (.par 0) 256 0 0)]) (fun _=>[(.par 0,⟨256,[eh f]⟩)]) (fun n=>n.1) ⟨s.length,Va _,by rw[VS]⟩
  (fun _=>rfl) (by decide) (by simp[ah,AV.an]) (fun _ q hr=>pn hr) ?_ ?_
 ·refine eL ?_ ⟨by rw[VS];rfl,rfl,trivial⟩ ⟨rfl,trivial⟩;intro l hl hu;by_cases e:l= .par 0
  ·subst e;simp
  exfalso;apply hu;cases l<;>simp_all[Lb.fresh,ae,Hp.none]
 rintro⟨n,hn,g_⟩;have I9:(s.take n).length=n:=by rw[V0];omega
 cases n with
 |zero=>
  simp only[↓aX,mX,reduceCtorEq,Nat.reduceEqDiff,Nat.reduceLT,Nat.reduceLeDiff,Nat.reduceAdd,Nat.reduceMul,Int.reduceToNat,Int.reduceLE,Int.reduceLT,cF,bW,I9,show decide (((0:Nat):Int)>0)=false from rfl];rw[←g_];exact⟨_,⟨rfl,rfl⟩,rfl,eD f,bc f,rfl⟩
 |succ n=>
 obtain⟨c,hc⟩:∃c,s[n]?=some c:=⟨_,U' (by omega)⟩;have hg:decide (((n+1:Nat):Int)>0)=true:=by rw[Vn];omega
 have hw:IntKind.i64.wrap (((n+1:Nat):Int) - 1)=(n:Int):=by rw[wrap64 (by omega) (by unfold B at hs;omega)];omega
 have Ls:(s.take (n+1))[n]?=some c:=by rw[Vs,Vd (by omega)];exact hc
 have zB:s.take (n+1)=s.take n++[c]:=mW hc;simp only[↓aX,mX,reduceCtorEq,Nat.reduceEqDiff,Nat.reduceLT,Nat.reduceLeDiff,Nat.reduceAdd,Nat.reduceMul,Int.reduceToNat,Int.reduceLE,Int.reduceLT,cF,bW,I9,hg,hw,Ls];refine bj (l:= .par 0) (hC c) rfl (by simp only[↓aX,mX,reduceCtorEq,Nat.reduceEqDiff,Nat.reduceLT,Nat.reduceLeDiff,Nat.reduceAdd,Nat.reduceMul,Int.reduceToNat,Int.reduceLE,Int.reduceLT,bc]) ?_;rintro x1 dF ⟨rfl,rfl⟩ _ _ _;simp only[↓aX,mX,reduceCtorEq,Nat.reduceEqDiff,Nat.reduceLT,Nat.reduceLeDiff,Nat.reduceAdd,Nat.reduceMul,Int.reduceToNat,Int.reduceLE,Int.reduceLT,bc];cases hf:f c.toNat with
 |false=>
  have:eM f s=s.take (n+1):=by rw[←g_,zB,oe,U8 (by rw[hf];simp)]
  simp only[↓aX,mX,reduceCtorEq,Nat.reduceEqDiff,Nat.reduceLT,Nat.reduceLeDiff,Nat.reduceAdd,Nat.reduceMul,Int.reduceToNat,Int.reduceLE,Int.reduceLT,Ve,this];exact⟨_,rfl,rfl,eD f,bc f,by rw[bc]⟩
 |true=>
 have h2:eM f (s.take n)=eM f s:=by rw[←g_,zB,oe,Vd hf]
 have hb:ya (.int .i64 (n:Int)) (n+1)=some n:=rA .i64 n _ (by omega);have E0:(s.take (n+1)).take n=s.take n:=by rw[List.take_take,XA (Nat.le_succ n)]
 simp only[↓aX,mX,reduceCtorEq,Nat.reduceEqDiff,Nat.reduceLT,Nat.reduceLeDiff,Nat.reduceAdd,Nat.reduceMul,Int.reduceToNat,Int.reduceLE,Int.reduceLT,Vh,bc,I9,hw,Ck,Cl,hb,E0,U7,Vf,VU];refine⟨⟨n,by omega,h2⟩,by simp only;omega,eL ?_ (by repeat' constructor) ⟨rfl,trivial⟩⟩;intro l hl hu;by_cases e:l= .par 0
 ·subst e;simp
 exfalso;apply hu;cases l<;>simp_all[Lb.fresh,ae,Hp.none]

def ib (dU bL aS bE aO dc bC:Nat):AC:=
(aM [aQ 4 (.iC (.c (.str [])))] (.seq (aM [MR 7 0,aQ 8 (.bin .eql (.t 7) (.c (.str []))),MR 9 8,gV 10 9 1,iR 11 9 (.bin .eql (.t 10) (.c (.str []))),sj 12 9 11] (.cond (.t 12) (aM [MR 13 0,MR 4 13] .ret) .skip)) (.seq (aM [MR 14 1,oF 15 14,eY 16 .eql 15 1,MR 17 16,cU 18 17 1,dW 19 17 (.lj (.t 18) (jS 0)),dW 20 17 (.bin .lss (.t 19) (.c (.int .u8 128))),jT 21 17 20] (.cond (.t 21) (.seq (.fK [MR 22 0,MR 23 1,aQ 24 (.lj (.t 23) (jS 0)),aQ 25 (.call dU [(.t 22),(.t 24)]),MR 26 1,aQ 27 (.lj (.t 26) (jS 0)),aQ 28 (.call bL [(.t 25),(.t 27)]),MR 4 28] [[],[],[1],[0,2],[],[4],[3,5,3],[6,6,0,1,2,3,4,5,6]] [.no,.no,.no,.no,.no,.no,.no,.no]) .ret) .skip)) (.seq (aM [MR 30 1,aQ 31 (.call aS [(.t 30)]),MR 29 31,ox 32 29 0,ox 33 29 1,aQ 5 (.new (List.replicate 256 (.bool false))),gg (.store 256 (.t 5) (.t 32)),MR 6 33] (aM [MR 34 6] (.cond (.t 34) (aM [MR 35 0,aQ 36 (.call bE [(.t 35),(.t 5)]),aQ 37 (.call aO [(.t 36),(.t 5)]),MR 4 37] .ret) .skip))) (aM [MR 38 0,MR 39 1,aQ 40 (.call dc [(.t 38),(.t 39)]),MR 41 1,aQ 42 (.call bC [(.t 40),(.t 41)]),MR 4 42] .ret)))))
def A6 (f:Nat→Bool) (s:Bs):(eM f s).length≤s.length:=by
 unfold eM dB;rw[Ye];have:=(Wa (l:=s.reverse) (fun c=>f c.toNat)).length_le
 rwa[Ye] at this
def GB {P:Program} {G:Nat→Option (List IV)} {de aS bE aO dU bL dc bC:Nat} (hF:aw P G de=some (43,[(none,4)],(ib dU bL aS bE aO dc bC).bare)) (s t:Bs) (hs:s.length≤B) (ht:2≤t.length)
  (hM:au P G aS [.str t] (.gf [.agg (eh (er t)),.bool true]))
  (hR:cR P G bE [.str s,.ptr (.par 0) 256 0 0] (eh (er t)) fun x cs=>x= .str (eM (er t) s)∧cs=eh (er t))
  (hL:cR P G aO [.str (eM (er t) s),.ptr (.par 0) 256 0 0] (eh (er t)) fun x cs=>x= .str (dB (er t) (eM (er t) s))∧cs=eh (er t)) :
  au P G de [.str s,.str t] (.str (dB (er t) (eM (er t) s))):=by
 refine aR hF (by simp) (by simp[ah,AV.an]) (by simp[AV.an]) ?_;unfold ib;simp only[↓aX,mX,reduceCtorEq,Nat.reduceEqDiff,Nat.reduceLT,Nat.reduceLeDiff,Nat.reduceAdd,Nat.reduceMul,Int.reduceToNat,Int.reduceLE,Int.reduceLT];have e1:(t==[])=false:=by cases t<;>simp_all
 have e2:(((t.length:Nat):Int)==1)=false:=by rw[VX];omega
 cases wo:(s==[]) with
 |true=>
  have:s=[]:=by simpa using wo
  subst this;simp only[↓aX,mX,reduceCtorEq,Nat.reduceEqDiff,Nat.reduceLT,Nat.reduceLeDiff,Nat.reduceAdd,Nat.reduceMul,Int.reduceToNat,Int.reduceLE,Int.reduceLT];rfl
 |false=>
 simp only[↓aX,mX,reduceCtorEq,Nat.reduceEqDiff,Nat.reduceLT,Nat.reduceLeDiff,Nat.reduceAdd,Nat.reduceMul,Int.reduceToNat,Int.reduceLE,Int.reduceLT,e1,e2];refine ay hM ?_;simp only[↓aX,mX,reduceCtorEq,Nat.reduceEqDiff,Nat.reduceLT,Nat.reduceLeDiff,Nat.reduceAdd,Nat.reduceMul,Int.reduceToNat,Int.reduceLE,Int.reduceLT,Wn,qo,bc,mz,mA,od,V5];refine bj (l:= .loc 5) hR rfl (by simp only[↓aX,mX,reduceCtorEq,Nat.reduceEqDiff,Nat.reduceLT,Nat.reduceLeDiff,Nat.reduceAdd,Nat.reduceMul,Int.reduceToNat,Int.reduceLE,Int.reduceLT,bc]) ?_;rintro x1 dF ⟨rfl,rfl⟩ _ _ _;simp only[↓aX,mX,reduceCtorEq,Nat.reduceEqDiff,Nat.reduceLT,Nat.reduceLeDiff,Nat.reduceAdd,Nat.reduceMul,Int.reduceToNat,Int.reduceLE,Int.reduceLT,bc,Wn];refine bj (l:= .loc 5) hL rfl (by simp only[↓aX,mX,reduceCtorEq,Nat.reduceEqDiff,Nat.reduceLT,Nat.reduceLeDiff,Nat.reduceAdd,Nat.reduceMul,Int.reduceToNat,Int.reduceLE,Int.reduceLT,bc]) ?_;rintro x1 dF ⟨rfl,rfl⟩ _ _ _;simp only[↓aX,mX,reduceCtorEq,Nat.reduceEqDiff,Nat.reduceLT,Nat.reduceLeDiff,Nat.reduceAdd,Nat.reduceMul,Int.reduceToNat,Int.reduceLE,Int.reduceLT,bc]
theorem ku (f:Nat→Bool):∀s:Bs,dB f s=[]↔s.all (fun c=>f c.toNat)=true
 |[]=>by simp[dB]
 |c::r=>by
  have ih:=ku f r;unfold dB at ih ⊢;rw[Wl,Xt];cases h:f c.toNat with
  |true=>rw[Vd rfl,ih];simp
  |false=>simp
def yd (f:Nat→Bool) (s:Bs):dB f (eM f s)=[]↔s.all (fun c=>f c.toNat)=true:=by
 constructor
 ·intro h;cases dN:s.all (fun c=>f c.toNat) with
  |true=>rfl
  |false=>
  have h1:∃x,x∈dB f s.reverse∧f x.toNat=false:=by
   have:(s.reverse).all (fun c=>f c.toNat)=false:=(by rw[Xw];exact dN);have fO:dB f s.reverse≠[]:=fun e=>(by rw[(ku f _).1 e] at this;cases this);unfold dB at fO ⊢;cases hd:(s.reverse.dropWhile fun c=>f c.toNat) with
   |nil=>exact absurd hd fO
   |cons x r=>
   refine⟨x,by simp,?_⟩;have:=Xl (p:=fun c:UInt8=>f c.toNat) (l:=s.reverse);rw[hd] at this;simpa using this
  obtain⟨x,hx,Lt⟩:=h1;have h2:=(ku f _).1 h;have h3:=Vx.1 h2 x (by unfold eM;simpa using hx);rw[Lt] at h3;cases h3
 intro h;have:dB f s.reverse=[]:=(ku f _).2 (by rw[Xw];exact h);unfold eM;rw[this];rfl
def cY:Bs:=[97,98,99,100,101,102,103,104,105,106,107,108,109,110,111,112,113,114,115,116,117,118,119,120,121,122]
def vN (c:UInt8):er cY c.toNat=Oq c:=by
 have:∀n:Fin 256,er cY (UInt8.ofNat n.val).toNat=Oq (UInt8.ofNat n.val):=by decide +kernel
 have h:=this ⟨c.toNat,c.toNat_lt⟩;simpa using h
def ye (s:Bs):named s=(decide (s≠[])&&(decide (((s.length:Nat):Int)≤8)&&(dB (er cY) (eM (er cY) s)==[]))):=by
 have h1:(s.all fun c=>er cY c.toNat)=s.all Oq:=by congr 1;funext c;exact vN c
 have h2:(dB (er cY) (eM (er cY) s)==[])=s.all Oq:=by
  rw[←h1,VY,V8];exact yd _ s
 have h3:decide ((s.length:Int)≥1)=decide (s≠[]):=by
  rw[Xb];cases s with
  |nil=>simp
  |cons c r=>simp;omega
 rw[h2,named,h3];cases decide (s≠[])<;>cases s.all Oq<;>simp
def eQ (de:Nat):AC:=
(aM [jM 2 false] (aM [MR 3 0,aQ 4 (.bin .neq (.t 3) (.c (.str []))),MR 5 4,cU 6 5 0,dW 7 5 (.lens (.t 6)),dW 8 5 (.bin .leq (.t 7) (jS 8)),jT 9 5 8,MR 10 9,cU 11 10 0,dW 12 10 (.call de [(.t 11),(.c (.str [97,98,99,100,101,102,103,104,105,106,107,108,109,110,111,112,113,114,115,116,117,118,119,120,121,122]))]),dW 13 10 (.bin .eql (.t 12) (.c (.str []))),jT 14 10 13,MR 2 14] .ret))
def A7 {P:Program} {G:Nat→Option (List IV)} {bd de:Nat} (hF:aw P G bd=some (15,[(none,2)],(eQ de).bare)) (s:Bs)
  (hT:au P G de [.str s,.str cY] (.str (dB (er cY) (eM (er cY) s)))):au P G bd [.str s] (.bool (named s)):=by
 refine aR hF (by simp) (by simp[ah,AV.an]) (by simp[AV.an]) ?_;unfold eQ;rw[ye];simp only[↓aX,mX,seval];cases h1:(s==[]) with
 |true=>
  have wL:s=[]:=by simpa using h1
  simp only[↓aX,mX,seval,Vh,wL];rfl
 |false=>
 have wL:s≠[]:=by simpa using h1
 simp only[↓aX,mX,seval,Ve];cases h2:decide (((s.length:Nat):Int)≤8) with
 |false=>simp only[↓aX,mX,seval,XK wL,WQ,WV]
 |true=>
 simp only[↓aX,mX,seval];refine ay hT ?_;simp only[↓aX,mX,seval,XK wL,WQ]

def eE:AC:=
(aM [jM 2 false] (aM [MR 3 0,aQ 4 (.bin .eql (.t 3) (.c (.int .u8 10))),MR 5 4,gV 6 5 0,iR 7 5 (.bin .geq (.t 6) (.c (.int .u8 32))),gV 8 5 7,cU 9 8 0,dW 10 8 (.bin .lss (.t 9) (.c (.int .u8 127))),iR 11 5 (.pick (.t 8) (.t 10) (me false)),sj 12 5 11,MR 2 12] .ret))
def yf {P:Program} {G:Nat→Option (List IV)} {bR:Nat} (hF:aw P G bR=some (13,[(none,2)],eE.bare)) (c:UInt8):au P G bR [.int .u8 (c.toNat:Int)] (.bool (dI c)):=by
 refine aR hF (by simp) (by simp[ah,AV.an]) (by simp[AV.an]) ?_;unfold eE;simp only[↓aX,mX,seval];cases h1:((c.toNat:Int)==10) with
 |true=>
  have wL:(c.toNat:Int)=10:=by simpa using h1
  simp only[↓aX,mX,seval];simp[dI,wL]
 |false=>
 have wL:(c.toNat:Int)≠10:=by simpa using h1
 simp only[↓aX,mX,seval];cases h2:decide ((c.toNat:Int)≥32) with
 |false=>
  have H6:=XO h2;simp only[↓aX,mX,seval];have:dI c=false:=by unfold dI;simp[wL];omega
  simp only[this]
 |true=>
 have H6:=W1 h2;simp only[↓aX,mX,seval];have:dI c=decide ((c.toNat:Int)<127):=by
  unfold dI;rw[show((c.toNat:Int) !=10)=true by simpa using wL,show decide ((c.toNat:Int)<32)=false by simp;omega];simp only[WQ,Yd];rw[←decide_not,Xb];omega
 rw[this]
def NK (bR:Nat):AC:=
(aM [jM 2 false] (.seq (aM [MR 5 0,aQ 6 (.zg (.t 5)),oy 7 6,gH 8 0] (.block 0 (.loop (aM [et 9 .lss 8 7] (.seq (.cond (.t 9) .skip (.exit 0)) (.seq (.block 1 (aM [jL 10 6 8 1,fm 11 10,MR 4 11] (aM [MR 12 4,aQ 13 (.call bR [(.t 12)]),sB 14 13] (.cond (.t 14) (aM [jM 2 false] .ret) .skip)))) (.cq [eY 15 .add 8 1,MR 8 15]))))))) (aM [MR 16 0,oF 17 16,eY 18 .leq 17 40,MR 2 18] .ret)))
def E4 (s:Bs):List IV:=s.map fun c=> .int .u8 (c.toNat:Int)
def A8 (s:Bs):(E4 s).length=s.length:=by simp[E4]
def A9 (s:Bs) (i:Nat):(E4 s)[i]?=(s[i]?).map fun c=> .int .u8 (c.toNat:Int):=VL ..
def D5 (s:Bs):jV 1 (E4 s):=by
 intro x hx;obtain⟨a,_,rfl⟩:=VC.1 hx;rfl
def yg {P:Program} {G:Nat→Option (List IV)} {a8 bR:Nat} (hF:aw P G a8=some (19,[(none,2)],(NK bR).bare)) (s:Bs) (hs:s.length≤B)
  (hP:∀c:UInt8,au P G bR [.int .u8 (c.toNat:Int)] (.bool (dI c))):au P G a8 [.str s] (.bool (plain s)):=by
 refine aR hF (by simp) (by simp[ah,AV.an]) (by simp[AV.an]) ?_;have hB:s.length≤140737488355328:=by unfold B at hs;omega
 have hu:(s.map fun c=>IV.int .u8 (c.toNat:Int))=E4 s:=rfl;unfold NK;simp only[↓aX,mX,seval,Vd hB,hu,A8];refine kk (σ:={i:Nat // i≤s.length∧(s.take i).all dI=true}) (fun q=>[(0,.str s),(6,.list (E4 s)),(7,.int .i64 s.length),(8,.int .i64 q.1)]) (fun q=>s.length - q.1) ⟨0,by simp⟩ (fun _=>rfl) ?_ ?_
 ·exact⟨by simp only[↓aX,mX,seval],by repeat' constructor⟩
 rintro⟨i,hi,g_⟩;simp only[↓aX,mX,seval];by_cases bI:i<s.length
 ·rw[show decide ((i:Int)<(s.length:Int))=true by simpa using bI];obtain⟨c,hc⟩:∃c,s[i]?=some c:=⟨_,U' bI⟩;have hw:IntKind.i64.wrap ((i:Int)+1)=((i+1:Nat):Int):=wrap64 (by omega) (by unfold B at hs;omega);simp only[↓aX,mX,seval,A9,hc,D5,Vf,IV.cells];refine ay (hP c) ?_;cases hp:dI c with
  |false=>
   have:plain s=false:=by
    unfold plain;rw[show s.all dI=false by rw[Xq];intro h;have:=Vx.1 h c (U_ hc);rw[hp] at this;cases this];rfl
   simp only[↓aX,mX,seval,Ve,this]
  |true=>
  simp only[↓aX,mX,seval,Vh,hw];exact⟨⟨i+1,bI,Pw g_ hc hp⟩,by simp only;omega,rfl⟩
 have oI:i=s.length:=by omega
 subst oI;rw[VS] at g_;rw[show decide ((s.length:Int)<(s.length:Int))=false by simp];simp only[↓aX,mX,seval,plain,g_,WQ]

def qH:Bs:=[38,108,116,59]
def rC:Bs:=[38,103,116,59]
def kD:Bs:=[38,97,109,112,59]
def jc:Bs:=[38,113,117,111,116,59]
def jQ (v:Bool) (c:UInt8):Bs:=
 if c=60 then qH else if c=62 then rC else if c=38 then kD else if c=34∧v=true then jc else [c]
def fG (v:Bool) (s:Bs):Bs:=s.flatMap (jQ v)
def iK (a:Attr):Bs:=32::a.name++[61,34]++fG true a.val++[34]
def bl (as:List Attr):Bs:=as.flatMap iK
mutual
def Tree.sh:Tree→Bs
 | .mk t s as ks=>if t then fG false s else 60::s++bl as++(match ks with
  |[]=>[47,62]
  |k::r=>62::(k.sh++je r)++[60,47]++s++[62])
def je:List Tree→Bs
 |[]=>[]
 |x::r=>x.sh++je r
end
def Tree.yh (x:Tree) (h:x.text=true):x.sh=fG false x.s:=by
 cases x with
 |mk t s as ks=>simp only[Tree.text] at h;subst h;cases ks<;>simp[Tree.sh,Tree.s]
def nj (s:Bs):List Tree→Bs
 |[]=>[47,62]
 |k::r=>62::je (k::r)++[60,47]++s++[62]
def qp (s:Bs) {ks:List Tree} (h:ks≠[]):nj s ks=62::je ks++[60,47]++s++[62]:=by
 cases ks with
 |nil=>exact absurd rfl h
 |cons k r=>rfl
def Tree.QO (x:Tree) (h:x.text=false):x.sh=60::x.s++bl x.attrs++nj x.s x.kids:=by
 cases x with
 |mk t s as ks=>
 simp only[Tree.text] at h;subst h;cases ks<;>simp[Tree.sh,Tree.s,Tree.attrs,Tree.kids,je,nj]
def bz (c:UInt8):Bool:=decide (97≤c)&&decide (c≤122)
def isSp (c:UInt8):Bool:=c==32||c==10
def ga (c:UInt8):Bool:=c==10||(decide (32≤c)&&decide (c≤126))
def l6 (s:Bs):Option (Bs×Bs):=
 let n:=s.takeWhile bz
 if n=[]∨8<n.length then none else some (n,s.dropWhile bz)
def iA (p s:Bs):Option Bs:=if p.isPrefixOf s then some (s.drop p.length) else none
def og (s:Bs):Option (UInt8×Bs):=
 if qH.isPrefixOf s then some (60,s.drop 4) else if rC.isPrefixOf s then some (62,s.drop 4) else if kD.isPrefixOf s then some (38,s.drop 5) else if jc.isPrefixOf s then some (34,s.drop 6) else none
def nw {s r:Bs} {c:UInt8} (h:og s=some (c,r)):r.length<s.length:=by
 unfold og at h;have key:∀p:Bs,0<p.length→p.isPrefixOf s=true→(s.drop p.length).length<s.length:=fun p h0 hp=>by
  obtain⟨q,rfl⟩:=Vt.1 hp;simp;omega
 split at h
 ·rename_i hp;simp only[di,U6] at h;obtain⟨_,rfl⟩:=h;exact key qH (by decide) hp
 split at h
 ·rename_i hp;simp only[di,U6] at h;obtain⟨_,rfl⟩:=h;exact key rC (by decide) hp
 split at h
 ·rename_i hp;simp only[di,U6] at h;obtain⟨_,rfl⟩:=h;exact key kD (by decide) hp
 split at h
 ·rename_i hp;simp only[di,U6] at h;obtain⟨_,rfl⟩:=h;exact key jc (by decide) hp
 simp at h
def bm (v:Bool) (s:Bs):Option (Bs×Bs):=
 match s with
 |[]=>some ([],[])
 |c::r=>
  if c=60∨(c=34∧v=true) then some ([],c::r)
  else if c=38 then
   match h:og (c::r) with
   |some (e,q)=>(bm v q).map fun x=>(e::x.1,x.2)
   |none=>none
  else if c=62∨ga c=false then none
  else(bm v r).map fun x=>(c::x.1,x.2)
termination_by s.length
decreasing_by
 ·exact nw h
 simp
def mC {v:Bool}:∀(n:Nat) (s t r:Bs),s.length≤n→bm v s=some (t,r)→r.length+t.length≤s.length:=by
 intro n;induction n with
 |zero=>
  intro s t r hn h;have:s=[]:=Vv.1 (by omega);subst this;rw[bm] at h;simp at h;obtain⟨rfl,rfl⟩:=h;simp
 |succ n ih=>
 intro s t r hn h;cases s with
 |nil=>rw[bm] at h;simp at h;obtain⟨rfl,rfl⟩:=h;simp
 |cons c q=>
 rw[bm] at h;split at h
 ·simp only[di,U6] at h;obtain⟨rfl,rfl⟩:=h;simp
 split at h
 ·split at h
  ·rename_i e q' he;have:=nw he;obtain⟨⟨t',r'⟩,h1,h2⟩:=oA.1 h;simp only[U6] at h2;obtain⟨rfl,rfl⟩:=h2;have:=ih q' t' r' (by simp at this hn;omega) h1;simp at *;omega
  simp at h
 split at h
 ·simp at h
 obtain⟨⟨t',r'⟩,h1,h2⟩:=oA.1 h;simp only[U6] at h2;obtain⟨rfl,rfl⟩:=h2;have:=ih q t' r' (by simp at hn;omega) h1;simp at *;omega
theorem mD (v:Bool):∀(s r:Bs),s.all dI=true→(∀c r',r=c::r'→c=60∨(c=34∧v=true))→bm v (fG v s++r)=some (s,r)
 |[],r,_,hr=>by
  cases r with
  |nil=>simp[fG,bm]
  |cons c r'=>simp only[fG,XX,VH];rw[bm,Vd (hr c r' rfl)]
 |c::s,r,hp,hr=>by
  simp only[Xt,Vc] at hp;have ih:=mD v s r hp.2 hr;have e:fG v (c::s)++r=jQ v c++(fG v s++r):=by simp[fG]
  rw[e];have HD:∀(w:Bs) (d:UInt8),(∀q:Bs,og (w++q)=some (d,q))→(∃w',w=38::w')→bm v (w++(fG v s++r))=some (d::s,r):=by
   intro w d h1 ⟨w',h2⟩;have h3:=h1 (fG v s++r);subst h2;simp only[Vb] at h3 ⊢;rw[bm,U8 (by simp),Vd rfl];split
   ·rename_i e q h4;rw[h3] at h4;simp only[di,U6] at h4;obtain⟨rfl,rfl⟩:=h4;rw[ih];rfl
   rename_i h4;rw[h3] at h4;cases h4
  unfold jQ;split
  ·rename_i h;subst h;exact HD qH 60 (fun q=>by simp[og,qH,List.isPrefixOf]) ⟨_,rfl⟩
  rename_i h1;split
  ·rename_i h;subst h;exact HD rC 62 (fun q=>by simp[og,qH,rC,List.isPrefixOf]) ⟨_,rfl⟩
  rename_i h2;split
  ·rename_i h;subst h;exact HD kD 38 (fun q=>by simp[og,qH,rC,kD,List.isPrefixOf]) ⟨_,rfl⟩
  rename_i h3;split
  ·rename_i h;obtain⟨rfl,rfl⟩:=h;exact HD jc 34 (fun q=>by simp[og,qH,rC,kD,jc,List.isPrefixOf]) ⟨_,rfl⟩
  rename_i h4;simp only[Vb,VH];have hc:ga c=true:=by
   have h:=hp.1;simp only[dI,Wc,W8,WM,Yf,Wd] at h;simp only[ga,Wg,V8,Vc,Vn,Wb];rcases h with h|h
   ·left;exact XE (by show c.toNat=10;omega)
   right;constructor
   ·show(32:UInt8).toNat≤_;simp;omega
   show _≤(126:UInt8).toNat;simp;omega
  rw[bm,U8 (fun h=>h.elim h1 h4),U8 h3,U8 (fun h=>h.elim h2 (fun h=>by rw[hc] at h;cases h)),ih];rfl

def gF (l:List Attr) (a:Attr):List Attr:=
 match l with
 |[]=>[a]
 |b::r=>if Op.bytesLess a.name b.name then a::b::r else b::gF r a
def cu (l:List Attr):List Attr:=l.foldl gF []
def l7 (s:Bs):Option (Attr×Bs):=
 (l6 s).bind fun x=>(iA [61,34] x.2).bind fun r=>(bm true r).bind fun y=>(iA [34] y.2).map fun q=>(⟨x.1,y.1⟩,q)
def gQ {p s r:Bs} (h:iA p s=some r):r.length+p.length=s.length:=by
 unfold iA at h;split at h
 ·rename_i hp;obtain⟨q,rfl⟩:=Vt.1 hp;simp only[di] at h;subst h;simp;omega
 simp at h
def mE {s n r:Bs} (h:l6 s=some (n,r)):s=n++r∧n≠[]:=by
 unfold l6 at h;simp only at h;split at h
 ·simp at h
 rename_i hn;simp only[di,U6] at h;obtain⟨rfl,rfl⟩:=h;exact⟨WG.symm,fun e=>hn (.inl e)⟩
def rD {s r:Bs} {a:Attr} (h:l7 s=some (a,r)):r.length+a.name.length+a.val.length+3≤s.length:=by
 unfold l7 at h;obtain⟨⟨n,r1⟩,h1,h⟩:=U5.1 h;obtain⟨r2,h2,h⟩:=U5.1 h;obtain⟨⟨v,r3⟩,h3,h⟩:=U5.1 h;obtain⟨r4,h4,h⟩:=oA.1 h;simp only[U6] at h;obtain⟨rfl,rfl⟩:=h;obtain⟨rfl,_⟩:=mE h1;have e2:=gQ h2;have e3:=mC _ _ _ _ (Va _) h3;have e4:=gQ h4;simp at *;omega
def jf (p:UInt8→Bool) (s:Bs):(s.dropWhile p).length≤s.length:=(Wa p).length_le
def iL (s s1:Bs):Bool:=decide (s1.length<s.length)&&match s1 with
 |[]=>false
 |c::_=> !(c==62)&& !(c==47)
def ea (s:Bs):Option (List Attr×Bs):=
 if iL s (s.dropWhile isSp) then match h:l7 (s.dropWhile isSp) with
  |some (a,r)=>(ea r).map fun x=>(a::x.1,x.2)
  |none=>none
 else some ([],s.dropWhile isSp)
termination_by s.length
decreasing_by
 have:=rD h;have:=jf isSp s;omega
def kO (s:Bs):Option (Bs×List Attr×Bs):=
 (iA [60] s).bind fun r=>(l6 r).bind fun x=>(ea x.2).map fun y=>(x.1,y.1,y.2)
def ka (nm s:Bs):Option Bs:=
 (iA [60,47] s).bind fun r=>(l6 r).bind fun x=>if x.1=nm then iA [62] (x.2.dropWhile isSp) else none
def dM (el:Bs→Option (Tree×Bs)) (s:Bs):Option (List Tree×Bs):=
 match s with
 |[]=>some ([],[])
 |c::q=>
  if [60,47].isPrefixOf (c::q) then some ([],c::q)
  else match(if c=60 then el (c::q) else(bm false (c::q)).map fun x=>(Tree.mk true x.1 [] [],x.2)) with
   |some (t,r)=>if h:r.length<(c::q).length then(dM el r).map fun x=>(t::x.1,x.2) else none
   |none=>none
termination_by s.length
def bG:Nat→Bs→Option (Tree×Bs)
 |0,_=>none
 |d+1,s=>(kO s).bind fun x=>
  if [47,62].isPrefixOf x.2.2 then some (.mk false x.1 (cu x.2.1) [],x.2.2.drop 2)
  else(iA [62] x.2.2).bind fun r=>(dM (bG d) r).bind fun y=>(ka x.1 y.2).map fun q=>(.mk false x.1 (cu x.2.1) y.1,q)
def tj:∀(n:Nat) (s:Bs) (l:List Attr) (r:Bs),s.length≤n→ea s=some (l,r)→r.length+dX l≤s.length:=by
 intro n;induction n with
 |zero=>
  intro s l r hn h;have:s=[]:=Vv.1 (by omega);subst this;rw[ea] at h;simp[iL] at h;obtain⟨rfl,rfl⟩:=h;simp[dX]
 |succ n ih=>
 intro s l r hn h;rw[ea] at h;have h0:=jf isSp s;split at h
 ·split at h
  ·rename_i a q ha;have h1:=rD ha;obtain⟨⟨l',r'⟩,h2,h3⟩:=oA.1 h;simp only[U6] at h3;obtain⟨rfl,rfl⟩:=h3;have:=ih q l' r' (by omega) h2;simp only[dX,Attr.wt];omega
  simp at h
 simp only[di,U6] at h;obtain⟨rfl,rfl⟩:=h;simp[dX];exact h0
theorem uM (a:Attr):∀l:List Attr,dX (gF l a)=dX l+a.wt
 |[]=>by simp[gF,dX]
 |b::r=>by unfold gF;split<;>simp[dX,uM a r]<;>omega
theorem rE:∀(l acc:List Attr),dX (l.foldl gF acc)=dX acc+dX l
 |[],acc=>by simp[dX]
 |a::r,acc=>by simp only[W6,rE r,uM,dX];omega
def rF (l:List Attr):dX (cu l)=dX l:=by unfold cu;rw[rE];simp[dX]
def vO {s nm r:Bs} {as:List Attr} (h:kO s=some (nm,as,r)):r.length+nm.length+dX as+1≤s.length∧0<nm.length:=by
 unfold kO at h;obtain⟨r1,h1,h⟩:=U5.1 h;obtain⟨⟨n,r2⟩,h2,h⟩:=U5.1 h;obtain⟨⟨l,r3⟩,h3,h⟩:=oA.1 h;simp only[U6] at h;obtain⟨rfl,rfl,rfl⟩:=h;have e1:=gQ h1;obtain⟨rfl,e2⟩:=mE h2;have e3:=tj _ _ _ _ (Va _) h3;have:0<n.length:=Wz.2 e2;simp at *;omega
def QP {nm s r:Bs} (h:ka nm s=some r):r.length<s.length:=by
 unfold ka at h;obtain⟨r1,h1,h⟩:=U5.1 h;obtain⟨⟨n,r2⟩,h2,h5⟩:=U5.1 h;split at h5
 ·have e1:=gQ h1;have e3:=gQ h5;obtain⟨rfl,e2⟩:=mE h2;have:=jf isSp r2;simp at *;omega
 simp at h5
def vP {el:Bs→Option (Tree×Bs)} (ll:∀s t r,el s=some (t,r)→t.wt+3*r.length≤3*s.length):∀(n:Nat) (s:Bs) (l:List Tree) (r:Bs),s.length≤n→dM el s=some (l,r)→dE l+3*r.length≤3*s.length:=by
 intro n;induction n with
 |zero=>
  intro s l r hn h;have:s=[]:=Vv.1 (by omega);subst this;rw[dM] at h;simp at h;obtain⟨rfl,rfl⟩:=h;simp[dE]
 |succ n ih=>
 intro s l r hn h;cases s with
 |nil=>rw[dM] at h;simp at h;obtain⟨rfl,rfl⟩:=h;simp[dE]
 |cons c q=>
 rw[dM] at h;split at h
 ·simp only[di,U6] at h;obtain⟨rfl,rfl⟩:=h;simp[dE]
 split at h
 ·rename_i t r1 h1;split at h
  ·rename_i bI;obtain⟨⟨l',r'⟩,h2,h3⟩:=oA.1 h;simp only[U6] at h3;obtain⟨rfl,rfl⟩:=h3;have e1:=ih r1 l' r' (by omega) h2;have e2:t.wt+3*r1.length≤3*(c::q).length:=by
    split at h1
    ·exact ll _ _ _ h1
    obtain⟨⟨tx,r2⟩,h4,h5⟩:=oA.1 h1;simp only[U6] at h5;obtain⟨rfl,rfl⟩:=h5;have:=mC _ _ _ _ (Va _) h4;simp[Tree.wt,dX,dE] at *;omega
   simp only[dE];omega
  simp at h
 simp at h
theorem l9:∀(d:Nat) (s:Bs) (t:Tree) (r:Bs),bG d s=some (t,r)→t.wt+3*r.length≤3*s.length
 |0,s,t,r,h=>by simp[bG] at h
 |d+1,s,t,r,h=>by
  unfold bG at h;obtain⟨⟨nm,as,r1⟩,h1,h⟩:=U5.1 h;obtain⟨e1,e2⟩:=vO h1;split at h
  ·rename_i hp;obtain⟨q,hq⟩:=Vt.1 hp;simp only[di,U6] at h;obtain⟨rfl,rfl⟩:=h;simp only at hq;subst hq;simp[Tree.wt,rF,dE] at *;omega
  obtain⟨r2,h2,h⟩:=U5.1 h;obtain⟨⟨ks,r3⟩,h3,h⟩:=U5.1 h;obtain⟨r4,h4,h⟩:=oA.1 h;simp only[U6] at h;obtain⟨rfl,rfl⟩:=h;have k1:=gQ h2;have k2:=vP (l9 d) _ _ _ _ (Va _) h3;have k3:=QP h4;simp[Tree.wt,rF] at *;omega
def vQ (c:UInt8):Oq c=bz c:=by
 unfold Oq bz;rw[VY];simp only[Wc,WM,Wd,Vc,Vn,Wb];show _↔97≤c.toNat∧c.toNat≤122;omega
def mF (s:Bs):named s=true↔(∀c∈s,bz c=true)∧s≠[]∧s.length≤8:=by
 simp only[named,Vc,Vx,Vn,vQ];constructor
 ·rintro⟨h1,h2,h3⟩;exact⟨h1,by rintro rfl;simp at h2,by omega⟩
 rintro⟨h1,h2,h3⟩;have:=Wz.2 h2;exact⟨h1,by omega,by omega⟩
theorem kv {p:UInt8→Bool}:∀(s r:Bs),(∀c∈s,p c=true)→(∀c q,r=c::q→p c=false)→(s++r).takeWhile p=s∧(s++r).dropWhile p=r
 |[],r,_,h=>by
  cases r with
  |nil=>simp
  |cons c q=>simp[h c q rfl]
 |c::s,r,h1,h2=>by
  have h:=kv s r (fun x hx=>h1 x (by simp[hx])) h2;simp[h1 c (by simp),h.1,h.2]
def mG {n r:Bs} (hn:named n=true) (hr:∀c q,r=c::q→bz c=false):l6 (n++r)=some (n,r):=by
 obtain⟨h1,h2,h3⟩:=(mF n).1 hn;obtain⟨e1,e2⟩:=kv n r h1 hr;unfold l6;simp only[e1,e2];rw[U8 (by rintro(h|h);exact h2 h;omega)]
def gR (p r:Bs):iA p (p++r)=some r:=by
 unfold iA;rw[Vd (Vt.2 ⟨r,rfl⟩)];simp
def pq {s:Bs} (h:plain s=true):s.all dI=true:=by
 simp only[plain,Vc] at h;exact h.1
def pr {a:Attr} {r:Bs} (hn:named a.name=true) (hv:plain a.val=true):l7 (a.name++([61,34]++(fG true a.val++([34]++r))))=some (a,r):=by
 unfold l7;rw[mG hn (by intro c q h;simp only[Vb,Vj] at h;rw[←h.1];rfl)];simp only[U7];rw[gR];simp only[U7];rw[mD true a.val _ (pq hv) (by intro c q h;simp only[Vb,Vj] at h;exact .inr ⟨h.1.symm,rfl⟩)];simp only[U7];rw[gR];rfl
theorem oh:∀(as:List Attr) (r:Bs),(∀a∈as,named a.name=true∧plain a.val=true)→(∀c q,r=c::q→c=62∨c=47)→ea (bl as++r)=some (as,r)
 |[],r,_,hr=>by
  have hd:r.dropWhile isSp=r:=by
   cases r with
   |nil=>rfl
   |cons c q=>rcases hr c q rfl with rfl|rfl<;>rfl
  rw[ea];simp only[bl,XX,VH,hd];rw[U8 (by simp[iL])]
 |a::as,r,ha,hr=>by
  have hn:=ha a (by simp);obtain⟨h1,h2,h3⟩:=(mF a.name).1 hn.1;have e:bl (a::as)++r=32::(a.name++([61,34]++(fG true a.val++([34]++(bl as++r))))):=by simp[bl,iK]
  obtain⟨c,q,hc⟩:∃c q,a.name=c::q:=by cases hx:a.name with
   |nil=>exact absurd hx h2
   |cons c q=>exact⟨c,q,rfl⟩
  have vR:bz c=true:=h1 c (by rw[hc];simp);have wu:isSp c=false:=by
   simp only[bz,Vc,Vn,Wb] at vR;simp only[isSp,WM,VX];constructor<;>(rintro rfl;revert vR;decide)
  have fO:(c==62)=false∧(c==47)=false:=by
   simp only[bz,Vc,Vn,Wb] at vR;simp only[VX];constructor<;>(rintro rfl;revert vR;decide)
  have hd:(32::(a.name++([61,34]++(fG true a.val++([34]++(bl as++r)))))).dropWhile isSp=a.name++([61,34]++(fG true a.val++([34]++(bl as++r)))):=by
   rw[List.dropWhile_cons_of_pos (by rfl),hc];simp[wu]
  rw[e,ea,hd,Vd (by
   unfold iL;rw[hc];simp only[Vb,fO.1,fO.2];simp)]
  split
  ·rename_i a' q' h4;rw[pr hn.1 hn.2] at h4;simp only[di,U6] at h4;obtain⟨rfl,rfl⟩:=h4;rw[oh as r (fun x hx=>ha x (by simp[hx])) hr];rfl
  rename_i h4;rw[pr hn.1 hn.2] at h4;cases h4

def mH (a:UInt8):¬a<a:=by rw[Xy];omega
def yi {a b c:UInt8} (h:a<b) (h2:b<c):a<c:=by rw[Xy] at *;omega
def yj (a b:UInt8):a<b∨a=b∨b<a:=by
 simp only[Xy];rcases Nat.lt_trichotomy a.toNat b.toNat with h|h|h
 ·exact .inl h
 ·exact .inr (.inl (XE h))
 exact .inr (.inr h)
theorem qq:∀x:Bs,Op.bytesLess x x=false
 |[]=>rfl
 |a::x=>by simp[Op.bytesLess,mH,qq x]
theorem rG:∀{x y z:Bs},Op.bytesLess x y=true→Op.bytesLess y z=true→Op.bytesLess x z=true
 |[],[],_,h,_=>by simp[Op.bytesLess] at h
 |[],_::_,[],_,h=>by simp[Op.bytesLess] at h
 |[],_::_,_::_,_,_=>rfl
 |_::_,[],_,h,_=>by simp[Op.bytesLess] at h
 |_::_,_::_,[],_,h=>by simp[Op.bytesLess] at h
 |a::x,b::y,c::z,h1,h2=>by
  simp only[Op.bytesLess,Wg,Vn,Vc,V8] at h1 h2 ⊢;rcases h1 with h1|⟨rfl,h1⟩
  ·rcases h2 with h2|⟨rfl,h2⟩
   ·exact .inl (yi h1 h2)
   exact .inl h1
  rcases h2 with h2|⟨rfl,h2⟩
  ·exact .inl h2
  exact .inr ⟨rfl,rG h1 h2⟩
def ny {x y:Bs} (h:Op.bytesLess x y=true):Op.bytesLess y x=false:=by
 cases h2:Op.bytesLess y x with
 |false=>rfl
 |true=>have:=rG h h2;rw[qq] at this;cases this
theorem tl:∀x y:Bs,Op.bytesLess x y=true∨x=y∨Op.bytesLess y x=true
 |[],[]=> .inr (.inl rfl)
 |[],_::_=> .inl rfl
 |_::_,[]=> .inr (.inr rfl)
 |a::x,b::y=>by
  simp only[Op.bytesLess,Wg,Vn,Vc,V8,Vj];rcases yj a b with h|rfl|h
  ·exact .inl (.inl h)
  ·rcases tl x y with h|rfl|h
   ·exact .inl (.inr ⟨rfl,h⟩)
   ·exact .inr (.inl ⟨rfl,rfl⟩)
   exact .inr (.inr (.inr ⟨rfl,h⟩))
  exact .inr (.inr (.inl h))
def l_:List Attr→Bool
 |[]=>true
 |[_]=>true
 |a::b::r=>Op.bytesLess a.name b.name&&l_ (b::r)
def kb (a:Attr) (l:List Attr) (i:Nat):dr (a::l) (i+1)=(dr l i&&(if i=0 then match l[0]? with|some b=>Op.bytesLess a.name b.name|none=>true else true)):=by
 unfold dr;cases i with
 |zero=>
  simp only[Wq,VT,WY,VQ,Vp];cases l[0]?<;>simp[Bool.and_assoc]
 |succ i=>
 simp only[Wq,WY];cases l[i+1]?<;>simp
def iM (as:List Attr):bP as=true↔(∀a∈as,named a.name=true∧plain a.val=true)∧l_ as=true∧as.length≤4:=by
 have key:∀as:List Attr,(∀i,i<as.length→dr as i=true)↔(∀a∈as,named a.name=true∧plain a.val=true)∧l_ as=true:=by
  intro as;induction as with
  |nil=>simp[l_]
  |cons a l ih=>
  constructor
  ·intro h;have h0:=h 0 (by simp);have Kl:=ih.1 fun i hi=>by
    have:=h (i+1) (by simpa using hi);rw[kb,Vc] at this;exact this.1
   simp only[dr,VQ,Vc] at h0;refine⟨fun x hx=> ?_,?_⟩
   ·simp only[Vg] at hx;rcases hx with rfl|hx
    ·exact⟨h0.1,h0.2.1⟩
    exact Kl.1 x hx
   cases l with
   |nil=>rfl
   |cons b r=>
   have:=h 1 (by simp);rw[kb,Vc] at this;simp only[l_,Vc];exact⟨by simpa using this.2,Kl.2⟩
  rintro⟨h1,h2⟩ i hi;have hl:∀i,i<l.length→dr l i=true:=ih.2 ⟨fun x hx=>h1 x (by simp[hx]),by
   cases l with
   |nil=>rfl
   |cons b r=>simp only[l_,Vc] at h2;exact h2.2⟩
  cases i with
  |zero=>simp[dr,(h1 a (by simp)).1,(h1 a (by simp)).2]
  |succ i=>
  rw[kb,hl i (by simpa using hi)];cases l with
  |nil=>simp at hi
  |cons b r=>
  simp only[l_,Vc] at h2;by_cases e:i=0
  ·simp[e,h2.1]
  simp[e]
 unfold bP;rw[Vc,Vx,←and_assoc,←key];constructor
 ·rintro⟨h1,h2⟩;simp only[Vn] at h2;exact⟨fun i hi=>h1 i (by simpa using hi),by omega⟩
 rintro⟨h1,h2⟩;exact⟨fun i hi=>h1 i (by simpa using hi),by simp only[Vn];omega⟩
theorem uO:∀{a:Attr} {l:List Attr},l_ (a::l)=true→∀b∈l,Op.bytesLess a.name b.name=true
 |_,[],_,b,hb=>by simp at hb
 |a,c::r,h,b,hb=>by
  simp only[l_,Vc] at h;simp only[Vg] at hb;rcases hb with rfl|hb
  ·exact h.1
  exact rG h.1 (uO h.2 b hb)
def vS {a:Attr} {l:List Attr} (h:l_ (a::l)=true):l_ l=true:=by
 cases l with
 |nil=>rfl
 |cons b r=>simp only[l_,Vc] at h;exact h.2
theorem pt {a:Attr}:∀(l:List Attr),(∀b∈l,Op.bytesLess b.name a.name=true)→gF l a=l++[a]
 |[],_=>rfl
 |b::r,h=>by
  unfold gF;rw[U8 (by rw[ny (h b (by simp))];simp),pt r (fun c hc=>h c (by simp[hc]))];rfl
theorem pw:∀(l acc:List Attr),l_ l=true→(∀a∈l,∀b∈acc,Op.bytesLess b.name a.name=true)→l.foldl gF acc=acc++l
 |[],acc,_,_=>by simp
 |a::r,acc,h,hb=>by
  simp only[W6];rw[pt acc (hb a (by simp)),pw r _ (vS h)]
  ·simp
  intro x hx b E5;simp only[Vi,Vm] at E5;rcases E5 with E5|rfl
  ·exact hb x (by simp[hx]) b E5
  exact uO h x hx
def vT {l:List Attr} (h:l_ l=true):cu l=l:=by unfold cu;rw[pw l [] h (by simp)];simp
def px {s r:Bs} {as:List Attr} (hn:named s=true) (ha:bP as=true) (hr:∀c q,r=c::q→c=62∨c=47) (I_:r≠[]):kO ([60]++(s++(bl as++r)))=some (s,as,r):=by
 unfold kO;rw[gR];simp only[U7];rw[mG hn]
 ·simp only[U7];rw[oh as r ((iM as).1 ha).1 hr];rfl
 intro c q h;cases as with
 |nil=>
  simp only[bl,XX,VH] at h;rcases hr c q h with rfl|rfl<;>rfl
 |cons a as=>
 simp only[bl,WO,iK,Vb,Vj] at h;rw[←h.1];rfl
def tm {s r:Bs} (hn:named s=true):ka s ([60,47]++(s++([62]++r)))=some r:=by
 unfold ka;rw[gR];simp only[U7];rw[mG hn (by intro c q h;simp only[Vb,Vj] at h;rw[←h.1];rfl)];simp only[U7,Vp];have:([62]++r:Bs).dropWhile isSp=[62]++r:=rfl;rw[this,gR]
def yk {v:Bool} {s:Bs} {c:UInt8} {q:Bs} (h:fG v s=c::q):c≠60:=by
 cases s with
 |nil=>simp[fG] at h
 |cons d s=>
 simp only[fG,WO] at h;unfold jQ at h;split at h
 ·simp only[qH,Vb,Vj] at h;rw[←h.1];decide
 rename_i h1;split at h
 ·simp only[rC,Vb,Vj] at h;rw[←h.1];decide
 split at h
 ·simp only[kD,Vb,Vj] at h;rw[←h.1];decide
 split at h
 ·simp only[jc,Vb,Vj] at h;rw[←h.1];decide
 simp only[Vb,Vj] at h;rw[←h.1];exact h1
def Sy (v:Bool) (c:UInt8):jQ v c≠[]:=by
 unfold jQ;split
 ·decide
 split
 ·decide
 split
 ·decide
 split
 ·decide
 simp
def D6 {v:Bool} {s:Bs} (h:s≠[]):fG v s≠[]:=by
 cases s with
 |nil=>exact absurd rfl h
 |cons c s=>
 simp only[fG,WO];intro e;exact Sy v c (WB.1 e).1
mutual
theorem mY:∀(x:Tree) (d:Nat) (r:Bs),x.fu=true→x.text=false→x.dep≤d→bG d (x.sh++r)=some (x,r)
 | .mk t s as ks,0,r,_,_,hd=>by simp[Tree.dep] at hd
 | .mk t s as ks,d+1,r,hf,ht,hd=>by
  simp only[Tree.text] at ht;subst ht;have BQ:=hf;rw[Tree.Pa _ rfl] at BQ;simp only[Tree.s,Tree.attrs,Tree.kids,Vc] at BQ;obtain⟨h1,h2,h3⟩:=BQ;have hs:=vT ((iM as).1 h2).2.1;simp only[Tree.dep] at hd;rw[Tree.QO _ rfl];simp only[Tree.s,Tree.attrs,Tree.kids];unfold bG;by_cases hk:ks=[]
  ·subst hk;have e:60::s++bl as++nj s []++r=[60]++(s++(bl as++([47,62]++r))):=(by simp[nj]);rw[e,px h1 h2 (by intro c q h;simp only[Vb,Vj] at h;exact .inr h.1.symm) (by simp)];simp only[U7,hs];rw[Vd (by simp[List.isPrefixOf])];rfl
  have e:60::s++bl as++nj s ks++r=[60]++(s++(bl as++([62]++(je ks++([60,47]++(s++([62]++r))))))):=by rw[qp s hk];simp
  rw[e,px h1 h2 (by intro c q h;simp only[Vb,Vj] at h;exact .inl h.1.symm) (by simp)];simp only[U7,hs];rw[U8 (by simp[List.isPrefixOf])];rw[gR];simp only[U7];rw[rH ks none d ([60,47]++(s++([62]++r))) h3 (by omega) (by intro c q h;simp only[Vb,Vj] at h;exact h.1.symm) (by simp[List.isPrefixOf])];simp only[U7];rw[tm h1];rfl
theorem rH:∀(ks:List Tree) (p:Option Bool) (d:Nat) (r:Bs),bQ p ks=true→fB ks≤d→(∀c q,r=c::q→c=60)→(r=[]∨[60,47].isPrefixOf r=true)→dM (bG d) (je ks++r)=some (ks,r)
 |[],p,d,r,_,_,_,hr=>by
  simp only[je,VH];cases r with
  |nil=>rw[dM]
  |cons c q=>
  rw[dM,Vd (by rcases hr with hr|hr;simp at hr;exact hr)]
 |x::ks,p,d,r,hf,hd,hc,hr=>by
  simp only[bQ,Vc] at hf;obtain⟨h1,h2,h3⟩:=hf;simp only[fB] at hd;have ih:=rH ks (some x.text) d r h3 (by omega) hc hr;have e:je (x::ks)++r=x.sh++(je ks++r):=by simp[je]
  rw[e];cases hx:x.text with
  |false=>
   have he:=mY x d (je ks++r) h1 hx (by omega);have hl:=l9 d _ _ _ he;have hw:=x.gx;have hn:named x.s=true:=by
    rw[x.Pa hx] at h1;simp only[Vc] at h1;exact h1.1
   obtain⟨n1,n2,n3⟩:=(mF x.s).1 hn;obtain⟨c,q,hq⟩:∃c q,x.s=c::q:=by cases hx:x.s with
    |nil=>exact absurd hx n2
    |cons c q=>exact⟨c,q,rfl⟩
   have vR:bz c=true:=n1 c (by rw[hq];simp);have HE:c≠47:=(by rintro rfl;revert vR;decide);obtain⟨q',oX⟩:∃q',x.sh++(je ks++r)=60::c::q':=(by rw[x.QO hx,hq];simp);rw[oX] at he hl ⊢;rw[dM,U8 (by simp[List.isPrefixOf,V7 HE]),Vd rfl,he];simp only;rw[XM (by omega),ih];rfl
  |true=>
  rw[x.oa hx] at h1;simp only[Vc,X_,V8,Vv] at h1;obtain⟨g1,g2,g3,g4⟩:=h1;have Lu:∀c q,je ks++r=c::q→c=60:=by
   intro c q h;cases ks with
   |nil=>exact hc c q h
   |cons y ks=>
   simp only[bQ,Vc] at h3;have hy:y.text=false:=by
    have:=h3.2.1;rw[hx] at this;simpa using this
   simp only[je,y.QO hy,Vb,Vj] at h;exact h.1.symm
  have ht:=mD false x.s (je ks++r) (pq g1) (fun c q h=> .inl (Lu c q h));rw[x.yh hx];obtain⟨c,q,hq⟩:∃c q,fG false x.s=c::q:=by cases hx:fG false x.s with
   |nil=>exact absurd hx (D6 g2)
   |cons c q=>exact⟨c,q,rfl⟩
  have GC:=yk hq;have Hv:x=Tree.mk true x.s [] []:=Tree.ext hx rfl g3 g4;rw[hq] at ht ⊢;simp only[Vb] at ht ⊢;rw[dM,U8 (by simp[List.isPrefixOf,V7 GC]),U8 GC,ht];simp only[Vf];rw[XM (by simp;omega),ih];simp only[Vf];rw[←Hv]
end

def eG (bd a8:Nat):AC:=
(aM [jM 2 false] (aM [aQ 3 (.iC (.c (.str [])))] (.seq (aM [MR 6 0,oy 7 6,gH 8 0] (.block 0 (.loop (aM [et 9 .lss 8 7] (.seq (.cond (.t 9) .skip (.exit 0)) (.seq (.block 1 (aM [jL 10 6 8 2,gz 11 2 10,aQ 5 (.new [(.str []),(.str [])]),gg (.store 2 (.t 5) (.t 11))] (.seq (aM [ep 12 5 0,fm 13 12,aQ 14 (.call bd [(.t 13)]),sB 15 14,MR 16 15,oH 17 16 5 1,oG 18 16 17,iR 19 16 (.call a8 [(.t 18)]),iR 20 16 (.not (.t 19)),sj 21 16 20,MR 22 21,oH 23 22 5 0,oG 24 22 23,gV 25 22 3,iR 26 22 (.bin .leq (.t 24) (.t 25)),sj 27 22 26] (.cond (.t 27) (aM [jM 2 false] .ret) .skip)) (.cq [ep 28 5 0,fm 29 28,MR 3 29])))) (.cq [eY 30 .add 8 1,MR 8 30]))))))) (aM [MR 31 0,oy 32 31,eY 33 .leq 32 4,MR 2 33] .ret))))
def py (as:List Attr):Nat→Bs
 |0=>[]
 |i+1=>match as[i]? with
  |some p=>p.name
  |none=>[]
def D7 (x y:Bs):(Op.bytesLess x y||x==y)= !Op.bytesLess y x:=by
 rcases tl x y with h|h|h
 ·rw[h,ny h];rfl
 ·subst h;rw[qq];simp
 rw[h,ny h];have:(x==y)=false:=by rw[VX];rintro rfl;rw[qq] at h;cases h
 rw[this];rfl
def D8 {x:Bs} (h:named x=true):Op.bytesLess [] x=true:=by
 cases x with
 |nil=>simp[named] at h
 |cons c r=>rfl
def yl {P:Program} {G:Nat→Option (List IV)} {bS bd a8:Nat} (hF:aw P G bS=some (34,[(none,2)],(eG bd a8).bare)) (as:List Attr) (hx:as.length≤B)
  (hN:∀a∈as,au P G bd [.str a.name] (.bool (named a.name))) (hP:∀a∈as,au P G a8 [.str a.val] (.bool (plain a.val))) :
  au P G bS [.list (cD as)] (.bool (bP as)):=by
 refine aR hF (by simp) (by simp[ah,AV.an]) (by simp[AV.an]) ?_;unfold eG;simp only[↓aX,mX,seval,bp];refine kk (σ:={i:Nat // i≤as.length∧∀j,j<i→dr as j=true}) (fun q=>[(0,.list (cD as)),(3,.str (py as q.1)),(6,.list (cD as)),(7,.int .i64 as.length),(8,.int .i64 q.1)]) (fun q=>as.length - q.1) ⟨0,by simp⟩ (fun _=>rfl) ?_ ?_
 ·exact⟨by simp only[↓aX,mX,seval],by repeat' constructor⟩
 rintro⟨i,hi,hs⟩;simp only[↓aX,mX,seval,bp];by_cases bI:i<as.length
 ·rw[show decide ((i:Int)<(as.length:Int))=true by simpa using bI];obtain⟨a,ha⟩:∃a,as[i]?=some a:=⟨_,U' bI⟩;have hw:IntKind.i64.wrap ((i:Int)+1)=((i+1:Nat):Int):=wrap64 (by omega) (by unfold B at hx;omega);simp only[↓aX,mX,seval,lS,ha,rq,Attr.cJ,Attr.cs];refine ay (hN a (U_ ha)) ?_;have stop:dr as i=false→bP as=false:=fun hp=>by rw[bP,pc bI hp];rfl
  have j4:dr as i=(named a.name&&(plain a.val&&(i==0||match as[i - 1]? with|some p=>Op.bytesLess p.name a.name|none=>true))):=by unfold dr;rw[ha];rfl
  cases h1:named a.name with
  |false=>
   simp only[↓aX,mX,seval,Ve];rw[stop (by rw[j4,h1];rfl)]
  |true=>
  simp only[↓aX,mX,seval,Vh];refine ay (hP a (U_ ha)) ?_;cases h2:plain a.val with
  |false=>
   simp only[↓aX,mX,seval,Ve];rw[stop (by rw[j4,h1,h2];rfl)]
  |true=>
  simp only[↓aX,mX,seval,Vh];have hb:dr as i=Op.bytesLess (py as i) a.name:=by
   rw[j4,h1,h2];cases i with
   |zero=>rw[show py as 0=[] from rfl,D8 h1];rfl
   |succ i=>
   obtain⟨p,hp⟩:∃p,as[i]?=some p:=⟨_,U' (by omega)⟩;simp[py,hp]
  rw[D7,←hb];cases h4:dr as i with
  |false=>
   simp only[↓aX,mX,seval,Ve];rw[stop h4]
  |true=>
  simp only[↓aX,mX,seval,Vh,hw];refine⟨⟨i+1,bI,fun j hj=> ?_⟩,by simp only;omega,?_⟩
  ·by_cases e:j=i
   ·rw[e];exact h4
   exact hs j (by omega)
  refine⟨?_,rfl⟩;show AV.str a.name=AV.str (py as (i+1));simp only[py,ha]
 have oI:i=as.length:=by omega
 rw[show decide ((i:Int)<(as.length:Int))=false by simpa using bI];simp only[↓aX,mX,seval,bp];have:(List.range as.length).all (dr as)=true:=by
  rw[Vx];intro j hj;exact hs j (by simp at hj;omega)
 rw[bP,this];rfl

def e7 (a8 bd bS bA:Nat):AC:=
(aM [jM 2 false] (aM [jM 3 false] (.seq (aM [MR 6 0,oy 7 6,gH 8 0] (.block 0 (.loop (aM [et 9 .lss 8 7] (.seq (.cond (.t 9) .skip (.exit 0)) (.seq (.block 1 (aM [jL 10 6 8 4,gz 11 4 10,aQ 5 (.new [(.bool false),(.str []),.nil0,.nil0]),gg (.store 4 (.t 5) (.t 11))] (.seq (aM [ep 12 5 0,fm 13 12,MR 14 13,cU 15 14 3,cU 16 14 15,oH 17 16 5 1,oG 18 16 17,iR 19 16 (.bin .eql (.t 18) (.c (.str []))),dW 20 14 (.pick (.t 16) (me true) (.t 19)),cU 21 14 20,oH 22 21 5 1,oG 23 21 22,iR 24 21 (.call a8 [(.t 23)]),iR 25 21 (.not (.t 24)),dW 26 14 (.pick (.t 21) (me true) (.t 25)),cU 27 14 26,oH 28 27 5 2,oG 29 27 28,iR 30 27 (.len (.t 29)),iR 31 27 (.bin .neq (.t 30) (jS 0)),dW 32 14 (.pick (.t 27) (me true) (.t 31)),cU 33 14 32,oH 34 33 5 3,oG 35 33 34,iR 36 33 (.len (.t 35)),iR 37 33 (.bin .neq (.t 36) (jS 0)),dW 38 14 (.pick (.t 33) (me true) (.t 37)),jT 39 14 38] (.cond (.t 39) (aM [jM 2 false] .ret) .skip)) (.seq (aM [ep 40 5 0,fm 41 40,sB 42 41,MR 43 42,jn 44 43 5 1,jm 45 43 44,dW 46 43 (.call bd [(.t 45)]),dW 47 43 (.not (.t 46)),cU 48 43 47,oH 49 48 5 2,oG 50 48 49,iR 51 48 (.call bS [(.t 50)]),iR 52 48 (.not (.t 51)),dW 53 43 (.pick (.t 48) (me true) (.t 52)),cU 54 43 53,oH 55 54 5 3,oG 56 54 55,iR 57 54 (.call bA [(.t 56)]),iR 58 54 (.not (.t 57)),dW 59 43 (.pick (.t 54) (me true) (.t 58)),jT 60 43 59] (.cond (.t 60) (aM [jM 2 false] .ret) .skip)) (.cq [ep 61 5 0,fm 62 61,MR 3 62]))))) (.cq [eY 63 .add 8 1,MR 8 63]))))))) (aM [jM 2 true] .ret))))
def D9 {P:Program} {G:Nat→Option (List IV)} {bA a8 bd bS:Nat} (hF:aw P G bA=some (64,[(none,2)],(e7 a8 bd bS bA).bare)) (l:List Tree) (hx:dE l≤B)
  (hP:∀x∈l,au P G a8 [.str x.s] (.bool (plain x.s))) (hN:∀x∈l,au P G bd [.str x.s] (.bool (named x.s)))
  (hA:∀x∈l,au P G bS [.list (cD x.attrs)] (.bool (bP x.attrs))) (hK:∀x∈l,au P G bA [.list (dq x.kids)] (.bool (bQ none x.kids))) :
  au P G bA [.list (dq l)] (.bool (bQ none l)):=by
 refine aR hF (by simp) (by simp[ah,AV.an]) (by simp[AV.an]) ?_;have hl:=eZ l;unfold e7;simp only[↓aX,mX,seval,bF];refine kk (σ:={q:Nat×Option Bool // q.1≤l.length∧bQ none l=bQ q.2 (l.drop q.1)}) (fun q=>[(0,.list (dq l)),(3,.bool (q.1.2==some true)),(6,.list (dq l)),(7,.int .i64 l.length),(8,.int .i64 q.1.1)]) (fun q=>l.length - q.1.1) ⟨(0,none),by simp,rfl⟩ (fun _=>rfl) ?_ ?_
 ·exact⟨by simp only[↓aX,mX,seval],by repeat' constructor⟩
 rintro⟨⟨i,p⟩,hi,hs⟩;simp only at hi hs;simp only[↓aX,mX,seval,bF];by_cases bI:i<l.length
 ·rw[show decide ((i:Int)<(l.length:Int))=true by simpa using bI];obtain⟨x,Ja⟩:∃x,l[i]?=some x:=⟨_,U' bI⟩;have hm:=U_ Ja;have hw:IntKind.i64.wrap ((i:Int)+1)=((i+1:Nat):Int):=wrap64 (by omega) (by unfold B at hx;omega);have mV:bQ none l=(x.fu&&(!(p==some true&&x.text)&&bQ (some x.text) (l.drop (i+1)))):=by rw[hs,Wi bI,U' bI |>.symm.trans Ja|>W0];rfl
  have stop:x.fu=false→bQ none l=false:=fun h=>by rw[mV,h];rfl
  simp only[↓aX,mX,seval,iy,Ja,lT,Tree.cJ,Tree.cs];cases ht:x.text with
  |true=>
   have uq:=x.oa ht;simp only[↓aX,mX,seval];cases hp:(p==some true) with
   |true=>
    have:bQ none l=false:=(by rw[mV,hp,ht];simp);simp only[↓aX,mX,seval,this]
   |false=>
   simp only[↓aX,mX,seval];cases h1:(x.s==[]) with
   |true=>
    have h9:(x.s !=[])=false:=(by simpa using h1);have:bQ none l=false:=stop (by rw[uq,h9];simp);simp only[↓aX,mX,seval,this]
   |false=>
   simp only[↓aX,mX,seval];refine ay (hP x hm) ?_;cases h2:plain x.s with
   |false=>
    have:bQ none l=false:=stop (by rw[uq,h2];rfl);simp only[↓aX,mX,seval,Ve,this]
   |true=>
   simp only[↓aX,mX,seval,Vh,bp];have h9:(x.s !=[])=true:=(by simpa using h1);cases h5:((x.attrs.length:Int) !=0) with
   |true=>
    have:bQ none l=false:=stop (by
     have:(x.attrs.length==0)=false:=(by simp at h5 ⊢;exact h5);rw[uq,this];simp)
    simp only[↓aX,mX,seval,this]
   |false=>
   simp only[↓aX,mX,seval,bF];cases h6:((x.kids.length:Int) !=0) with
   |true=>
    have:bQ none l=false:=stop (by
     have:(x.kids.length==0)=false:=(by simp at h6 ⊢;exact h6);rw[uq,this];simp)
    simp only[↓aX,mX,seval,this]
   |false=>
   have B7:x.fu=true:=by
    have e5:(x.attrs.length==0)=true:=(by simp at h5 ⊢;exact h5);have e6:(x.kids.length==0)=true:=(by simp at h6 ⊢;exact h6);rw[uq,h2,h9,e5,e6];rfl
   simp only[↓aX,mX,seval,Vh,hw];refine⟨⟨(i+1,some true),bI,by rw[mV,B7,hp,ht];rfl⟩,by simp only;omega,rfl,rfl⟩
  |false=>
  have uq:=x.Pa ht;simp only[↓aX,mX,seval,Ve];refine ay (hN x hm) ?_;cases h2:named x.s with
  |false=>
   have:bQ none l=false:=stop (by rw[uq,h2];rfl);simp only[↓aX,mX,seval,Ve,this]
  |true=>
  simp only[↓aX,mX,seval,Vh];refine ay (hA x hm) ?_;cases h3:bP x.attrs with
  |false=>
   have:bQ none l=false:=stop (by rw[uq,h2,h3];rfl);simp only[↓aX,mX,seval,Ve,this]
  |true=>
  simp only[↓aX,mX,seval,Vh];refine ay (hK x hm) ?_;cases h4:bQ none x.kids with
  |false=>
   have:bQ none l=false:=stop (by rw[uq,h2,h3,h4];rfl);simp only[↓aX,mX,seval,Ve,this]
  |true=>
  simp only[↓aX,mX,seval,Vh,hw];have B7:x.fu=true:=by rw[uq,h2,h3,h4];rfl
  refine⟨⟨(i+1,some false),bI,by rw[mV,B7,ht];simp⟩,by simp only;omega,rfl,rfl⟩
 have oI:i=l.length:=by omega
 subst oI;rw[show decide ((l.length:Int)<(l.length:Int))=false by simp];simp only[↓aX,mX,seval];rw[hs,List.drop_length];rfl
end Go.Am
