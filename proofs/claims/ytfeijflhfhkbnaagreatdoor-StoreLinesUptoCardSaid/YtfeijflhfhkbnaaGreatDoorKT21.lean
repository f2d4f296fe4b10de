import Derived.Test.YtfeijflhfhkbnaaGreatDoorKAm34
import Derived.Test.YtfeijflhfhkbnaaGreatDoorKAm25
set_option linter.all false
/- Letters: sets of bytes; a string cut at both ends. -/
namespace Go.Am
open Go Go.RowKit
def ya:AV->Nat->Option Nat
 | .int _ v,mx=>if 0<=v/\v.toNat<=mx then some v.toNat else none
 |_,_=>none
def Ck (env:Env) (d mx:Nat):lk env none d mx=some d:=rfl
def Cl (env:Env) (x:O) (d mx:Nat):lk env (some x) d mx=ya (ev env x) mx:=by
 simp only[lk];generalize ev env x=v;cases v<;>rfl
def rA (k:IntKind) (n mx:Nat) (h:n<=mx):ya (.int k (n:Int)) mx=some n:=by simp[ya,h]
def eh (f:Nat->Bool):List AV:=(List.range 256).map λi=> .bool (f i)
def bc (f:Nat->Bool):(eh f).length=256:=by simp[eh]
def ajH (f:Nat->Bool) (i:Nat) (h:i<256):(eh f)[i]?=some (.bool (f i)):=by simp[eh,List.getElem?_range h]
def eD (f:Nat->Bool):ah (eh f)=[]:=by
 have:∀l:List Nat,ah (l.map λi=>AV.bool (f i))=[]:=by
  intro l;induction l with
  |nil=>rfl
  |cons a r ih=>simp[ah,AV.an,ih]
 exact this _
def qo:List.replicate 256 (AV.bool false)=eh (λ_=>false):=by
 apply fe;intro i;by_cases h:i<256
 ·rw[ajH _ _ h,JE,P8 h]
 rw[dV (by rw[VC];omega),dV (by rw[bc];omega)]
def yb (f:Nat->Bool) (j:Nat):(eh f).set j (.bool true)=eh (λk=>k==j||f k):=by
 apply fe;intro i;by_cases h:i<256
 ·rw[ajH _ _ h,JC];by_cases e:j=i
  ·subst e;rw[P8 rfl,P8 (by rw[bc];exact h)];simp
  rw[Ev e,ajH _ _ h];have:(i==j)=false:=by simpa using Ss e
  rw[this];simp
 rw[dV (by rw[List.length_set,bc];omega),dV (by rw[bc];omega)]
def yc (f:Nat->Bool) (j:Nat) (h:j<256):(eh f).take j++[.bool true]++(eh f).drop (j+1)=eh (λk=>k==j||f k):=by
 rw[<-yb,List.set_eq_take_append_cons_drop,P8 (by rw[bc];exact h)];simp
def mz (f:Nat->Bool):(eh f).take 256=eh f:=P5 (by rw[bc];exact PW _)
def mA (f:Nat->Bool):(eh f).drop 256=[]:=W0 (by rw[bc];exact PW _)
def od (f:Nat->Bool):(eh f).all AV.one=true:=by
 rw[Rh];intro x hx;obtain⟨i,_,rfl⟩:=pb.1 hx;rfl
def er (s:Bs) (k:Nat):Bool:=s.any λc=>k==c.toNat
def mW {α:Type} {l:List α} {i:Nat} {x:α} (h:l[i]?=some x):l.take (i+1)=l.take i++[x]:=by rw[Ro,h];rfl
def vM (s:Bs) (c:UInt8):er (s++[c])=λk=>k==c.toNat||er s k:=by
 funext k;simp[er,Bool.or_comm]
def Wg:AC:=
(aM [aQ 2 (.new (List.replicate 256 (.bool false))),jM 3 false] (.seq (aM [gH 4 0] (.block 0 (.loop (.seq (aM [MR 6 4,MR 7 0,oF 8 7,et 9 .lss 6 8] (.cond (.t 9) .skip (.exit 0))) (.seq (.block 1 (aM [MR 12 0,MR 13 4,aQ 14 (.lj (.t 12) (.t 13)),MR 5 14] (.seq (aM [MR 15 5,aQ 16 (.bin .geq (.t 15) (.c (.int .u8 128)))] (.cond (.t 16) (aM [gz 17 256 2,gg (.store 256 (.t 2) (.t 17)),jM 3 false] .ret) .skip)) (.cq [MR 18 5,aQ 19 (.wC (.t 2) (.t 18) 256 1),gg (.store 1 (.t 19) (me true))])))) (.cq [MR 10 4,eY 11 .add 10 1,MR 4 11])))))) (aM [gz 20 256 2,gg (.store 256 (.t 2) (.t 20)),jM 3 true] .ret)))
def rB {P:Program} {G:Nat->Option (List IV)} {aS:Nat} (hF:aw P G aS=some (21,[((some (some 256)),2),(none,3)],Wg.bare)) (s:Bs) (hs:s.length<=B) (I8:∀c∈s,c.toNat<128) :
  au P G aS [.str s] (.gf [.agg (eh (er s)),.bool true]):=by
 refine aR hF tM aae (by simp[AV.an,ah,eD]) ?_;unfold Wg;simp only[↓aX,mX,reduceCtorEq,Int.reduceLT,Nat.reduceEqDiff,Int.reduceLE,Nat.reduceLT,Nat.reduceLeDiff,Nat.reduceAdd,Nat.reduceMul,Int.reduceToNat,qo,bc];refine ca (σ:={i:Nat // i<=s.length}) [.loc 2] (λq=>[(0,.str s),(2,.ptr (.loc 2) 256 0 0),(4,.int .i64 q.1)]) (λq=>[(.loc 2,⟨256,[eh (er (s.take q.1))]⟩)]) (λq=>s.length - q.1) ⟨0,zd _⟩
  (λ_=>rfl) M3 aae (λq r hr cs bV l hl=>by
   simp only[bY] at hr;subst hr;simp only[bY] at bV;subst bV;rw[eD] at hl;simp at hl) ?_ ?_
 ·exact eL aa9 aah ⟨rfl,trivial⟩
 rintro⟨i,hi⟩;simp only[↓aX,mX,seval,cF,bW,bc];by_cases bI:i<s.length
 ·rw[show decide ((i:Int)<(s.length:Int))=true by simpa using bI];obtain⟨c,hc⟩:∃c,s[i]?=some c:=⟨_,rX bI⟩;have hw:IntKind.i64.wrap ((i:Int)+1)=((i+1:Nat):Int):=wrap64 sf (by unfold B at hs;omega);have qT:=I8 c (PX hc);simp only[↓aX,mX,seval,hc,show decide (((c.toNat:Nat):Int)>=128)=false by simp;omega,bc,hw];simp only[↓aX,mX,seval,P8 (show c.toNat<256 by omega),P8 (show c.toNat<=255 by omega),yc _ _ (show c.toNat<256 by omega),bc,hw];refine⟨⟨i+1,bI⟩,aac,eL aa9 aah ⟨?_,trivial⟩⟩;rw[mW hc,vM];rfl
 have XV:i=s.length:=sf
 subst XV;rw[show decide ((s.length:Int)<(s.length:Int))=false by simp];simp only[↓aX,mX,seval,Rk,bc,mz,mA,od,SU,kq]
def VN:AC:=
(aM [jM 4 false] (aM [MR 5 0,MR 6 1,aQ 7 (.dp (.t 5)),aQ 8 (.wC (.t 7) (.t 6) 256 1),fm 9 8,MR 4 9] .ret))
def mB {P:Program} {G:Nat->Option (List IV)} {aG:Nat} (hF:aw P G aG=some (10,[(none,4)],VN.bare)) (f:Nat->Bool) (c:UInt8) :
  cR P G aG [.ptr (.par 0) 256 0 0,.int .u8 (c.toNat:Int)] (eh f) λx cs=>x= .bool (f c.toNat)/\cs=eh f:=by
 refine dw hF tM aae (eD f) ?_;have hc:c.toNat<256:=c.toNat_lt;unfold VN;simp only[↓aX,mX,seval,Oj,bc,P8 hc,ajH f _ hc];exact⟨_,rfl,rfl,eD f,bc f,rfl⟩
def cS (aG:Nat):AC:=
(aM [aQ 4 (.iC (.c (.str [])))] (.seq (.block 0 (.loop (.seq (aM [MR 5 0,oF 6 5,eY 7 .gtr 6 0] (.cond (.t 7) .skip (.exit 0))) (.block 1 (.seq (aM [MR 8 1,MR 9 0,aQ 10 (.lj (.t 9) (jS 0)),aQ 11 (.call aG [(.t 8),(.t 10)]),sB 12 11] (.cond (.t 12) (.exit 0) .skip)) (.cq [MR 13 0,aQ 14 (.ZL (.t 13) (some (jS 1)) none),MR 0 14])))))) (aM [MR 15 0,MR 4 15] .ret)))
def dJ (aG:Nat):AC:=
(aM [aQ 4 (.iC (.c (.str [])))] (.seq (.block 0 (.loop (.seq (aM [MR 5 0,oF 6 5,eY 7 .gtr 6 0] (.cond (.t 7) .skip (.exit 0))) (.block 1 (.seq (aM [MR 8 1,MR 9 0,MR 10 0,oF 11 10,eY 12 .sub 11 1,aQ 13 (.lj (.t 9) (.t 12)),aQ 14 (.call aG [(.t 8),(.t 13)]),sB 15 14] (.cond (.t 15) (.exit 0) .skip)) (.cq [MR 16 0,MR 17 0,oF 18 17,eY 19 .sub 18 1,aQ 20 (.ZL (.t 16) none (some (.t 19))),MR 0 20])))))) (aM [MR 21 0,MR 4 21] .ret)))
def dB (f:Nat->Bool) (s:Bs):Bs:=s.dropWhile λc=>f c.toNat
def eM (f:Nat->Bool) (s:Bs):Bs:=(dB f s.reverse).reverse
def pn {f:Nat->Bool} {q:Lb×Row} (hr:q∈[((.par 0:Lb),(⟨256,[eh f]⟩:Row))]) {ls:List Lb}:∀cs∈q.2.els,∀l∈ah cs,l∈ls:=by
 intro cs bV l hl;simp only[bY] at hr;subst hr;simp only[bY] at bV;subst bV;rw[eD] at hl;simp at hl
def po {P:Program} {G:Nat->Option (List IV)} {aO aG:Nat} (hF:aw P G aO=some (16,[(none,4)],(cS aG).bare)) (f:Nat->Bool) (s:Bs) (hs:s.length<=B)
  (hC:∀c:UInt8,cR P G aG [.ptr (.par 0) 256 0 0,.int .u8 (c.toNat:Int)] (eh f) λx cs=>x= .bool (f c.toNat)/\cs=eh f) :
  cR P G aO [.str s,.ptr (.par 0) 256 0 0] (eh f) λx cs=>x= .str (dB f s)/\cs=eh f:=by
 refine dw hF tM aae (eD f) ?_;unfold cS;simp only[↓aX,mX,seval,Oj,bc];refine ca (σ:={t:Bs // t.length<=B/\dB f t=dB f s}) [.par 0] (λt=>[(0,.str t.1),(1,.ptr (.par 0) 256 0 0)]) (λ_=>[(.par 0,⟨256,[eh f]⟩)]) (λt=>t.1.length) ⟨s,hs,rfl⟩
  (λ_=>rfl) M3 aae (λ_ q hr=>pn hr) ?_ ?_
 ·refine eL ?_ aah ⟨rfl,trivial⟩;intro l hl hu;by_cases e:l= .par 0
  ·subst e;simp
  exfalso;apply hu;cases l<;>simp_all[Lb.fresh,ae,Hp.none]
 rintro⟨t,ht,g_⟩;cases t with
 |nil=>
  simp only[↓aX,mX,reduceCtorEq,Int.reduceLT,Nat.reduceEqDiff,Int.reduceLE,Nat.reduceLT,Nat.reduceLeDiff,Nat.reduceAdd,Nat.reduceMul,Int.reduceToNat,cF,bW,Rm,show decide (((0:Nat):Int)>0)=false from rfl];rw[<-g_];exact⟨_,⟨rfl,rfl⟩,rfl,eD f,bc f,rfl⟩
 |cons c r=>
 have hg:decide (((r.length+1:Nat):Int)>0)=true:=by rw[dj];omega
 have Lr:(c::r)[0]?=some c:=rfl;simp only[↓aX,mX,seval,cF,bW,gL,hg,Lr];refine bj (l:= .par 0) (hC c) rfl (by simp only[↓aX,mX,seval,bc]) ?_;rintro x1 dF ⟨rfl,rfl⟩ _ _ _;simp only[↓aX,mX,seval,bc];cases hf:f c.toNat with
 |false=>
  have:dB f s=c::r:=by rw[<-g_];simp[dB,hf]
  simp only[↓aX,mX,seval,QI,this];exact⟨_,rfl,rfl,eD f,bc f,by rw[bc]⟩
 |true=>
 have h2:dB f r=dB f s:=by rw[<-g_];simp[dB,hf]
 have hb:ya (.int .i64 1) (r.length+1)=some 1:=rA .i64 1 _ sf;have E0:(c::r).take (r.length+1)=c::r:=P5 tM;simp only[↓aX,mX,seval,QK,bc,gL,Ck,Cl,hb,E0,EF,bT,SX,tn];refine⟨⟨r,by rw[gL] at ht;omega,h2⟩,by simp only[gL];omega,eL ?_ aah ⟨rfl,trivial⟩⟩;intro l hl hu;by_cases e:l= .par 0
 ·subst e;simp
 exfalso;apply hu;cases l<;>simp_all[Lb.fresh,ae,Hp.none]
def oe (f:Nat->Bool) (t:Bs) (c:UInt8):eM f (t++[c])=if f c.toNat=true then eM f t else t++[c]:=by
 unfold eM dB;rw[Yu];simp only[List.reverse_cons,Z1,List.nil_append,V6,Vk];split<;>simp
def ate {P:Program} {G:Nat->Option (List IV)} {Rf aG:Nat} (hF:aw P G Rf=some (22,[(none,4)],(dJ aG).bare)) (f:Nat->Bool) (s:Bs) (hs:s.length<=B)
  (hC:∀c:UInt8,cR P G aG [.ptr (.par 0) 256 0 0,.int .u8 (c.toNat:Int)] (eh f) λx cs=>x= .bool (f c.toNat)/\cs=eh f) :
  cR P G Rf [.str s,.ptr (.par 0) 256 0 0] (eh f) λx cs=>x= .str (eM f s)/\cs=eh f:=by
 refine dw hF tM aae (eD f) ?_;unfold dJ;simp only[↓aX,mX,seval,Oj,bc];refine ca (σ:={n:Nat // n<=s.length/\eM f (s.take n)=eM f s}) [.par 0] (λn=>[(0,.str (s.take n.1)),(1,.ptr (.par 0) 256 0 0)]) (λ_=>[(.par 0,⟨256,[eh f]⟩)]) (λn=>n.1) ⟨s.length,PW _,by rw[Rk]⟩
  (λ_=>rfl) M3 aae (λ_ q hr=>pn hr) ?_ ?_
 ·refine eL ?_ ⟨by rw[Rk];rfl,rfl,trivial⟩ ⟨rfl,trivial⟩;intro l hl hu;by_cases e:l= .par 0
  ·subst e;simp
  exfalso;apply hu;cases l<;>simp_all[Lb.fresh,ae,Hp.none]
 rintro⟨n,hn,g_⟩;have I9:(s.take n).length=n:=by rw[tp];omega
 cases n with
 |zero=>
  simp only[↓aX,mX,reduceCtorEq,Int.reduceLT,Nat.reduceEqDiff,Int.reduceLE,Nat.reduceLT,Nat.reduceLeDiff,Nat.reduceAdd,Nat.reduceMul,Int.reduceToNat,cF,bW,I9,show decide (((0:Nat):Int)>0)=false from rfl];rw[<-g_];exact⟨_,⟨rfl,rfl⟩,rfl,eD f,bc f,rfl⟩
 |succ n=>
 obtain⟨c,hc⟩:∃c,s[n]?=some c:=⟨_,rX sf⟩;have hg:decide (((n+1:Nat):Int)>0)=true:=by rw[dj];omega
 have hw:IntKind.i64.wrap (((n+1:Nat):Int) - 1)=(n:Int):=by rw[wrap64 sf (by unfold B at hs;omega)];omega
 have Ls:(s.take (n+1))[n]?=some c:=by rw[Rd,P8 sf];exact hc
 have zB:s.take (n+1)=s.take n++[c]:=mW hc;simp only[↓aX,mX,seval,cF,bW,I9,hg,hw,Ls];refine bj (l:= .par 0) (hC c) rfl (by simp only[↓aX,mX,seval,bc]) ?_;rintro x1 dF ⟨rfl,rfl⟩ _ _ _;simp only[↓aX,mX,seval,bc];cases hf:f c.toNat with
 |false=>
  have:eM f s=s.take (n+1):=by rw[<-g_,zB,oe,Ev (by rw[hf];simp)]
  simp only[↓aX,mX,seval,QI,this];exact⟨_,rfl,rfl,eD f,bc f,by rw[bc]⟩
 |true=>
 have h2:eM f (s.take n)=eM f s:=by rw[<-g_,zB,oe,P8 hf]
 have hb:ya (.int .i64 (n:Int)) (n+1)=some n:=rA .i64 n _ sf;have E0:(s.take (n+1)).take n=s.take n:=by rw[List.take_take,ov (Nat.le_succ n)]
 simp only[↓aX,mX,seval,QK,bc,I9,hw,Ck,Cl,hb,E0,EF,bT,tn];refine⟨⟨n,sf,h2⟩,aac,eL ?_ aah ⟨rfl,trivial⟩⟩;intro l hl hu;by_cases e:l= .par 0
 ·subst e;simp
 exfalso;apply hu;cases l<;>simp_all[Lb.fresh,ae,Hp.none]

def ib (dU bL aS Rf aO dc bC:Nat):AC:=
(aM [aQ 4 (.iC (.c (.str [])))] (.seq (aM [MR 7 0,aQ 8 (.bin .eql (.t 7) (.c (.str []))),MR 9 8,gV 10 9 1,iR 11 9 (.bin .eql (.t 10) (.c (.str []))),sj 12 9 11] (.cond (.t 12) (aM [MR 13 0,MR 4 13] .ret) .skip)) (.seq (aM [MR 14 1,oF 15 14,eY 16 .eql 15 1,MR 17 16,cU 18 17 1,dW 19 17 (.lj (.t 18) (jS 0)),dW 20 17 (.bin .lss (.t 19) (.c (.int .u8 128))),jT 21 17 20] (.cond (.t 21) (.seq (.VL [MR 22 0,MR 23 1,aQ 24 (.lj (.t 23) (jS 0)),aQ 25 (.call dU [(.t 22),(.t 24)]),MR 26 1,aQ 27 (.lj (.t 26) (jS 0)),aQ 28 (.call bL [(.t 25),(.t 27)]),MR 4 28] [[],[],[1],[0,2],[],[4],[3,5,3],[6,6,0,1,2,3,4,5,6]] [.no,.no,.no,.no,.no,.no,.no,.no]) .ret) .skip)) (.seq (aM [MR 30 1,aQ 31 (.call aS [(.t 30)]),MR 29 31,ox 32 29 0,ox 33 29 1,aQ 5 (.new (List.replicate 256 (.bool false))),gg (.store 256 (.t 5) (.t 32)),MR 6 33] (aM [MR 34 6] (.cond (.t 34) (aM [MR 35 0,aQ 36 (.call Rf [(.t 35),(.t 5)]),aQ 37 (.call aO [(.t 36),(.t 5)]),MR 4 37] .ret) .skip))) (aM [MR 38 0,MR 39 1,aQ 40 (.call dc [(.t 38),(.t 39)]),MR 41 1,aQ 42 (.call bC [(.t 40),(.t 41)]),MR 4 42] .ret)))))
def A6 (f:Nat->Bool) (s:Bs):(eM f s).length<=s.length:=by
 unfold eM dB;rw[ZB];have:=(Wa (l:=s.reverse) (λc=>f c.toNat)).length_le
 rwa[ZB] at this
def GB {P:Program} {G:Nat->Option (List IV)} {de aS Rf aO dU bL dc bC:Nat} (hF:aw P G de=some (43,[(none,4)],(ib dU bL aS Rf aO dc bC).bare)) (s t:Bs) (hs:s.length<=B) (ht:2<=t.length)
  (hM:au P G aS [.str t] (.gf [.agg (eh (er t)),.bool true]))
  (hR:cR P G Rf [.str s,.ptr (.par 0) 256 0 0] (eh (er t)) λx cs=>x= .str (eM (er t) s)/\cs=eh (er t))
  (hL:cR P G aO [.str (eM (er t) s),.ptr (.par 0) 256 0 0] (eh (er t)) λx cs=>x= .str (dB (er t) (eM (er t) s))/\cs=eh (er t)) :
  au P G de [.str s,.str t] (.str (dB (er t) (eM (er t) s))):=by
 refine aR hF tM aae aad ?_;unfold ib;simp only[↓aX,mX,reduceCtorEq,Int.reduceLT,Nat.reduceEqDiff,Int.reduceLE,Nat.reduceLT,Nat.reduceLeDiff,Nat.reduceAdd,Nat.reduceMul,Int.reduceToNat];have e1:(t==[])=false:=by cases t<;>simp_all
 have e2:(((t.length:Nat):Int)==1)=false:=by rw[SV];omega
 cases wo:(s==[]) with
 |true=>
  have:s=[]:=by simpa using wo
  subst this;simp only[↓aX,mX,seval];rfl
 |false=>
 simp only[↓aX,mX,reduceCtorEq,Int.reduceLT,Nat.reduceEqDiff,Int.reduceLE,Nat.reduceLT,Nat.reduceLeDiff,Nat.reduceAdd,Nat.reduceMul,Int.reduceToNat,e1,e2];refine ay hM ?_;simp only[↓aX,mX,reduceCtorEq,Int.reduceLT,Nat.reduceEqDiff,Int.reduceLE,Nat.reduceLT,Nat.reduceLeDiff,Nat.reduceAdd,Nat.reduceMul,Int.reduceToNat,VC,qo,bc,mz,mA,od,SU];refine bj (l:= .loc 5) hR rfl (by simp only[↓aX,mX,seval,bc]) ?_;rintro x1 dF ⟨rfl,rfl⟩ _ _ _;simp only[↓aX,mX,reduceCtorEq,Int.reduceLT,Nat.reduceEqDiff,Int.reduceLE,Nat.reduceLT,Nat.reduceLeDiff,Nat.reduceAdd,Nat.reduceMul,Int.reduceToNat,bc,VC];refine bj (l:= .loc 5) hL rfl (by simp only[↓aX,mX,seval,bc]) ?_;rintro x1 dF ⟨rfl,rfl⟩ _ _ _;simp only[↓aX,mX,reduceCtorEq,Int.reduceLT,Nat.reduceEqDiff,Int.reduceLE,Nat.reduceLT,Nat.reduceLeDiff,Nat.reduceAdd,Nat.reduceMul,Int.reduceToNat,bc]
theorem ku (f:Nat->Bool):∀s:Bs,dB f s=[]↔s.all (λc=>f c.toNat)=true
 |[]=>by simp[dB]
 |c::r=>by
  have ih:=ku f r;unfold dB at ih ⊢;rw[Vk,Xt];cases h:f c.toNat with
  |true=>rw[P8 rfl,ih];simp
  |false=>simp
def yd (f:Nat->Bool) (s:Bs):dB f (eM f s)=[]↔s.all (λc=>f c.toNat)=true:=by
 constructor
 ·intro h;cases dN:s.all (λc=>f c.toNat) with
  |true=>rfl
  |false=>
  have h1:∃x,x∈dB f s.reverse/\f x.toNat=false:=by
   have:(s.reverse).all (λc=>f c.toNat)=false:=(by rw[X8];exact dN);have Vi:dB f s.reverse≠[]:=λe=>(by rw[(ku f _).1 e] at this;cases this);unfold dB at Vi ⊢;cases hd:(s.reverse.dropWhile λc=>f c.toNat) with
   |nil=>exact absurd hd Vi
   |cons x r=>
   refine⟨x,tM,?_⟩;have:=Xl (p:=λc:UInt8=>f c.toNat) (l:=s.reverse);rw[hd] at this;simpa using this
  obtain⟨x,hx,Lt⟩:=h1;have h2:=(ku f _).1 h;have h3:=Rh.1 h2 x (by unfold eM;simpa using hx);rw[Lt] at h3;cases h3
 intro h;have:dB f s.reverse=[]:=(ku f _).2 (by rw[X8];exact h);unfold eM;rw[this];rfl
def cY:Bs:=[97,98,99,100,101,102,103,104,105,106,107,108,109,110,111,112,113,114,115,116,117,118,119,120,121,122]
def vN (c:UInt8):er cY c.toNat=Oq c:=by
 have:∀n:Fin 256,er cY (UInt8.ofNat n.val).toNat=Oq (UInt8.ofNat n.val):=aax
 have h:=this ⟨c.toNat,c.toNat_lt⟩;simpa using h
def ye (s:Bs):named s=(decide (s≠[])&&(decide (((s.length:Nat):Int)<=8)&&(dB (er cY) (eM (er cY) s)==[]))):=by
 have h1:(s.all λc=>er cY c.toNat)=s.all Oq:=by congr 1;funext c;exact vN c
 have h2:(dB (er cY) (eM (er cY) s)==[])=s.all Oq:=by
  rw[<-h1,SZ,S'];exact yd _ s
 have h3:decide ((s.length:Int)>=1)=decide (s≠[]):=by
  rw[Xn];cases s with
  |nil=>simp
  |cons c r=>simp;omega
 rw[h2,named,h3];cases decide (s≠[])<;>cases s.all Oq<;>simp
def eQ (de:Nat):AC:=
(aM [jM 2 false] (aM [MR 3 0,aQ 4 (.bin .neq (.t 3) (.c (.str []))),MR 5 4,cU 6 5 0,dW 7 5 (.lens (.t 6)),dW 8 5 (.bin .leq (.t 7) (jS 8)),jT 9 5 8,MR 10 9,cU 11 10 0,dW 12 10 (.call de [(.t 11),(.c (.str [97,98,99,100,101,102,103,104,105,106,107,108,109,110,111,112,113,114,115,116,117,118,119,120,121,122]))]),dW 13 10 (.bin .eql (.t 12) (.c (.str []))),jT 14 10 13,MR 2 14] .ret))
def A7 {P:Program} {G:Nat->Option (List IV)} {bd de:Nat} (hF:aw P G bd=some (15,[(none,2)],(eQ de).bare)) (s:Bs)
  (hT:au P G de [.str s,.str cY] (.str (dB (er cY) (eM (er cY) s)))):au P G bd [.str s] (.bool (named s)):=by
 refine aR hF tM aae aad ?_;unfold eQ;rw[ye];simp only[↓aX,mX,seval];cases h1:(s==[]) with
 |true=>
  have wL:s=[]:=by simpa using h1
  simp only[↓aX,mX,seval,QK,wL];rfl
 |false=>
 have wL:s≠[]:=by simpa using h1
 simp only[↓aX,mX,seval,QI];cases h2:decide (((s.length:Nat):Int)<=8) with
 |false=>simp only[↓aX,mX,seval,VI wL,Vn,VD]
 |true=>
 simp only[↓aX,mX,seval];refine ay hT ?_;simp only[↓aX,mX,seval,VI wL,Vn]

def eE:AC:=
(aM [jM 2 false] (aM [MR 3 0,aQ 4 (.bin .eql (.t 3) (.c (.int .u8 10))),MR 5 4,gV 6 5 0,iR 7 5 (.bin .geq (.t 6) (.c (.int .u8 32))),gV 8 5 7,cU 9 8 0,dW 10 8 (.bin .lss (.t 9) (.c (.int .u8 127))),iR 11 5 (.pick (.t 8) (.t 10) (me false)),sj 12 5 11,MR 2 12] .ret))
def yf {P:Program} {G:Nat->Option (List IV)} {bR:Nat} (hF:aw P G bR=some (13,[(none,2)],eE.bare)) (c:UInt8):au P G bR [.int .u8 (c.toNat:Int)] (.bool (dI c)):=by
 refine aR hF tM aae aad ?_;unfold eE;simp only[↓aX,mX,seval];cases h1:((c.toNat:Int)==10) with
 |true=>
  have wL:(c.toNat:Int)=10:=by simpa using h1
  simp only[↓aX,mX,seval];simp[dI,wL]
 |false=>
 have wL:(c.toNat:Int)≠10:=by simpa using h1
 simp only[↓aX,mX,seval];cases h2:decide ((c.toNat:Int)>=32) with
 |false=>
  have H6:=of_decide_eq_false h2;simp only[↓aX,mX,seval];have:dI c=false:=by unfold dI;simp[wL];omega
  simp only[this]
 |true=>
 have H6:=ZS h2;simp only[↓aX,mX,seval];have:dI c=decide ((c.toNat:Int)<127):=by
  unfold dI;rw[show((c.toNat:Int) !=10)=true by simpa using wL,show decide ((c.toNat:Int)<32)=false by simp;omega];simp only[Vn,YZ];rw[<-decide_not,Xn];omega
 rw[this]
def NK (bR:Nat):AC:=
(aM [jM 2 false] (.seq (aM [MR 5 0,aQ 6 (.zg (.t 5)),oy 7 6,gH 8 0] (.block 0 (.loop (aM [et 9 .lss 8 7] (.seq (.cond (.t 9) .skip (.exit 0)) (.seq (.block 1 (aM [jL 10 6 8 1,fm 11 10,MR 4 11] (aM [MR 12 4,aQ 13 (.call bR [(.t 12)]),sB 14 13] (.cond (.t 14) (aM [jM 2 false] .ret) .skip)))) (.cq [eY 15 .add 8 1,MR 8 15]))))))) (aM [MR 16 0,oF 17 16,eY 18 .leq 17 40,MR 2 18] .ret)))
def E4 (s:Bs):List IV:=s.map λc=> .int .u8 (c.toNat:Int)
def A8 (s:Bs):(E4 s).length=s.length:=by simp[E4]
def A9 (s:Bs) (i:Nat):(E4 s)[i]?=(s[i]?).map λc=> .int .u8 (c.toNat:Int):=cn ..
def D5 (s:Bs):jV 1 (E4 s):=by
 intro x hx;obtain⟨a,_,rfl⟩:=pb.1 hx;rfl
def yg {P:Program} {G:Nat->Option (List IV)} {ga bR:Nat} (hF:aw P G ga=some (19,[(none,2)],(NK bR).bare)) (s:Bs) (hs:s.length<=B)
  (hP:∀c:UInt8,au P G bR [.int .u8 (c.toNat:Int)] (.bool (dI c))):au P G ga [.str s] (.bool (plain s)):=by
 refine aR hF tM aae aad ?_;have hB:s.length<=140737488355328:=by unfold B at hs;omega
 have hu:(s.map λc=>IV.int .u8 (c.toNat:Int))=E4 s:=rfl;unfold NK;simp only[↓aX,mX,seval,P8 hB,hu,A8];refine VR (σ:={i:Nat // i<=s.length/\(s.take i).all dI=true}) (λq=>[(0,.str s),(6,.list (E4 s)),(7,.int .i64 s.length),(8,.int .i64 q.1)]) (λq=>s.length - q.1) ⟨0,tM⟩ (λ_=>rfl) ?_ ?_
 ·exact⟨by simp only[↓aX,mX,seval],aah⟩
 rintro⟨i,hi,g_⟩;simp only[↓aX,mX,seval];by_cases bI:i<s.length
 ·rw[show decide ((i:Int)<(s.length:Int))=true by simpa using bI];obtain⟨c,hc⟩:∃c,s[i]?=some c:=⟨_,rX bI⟩;have hw:IntKind.i64.wrap ((i:Int)+1)=((i+1:Nat):Int):=wrap64 sf (by unfold B at hs;omega);simp only[↓aX,mX,seval,A9,hc,D5,bT,IV.cells];refine ay (hP c) ?_;cases hp:dI c with
  |false=>
   have:plain s=false:=by
    unfold plain;rw[show s.all dI=false by rw[qA];intro h;have:=Rh.1 h c (PX hc);rw[hp] at this;cases this];rfl
   simp only[↓aX,mX,seval,QI,this]
  |true=>
  simp only[↓aX,mX,seval,QK,hw];exact⟨⟨i+1,bI,Pw g_ hc hp⟩,aac,rfl⟩
 have XV:i=s.length:=sf
 subst XV;rw[Rk] at g_;rw[show decide ((s.length:Int)<(s.length:Int))=false by simp];simp only[↓aX,mX,seval,plain,g_,Vn]

def qH:Bs:=[38,108,116,59]
def rC:Bs:=[38,103,116,59]
def kD:Bs:=[38,97,109,112,59]
def jc:Bs:=[38,113,117,111,116,59]
def jQ (v:Bool) (c:UInt8):Bs:=
 if c=60 then qH else if c=62 then rC else if c=38 then kD else if c=34/\v=true then jc else [c]
def fG (v:Bool) (s:Bs):Bs:=s.flatMap (jQ v)
def iK (a:Attr):Bs:=32::a.name++[61,34]++fG true a.val++[34]
def akW (az:List Attr):Bs:=az.flatMap iK
mutual
def Tree.sh:Tree->Bs
 | .mk t s az ks=>if t then fG false s else 60::s++akW az++(match ks with
  |[]=>[47,62]
  |k::r=>62::(k.sh++je r)++[60,47]++s++[62])
def je:List Tree->Bs
 |[]=>[]
 |x::r=>x.sh++je r
end
def Tree.yh (x:Tree) (h:x.text=true):x.sh=fG false x.s:=by
 cases x with
 |mk t s az ks=>simp only[Tree.text] at h;subst h;cases ks<;>simp[Tree.sh,Tree.s]
def nj (s:Bs):List Tree->Bs
 |[]=>[47,62]
 |k::r=>62::je (k::r)++[60,47]++s++[62]
def qp (s:Bs) {ks:List Tree} (h:ks≠[]):nj s ks=62::je ks++[60,47]++s++[62]:=by
 cases ks with
 |nil=>exact absurd rfl h
 |cons k r=>rfl
def Tree.QO (x:Tree) (h:x.text=false):x.sh=60::x.s++akW x.attrs++nj x.s x.kids:=by
 cases x with
 |mk t s az ks=>
 simp only[Tree.text] at h;subst h;cases ks<;>simp[Tree.sh,Tree.s,Tree.attrs,Tree.kids,je,nj]
def akP (c:UInt8):Bool:=decide (97<=c)&&decide (c<=122)
def isSp (c:UInt8):Bool:=c==32||c==10
def arM (c:UInt8):Bool:=c==10||(decide (32<=c)&&decide (c<=126))
def l6 (s:Bs):Option (Bs×Bs):=
 let n:=s.takeWhile akP
 if n=[]\/8<n.length then none else some (n,s.dropWhile akP)
def iA (p s:Bs):Option Bs:=if p.isPrefixOf s then some (s.drop p.length) else none
def og (s:Bs):Option (UInt8×Bs):=
 if qH.isPrefixOf s then some (60,s.drop 4) else if rC.isPrefixOf s then some (62,s.drop 4) else if kD.isPrefixOf s then some (38,s.drop 5) else if jc.isPrefixOf s then some (34,s.drop 6) else none
def nw {s r:Bs} {c:UInt8} (h:og s=some (c,r)):r.length<s.length:=by
 unfold og at h;have key:∀p:Bs,0<p.length->p.isPrefixOf s=true->(s.drop p.length).length<s.length:=λp h0 hp=>by
  obtain⟨q,rfl⟩:=EJ.1 hp;simp;omega
 split at h
 ·rename_i hp;simp only[di,eS] at h;obtain⟨_,rfl⟩:=h;exact key qH M3 hp
 split at h
 ·rename_i hp;simp only[di,eS] at h;obtain⟨_,rfl⟩:=h;exact key rC M3 hp
 split at h
 ·rename_i hp;simp only[di,eS] at h;obtain⟨_,rfl⟩:=h;exact key kD M3 hp
 split at h
 ·rename_i hp;simp only[di,eS] at h;obtain⟨_,rfl⟩:=h;exact key jc M3 hp
 simp at h
def bm (v:Bool) (s:Bs):Option (Bs×Bs):=
 match s with
 |[]=>some ([],[])
 |c::r=>
  if c=60\/(c=34/\v=true) then some ([],c::r)
  else if c=38 then
   match h:og (c::r) with
   |some (e,q)=>(bm v q).map λx=>(e::x.1,x.2)
   |none=>none
  else if c=62\/arM c=false then none
  else(bm v r).map λx=>(c::x.1,x.2)
termination_by s.length
decreasing_by
 ·exact nw h
 simp
def mC {v:Bool}:∀(n:Nat) (s t r:Bs),s.length<=n->bm v s=some (t,r)->r.length+t.length<=s.length:=by
 intro n;induction n with
 |zero=>
  intro s t r hn h;have:s=[]:=Rg.1 sf;subst this;rw[bm] at h;simp at h;obtain⟨rfl,rfl⟩:=h;simp
 |succ n ih=>
 intro s t r hn h;cases s with
 |nil=>rw[bm] at h;simp at h;obtain⟨rfl,rfl⟩:=h;simp
 |cons c q=>
 rw[bm] at h;split at h
 ·simp only[di,eS] at h;obtain⟨rfl,rfl⟩:=h;simp
 split at h
 ·split at h
  ·rename_i e q' he;have:=nw he;obtain⟨⟨t',r'⟩,h1,h2⟩:=jF.1 h;simp only[eS] at h2;obtain⟨rfl,rfl⟩:=h2;have:=ih q' t' r' (by simp at this hn;omega) h1;simp at *;omega
  simp at h
 split at h
 ·simp at h
 obtain⟨⟨t',r'⟩,h1,h2⟩:=jF.1 h;simp only[eS] at h2;obtain⟨rfl,rfl⟩:=h2;have:=ih q t' r' (by simp at hn;omega) h1;simp at *;omega
theorem mD (v:Bool):∀(s r:Bs),s.all dI=true->(∀c r',r=c::r'->c=60\/(c=34/\v=true))->bm v (fG v s++r)=some (s,r)
 |[],r,_,hr=>by
  cases r with
  |nil=>simp[fG,bm]
  |cons c r'=>simp only[fG,Xk,List.nil_append];rw[bm,P8 (hr c r' rfl)]
 |c::s,r,hp,hr=>by
  simp only[Xt,QH] at hp;have ih:=mD v s r hp.2 hr;have e:fG v (c::s)++r=jQ v c++(fG v s++r):=by simp[fG]
  rw[e];have HD:∀(w:Bs) (d:UInt8),(∀q:Bs,og (w++q)=some (d,q))->(∃w',w=38::w')->bm v (w++(fG v s++r))=some (d::s,r):=by
   intro w d h1 ⟨w',h2⟩;have h3:=h1 (fG v s++r);subst h2;simp only[List.cons_append] at h3 ⊢;rw[bm,Ev tM,P8 rfl];split
   ·rename_i e q h4;rw[h3] at h4;simp only[di,eS] at h4;obtain⟨rfl,rfl⟩:=h4;rw[ih];rfl
   rename_i h4;rw[h3] at h4;cases h4
  unfold jQ;split
  ·rename_i h;subst h;exact HD qH 60 (λq=>by simp[og,qH,List.isPrefixOf]) ⟨_,rfl⟩
  rename_i h1;split
  ·rename_i h;subst h;exact HD rC 62 (λq=>by simp[og,qH,rC,List.isPrefixOf]) ⟨_,rfl⟩
  rename_i h2;split
  ·rename_i h;subst h;exact HD kD 38 (λq=>by simp[og,qH,rC,kD,List.isPrefixOf]) ⟨_,rfl⟩
  rename_i h3;split
  ·rename_i h;obtain⟨rfl,rfl⟩:=h;exact HD jc 34 (λq=>by simp[og,qH,rC,kD,jc,List.isPrefixOf]) ⟨_,rfl⟩
  rename_i h4;simp only[List.cons_append,List.nil_append];have hc:arM c=true:=by
   have h:=hp.1;simp only[dI,Ve,X9,EI,ZD,Tt] at h;simp only[arM,Tu,S',QH,dj,U_];rcases h with h|h
   ·left;exact Yb (by show c.toNat=10;omega)
   right;constructor
   ·show(32:UInt8).toNat<=_;simp;omega
   show _<=(126:UInt8).toNat;simp;omega
  rw[bm,Ev (λh=>h.elim h1 h4),Ev h3,Ev (λh=>h.elim h2 (λh=>by rw[hc] at h;cases h)),ih];rfl

def gF (l:List Attr) (a:Attr):List Attr:=
 match l with
 |[]=>[a]
 |b::r=>if Op.bytesLess a.name b.name then a::b::r else b::gF r a
def cu (l:List Attr):List Attr:=l.foldl gF []
def l7 (s:Bs):Option (Attr×Bs):=
 (l6 s).bind λx=>(iA [61,34] x.2).bind λr=>(bm true r).bind λy=>(iA [34] y.2).map λq=>(⟨x.1,y.1⟩,q)
def as_ {p s r:Bs} (h:iA p s=some r):r.length+p.length=s.length:=by
 unfold iA at h;split at h
 ·rename_i hp;obtain⟨q,rfl⟩:=EJ.1 hp;simp only[di] at h;subst h;simp;omega
 simp at h
def mE {s n r:Bs} (h:l6 s=some (n,r)):s=n++r/\n≠[]:=by
 unfold l6 at h;simp only at h;split at h
 ·simp at h
 rename_i hn;simp only[di,eS] at h;obtain⟨rfl,rfl⟩:=h;exact⟨Vf.symm,λe=>hn (.inl e)⟩
def rD {s r:Bs} {a:Attr} (h:l7 s=some (a,r)):r.length+a.name.length+a.val.length+3<=s.length:=by
 unfold l7 at h;obtain⟨⟨n,r1⟩,h1,h⟩:=yV.1 h;obtain⟨r2,h2,h⟩:=yV.1 h;obtain⟨⟨v,r3⟩,h3,h⟩:=yV.1 h;obtain⟨r4,h4,h⟩:=jF.1 h;simp only[eS] at h;obtain⟨rfl,rfl⟩:=h;obtain⟨rfl,_⟩:=mE h1;have e2:=as_ h2;have e3:=mC _ _ _ _ (PW _) h3;have e4:=as_ h4;simp at *;omega
def jf (p:UInt8->Bool) (s:Bs):(s.dropWhile p).length<=s.length:=(Wa p).length_le
def iL (s s1:Bs):Bool:=decide (s1.length<s.length)&&match s1 with
 |[]=>false
 |c::_=> !(c==62)&& !(c==47)
def asA (s:Bs):Option (List Attr×Bs):=
 if iL s (s.dropWhile isSp) then match h:l7 (s.dropWhile isSp) with
  |some (a,r)=>(asA r).map λx=>(a::x.1,x.2)
  |none=>none
 else some ([],s.dropWhile isSp)
termination_by s.length
decreasing_by
 have:=rD h;have:=jf isSp s;omega
def kO (s:Bs):Option (Bs×List Attr×Bs):=
 (iA [60] s).bind λr=>(l6 r).bind λx=>(asA x.2).map λy=>(x.1,y.1,y.2)
def ka (nm s:Bs):Option Bs:=
 (iA [60,47] s).bind λr=>(l6 r).bind λx=>if x.1=nm then iA [62] (x.2.dropWhile isSp) else none
def dM (el:Bs->Option (Tree×Bs)) (s:Bs):Option (List Tree×Bs):=
 match s with
 |[]=>some ([],[])
 |c::q=>
  if [60,47].isPrefixOf (c::q) then some ([],c::q)
  else match(if c=60 then el (c::q) else(bm false (c::q)).map λx=>(Tree.mk true x.1 [] [],x.2)) with
   |some (t,r)=>if h:r.length<(c::q).length then(dM el r).map λx=>(t::x.1,x.2) else none
   |none=>none
termination_by s.length
def bG:Nat->Bs->Option (Tree×Bs)
 |0,_=>none
 |d+1,s=>(kO s).bind λx=>
  if [47,62].isPrefixOf x.2.2 then some (.mk false x.1 (cu x.2.1) [],x.2.2.drop 2)
  else(iA [62] x.2.2).bind λr=>(dM (bG d) r).bind λy=>(ka x.1 y.2).map λq=>(.mk false x.1 (cu x.2.1) y.1,q)
def tj:∀(n:Nat) (s:Bs) (l:List Attr) (r:Bs),s.length<=n->asA s=some (l,r)->r.length+dX l<=s.length:=by
 intro n;induction n with
 |zero=>
  intro s l r hn h;have:s=[]:=Rg.1 sf;subst this;rw[asA] at h;simp[iL] at h;obtain⟨rfl,rfl⟩:=h;simp[dX]
 |succ n ih=>
 intro s l r hn h;rw[asA] at h;have h0:=jf isSp s;split at h
 ·split at h
  ·rename_i a q ha;have h1:=rD ha;obtain⟨⟨l',r'⟩,h2,h3⟩:=jF.1 h;simp only[eS] at h3;obtain⟨rfl,rfl⟩:=h3;have:=ih q l' r' sf h2;simp only[dX,Attr.wt];omega
  simp at h
 simp only[di,eS] at h;obtain⟨rfl,rfl⟩:=h;simp[dX];exact h0
theorem uM (a:Attr):∀l:List Attr,dX (gF l a)=dX l+a.wt
 |[]=>by simp[gF,dX]
 |b::r=>by unfold gF;split<;>simp[dX,uM a r]<;>omega
theorem rE:∀(l acc:List Attr),dX (l.foldl gF acc)=dX acc+dX l
 |[],acc=>by simp[dX]
 |a::r,acc=>by simp only[Bw,rE r,uM,dX];omega
def rF (l:List Attr):dX (cu l)=dX l:=by unfold cu;rw[rE];simp[dX]
def vO {s nm r:Bs} {az:List Attr} (h:kO s=some (nm,az,r)):r.length+nm.length+dX az+1<=s.length/\0<nm.length:=by
 unfold kO at h;obtain⟨r1,h1,h⟩:=yV.1 h;obtain⟨⟨n,r2⟩,h2,h⟩:=yV.1 h;obtain⟨⟨l,r3⟩,h3,h⟩:=jF.1 h;simp only[eS] at h;obtain⟨rfl,rfl,rfl⟩:=h;have e1:=as_ h1;obtain⟨rfl,e2⟩:=mE h2;have e3:=tj _ _ _ _ (PW _) h3;have:0<n.length:=V0.2 e2;simp at *;omega
def QP {nm s r:Bs} (h:ka nm s=some r):r.length<s.length:=by
 unfold ka at h;obtain⟨r1,h1,h⟩:=yV.1 h;obtain⟨⟨n,r2⟩,h2,h5⟩:=yV.1 h;split at h5
 ·have e1:=as_ h1;have e3:=as_ h5;obtain⟨rfl,e2⟩:=mE h2;have:=jf isSp r2;simp at *;omega
 simp at h5
def vP {el:Bs->Option (Tree×Bs)} (ll:∀s t r,el s=some (t,r)->t.wt+3*r.length<=3*s.length):∀(n:Nat) (s:Bs) (l:List Tree) (r:Bs),s.length<=n->dM el s=some (l,r)->dE l+3*r.length<=3*s.length:=by
 intro n;induction n with
 |zero=>
  intro s l r hn h;have:s=[]:=Rg.1 sf;subst this;rw[dM] at h;simp at h;obtain⟨rfl,rfl⟩:=h;simp[dE]
 |succ n ih=>
 intro s l r hn h;cases s with
 |nil=>rw[dM] at h;simp at h;obtain⟨rfl,rfl⟩:=h;simp[dE]
 |cons c q=>
 rw[dM] at h;split at h
 ·simp only[di,eS] at h;obtain⟨rfl,rfl⟩:=h;simp[dE]
 split at h
 ·rename_i t r1 h1;split at h
  ·rename_i bI;obtain⟨⟨l',r'⟩,h2,h3⟩:=jF.1 h;simp only[eS] at h3;obtain⟨rfl,rfl⟩:=h3;have e1:=ih r1 l' r' sf h2;have e2:t.wt+3*r1.length<=3*(c::q).length:=by
    split at h1
    ·exact ll _ _ _ h1
    obtain⟨⟨tx,r2⟩,h4,h5⟩:=jF.1 h1;simp only[eS] at h5;obtain⟨rfl,rfl⟩:=h5;have:=mC _ _ _ _ (PW _) h4;simp[Tree.wt,dX,dE] at *;omega
   simp only[dE];omega
  simp at h
 simp at h
theorem l9:∀(d:Nat) (s:Bs) (t:Tree) (r:Bs),bG d s=some (t,r)->t.wt+3*r.length<=3*s.length
 |0,s,t,r,h=>by simp[bG] at h
 |d+1,s,t,r,h=>by
  unfold bG at h;obtain⟨⟨nm,az,r1⟩,h1,h⟩:=yV.1 h;obtain⟨e1,e2⟩:=vO h1;split at h
  ·rename_i hp;obtain⟨q,hq⟩:=EJ.1 hp;simp only[di,eS] at h;obtain⟨rfl,rfl⟩:=h;simp only at hq;subst hq;simp[Tree.wt,rF,dE] at *;omega
  obtain⟨r2,h2,h⟩:=yV.1 h;obtain⟨⟨ks,r3⟩,h3,h⟩:=yV.1 h;obtain⟨r4,h4,h⟩:=jF.1 h;simp only[eS] at h;obtain⟨rfl,rfl⟩:=h;have k1:=as_ h2;have k2:=vP (l9 d) _ _ _ _ (PW _) h3;have k3:=QP h4;simp[Tree.wt,rF] at *;omega
def vQ (c:UInt8):Oq c=akP c:=by
 unfold Oq akP;rw[SZ];simp only[Ve,EI,Tt,QH,dj,U_];show _↔97<=c.toNat/\c.toNat<=122;omega
def mF (s:Bs):named s=true↔(∀c∈s,akP c=true)/\s≠[]/\s.length<=8:=by
 simp only[named,QH,Rh,dj,vQ];constructor
 ·rintro⟨h1,h2,h3⟩;exact⟨h1,by rintro rfl;simp at h2,sf⟩
 rintro⟨h1,h2,h3⟩;have:=V0.2 h2;exact⟨h1,sf,sf⟩
theorem ata {p:UInt8->Bool}:∀(s r:Bs),(∀c∈s,p c=true)->(∀c q,r=c::q->p c=false)->(s++r).takeWhile p=s/\(s++r).dropWhile p=r
 |[],r,_,h=>by
  cases r with
  |nil=>simp
  |cons c q=>simp[h c q rfl]
 |c::s,r,h1,h2=>by
  have h:=ata s r (λx hx=>h1 x (by simp[hx])) h2;simp[h1 c tM,h.1,h.2]
def mG {n r:Bs} (hn:named n=true) (hr:∀c q,r=c::q->akP c=false):l6 (n++r)=some (n,r):=by
 obtain⟨h1,h2,h3⟩:=(mF n).1 hn;obtain⟨e1,e2⟩:=ata n r h1 hr;unfold l6;simp only[e1,e2];rw[Ev (by rintro(h|h);exact h2 h;omega)]
def gR (p r:Bs):iA p (p++r)=some r:=by
 unfold iA;rw[P8 (EJ.2 ⟨r,rfl⟩)];simp
def pq {s:Bs} (h:plain s=true):s.all dI=true:=by
 simp only[plain,QH] at h;exact h.1
def ar1 {a:Attr} {r:Bs} (hn:named a.name=true) (hv:plain a.val=true):l7 (a.name++([61,34]++(fG true a.val++([34]++r))))=some (a,r):=by
 unfold l7;rw[mG hn (by intro c q h;simp only[List.cons_append,Q5] at h;rw[<-h.1];rfl)];simp only[EF];rw[gR];simp only[EF];rw[mD true a.val _ (pq hv) (by intro c q h;simp only[List.cons_append,Q5] at h;exact .inr ⟨h.1.symm,rfl⟩)];simp only[EF];rw[gR];rfl
theorem oh:∀(az:List Attr) (r:Bs),(∀a∈az,named a.name=true/\plain a.val=true)->(∀c q,r=c::q->c=62\/c=47)->asA (akW az++r)=some (az,r)
 |[],r,_,hr=>by
  have hd:r.dropWhile isSp=r:=by
   cases r with
   |nil=>rfl
   |cons c q=>rcases hr c q rfl with rfl|rfl<;>rfl
  rw[asA];simp only[akW,Xk,List.nil_append,hd];rw[Ev (by simp[iL])]
 |a::az,r,ha,hr=>by
  have hn:=ha a tM;obtain⟨h1,h2,h3⟩:=(mF a.name).1 hn.1;have e:akW (a::az)++r=32::(a.name++([61,34]++(fG true a.val++([34]++(akW az++r))))):=by simp[akW,iK]
  obtain⟨c,q,hc⟩:∃c q,a.name=c::q:=by cases hx:a.name with
   |nil=>exact absurd hx h2
   |cons c q=>exact⟨c,q,rfl⟩
  have vR:akP c=true:=h1 c (by rw[hc];simp);have wu:isSp c=false:=by
   simp only[akP,QH,dj,U_] at vR;simp only[isSp,EI,SV];constructor<;>(rintro rfl;revert vR;decide)
  have Vi:(c==62)=false/\(c==47)=false:=by
   simp only[akP,QH,dj,U_] at vR;simp only[SV];constructor<;>(rintro rfl;revert vR;decide)
  have hd:(32::(a.name++([61,34]++(fG true a.val++([34]++(akW az++r)))))).dropWhile isSp=a.name++([61,34]++(fG true a.val++([34]++(akW az++r)))):=by
   rw[List.dropWhile_cons_of_pos abL,hc];simp[wu]
  rw[e,asA,hd,P8 (by
   unfold iL;rw[hc];simp only[List.cons_append,Vi.1,Vi.2];simp)]
  split
  ·rename_i a' q' h4;rw[ar1 hn.1 hn.2] at h4;simp only[di,eS] at h4;obtain⟨rfl,rfl⟩:=h4;rw[oh az r (λx hx=>ha x (by simp[hx])) hr];rfl
  rename_i h4;rw[ar1 hn.1 hn.2] at h4;cases h4

def mH (a:UInt8):¬a<a:=by rw[X'];omega
def yi {a b c:UInt8} (h:a<b) (h2:b<c):a<c:=by rw[X'] at *;omega
def yj (a b:UInt8):a<b\/a=b\/b<a:=by
 simp only[X'];rcases Nat.lt_trichotomy a.toNat b.toNat with h|h|h
 ·exact .inl h
 ·exact .inr (.inl (Yb h))
 exact .inr (.inr h)
theorem qq:∀x:Bs,Op.bytesLess x x=false
 |[]=>rfl
 |a::x=>by simp[Op.bytesLess,mH,qq x]
theorem rG:∀{x y z:Bs},Op.bytesLess x y=true->Op.bytesLess y z=true->Op.bytesLess x z=true
 |[],[],_,h,_=>by simp[Op.bytesLess] at h
 |[],_::_,[],_,h=>by simp[Op.bytesLess] at h
 |[],_::_,_::_,_,_=>rfl
 |_::_,[],_,h,_=>by simp[Op.bytesLess] at h
 |_::_,_::_,[],_,h=>by simp[Op.bytesLess] at h
 |a::x,b::y,c::z,h1,h2=>by
  simp only[Op.bytesLess,Tu,dj,QH,S'] at h1 h2 ⊢;rcases h1 with h1|⟨rfl,h1⟩
  ·rcases h2 with h2|⟨rfl,h2⟩
   ·exact .inl (yi h1 h2)
   exact .inl h1
  rcases h2 with h2|⟨rfl,h2⟩
  ·exact .inl h2
  exact .inr ⟨rfl,rG h1 h2⟩
def ny {x y:Bs} (h:Op.bytesLess x y=true):Op.bytesLess y x=false:=by
 cases h2:Op.bytesLess y x with
 |false=>rfl
 |true=>have:=rG h h2;rw[qq] at this;cases this
theorem tl:∀x y:Bs,Op.bytesLess x y=true\/x=y\/Op.bytesLess y x=true
 |[],[]=> .inr (.inl rfl)
 |[],_::_=> .inl rfl
 |_::_,[]=> .inr (.inr rfl)
 |a::x,b::y=>by
  simp only[Op.bytesLess,Tu,dj,QH,S',Q5];rcases yj a b with h|rfl|h
  ·exact .inl (.inl h)
  ·rcases tl x y with h|rfl|h
   ·exact .inl (.inr ⟨rfl,h⟩)
   ·exact .inr (.inl ⟨rfl,rfl⟩)
   exact .inr (.inr (.inr ⟨rfl,h⟩))
  exact .inr (.inr (.inl h))
def l_:List Attr->Bool
 |[]=>true
 |[_]=>true
 |a::b::r=>Op.bytesLess a.name b.name&&l_ (b::r)
def kb (a:Attr) (l:List Attr) (i:Nat):dr (a::l) (i+1)=(dr l i&&(if i=0 then match l[0]? with|some b=>Op.bytesLess a.name b.name|none=>true else true)):=by
 unfold dr;cases i with
 |zero=>
  simp only[GA,bM,nc,RA,Rc];cases l[0]?<;>simp[Bool.and_assoc]
 |succ i=>
 simp only[GA,nc];cases l[i+1]?<;>simp
def iM (az:List Attr):bP az=true↔(∀a∈az,named a.name=true/\plain a.val=true)/\l_ az=true/\az.length<=4:=by
 have key:∀az:List Attr,(∀i,i<az.length->dr az i=true)↔(∀a∈az,named a.name=true/\plain a.val=true)/\l_ az=true:=by
  intro az;induction az with
  |nil=>simp[l_]
  |cons a l ih=>
  constructor
  ·intro h;have h0:=h 0 tM;have Kl:=ih.1 λi hi=>by
    have:=h (i+1) (by simpa using hi);rw[kb,QH] at this;exact this.1
   simp only[dr,RA,QH] at h0;refine⟨λx hx=> ?_,?_⟩
   ·simp only[PY] at hx;rcases hx with rfl|hx
    ·exact⟨h0.1,h0.2.1⟩
    exact Kl.1 x hx
   cases l with
   |nil=>rfl
   |cons b r=>
   have:=h 1 tM;rw[kb,QH] at this;simp only[l_,QH];exact⟨by simpa using this.2,Kl.2⟩
  rintro⟨h1,h2⟩ i hi;have hl:∀i,i<l.length->dr l i=true:=ih.2 ⟨λx hx=>h1 x (by simp[hx]),by
   cases l with
   |nil=>rfl
   |cons b r=>simp only[l_,QH] at h2;exact h2.2⟩
  cases i with
  |zero=>simp[dr,(h1 a tM).1,(h1 a tM).2]
  |succ i=>
  rw[kb,hl i (by simpa using hi)];cases l with
  |nil=>simp at hi
  |cons b r=>
  simp only[l_,QH] at h2;by_cases e:i=0
  ·simp[e,h2.1]
  simp[e]
 unfold bP;rw[QH,Rh,<-and_assoc,<-key];constructor
 ·rintro⟨h1,h2⟩;simp only[dj] at h2;exact⟨λi hi=>h1 i (by simpa using hi),sf⟩
 rintro⟨h1,h2⟩;exact⟨λi hi=>h1 i (by simpa using hi),by simp only[dj];omega⟩
theorem ZH:∀{a:Attr} {l:List Attr},l_ (a::l)=true->∀b∈l,Op.bytesLess a.name b.name=true
 |_,[],_,b,hb=>by simp at hb
 |a,c::r,h,b,hb=>by
  simp only[l_,QH] at h;simp only[PY] at hb;rcases hb with rfl|hb
  ·exact h.1
  exact rG h.1 (ZH h.2 b hb)
def vS {a:Attr} {l:List Attr} (h:l_ (a::l)=true):l_ l=true:=by
 cases l with
 |nil=>rfl
 |cons b r=>simp only[l_,QH] at h;exact h.2
theorem pt {a:Attr}:∀(l:List Attr),(∀b∈l,Op.bytesLess b.name a.name=true)->gF l a=l++[a]
 |[],_=>rfl
 |b::r,h=>by
  unfold gF;rw[Ev (by rw[ny (h b tM)];simp),pt r (λc hc=>h c (by simp[hc]))];rfl
theorem pw:∀(l acc:List Attr),l_ l=true->(∀a∈l,∀b∈acc,Op.bytesLess b.name a.name=true)->l.foldl gF acc=acc++l
 |[],acc,_,_=>by simp
 |a::r,acc,h,hb=>by
  simp only[Bw];rw[pt acc (hb a tM),pw r _ (vS h)]
  ·simp
  intro x hx b E5;simp only[QL,bY] at E5;rcases E5 with E5|rfl
  ·exact hb x (by simp[hx]) b E5
  exact ZH h x hx
def vT {l:List Attr} (h:l_ l=true):cu l=l:=by unfold cu;rw[pw l [] h tM];simp
def px {s r:Bs} {az:List Attr} (hn:named s=true) (ha:bP az=true) (hr:∀c q,r=c::q->c=62\/c=47) (I_:r≠[]):kO ([60]++(s++(akW az++r)))=some (s,az,r):=by
 unfold kO;rw[gR];simp only[EF];rw[mG hn]
 ·simp only[EF];rw[oh az r ((iM az).1 ha).1 hr];rfl
 intro c q h;cases az with
 |nil=>
  simp only[akW,Xk,List.nil_append] at h;rcases hr c q h with rfl|rfl<;>rfl
 |cons a az=>
 simp only[akW,VQ,iK,List.cons_append,Q5] at h;rw[<-h.1];rfl
def tm {s r:Bs} (hn:named s=true):ka s ([60,47]++(s++([62]++r)))=some r:=by
 unfold ka;rw[gR];simp only[EF];rw[mG hn (by intro c q h;simp only[List.cons_append,Q5] at h;rw[<-h.1];rfl)];simp only[EF,Rc];have:([62]++r:Bs).dropWhile isSp=[62]++r:=rfl;rw[this,gR]
def yk {v:Bool} {s:Bs} {c:UInt8} {q:Bs} (h:fG v s=c::q):c≠60:=by
 cases s with
 |nil=>simp[fG] at h
 |cons d s=>
 simp only[fG,VQ] at h;unfold jQ at h;split at h
 ·simp only[qH,List.cons_append,Q5] at h;rw[<-h.1];decide
 rename_i h1;split at h
 ·simp only[rC,List.cons_append,Q5] at h;rw[<-h.1];decide
 split at h
 ·simp only[kD,List.cons_append,Q5] at h;rw[<-h.1];decide
 split at h
 ·simp only[jc,List.cons_append,Q5] at h;rw[<-h.1];decide
 simp only[List.cons_append,Q5] at h;rw[<-h.1];exact h1
def Sy (v:Bool) (c:UInt8):jQ v c≠[]:=by
 unfold jQ;split
 ·decide
 split
 ·decide
 split
 ·decide
 split
 ·decide
 simp
def D6 {v:Bool} {s:Bs} (h:s≠[]):fG v s≠[]:=by
 cases s with
 |nil=>exact absurd rfl h
 |cons c s=>
 simp only[fG,VQ];intro e;exact Sy v c (mb.1 e).1
mutual
theorem mY:∀(x:Tree) (d:Nat) (r:Bs),x.fu=true->x.text=false->x.dep<=d->bG d (x.sh++r)=some (x,r)
 | .mk t s az ks,0,r,_,_,hd=>by simp[Tree.dep] at hd
 | .mk t s az ks,d+1,r,hf,ht,hd=>by
  simp only[Tree.text] at ht;subst ht;have BQ:=hf;rw[Tree.Pa _ rfl] at BQ;simp only[Tree.s,Tree.attrs,Tree.kids,QH] at BQ;obtain⟨h1,h2,h3⟩:=BQ;have hs:=vT ((iM az).1 h2).2.1;simp only[Tree.dep] at hd;rw[Tree.QO _ rfl];simp only[Tree.s,Tree.attrs,Tree.kids];unfold bG;by_cases hk:ks=[]
  ·subst hk;have e:60::s++akW az++nj s []++r=[60]++(s++(akW az++([47,62]++r))):=(by simp[nj]);rw[e,px h1 h2 (by intro c q h;simp only[List.cons_append,Q5] at h;exact .inr h.1.symm) tM];simp only[EF,hs];rw[P8 abl];rfl
  have e:60::s++akW az++nj s ks++r=[60]++(s++(akW az++([62]++(je ks++([60,47]++(s++([62]++r))))))):=by rw[qp s hk];simp
  rw[e,px h1 h2 (by intro c q h;simp only[List.cons_append,Q5] at h;exact .inl h.1.symm) tM];simp only[EF,hs];rw[Ev abl];rw[gR];simp only[EF];rw[rH ks none d ([60,47]++(s++([62]++r))) h3 sf (by intro c q h;simp only[List.cons_append,Q5] at h;exact h.1.symm) abl];simp only[EF];rw[tm h1];rfl
theorem rH:∀(ks:List Tree) (p:Option Bool) (d:Nat) (r:Bs),bQ p ks=true->fB ks<=d->(∀c q,r=c::q->c=60)->(r=[]\/[60,47].isPrefixOf r=true)->dM (bG d) (je ks++r)=some (ks,r)
 |[],p,d,r,_,_,_,hr=>by
  simp only[je,List.nil_append];cases r with
  |nil=>rw[dM]
  |cons c q=>
  rw[dM,P8 (by rcases hr with hr|hr;simp at hr;exact hr)]
 |x::ks,p,d,r,hf,hd,hc,hr=>by
  simp only[bQ,QH] at hf;obtain⟨h1,h2,h3⟩:=hf;simp only[fB] at hd;have ih:=rH ks (some x.text) d r h3 sf hc hr;have e:je (x::ks)++r=x.sh++(je ks++r):=by simp[je]
  rw[e];cases hx:x.text with
  |false=>
   have he:=mY x d (je ks++r) h1 hx sf;have hl:=l9 d _ _ _ he;have hw:=x.gx;have hn:named x.s=true:=by
    rw[x.Pa hx] at h1;simp only[QH] at h1;exact h1.1
   obtain⟨n1,n2,n3⟩:=(mF x.s).1 hn;obtain⟨c,q,hq⟩:∃c q,x.s=c::q:=by cases hx:x.s with
    |nil=>exact absurd hx n2
    |cons c q=>exact⟨c,q,rfl⟩
   have vR:akP c=true:=n1 c (by rw[hq];simp);have HE:c≠47:=(by rintro rfl;revert vR;decide);obtain⟨q',oX⟩:∃q',x.sh++(je ks++r)=60::c::q':=(by rw[x.QO hx,hq];simp);rw[oX] at he hl ⊢;rw[dM,Ev (by simp[List.isPrefixOf,Ss HE]),P8 rfl,he];simp only;rw[Yy sf,ih];rfl
  |true=>
  rw[x.oa hx] at h1;simp only[QH,sd,S',Rg] at h1;obtain⟨g1,g2,g3,g4⟩:=h1;have Lu:∀c q,je ks++r=c::q->c=60:=by
   intro c q h;cases ks with
   |nil=>exact hc c q h
   |cons y ks=>
   simp only[bQ,QH] at h3;have hy:y.text=false:=by
    have:=h3.2.1;rw[hx] at this;simpa using this
   simp only[je,y.QO hy,List.cons_append,Q5] at h;exact h.1.symm
  have ht:=mD false x.s (je ks++r) (pq g1) (λc q h=> .inl (Lu c q h));rw[x.yh hx];obtain⟨c,q,hq⟩:∃c q,fG false x.s=c::q:=by cases hx:fG false x.s with
   |nil=>exact absurd hx (D6 g2)
   |cons c q=>exact⟨c,q,rfl⟩
  have GC:=yk hq;have Hv:x=Tree.mk true x.s [] []:=Tree.ext hx rfl g3 g4;rw[hq] at ht ⊢;simp only[List.cons_append] at ht ⊢;rw[dM,Ev (by simp[List.isPrefixOf,Ss GC]),Ev GC,ht];simp only[bT];rw[Yy aak,ih];simp only[bT];rw[<-Hv]
end

def eG (bd ga:Nat):AC:=
(aM [jM 2 false] (aM [aQ 3 (.iC (.c (.str [])))] (.seq (aM [MR 6 0,oy 7 6,gH 8 0] (.block 0 (.loop (aM [et 9 .lss 8 7] (.seq (.cond (.t 9) .skip (.exit 0)) (.seq (.block 1 (aM [jL 10 6 8 2,gz 11 2 10,aQ 5 (.new [(.str []),(.str [])]),gg (.store 2 (.t 5) (.t 11))] (.seq (aM [ep 12 5 0,fm 13 12,aQ 14 (.call bd [(.t 13)]),sB 15 14,MR 16 15,oH 17 16 5 1,oG 18 16 17,iR 19 16 (.call ga [(.t 18)]),iR 20 16 (.not (.t 19)),sj 21 16 20,MR 22 21,oH 23 22 5 0,oG 24 22 23,gV 25 22 3,iR 26 22 (.bin .leq (.t 24) (.t 25)),sj 27 22 26] (.cond (.t 27) (aM [jM 2 false] .ret) .skip)) (.cq [ep 28 5 0,fm 29 28,MR 3 29])))) (.cq [eY 30 .add 8 1,MR 8 30]))))))) (aM [MR 31 0,oy 32 31,eY 33 .leq 32 4,MR 2 33] .ret))))
def py (az:List Attr):Nat->Bs
 |0=>[]
 |i+1=>match az[i]? with
  |some p=>p.name
  |none=>[]
def D7 (x y:Bs):(Op.bytesLess x y||x==y)= !Op.bytesLess y x:=by
 rcases tl x y with h|h|h
 ·rw[h,ny h];rfl
 ·subst h;rw[qq];simp
 rw[h,ny h];have:(x==y)=false:=by rw[SV];rintro rfl;rw[qq] at h;cases h
 rw[this];rfl
def D8 {x:Bs} (h:named x=true):Op.bytesLess [] x=true:=by
 cases x with
 |nil=>simp[named] at h
 |cons c r=>rfl
def yl {P:Program} {G:Nat->Option (List IV)} {bS bd ga:Nat} (hF:aw P G bS=some (34,[(none,2)],(eG bd ga).bare)) (az:List Attr) (hx:az.length<=B)
  (hN:∀a∈az,au P G bd [.str a.name] (.bool (named a.name))) (hP:∀a∈az,au P G ga [.str a.val] (.bool (plain a.val))) :
  au P G bS [.list (cD az)] (.bool (bP az)):=by
 refine aR hF tM aae aad ?_;unfold eG;simp only[↓aX,mX,seval,bp];refine VR (σ:={i:Nat // i<=az.length/\∀j,j<i->dr az j=true}) (λq=>[(0,.list (cD az)),(3,.str (py az q.1)),(6,.list (cD az)),(7,.int .i64 az.length),(8,.int .i64 q.1)]) (λq=>az.length - q.1) ⟨0,tM⟩ (λ_=>rfl) ?_ ?_
 ·exact⟨by simp only[↓aX,mX,seval],aah⟩
 rintro⟨i,hi,hs⟩;simp only[↓aX,mX,seval,bp];by_cases bI:i<az.length
 ·rw[show decide ((i:Int)<(az.length:Int))=true by simpa using bI];obtain⟨a,ha⟩:∃a,az[i]?=some a:=⟨_,rX bI⟩;have hw:IntKind.i64.wrap ((i:Int)+1)=((i+1:Nat):Int):=wrap64 sf (by unfold B at hx;omega);simp only[↓aX,mX,seval,lS,ha,rq,Attr.cJ,Attr.cs];refine ay (hN a (PX ha)) ?_;have stop:dr az i=false->bP az=false:=λhp=>by rw[bP,pc bI hp];rfl
  have j4:dr az i=(named a.name&&(plain a.val&&(i==0||match az[i - 1]? with|some p=>Op.bytesLess p.name a.name|none=>true))):=by unfold dr;rw[ha];rfl
  cases h1:named a.name with
  |false=>
   simp only[↓aX,mX,seval,QI];rw[stop (by rw[j4,h1];rfl)]
  |true=>
  simp only[↓aX,mX,seval,QK];refine ay (hP a (PX ha)) ?_;cases h2:plain a.val with
  |false=>
   simp only[↓aX,mX,seval,QI];rw[stop (by rw[j4,h1,h2];rfl)]
  |true=>
  simp only[↓aX,mX,seval,QK];have hb:dr az i=Op.bytesLess (py az i) a.name:=by
   rw[j4,h1,h2];cases i with
   |zero=>rw[show py az 0=[] from rfl,D8 h1];rfl
   |succ i=>
   obtain⟨p,hp⟩:∃p,az[i]?=some p:=⟨_,rX sf⟩;simp[py,hp]
  rw[D7,<-hb];cases h4:dr az i with
  |false=>
   simp only[↓aX,mX,seval,QI];rw[stop h4]
  |true=>
  simp only[↓aX,mX,seval,QK,hw];refine⟨⟨i+1,bI,λj hj=> ?_⟩,aac,?_⟩
  ·by_cases e:j=i
   ·rw[e];exact h4
   exact hs j sf
  refine⟨?_,rfl⟩;show AV.str a.name=AV.str (py az (i+1));simp only[py,ha]
 have XV:i=az.length:=sf
 rw[show decide ((i:Int)<(az.length:Int))=false by simpa using bI];simp only[↓aX,mX,seval,bp];have:(List.range az.length).all (dr az)=true:=by
  rw[Rh];intro j hj;exact hs j (by simp at hj;omega)
 rw[bP,this];rfl

def as4 (ga bd bS bA:Nat):AC:=
(aM [jM 2 false] (aM [jM 3 false] (.seq (aM [MR 6 0,oy 7 6,gH 8 0] (.block 0 (.loop (aM [et 9 .lss 8 7] (.seq (.cond (.t 9) .skip (.exit 0)) (.seq (.block 1 (aM [jL 10 6 8 4,gz 11 4 10,aQ 5 (.new [(.bool false),(.str []),.nil0,.nil0]),gg (.store 4 (.t 5) (.t 11))] (.seq (aM [ep 12 5 0,fm 13 12,MR 14 13,cU 15 14 3,cU 16 14 15,oH 17 16 5 1,oG 18 16 17,iR 19 16 (.bin .eql (.t 18) (.c (.str []))),dW 20 14 (.pick (.t 16) (me true) (.t 19)),cU 21 14 20,oH 22 21 5 1,oG 23 21 22,iR 24 21 (.call ga [(.t 23)]),iR 25 21 (.not (.t 24)),dW 26 14 (.pick (.t 21) (me true) (.t 25)),cU 27 14 26,oH 28 27 5 2,oG 29 27 28,iR 30 27 (.len (.t 29)),iR 31 27 (.bin .neq (.t 30) (jS 0)),dW 32 14 (.pick (.t 27) (me true) (.t 31)),cU 33 14 32,oH 34 33 5 3,oG 35 33 34,iR 36 33 (.len (.t 35)),iR 37 33 (.bin .neq (.t 36) (jS 0)),dW 38 14 (.pick (.t 33) (me true) (.t 37)),jT 39 14 38] (.cond (.t 39) (aM [jM 2 false] .ret) .skip)) (.seq (aM [ep 40 5 0,fm 41 40,sB 42 41,MR 43 42,Wb 44 43 5 1,jm 45 43 44,dW 46 43 (.call bd [(.t 45)]),dW 47 43 (.not (.t 46)),cU 48 43 47,oH 49 48 5 2,oG 50 48 49,iR 51 48 (.call bS [(.t 50)]),iR 52 48 (.not (.t 51)),dW 53 43 (.pick (.t 48) (me true) (.t 52)),cU 54 43 53,oH 55 54 5 3,oG 56 54 55,iR 57 54 (.call bA [(.t 56)]),iR 58 54 (.not (.t 57)),dW 59 43 (.pick (.t 54) (me true) (.t 58)),jT 60 43 59] (.cond (.t 60) (aM [jM 2 false] .ret) .skip)) (.cq [ep 61 5 0,fm 62 61,MR 3 62]))))) (.cq [eY 63 .add 8 1,MR 8 63]))))))) (aM [jM 2 true] .ret))))
def D9 {P:Program} {G:Nat->Option (List IV)} {bA ga bd bS:Nat} (hF:aw P G bA=some (64,[(none,2)],(as4 ga bd bS bA).bare)) (l:List Tree) (hx:dE l<=B)
  (hP:∀x∈l,au P G ga [.str x.s] (.bool (plain x.s))) (hN:∀x∈l,au P G bd [.str x.s] (.bool (named x.s)))
  (hA:∀x∈l,au P G bS [.list (cD x.attrs)] (.bool (bP x.attrs))) (hK:∀x∈l,au P G bA [.list (dq x.kids)] (.bool (bQ none x.kids))) :
  au P G bA [.list (dq l)] (.bool (bQ none l)):=by
 refine aR hF tM aae aad ?_;have hl:=eZ l;unfold as4;simp only[↓aX,mX,seval,bF];refine VR (σ:={q:Nat×Option Bool // q.1<=l.length/\bQ none l=bQ q.2 (l.drop q.1)}) (λq=>[(0,.list (dq l)),(3,.bool (q.1.2==some true)),(6,.list (dq l)),(7,.int .i64 l.length),(8,.int .i64 q.1.1)]) (λq=>l.length - q.1.1) ⟨(0,none),tM,rfl⟩ (λ_=>rfl) ?_ ?_
 ·exact⟨by simp only[↓aX,mX,seval],aah⟩
 rintro⟨⟨i,p⟩,hi,hs⟩;simp only at hi hs;simp only[↓aX,mX,seval,bF];by_cases bI:i<l.length
 ·rw[show decide ((i:Int)<(l.length:Int))=true by simpa using bI];obtain⟨x,Ja⟩:∃x,l[i]?=some x:=⟨_,rX bI⟩;have hm:=PX Ja;have hw:IntKind.i64.wrap ((i:Int)+1)=((i+1:Nat):Int):=wrap64 sf (by unfold B at hx;omega);have mV:bQ none l=(x.fu&&(!(p==some true&&x.text)&&bQ (some x.text) (l.drop (i+1)))):=by rw[hs,EK bI,rX bI |>.symm.trans Ja|>Xy];rfl
  have stop:x.fu=false->bQ none l=false:=λh=>by rw[mV,h];rfl
  simp only[↓aX,mX,seval,iy,Ja,lT,Tree.cJ,Tree.cs];cases ht:x.text with
  |true=>
   have uq:=x.oa ht;simp only[↓aX,mX,seval];cases hp:(p==some true) with
   |true=>
    have:bQ none l=false:=(by rw[mV,hp,ht];simp);simp only[↓aX,mX,seval,this]
   |false=>
   simp only[↓aX,mX,seval];cases h1:(x.s==[]) with
   |true=>
    have h9:(x.s !=[])=false:=(by simpa using h1);have:bQ none l=false:=stop (by rw[uq,h9];simp);simp only[↓aX,mX,seval,this]
   |false=>
   simp only[↓aX,mX,seval];refine ay (hP x hm) ?_;cases h2:plain x.s with
   |false=>
    have:bQ none l=false:=stop (by rw[uq,h2];rfl);simp only[↓aX,mX,seval,QI,this]
   |true=>
   simp only[↓aX,mX,seval,QK,bp];have h9:(x.s !=[])=true:=(by simpa using h1);cases h5:((x.attrs.length:Int) !=0) with
   |true=>
    have:bQ none l=false:=stop (by
     have:(x.attrs.length==0)=false:=(by simp at h5 ⊢;exact h5);rw[uq,this];simp)
    simp only[↓aX,mX,seval,this]
   |false=>
   simp only[↓aX,mX,seval,bF];cases h6:((x.kids.length:Int) !=0) with
   |true=>
    have:bQ none l=false:=stop (by
     have:(x.kids.length==0)=false:=(by simp at h6 ⊢;exact h6);rw[uq,this];simp)
    simp only[↓aX,mX,seval,this]
   |false=>
   have B7:x.fu=true:=by
    have e5:(x.attrs.length==0)=true:=(by simp at h5 ⊢;exact h5);have e6:(x.kids.length==0)=true:=(by simp at h6 ⊢;exact h6);rw[uq,h2,h9,e5,e6];rfl
   simp only[↓aX,mX,seval,QK,hw];refine⟨⟨(i+1,some true),bI,by rw[mV,B7,hp,ht];rfl⟩,aac,rfl,rfl⟩
  |false=>
  have uq:=x.Pa ht;simp only[↓aX,mX,seval,QI];refine ay (hN x hm) ?_;cases h2:named x.s with
  |false=>
   have:bQ none l=false:=stop (by rw[uq,h2];rfl);simp only[↓aX,mX,seval,QI,this]
  |true=>
  simp only[↓aX,mX,seval,QK];refine ay (hA x hm) ?_;cases h3:bP x.attrs with
  |false=>
   have:bQ none l=false:=stop (by rw[uq,h2,h3];rfl);simp only[↓aX,mX,seval,QI,this]
  |true=>
  simp only[↓aX,mX,seval,QK];refine ay (hK x hm) ?_;cases h4:bQ none x.kids with
  |false=>
   have:bQ none l=false:=stop (by rw[uq,h2,h3,h4];rfl);simp only[↓aX,mX,seval,QI,this]
  |true=>
  simp only[↓aX,mX,seval,QK,hw];have B7:x.fu=true:=by rw[uq,h2,h3,h4];rfl
  refine⟨⟨(i+1,some false),bI,by rw[mV,B7,ht];simp⟩,aac,rfl,rfl⟩
 have XV:i=l.length:=sf
 subst XV;rw[show decide ((l.length:Int)<(l.length:Int))=false by simp];simp only[↓aX,mX,seval];rw[hs,Zd];rfl

def ym (sz b d k:Nat) (xs ys:List IV) {n:Nat} {H:Hp} (hl:H (.loc k)= .live ⟨sz,aB xs⟩) (hn:xs.length=n) (he:jV sz ys) (hf:Flat ys) (hb:(n+ys.length)*b<=140737488355328) (h0:0<b)
  (Vi:k≠d) (hu:H (.loc d)= .unused) :
  jN sz b d (.sl (.loc k) sz 0 n) (.list ys) H=some (.sl (.loc d) sz 0 (n+ys.length),bD (bD H (.loc k) .dead) (.loc d) (.live ⟨sz,aB (xs++ys)⟩)):=by
 have h1:(aB xs).length=n:=by rw[lQ,hn]
 rw[s_ (l:= .loc k) (els:=aB xs) hl sf he hf hb h0 (by simpa[Lb.app,Lb.fresh] using Vi) (by simpa[Lb.app,Lb.fresh] using hu)];simp only[Lb.app,Lb.fresh,Rc];rw[P5 sf,lR]
def eR:AC:=
(aM [zzX 1 0,gH 2 0,gH 3 0] (aM [gH 4 0,gH 5 0] (.seq (aM [gz 10 4 1,aQ 11 (.lits 1 4 [(.bool false),(.str []),.nil0,.nil0] [(0,(.t 10))]),MR 6 11] (.block 0 (.loop (.seq (aM [MR 12 6,oy 13 12,eY 14 .gtr 13 0] (.cond (.t 14) .skip (.exit 0))) (.block 1 (aM [MR 15 4,eY 16 .add 15 1,MR 4 16] (aM [MR 17 5,MR 18 6,oy 19 18,et 20 .add 17 19,MR 5 20] (aM [zi 7] (.gh (.own 7 4) (.seq (aM [MR 21 6,oy 22 21,gH 23 0] (.block 2 (.loop (aM [et 24 .lss 23 22] (.seq (.cond (.t 24) .skip (.exit 2)) (.seq (.block 3 (aM [jL 25 21 23 4,gz 26 4 25,aQ 9 (.new [(.bool false),(.str []),.nil0,.nil0]),gg (.store 4 (.t 9) (.t 26))] (.cq [MR 27 7,ep 28 9 3,fm 29 28,aQ 30 (.app (.t 27) (.t 29) 4 72),MR 7 30]))) (.cq [eY 31 .add 23 1,MR 23 31]))))))) (.gh (.zS (.loc 7) 7) (.cq [MR 32 7,MR 6 32])))))))))))) (aM [MR 33 4,MR 34 5,MR 2 33,MR 3 34] .ret))))
def A_ {P:Program} {G:Nat->Option (List IV)} {bX:Nat} (hF:aw P G bX=some (35,[(none,2),(none,3)],eR.bare)) (x:Tree) (hx:x.wt<=B) :
  au P G bX [x.av] (.gf [.int .i64 x.dep,.int .i64 x.jz]):=by
 refine aR hF tM aaJ aao ?_;unfold eR;have D1:[x.iv]=dq [x]:=by simp[dq]
 have wT:[IV.agg [.bool x.text,.str x.s,.list (cD x.attrs),.list (dq x.kids)]]=dq [x]:=by rw[<-D1,x.o_];rfl
 simp only[↓aX,mX,seval,Tree.av,wT];have zo:B=1073741824:=rfl;have hd:=x.td;have Mt:=x.xV;refine VR (σ:={q:Nat×Nat×List Tree // q.1+fB q.2.2=x.dep/\q.2.1+dP q.2.2=x.jz/\dE q.2.2<=B}) (λq=>[(4,.int .i64 q.1.1),(5,.int .i64 q.1.2.1),(6,.list (dq q.1.2.2))]) (λq=>dP q.1.2.2) ⟨(0,0,[x]),by simp[fB,dP,dE,hx]⟩ (λ_=>rfl) ?_ ?_
 ·exact⟨by simp only[↓aX,mX,seval],aah⟩
 rintro⟨⟨d,c,xs⟩,h1,h2,h3⟩;simp only at h1 h2 h3;simp only[↓aX,mX,seval,bF];by_cases hn:xs=[]
 ·subst hn;simp only[fB,dP,kf] at h1 h2;simp only[Rm,show decide (((0:Nat):Int)>0)=false from rfl,↓aX,mX,reduceCtorEq,Int.reduceLT,Nat.reduceEqDiff,Int.reduceLE,Nat.reduceLT,Nat.reduceLeDiff,Nat.reduceAdd,Nat.reduceMul,Int.reduceToNat,h1,h2,↓h_]
 have xg:0<xs.length:=V0.2 hn;have BR:=eZ xs;have pU:IntKind.i64.wrap ((d:Int)+1)=((d+1:Nat):Int):=wrap64 sf sf;have wB:IntKind.i64.wrap ((c:Int)+(xs.length:Int))=((c+xs.length:Nat):Int):=by
  have:=kt xs;exact wrap64 sf sf
 simp only[show decide ((xs.length:Int)>0)=true by simpa using xg,↓aX,mX,seval,bF,pU,wB];refine xL (σ:={i:Nat // i<=xs.length}) 7 4 (λq=>[(4,.int .i64 ((d+1:Nat):Int)),(5,.int .i64 ((c+xs.length:Nat):Int)),(21,.list (dq xs)),(22,.int .i64 xs.length),(23,.int .i64 q.1)]) (λq=>dq (fj (xs.take q.1))) (λq=>xs.length - q.1) ⟨0,tM⟩ (λ_=>rfl) ?_ ?_
 ·simp only[Gi,↓aX,mX,reduceCtorEq,Int.reduceLT,Nat.reduceEqDiff,Int.reduceLE,Nat.reduceLT,Nat.reduceLeDiff,Nat.reduceAdd,Nat.reduceMul,Int.reduceToNat];exact⟨rfl,7,[],rfl,rfl,rfl⟩
 rintro⟨i,hi⟩;have Mu:=ajF xs;have Mv:dE (fj (xs.take i))<=dE xs:=U' (by have:=ajF (xs.take i);omega) (lV xs i);have ve:=eZ (fj (xs.take i));simp only[↓aX,mX,seval,bF];by_cases bI:i<xs.length
 ·obtain⟨y,hy⟩:∃y,xs[i]?=some y:=⟨_,rX bI⟩;have hw:IntKind.i64.wrap ((i:Int)+1)=((i+1:Nat):Int):=wrap64 sf sf;have gr:fj (xs.take (i+1))=fj (xs.take i)++y.kids:=by rw[Ro,hy];simp[fj]
  have Jb:dE (fj (xs.take (i+1)))<=dE xs:=U' (by have:=ajF (xs.take (i+1));omega) (lV xs (i+1));rw[gr,kn] at Jb;have Hm:=eZ y.kids;simp only[show decide ((i:Int)<(xs.length:Int))=true by simpa using bI,↓aX,mX,seval,iy,hy,lT,Tree.cJ,Tree.cs];rw[ym 4 72 30 7 (dq (fj (xs.take i))) (dq y.kids) aai (by rw[bF]) (lT _) (pa _) (by have:=bF y.kids;have:=bF (fj (xs.take i));omega) M3 M3 aat];simp only[↓aX,mX,seval,hw];refine⟨⟨i+1,bI⟩,aac,?_⟩;refine Gj 30 (by simp only[↓aX,mX,seval]) ⟨rfl,rfl,rfl,rfl,rfl,trivial⟩ ?_ ?_
  ·simp only[↓aX,mX,seval,gr,qh,ko,bF]
  simp only[↓aX,mX,seval,gr,qh]
 have XV:i=xs.length:=sf
 subst XV;simp only[show decide ((xs.length:Int)<(xs.length:Int))=false by simp,↓aX,mX,seval];refine⟨4,dq (fj (xs.take xs.length)),0,_,rfl,rfl,tM,pa _,?_⟩;simp only[↓aX,mX,seval,Rk,tn];refine⟨⟨(d+1,c+xs.length,fj xs),?_,?_,?_⟩,?_,?_⟩
 ·have:=aaD xs hn;simp only;omega
 ·have:=kt xs;simp only;omega
 ·simp only;omega
 ·have:=kt xs;simp only;omega
 exact⟨by simp only[↓aX,mX,seval],aah⟩
def Nw (bX bA:Nat):AC:=
(aM [jM 2 false] (aM [gH 3 0] (.seq (aM [MR 8 0,oy 9 8,gH 10 0] (.block 0 (.loop (aM [et 11 .lss 10 9] (.seq (.cond (.t 11) .skip (.exit 0)) (.seq (.block 1 (aM [jL 12 8 10 4,gz 13 4 12,aQ 5 (.new [(.bool false),(.str []),.nil0,.nil0]),gg (.store 4 (.t 5) (.t 13))] (aM [gz 15 4 5,aQ 16 (.call bX [(.t 15)]),MR 14 16,ox 17 14 0,ox 18 14 1,MR 6 17,MR 7 18] (aM [MR 19 3,MR 20 7,et 21 .add 19 20,MR 3 21] (aM [MR 22 6,eY 23 .gtr 22 8] (.cond (.t 23) (aM [jM 2 false] .ret) .skip)))))) (.cq [eY 24 .add 10 1,MR 10 24]))))))) (aM [MR 25 3,eY 26 .leq 25 80,MR 27 26,cU 28 27 0,dW 29 27 (.call bA [(.t 28)]),jT 30 27 29,MR 2 30] .ret))))
def QQ {P:Program} {G:Nat->Option (List IV)} {M4 bX bA:Nat} (hF:aw P G M4=some (31,[(none,2)],(Nw bX bA).bare)) (l:List Tree) (hx:dE l<=B)
  (hS:∀x∈l,au P G bX [x.av] (.gf [.int .i64 x.dep,.int .i64 x.jz])) (hR:au P G bA [.list (dq l)] (.bool (bQ none l))) :
  au P G M4 [.list (dq l)] (.bool (content l)):=by
 refine aR hF tM aae aad ?_;unfold Nw;have zo:B=1073741824:=rfl;have hl:=eZ l;simp only[↓aX,mX,seval,bF];refine VR (σ:={i:Nat // i<=l.length/\(l.take i).all (λx=>decide (x.dep<=8))=true}) (λq=>[(0,.list (dq l)),(3,.int .i64 (dP (l.take q.1))),(8,.list (dq l)),(9,.int .i64 l.length),(10,.int .i64 q.1)]) (λq=>l.length - q.1) ⟨0,tM⟩ (λ_=>rfl) ?_ ?_
 ·exact⟨by simp only[↓aX,mX,seval],aah⟩
 rintro⟨i,hi,hs⟩;simp only[↓aX,mX,seval,bF];refine AU (λh=> ?_) (λh=> ?_)
 ·have bI:i<l.length:=by simpa using h
  obtain⟨x,Ja⟩:∃x,l[i]?=some x:=⟨_,rX bI⟩;have hw:IntKind.i64.wrap ((i:Int)+1)=((i+1:Nat):Int):=wrap64 sf (by unfold B at hx;omega);have h2:=lV l i;have h3:=ql (l.take i);have h5:=jx _ _ _ Ja;have h6:=x.td;have h1:l.take (i+1)=l.take i++[x]:=by rw[Ro,Ja];rfl
  have hc:IntKind.i64.wrap ((dP (l.take i):Int)+(x.jz:Int))=((dP (l.take (i+1)):Nat):Int):=by
   rw[wrap64 sf (by unfold B at hx;omega),h1,lU];simp[dP]
  simp only[↓aX,mX,seval,iy,Ja,lT,Tree.cJ,Tree.cs];refine ay (hS x (PX Ja)) ?_;simp only[↓aX,mX,seval];refine AU (λh9=> ?_) (λh9=> ?_)
  ·simp only[↓aX,mX,seval];have:l.all (λx=>decide (x.dep<=8))=false:=by
    rw[qA];intro dN;have:=Rh.1 dN x (PX Ja);simp at this h9;omega
   rw[content,this];rfl
  simp only[↓aX,mX,seval,hw,hc];refine⟨⟨i+1,bI,?_⟩,aac,by simp only[↓aX,mX,seval],aah⟩;rw[h1,List.all_append,hs];simp at h9 ⊢;omega
 have XV:i=l.length:=by simp at h;omega
 subst XV;rw[Rk] at hs;simp only[↓aX,mX,seval,Rk];cases h9:decide ((dP l:Int)<=80) with
 |true=>
  simp only[↓aX,mX,seval];refine ay hR ?_;simp only[↓aX,mX,seval];have:decide (dP l<=80)=true:=by simp at h9 ⊢;omega
  rw[content,hs,this];rfl
 |false=>
 simp only[↓aX,mX,seval];have:decide (dP l<=80)=false:=by simp at h9 ⊢;omega
 rw[content,hs,this];rfl

mutual
def Py (X:Lb->Option (Nat×List IV)):AV->AV
 | .sl l sz i n=>match X l with
  |some (s,xs)=>if s=sz/\i+n<=xs.length then .list ((xs.drop i).take n) else .sl l sz i n
  |none=> .sl l sz i n
 | .agg cs=> .agg (Ol X cs)
 | .gf cs=> .gf (Ol X cs)
 |x=>x
def Ol (X:Lb->Option (Nat×List IV)):List AV->List AV
 |[]=>[]
 |x::r=>Py X x::Ol X r
end
def Pz (X:Lb->Option (Nat×List IV)) (H:Hp):Hp:=λl=>match X l with
 |some _=> .dead
 |none=>match H l with
  | .live r=> .live ⟨r.sz,r.els.map (Ol X)⟩
  |s=>s
theorem Qn (X:Lb->Option (Nat×List IV)):∀xs,(Ol X xs).length=xs.length
 |[]=>rfl
 |x::r=>by simp[Ol,Qn X r]
theorem Qo (X:Lb->Option (Nat×List IV)):∀(xs:List AV) (i:Nat),(Ol X xs)[i]?=xs[i]?.map (Py X)
 |[],i=>by simp[Ol]
 |x::r,0=>by simp[Ol]
 |x::r,i+1=>by simp[Ol,Qo X r]
mutual
theorem Rq (X:Lb->Option (Nat×List IV)):∀(x:AV) (l:Lb),l∈(Py X x).an->l∈x.an
 | .sl q sz i n,l,h=>by
  simp only[Py] at h;split at h
  ·split at h
   ·simp[AV.an] at h
   exact h
  exact h
 | .agg cs,l,h=>by simp only[Py,AV.an] at h ⊢;exact O3 X cs l h
 | .gf cs,l,h=>by simp only[Py,AV.an] at h ⊢;exact O3 X cs l h
 | .slk ..,l,h| .ptr ..,l,h| .any,l,h| .un,l,h| .bool _,l,h| .int ..,l,h| .str _,l,h| .list _,l,h| .jK,l,h| .nil0,l,h| .iT,l,h| .lptr _,l,h| .fn ..,l,h| .ifc ..,l,h| .mis _,l,h=>h
theorem O3 (X:Lb->Option (Nat×List IV)):∀(xs:List AV) (l:Lb),l∈ah (Ol X xs)->l∈ah xs
 |[],l,h=>h
 |x::r,l,h=>by
  simp only[Ol,ah,QL] at h ⊢;exact h.imp (Rq X x l) (O3 X r l)
end
def O4 {X:Lb->Option (Nat×List IV)} {H:Hp} {l:Lb} {r:Row} (h:Pz X H l= .live r):X l=none/\∃r0,H l= .live r0/\r=⟨r0.sz,r0.els.map (Ol X)⟩:=by
 unfold Pz at h;split at h
 ·cases h
 rename_i e;split at h
 ·rename_i r0 h0;simp only[Slot.live.injEq] at h;exact⟨e,r0,h0,h.symm⟩
 rename_i hn;exact absurd h (hn r)
def PA {X:Lb->Option (Nat×List IV)} {H:Hp} {l:Lb} (h:H l≠ .unused):Pz X H l≠ .unused:=by
 unfold Pz;split
 ·simp
 split
 ·simp
 exact h
section
variable {K:Kx} {β:Lb->Option Nat} {env:Env} {H:Hp} {a:Act} {w:World} {X:Lb->Option (Nat×List IV)}
def OB (l:Lb) (h:live (Pz X H) l):live H l:=by
 obtain⟨r,h⟩:=h;obtain⟨_,r0,h0,_⟩:=O4 h;exact⟨r0,h0⟩
def O5 (ls:List Lb):ND w w β β H (Pz X H) (Im K β H) (Im K β (Pz X H)) ls:=
 ⟨⟨λk hk hs=>⟨⟨hk.1,λl hl=>hk.2 l (OB l hl)⟩,hs,rfl⟩⟩,λl _ hl=>⟨OB l hl,rfl,λ_ _ _ h=>h⟩⟩
mutual
theorem aeh (hr:aH K β env H a w) (hX:∀l sz xs,X l=some (sz,xs)->H l= .live ⟨sz,aB xs⟩/\l.fresh=true/\Flat xs):∀(x:AV) (v:Value),RV w β H (Im K β H) x v->RV w β (Pz X H) (Im K β (Pz X H)) (Py X x) v
 | .sl l sz i n,v,h=>by
  simp only[Py];split
  ·rename_i s xs e;split
   ·rename_i hc;obtain⟨rfl,qB⟩:=hc;obtain⟨h1,h2,h3⟩:=hX l _ _ e;have h4:=xf hr h1 h2 qB h3 h;simp only[RV] at h4 ⊢;refine NN.mono ⟨λk hk hs=>⟨⟨hk.1,λq hq=>hk.2 q ?_⟩,hs,rfl⟩⟩ _ _ h4;obtain⟨r,hq⟩:=hq;obtain⟨q1,r0,q2,_⟩:=O4 hq;refine⟨r0,?_⟩;rw[aq _ _ (by rintro rfl;rw[e] at q1;cases q1)];exact q2
   exact RV.mono _ _ (O5 _) h
  exact RV.mono _ _ (O5 _) h
 | .agg cs,v,h=>by
  simp only[Py,RV] at h ⊢;obtain⟨vs,rfl,h1⟩:=h;exact⟨vs,rfl,QR hr hX cs vs h1⟩
 | .gf cs,v,h=>by
  simp only[Py,RV] at h ⊢;obtain⟨vs,rfl,h1⟩:=h;exact⟨vs,rfl,QR hr hX cs vs h1⟩
 | .slk ..,v,h| .ptr ..,v,h| .any,v,h| .un,v,h| .bool _,v,h| .int ..,v,h| .str _,v,h| .list _,v,h| .jK,v,h| .nil0,v,h| .iT,v,h| .lptr _,v,h| .fn ..,v,h| .ifc ..,v,h| .mis _,v,h=>RV.mono _ _ (O5 _) h
theorem QR (hr:aH K β env H a w) (hX:∀l sz xs,X l=some (sz,xs)->H l= .live ⟨sz,aB xs⟩/\l.fresh=true/\Flat xs):∀(xs:List AV) (vs:List Value),br w β H (Im K β H) xs vs->br w β (Pz X H) (Im K β (Pz X H)) (Ol X xs) vs
 |[],vs,h=>h
 |x::r,vs,h=>by
  simp only[Ol,br] at h ⊢;obtain⟨v,us,rfl,h1,h2⟩:=h;exact⟨v,us,rfl,aeh hr hX x v h1,QR hr hX r us h2⟩
end
def aH.fz (hr:aH K β env H a w) (hX:∀l sz xs,X l=some (sz,xs)->H l= .live ⟨sz,aB xs⟩/\l.fresh=true/\Flat xs) {env2:Env} (he:∀n,env2 n= .any\/env2 n=Py X (env n)):aH K β env2 (Pz X H) a w where
 defers:=hr.defers
 size:=hr.size
 N8 n:=by
  rcases he n with e|e
  ·rw[e];simp[RV]
  rw[e];exact aeh hr hX _ _ (hr.N8 n)
 rows l r hl:=by
  obtain⟨_,r0,h0,rfl⟩:=O4 hl;obtain⟨h1,h2,h3⟩:=hr.rows l r0 h0;refine⟨h1,?_,?_⟩
  ·intro cs bV;obtain⟨c0,BZ,rfl⟩:=pb.1 bV;rw[Qn];exact h2 c0 BZ
  cases hb:β l with
  |none=>rw[hb] at h3;simp only at h3;simp[h3]
  |some g=>
  rw[hb] at h3;simp only at h3 ⊢;obtain⟨cur,e,cap,e1,e2,e3,e4,e5⟩:=h3;refine⟨cur,e,cap,e1,e2,e3,by simpa using e4,?_⟩;intro i j cs x hi hj;rw[cn,jF] at hi;obtain⟨c0,hi,rfl⟩:=hi;rw[Qo,jF] at hj;obtain⟨x0,hj,rfl⟩:=hj;obtain⟨v,k1,k2⟩:=e5 i j c0 x0 hi hj;exact⟨v,k1,aeh hr hX _ _ k2⟩
 own l g hl:=hr.own l g (OB l hl)
 inj l l' g hl kR:=hr.inj l l' g (OB l hl) (OB l' kR)
 eI n l hl:=by
  rcases he n with e|e
  ·rw[e] at hl;simp[AV.an] at hl
  rw[e] at hl;exact PA (hr.eI n l (Rq X _ l hl))
 cH l r hl cs bV q hq:=by
  obtain⟨_,r0,h0,rfl⟩:=O4 hl;obtain⟨c0,BZ,rfl⟩:=pb.1 bV;exact PA (hr.cH l r0 h0 c0 BZ q (O3 X _ q hq))
 frame:=hr.frame
 W5 g cs hg:=by
  obtain⟨h1,h2,h3⟩:=hr.W5 g cs hg;have hk:=(O5 (K:=K) (β:=β) (H:=H) (X:=X) (w:=w) []).toW4;exact⟨(hk.im g h1 h2).1,h2,da.mono hk h1 h2 h3⟩
 gA l hl:=⟨PA (hr.gA l hl).1,λh=>(hr.gA l hl).2 (OB l h)⟩
 fr l g hl:=hr.fr l g (OB l hl)
end
def Rz {S:St} {env:Env} {H:Hp} (X:Lb->Option (Nat×List IV)) (hX:∀l sz xs,X l=some (sz,xs)->H l= .live ⟨sz,aB xs⟩/\l.fresh=true/\Flat xs) {env2:Env}
  (he:∀n,env2 n= .any\/env2 n=Py X (env n)):nQ S env H env2 (Pz X H):=
 λK β a w _ _ hr=>⟨β,hr.fz hX he⟩
def nQ.trans {S:St} {env env2 GD:Env} {H H2 H3:Hp} (h1:nQ S env H env2 H2) (h2:nQ S env2 H2 GD H3):nQ S env H GD H3:=λK β a w e hf hr=>by
 obtain⟨β',lz⟩:=h1 K β a w e hf hr;exact h2 K β' a w e hf lz
def PB {X:Lb->Option (Nat×List IV)} {H:Hp} {l:Lb} {r:Row} (h:X l=none) (hl:H l= .live r):Pz X H l= .live ⟨r.sz,r.els.map (Ol X)⟩:=by simp[Pz,h,hl]
def PC (X:Lb->Option (Nat×List IV)):Ol X []=[]:=rfl
def Pb (X:Lb->Option (Nat×List IV)) (x:AV) (r:List AV):Ol X (x::r)=Py X x::Ol X r:=rfl
def S8 {X:Lb->Option (Nat×List IV)} {l:Lb} {sz n:Nat} {xs:List IV} (h:X l=some (sz,xs)) (hn:n=xs.length):Py X (.sl l sz 0 n)= .list xs:=by
 subst hn;simp[Py,h]
mutual
theorem R3 (X:Lb->Option (Nat×List IV)):∀x:AV,x.an=[]->Py X x=x
 | .sl ..,h| .slk ..,h| .ptr ..,h=>by simp[AV.an] at h
 | .any,_| .un,_| .bool _,_| .int ..,_| .str _,_| .list _,_| .nil0,_| .jK,_| .iT,_| .lptr _,_| .fn ..,_| .ifc ..,_| .mis _,_=>rfl
 | .agg cs,h=>by simp only[AV.an] at h;simp[Py,OR X cs h]
 | .gf cs,h=>by simp only[AV.an] at h;simp[Py,OR X cs h]
theorem OR (X:Lb->Option (Nat×List IV)):∀xs:List AV,ah xs=[]->Ol X xs=xs
 |[],_=>rfl
 |x::r,h=>by simp only[ah,mb] at h;simp[Ol,R3 X x h.1,OR X r h.2]
end
def R4 (X:Lb->Option (Nat×List IV)) (xs:List IV):(aB xs).map (Ol X)=aB xs:=by
 conv=>rhs;rw[<-List.map_id (aB xs)]
 exact SW λcs bV=>OR X cs (bU bV)
def O6 (g:Lb->AV->AV) (H:Hp):Hp:=λl=>match H l with
 | .live r=> .live ⟨r.sz,r.els.map λcs=>cs.map (g l)⟩
 |s=>s
def Pc {g:Lb->AV->AV} {H:Hp} {l:Lb} {r:Row} (h:O6 g H l= .live r):∃r0,H l= .live r0/\r=⟨r0.sz,r0.els.map λcs=>cs.map (g l)⟩:=by
 unfold O6 at h;split at h
 ·rename_i r0 h0;simp only[Slot.live.injEq] at h;exact⟨r0,h0,h.symm⟩
 rename_i hn;exact absurd h (hn r)
def Pd {g:Lb->AV->AV} {H:Hp} {l:Lb} (h:H l≠ .unused):O6 g H l≠ .unused:=by
 unfold O6;split
 ·simp
 exact h
def Ou {g:Lb->AV->AV} {H:Hp} (l:Lb):live (O6 g H) l↔live H l:=by
 constructor
 ·rintro⟨r,h⟩;obtain⟨r0,h0,_⟩:=Pc h;exact⟨r0,h0⟩
 rintro⟨r,h⟩;exact⟨_,by unfold O6;rw[h]⟩
theorem Qp {f:AV->AV} (hf:∀x q,q∈(f x).an->q∈x.an):∀(cs:List AV) (q:Lb),q∈ah (cs.map f)->q∈ah cs
 |[],q,h=>h
 |x::r,q,h=>by
  simp only[Rj,ah,QL] at h ⊢;exact h.imp (hf x q) (Qp hf r q)
def QS {S:St} {env:Env} {H:Hp} (g:Lb->AV->AV) (hg:∀l x (w:World) (β:Lb->Option Nat) (H:Hp) (I:Nat->Prop) v,RV w β H I x v->RV w β H I (g l x) v) (hl:∀l x q,q∈(g l x).an->q∈x.an) :
  nQ S env H env (O6 g H):=by
 intro K β a w _ _ hr;have EN:∀k,Im K β (O6 g H) k↔Im K β H k:=by
  intro k;simp only[Im,Ou]
 have cX:∀ls,ND w w β β H (O6 g H) (Im K β H) (Im K β (O6 g H)) ls:=λls=>
  ⟨⟨λk hk hs=>⟨(EN k).2 hk,hs,rfl⟩⟩,λl _ hl=>⟨(Ou l).1 hl,rfl,λ_ _ _ h=>h⟩⟩
 refine⟨β,⟨hr.defers,hr.size,λn=>RV.mono _ _ (cX _) (hr.N8 n),?_,λl g0 h=>hr.own l g0 ((Ou l).1 h),λl l' g0 h h'=>hr.inj l l' g0 ((Ou l).1 h) ((Ou l').1 h'),
  λn l h=>Pd (hr.eI n l h),?_,hr.frame,?_,λl h=>⟨Pd (hr.gA l h).1,λh2=>(hr.gA l h).2 ((Ou l).1 h2)⟩,λl g0 h=>hr.fr l g0 ((Ou l).1 h)⟩⟩
 ·intro l r h;obtain⟨r0,h0,rfl⟩:=Pc h;obtain⟨h1,h2,h3⟩:=hr.rows l r0 h0;refine⟨h1,?_,?_⟩
  ·intro cs bV;obtain⟨c0,BZ,rfl⟩:=pb.1 bV;rw[G_];exact h2 c0 BZ
  cases hb:β l with
  |none=>rw[hb] at h3;simp only at h3;simp[h3]
  |some g0=>
  rw[hb] at h3;simp only at h3 ⊢;obtain⟨cur,e,cap,e1,e2,e3,e4,e5⟩:=h3;refine⟨cur,e,cap,e1,e2,e3,by simpa using e4,?_⟩;intro i j cs x hi hj;rw[cn,jF] at hi;obtain⟨c0,hi,rfl⟩:=hi;rw[cn,jF] at hj;obtain⟨x0,hj,rfl⟩:=hj;obtain⟨v,k1,k2⟩:=e5 i j c0 x0 hi hj;exact⟨v,k1,hg l _ _ _ _ _ _ (RV.mono _ _ (cX _) k2)⟩
 ·intro l r h cs bV q hq;obtain⟨r0,h0,rfl⟩:=Pc h;obtain⟨c0,BZ,rfl⟩:=pb.1 bV;exact Pd (hr.cH l r0 h0 c0 BZ q (Qp (hl l) _ _ hq))
 intro g0 cs h;obtain⟨h1,h2,h3⟩:=hr.W5 g0 cs h;exact⟨(EN g0).2 h1,h2,da.mono (cX []).toW4 h1 h2 h3⟩
def S0 (p:Lb->Bool) (l:Lb) (x:AV):AV:=if p l then norm x else x
def Qq {S:St} {env:Env} {H:Hp} (p:Lb->Bool):nQ S env H env (O6 (S0 p) H):=
 QS _ (λl x w β H I v h=>by unfold S0;split;exact RV.norm x v h;exact h) (λl x q h=>by
  unfold S0 at h;split at h
  ·rwa[nV] at h
  exact h)

def aej (n:Int):(xX n).cells=[.int .i64 n]:=rfl

structure My (x:Tree) where
 d:List Node
 l:List (Tree×Int)
 hw:whole d l=lW x
 hp:∀y∈l,y.2<(d.length:Int)
 hc:d.length+dP (l.map Prod.fst)=x.jz
 hb:dE (l.map Prod.fst)<=B
 hk:∀y∈d,y.kids.length<=d.length
end Go.Am
