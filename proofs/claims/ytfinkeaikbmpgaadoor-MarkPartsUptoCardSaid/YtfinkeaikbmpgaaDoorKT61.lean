import Derived.Test.YtfinkeaikbmpgaaDoorKM7
import Derived.Test.YtfinkeaikbmpgaaDoorKT21
import Derived.Test.YtfinkeaikbmpgaaDoorKAm24
set_option linter.unusedSimpArgs false
set_option linter.unusedVariables false
set_option linter.unnecessarySimpa false
set_option linter.defProp false
/- Reading: what stands in front. -/
namespace Go.Am
open Go Go.RowKit
section
variable {P:Program} {G:Nat→Option (List IV)}
def e8 (bL aS aO bC:Nat):AC:=
(aM [aQ 4 (.iC (.c (.str [])))] (.seq (aM [MR 7 0,aQ 8 (.bin .eql (.t 7) (.c (.str []))),MR 9 8,gV 10 9 1,iR 11 9 (.bin .eql (.t 10) (.c (.str []))),sj 12 9 11] (.cond (.t 12) (aM [MR 13 0,MR 4 13] .ret) .skip)) (.seq (aM [MR 14 1,oF 15 14,eY 16 .eql 15 1,MR 17 16,cU 18 17 1,dW 19 17 (.lj (.t 18) (jS 0)),dW 20 17 (.bin .lss (.t 19) (.c (.int .u8 128))),jT 21 17 20] (.cond (.t 21) (aM [MR 22 0,MR 23 1,aQ 24 (.lj (.t 23) (jS 0)),aQ 25 (.call bL [(.t 22),(.t 24)]),MR 4 25] .ret) .skip)) (.seq (aM [MR 27 1,aQ 28 (.call aS [(.t 27)]),MR 26 28,ox 29 26 0,ox 30 26 1,aQ 5 (.new (List.replicate 256 (.bool false))),gg (.store 256 (.t 5) (.t 29)),MR 6 30] (aM [MR 31 6] (.cond (.t 31) (aM [MR 32 0,aQ 33 (.call aO [(.t 32),(.t 5)]),MR 4 33] .ret) .skip))) (aM [MR 34 0,MR 35 1,aQ 36 (.call bC [(.t 34),(.t 35)]),MR 4 36] .ret)))))
def Eh {cf aS aO bL bC:Nat} (hF:aw P G cf=some (37,[(none,4)],(e8 bL aS aO bC).bare)) (s t:Bs) (hs:s.length≤B) (ht:2≤t.length)
  (hM:au P G aS [.str t] (.gf [.agg (eh (er t)),.bool true]))
  (hL:cR P G aO [.str s,.ptr (.par 0) 256 0 0] (eh (er t)) fun x cs=>x= .str (dB (er t) s)∧cs=eh (er t)) :
  au P G cf [.str s,.str t] (.str (dB (er t) s)):=by
 refine aR hF (by simp) (by simp[ah,AV.an]) (by simp[AV.an]) ?_;unfold e8;simp only[↓aX,mX,reduceCtorEq,Nat.reduceEqDiff,Nat.reduceLT,Nat.reduceLeDiff,Nat.reduceAdd,Nat.reduceMul,Int.reduceToNat,Int.reduceLE,Int.reduceLT];have e1:(t==[])=false:=by cases t<;>simp_all
 have e2:(((t.length:Nat):Int)==1)=false:=by rw[VX];omega
 cases wo:(s==[]) with
 |true=>
  have:s=[]:=by simpa using wo
  subst this;simp only[↓aX,mX,reduceCtorEq,Nat.reduceEqDiff,Nat.reduceLT,Nat.reduceLeDiff,Nat.reduceAdd,Nat.reduceMul,Int.reduceToNat,Int.reduceLE,Int.reduceLT];rfl
 |false=>
 simp only[↓aX,mX,reduceCtorEq,Nat.reduceEqDiff,Nat.reduceLT,Nat.reduceLeDiff,Nat.reduceAdd,Nat.reduceMul,Int.reduceToNat,Int.reduceLE,Int.reduceLT,e1,e2];refine ay hM ?_;simp only[↓aX,mX,reduceCtorEq,Nat.reduceEqDiff,Nat.reduceLT,Nat.reduceLeDiff,Nat.reduceAdd,Nat.reduceMul,Int.reduceToNat,Int.reduceLE,Int.reduceLT,Wn,qo,bc,mz,mA,od,V5];refine bj (l:= .loc 5) hL rfl (by simp only[↓aX,mX,reduceCtorEq,Nat.reduceEqDiff,Nat.reduceLT,Nat.reduceLeDiff,Nat.reduceAdd,Nat.reduceMul,Int.reduceToNat,Int.reduceLE,Int.reduceLT,bc]) ?_;rintro x1 dF ⟨rfl,rfl⟩ _ _ _;simp only[↓aX,mX,reduceCtorEq,Nat.reduceEqDiff,Nat.reduceLT,Nat.reduceLeDiff,Nat.reduceAdd,Nat.reduceMul,Int.reduceToNat,Int.reduceLE,Int.reduceLT,bc,Wn]
def Bl (c:UInt8):er [32,10] c.toNat=isSp c:=by
 have:∀n:Fin 256,er [32,10] (UInt8.ofNat n.val).toNat=isSp (UInt8.ofNat n.val):=by decide +kernel
 have h:=this ⟨c.toNat,c.toNat_lt⟩;simpa using h
def Bm (s:Bs):dB (er [32,10]) s=s.dropWhile isSp:=by
 unfold dB;congr 1;funext c;exact Bl c
abbrev cG (s:Bs) (b:Bool):List AV:=[.str s,.bool b]
def cZ (p s:Bs):Bs:=if p.isPrefixOf s then s.drop p.length else s
def ic (p s:Bs):(cZ p s).length≤s.length:=by unfold cZ;split<;>simp
def gd (bZ:Nat):AC:=
(aM [jM 4 false] (aM [MR 8 0,aQ 9 (.dp (.t 8)),ep 10 9 0,fm 11 10,MR 12 1,aQ 13 (.call bZ [(.t 11),(.t 12)]),MR 7 13,ox 14 7 0,ox 15 7 1,MR 5 14,MR 6 15] (.seq (aM [MR 16 6] (.cond (.t 16) (.cq [MR 17 0,MR 18 5,aQ 19 (.dp (.t 17)),ep 20 19 0,gg (.store 1 (.t 20) (.t 18))]) .skip)) (aM [MR 21 6,MR 4 21] .ret))))
def Jl {aI bZ:Nat} (hF:aw P G aI=some (22,[(none,4)],(gd bZ).bare)) (hC:∀s t:Bs,au P G bZ [.str s,.str t] (.gf [.str (if t.isPrefixOf s then s.drop t.length else s),.bool (t.isPrefixOf s)])) (s p:Bs) (b:Bool) :
  cR P G aI [.ptr (.par 0) 2 0 0,.str p] (cG s b) fun x cs=>x= .bool (p.isPrefixOf s)∧cs=cG (cZ p s) b:=by
 refine dw hF (by simp) (by simp[ah,AV.an]) (by simp[ah,AV.an]) ?_;unfold gd;simp only[↓aX,mX,seval,Oj];refine ay (hC s p) ?_;cases h:p.isPrefixOf s with
 |true=>
  simp only[↓aX,mX,seval,cN];exact⟨cG (cZ p s) b,by simp[ae,cZ,h,ah,AV.an]⟩
 |false=>
 simp only[↓aX,mX,seval,cN];exact⟨cG (cZ p s) b,by simp[ae,cZ,h,ah,AV.an]⟩
def e_ (aI:Nat):AC:=
(aM [MR 4 0,MR 5 1,aQ 6 (.call aI [(.t 4),(.t 5)]),sB 7 6] (.cond (.t 7) (.cq [MR 8 0,aQ 9 (.dp (.t 8)),ep 10 9 1,gg (.store 1 (.t 10) (me true))]) .skip))
def Ei {aP aI:Nat} (hF:aw P G aP=some (11,[],(e_ aI).bare)) (s p:Bs) (b:Bool)
  (hA:cR P G aI [.ptr (.par 0) 2 0 0,.str p] (cG s b) fun x cs=>x= .bool (p.isPrefixOf s)∧cs=cG (cZ p s) b) :
  cR P G aP [.ptr (.par 0) 2 0 0,.str p] (cG s b) fun x cs=>cs=cG (cZ p s) (b|| !p.isPrefixOf s):=by
 refine dw hF (by simp) (by simp[ah,AV.an]) (by simp[ah,AV.an]) ?_;unfold e_;simp only[↓aX,mX,seval,Oj];refine bj (l:= .par 0) hA (by simp[bu,bJ,ft]) (by simp[ae]) ?_;rintro x1 dF ⟨rfl,rfl⟩ _ _ _;cases h:p.isPrefixOf s with
 |true=>
  simp only[↓aX,mX,seval,Vh,lM,ef,gD];exact⟨_,rfl,cG (cZ p s) (b|| !p.isPrefixOf s),by simp[ae,h,ah,AV.an]⟩
 |false=>
 simp only[↓aX,mX,seval,Ve,lM,ef,gD];exact⟨_,rfl,cG (cZ p s) (b|| !p.isPrefixOf s),by simp[ae,h,ah,AV.an]⟩
def eU (cf:Nat):AC:=
(aM [jM 2 false] (aM [MR 4 0,aQ 5 (.dp (.t 4)),ep 6 5 0,fm 7 6,oF 8 7,MR 3 8] (aM [MR 9 0,MR 10 0,aQ 11 (.dp (.t 10)),ep 12 11 0,fm 13 12,aQ 14 (.call cf [(.t 13),(.c (.str [32,10]))]),aQ 15 (.dp (.t 9)),ep 16 15 0,gg (.store 1 (.t 16) (.t 14))] (aM [MR 17 0,aQ 18 (.dp (.t 17)),ep 19 18 0,fm 20 19,oF 21 20,MR 22 3,et 23 .lss 21 22,MR 2 23] .ret))))
def SB {bf cf:Nat} (hF:aw P G bf=some (24,[(none,2)],(eU cf).bare)) (s:Bs) (b:Bool) (hT:au P G cf [.str s,.str [32,10]] (.str (s.dropWhile isSp))) :
  cR P G bf [.ptr (.par 0) 2 0 0] (cG s b) fun x cs=>x= .bool (decide ((s.dropWhile isSp).length<s.length))∧cs=cG (s.dropWhile isSp) b:=by
 refine dw hF (by simp) (by simp[ah,AV.an]) (by simp[ah,AV.an]) ?_;unfold eU;simp only[↓aX,mX,seval,Oj];refine ay hT ?_;simp only[↓aX,mX,seval,cN];exact⟨cG (s.dropWhile isSp) b,by simp[ae,ah,AV.an]⟩
def yC {p:UInt8→Bool}:∀{s:Bs} {i:Nat} {c:UInt8},s[i]?=some c→(∀x∈s.take i,p x=true)→(p c=true→∀x∈s.take (i+1),p x=true)∧(p c=false→s.takeWhile p=s.take i∧s.dropWhile p=s.drop i):=by
 intro s i c h hi;refine⟨fun hc x hx=> ?_,fun hc=> ?_⟩
 ·rw[V2,h] at hx;simp only[XP,Vi,Vm] at hx;rcases hx with hx|rfl
  ·exact hi x hx
  exact hc
 have hl:=(U9.1 h).1;have e:s=s.take i++s.drop i:=(VM i s).symm;have hd:s.drop i=c::s.drop (i+1):=by
  rw[Wi hl];congr 1;exact(U9.1 h).2
 have h2:(s.take i++s.drop i).takeWhile p=s.take i∧(s.take i++s.drop i).dropWhile p=s.drop i:=
  kv (s.take i) (s.drop i) hi (fun c' q hq=>by rw[hd] at hq;cases hq;exact hc)
 rw[VM] at h2;exact h2
def vZ {p:UInt8→Bool} {s:Bs} (h:∀x∈s,p x=true):s.takeWhile p=s∧s.dropWhile p=[]:=by
 have:=kv (p:=p) s [] h (by simp);simpa using this
def yD (c:UInt8):bz c=(decide ((c.toNat:Int)≥97)&&decide ((c.toNat:Int)≤122)):=by
 unfold bz;congr 1
 ·rw[Xb,Wb];show 97≤_↔_;omega
 rw[Xb,Wb];show _≤122↔_;omega
def fa:AC:=
(aM [aQ 2 (.iC (.c (.str [])))] (aM [gH 3 0] (.seq (.block 0 (.loop (.seq (aM [MR 5 3,MR 6 0,aQ 7 (.dp (.t 6)),ep 8 7 0,fm 9 8,oF 10 9,et 11 .lss 5 10,MR 12 11,cU 13 12 0,dW 14 12 (.dp (.t 13)),jn 15 12 14 0,jm 16 12 15,cU 17 12 3,dW 18 12 (.lj (.t 16) (.t 17)),dW 19 12 (.bin .geq (.t 18) (.c (.int .u8 97))),jT 20 12 19,MR 21 20,cU 22 21 0,dW 23 21 (.dp (.t 22)),jn 24 21 23 0,jm 25 21 24,cU 26 21 3,dW 27 21 (.lj (.t 25) (.t 26)),dW 28 21 (.bin .leq (.t 27) (.c (.int .u8 122))),jT 29 21 28] (.cond (.t 29) .skip (.exit 0))) (.block 1 (.cq [MR 30 3,eY 31 .add 30 1,MR 3 31]))))) (aM [MR 32 0,aQ 33 (.dp (.t 32)),ep 34 33 0,fm 35 34,MR 36 3,aQ 37 (.kB (.t 35) none (some (.t 36))),MR 4 37] (aM [MR 38 0,MR 39 0,aQ 40 (.dp (.t 39)),ep 41 40 0,fm 42 41,MR 43 3,aQ 44 (.kB (.t 42) (some (.t 43)) none),aQ 45 (.dp (.t 38)),ep 46 45 0,gg (.store 1 (.t 46) (.t 44))] (aM [MR 47 0,MR 48 0,aQ 49 (.dp (.t 48)),ep 50 49 1,fm 51 50,MR 52 51,gV 53 52 3,iR 54 52 (.bin .eql (.t 53) (jS 0)),sj 55 52 54,MR 56 55,gV 57 56 3,iR 58 56 (.bin .gtr (.t 57) (jS 8)),sj 59 56 58,aQ 60 (.dp (.t 47)),ep 61 60 1,gg (.store 1 (.t 61) (.t 59))] (aM [MR 62 4,MR 2 62] .ret)))))))
def Ej {bb:Nat} (hF:aw P G bb=some (63,[(none,2)],fa.bare)) (s:Bs) (hs:s.length≤B) (b:Bool) :
  cR P G bb [.ptr (.par 0) 2 0 0] (cG s b) fun x cs=>x= .str (s.takeWhile bz)∧cs=cG (s.dropWhile bz) (b||(decide (s.takeWhile bz=[])||decide (8<(s.takeWhile bz).length))):=by
 refine dw hF (by simp) (by simp[ah,AV.an]) (by simp[ah,AV.an]) ?_;have zo:B=1073741824:=rfl;unfold fa;simp only[↓aX,mX,seval,Oj];refine ca (σ:={i:Nat // i≤s.length∧∀c∈s.take i,bz c=true}) [.par 0] (fun q=>[(0,.ptr (.par 0) 2 0 0),(3,.int .i64 q.1)]) (fun _=>[(.par 0,⟨2,[cG s b]⟩)]) (fun q=>s.length - q.1) ⟨0,by simp⟩ (fun _=>rfl) (by decide) (by simp[ah,AV.an]) (by simp[ah,AV.an]) ?_ ?_
 ·refine eL ?_ (by repeat' constructor) (by repeat' constructor);intro l hl hu;by_cases e:l= .par 0
  ·subst e;simp
  exfalso;apply hu;simp[ae,e,Hp.none]
 rintro⟨i,hi,dN⟩;simp only[↓aX,mX,seval,cF,bW];have fin:s.takeWhile bz=s.take i→(((i:Nat):Int)==0)=decide (s.takeWhile bz=[])∧decide (((i:Nat):Int)>8)=decide (8<(s.takeWhile bz).length):=by
  intro h1;rw[h1];constructor
  ·rw[VY,V8,Vn,←Vv,V0];omega
  rw[Xb,V0];omega
 by_cases bI:i<s.length
 ·rw[show decide (((i:Nat):Int)<((s.length:Nat):Int))=true by simpa using bI];obtain⟨c,hc⟩:=rL bI;have hw:IntKind.i64.wrap ((i:Int)+1)=((i+1:Nat):Int):=wrap64 (by omega) (by omega);have g_:=yC hc dN;rw[yD] at g_;simp only[↓aX,mX,seval,hc,VG,VJ];have next:(decide ((c.toNat:Int)≥97)&&decide ((c.toNat:Int)≤122))=true→∃q:{i:Nat // i≤s.length∧∀c∈s.take i,bz c=true},q.1=i+1:=fun h=>⟨⟨i+1,bI,g_.1 h⟩,rfl⟩
  have stop:(decide ((c.toNat:Int)≥97)&&decide ((c.toNat:Int)≤122))=false→s.takeWhile bz=s.take i∧s.dropWhile bz=s.drop i:=g_.2;cases h1:decide ((c.toNat:Int)≥97) with
  |false=>
   obtain⟨e1,e2⟩:=stop (by rw[h1];rfl);simp only[↓aX,mX,seval,lk,VG,VJ,V9,hi,Vp,U7,Vf,XV,VU,WC,VS,Va];obtain⟨f1,f2⟩:=fin e1;cases b with
   |true=>
    simp only[↓aX,mX,seval,cN];exact⟨cG (s.dropWhile bz) true,by simp[ae,ah,AV.an,e1,e2]⟩
   |false=>
   simp only[↓aX,mX,seval,f1];cases h3:decide (s.takeWhile bz=[]) with
   |true=>
    simp only[↓aX,mX,seval,cN];refine⟨cG (s.dropWhile bz) true,?_⟩;rw[←e1,←e2];simp[ae,ah,AV.an,h3]
   |false=>
   simp only[↓aX,mX,seval,f2,cN];refine⟨cG (s.dropWhile bz) (decide (8<(s.takeWhile bz).length)),?_⟩;rw[←e1,←e2];simp[ae,ah,AV.an,h3]
  |true=>
  simp only[↓aX,mX,seval,hc,VG,VJ];cases h2:decide ((c.toNat:Int)≤122) with
  |false=>
   obtain⟨e1,e2⟩:=stop (by rw[h1,h2];rfl);simp only[↓aX,mX,seval,lk,VG,VJ,V9,hi,Vp,U7,Vf,XV,VU,WC,VS,Va];obtain⟨f1,f2⟩:=fin e1;cases b with
   |true=>
    simp only[↓aX,mX,seval,cN];exact⟨cG (s.dropWhile bz) true,by simp[ae,ah,AV.an,e1,e2]⟩
   |false=>
   simp only[↓aX,mX,seval,f1];cases h3:decide (s.takeWhile bz=[]) with
   |true=>
    simp only[↓aX,mX,seval,cN];refine⟨cG (s.dropWhile bz) true,?_⟩;rw[←e1,←e2];simp[ae,ah,AV.an,h3]
   |false=>
   simp only[↓aX,mX,seval,f2,cN];refine⟨cG (s.dropWhile bz) (decide (8<(s.takeWhile bz).length)),?_⟩;rw[←e1,←e2];simp[ae,ah,AV.an,h3]
  |true=>
  simp only[↓aX,mX,seval,hw];refine⟨⟨i+1,bI,g_.1 (by rw[h1,h2];rfl)⟩,by simp only;omega,eL ?_ (by repeat' constructor) (by repeat' constructor)⟩;intro l hl hu;by_cases e:l= .par 0
  ·subst e;simp
  exfalso;apply hu;simp[ae,e,Hp.none]
 have oI:s.take i=s:=Vq (by omega);have zR:s.drop i=[]:=Xs (by omega);rw[show decide (((i:Nat):Int)<((s.length:Nat):Int))=false by simpa using bI];rw[oI] at dN;obtain⟨e1,e2⟩:s.takeWhile bz=s.take i∧s.dropWhile bz=s.drop i:=by rw[oI,zR];exact vZ dN
 simp only[↓aX,mX,seval,lk,VG,VJ,V9,hi,Vp,U7,Vf,XV,VU,WC,VS,Va];obtain⟨f1,f2⟩:=fin e1;cases b with
 |true=>
  simp only[↓aX,mX,seval,cN];exact⟨cG (s.dropWhile bz) true,by simp[ae,ah,AV.an,e1,e2]⟩
 |false=>
 simp only[↓aX,mX,seval,f1];cases h3:decide (s.takeWhile bz=[]) with
 |true=>
  simp only[↓aX,mX,seval,cN];refine⟨cG (s.dropWhile bz) true,?_⟩;rw[←e1,←e2];simp[ae,ah,AV.an,h3]
 |false=>
 simp only[↓aX,mX,seval,f2,cN];refine⟨cG (s.dropWhile bz) (decide (8<(s.takeWhile bz).length)),?_⟩;rw[←e1,←e2];simp[ae,ah,AV.an,h3]
end

section
variable {S:St} {env:Env} {H:Hp}
def Jm (S:St) (x:AV) (args:List AV) (H:Hp) (k:AV→Hp→Prop) (_:Tw k):Prop:=∃f first cap,x= .fn f first cap∧fU S.P f=true∧jJ S f (first++args++cap) H k
def yE (d:Option Nat) (x:O) (args:List O) (k:AV→Hp→Prop):bg S d (.fM x args) env H k=Jm S (ev env x) (args.map (ev env)) H k .mk:=rfl
def Ek (f:Nat) (first cap args:List AV) (k:AV→Hp→Prop) (u:Tw k):Jm S (.fn f first cap) args H k u=(fU S.P f=true∧C7 S f (first++args++cap) H k .mk):=by
 simp only[Jm,C7,AV.fn.injEq,YE];constructor
 ·rintro⟨_,_,_,⟨rfl,rfl,rfl⟩,h⟩;exact h
 intro h;exact⟨_,_,_,⟨rfl,rfl,rfl⟩,h⟩
def HJ (S:St) (x:AV) (args:List AV) (k:AV→Prop) (_:Tv k):Prop:=∃f first cap res,x= .fn f first cap∧fU S.P f=true∧au S.P S.G f (first++args++cap) res∧k res
def kc (d:Option Nat) (x:O) (args:List O) (k:AV→Hp→Prop):az S .no d (.fM x args) env H k=HJ S (ev env x) (args.map (ev env)) (fun y=>k y H) .mk:=by
 simp only[az,Quiet,aa,HJ,reduceCtorEq,false_or,YE];constructor
 ·rintro⟨res,⟨f,first,cap,h1,h2,h3⟩,h4⟩;exact⟨f,first,cap,res,h1,h2,h3,h4⟩
 rintro⟨f,first,cap,res,h1,h2,h3,h4⟩;exact⟨res,⟨f,first,cap,h1,h2,h3⟩,h4⟩
def oi (f:Nat) (first cap args:List AV) (k:AV→Prop) (u:Tv k):HJ S (.fn f first cap) args k u=(fU S.P f=true∧F6 S f (first++args++cap) k .mk):=by
 simp only[HJ,F6,AV.fn.injEq,YE];constructor
 ·rintro⟨_,_,_,res,⟨rfl,rfl,rfl⟩,h2,h3,h4⟩;exact⟨h2,res,h3,h4⟩
 rintro⟨h2,res,h3,h4⟩;exact⟨_,_,_,res,⟨rfl,rfl,rfl⟩,h2,h3,h4⟩
end

section
variable {P:Program} {G:Nat→Option (List IV)}
def iO:List Bs:=[qH,rC,kD,jc]
def ma (s:Bs):List Bs→Nat→Option (Nat×Bs)
 |[],_=>none
 |p::r,i=>if p.isPrefixOf s then some (i,s.drop p.length) else ma s r (i+1)
theorem mJ {s:Bs}:∀{l:List Bs} {n i:Nat},(∀p∈l.take n,p.isPrefixOf s=false)→n≤l.length→ma s l i=ma s (l.drop n) (i+n)
 |l,0,i,_,_=>by simp
 |[],n+1,i,_,h=>by simp at h
 |p::r,n+1,i,hp,h=>by
  have h1:p.isPrefixOf s=false:=hp p (by simp);have:=mJ (s:=s) (l:=r) (n:=n) (i:=i+1) (fun q hq=>hp q (by simp[hq])) (by simpa using h);simp only[ma,h1,Vl,Vk,Wj,this,We,Yj 1 n]
def cA:AC:=
(aM [gH 4 0] (.seq (aM [MR 6 0,oy 7 6,gH 8 0] (.block 0 (.loop (aM [et 9 .lss 8 7] (.seq (.cond (.t 9) .skip (.exit 0)) (.seq (.block 1 (aM [MR 10 8,MR 5 10] (aM [MR 11 1,MR 12 0,MR 13 5,jL 14 12 13 1,fm 15 14,aQ 16 (.fM (.t 11) [(.t 15)])] (.cond (.t 16) (aM [MR 17 5,MR 4 17] .ret) .skip)))) (.cq [eY 18 .add 8 1,MR 8 18]))))))) (aM [aQ 4 (.iC (.c (.int .i64 (-1))))] .ret)))
theorem Bo {aZ aI:Nat} (hF:aw P G aZ=some (19,[(none,4)],cA.bare)) (hB:fU P aI=true)
  (hA:∀(s p:Bs) (b:Bool),cR P G aI [.ptr (.par 0) 2 0 0,.str p] (cG s b) fun x cs=>x= .bool (p.isPrefixOf s)∧cs=cG (cZ p s) b) (s:Bs) (b:Bool) :
  cR P G aZ [.list (iO.map IV.str),.fn aI [.ptr (.par 0) 2 0 0] []] (cG s b) fun x cs=>
   match ma s iO 0 with
   |some (i,r)=>x= .int .i64 (i:Nat)∧cs=cG r b
   |none=>x= .int .i64 (-1)∧cs=cG s b:=by
 refine dw hF (by simp) (by simp[ah,AV.an]) (by simp[ah,AV.an]) ?_;unfold cA;simp only[↓aX,mX,seval,Oj];refine ca (σ:={i:Nat // i≤4∧∀p∈iO.take i,p.isPrefixOf s=false}) [.par 0] (fun q=>[(0,.list (iO.map IV.str)),(1,.fn aI [.ptr (.par 0) 2 0 0] []),(7,.int .i64 4),(8,.int .i64 q.1)]) (fun _=>[(.par 0,⟨2,[cG s b]⟩)]) (fun q=>4 - q.1) ⟨0,by simp⟩ (fun _=>rfl) (by decide) (by simp[ah,AV.an]) (by simp[ah,AV.an]) ?_ ?_
 ·refine eL ?_ (by repeat' constructor) (by repeat' constructor);intro l hl hu;by_cases e:l= .par 0
  ·subst e;simp
  exfalso;apply hu;simp[ae,e,Hp.none]
 rintro⟨i,hi,dN⟩;simp only[↓aX,mX,seval,cF,bW];have LH:jV 1 (iO.map IV.str):=by
  intro x hx;obtain⟨c,_,rfl⟩:=VC.1 hx;rfl
 by_cases bI:i<4
 ·rw[show decide (((i:Nat):Int)<(4:Int))=true by simp;omega];obtain⟨p,hp⟩:∃p,iO[i]?=some p:=⟨_,U' bI⟩;have hw:IntKind.i64.wrap ((i:Int)+1)=((i+1:Nat):Int):=wrap64 (by omega) (by omega);have LI:(iO.map IV.str)[i]?=some (.str p):=by rw[VL,hp];rfl
  have Jn:ma s iO 0=ma s (p::iO.drop (i+1)) i:=by
   rw[mJ dN (by simp[iO];omega),VT];congr 1;rw[Wi (by simpa[iO] using bI)];congr 1;exact(U9.1 hp).2
  simp only[↓aX,mX,seval,VG,VJ,LI,LH,yE,Ek,IV.cells];refine⟨hB,bj (l:= .par 0) (hA s p b) (by simp[bu,bJ,ft]) (by simp[ae]) ?_⟩;rintro x1 dF ⟨rfl,rfl⟩ _ _ _;cases h:p.isPrefixOf s with
  |true=>
   simp only[↓aX,mX,seval,cN,Jn,ma,h];exact⟨cG (s.drop p.length) b,by simp[ae,ah,AV.an,cZ,h]⟩
  |false=>
  simp only[↓aX,mX,seval,hw];refine⟨⟨i+1,bI,fun q hq=> ?_⟩,by simp only;omega,eL ?_ (by repeat' constructor) ?_⟩
  ·rw[V2,hp] at hq;simp only[XP,Vi,Vm] at hq;rcases hq with hq|rfl
   ·exact dN q hq
   exact h
  ·intro l hl hu;by_cases e:l= .par 0
   ·subst e;simp
   exfalso;apply hu;simp[ae,e,Hp.none]
  refine⟨by simp[ae,cZ,h],trivial⟩
 have LJ:i=4:=by omega
 subst LJ;have Jn:ma s iO 0=none:=by rw[mJ dN (by simp[iO])];rfl
 rw[show decide (((4:Nat):Int)<(4:Int))=false by simp];simp only[↓aX,mX,seval,cN,Jn];exact⟨cG s b,by simp[ae,ah,AV.an]⟩
theorem yF (s:Bs):match ma s iO 0 with
  |some (i,r)=>∃e:UInt8,([60,62,38,34]:Bs)[i]?=some e∧og s=some (e,r)
  |none=>og s=none:=by
 unfold og;simp only[iO,ma];split
 ·rename_i i r h;split at h
  ·rename_i h1;cases h;exact⟨60,rfl,by rw[Vd h1];rfl⟩
  rename_i h1;split at h
  ·rename_i h2;cases h;exact⟨62,rfl,by rw[U8 h1,Vd h2];rfl⟩
  rename_i h2;split at h
  ·rename_i h3;cases h;exact⟨38,rfl,by rw[U8 h1,U8 h2,Vd h3];rfl⟩
  rename_i h3;split at h
  ·rename_i h4;cases h;exact⟨34,rfl,by rw[U8 h1,U8 h2,U8 h3,Vd h4];rfl⟩
  cases h
 rename_i h;split at h
 ·cases h
 rename_i h1;split at h
 ·cases h
 rename_i h2;split at h
 ·cases h
 rename_i h3;split at h
 ·cases h
 rename_i h4;rw[U8 h1,U8 h2,U8 h3,U8 h4]
theorem jj:∀s:Bs,jW (a7 s)=some s
 |[]=>rfl
 |c::s=>by
  have ih:=jj s;unfold a7 at ih ⊢;simp only[VE,jW,ih];simp
def rO (v:Bool) (s:Bs) (b:Bool) (x:AV) (cs:List AV):Prop:=∃t r b',x= .str t∧cs=cG r b'∧r.length+t.length≤s.length∧(b=true→b'=true) ∧
 (b=false→match bm v s with
  |some y=>b'=false∧y=(t,r)
  |none=>b'=true)
def yG (v:Bool) (s:Bs) (b:Bool) (q:Bs×Bs×Bool):Prop:=q.1.length+q.2.1.length≤s.length∧(b=true→q.2.2=true)∧(b=false→if q.2.2 then bm v s=none else bm v s=(bm v q.1).map fun y=>(q.2.1++y.1,y.2))
def cI (c:UInt8) (k:Nat) (hk:k<256):((c.toNat:Int)==(k:Int))=(c==UInt8.ofNat k):=by
 rw[VY];simp only[V8];rw[←Xi];have:(UInt8.ofNat k).toNat=k:=by simp;omega
 rw[this];omega
def fk (c:UInt8):ga c=(((c.toNat:Int)==10)|| !(decide ((c.toNat:Int)<32)||decide ((c.toNat:Int)>126))):=by
 have h1:((c.toNat:Int)==10)=(c==10):=cI c 10 (by decide);unfold ga;rw[h1];congr 1;rw[VY];simp only[Vc,Vn,Wc,WM,Wd,Wb];show(32≤_∧_≤126)↔_;omega
def fb (aI aZ:Nat):AC:=
(aM [aQ 4 (.iC (.c (.str [])))] (aM [zi 5] (.gh (.own 5 1) (.seq (.block 0 (.loop (.seq (aM [MR 8 0,aQ 9 (.dp (.t 8)),ep 10 9 0,fm 11 10,aQ 12 (.bin .neq (.t 11) (.c (.str []))),MR 13 12,cU 14 13 0,dW 15 13 (.dp (.t 14)),jn 16 13 15 1,jm 17 13 16,dW 18 13 (.not (.t 17)),jT 19 13 18] (.cond (.t 19) .skip (.exit 0))) (.block 1 (aM [MR 20 0,aQ 21 (.dp (.t 20)),ep 22 21 0,fm 23 22,aQ 24 (.lj (.t 23) (jS 0)),MR 6 24] (.block 2 (aM [MR 38 6,aQ 39 (.bin .eql (.t 38) (.c (.int .u8 60))),MR 40 39,gV 41 40 6,iR 42 40 (.bin .eql (.t 41) (.c (.int .u8 34))),gV 43 40 42,cU 44 43 1,iR 45 40 (.pick (.t 43) (.t 44) (me false)),sj 46 40 45,MR 37 46] (.cond (.t 37) (.gh (.zS (.loc 5) 5) (aM [MR 47 5,aQ 48 (.wm (.t 47)),MR 4 48] .ret)) (aM [MR 50 6,aQ 51 (.bin .eql (.t 50) (.c (.int .u8 38))),MR 49 51] (.cond (.t 49) (aM [aQ 52 (.oD (.c (.lptr [(.str [38,108,116,59]),(.str [38,103,116,59]),(.str [38,97,109,112,59]),(.str [38,113,117,111,116,59])])) 4 1),MR 53 0,aQ 54 (.zh aI [(.t 53)] []),aQ 55 (.call aZ [(.t 52),(.t 54)]),MR 7 55] (.seq (aM [MR 56 7,eY 57 .lss 56 0] (.cond (.t 57) (aM [MR 58 0,aQ 59 (.dp (.t 58)),ep 60 59 1,gg (.store 1 (.t 60) (me true))] (aM [aQ 4 (.iC (.c (.str [])))] .ret)) .skip)) (.cq [MR 61 5,MR 62 7,aQ 63 (.lj (.c (.str [60,62,38,34])) (.t 62)),aQ 64 (.lits 1 1 [(.int .u8 0)] [(0,(.t 63))]),aQ 65 (.app (.t 61) (.t 64) 1 1),MR 5 65]))) (aM [MR 67 6,aQ 68 (.bin .eql (.t 67) (.c (.int .u8 62))),MR 69 68,gV 70 69 6,iR 71 69 (.bin .neq (.t 70) (.c (.int .u8 10))),gV 72 69 71,cU 73 72 6,dW 74 72 (.bin .lss (.t 73) (.c (.int .u8 32))),cU 75 72 74,gV 76 75 6,iR 77 75 (.bin .gtr (.t 76) (.c (.int .u8 126))),dW 78 72 (.pick (.t 75) (me true) (.t 77)),iR 79 69 (.pick (.t 72) (.t 78) (me false)),sj 80 69 79,MR 66 80] (.cond (.t 66) (.cq [MR 81 0,aQ 82 (.dp (.t 81)),ep 83 82 1,gg (.store 1 (.t 83) (me true))]) (aM [MR 25 5,MR 26 6,aQ 27 (.lits 1 1 [(.int .u8 0)] [(0,(.t 26))]),aQ 28 (.app (.t 25) (.t 27) 1 1),MR 5 28] (.cq [MR 29 0,MR 30 0,aQ 31 (.dp (.t 30)),ep 32 31 0,fm 33 32,aQ 34 (.kB (.t 33) (some (jS 1)) none),aQ 35 (.dp (.t 29)),ep 36 35 0,gg (.store 1 (.t 36) (.t 34))])))))))))))))) (.gh (.zS (.loc 5) 5) (aM [MR 84 5,aQ 85 (.wm (.t 84)),MR 4 85] .ret))))))
theorem El {bo aZ aI:Nat} (hF:aw P G bo=some (86,[(none,4)],(fb aI aZ).bare)) (hI:∀(s:Bs) (b:Bool),
  cR P G aZ [.list (iO.map IV.str),.fn aI [.ptr (.par 0) 2 0 0] []] (cG s b) fun x cs=>
   match ma s iO 0 with
   |some (i,r)=>x= .int .i64 (i:Nat)∧cs=cG r b
   |none=>x= .int .i64 (-1)∧cs=cG s b) (v:Bool) (s:Bs) (hs:s.length≤B) (b:Bool) :
  cR P G bo [.ptr (.par 0) 2 0 0,.bool v] (cG s b) (rO v s b):=by
 refine dw hF (by simp) (by simp[ah,AV.an]) (by simp[ah,AV.an]) ?_;have zo:B=1073741824:=rfl;unfold fb;simp only[↓aX,mX,seval,Oj];refine gb (σ:={q:Bs×Bs×Bool // yG v s b q}) (fun _=>[.par 0,.loc 5]) (fun _ _=>false)
  (fun q=>[(0,.ptr (.par 0) 2 0 0),(1,.bool v),(5,.sl (.loc 5) 1 0 q.1.2.1.length)])
  (fun q=>[(.par 0,⟨2,[cG q.1.1 q.1.2.2]⟩),(.loc 5,⟨1,aB (a7 q.1.2.1)⟩)]) (fun q=>2*q.1.1.length+(if q.1.2.2 then 0 else 1)) ⟨(s,[],b),by simp,fun h=>h,fun h=> ?_⟩ (fun _=>rfl) (fun q=>by simp[ah,AV.an]) ?_ ⟨[],?_⟩ ?_
 ·simp only[h,Vl,Vk];cases bm v s<;>simp
 ·intro q w hw cs jB z hz;simp only[Vg,VN,Vy] at hw;rcases hw with rfl|rfl
  ·simp only[Vm] at jB;subst jB;simp[ah,AV.an] at hz
  rw[bU jB] at hz;simp at hz
 ·refine⟨?_,?_,?_,by simp[dn],by simp[dn]⟩
  ·intro l hf hu;left;cases l<;>simp[Lb.entry] at hf;rename_i n;by_cases e:n=0
   ·subst e;simp
   exfalso;apply hu;simp[ae,Hp.none,e]
  ·simp[k_,dn,bJ,put,jP]
  simp[tc,dn,ae,dO,bu,bJ,a7,aB]
 rintro⟨⟨r,t,bad⟩,hlen,qE,nL⟩;simp only at hlen qE nL;have hU:∀d,d≠5→ie (fun _=>false) [(Lb.par 0,⟨2,[cG r bad]⟩),(Lb.loc 5,⟨1,aB (a7 t)⟩)] (.loc d)= .unused:=fun d hd=>by rw[fE (by simp[hd])];rfl
 have nk:∀d,d≠0→ie (fun _=>false) [(Lb.par 0,⟨2,[cG r bad]⟩),(Lb.loc 5,⟨1,aB (a7 t)⟩)] (.par d)= .unused:=fun d hd=>by rw[fE (by simp[hd])];rfl
 have ij:ie (fun _=>false) [(Lb.par 0,⟨2,[cG r bad]⟩),(Lb.loc 5,⟨1,aB (a7 t)⟩)] (.par 0)= .live ⟨2,[cG r bad]⟩:=cL.2 (by simp[kl,ae]);have oB:ie (fun _=>false) [(Lb.par 0,⟨2,[cG r bad]⟩),(Lb.loc 5,⟨1,aB (a7 t)⟩)] (.loc 5)= .live ⟨1,aB (a7 t)⟩:=cL.2 (by simp[kl,ae]);simp only;generalize ie (fun _=>false) [(Lb.par 0,⟨2,[cG r bad]⟩),(Lb.loc 5,⟨1,aB (a7 t)⟩)]=H0 at *;have sk:((a7 t).drop 0).take t.length=a7 t:=by rw[VU,Vq (by rw[a_];exact Va _)]
 have qB:0+t.length≤(a7 t).length:=by rw[a_];omega
 have fin:∀(H1:Hp),H1 (.par 0)= .live ⟨2,[cG r bad]⟩→(bad=false→∃y,bm v r=some y∧y=([],r))→∃dF,rO v s b (.str t) dF∧(AV.str t).an=[]∧ah dF=[]∧dF.length=2∧H1 (.par 0)= .live ⟨2,[dF]⟩:=by
  intro H1 h1 h2;refine⟨cG r bad,⟨t,r,bad,rfl,rfl,hlen,qE,fun hb=> ?_⟩,rfl,by simp[ah,AV.an],rfl,h1⟩;have h3:=nL hb;cases bad with
  |true=>simp only[Vp] at h3;rw[h3]
  |false=>
  obtain⟨y,hy,rfl⟩:=h2 rfl;simp only[Vl,Vk,hy,Vf,V5] at h3;rw[h3];exact⟨rfl,rfl⟩
 simp only[↓aX,mX,seval,ij]
 match r,hlen,nL,ij,fin with
 |[],hlen,nL,ij,fin=>
  simp only[↓aX,mX,seval,show(([]:Bs)==[])=true from rfl,Vh];refine⟨1,a7 t,0,t.length,rfl,oB,qB,jh t,?_⟩;rw[sk];simp only[↓aX,mX,seval,sJ,jj,Vf,cN];exact fin _ (by simp[ae,ij]) (fun _=>⟨_,vW v,rfl⟩)
 |c::q,hlen,nL,ij,fin=>
  simp only[↓aX,mX,seval,show((c::q:Bs)==[])=false from rfl,Ve,ij];cases bad with
  |true=>
   simp only[↓aX,mX,seval,Vh];refine⟨1,a7 t,0,t.length,rfl,oB,qB,jh t,?_⟩;rw[sk];simp only[↓aX,mX,seval,sJ,jj,Vf,cN];exact fin _ (by simp[ae,ij]) (fun h=>by cases h)
  |false=>
  have Cm:b=false:=by cases b with|true=>exact absurd (qE rfl) (by simp)|false=>rfl
  have ke:=nL Cm;simp only[Vl,Vk] at ke;have GL:((c.toNat:Int)==60)=(c==60):=cI c 60 (by decide);have E6:((c.toNat:Int)==62)=(c==62):=cI c 62 (by decide);have HF:((c.toNat:Int)==38)=(c==38):=cI c 38 (by decide);have Jh:((c.toNat:Int)==34)=(c==34):=cI c 34 (by decide);simp only[↓aX,mX,seval,Ve,ij,show((0:Int)).toNat=0 from rfl,VQ,GL];have stop:yu v c→∃y,bm v (c::q)=some y∧y=([],c::q):=fun h=>⟨_,tr h q,rfl⟩;by_cases tv:c=60
  ·rw[show(c==60)=true by simp[tv]];simp only[↓aX,mX,seval];refine⟨1,a7 t,0,t.length,rfl,oB,qB,jh t,?_⟩;rw[sk];simp only[↓aX,mX,seval,sJ,jj,Vf,cN];exact fin _ (by simp[ae,ij]) (fun _=>stop (.inl tv))
  rw[show(c==60)=false by simp[tv]];simp only[↓aX,mX,seval,Ve,Jh];have next:∀(e:UInt8) (r':Bs) (d:Nat) (env:Env),bm v (c::q)=(bm v r').map (fun x=>(e::x.1,x.2))→r'.length<(c::q).length→env 0= .ptr (.par 0) 2 0 0→env 1= .bool v→env 5= .sl (.loc d) 1 0 (t.length+1)→∀(H1:Hp),H1 (.par 0)= .live ⟨2,[cG r' false]⟩→H1 (.loc d)= .live ⟨1,aB (a7 t++a7 [e])⟩→(∀n,n≠0→H1 (.par n)= .unused) →
    ∃q':{q:Bs×Bs×Bool // yG v s b q},2*q'.1.1.length+(if q'.1.2.2 then 0 else 1)<2*(c::q).length+1∧∃m,WE [.par 0,.loc 5] (fun _=>false) [(0,.ptr (.par 0) 2 0 0),(1,.bool v),(5,.sl (.loc 5) 1 0 q'.1.2.1.length)]
     [(.par 0,⟨2,[cG q'.1.1 q'.1.2.2]⟩),(.loc 5,⟨1,aB (a7 q'.1.2.1)⟩)] env H1 m:=by
   intro e r' d env h1 h2 h3 h4 h5 H1 h6 h7 h8;refine⟨⟨(r',t++[e],false),?_,qE,fun _=> ?_⟩,?_,[(.loc 5,.loc d)],?_,?_,?_,by simp[dn],?_⟩
   ·simp only[Vw,Vo,VR] at hlen h2 ⊢;omega
   ·simp only[Vl,Vk];rw[ke,h1];cases bm v r'<;>simp
   ·simp only[Vl,Vk];omega
   ·intro l hf hu;left;cases l<;>simp[Lb.entry] at hf;rename_i n;by_cases e0:n=0
    ·subst e0;simp
    exact absurd (h8 n e0) hu
   ·simp[k_,h3,h4,h5,bJ,dn]
   ·refine⟨by simp[dn,dO,bu,bJ,h6],by simp[dn,dy,h7,rK],trivial⟩
   intro l hl;simp only[Vg,VN,Vy] at hl;rcases hl with rfl|rfl
   ·simp[dn]
   simp[dn,Lb.fresh,Lb.entry]
  have v7:∀(env:Env) (H1:Hp),bm v (c::q)=none→env 0= .ptr (.par 0) 2 0 0→env 1= .bool v→env 5= .sl (.loc 5) 1 0 t.length→H1 (.par 0)= .live ⟨2,[cG (c::q) true]⟩→H1 (.loc 5)= .live ⟨1,aB (a7 t)⟩→(∀n,n≠0→H1 (.par n)= .unused) →
    ∃q':{q:Bs×Bs×Bool // yG v s b q},2*q'.1.1.length+(if q'.1.2.2 then 0 else 1)<2*(c::q).length+1∧∃m,WE [.par 0,.loc 5] (fun _=>false) [(0,.ptr (.par 0) 2 0 0),(1,.bool v),(5,.sl (.loc 5) 1 0 q'.1.2.1.length)]
     [(.par 0,⟨2,[cG q'.1.1 q'.1.2.2]⟩),(.loc 5,⟨1,aB (a7 q'.1.2.1)⟩)] env H1 m:=by
   intro env H1 h1 h3 h4 h5 h6 h7 h8;refine⟨⟨(c::q,t,true),hlen,fun _=>rfl,fun _=> ?_⟩,?_,[],?_,?_,?_,by simp[dn],by simp[dn]⟩
   ·simp only[Vp];rw[ke,h1];rfl
   ·simp only[Vp];omega
   ·intro l hf hu;left;cases l<;>simp[Lb.entry] at hf;rename_i n;by_cases e0:n=0
    ·subst e0;simp
    exact absurd (h8 n e0) hu
   ·simp[k_,h3,h4,h5,bJ,dn]
   refine⟨by simp[dn,dO,bu,bJ,h6],by simp[dn,dy,h7],trivial⟩
  by_cases GO:c=34∧v=true
  ·rw[show(c==34)=true by simp[GO.1]];simp only[↓aX,mX,seval];refine AU (fun _=> ?_) (fun hv=>by rw[GO.2] at hv;cases hv);simp only[↓aX,mX,seval];refine⟨1,a7 t,0,t.length,rfl,oB,qB,jh t,?_⟩;rw[sk];simp only[↓aX,mX,seval,sJ,jj,Vf,cN];exact fin _ (by simp[ae,ij]) (fun _=>stop (.inr GO))
  have np:¬yu v c:=fun h=>h.elim tv GO;cases Jo:(c==34) with
  |true=>
   simp only[↓aX,mX,seval];refine AU (fun hv=>absurd ⟨by simpa using Jo,hv⟩ GO) (fun _=> ?_);simp only[↓aX,mX,seval,HF];by_cases qv:c=38
   ·rw[show(c==38)=true by simp[qv]];simp only[↓aX,mX,seval];rw[Vd ⟨rfl,by decide,by intro y hy;simp only[Vg,VN,Vy] at hy;rcases hy with rfl|rfl|rfl|rfl<;>rfl⟩];simp only[↓aX,mX,seval];refine bj (l:= .par 0) (hI (c::q) false) (by simp[bu,bJ,ft,iO,qH,rC,kD,jc]) (by simp[ij]) ?_;intro x1 dF hx _ _ _;have hK:=yF (c::q);cases hk:ma (c::q) iO 0 with
    |none=>
     rw[hk] at hx hK;simp only at hx hK;obtain⟨rfl,rfl⟩:=hx;have hn:bm v (c::q)=none:=by
      rw[bm,U8 np,Vd qv];split
      ·rename_i e1 q1 h;rw[hK] at h;cases h
      rfl
     simp only[↓aX,mX,seval,show((-1:Int)<0)=True by simp,Xg,cN];refine⟨cG (c::q) true,⟨[],c::q,true,rfl,rfl,by simp at hlen ⊢;omega,fun _=>rfl,fun hb=> ?_⟩,rfl,by simp[ah,AV.an],rfl,by simp[ae]⟩;rw[ke,hn];rfl
    |some y=>
    obtain⟨i,r'⟩:=y;rw[hk] at hx hK;simp only at hx hK;obtain⟨rfl,rfl⟩:=hx;obtain⟨e,he,tw⟩:=hK;have hn:bm v (c::q)=(bm v r').map fun x=>(e::x.1,x.2):=by
     rw[bm,U8 np,Vd qv];split
     ·rename_i e1 q1 h;rw[tw] at h;cases h;rfl
     rename_i h;rw[tw] at h;cases h
    have bI:=nw tw;simp only[↓aX,mX,seval,show decide (((i:Nat):Int)<0)=false by simp,VG,VJ,he];rw[fH (xs:=a7 t) (by simp[ae,oB]) (a_ t).symm (by simp at hlen;omega) (by simp[Lb.app,Lb.fresh]) (by simp[Lb.app,Lb.fresh,ae,hU 65 (by decide)])];simp only[↓aX,mX,seval,Lb.app,Lb.fresh];refine next e r' 65 _ hn bI ?_ ?_ ?_ _ ?_ ?_ ?_
    ·rfl
    ·rfl
    ·rfl
    ·simp[ae]
    ·simp[ae]
    intro n hn;simp[ae,nk n hn,hn]
   rw[show(c==38)=false by simp[qv]];simp only[↓aX,mX,seval,E6];cases yH:(c==62) with
   |true=>
    simp only[↓aX,mX,seval,ij];have hn:bm v (c::q)=none:=(by rw[bm,U8 np,U8 qv,Vd (.inl (by simpa using yH))]);refine v7 _ _ hn ?_ ?_ ?_ ?_ ?_ ?_
    ·rfl
    ·rfl
    ·rfl
    ·simp[ae]
    ·simp[ae,oB]
    intro n hn;simp[ae,nk n hn,hn]
   |false=>
   simp only[↓aX,mX,seval,Ve];rw[show((c.toNat:Int) !=10)= !((c.toNat:Int)==10) from rfl];cases wH:((c.toNat:Int)==10) with
   |true=>
    have qG:ga c=true:=(by rw[fk,wH];rfl);simp only[↓aX,mX,seval,Vh];have hn:bm v (c::q)=(bm v q).map fun x=>(c::x.1,x.2):=(by rw[bm,U8 np,U8 qv,U8 (by rintro(h|h);exact absurd h (by simpa using yH);rw[qG] at h;cases h)]);rw[fH (xs:=a7 t) oB (a_ t).symm (by simp at hlen;omega) (by simp[Lb.app,Lb.fresh]) (hU 28 (by decide))];simp only[↓aX,mX,seval,Lb.app,Lb.fresh,ij,lk,VG,show(0:Int)≤1 by decide,show(1:Int).toNat=1 from rfl,V9,Vo,show 1≤q.length+1 by omega,Vp,U7,Vf,WY,VS,Wj,VU,Va,Wv];refine next c q 28 _ hn (by simp) ?_ ?_ ?_ _ ?_ ?_ ?_
    ·rfl
    ·rfl
    ·rfl
    ·simp[ae]
    ·simp[ae]
    intro n hn;simp[ae,nk n hn,hn]
   |false=>
   simp only[↓aX,mX,seval,Ve];cases Em:decide ((c.toNat:Int)<32) with
   |true=>
    have qG:ga c=false:=(by rw[fk,wH,Em];rfl);simp only[↓aX,mX,seval,Vh,ij];have hn:bm v (c::q)=none:=(by rw[bm,U8 np,U8 qv,Vd (.inr qG)]);refine v7 _ _ hn ?_ ?_ ?_ ?_ ?_ ?_
    ·rfl
    ·rfl
    ·rfl
    ·simp[ae]
    ·simp[ae,oB]
    intro n hn;simp[ae,nk n hn,hn]
   |false=>
   simp only[↓aX,mX,seval,Ve];cases yI:decide ((c.toNat:Int)>126) with
   |true=>
    have qG:ga c=false:=(by rw[fk,wH,Em,yI];rfl);simp only[↓aX,mX,seval,ij];have hn:bm v (c::q)=none:=(by rw[bm,U8 np,U8 qv,Vd (.inr qG)]);refine v7 _ _ hn ?_ ?_ ?_ ?_ ?_ ?_
    ·rfl
    ·rfl
    ·rfl
    ·simp[ae]
    ·simp[ae,oB]
    intro n hn;simp[ae,nk n hn,hn]
   |false=>
   have qG:ga c=true:=(by rw[fk,wH,Em,yI];rfl);simp only[↓aX,mX,seval];have hn:bm v (c::q)=(bm v q).map fun x=>(c::x.1,x.2):=(by rw[bm,U8 np,U8 qv,U8 (by rintro(h|h);exact absurd h (by simpa using yH);rw[qG] at h;cases h)]);rw[fH (xs:=a7 t) oB (a_ t).symm (by simp at hlen;omega) (by simp[Lb.app,Lb.fresh]) (hU 28 (by decide))];simp only[↓aX,mX,seval,Lb.app,Lb.fresh,ij,lk,VG,show(0:Int)≤1 by decide,show(1:Int).toNat=1 from rfl,V9,Vo,show 1≤q.length+1 by omega,Vp,U7,Vf,WY,VS,Wj,VU,Va,Wv];refine next c q 28 _ hn (by simp) ?_ ?_ ?_ _ ?_ ?_ ?_
   ·rfl
   ·rfl
   ·rfl
   ·simp[ae]
   ·simp[ae]
   intro n hn;simp[ae,nk n hn,hn]
  |false=>
  simp only[↓aX,mX,seval,HF];by_cases qv:c=38
  ·rw[show(c==38)=true by simp[qv]];simp only[↓aX,mX,seval];rw[Vd ⟨rfl,by decide,by intro y hy;simp only[Vg,VN,Vy] at hy;rcases hy with rfl|rfl|rfl|rfl<;>rfl⟩];simp only[↓aX,mX,seval];refine bj (l:= .par 0) (hI (c::q) false) (by simp[bu,bJ,ft,iO,qH,rC,kD,jc]) (by simp[ij]) ?_;intro x1 dF hx _ _ _;have hK:=yF (c::q);cases hk:ma (c::q) iO 0 with
   |none=>
    rw[hk] at hx hK;simp only at hx hK;obtain⟨rfl,rfl⟩:=hx;have hn:bm v (c::q)=none:=by
     rw[bm,U8 np,Vd qv];split
     ·rename_i e1 q1 h;rw[hK] at h;cases h
     rfl
    simp only[↓aX,mX,seval,show((-1:Int)<0)=True by simp,Xg,cN];refine⟨cG (c::q) true,⟨[],c::q,true,rfl,rfl,by simp at hlen ⊢;omega,fun _=>rfl,fun hb=> ?_⟩,rfl,by simp[ah,AV.an],rfl,by simp[ae]⟩;rw[ke,hn];rfl
   |some y=>
   obtain⟨i,r'⟩:=y;rw[hk] at hx hK;simp only at hx hK;obtain⟨rfl,rfl⟩:=hx;obtain⟨e,he,tw⟩:=hK;have hn:bm v (c::q)=(bm v r').map fun x=>(e::x.1,x.2):=by
    rw[bm,U8 np,Vd qv];split
    ·rename_i e1 q1 h;rw[tw] at h;cases h;rfl
    rename_i h;rw[tw] at h;cases h
   have bI:=nw tw;simp only[↓aX,mX,seval,show decide (((i:Nat):Int)<0)=false by simp,VG,VJ,he];rw[fH (xs:=a7 t) (by simp[ae,oB]) (a_ t).symm (by simp at hlen;omega) (by simp[Lb.app,Lb.fresh]) (by simp[Lb.app,Lb.fresh,ae,hU 65 (by decide)])];simp only[↓aX,mX,seval,Lb.app,Lb.fresh];refine next e r' 65 _ hn bI ?_ ?_ ?_ _ ?_ ?_ ?_
   ·rfl
   ·rfl
   ·rfl
   ·simp[ae]
   ·simp[ae]
   intro n hn;simp[ae,nk n hn,hn]
  rw[show(c==38)=false by simp[qv]];simp only[↓aX,mX,seval,E6];cases yH:(c==62) with
  |true=>
   simp only[↓aX,mX,seval,ij];have hn:bm v (c::q)=none:=(by rw[bm,U8 np,U8 qv,Vd (.inl (by simpa using yH))]);refine v7 _ _ hn ?_ ?_ ?_ ?_ ?_ ?_
   ·rfl
   ·rfl
   ·rfl
   ·simp[ae]
   ·simp[ae,oB]
   intro n hn;simp[ae,nk n hn,hn]
  |false=>
  simp only[↓aX,mX,seval,Ve];rw[show((c.toNat:Int) !=10)= !((c.toNat:Int)==10) from rfl];cases wH:((c.toNat:Int)==10) with
  |true=>
   have qG:ga c=true:=(by rw[fk,wH];rfl);simp only[↓aX,mX,seval,Vh];have hn:bm v (c::q)=(bm v q).map fun x=>(c::x.1,x.2):=(by rw[bm,U8 np,U8 qv,U8 (by rintro(h|h);exact absurd h (by simpa using yH);rw[qG] at h;cases h)]);rw[fH (xs:=a7 t) oB (a_ t).symm (by simp at hlen;omega) (by simp[Lb.app,Lb.fresh]) (hU 28 (by decide))];simp only[↓aX,mX,seval,Lb.app,Lb.fresh,ij,lk,VG,show(0:Int)≤1 by decide,show(1:Int).toNat=1 from rfl,V9,Vo,show 1≤q.length+1 by omega,Vp,U7,Vf,WY,VS,Wj,VU,Va,Wv];refine next c q 28 _ hn (by simp) ?_ ?_ ?_ _ ?_ ?_ ?_
   ·rfl
   ·rfl
   ·rfl
   ·simp[ae]
   ·simp[ae]
   intro n hn;simp[ae,nk n hn,hn]
  |false=>
  simp only[↓aX,mX,seval,Ve];cases Em:decide ((c.toNat:Int)<32) with
  |true=>
   have qG:ga c=false:=(by rw[fk,wH,Em];rfl);simp only[↓aX,mX,seval,Vh,ij];have hn:bm v (c::q)=none:=(by rw[bm,U8 np,U8 qv,Vd (.inr qG)]);refine v7 _ _ hn ?_ ?_ ?_ ?_ ?_ ?_
   ·rfl
   ·rfl
   ·rfl
   ·simp[ae]
   ·simp[ae,oB]
   intro n hn;simp[ae,nk n hn,hn]
  |false=>
  simp only[↓aX,mX,seval,Ve];cases yI:decide ((c.toNat:Int)>126) with
  |true=>
   have qG:ga c=false:=(by rw[fk,wH,Em,yI];rfl);simp only[↓aX,mX,seval,ij];have hn:bm v (c::q)=none:=(by rw[bm,U8 np,U8 qv,Vd (.inr qG)]);refine v7 _ _ hn ?_ ?_ ?_ ?_ ?_ ?_
   ·rfl
   ·rfl
   ·rfl
   ·simp[ae]
   ·simp[ae,oB]
   intro n hn;simp[ae,nk n hn,hn]
  |false=>
  have qG:ga c=true:=by rw[fk,wH,Em,yI];rfl
  simp only[↓aX,mX,seval];have hn:bm v (c::q)=(bm v q).map fun x=>(c::x.1,x.2):=by rw[bm,U8 np,U8 qv,U8 (by rintro(h|h);exact absurd h (by simpa using yH);rw[qG] at h;cases h)]
  rw[fH (xs:=a7 t) oB (a_ t).symm (by simp at hlen;omega) (by simp[Lb.app,Lb.fresh]) (hU 28 (by decide))];simp only[↓aX,mX,seval,Lb.app,Lb.fresh,ij,lk,VG,show(0:Int)≤1 by decide,show(1:Int).toNat=1 from rfl,V9,Vo,show 1≤q.length+1 by omega,Vp,U7,Vf,WY,VS,Wj,VU,Va,Wv];refine next c q 28 _ hn (by simp) ?_ ?_ ?_ _ ?_ ?_ ?_
  ·rfl
  ·rfl
  ·rfl
  ·simp[ae]
  ·simp[ae]
  intro n hn;simp[ae,nk n hn,hn]
end

theorem uW:∀l m:List Attr,dX (l++m)=dX l+dX m
 |[],m=>by simp[dX]
 |a::r,m=>by simp[dX,uW r m];omega
def yJ {l m:List Attr} (h:l.Perm m):dX l=dX m:=by
 induction h with
 |nil=>rfl
 |cons x _ ih=>simp[dX,ih]
 |swap x y l=>simp[dX];omega
 |trans _ _ h1 h2=>exact h1.trans h2
def qw (s:Bs) (b:Bool) (x:AV) (cs:List AV):Prop:=∃l r b',x= .list (cD l)∧cs=cG r b'∧r.length+dX l≤s.length∧(b=true→b'=true) ∧
 (b=false→match ea s with
  |some y=>b'=false∧r=y.2∧l.length=y.1.length∧(y.1.length≤20→l=cu y.1)
  |none=>b'=true)
def GP (s:Bs) (b:Bool) (q:Bs×List Attr×Bool):Prop:=q.1.length+dX q.2.1≤s.length∧(b=true→q.2.2=true)∧(b=false→if q.2.2 then ea s=none else ea s=(ea q.1).map fun y=>(q.2.1++y.1,y.2))
def gU (p s:Bs):iA p s=if p.isPrefixOf s then some (cZ p s) else none:=by
 unfold iA cZ;split<;>rfl
def oj (s:Bs):l6 s=if(decide (s.takeWhile bz=[])||decide (8<(s.takeWhile bz).length)) then none else some (s.takeWhile bz,s.dropWhile bz):=by
 unfold l6;simp only[Wg,Vn]
def jC (p:UInt8→Bool) (s:Bs):(s.takeWhile p).length+(s.dropWhile p).length=s.length:=by
 rw[←Vw,WG]
section
variable {P:Program} {G:Nat→Option (List IV)}
def eV (bf bb aP bo aV bO:Nat):AC:=
(aM [zi 2] (aM [zi 3] (.gh (.own 3 2) (.seq (.block 0 (.loop (.seq (aM [MR 5 0,aQ 6 (.call bf [(.t 5)]),MR 7 6,cU 8 7 0,dW 9 7 (.dp (.t 8)),jn 10 7 9 1,jm 11 7 10,dW 12 7 (.not (.t 11)),jT 13 7 12,MR 14 13,cU 15 14 0,dW 16 14 (.dp (.t 15)),jn 17 14 16 0,jm 18 14 17,dW 19 14 (.bin .neq (.t 18) (.c (.str []))),jT 20 14 19,MR 21 20,cU 22 21 0,dW 23 21 (.dp (.t 22)),jn 24 21 23 0,jm 25 21 24,dW 26 21 (.lj (.t 25) (jS 0)),dW 27 21 (.bin .neq (.t 26) (.c (.int .u8 62))),jT 28 21 27,MR 29 28,cU 30 29 0,dW 31 29 (.dp (.t 30)),jn 32 29 31 0,jm 33 29 32,dW 34 29 (.lj (.t 33) (jS 0)),dW 35 29 (.bin .neq (.t 34) (.c (.int .u8 47))),jT 36 29 35] (.cond (.t 36) .skip (.exit 0))) (.block 1 (aM [MR 37 0,aQ 38 (.call bb [(.t 37)]),aQ 39 (.sg [(.str []),(.str [])] [(0,(1,(.t 38)))]),aQ 4 (.new [(.str []),(.str [])]),gg (.store 2 (.t 4) (.t 39))] (aM [MR 40 0,aQ 41 (.call aP [(.t 40),(.c (.str [61,34]))])] (aM [MR 42 0,aQ 43 (.call bo [(.t 42),(me true)]),ep 44 4 1,gg (.store 1 (.t 44) (.t 43))] (aM [MR 45 0,aQ 46 (.call aP [(.t 45),(.c (.str [34]))])] (.cq [MR 47 3,gz 48 2 4,aQ 49 (.lits 1 2 [(.str []),(.str [])] [(0,(.t 48))]),aQ 50 (.app (.t 47) (.t 49) 2 32),MR 3 50]))))))))) (aM [MR 51 3,aQ 52 (.call aV [(.t 51),(.c (.fn bO [] []))])] (aM [MR 53 3,MR 2 53] (.gh (.zS (.loc 3) 2) .ret)))))))
def Bp {b5 bf bb aP bo aV bO:Nat} (hF:aw P G b5=some (54,[(none,2)],(eV bf bb aP bo aV bO).bare))
  (HK:∀(s:Bs) (b:Bool),s.length≤B→cR P G bf [.ptr (.par 0) 2 0 0] (cG s b) fun x cs=>x= .bool (decide ((s.dropWhile isSp).length<s.length))∧cs=cG (s.dropWhile isSp) b)
  (hN:∀(s:Bs) (b:Bool),s.length≤B→cR P G bb [.ptr (.par 0) 2 0 0] (cG s b) fun x cs=>x= .str (s.takeWhile bz)∧cs=cG (s.dropWhile bz) (b||(decide (s.takeWhile bz=[])||decide (8<(s.takeWhile bz).length))))
  (Cn:∀(s p:Bs) (b:Bool),cR P G aP [.ptr (.par 0) 2 0 0,.str p] (cG s b) fun x cs=>cs=cG (cZ p s) (b|| !p.isPrefixOf s))
  (hT:∀(v:Bool) (s:Bs) (b:Bool),s.length≤B→cR P G bo [.ptr (.par 0) 2 0 0,.bool v] (cG s b) (rO v s b))
  (rP:∀l:List Attr,l.length≤B→ig P G aV [.sl (.par 0) 2 0 l.length,.fn bO [] []] 2 (cD l) fun x ys=>∃zs:List Attr,ys=cD zs∧zs.Perm l∧(l.length≤20→zs=cu l))
  (s:Bs) (hs:s.length≤B) (b:Bool) :
  cR P G b5 [.ptr (.par 0) 2 0 0] (cG s b) (qw s b):=by
 refine dw hF (by simp) (by simp[ah,AV.an]) (by simp[ah,AV.an]) ?_;have zo:B=1073741824:=rfl;unfold eV;simp only[↓aX,mX,seval,Oj];refine gb (σ:={q:Bs×List Attr×Bool // GP s b q}) (fun _=>[.par 0,.loc 3]) (fun _ _=>false)
  (fun q=>[(0,.ptr (.par 0) 2 0 0),(3,.sl (.loc 3) 2 0 q.1.2.1.length)])
  (fun q=>[(.par 0,⟨2,[cG q.1.1 q.1.2.2]⟩),(.loc 3,⟨2,aB (cD q.1.2.1)⟩)]) (fun q=>q.1.1.length) ⟨(s,[],b),by simp[dX],fun h=>h,fun h=> ?_⟩ (fun _=>rfl) (fun q=>by simp[ah,AV.an]) ?_ ⟨[],?_⟩ ?_
 ·simp only[h,Vl,Vk];cases ea s<;>simp
 ·intro q w hw cs jB z hz;simp only[Vg,VN,Vy] at hw;rcases hw with rfl|rfl
  ·simp only[Vm] at jB;subst jB;simp[ah,AV.an] at hz
  rw[bU jB] at hz;simp at hz
 ·refine⟨?_,?_,?_,by simp[dn],by simp[dn]⟩
  ·intro l hf hu;left;cases l<;>simp[Lb.entry] at hf;rename_i n;by_cases e:n=0
   ·subst e;simp
   exfalso;apply hu;simp[ae,Hp.none,e]
  ·simp[k_,dn,bJ,put,jP]
  simp[tc,dn,ae,dO,bu,bJ,cD,aB]
 rintro⟨⟨r,l,bad⟩,hlen,qE,nL⟩;simp only at hlen qE nL;have Ij:=iz l;have hU:∀d,d≠3→ie (fun _=>false) [(Lb.par 0,⟨2,[cG r bad]⟩),(Lb.loc 3,⟨2,aB (cD l)⟩)] (.loc d)= .unused:=fun d hd=>by rw[fE (by simp[hd])];rfl
 have nk:∀d,d≠0→ie (fun _=>false) [(Lb.par 0,⟨2,[cG r bad]⟩),(Lb.loc 3,⟨2,aB (cD l)⟩)] (.par d)= .unused:=fun d hd=>by rw[fE (by simp[hd])];rfl
 have ij:ie (fun _=>false) [(Lb.par 0,⟨2,[cG r bad]⟩),(Lb.loc 3,⟨2,aB (cD l)⟩)] (.par 0)= .live ⟨2,[cG r bad]⟩:=cL.2 (by simp[kl,ae]);have qI:ie (fun _=>false) [(Lb.par 0,⟨2,[cG r bad]⟩),(Lb.loc 3,⟨2,aB (cD l)⟩)] (.loc 3)= .live ⟨2,aB (cD l)⟩:=cL.2 (by simp[kl,ae]);simp only;generalize ie (fun _=>false) [(Lb.par 0,⟨2,[cG r bad]⟩),(Lb.loc 3,⟨2,aB (cD l)⟩)]=H0 at *;simp only[↓aX,mX,seval];refine bj (l:= .par 0) (HK r bad (by omega)) (by simp[bu,bJ,ft]) (by simp[ij]) ?_;rintro x1 dF ⟨rfl,rfl⟩ _ _ _;obtain⟨r1,iS⟩:∃r1,r1=r.dropWhile isSp:=⟨_,rfl⟩;have En:r1.length≤r.length:=by rw[iS];exact jf _ _
 rw[←iS];simp only[↓aX,mX,seval];have fin:∀(zs:List Attr),zs.Perm l→(l.length≤20→zs=cu l)→(bad=false→ea r=some ([],r1))→qw s b (.list (cD zs)) (cG r1 bad):=by
  intro zs h1 h2 h4;refine⟨zs,r1,bad,rfl,rfl,by rw[yJ h1];omega,qE,fun hb=> ?_⟩;have h5:=nL hb;cases bad with
  |true=>simp only[Vp] at h5;rw[h5]
  |false=>
  simp only[Vl,Vk,h4 rfl,Vf,V5] at h5;rw[h5];exact⟨rfl,rfl,h1.length_eq,h2⟩
 have wv:∀B':Bool,iL r r1=B'→ea r=if B' then(match l7 r1 with|some (a,q)=>(ea q).map fun x=>(a::x.1,x.2)|none=>none) else some ([],r1):=by
  intro B' h;rw[ea,←iS,h];split
  ·split<;>simp_all
  rfl
 cases wu:decide (r1.length<r.length) with
 |false=>
  simp only[↓aX,mX,seval];refine cT (l:= .loc 3) (rP l (by omega)) (by simp[bu,bJ,ft]) (by simp[ae,qI]) ?_;rintro x1 ys ⟨zs,rfl,ln,oz⟩ _ _;simp only[↓aX,mX,seval];refine⟨2,cD zs,0,l.length,rfl,by simp[ae],by rw[bp,ln.length_eq];omega,nW zs,?_⟩;rw[VU,Vq (by rw[bp,ln.length_eq];exact Va _)];exact⟨_,fin zs ln oz (fun _=>by rw[wv false (by unfold iL;rw[wu];rfl)];rfl),rfl,by simp[ah,AV.an],rfl,by simp[ae]⟩
 |true=>
 simp only[↓aX,mX,seval,Vh,Ve];cases bad with
 |true=>
  simp only[↓aX,mX,seval,Vh,Ve];refine cT (l:= .loc 3) (rP l (by omega)) (by simp[bu,bJ,ft]) (by simp[ae,qI]) ?_;rintro x1 ys ⟨zs,rfl,ln,oz⟩ _ _;simp only[↓aX,mX,seval];refine⟨2,cD zs,0,l.length,rfl,by simp[ae],by rw[bp,ln.length_eq];omega,nW zs,?_⟩;rw[VU,Vq (by rw[bp,ln.length_eq];exact Va _)];exact⟨_,fin zs ln oz (fun h=>by cases h),rfl,by simp[ah,AV.an],rfl,by simp[ae]⟩
 |false=>
 have Cm:b=false:=by cases b with|true=>exact absurd (qE rfl) (by simp)|false=>rfl
 have ke:=nL Cm;simp only[Vl,Vk] at ke;simp only[↓aX,mX,seval,Vh,Ve];clear nL
 match r1,iS,En,wu,wv,fin with
 |[],iS,En,wu,wv,fin=>
  simp only[↓aX,mX,seval,show((([]:Bs) !=[])=false) from rfl,show(([]:Bs)==[])=true from rfl,Vh];refine cT (l:= .loc 3) (rP l (by omega)) (by simp[bu,bJ,ft]) (by simp[ae,qI]) ?_;rintro x1 ys ⟨zs,rfl,ln,oz⟩ _ _;simp only[↓aX,mX,seval];refine⟨2,cD zs,0,l.length,rfl,by simp[ae],by rw[bp,ln.length_eq];omega,nW zs,?_⟩;rw[VU,Vq (by rw[bp,ln.length_eq];exact Va _)];exact⟨_,fin zs ln oz (fun _=>by rw[wv false (by unfold iL;rw[wu];rfl)];rfl),rfl,by simp[ah,AV.an],rfl,by simp[ae]⟩
 |c::q,iS,En,wu,wv,fin=>
  have E6:((c.toNat:Int)==62)=(c==62):=cI c 62 (by decide);have LK:((c.toNat:Int)==47)=(c==47):=cI c 47 (by decide);simp only[↓aX,mX,seval,show((c::q:Bs)==[])=false from rfl,Ve,show((0:Int)).toNat=0 from rfl,VQ,bne,E6];cases yH:(c==62) with
  |true=>
   simp only[↓aX,mX,seval,Vh];refine cT (l:= .loc 3) (rP l (by omega)) (by simp[bu,bJ,ft]) (by simp[ae,qI]) ?_;rintro x1 ys ⟨zs,rfl,ln,oz⟩ _ _;simp only[↓aX,mX,seval];refine⟨2,cD zs,0,l.length,rfl,by simp[ae],by rw[bp,ln.length_eq];omega,nW zs,?_⟩;rw[VU,Vq (by rw[bp,ln.length_eq];exact Va _)];exact⟨_,fin zs ln oz (fun _=>by rw[wv false (by unfold iL;simp[yH])];rfl),rfl,by simp[ah,AV.an],rfl,by simp[ae]⟩
  |false=>
  simp only[↓aX,mX,seval,Ve,show((0:Int)).toNat=0 from rfl,VQ,bne,LK];cases HE:(c==47) with
  |true=>
   simp only[↓aX,mX,seval,Vh];refine cT (l:= .loc 3) (rP l (by omega)) (by simp[bu,bJ,ft]) (by simp[ae,qI]) ?_;rintro x1 ys ⟨zs,rfl,ln,oz⟩ _ _;simp only[↓aX,mX,seval];refine⟨2,cD zs,0,l.length,rfl,by simp[ae],by rw[bp,ln.length_eq];omega,nW zs,?_⟩;rw[VU,Vq (by rw[bp,ln.length_eq];exact Va _)];exact⟨_,fin zs ln oz (fun _=>by rw[wv false (by unfold iL;simp[yH,HE])];rfl),rfl,by simp[ah,AV.an],rfl,by simp[ae]⟩
  |false=>
  simp only[↓aX,mX,seval,Ve];have GQ:=wv true (by unfold iL;simp only[wu,yH,HE];rfl);simp only[Vp] at GQ;have LL:(c::q).length<r.length:=by simpa using wu
  generalize c::q=r1 at *;refine bj (l:= .par 0) (hN r1 false (by omega)) (by simp[bu,bJ,ft]) (by simp[ae]) ?_;rintro x1 dF ⟨rfl,rfl⟩ _ _ _;have Cv:=jC bz r1;have B2:=oj r1;rw[Yd];generalize r1.takeWhile bz=nm at *;generalize r1.dropWhile bz=r2 at *;generalize (decide (nm=[])||decide (8<nm.length))=Eo at *;simp only[↓aX,mX,seval];refine⟨by simp[ae,hU 4 (by decide)],?_⟩;refine bj (l:= .par 0) (Cn r2 [61,34] Eo) (by simp[bu,bJ,ft]) (by simp[ae]) ?_;rintro x1 dF rfl _ _ _;have H5:=ic [61,34] r2;have u6:=gU [61,34] r2;generalize List.isPrefixOf [61,34] r2=E7 at *;generalize cZ [61,34] r2=r3 at *;simp only[↓aX,mX,seval];refine bj (l:= .par 0) (hT true r3 (Eo|| !E7) (by omega)) (by simp[bu,bJ,ft]) (by simp[ae]) ?_;rintro x1 dF ⟨t,r4,b4,rfl,rfl,MG,Kr,ky⟩ _ _ _;simp only[↓aX,mX,seval];refine bj (l:= .par 0) (Cn r4 [34] b4) (by simp[bu,bJ,ft]) (by simp[ae]) ?_;rintro x1 dF rfl _ _ _;have MH:=ic [34] r4;have GM:=gU [34] r4;generalize List.isPrefixOf [34] r4=HL at *;generalize cZ [34] r4=r5 at *;simp only[↓aX,mX,seval];rw[qg 2 32 50 3 (cD l) (.agg [.str nm,.str t]) (by simp[ae,qI]) (bp l) rfl (by intro z hz cs;simp only[IV.cells,Vg,VN,Vy] at hz;rcases hz with rfl|rfl<;>simp) (by omega) (by decide) (by decide) (by simp[ae,hU 50 (by decide)])];simp only[↓aX,mX,seval];have pD:if b4|| !HL then l7 r1=none else l7 r1=some (⟨nm,t⟩,r5):=by
   unfold l7;rw[B2];cases Eo with
   |true=>rw[Kr rfl];rfl
   |false=>
   simp only[Vl,Vk,U7];rw[u6];cases E7 with
   |false=>rw[Kr rfl];rfl
   |true=>
   simp only[Vp,U7];have h4:=ky rfl;cases Ks:bm true r3 with
   |none=>
    rw[Ks] at h4;simp only at h4;rw[h4];rfl
   |some y=>
   rw[Ks] at h4;obtain⟨rfl,rfl⟩:=h4;simp only[U7];rw[GM];cases HL<;>rfl
  refine⟨⟨(r5,l++[⟨nm,t⟩],b4|| !HL),?_,fun(h:b=true)=>(by rw[Cm] at h;cases h),fun _=> ?_⟩,by simp only;omega,[(.loc 3,.loc 50)],?_,?_,?_,by simp[dn],?_⟩
  ·simp only[uW,dX,Attr.wt];omega
  ·simp only;rw[ke,GQ];cases GR:(b4|| !HL) with
   |true=>rw[GR] at pD;simp only[Vp] at pD ⊢;rw[pD];rfl
   |false=>
   rw[GR] at pD;simp only[Vl,Vk] at pD ⊢;rw[pD];simp only;cases ea r5 with
   |none=>rfl
   |some y=>simp only[Vf,VP,Ww]
  ·intro z hf hu;left;cases z<;>simp[Lb.entry] at hf;rename_i n;by_cases e0:n=0
   ·subst e0;simp
   exfalso;apply hu;simp[ae,e0,nk n e0]
  ·simp[k_,bJ,dn,put]
  ·refine⟨by simp[dn,dO,bu,bJ,ae],by simp[dn,dy,ae,cD];rfl,trivial⟩
  intro z hz;simp only[Vg,VN,Vy] at hz;rcases hz with rfl|rfl
  ·simp[dn]
  simp[dn,Lb.fresh,Lb.entry]
end
end Go.Am
