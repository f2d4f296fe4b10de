import Derived.Test.YtfinkeaikbmpgaaGreatDoorKAm40
import Derived.Test.YtfinkeaikbmpgaaGreatDoorKT15
import Derived.Test.YtfinkeaikbmpgaaGreatDoorKT9
import Derived.Test.YtfinkeaikbmpgaaGreatDoorKT21
import Derived.Lib.Bytealg
import Derived.Test.YtfinkeaikbmpgaaGreatDoorKAm24
set_option linter.unusedSimpArgs false
set_option linter.unusedVariables false
set_option linter.unnecessarySimpa false
set_option linter.defProp false
/- THE ABSTRACT MACHINE, part 46: room that is known: what append and copy do. -/
namespace Go.Am
open Go Go.RowKit
section
variable {H:Hp} {l:Lb} {sz b d n c i m:Nat} {els news:List (List AV)} {xs:List IV}
def acp (hl:H l= .live ⟨sz,els⟩) (hn:n≤els.length) (he:jV sz xs) (hf:Flat xs) (h0:0<b) (hd:l≠ .loc d) (hc:n+xs.length≤c) (MH:n+xs.length≤els.length) :
  jN sz b d (.slk l sz 0 n c) (.list xs) H=some (.slk l sz 0 (n+xs.length) c,bD H l (.live ⟨sz,els.take n++aB xs++els.drop (n+xs.length)⟩)):=by
 unfold jN;rw[o7 he];have h1:(aB xs).length=xs.length:=lQ xs;simp only[cu,hf.one,not_true_eq_false,fH,hl,dK,hn,h0,dL,ne_eq,hd,pA,h1,hc,MH,eT];simpa using hf.one
def abu {x:AV} (hs:kU sz x H=some news) (ho:∀cs∈news,AV.oJ cs) (hl:H l= .live ⟨sz,els⟩) (hn:n≤els.length) (h0:0<b) (hd:l≠ .loc d) (hc:n+news.length≤c) (MH:n+news.length≤els.length) :
  jN sz b d (.slk l sz 0 n c) x H=some (.slk l sz 0 (n+news.length) c,bD H l (.live ⟨sz,els.take n++news++els.drop (n+news.length)⟩)):=by
 unfold jN;simp only[hs,cu,hl,dK,hn,h0,ne_eq,hd,pA,hc,MH,eT];simpa using ho
def agV {x:AV} {z:List AV} (hz:AV.oJ z) (hp:EU x=some (l,sz,i,n)) (hl:H l= .live ⟨sz,els⟩) (qB:i+n≤els.length) :
  sX sz z x H=some (bD H l (.live ⟨sz,els.take i++List.replicate n z++els.drop (i+n)⟩)):=by
 unfold sX;rw[a_ (by simpa using hz)];simp only[hp,cu,hl,dK,qB,eT,mD]
def abv (hl:H l= .live ⟨sz,els⟩) (hn:n≤els.length) (he:jV sz xs) (hf:Flat xs) (h0:0<b) (hd:l≠ .loc d) (hc:c<n+xs.length) (hb:(n+xs.length)*b≤140737488355328) (hu:H (.loc d)= .unused) :
  jN sz b d (.slk l sz 0 n c) (.list xs) H=some (.sl (.loc d) sz 0 (n+xs.length),bD H (.loc d) (.live ⟨sz,els.take n++aB xs⟩)):=by
 unfold jN;rw[o7 he];have h1:(aB xs).length=xs.length:=lQ xs;have KD:¬(n+xs.length≤c):=by omega
 simp only[cu,hl,dK,hn,h0,ne_eq,hd,pA,h1,KD,hb,hu,eT,fH,e8];simpa using hf.one
def aeJ {z:List AV} {k:IntKind} (hl:H l= .live ⟨sz,els⟩) (hn:n≤els.length) (hc:c<n+m) (hb:(n+m)*b≤140737488355328) (hu:H (.loc d)= .unused) :
  ud sz b d z (.slk l sz 0 n c) (.int k (m:Int)) H=some (.sl (.loc d) sz 0 (n+m),bD H (.loc d) (.live ⟨sz,els.take n++List.replicate m z⟩)):=by
 unfold ud;simp only[hl,dK,hn,cj,a7,hc,hb,hu,e8,eT]
def aa5 {x y:AV} (hs:kU sz x H=some news) (hp:EU y=some (l,sz,i,n)) (hl:H l= .live ⟨sz,els⟩) (qB:i+n≤els.length) (hm:m=Nat.min news.length n) (ho:∀cs∈news.take m,AV.oJ cs) :
  sW sz y x H=some (.int .i64 (m:Int),bD H l (.live ⟨sz,els.take i++news.take m++els.drop (i+m)⟩)):=by
 unfold sW;subst hm;simp only[hs,cu,hp,hl,dK,qB,eT];rw[a_ (by simpa using ho)];have:(news.take (Nat.min news.length n)).length=Nat.min news.length n:=by rw[cT];exact ov (vP _ _)
 rw[this]
end
def Z' {xs:List IV} {rest:List (List AV)} {i k:Nat} (h:i+k≤xs.length):((aB xs++rest).drop i).take k=aB ((xs.drop i).take k):=by
 have h1:=lQ xs;rw[je (by omega),pI (by simp;omega)];simp[aB,pB,kO]
def Yp {xs:List IV} {rest:List (List AV)} {k:Nat} (h:k≤xs.length):(aB xs++rest).take k=aB (xs.take k):=by
 have h1:=lQ xs;rw[pI (by omega)];simp[aB,kO]
def Flat.part {xs:List IV} (h:Flat xs) (i k:Nat):Flat ((xs.drop i).take k):=fun y hy=>h y (iN (ec hy))

def Eg {S:St} {f:Nat} {fn:Func} {e:Array Value→Sem Value} {args:List AV} {H:Hp} {res:AV} (hf:S.P.funcs[f]?=some fn) (yA:(fn.name== "runtime.NumGoroutine")=false) (hb:fn.body.isNone=true)
  (hn:Extern.findNext fn=none) (he:Extern.find fn=some e) (hr:∀(w:World) (β:Lb→Option Nat) (I:Nat→Prop) (vs:List Value),br w β H I args vs→∃v,(e vs.toArray).run S.P w= .ok v w∧RV w β H I res v) (hl:res.an=[]) :
  sZ S f args H res:=by
 intro K β env a w vs hS ju hv;subst hS;obtain⟨v,h1,h2⟩:=hr w β _ vs hv;refine⟨v,w,?_,Below.refl _ _,h2,by simp[hl]⟩;rw[run_callFunc_extern hf yA hb hn he,h1];rfl
def Jk {w:World} {β:Lb→Option Nat} {H:Hp} {I:Nat→Prop} {x y:AV} {vs:List Value} (h:br w β H I [x,y] vs):∃u v,vs=[u,v]∧RV w β H I x u∧RV w β H I y v:=by
 match vs,h with
 |[u,v],h=>
  simp only[br] at h;obtain⟨_,_,h0,h1,_,_,h2,h3,h4⟩:=h;cases h0;cases h2;cases h4;exact⟨u,v,rfl,h1,h3⟩
def rN {S:St} {f:Nat} {fn:Func} (hf:S.P.funcs[f]?=some fn) (yA:(fn.name== "runtime.NumGoroutine")=false) (hb:fn.body.isNone=true)
  (hn:Extern.findNext fn=none) (he:Extern.find fn=some Extern.BytealgCompare.compare) (s t:Bs) (H:Hp):sZ S f [.str s,.str t] H (.int .i64 (Lib.compareBytes s t)):=by
 refine Eg hf yA hb hn he (fun w β I vs hv=> ?_) rfl;obtain⟨u,v,rfl,h1,h2⟩:=Jk hv;simp only[RV] at h1 h2;subst h1;subst h2;exact⟨_,Lib.run_compareString _ _ _,by simp[RV]⟩
def Z_ (c:UInt8):Bs→List Bs
 |[]=>[[]]
 |b::r=>if b=c then []::Z_ c r else match Z_ c r with
  |w::ws=>(b::w)::ws
  |[]=>[[b]]
section
variable {P:Program} {G:Nat→Option (List IV)}
def Bj (c:UInt8) (s:Bs):Bs×Bs×Bool:=if 0≤Lib.indexByte s c then(s.take (Lib.indexByte s c).toNat,s.drop ((Lib.indexByte s c).toNat+1),true) else(s,[],false)
end

section
variable {S:St} {env:Env} {H:Hp}
def Jm (S:St) (x:AV) (args:List AV) (H:Hp) (k:AV→Hp→Prop) (_:Tw k):Prop:=∃f first cap,x= .fn f first cap∧fU S.P f=true∧jJ S f (first++args++cap) H k
def yE (d:Option Nat) (x:O) (args:List O) (k:AV→Hp→Prop):bg S d (.fM x args) env H k=Jm S (ev env x) (args.map (ev env)) H k .mk:=rfl
def Ek (f:Nat) (first cap args:List AV) (k:AV→Hp→Prop) (u:Tw k):Jm S (.fn f first cap) args H k u=(fU S.P f=true∧C7 S f (first++args++cap) H k .mk):=by
 simp only[Jm,C7,AV.fn.injEq,eq_iff_iff];constructor
 ·rintro⟨_,_,_,⟨rfl,rfl,rfl⟩,h⟩;exact h
 intro h;exact⟨_,_,_,⟨rfl,rfl,rfl⟩,h⟩
end

theorem uW:∀l m:List Attr,dX (l++m)=dX l+dX m
 |[],m=>by simp[dX]
 |a::r,m=>by simp[dX,uW r m];omega
section
variable {P:Program} {G:Nat→Option (List IV)}
end

def Attr.yO (a:Attr):AV:= .agg [.str a.name,.str a.val]
section
variable {P:Program} {G:Nat→Option (List IV)}
def cB (bq:Nat):AC:=
(aM [gH 4 0] (aM [MR 5 0,MR 6 1,aQ 7 (.kE bq [(.t 5),(.t 6)]),MR 4 7] .ret))
def tC {a6 bq:Nat} (hF:aw P G a6=some (8,[(none,4)],(cB bq).bare))
  (hX:∀(N:Nat) (s t:Bs) (H:Hp),sZ ⟨P,G,N⟩ bq [.str s,.str t] H (.int .i64 (Lib.compareBytes s t))) (s t:Bs) :
  au P G a6 [.str s,.str t] (.int .i64 (Lib.compareBytes s t)):=by
 refine aR hF (by simp) (by simp[ah,AV.an]) (by simp[AV.an]) ?_;unfold cB;simp only[↓aX,mX,seval];refine DZ (hX _ _ _ _) ?_;simp only[↓aX,mX,seval]
def fI (a6:Nat):AC:=
(aM [gH 4 0] (aM [MR 5 0,MR 6 1,aQ 7 (.call a6 [(.t 5),(.t 6)]),MR 4 7] .ret))
def yP {cC a6:Nat} (hF:aw P G cC=some (8,[(none,4)],(fI a6).bare)) (s t:Bs) (hC:au P G a6 [.str s,.str t] (.int .i64 (Lib.compareBytes s t))) :
  au P G cC [.str s,.str t] (.int .i64 (Lib.compareBytes s t)):=by
 refine aR hF (by simp) (by simp[ah,AV.an]) (by simp[AV.an]) ?_;unfold fI;simp only[↓aX,mX,seval];refine ay hC ?_;simp only[↓aX,mX,seval]
theorem rS:∀s t:Bs,decide (Lib.compareBytes s t<0)=Op.bytesLess s t
 |[],[]=>rfl
 |[],_::_=>rfl
 |_::_,[]=>rfl
 |a::as,b::bs=>by
  have ih:=rS as bs;simp only[Lib.compareBytes,Op.bytesLess];by_cases h1:a<b
  ·simp[h1]
  by_cases h2:b<a
  ·simp only[h1,h2,eT,fH];have:¬a=b:=fun e=>h1 (by rw[e] at h2;exact absurd h2 (mH _));simp_all
  have h3:a=b:=(yj a b).elim (fun h=>absurd h h1) (fun h=>h.elim id (fun h=>absurd h h2));subst h3;simp only[mH,fH,ih]
  try simp
end

def RT (as:List Attr) (key:Bs):Nat:=(as.takeWhile fun a=>Op.bytesLess a.name key).length
def TU (as:List Attr) (key:Bs):Bool:=match as[RT as key]? with|some a=>a.name==key|none=>false
theorem ac0 {key:Bs}:∀{as:List Attr} {k:Nat},k≤as.length→(∀j a,j<k→as[j]?=some a→Op.bytesLess a.name key=true)→(∀a,as[k]?=some a→Op.bytesLess a.name key=false)→RT as key=k
 |[],k,h,_,_=>by simp at h;subst h;rfl
 |a::r,0,_,_,h2=>by
  have:=h2 a rfl;simp[RT,ou,this]
 |a::r,k+1,h,h1,h2=>by
  have ha:=h1 0 a (by omega) rfl;have ih:=ac0 (key:=key) (as:=r) (k:=k) (by simpa using h) (fun j b hj hb=>h1 (j+1) b (by omega) (by simpa using hb)) (fun b hb=>h2 b (by simpa using hb));simp only[RT] at ih;simp[RT,ou,ha,ih]
def abw {as:List Attr} (h:l_ as=true):∀{i j:Nat} {a b:Attr},i<j→as[i]?=some a→as[j]?=some b→Op.bytesLess a.name b.name=true:=by
 induction as with
 |nil=>intro i j a b _ hi;simp at hi
 |cons x r ih=>
 intro i j a b Et hi hj;cases j with
 |zero=>omega
 |succ j=>
 simp only[jC] at hj;cases i with
 |zero=>
  simp only[jB,di] at hi;subst hi;exact ZH h b (aV hj)
 |succ i=>exact ih (vS h) (Nat.lt_of_succ_lt_succ Et) (by simpa using hi) hj
section
variable {P:Program} {G:Nat→Option (List IV)}
def VW (cC:Nat):AC:=
(aM [sC 2 0,gH 4 0] (aM [ep 5 2 0,fm 6 5,MR 7 1,aQ 8 (.call cC [(.t 6),(.t 7)]),MR 4 8] .ret))
def ahQ {r7 cC:Nat} (hF:aw P G r7=some (9,[(none,4)],(VW cC).bare)) (a:Attr) (s:Bs) (hC:au P G cC [.str a.name,.str s] (.int .i64 (Lib.compareBytes a.name s))) :
  au P G r7 [a.yO,.str s] (.int .i64 (Lib.compareBytes a.name s)):=by
 refine aR hF (by simp) (by simp[ah,AV.an,Attr.yO]) (by simp[AV.an]) ?_;unfold VW;simp only[↓aX,mX,seval,Attr.yO];refine ay hC ?_;simp only[↓aX,mX,seval]
theorem abx:∀s t:Bs,(Lib.compareBytes s t==0)=(s==t)
 |[],[]=>rfl
 |[],_::_=>rfl
 |_::_,[]=>rfl
 |a::as,b::bs=>by
  have ih:=abx as bs;simp only[Lib.compareBytes];by_cases h1:a<b
  ·have:a≠b:=fun e=>(by subst e;exact absurd h1 (mH _));simp[h1,this]
  by_cases h2:b<a
  ·have:a≠b:=fun e=>(by subst e;exact absurd h2 (mH _));simp[h1,h2,this]
  have h3:a=b:=(yj a b).elim (fun h=>absurd h h1) (fun h=>h.elim id (fun h=>absurd h h2));subst h3;simp[mH,ih]
def A':AC:=
(aM [gH 6 0,jM 7 false] (aM [MR 12 0,oy 13 12,MR 8 13] (aM [MR 14 8,gH 9 0,MR 10 14] (.seq (.block 0 (.loop (.seq (aM [MR 15 9,MR 16 10,et 17 .lss 15 16] (.cond (.t 17) .skip (.exit 0))) (.block 1 (aM [MR 18 9,MR 19 10,et 20 .add 18 19,aQ 21 (.qK .u64 (.t 20)),aQ 22 (.bin .shr (.t 21) (.c (.int .u64 1))),aQ 23 (.qK .i64 (.t 22)),MR 11 23] (aM [MR 24 2,MR 25 0,MR 26 11,jL 27 25 26 2,gz 28 2 27,MR 29 1,aQ 30 (.fM (.t 24) [(.t 28),(.t 29)]),eY 31 .lss 30 0] (.cond (.t 31) (.cq [MR 32 11,eY 33 .add 32 1,MR 9 33]) (.cq [MR 34 11,MR 10 34])))))))) (aM [MR 35 9,MR 36 9,MR 37 8,et 38 .lss 36 37,MR 39 38,cU 40 39 2,cU 41 39 0,cU 42 39 9,dW 43 39 (.Vc (.t 41) (.t 42) 2),dW 44 39 (.load (some 2) (.t 43)),cU 45 39 1,dW 46 39 (.fM (.t 40) [(.t 44),(.t 45)]),dW 47 39 (.bin .eql (.t 46) (jS 0)),jT 48 39 47,MR 6 35,MR 7 48] .ret)))))
structure U3 (as:List Attr) (key:Bs) where
 lo:Nat
 hi:Nat
 h1:lo≤hi
 h2:hi≤as.length
 h3:∀j a,j<lo→as[j]?=some a→Op.bytesLess a.name key=true
 h4:∀j a,hi≤j→as[j]?=some a→Op.bytesLess a.name key=false
def acq {e9 fc:Nat} (hF:aw P G e9=some (49,[(none,6),(none,7)],A'.bare)) (as:List Attr) (key:Bs) (hx:as.length≤B) (hr:l_ as=true) (hb:fU P fc=true)
  (hC:∀a∈as,au P G fc [a.yO,.str key] (.int .i64 (Lib.compareBytes a.name key))) :
  au P G e9 [.list (cD as),.str key,.fn fc [] []] (.gf [.int .i64 (RT as key),.bool (TU as key)]):=by
 refine aR hF (by simp) (by simp[ah,AV.an]) (by simp[AV.an,ah]) ?_;unfold A';have zo:B=1073741824:=rfl;simp only[↓aX,mX,seval,bp];refine VR (σ:=U3 as key) (fun q=>[(0,.list (cD as)),(1,.str key),(2,.fn fc [] []),(8,.int .i64 as.length),(9,.int .i64 q.lo),(10,.int .i64 q.hi)]) (fun q=>q.hi - q.lo)
  ⟨0,as.length,by omega,by omega,fun j a h=>by omega,fun j a h ha=>by rw[dV (by omega)] at ha;cases ha⟩ (fun _=>rfl) ?_ ?_
 ·exact⟨by simp only[↓aX,mX,seval],by repeat' constructor⟩
 rintro⟨lo,hi,h1,h2,h3,h4⟩;simp only[↓aX,mX,seval,bp];by_cases bI:lo<hi
 ·rw[show decide ((lo:Int)<(hi:Int))=true by simpa using bI];obtain⟨m,hm⟩:∃m,m=(lo+hi)/2:=⟨_,rfl⟩;have hw:IntKind.i64.wrap (IntKind.u64.wrap (IntKind.i64.wrap ((lo:Int)+(hi:Int)))/2^min 1 IntKind.u64.bits)=(m:Int):=by
   have h1:IntKind.i64.wrap ((lo:Int)+(hi:Int))=((lo+hi:Nat):Int):=(by rw[wrap64 (by omega) (by omega)];omega);rw[h1];have h2:IntKind.u64.wrap ((lo+hi:Nat):Int)=((lo+hi:Nat):Int):=(by rw[IntKind.wrap_u64];omega);have h3:min 1 IntKind.u64.bits=1:=(by decide);rw[h2,h3];have h4:((lo+hi:Nat):Int)/2^1=(((lo+hi)/2:Nat):Int):=(by omega);rw[h4,wrap64 (by omega) (by omega),hm]
  have LY:IntKind.i64.wrap ((m:Int)+1)=((m+1:Nat):Int):=wrap64 (by omega) (by omega);obtain⟨x,D1⟩:∃x,as[m]?=some x:=⟨_,aC (by omega)⟩;simp only[↓aX,mX,seval,hw,lS,D1,bT,rq,Attr.cJ,Attr.cs,yE,Ek,hb];refine ay (hC x (aV D1)) ?_;simp only[↓aX,mX,seval,rS];refine AU (fun h=> ?_) (fun h=> ?_)
  ·simp only[↓aX,mX,seval,LY];refine⟨⟨m+1,hi,by omega,h2,fun j a hj ha=> ?_,h4⟩,by simp only;omega,rfl,rfl⟩;by_cases e:j=m
   ·rw[e,D1] at ha;cases ha;exact h
   exact rG (abw hr (by omega:j<m) ha D1) h
  simp only[↓aX,mX,seval];refine⟨⟨lo,m,by omega,by omega,h3,fun j a hj ha=> ?_⟩,by simp only;omega,rfl,rfl⟩;by_cases e:j=m
  ·rw[e,D1] at ha;cases ha;exact h
  cases hq:Op.bytesLess a.name key with
  |false=>rfl
  |true=>rw[rG (abw hr (by omega:m<j) D1 ha) hq] at h;cases h
 have he:lo=hi:=by omega
 subst he;have hp:RT as key=lo:=ac0 h2 h3 (fun a ha=>h4 lo a (bm _) ha);rw[show decide ((lo:Int)<(lo:Int))=false by simp];simp only[↓aX,mX,seval];refine ahq (fun h=> ?_) (fun h=> ?_)
 ·have bI:lo<as.length:=by simpa using h
  obtain⟨x,D1⟩:∃x,as[lo]?=some x:=⟨_,aC bI⟩;simp only[↓aX,mX,seval,h,lS,D1,bT,rq,Attr.cJ,Attr.cs,yE,Ek,hb];refine ay (hC x (aV D1)) ?_;simp only[↓aX,mX,seval,h,abx,B_,ef,oO,di,rT,gD,hp,TU,D1]
 simp only[↓aX,mX,seval,h,B_,ef,oO,di,rT,gD,hp,TU];rw[dV (by simp at h;omega)]
end

def Va {n0 i:Nat} {lab:Nat→Lb} {x:Node} (h:i<n0):NI n0 lab i x=[.bool x.text,.str x.s,.sl (lab (4+2*i)) 2 0 x.attrs.length,.int .i64 x.parent,.sl (lab (5+2*i)) 1 0 x.kids.length]:=by simp[NI,h]
def aaa {n0 i:Nat} {lab:Nat→Lb} {x:Node} (h:n0≤i):NI n0 lab i x=[.bool x.text,.str x.s,.list (cD x.attrs),.int .i64 x.parent,.list (x.kids.map xX)]:=by simp[NI,Nat.not_lt.2 h]
def Bn.all (b:Bn):List Nat:=List.range (4+2*b.n0)
def aby {H:Hp} {l:Lb} {sz n:Nat} {xs:List IV} (h:H l= .live ⟨sz,aB xs⟩) (hf:Flat xs) (hn:n=xs.length):wV H (.sl l sz 0 n) (.list xs):=by
 subst hn;have:=wV.row l sz 0 xs.length xs h (by omega) hf;simpa using this
section
variable {P:Program} {G:Nat→Option (List IV)}
def V1 (sh:Nat):AC:=
(aM [gH 4 0,gH 5 0] (aM [MR 7 0,aQ 8 (.dp (.t 7)),ep 9 8 0,fm 10 9,MR 11 1,jL 12 10 11 5,ep 13 12 3,fm 14 13,MR 6 14] (aM [MR 15 6,MR 16 0,aQ 17 (.dp (.t 16)),ep 18 17 0,fm 19 18,MR 20 6,jL 21 19 20 5,ep 22 21 4,fm 23 22,MR 24 1,aQ 25 (.call sh [(.t 23),(.t 24)]),MR 4 15,MR 5 25] .ret)))
def agW {b9 sh:Nat} (hF:aw P G b9=some (26,[(none,4),(none,5)],(V1 sh).bare)) (b:Bn) (n p:Nat) (x y:Node) (hx:b.nodes[n]?=some x) (hp:x.parent=p) (hy:b.nodes[p]?=some y) (Yl:p<b.n0)
  (hI:au P G sh [.list (y.kids.map xX),.int .i64 n] (.int .i64 (Xw y.kids n))) :
  Jg P G b9 [.ptr (.par 0) 3 0 0,.int .i64 n] (Ut b) b.all fun X R2=>X=(fun _=> .gf [.int .i64 p,.int .i64 (Xw y.kids n)])∧R2=Ut b:=by
 refine VM hF (by simp) (by simp[ah,AV.an,OO];omega) ?_;have hA:Oi Lb.par b (Lx (Ut b)):=Xv _;obtain⟨Cv,-⟩:=aI.1 hx;obtain⟨JU,-⟩:=aI.1 hy;unfold V1;simp only[↓aX,mX,seval,hA.s,hA.n,cj,a7,Cv,JU,e8,dK,bM,hA.get hx,hA.get hy,Va Yl];simp only[↓aX,mX,seval,NI,hA.s,hA.n,cj,a7,Cv,JU,e8,dK,bM,hA.get hx,hA.get hy,Va Yl,hp];rw[bf Yl];refine ab7 hI (.cons (aby (hA.kd Yl hy) (XD _) (by simp)) (.cons (.same _) .nil)) rfl ?_;simp only[↓aX,mX,seval,B_,ef,oO,di,rT,gD];refine⟨⟨(fun _=> .gf [.int .i64 p,.int .i64 (Xw y.kids n)]),Ut b,Lb.par⟩,⟨rfl,rfl⟩,fun ρ=>by simp[bJ,bu],by simp[AV.an,ah],rfl,hA,fun _ _=>rfl⟩
def VT (iJ gE:Nat):AC:=
(aM [sC 4 1,gH 6 0] (aM [MR 11 0,aQ 12 (.dp (.t 11)),ep 13 12 0,fm 14 13,oy 15 14,MR 7 15] (.seq (.VL [MR 16 0,MR 17 0,aQ 18 (.dp (.t 17)),ep 19 18 0,fm 20 19,ep 21 4 0,fm 22 21,ep 23 4 1,fm 24 23,ep 25 4 2,fm 26 25,aQ 27 (.call iJ [(.t 26)]),MR 28 2,aQ 29 (.sg [(.bool false),(.str []),.nil0,(.int .i64 0),.nil0] [(0,(1,(.t 22))),(1,(1,(.t 24))),(2,(1,(.t 27))),(3,(1,(.t 28)))]),aQ 30 (.lits 1 5 [(.bool false),(.str []),.nil0,(.int .i64 0),.nil0] [(0,(.t 29))]),aQ 31 (.app (.t 20) (.t 30) 5 80),aQ 32 (.dp (.t 16)),ep 33 32 0,gg (.store 1 (.t 33) (.t 31))] [[],[],[1],[2],[3],[],[5],[],[7],[],[9],[10],[],[6,8,11,12],[13],[4,14,11],[0,0,1,2,3,4,5,6,7,8,9,10,11,12,13,14,15],[16,0,1,2,3,4,5,6,7,8,9,10,11,12,13,14,15],[17,15,15,0,1,2,3,4,5,6,7,8,9,10,11,12,13,14,15]] [.no,.no,.no,.no,(.rw [(.par 0)] []),.no,.rw [.loc 4] [],.no,.rw [.loc 4] [],.no,.rw [.loc 4] [],.no,.no,.no,.no,(.rw [] [(.par 1),(.gen 31)]),.no,.no,(.rw [] [(.par 0)])]) (aM [zi 8] (.gh (.own 8 1) (.seq (aM [ep 34 4 3,fm 35 34,oy 36 35,gH 37 0] (.block 0 (.loop (aM [et 38 .lss 37 36] (.seq (.cond (.t 38) .skip (.exit 0)) (.seq (.block 1 (aM [jL 39 35 37 4,gz 40 4 39,aQ 10 (.new [(.bool false),(.str []),.nil0,.nil0]),gg (.store 4 (.t 10) (.t 40))] (.cq [MR 41 8,MR 42 0,gz 43 4 10,MR 44 7,aQ 45 (.call gE [(.t 42),(.t 43),(.t 44)]),aQ 46 (.lits 1 1 [(.int .i64 0)] [(0,(.t 45))]),aQ 47 (.app (.t 41) (.t 46) 1 8),MR 8 47]))) (.cq [eY 48 .add 37 1,MR 37 48]))))))) (.gh (.zS (.loc 8) 8) (aM [MR 49 0,aQ 50 (.dp (.t 49)),ep 51 50 0,fm 52 51,MR 53 7,MR 54 8,jL 55 52 53 5,ep 56 55 4,gg (.store 1 (.t 56) (.t 54))] (aM [MR 57 7,MR 6 57] .ret)))))))))
def Bn.add (b:Bn) (t:Tree) (p:Int):Bn:={b with nodes:=b.nodes++t.flat b.nodes.length p}
def Bn.WK (b:Bn) (t:Tree) (p:Int) (i:Nat):Bn:={b with nodes:=b.nodes++⟨t.text,t.s,t.attrs,p,[]⟩::fC (b.nodes.length+1) b.nodes.length (t.kids.take i)}
def Bn.but (b:Bn) (p:Nat):List Nat:=(List.range (4+2*b.n0)).filter (·≠p)
def Wp {b:Bn} {p q:Nat}:q∈b.but p↔q<4+2*b.n0∧q≠p:=by simp[Bn.but]
def r9 (N:Lb):Nat→Lb:=fun p=>if p=1 then N else .par p
def Xs {N:Lb} (h:∀p,p≠1→N≠ .par p) {p q:Nat} (e:r9 N p=r9 N q):p=q:=by
 unfold r9 at e;split at e<;>split at e
 ·omega
 ·exact absurd e (h _ (by omega))
 ·exact absurd e.symm (h _ (by omega))
 simpa using e
structure UP (t:Tree) where
 i:Nat
 hi:i≤t.kids.length
def abz (b:Bn) (t:Tree) (q:UP t):List (Nat×AV):=
 [(0,.ptr (.par 0) 3 0 0),(7,.int .i64 b.nodes.length),(8,.sl (.loc 8) 1 0 q.i),(35,.list (dq t.kids)),(36,.int .i64 t.kids.length),(37,.int .i64 q.i)]
def Yq (b:Bn) (t:Tree) (q:UP t):List (Lb×Row):=
 [(.loc 8,⟨1,aB ((mw (b.nodes.length+1) (t.kids.take q.i)).map xX)⟩)]
def Ed.Yr {lab:Nat→Lb} {R:uR} {H:Hp} (h:Ed lab R H) {q:Lb} {s:Slot} (hq:∀p,R.ok p→lab p≠q):Ed lab R (bD H q s):=
 ⟨fun p r hr=>by rw[aq _ _ (hq p ((R.Ec lab p).1 (by rw[hr];rfl)))];exact h.row p r hr,h.inj⟩
def ahR {gE iJ:Nat} (hF:aw P G gE=some (58,[(none,6)],(VT iJ gE).bare)) (b:Bn) (hn:b.n0≤b.nodes.length) (t:Tree) (p:Int) (hb:b.nodes.length+t.wt≤B)
  (hC:au P G iJ [.list (cD t.attrs)] (.list (cD t.attrs)))
  (hR:∀(b':Bn) (k:Tree),k∈t.kids→b'.n0=b.n0→b.n0≤b'.nodes.length→b'.nodes.length+k.wt≤B→Jg P G gE [.ptr (.par 0) 3 0 0,k.av,.int .i64 b.nodes.length] (Ut b') (b.but 1) fun X R2=>X=(fun _=> .int .i64 b'.nodes.length)∧R2=Ut (b'.add k b.nodes.length)) :
  Jg P G gE [.ptr (.par 0) 3 0 0,t.av,.int .i64 p] (Ut b) (b.but 1) fun X R2=>X=(fun _=> .int .i64 b.nodes.length)∧R2=Ut (b.add t p):=by
 refine VM hF (by simp) (by simp[ah,AV.an,OO,Tree.av];omega) ?_;have hA:Oi Lb.par b (Lx (Ut b)):=Xv _;have hU:∀q:Lb,(∀p,p<4+2*b.n0→q≠ .par p)→Lx (Ut b) q= .unused:=fun q hq=>Qa _ fun p hp e=>hq p (OO.1 hp) e.symm;have h4:Lx (Ut b) (.loc 4)= .unused:=hU _ (by simp);have h8:Lx (Ut b) (.loc 8)= .unused:=hU _ (by simp);have hg:Lx (Ut b) (.gen 31)= .unused:=hU _ (by simp);have MA:=t.gx;have Hm:=eZ t.kids;have zo:B=1073741824:=rfl;unfold VT;simp only[↓aX,mX,seval,Tree.av,hA.s,hA.n,h4,cz];refine⟨rfl,?_⟩;refine jw hC ?_;simp only[↓aX,mX,seval,Tree.av,hA.s,hA.n,h4];rw[s_ (l:= .par 1) (els:=b.nodes.mapIdx (NI b.n0 Lb.par)) (xs:=[.agg [.bool t.text,.str t.s,.list (cD t.attrs),.int .i64 p,.list []]]) (by simp[ae,hA.n]) (by simp) (by simp[jV,IV.cells]) (by simp[Flat,IV.cells]) (by simp;omega) (by decide) (by simp[Lb.app,Lb.fresh]) (by simp[Lb.app,Lb.fresh,ae,hg])];simp only[↓aX,mX,seval,hA.s,h8,h4];refine⟨by rintro l (rfl|rfl)<;>simp[Lb.iQ],?_⟩;have ahS:∀H2:Hp,H2 (.par 0)= .live ⟨3,[[.sl (.gen 31) 5 0 (b.nodes.length+1),.sl (.par 2) 1 0 b.fs.length,.sl (.par 3) 1 0 b.as.length]]⟩ →
   H2 (.gen 31)= .live ⟨5,b.nodes.mapIdx (NI b.n0 Lb.par)++[[.bool t.text,.str t.s,.list (cD t.attrs),.int .i64 p,.list []]]⟩→(∀q,q≠ .par 0→q≠ .par 1→q≠ .gen 31→q≠ .loc 4→q≠ .loc 8→H2 q=Lx (Ut b) q) →
   Oi (r9 (.gen 31)) (b.WK t p 0) H2:=by
  intro H2 e0 e1 e2;have:=Oi.push (H2:=fun q=>if q= .loc 4∨q= .loc 8 then Lx (Ut b) q else H2 q) hA (y:=⟨t.text,t.s,t.attrs,p,[]⟩) (N:= .gen 31) hn (.inr (by simp)) (by simp[e0]) (by simp[e1]) (by
   intro q g1 g2 g3;by_cases g4:q= .loc 4∨q= .loc 8
   ·simp[g4]
   simp only[g4,fH];exact e2 q g1 g2 g3 (fun e=>g4 (.inl e)) (fun e=>g4 (.inr e)))
  refine⟨fun q r hr=> ?_,this.inj⟩;have h1:=this.row q r hr;have h2:¬(r9 (.gen 31) q= .loc 4∨r9 (.gen 31) q= .loc 8):=by unfold r9;split<;>simp
  exact(a_ h2).symm.trans h1
 have j4:∀q:UP t,∀p',(Ut (b.WK t p q.i)).ok p'↔p'<4+2*b.n0:=fun q p'=>OO;have LS:∀p',p'≠1→Lb.gen 0≠ .par p':=by simp
 refine SJ (σ:=UP t) (r9 (.gen 0)) (fun q=>Ut (b.WK t p q.i)) [.loc 8] (fun l=>l== .par 1) (abz b t) (Yq b t) (fun q=>t.kids.length - q.i) ⟨0,gS _⟩
  (fun q p1 p2 _ _ e=>Xs LS e) (fun _=>rfl) (by simp[r9];intro _ p' _;split<;>simp) ?_ ?_ ?_ ?_
 ·intro q l hl;simp[ah,AV.an,abz] at hl;rcases hl with rfl|rfl
  ·right;exact⟨0,(j4 _ _).2 (by omega),by simp[r9]⟩
  left;simp
 ·intro q z hz cs bV l hl;simp only[Yq,aW] at hz;subst hz;rw[bU bV] at hl;simp at hl
 ·refine⟨r9 (.gen 31),[],?_⟩;have r0:PM (r9 (.gen 0)) (r9 (.gen 31)) (Ut (b.WK t p 0)) [] (.par 0)= .par 0:=
   On (labC:=r9 (.gen 0)) (fun p1 p2 _ _ e=>Xs LS e) (p:=0) (OO.2 (by omega))
  have r8:PM (r9 (.gen 0)) (r9 (.gen 31)) (Ut (b.WK t p 0)) [] (.loc 8)= .loc 8:=OE (by intro p' _;simp[r9];split<;>simp);refine⟨ahS _ (by simp[ae]) (by simp[ae,aB,IV.cells,IV.dQ,bo]) (by intro q g1 g2 g3 g4 g5;simp[ae,g1,g2,g3,g4,g5]),?_,?_,?_,by simp[dn],?_,by simp[dn,Lb.fresh,Lb.entry],?_⟩
  ·intro l he hu;cases l with
   |par k=>
    by_cases h1:k=1
    ·subst h1;right;right;rfl
    left;refine⟨k,OO.2 ?_,by simp[r9,h1]⟩;refine jc fun hk=>hu ?_;by_cases h0:k=0
    ·subst h0;exact absurd (by simp[Bn.WK];omega) hk
    simp only[ae,Lb.par.injEq,h0,h1,reduceCtorEq,fH];exact hU _ fun p' BT e=>hk (by simp only[Lb.par.injEq] at e;subst e;exact BT)
   |_=>simp[Lb.entry] at he
  ·simp[abz,k_,bJ,put,jP,r0,r8,bF]
  ·intro z hz;simp only[Yq,aW] at hz;subst hz;simp[dn,ae,dy];simp[mw,aB]
  ·intro l hl p' BT;simp only[aW] at hl;subst hl;simp[dn,r9];split<;>simp
  intro p' BT;refine⟨by simp[r9];split<;>simp[Lb.fresh],?_⟩;unfold r9;split<;>simp[Lb.entry]
 intro q;obtain⟨H0,EY⟩:∃H0,H0=Lw (r9 (.gen 0)) (Ut (b.WK t p q.i)) (ie (fun l=>l== .par 1) (Yq b t q)):=⟨_,rfl⟩;rw[←EY];have hB:Oi (r9 (.gen 0)) (b.WK t p q.i) H0:=by rw[EY];exact Ed.R6 (fun p1 p2 _ _ e=>Xs LS e) _
 have hO:∀l:Lb,(∀p',r9 (.gen 0) p'≠l)→H0 l=ie (fun l=>l== .par 1) (Yq b t q) l:=fun l hl=>by rw[EY];exact Qa _ fun p' _=>hl p'
 have a8:H0 (.loc 8)= .live ⟨1,aB ((mw (b.nodes.length+1) (t.kids.take q.i)).map xX)⟩:=(hO _ (by intro p';simp[r9];split<;>simp)).trans (by simp[ie,Yq,kl,bD]);have a10:H0 (.loc 10)= .unused:=(hO _ (by intro p';simp[r9];split<;>simp)).trans (by simp[ie,Yq,kl,bD,Hp.none]);have a47:H0 (.loc 47)= .unused:=(hO _ (by intro p';simp[r9];split<;>simp)).trans (by simp[ie,Yq,kl,bD,Hp.none]);have aN:∀l,H0 (NC 9 l)= .unused:=fun l=>(hO _ (by intro p';simp[r9,NC];split<;>simp)).trans (by simp[ie,Yq,kl,bD,Hp.none,NC]);have anf:∀k,H0 (.par k)≠ .unused→k<4+2*b.n0:=by
  intro k hu;refine jc fun hk=>hu ?_;rw[EY,Qa _ fun p' BT e=> ?_]
  ·have:k≠1:=(by omega);simp[ie,Yq,kl,bD,Hp.none,this]
  have h2:=OO.1 BT;unfold r9 at e;split at e<;>simp at e;subst e;exact hk h2
 clear EY hO;have hi:=q.hi;have JV:(mw (b.nodes.length+1) (t.kids.take q.i)).length=q.i:=by rw[VS,cT];omega
 have Lp:=ql (t.kids.take q.i);have LG:=lV t.kids q.i;simp only[↓aX,mX,seval,abz];refine AU (fun h=> ?_) (fun h=> ?_)
 ·have bI:q.i<t.kids.length:=by simpa using h
  obtain⟨k,HA⟩:∃k,t.kids[q.i]?=some k:=⟨_,aC bI⟩;have hw:IntKind.i64.wrap ((q.i:Int)+1)=((q.i+1:Nat):Int):=wrap64 (by omega) (by omega);have E0:t.kids.take (q.i+1)=t.kids.take q.i++[k]:=Vl HA;have ME:dE (t.kids.take q.i)+k.wt≤dE t.kids:=by
   have:=lV t.kids (q.i+1);rw[E0,kn] at this;simp only[dE] at this;omega
  simp only[↓aX,mX,seval,iy,HA,lT,Tree.cJ,Tree.cs,a10];have aa6:(b.WK t p q.i).nodes.length=b.nodes.length+1+dP (t.kids.take q.i):=by simp[Bn.WK,my];omega
  refine WV (lab:=r9 (.gen 0)) (N:=NC 9) (hR (b.WK t p q.i) k (aV HA) rfl (by rw[aa6];omega) (by rw[aa6];omega)) ?_ ?_ ?_ (Yo 9) (fun l h=> .inl h) (fun p' BT=>OO.2 (Wp.1 BT).1) ?_
  ·simp[bu,bJ,S1,r9,Tree.av]
  ·exact(hB.Yr (by intro p' _;simp[r9];split<;>simp)).Yr (by intro p' _;simp[r9];split<;>simp)
  ·intro l;rw[aq _ _ (by simp[NC]),aq _ _ (by simp[NC])];exact aN l
  rintro X R2 U9 H2 ⟨rfl,rfl⟩ g1 g2 g3 g4 g5 g6;have IB:∀n:Nat,n≠10→H2 (.loc n)=H0 (.loc n):=fun n hn=>by
   rw[g4 (.loc n) (by intro p' _;simp[r9];split<;>simp) (by simp[NC]),aq _ _ (by simpa using hn),aq _ _ (by simpa using hn)]
  have II:∀p':Nat,(Ut ((b.WK t p q.i).add k b.nodes.length)).ok p'→∀n,U9 p'≠ .loc n:=by
   intro p' BT n;rcases g3 p' BT with⟨p0,_,e⟩|⟨l,e⟩<;>rw[e]
   ·simp[r9];split<;>simp
   simp[NC]
  have MI:∀p',p'<4+2*b.n0→p'≠1→U9 p'= .par p':=fun p' h1 h2=>by rw[g2 p' (Wp.2 ⟨h1,h2⟩)];simp[r9,h2]
  simp only[↓aX,mX,seval];rw[qg 1 8 47 8 ((mw (b.nodes.length+1) (t.kids.take q.i)).map xX) (.int .i64 (b.WK t p q.i).nodes.length) (by rw[IB 8 (by decide),a8]) (by rw[ax,JV]) rfl (by simp[IV.cells]) (by omega) (by decide) (by decide) (by rw[IB 47 (by decide),a47])];simp only[↓aX,mX,seval,hw];have acd:mw (b.nodes.length+1) (t.kids.take (q.i+1))=mw (b.nodes.length+1) (t.kids.take q.i)++[((b.WK t p q.i).nodes.length:Int)]:=by
   rw[E0,WZ,aa6];simp[mw]
  have hbn:(b.WK t p q.i).add k b.nodes.length=b.WK t p (q.i+1):=by
   show({(b.WK t p q.i) with nodes:=(b.WK t p q.i).nodes++k.flat (b.WK t p q.i).nodes.length b.nodes.length}:Bn)=_;rw[aa6];simp[Bn.WK,E0,pd,fC]
  rw[hbn] at g1 II;refine⟨⟨q.i+1,bI⟩,by simp only;omega,U9,[(.loc 8,.loc 47)],?_⟩;have r0:PM (r9 (.gen 0)) U9 (Ut (b.WK t p (q.i+1))) [(.loc 8,.loc 47)] (.par 0)= .par 0:=
   (On (labC:=r9 (.gen 0)) (fun p1 p2 _ _ e=>Xs LS e) (p:=0) (OO.2 (by omega))).trans (MI 0 (by omega) (by decide))
  have r8:PM (r9 (.gen 0)) U9 (Ut (b.WK t p (q.i+1))) [(.loc 8,.loc 47)] (.loc 8)= .loc 47:=(OE (by intro p' _;simp[r9];split<;>simp)).trans (by simp[dn]);refine⟨(g1.Yr fun p' BT=>II p' BT 8).Yr fun p' BT=>II p' BT 47,?_,?_,?_,by simp[dn],?_,by simp[dn,Lb.fresh,Lb.entry],?_⟩
  ·intro l he hu;cases l with
   |par k'=>
    by_cases h1:k'=1
    ·subst h1;right;right;rfl
    left;refine⟨k',OO.2 ?_,by simp[r9,h1]⟩;refine jc fun vy=>vy ?_;refine anf k' ?_;rw[aq _ _ (by simp),aq _ _ (by simp),g4 (.par k') ?_ (by simp[NC]),aq _ _ (by simp),aq _ _ (by simp)] at hu
    ·exact hu
    intro p' BT e;simp only[r9] at e;split at e<;>simp at e;subst e;exact vy ((OO (b:=b.WK t p q.i)).1 BT)
   |_=>simp[Lb.entry] at he
  ·simp[abz,k_,bJ,put,o9,r0,r8]
  ·intro z hz;simp only[Yq,aW] at hz;subst hz;simp[dn,ae,dy];rw[acd];simp[aB,xX]
  ·intro l hl p' BT;simp only[aW] at hl;subst hl;simpa[dn] using II p' BT 47
  intro p' BT;refine⟨by simp[r9];split<;>simp[Lb.fresh],?_⟩;unfold r9;split
  ·simp[Lb.entry]
  rename_i h1;intro _;exact MI p' ((OO (b:=b.WK t p (q.i+1))).1 BT) h1
 have he:q.i=t.kids.length:=by simp at h;omega
 have hs:H0 (.par 0)= .live ⟨3,[[.sl (.gen 0) 5 0 (b.WK t p q.i).nodes.length,.sl (.par 2) 1 0 b.fs.length,.sl (.par 3) 1 0 b.as.length]]⟩:=hB.s;have F2:H0 (.gen 0)= .live ⟨5,(b.WK t p q.i).nodes.mapIdx (NI b.n0 (r9 (.gen 0)))⟩:=hB.n;have E0:t.kids.take q.i=t.kids:=by rw[he];simp
 rw[E0] at a8 JV;have hx:(b.WK t p q.i).nodes[b.nodes.length]?=some ⟨t.text,t.s,t.attrs,p,[]⟩:=by simp[Bn.WK]
 have hlen:b.nodes.length<(b.WK t p q.i).nodes.length:=(aI.1 hx).1;simp only[↓aX,mX,seval];refine⟨1,(mw (b.nodes.length+1) t.kids).map xX,0,q.i,rfl,a8,by rw[ax,JV];omega,XD _,?_⟩;simp only[↓aX,mX,seval,hs,F2,cz,hlen,cj,a7,e8,dK,bM,hB.get hx,aaa hn];have jY:((b.WK t p q.i).nodes.mapIdx (NI b.n0 (r9 (.gen 0))))[b.nodes.length]?=some [.bool t.text,.str t.s,.list (cD t.attrs),.int .i64 p,.list []]:=by
  have:=hB.get hx;rw[show(b.WK t p q.i).n0=b.n0 from rfl,aaa hn] at this;exact this
 have hkt:((mw (b.nodes.length+1) t.kids).map xX).take q.i=(mw (b.nodes.length+1) t.kids).map xX:=bo (by rw[ax,JV];omega);simp only[↓aX,mX,seval,jY,hkt];have aiy:(b.WK t p q.i).set b.nodes.length {(⟨t.text,t.s,t.attrs,p,[]⟩:Node) with kids:=mw (b.nodes.length+1) t.kids}=b.add t p:=by
  unfold Bn.set Bn.WK Bn.add;simp only[E0,Tree.qm,Tree.node];rw[rX _ _ (bm _)];simp
 refine⟨⟨fun _=> .int .i64 b.nodes.length,Ut (b.add t p),r9 (.gen 0)⟩,⟨rfl,rfl⟩,fun ρ=>rfl,by simp[AV.an],rfl,?_,?_⟩
 ·rw[←aiy];refine Oi.aiw (H:=bD H0 (.loc 8) .dead) (hB.Yr (by intro p' _;simp[r9];split<;>simp)) (i:=b.nodes.length) hn hx ?_ ?_
  ·show bD _ _ _ (Lb.gen 0)=_;simp[ae];rfl
  intro l hl;have:l≠ .gen 0:=hl;simp[ae,this]
 intro p' BT;have:=(Wp.1 BT).2;simp[r9,this]
theorem aab:∀{l:List Tree} {k:Tree},k∈l→k.jz≤dP l
 |x::r,k,h=>by
  rcases bb.1 h with rfl|h
  ·simp only[dP];omega
  have:=aab h;simp only[dP];omega
def agX (P:Program) (G:Nat→Option (List IV)) (f:Nat):Prop:=∀xs:List Attr,xs.length≤B→au P G f [.list (cD xs)] (.list (cD xs))
theorem ahT {gE iJ:Nat} (hF:aw P G gE=some (58,[(none,6)],(VT iJ gE).bare)) (hC:agX P G iJ):∀(m:Nat) (t:Tree),t.jz≤m→∀(b:Bn),b.n0≤b.nodes.length→∀(p:Int),b.nodes.length+t.wt≤B →
  Jg P G gE [.ptr (.par 0) 3 0 0,t.av,.int .i64 p] (Ut b) (b.but 1) fun X R2=>X=(fun _=> .int .i64 b.nodes.length)∧R2=Ut (b.add t p)
 |0,t,h,_,_,_,_=>by have:=t.uE;omega
 |m+1,t,h,b,hn,p,hb=>by
  have hw:=t.gx;have hl:=iz t.attrs;refine ahR hF b hn t p hb (hC _ (by omega)) fun b' k hk h0 h1 h2=> ?_;have h3:b'.but 1=b.but 1:=by unfold Bn.but;rw[h0]
  rw[←h3];obtain⟨i,hi⟩:=c_ hk;have:=aab hk;exact ahT hF hC m k (by rw[t.n8] at h;omega) b' (by omega) _ h2
end

def Bn.Uf (b:Bn) (p:Nat) (l:List Tree):Bn:={b with nodes:=b.nodes++fC b.nodes.length p l}
def Bn.ins (b:Bn) (p pl:Nat) (l:List Tree):Bn:=match b.nodes[p]? with
 |some x=>(b.Uf p l).set p {x with kids:=x.kids.take pl++mw b.nodes.length l++x.kids.drop pl}
 |none=>b
def Bn.acr (b:Bn) (p q:Nat):List Nat:=(List.range (4+2*b.n0)).filter fun i=>i≠p∧i≠q
def ajq {b:Bn} {p q i:Nat}:i∈b.acr p q↔i<4+2*b.n0∧i≠p∧i≠q:=by simp[Bn.acr]
def agY (P:Program) (G:Nat→Option (List IV)) (f:Nat):Prop:=∀(xs vs:List Int) (i:Nat),i≤xs.length→xs.length+vs.length≤B →
 tq P G 1 f [.sl (.par 0) 1 0 xs.length,.int .i64 i,.list (vs.map xX)] (xs.map xX) ((xs.take i++vs++xs.drop i).map xX)
def aeK (P:Program) (G:Nat→Option (List IV)) (f:Nat):Prop:=∀(xs:List Int) (i:Nat),i<xs.length→xs.length≤B →
 tq P G 1 f [.sl (.par 0) 1 0 xs.length,.int .i64 i,.int .i64 ((i+1:Nat):Int)] (xs.map xX) ((xs.take i++xs.drop (i+1)).map xX)
def aiz (P:Program) (G:Nat→Option (List IV)) (f:Nat):Prop:=∀(t:Tree) (b:Bn),b.n0≤b.nodes.length→∀(p:Int),b.nodes.length+t.wt≤B →
 Jg P G f [.ptr (.par 0) 3 0 0,t.av,.int .i64 p] (Ut b) (b.but 1) fun X R2=>X=(fun _=> .int .i64 b.nodes.length)∧R2=Ut (b.add t p)
section
variable {P:Program} {G:Nat→Option (List IV)}
def VX (gE gM:Nat):AC:=
(aM [zi 8] (.gh (.own 8 1) (.seq (aM [MR 11 3,oy 12 11,gH 13 0] (.block 0 (.loop (aM [et 14 .lss 13 12] (.seq (.cond (.t 14) .skip (.exit 0)) (.seq (.block 1 (aM [jL 15 11 13 4,gz 16 4 15,aQ 10 (.new [(.bool false),(.str []),.nil0,.nil0]),gg (.store 4 (.t 10) (.t 16))] (.cq [MR 17 8,MR 18 0,gz 19 4 10,MR 20 1,aQ 21 (.call gE [(.t 18),(.t 19),(.t 20)]),aQ 22 (.lits 1 1 [(.int .i64 0)] [(0,(.t 21))]),aQ 23 (.app (.t 17) (.t 22) 1 8),MR 8 23]))) (.cq [eY 24 .add 13 1,MR 13 24]))))))) (.gh (.zS (.loc 8) 8) (.VL [MR 25 0,aQ 26 (.dp (.t 25)),ep 27 26 0,fm 28 27,MR 29 1,MR 30 0,aQ 31 (.dp (.t 30)),ep 32 31 0,fm 33 32,MR 34 1,jL 35 33 34 5,ep 36 35 4,fm 37 36,MR 38 2,MR 39 8,aQ 40 (.call gM [(.t 37),(.t 38),(.t 39)]),jL 41 28 29 5,ep 42 41 4,gg (.store 1 (.t 42) (.t 40))] [[],[0],[1],[2],[],[],[5],[6],[7],[],[8,9],[10],[11],[],[],[12,13,14],[3,4,0,1,2,3,4,5,6,7,8,9,10,11,12,13,14,15],[16,0,1,2,3,4,5,6,7,8,9,10,11,12,13,14,15],[17,15,15,0,1,2,3,4,5,6,7,8,9,10,11,12,13,14,15]] [.no,.no,.no,(.rw [(.par 0)] []),.no,.no,.no,.no,(.rw [(.par 0)] []),.no,.no,.no,(.rw [(.gen 0)] []),.no,.no,(.p_ [(.par 0)]),.no,.no,(.rw [] [(.gen 0)])])))))
structure UQ (l:List Tree) where
 i:Nat
 hi:i≤l.length
def abA (b:Bn) (p pl:Nat) (l:List Tree) (q:UQ l):List (Nat×AV):=
 [(0,.ptr (.par 0) 3 0 0),(1,.int .i64 p),(2,.int .i64 pl),(8,.sl (.loc 8) 1 0 q.i),(11,.list (dq l)),(12,.int .i64 l.length),(13,.int .i64 q.i)]
def Yf (b:Bn) (l:List Tree) (q:UQ l):List (Lb×Row):=
 [(.loc 8,⟨1,aB ((mw b.nodes.length (l.take q.i)).map xX)⟩)]
def afU {bn gE gM:Nat} (hF:aw P G bn=some (43,[],(VX gE gM).bare)) (b:Bn) (hn:b.n0≤b.nodes.length) (p pl:Nat) (hp:p<b.n0) (x:Node) (hx:b.nodes[p]?=some x) (BS:pl≤x.kids.length)
  (l:List Tree) (hb:b.nodes.length+dE l≤B) (UX:x.kids.length+l.length≤B) (hA:aiz P G gE) (hI:agY P G gM) :
  Jg P G bn [.ptr (.par 0) 3 0 0,.int .i64 p,.int .i64 pl,.list (dq l)] (Ut b) (b.acr 1 (5+2*p)) fun X R2=>X=(fun _=> .gf [])∧R2=Ut (b.ins p pl l):=by
 refine VM hF (by simp) (by simp[ah,AV.an,OO,Tree.av];omega) ?_;have VB:Oi Lb.par b (Lx (Ut b)):=Xv _;have hU:∀q:Lb,(∀p,p<4+2*b.n0→q≠ .par p)→Lx (Ut b) q= .unused:=fun q hq=>Qa _ fun p hp e=>hq p (OO.1 hp) e.symm;have h8:Lx (Ut b) (.loc 8)= .unused:=hU _ (by simp);have Hm:=eZ l;have zo:B=1073741824:=rfl;have LS:∀p',p'≠1→Lb.gen 0≠ .par p':=by simp
 have hI0:∀q:UQ l,Ut (b.Uf p (l.take q.i))=Ut (b.Uf p (l.take q.i)):=fun _=>rfl;unfold VX;simp only[↓aX,mX,seval,h8];refine SJ (σ:=UQ l) (r9 (.gen 0)) (fun q=>Ut (b.Uf p (l.take q.i))) [.loc 8] (fun l=>l== .par 1) (abA b p pl l) (Yf b l) (fun q=>l.length - q.i) ⟨0,gS _⟩
  (fun q p1 p2 _ _ e=>Xs LS e) (fun _=>rfl) (by simp[r9];intro _ p' _;split<;>simp) ?_ ?_ ?_ ?_
 ·intro q l' hl;simp[ah,AV.an,abA] at hl;rcases hl with rfl|rfl
  ·right;exact⟨0,OO.2 (by omega),by simp[r9]⟩
  left;simp
 ·intro q z hz cs bV l' hl;simp only[Yf,aW] at hz;subst hz;rw[bU bV] at hl;simp at hl
 ·have oK:b.Uf p (l.take 0)=b:=by simp[Bn.Uf,fC]
  refine⟨Lb.par,[],?_⟩;have r0:PM (r9 (.gen 0)) Lb.par (Ut (b.Uf p (l.take 0))) [] (.par 0)= .par 0:=
   On (labC:=r9 (.gen 0)) (fun p1 p2 _ _ e=>Xs LS e) (p:=0) (OO.2 (by omega))
  have r8:PM (r9 (.gen 0)) Lb.par (Ut (b.Uf p (l.take 0))) [] (.loc 8)= .loc 8:=OE (by intro p' _;simp[r9];split<;>simp);refine⟨?_,?_,?_,?_,by simp[dn],?_,by simp[dn,Lb.fresh,Lb.entry],?_⟩
  ·simp only[oK];exact VB.Yr (by simp)
  ·intro l' he hu;cases l' with
   |par k=>
    by_cases h1:k=1
    ·subst h1;right;right;rfl
    left;refine⟨k,OO.2 ?_,by simp[r9,h1]⟩;refine jc fun hk=>hu ?_;simp only[ae,reduceCtorEq,fH];exact hU _ fun p' BT e=>hk (by simp only[Lb.par.injEq] at e;subst e;exact BT)
   |_=>simp[Lb.entry] at he
  ·simp[abA,k_,bJ,put,jP,bF];exact⟨r0.symm,r8.symm⟩
  ·intro z hz;simp only[Yf,aW] at hz;subst hz;simp[dn,ae,dy];simp[mw,aB]
  ·intro l' hl p' BT;simp only[aW] at hl;subst hl;simp[dn]
  intro p' BT;refine⟨by simp[r9];split<;>simp[Lb.fresh],?_⟩;unfold r9;split<;>simp[Lb.entry]
 intro q;obtain⟨H0,EY⟩:∃H0,H0=Lw (r9 (.gen 0)) (Ut (b.Uf p (l.take q.i))) (ie (fun l=>l== .par 1) (Yf b l q)):=⟨_,rfl⟩;rw[←EY];have hB:Oi (r9 (.gen 0)) (b.Uf p (l.take q.i)) H0:=by rw[EY];exact Ed.R6 (fun p1 p2 _ _ e=>Xs LS e) _
 have hO:∀l':Lb,(∀p',r9 (.gen 0) p'≠l')→H0 l'=ie (fun l=>l== .par 1) (Yf b l q) l':=fun l' hl=>by rw[EY];exact Qa _ fun p' _=>hl p'
 have a8:H0 (.loc 8)= .live ⟨1,aB ((mw b.nodes.length (l.take q.i)).map xX)⟩:=(hO _ (by intro p';simp[r9];split<;>simp)).trans (by simp[ie,Yf,kl,bD]);have a10:H0 (.loc 10)= .unused:=(hO _ (by intro p';simp[r9];split<;>simp)).trans (by simp[ie,Yf,kl,bD,Hp.none]);have a23:H0 (.loc 23)= .unused:=(hO _ (by intro p';simp[r9];split<;>simp)).trans (by simp[ie,Yf,kl,bD,Hp.none]);have ag:H0 (.gen 40)= .unused:=(hO _ (by intro p';simp[r9];split<;>simp)).trans (by simp[ie,Yf,kl,bD,Hp.none]);have aN:∀l,H0 (NC 9 l)= .unused:=fun l'=>(hO _ (by intro p';simp[r9,NC];split<;>simp)).trans (by simp[ie,Yf,kl,bD,Hp.none,NC]);have anf:∀k,H0 (.par k)≠ .unused→k<4+2*b.n0:=by
  intro k hu;refine jc fun hk=>hu ?_;rw[EY,Qa _ fun p' BT e=> ?_]
  ·have:k≠1:=(by omega);simp[ie,Yf,kl,bD,Hp.none,this]
  have h2:=(OO (b:=b.Uf p (l.take q.i))).1 BT;unfold r9 at e;split at e<;>simp at e;subst e;exact hk h2
 clear EY hO;have hi:=q.hi;have JV:(mw b.nodes.length (l.take q.i)).length=q.i:=by rw[VS,cT];omega
 have Lp:=ql (l.take q.i);have LG:=lV l q.i;simp only[↓aX,mX,seval,abA];refine AU (fun h=> ?_) (fun h=> ?_)
 ·have bI:q.i<l.length:=by simpa using h
  obtain⟨k,HA⟩:∃k,l[q.i]?=some k:=⟨_,aC bI⟩;have hw:IntKind.i64.wrap ((q.i:Int)+1)=((q.i+1:Nat):Int):=wrap64 (by omega) (by omega);have E0:l.take (q.i+1)=l.take q.i++[k]:=Vl HA;have ME:dE (l.take q.i)+k.wt≤dE l:=by
   have:=lV l (q.i+1);rw[E0,kn] at this;simp only[dE] at this;omega
  simp only[↓aX,mX,seval,iy,HA,lT,Tree.cJ,Tree.cs,a10];have aa6:(b.Uf p (l.take q.i)).nodes.length=b.nodes.length+dP (l.take q.i):=by simp[Bn.Uf,my]
  refine WV (lab:=r9 (.gen 0)) (N:=NC 9) (hA k (b.Uf p (l.take q.i)) (by rw[aa6];show b.n0≤_;omega) p (by rw[aa6];omega)) ?_ ?_ ?_ (Yo 9) (fun l h=> .inl h) (fun p' BT=>OO.2 (Wp.1 BT).1) ?_
  ·simp[bu,bJ,S1,r9,Tree.av]
  ·exact(hB.Yr (by intro p' _;simp[r9];split<;>simp)).Yr (by intro p' _;simp[r9];split<;>simp)
  ·intro l';rw[aq _ _ (by simp[NC]),aq _ _ (by simp[NC])];exact aN l'
  rintro X R2 U9 H2 ⟨rfl,rfl⟩ g1 g2 g3 g4 g5 g6;have IB:∀n:Nat,n≠10→H2 (.loc n)=H0 (.loc n):=fun n hn=>by
   rw[g4 (.loc n) (by intro p' _;simp[r9];split<;>simp) (by simp[NC]),aq _ _ (by simpa using hn),aq _ _ (by simpa using hn)]
  have II:∀p':Nat,(Ut ((b.Uf p (l.take q.i)).add k p)).ok p'→∀n,U9 p'≠ .loc n:=by
   intro p' BT n;rcases g3 p' BT with⟨p0,_,e⟩|⟨l,e⟩<;>rw[e]
   ·simp[r9];split<;>simp
   simp[NC]
  have MI:∀p',p'<4+2*b.n0→p'≠1→U9 p'= .par p':=fun p' h1 h2=>by rw[g2 p' (Wp.2 ⟨h1,h2⟩)];simp[r9,h2]
  simp only[↓aX,mX,seval];rw[qg 1 8 23 8 ((mw b.nodes.length (l.take q.i)).map xX) (.int .i64 (b.Uf p (l.take q.i)).nodes.length) (by rw[IB 8 (by decide),a8]) (by rw[ax,JV]) rfl (by simp[IV.cells]) (by omega) (by decide) (by decide) (by rw[IB 23 (by decide),a23])];simp only[↓aX,mX,seval,hw];have acd:mw b.nodes.length (l.take (q.i+1))=mw b.nodes.length (l.take q.i)++[((b.Uf p (l.take q.i)).nodes.length:Int)]:=by
   rw[E0,WZ,aa6];simp[mw]
  have hbn:(b.Uf p (l.take q.i)).add k p=b.Uf p (l.take (q.i+1)):=by
   show({(b.Uf p (l.take q.i)) with nodes:=(b.Uf p (l.take q.i)).nodes++k.flat (b.Uf p (l.take q.i)).nodes.length p}:Bn)=_;rw[aa6];simp[Bn.Uf,E0,pd,fC]
  rw[hbn] at g1 II;refine⟨⟨q.i+1,bI⟩,by simp only;omega,U9,[(.loc 8,.loc 23)],?_⟩;have r0:PM (r9 (.gen 0)) U9 (Ut (b.Uf p (l.take (q.i+1)))) [(.loc 8,.loc 23)] (.par 0)= .par 0:=
   (On (labC:=r9 (.gen 0)) (fun p1 p2 _ _ e=>Xs LS e) (p:=0) (OO.2 (by omega))).trans (MI 0 (by omega) (by decide))
  have r8:PM (r9 (.gen 0)) U9 (Ut (b.Uf p (l.take (q.i+1)))) [(.loc 8,.loc 23)] (.loc 8)= .loc 23:=(OE (by intro p' _;simp[r9];split<;>simp)).trans (by simp[dn]);refine⟨(g1.Yr fun p' BT=>II p' BT 8).Yr fun p' BT=>II p' BT 23,?_,?_,?_,by simp[dn],?_,by simp[dn,Lb.fresh,Lb.entry],?_⟩
  ·intro l' he hu;cases l' with
   |par k'=>
    by_cases h1:k'=1
    ·subst h1;right;right;rfl
    left;refine⟨k',OO.2 ?_,by simp[r9,h1]⟩;refine jc fun vy=>vy ?_;refine anf k' ?_;rw[aq _ _ (by simp),aq _ _ (by simp),g4 (.par k') ?_ (by simp[NC]),aq _ _ (by simp),aq _ _ (by simp)] at hu
    ·exact hu
    intro p' BT e;simp only[r9] at e;split at e<;>simp at e;subst e;exact vy ((OO (b:=b.Uf p (l.take q.i))).1 BT)
   |_=>simp[Lb.entry] at he
  ·simp[abA,k_,bJ,put,o9,r0,r8]
  ·intro z hz;simp only[Yf,aW] at hz;subst hz;simp[dn,ae,dy];rw[acd];simp[aB,xX]
  ·intro l' hl p' BT;simp only[aW] at hl;subst hl;simpa[dn] using II p' BT 23
  intro p' BT;refine⟨by simp[r9];split<;>simp[Lb.fresh],?_⟩;unfold r9;split
  ·simp[Lb.entry]
  rename_i h1;intro _;exact MI p' ((OO (b:=b.Uf p (l.take (q.i+1)))).1 BT) h1
 have he:q.i=l.length:=by simp at h;omega
 have E0:l.take q.i=l:=by rw[he];simp
 rw[E0] at a8 JV hB;have hs:H0 (.par 0)= .live ⟨3,[[.sl (.gen 0) 5 0 (b.Uf p l).nodes.length,.sl (.par 2) 1 0 b.fs.length,.sl (.par 3) 1 0 b.as.length]]⟩:=hB.s;have F2:H0 (.gen 0)= .live ⟨5,(b.Uf p l).nodes.mapIdx (NI b.n0 (r9 (.gen 0)))⟩:=hB.n;have hlp:p<b.nodes.length:=by omega
 have T8:(b.Uf p l).nodes[p]?=some x:=by simp only[Bn.Uf];rw[bB hlp];exact hx
 have hlen:p<(b.Uf p l).nodes.length:=(aI.1 T8).1;have h5:¬5+2*p=1:=by omega
 have K2:H0 (.par (5+2*p))= .live ⟨1,aB (x.kids.map xX)⟩:=by
  have:=hB.kd hp T8;simpa[r9,h5] using this
 have jY:((b.Uf p l).nodes.mapIdx (NI b.n0 (r9 (.gen 0))))[p]?=some [.bool x.text,.str x.s,.sl (.par (4+2*p)) 2 0 x.attrs.length,.int .i64 x.parent,.sl (.par (5+2*p)) 1 0 x.kids.length]:=by
  have:=hB.get T8;rw[show(b.Uf p l).n0=b.n0 from rfl,Va hp] at this;rw[this];have h4:¬4+2*p=1:=by omega
  simp[r9,h4,h5]
 have hkt:((mw b.nodes.length l).map xX).take q.i=(mw b.nodes.length l).map xX:=bo (by rw[ax,JV];omega);simp only[↓aX,mX,seval];refine⟨1,(mw b.nodes.length l).map xX,0,q.i,rfl,a8,by rw[ax,JV];omega,XD _,?_⟩;simp only[↓aX,mX,seval,hs,F2,cz,hlen,cj,a7,e8,dK,bM,jY,hkt];refine⟨rfl,?_⟩;have agZ:(mw b.nodes.length l).length=l.length:=VS _ _;have Tg:b.ins p pl l=(b.Uf p l).set p {x with kids:=x.kids.take pl++mw b.nodes.length l++x.kids.drop pl}:=by unfold Bn.ins;rw[hx]
 have aiA:∀k,r9 (.gen 0) k≠ .loc 8:=by intro p';simp[r9];split<;>simp
 have hB':Oi (r9 (.gen 0)) (b.Uf p l) (bD H0 (.loc 8) .dead):=hB.Yr fun p' _=>aiA p';have key:∀N:Lb,(N= .par (5+2*p)∨N= .gen 40)→∀H2:Hp,H2 (.gen 0)= .live ⟨5,((b.Uf p l).nodes.mapIdx (NI b.n0 (r9 (.gen 0)))).set p [.bool x.text,.str x.s,.sl (.par (4+2*p)) 2 0 x.attrs.length,.int .i64 x.parent,.sl N 1 0 (x.kids.take pl++mw b.nodes.length l++x.kids.drop pl).length]⟩ →
   H2 N= .live ⟨1,aB ((x.kids.take pl++mw b.nodes.length l++x.kids.drop pl).map xX)⟩→(∀q,q≠ .gen 0→q≠N→q≠ .par (5+2*p)→H2 q=bD H0 (.loc 8) .dead q) →
   ∃t:((Nat→Lb)→AV)×uR×(Nat→Lb),(t.1=(fun _=> .gf [])∧t.2.1=Ut (b.ins p pl l))∧(∀ρ,bJ ρ (t.1 t.2.2)=t.1 fun i=>ρ (t.2.2 i))∧(∀l∈(AV.gf []).an,∃p,t.2.1.ok p∧l=t.2.2 p)∧AV.gf []=t.1 t.2.2∧Ed t.2.2 t.2.1 H2∧∀p'∈b.acr 1 (5+2*p),t.2.2 p'= .par p':=by
  intro N hN H2 e1 e2 e3;refine⟨⟨fun _=> .gf [],Ut (b.ins p pl l),fun p'=>if p'=5+2*p then N else r9 (.gen 0) p'⟩,⟨rfl,rfl⟩,fun ρ=>by simp[bJ,bu],by simp[AV.an,ah],rfl,?_,?_⟩
  ·rw[Tg];have h4:¬4+2*p=1:=(by omega);refine Oi.afQ hB' hp T8 ?_ (by rw[show r9 (.gen 0) (4+2*p)= .par (4+2*p) by simp[r9,h4]];exact e1) e2 (fun q g1 g2 g3=>e3 q g1 g2 (by simpa[r9,h5] using g3));rcases hN with rfl|rfl
   ·left;simp[r9,h5]
   right;intro p' _;simp[r9];split<;>simp
  intro p' BT;obtain⟨_,q1,q2⟩:=ajq.1 BT;simp[q1,q2,r9]
 refine Bg (l:= .par (5+2*p)) (N:= .gen 40) (hI x.kids (mw b.nodes.length l) pl BS (by rw[agZ];exact UX)) rfl (by rw[aq _ _ (by simp)];exact K2) (by rw[aq _ _ (by simp)];exact ag) (by simp[Lb.fresh]) (by simp[Lb.iQ]) (by simp[Lb.iQ]) ?_ ?_
 ·simp only[↓aX,mX,seval,hs,F2,cz,hlen,cj,a7,e8,dK,bM,jY,ax];rw[lM];refine⟨[],rfl,key (.gen 40) (.inr rfl) _ (by simp[ae]) (by simp[ae]) ?_⟩;intro q g1 g2 g3;simp[ae,g1,g2,g3]
 simp only[↓aX,mX,seval,hs,F2,cz,hlen,cj,a7,e8,dK,bM,jY,ax];rw[lM];refine⟨[],rfl,key (.par (5+2*p)) (.inl rfl) _ (by simp[ae]) (by simp[ae]) ?_⟩;intro q g1 g2 g3;simp[ae,g1,g2,g3]
end

structure Op where
 kind:Int
 target:Int
 content:List Tree
 name:Bs
 s:Bs
def Op.cs (x:Op):List IV:=[.int .i64 x.kind,.int .i64 x.target,.list (dq x.content),.str x.name,.str x.s]
def Op.iv (x:Op):IV:= .agg x.cs
def Op.av (x:Op):AV:= .agg [.int .i64 x.kind,.int .i64 x.target,.list (dq x.content),.str x.name,.str x.s]
def Op.cJ (x:Op):x.iv.cells=x.cs:=rfl
def Ys (xs:List Op):jV 5 (xs.map Op.iv):=ZO Op.iv 5 (fun _=>rfl) xs
def YO (l:List Op) (i:Nat):(l.map Op.iv)[i]?=(l[i]?).map Op.iv:=cn ..
def Op.uy (x:Op):∀z∈x.cs,∀cs,z≠ .agg cs:=by
 intro z hz cs;simp only[Op.cs,bb,b5,b7] at hz;rcases hz with rfl|rfl|rfl|rfl|rfl<;>simp
def agu (xs:List Op):Flat (xs.map Op.iv):=YY _ (fun x=>x.uy) _
def WL (k:Int) (t:Bool):Int:=if k=3 then 2 else if k=4 then 2 else if k=6 then 3 else if k=7 then(if t then 1 else 4) else if k=5 then 5 else 1
def W7:AC:=
(aM [gH 4 0] (.seq (aM [MR 5 0] (.block 0 (.seq (aM [eY 7 .eql 5 3,MR 6 7] (.cond (.t 6) .skip (.cq [eY 8 .eql 5 4,MR 6 8]))) (.cond (.t 6) (aM [gH 4 2] .ret) (aM [eY 10 .eql 5 6,MR 9 10] (.cond (.t 9) (aM [gH 4 3] .ret) (aM [eY 12 .eql 5 7,MR 11 12] (.cond (.t 11) (aM [MR 13 1,sB 14 13] (.cond (.t 14) (aM [gH 4 4] .ret) .skip)) (aM [eY 16 .eql 5 5,MR 15 16] (.cond (.t 15) (aM [gH 4 5] .ret) .skip)))))))))) (aM [gH 4 1] .ret)))
def ag0 {P:Program} {G:Nat→Option (List IV)} {z':Nat} (hF:aw P G z'=some (17,[(none,4)],W7.bare)) (k:Int) (t:Bool):au P G z' [.int .i64 k,.bool t] (.int .i64 (WL k t)):=by
 refine aR hF (by simp) (by simp[ah,AV.an]) (by simp[AV.an]) ?_;unfold W7;by_cases h3:k=3
 ·subst h3;simp only[↓aX,mX,seval,Int.reduceBEq];rfl
 by_cases h4:k=4
 ·subst h4;simp only[↓aX,mX,seval,Int.reduceBEq];rfl
 by_cases h6:k=6
 ·subst h6;simp only[↓aX,mX,seval,Int.reduceBEq];rfl
 by_cases h7:k=7
 ·subst h7;cases t
  ·simp only[↓aX,mX,seval,Int.reduceBEq,bx];rfl
  simp only[↓aX,mX,seval,Int.reduceBEq,bG];rfl
 by_cases h5:k=5
 ·subst h5;simp only[↓aX,mX,seval,Int.reduceBEq];rfl
 simp only[↓aX,mX,seval,cA.2 h3,cA.2 h4,cA.2 h6,cA.2 h7,cA.2 h5];simp only[WL,h3,h4,h5,h6,h7,fH]
def Tl (k:Int):Bool:=k==9||k==10
def eO (a b:Op):Bool:=a.target==b.target&&((Tl a.kind&&Tl b.kind&&a.name==b.name)||(a.kind==b.kind&&decide (6≤a.kind)&&decide (a.kind≤8)))
def WA:AC:=
(aM [sC 2 0,sC 3 1,jM 4 false] (.seq (aM [ep 6 2 1,fm 7 6,ep 8 3 1,fm 9 8,et 10 .neq 7 9] (.cond (.t 10) (aM [jM 4 false] .ret) .skip)) (aM [ep 11 2 0,fm 12 11,eY 13 .eql 12 9,MR 14 13,oH 15 14 2 0,oG 16 14 15,iR 17 14 (.bin .eql (.t 16) (jS 10)),sj 18 14 17,MR 19 18,Wb 20 19 3 0,jm 21 19 20,dW 22 19 (.bin .eql (.t 21) (jS 9)),cU 23 19 22,oH 24 23 3 0,oG 25 23 24,iR 26 23 (.bin .eql (.t 25) (jS 10)),dW 27 19 (.pick (.t 23) (me true) (.t 26)),jT 28 19 27,MR 5 28] (aM [MR 29 5,MR 30 29,Wb 31 30 2 3,jm 32 30 31,Wb 33 30 3 3,jm 34 30 33,dW 35 30 (.bin .eql (.t 32) (.t 34)),jT 36 30 35,MR 37 36,oH 38 37 2 0,oG 39 37 38,oH 40 37 3 0,oG 41 37 40,iR 42 37 (.bin .eql (.t 39) (.t 41)),gV 43 37 42,Wb 44 43 2 0,jm 45 43 44,dW 46 43 (.bin .geq (.t 45) (jS 6)),iR 47 37 (.pick (.t 43) (.t 46) (me false)),gV 48 37 47,Wb 49 48 2 0,jm 50 48 49,dW 51 48 (.bin .leq (.t 50) (jS 8)),iR 52 37 (.pick (.t 48) (.t 51) (me false)),sj 53 37 52,MR 4 53] .ret))))
set_option maxHeartbeats 1600000 in
def abB {P:Program} {G:Nat→Option (List IV)} {th:Nat} (hF:aw P G th=some (54,[(none,4)],WA.bare)) (a b:Op):au P G th [a.av,b.av] (.bool (eO a b)):=by
 refine aR hF (by simp) (by simp[ah,AV.an,Op.av]) (by simp[AV.an]) ?_;unfold WA;simp only[↓aX,mX,seval,Op.av,List.length_cons,List.length_nil];clear hF;cases h0:(a.target !=b.target)
 case false=>
  simp only[↓aX,mX,seval,h0,ge_iff_le,Bool.not_true,Bool.not_false,List.length_cons,List.length_nil];cases h1:(a.kind==9)
  case false=>
   simp only[↓aX,mX,seval,h0,h1,ge_iff_le,Bool.not_true,Bool.not_false,List.length_cons,List.length_nil];cases h2:(a.kind==10)
   case false=>
    simp only[↓aX,mX,seval,h0,h1,h2,ge_iff_le,Bool.not_true,Bool.not_false,List.length_cons,List.length_nil];cases h6:(a.kind==b.kind)
    case false=>
     simp only[↓aX,mX,seval,h0,h1,h2,h6,ge_iff_le,Bool.not_true,Bool.not_false,List.length_cons,List.length_nil]
     first|(simp_all[eO,Tl];done)|(simp_all[eO,Tl];omega)
    case true=>
     simp only[↓aX,mX,seval,h0,h1,h2,h6,ge_iff_le,Bool.not_true,Bool.not_false,List.length_cons,List.length_nil];cases h7:decide (6≤a.kind)
     case false=>
      simp only[↓aX,mX,seval,h0,h1,h2,h6,h7,ge_iff_le,Bool.not_true,Bool.not_false,List.length_cons,List.length_nil]
      first|(simp_all[eO,Tl];done)|(simp_all[eO,Tl];omega)
     case true=>
      simp only[↓aX,mX,seval,h0,h1,h2,h6,h7,ge_iff_le,Bool.not_true,Bool.not_false,List.length_cons,List.length_nil]
      first|(simp_all[eO,Tl];done)|(simp_all[eO,Tl];omega)
   case true=>
    simp only[↓aX,mX,seval,h0,h1,h2,ge_iff_le,Bool.not_true,Bool.not_false,List.length_cons,List.length_nil];cases h3:(b.kind==9)
    case false=>
     simp only[↓aX,mX,seval,h0,h1,h2,h3,ge_iff_le,Bool.not_true,Bool.not_false,List.length_cons,List.length_nil];cases h4:(b.kind==10)
     case false=>
      simp only[↓aX,mX,seval,h0,h1,h2,h3,h4,ge_iff_le,Bool.not_true,Bool.not_false,List.length_cons,List.length_nil];cases h6:(a.kind==b.kind)
      case false=>
       simp only[↓aX,mX,seval,h0,h1,h2,h3,h4,h6,ge_iff_le,Bool.not_true,Bool.not_false,List.length_cons,List.length_nil]
       first|(simp_all[eO,Tl];done)|(simp_all[eO,Tl];omega)
      case true=>
       simp only[↓aX,mX,seval,h0,h1,h2,h3,h4,h6,ge_iff_le,Bool.not_true,Bool.not_false,List.length_cons,List.length_nil];cases h7:decide (6≤a.kind)
       case false=>
        simp only[↓aX,mX,seval,h0,h1,h2,h3,h4,h6,h7,ge_iff_le,Bool.not_true,Bool.not_false,List.length_cons,List.length_nil]
        first|(simp_all[eO,Tl];done)|(simp_all[eO,Tl];omega)
       case true=>
        simp only[↓aX,mX,seval,h0,h1,h2,h3,h4,h6,h7,ge_iff_le,Bool.not_true,Bool.not_false,List.length_cons,List.length_nil]
        first|(simp_all[eO,Tl];done)|(simp_all[eO,Tl];omega)
     case true=>
      simp only[↓aX,mX,seval,h0,h1,h2,h3,h4,ge_iff_le,Bool.not_true,Bool.not_false,List.length_cons,List.length_nil];cases h5:(a.name==b.name)
      case false=>
       simp only[↓aX,mX,seval,h0,h1,h2,h3,h4,h5,ge_iff_le,Bool.not_true,Bool.not_false,List.length_cons,List.length_nil];cases h6:(a.kind==b.kind)
       case false=>
        simp only[↓aX,mX,seval,h0,h1,h2,h3,h4,h5,h6,ge_iff_le,Bool.not_true,Bool.not_false,List.length_cons,List.length_nil]
        first|(simp_all[eO,Tl];done)|(simp_all[eO,Tl];omega)
       case true=>
        simp only[↓aX,mX,seval,h0,h1,h2,h3,h4,h5,h6,ge_iff_le,Bool.not_true,Bool.not_false,List.length_cons,List.length_nil];cases h7:decide (6≤a.kind)
        case false=>
         simp only[↓aX,mX,seval,h0,h1,h2,h3,h4,h5,h6,h7,ge_iff_le,Bool.not_true,Bool.not_false,List.length_cons,List.length_nil]
         first|(simp_all[eO,Tl];done)|(simp_all[eO,Tl];omega)
        case true=>
         simp only[↓aX,mX,seval,h0,h1,h2,h3,h4,h5,h6,h7,ge_iff_le,Bool.not_true,Bool.not_false,List.length_cons,List.length_nil]
         first|(simp_all[eO,Tl];done)|(simp_all[eO,Tl];omega)
      case true=>
       simp only[↓aX,mX,seval,h0,h1,h2,h3,h4,h5,ge_iff_le,Bool.not_true,Bool.not_false,List.length_cons,List.length_nil]
       first|(simp_all[eO,Tl];done)|(simp_all[eO,Tl];omega)
    case true=>
     simp only[↓aX,mX,seval,h0,h1,h2,h3,ge_iff_le,Bool.not_true,Bool.not_false,List.length_cons,List.length_nil];cases h5:(a.name==b.name)
     case false=>
      simp only[↓aX,mX,seval,h0,h1,h2,h3,h5,ge_iff_le,Bool.not_true,Bool.not_false,List.length_cons,List.length_nil];cases h6:(a.kind==b.kind)
      case false=>
       simp only[↓aX,mX,seval,h0,h1,h2,h3,h5,h6,ge_iff_le,Bool.not_true,Bool.not_false,List.length_cons,List.length_nil]
       first|(simp_all[eO,Tl];done)|(simp_all[eO,Tl];omega)
      case true=>
       simp only[↓aX,mX,seval,h0,h1,h2,h3,h5,h6,ge_iff_le,Bool.not_true,Bool.not_false,List.length_cons,List.length_nil];cases h7:decide (6≤a.kind)
       case false=>
        simp only[↓aX,mX,seval,h0,h1,h2,h3,h5,h6,h7,ge_iff_le,Bool.not_true,Bool.not_false,List.length_cons,List.length_nil]
        first|(simp_all[eO,Tl];done)|(simp_all[eO,Tl];omega)
       case true=>
        simp only[↓aX,mX,seval,h0,h1,h2,h3,h5,h6,h7,ge_iff_le,Bool.not_true,Bool.not_false,List.length_cons,List.length_nil]
        first|(simp_all[eO,Tl];done)|(simp_all[eO,Tl];omega)
     case true=>
      simp only[↓aX,mX,seval,h0,h1,h2,h3,h5,ge_iff_le,Bool.not_true,Bool.not_false,List.length_cons,List.length_nil]
      first|(simp_all[eO,Tl];done)|(simp_all[eO,Tl];omega)
  case true=>
   simp only[↓aX,mX,seval,h0,h1,ge_iff_le,Bool.not_true,Bool.not_false,List.length_cons,List.length_nil];cases h3:(b.kind==9)
   case false=>
    simp only[↓aX,mX,seval,h0,h1,h3,ge_iff_le,Bool.not_true,Bool.not_false,List.length_cons,List.length_nil];cases h4:(b.kind==10)
    case false=>
     simp only[↓aX,mX,seval,h0,h1,h3,h4,ge_iff_le,Bool.not_true,Bool.not_false,List.length_cons,List.length_nil];cases h6:(a.kind==b.kind)
     case false=>
      simp only[↓aX,mX,seval,h0,h1,h3,h4,h6,ge_iff_le,Bool.not_true,Bool.not_false,List.length_cons,List.length_nil]
      first|(simp_all[eO,Tl];done)|(simp_all[eO,Tl];omega)
     case true=>
      simp only[↓aX,mX,seval,h0,h1,h3,h4,h6,ge_iff_le,Bool.not_true,Bool.not_false,List.length_cons,List.length_nil];cases h7:decide (6≤a.kind)
      case false=>
       simp only[↓aX,mX,seval,h0,h1,h3,h4,h6,h7,ge_iff_le,Bool.not_true,Bool.not_false,List.length_cons,List.length_nil]
       first|(simp_all[eO,Tl];done)|(simp_all[eO,Tl];omega)
      case true=>
       simp only[↓aX,mX,seval,h0,h1,h3,h4,h6,h7,ge_iff_le,Bool.not_true,Bool.not_false,List.length_cons,List.length_nil]
       first|(simp_all[eO,Tl];done)|(simp_all[eO,Tl];omega)
    case true=>
     simp only[↓aX,mX,seval,h0,h1,h3,h4,ge_iff_le,Bool.not_true,Bool.not_false,List.length_cons,List.length_nil];cases h5:(a.name==b.name)
     case false=>
      simp only[↓aX,mX,seval,h0,h1,h3,h4,h5,ge_iff_le,Bool.not_true,Bool.not_false,List.length_cons,List.length_nil];cases h6:(a.kind==b.kind)
      case false=>
       simp only[↓aX,mX,seval,h0,h1,h3,h4,h5,h6,ge_iff_le,Bool.not_true,Bool.not_false,List.length_cons,List.length_nil]
       first|(simp_all[eO,Tl];done)|(simp_all[eO,Tl];omega)
      case true=>
       simp only[↓aX,mX,seval,h0,h1,h3,h4,h5,h6,ge_iff_le,Bool.not_true,Bool.not_false,List.length_cons,List.length_nil];cases h7:decide (6≤a.kind)
       case false=>
        simp only[↓aX,mX,seval,h0,h1,h3,h4,h5,h6,h7,ge_iff_le,Bool.not_true,Bool.not_false,List.length_cons,List.length_nil]
        first|(simp_all[eO,Tl];done)|(simp_all[eO,Tl];omega)
       case true=>
        simp only[↓aX,mX,seval,h0,h1,h3,h4,h5,h6,h7,ge_iff_le,Bool.not_true,Bool.not_false,List.length_cons,List.length_nil]
        first|(simp_all[eO,Tl];done)|(simp_all[eO,Tl];omega)
     case true=>
      simp only[↓aX,mX,seval,h0,h1,h3,h4,h5,ge_iff_le,Bool.not_true,Bool.not_false,List.length_cons,List.length_nil]
      first|(simp_all[eO,Tl];done)|(simp_all[eO,Tl];omega)
   case true=>
    simp only[↓aX,mX,seval,h0,h1,h3,ge_iff_le,Bool.not_true,Bool.not_false,List.length_cons,List.length_nil];cases h5:(a.name==b.name)
    case false=>
     simp only[↓aX,mX,seval,h0,h1,h3,h5,ge_iff_le,Bool.not_true,Bool.not_false,List.length_cons,List.length_nil];cases h6:(a.kind==b.kind)
     case false=>
      simp only[↓aX,mX,seval,h0,h1,h3,h5,h6,ge_iff_le,Bool.not_true,Bool.not_false,List.length_cons,List.length_nil]
      first|(simp_all[eO,Tl];done)|(simp_all[eO,Tl];omega)
     case true=>
      simp only[↓aX,mX,seval,h0,h1,h3,h5,h6,ge_iff_le,Bool.not_true,Bool.not_false,List.length_cons,List.length_nil];cases h7:decide (6≤a.kind)
      case false=>
       simp only[↓aX,mX,seval,h0,h1,h3,h5,h6,h7,ge_iff_le,Bool.not_true,Bool.not_false,List.length_cons,List.length_nil]
       first|(simp_all[eO,Tl];done)|(simp_all[eO,Tl];omega)
      case true=>
       simp only[↓aX,mX,seval,h0,h1,h3,h5,h6,h7,ge_iff_le,Bool.not_true,Bool.not_false,List.length_cons,List.length_nil]
       first|(simp_all[eO,Tl];done)|(simp_all[eO,Tl];omega)
    case true=>
     simp only[↓aX,mX,seval,h0,h1,h3,h5,ge_iff_le,Bool.not_true,Bool.not_false,List.length_cons,List.length_nil]
     first|(simp_all[eO,Tl];done)|(simp_all[eO,Tl];omega)
 case true=>
  simp only[↓aX,mX,seval,h0,ge_iff_le,Bool.not_true,Bool.not_false,List.length_cons,List.length_nil]
  first|(simp_all[eO,Tl];done)|(simp_all[eO,Tl];omega)
end Go.Am
