import Derived.Test.YtfeijflhfhkbnaaGreatDoorKAc0S
import Derived.Test.YtfeijflhfhkbnaaGreatDoorKT9S
import Derived.Test.YtfeijflhfhkbnaaGreatDoorKAm20S
set_option linter.all false
/- Letters: sets of bytes; a string cut at both ends. -/
namespace Go.Am
open Go Go.RowKit
def Mg:AV->Nat->Option Nat
 | .int _ v,mx=>if 0<=v/\v.toNat<=mx then some v.toNat else none
 |_,_=>none
def Pu (env:Env) (d mx:Nat):iz env none d mx=some d:=rfl
def Pv (env:Env) (x:O) (d mx:Nat):iz env (some x) d mx=Mg (ev env x) mx:=by
 simp only[iz];generalize ev env x=v;cases v<;>rfl
def zS (k:IntKind) (n mx:Nat) (h:n<=mx):Mg (.int k (n:Int)) mx=some n:=by simp[Mg,h]
def fZ (f:Nat->Bool):List AV:=(List.range 256).map λi=> .bool (f i)
def bh (f:Nat->Bool):(fZ f).length=256:=by simp[fZ]
def vj (f:Nat->Bool) (i:Nat) (h:i<256):(fZ f)[i]?=some (.bool (f i)):=by simp[fZ,List.getElem?_range h]
def iF (f:Nat->Bool):ai (fZ f)=[]:=by
 have:∀l:List Nat,ai (l.map λi=>AV.bool (f i))=[]:=by
  intro l;induction l with
  |nil=>rfl
  |cons a r ih=>simp[ai,AV.aq,ih]
 exact this _
def yR:List.replicate 256 (AV.bool false)=fZ (λ_=>false):=by
 apply agV;intro i;by_cases h:i<256
 ·rw[vj _ _ h,ahW,agc h]
 rw[agK (by rw[aiN];omega),agK (by rw[bh];omega)]
def Pw (f:Nat->Bool) (j:Nat):(fZ f).set j (.bool true)=fZ (λk=>k==j||f k):=by
 apply agV;intro i;by_cases h:i<256
 ·rw[vj _ _ h,ah8];by_cases e:j=i
  ·subst e;rw[agc rfl,agc (by rw[bh];exact h)];simp
  rw[af8 e,vj _ _ h];have:(i==j)=false:=by simpa using agQ e
  rw[this];simp
 rw[agK (by rw[aiU,bh];omega),agK (by rw[bh];omega)]
def Px (f:Nat->Bool) (j:Nat) (h:j<256):(fZ f).take j++[.bool true]++(fZ f).drop (j+1)=fZ (λk=>k==j||f k):=by
 rw[<-Pw,List.set_eq_take_append_cons_drop,agc (by rw[bh];exact h)];simp
def rQ (f:Nat->Bool):(fZ f).take 256=fZ f:=af2 (by rw[bh];exact af6 _)
def rR (f:Nat->Bool):(fZ f).drop 256=[]:=aio (by rw[bh];exact af6 _)
def vk (f:Nat->Bool):(fZ f).all AV.one=true:=by
 rw[agJ];intro x hx;obtain⟨i,_,rfl⟩:=agp.1 hx;rfl
def eS (s:Bs) (k:Nat):Bool:=s.any λc=>k==c.toNat
def xP {α:Type} {l:List α} {i:Nat} {x:α} (h:l[i]?=some x):l.take (i+1)=l.take i++[x]:=by rw[agz,h];rfl
def Mh (s:Bs) (c:UInt8):eS (s++[c])=λk=>k==c.toNat||eS s k:=by
 funext k;simp[eS,Bool.or_comm]
set_option maxRecDepth 100000 in
def qP {P:Program} {G:Nat->Option (List IV)} [KN P G] (s:Bs) (hs:s.length<=B) (ad9:∀c∈s,c.toNat<128) :
  aj P G 140 [.str s] (.bq [.agg (fZ (eS s)),.bool true]):=by
 refine au (cw 140 []) ajL ajO (by simp[AV.aq,ai,iF]) ?_;simp only[↓aX,mX,reduceCtorEq,Int.reduceLT,Nat.reduceEqDiff,Int.reduceLE,Nat.reduceLT,Nat.reduceLeDiff,Nat.reduceAdd,Nat.reduceMul,Int.reduceToNat,yR,bh];refine b_ (σ:={i:Nat // i<=s.length}) [.loc 2] (λq=>[(0,.str s),(2,.ptr (.loc 2) 256 0 0),(4,.int .i64 q.1)]) (λq=>[(.loc 2,⟨256,[fZ (eS (s.take q.1))]⟩)]) (λq=>s.length - q.1) ⟨0,Nat.zero_le _⟩
  (λ_=>rfl) ajN ajO (λq r hr cs aZ l hl=>by
   simp only[List.mem_singleton] at hr;subst hr;simp only[List.mem_singleton] at aZ;subst aZ;rw[iF] at hl;simp at hl) ?_ ?_
 ·exact eu ak1 ajT ⟨rfl,trivial⟩
 rintro⟨i,hi⟩;simp only[↓aX,mX,seval,aR,aI,bh];by_cases aF:i<s.length
 ·rw[dT aF];obtain⟨c,hc⟩:=gE aF;have hw:=w1 i alm;have yA:=ad9 c (List.mem_of_getElem? hc);simp only[↓aX,mX,seval,hc,show decide (((c.toNat:Nat):Int)>=128)=false by simp;omega,bh,hw];simp only[↓aX,mX,seval,if_pos (show c.toNat<256 by omega),if_pos (show c.toNat<=255 by omega),Px _ _ (show c.toNat<256 by omega),bh,hw];refine⟨⟨i+1,aF⟩,ajM,eu ak1 ajT ⟨?_,trivial⟩⟩;rw[xP hc,Mh];rfl
 have je:i=s.length:=ajK
 subst je;rw[show decide ((s.length:Int)<(s.length:Int))=false by simp];simp only[↓aX,mX,seval,List.take_length,bh,rQ,rR,vk,List.append_nil,cS]
def kS {P:Program} {G:Nat->Option (List IV)} [KN P G] (f:Nat->Bool) (c:UInt8) :
  cM P G 177 [.ptr (.par 0) 256 0 0,.int .u8 (c.toNat:Int)] (fZ f) λx cs=>x= .bool (f c.toNat)/\cs=fZ f:=by
 refine dk (cw 177 []) ajL ajO (iF f) ?_;have hc:c.toNat<256:=c.toNat_lt;simp only[↓aX,mX,seval,jK,bh,agc hc,vj f _ hc];exact⟨_,rfl,rfl,iF f,bh f,rfl⟩
def eM (f:Nat->Bool) (s:Bs):Bs:=s.dropWhile λc=>f c.toNat
def gf (f:Nat->Bool) (s:Bs):Bs:=(eM f s.reverse).reverse
def Cr {f:Nat->Bool} {q:Lb×Row} (hr:q∈[((.par 0:Lb),(⟨256,[fZ f]⟩:Row))]) {ls:List Lb}:∀cs∈q.2.els,∀l∈ai cs,l∈ls:=by
 intro cs aZ l hl;simp only[af'] at hr;subst hr;simp only[af'] at aZ;subst aZ;rw[iF] at hl;simp at hl
def rS {P:Program} {G:Nat->Option (List IV)} [KN P G] (f:Nat->Bool) (s:Bs) (hs:s.length<=B)
  (hC:∀c:UInt8,cM P G 177 [.ptr (.par 0) 256 0 0,.int .u8 (c.toNat:Int)] (fZ f) λx cs=>x= .bool (f c.toNat)/\cs=fZ f) :
  cM P G 175 [.str s,.ptr (.par 0) 256 0 0] (fZ f) λx cs=>x= .str (eM f s)/\cs=fZ f:=by
 refine dk (cw 175 []) ajL ajO (iF f) ?_;simp only[↓aX,mX,seval,jK,bh];refine b_ (σ:={t:Bs // t.length<=B/\eM f t=eM f s}) [.par 0] (λt=>[(0,.str t.1),(1,.ptr (.par 0) 256 0 0)]) (λ_=>[(.par 0,⟨256,[fZ f]⟩)]) (λt=>t.1.length) ⟨s,hs,rfl⟩
  (λ_=>rfl) ajN ajO (λ_ q hr=>Cr hr) ?_ ?_
 ·refine eu ?_ ajT ⟨rfl,trivial⟩;intro l hl hu;by_cases e:l= .par 0
  ·subst e;simp
  exact Dq
 rintro⟨t,ht,fG⟩;cases t with
 |nil=>
  simp only[↓aX,mX,reduceCtorEq,Int.reduceLT,Nat.reduceEqDiff,Int.reduceLE,Nat.reduceLT,Nat.reduceLeDiff,Nat.reduceAdd,Nat.reduceMul,Int.reduceToNat,aR,aI,agx,show decide (((0:Nat):Int)>0)=false from rfl];rw[<-fG];exact⟨_,⟨rfl,rfl⟩,rfl,iF f,bh f,rfl⟩
 |cons c r=>
 have hg:decide (((r.length+1:Nat):Int)>0)=true:=by rw[agv];omega
 have hi0:(c::r)[0]?=some c:=rfl;simp only[↓aX,mX,seval,aR,aI,agd,hg,hi0];refine ba (l:= .par 0) (hC c) rfl akT ?_;rintro x1 fB ⟨rfl,rfl⟩ _ _ _;simp only[↓aX,mX,seval,bh];cases hf:f c.toNat with
 |false=>
  have:eM f s=c::r:=by rw[<-fG];simp[eM,hf]
  simp only[↓aX,mX,seval,af1,this];exact⟨_,rfl,rfl,iF f,bh f,by rw[bh]⟩
 |true=>
 have h2:eM f r=eM f s:=by rw[<-fG];simp[eM,hf]
 have hb:Mg (.int .i64 1) (r.length+1)=some 1:=zS .i64 1 _ ajK;have ig:(c::r).take (r.length+1)=c::r:=af2 ajL;simp only[↓aX,mX,seval,af4,bh,agd,Pu,Pv,hb,ig,af_,af9,ag_,agj];refine⟨⟨r,by rw[agd] at ht;omega,h2⟩,by simp only[agd];omega,eu ?_ ajT ⟨rfl,trivial⟩⟩;intro l hl hu;by_cases e:l= .par 0
 ·subst e;simp
 exact Dq
def zT (f:Nat->Bool) (t:Bs) (c:UInt8):gf f (t++[c])=if f c.toNat=true then gf f t else t++[c]:=by
 unfold gf eM;rw[List.reverse_append];simp only[List.reverse_cons,List.reverse_nil,List.nil_append,ahE,ahX];split<;>simp
def tG {P:Program} {G:Nat->Option (List IV)} [KN P G] (f:Nat->Bool) (s:Bs) (hs:s.length<=B)
  (hC:∀c:UInt8,cM P G 177 [.ptr (.par 0) 256 0 0,.int .u8 (c.toNat:Int)] (fZ f) λx cs=>x= .bool (f c.toNat)/\cs=fZ f) :
  cM P G 141 [.str s,.ptr (.par 0) 256 0 0] (fZ f) λx cs=>x= .str (gf f s)/\cs=fZ f:=by
 refine dk (cw 141 []) ajL ajO (iF f) ?_;simp only[↓aX,mX,seval,jK,bh];refine b_ (σ:={n:Nat // n<=s.length/\gf f (s.take n)=gf f s}) [.par 0] (λn=>[(0,.str (s.take n.1)),(1,.ptr (.par 0) 256 0 0)]) (λ_=>[(.par 0,⟨256,[fZ f]⟩)]) (λn=>n.1) ⟨s.length,af6 _,by rw[agu]⟩
  (λ_=>rfl) ajN ajO (λ_ q hr=>Cr hr) ?_ ?_
 ·refine eu ?_ ⟨by rw[agu];rfl,rfl,trivial⟩ ⟨rfl,trivial⟩;intro l hl hu;by_cases e:l= .par 0
  ·subst e;simp
  exact Dq
 rintro⟨n,hn,fG⟩;have NU:(s.take n).length=n:=ali
 cases n with
 |zero=>
  simp only[↓aX,mX,reduceCtorEq,Int.reduceLT,Nat.reduceEqDiff,Int.reduceLE,Nat.reduceLT,Nat.reduceLeDiff,Nat.reduceAdd,Nat.reduceMul,Int.reduceToNat,aR,aI,NU,show decide (((0:Nat):Int)>0)=false from rfl];rw[<-fG];exact⟨_,⟨rfl,rfl⟩,rfl,iF f,bh f,rfl⟩
 |succ n=>
 obtain⟨c,hc⟩:∃c,s[n]?=some c:=⟨_,af7 ajK⟩;have hg:decide (((n+1:Nat):Int)>0)=true:=by rw[agv];omega
 have hw:IntKind.i64.wrap (((n+1:Nat):Int) - 1)=(n:Int):=by rw[wrap64 ajK alm];omega
 have hcn:(s.take (n+1))[n]?=some c:=by rw[agG,agc ajK];exact hc
 have za:s.take (n+1)=s.take n++[c]:=xP hc;simp only[↓aX,mX,seval,aR,aI,NU,hg,hw,hcn];refine ba (l:= .par 0) (hC c) rfl akT ?_;rintro x1 fB ⟨rfl,rfl⟩ _ _ _;simp only[↓aX,mX,seval,bh];cases hf:f c.toNat with
 |false=>
  have:gf f s=s.take (n+1):=by rw[<-fG,za,zT,af8 (by rw[hf];simp)]
  simp only[↓aX,mX,seval,af1,this];exact⟨_,rfl,rfl,iF f,bh f,by rw[bh]⟩
 |true=>
 have h2:gf f (s.take n)=gf f s:=by rw[<-fG,za,zT,agc hf]
 have hb:Mg (.int .i64 (n:Int)) (n+1)=some n:=zS .i64 n _ ajK;have ig:(s.take (n+1)).take n=s.take n:=by rw[List.take_take,ahK (Nat.le_succ n)]
 simp only[↓aX,mX,seval,af4,bh,NU,hw,Pu,Pv,hb,ig,af_,af9,agj];refine⟨⟨n,ajK,h2⟩,ajM,eu ?_ ajT ⟨rfl,trivial⟩⟩;intro l hl hu;by_cases e:l= .par 0
 ·subst e;simp
 exact Dq

def Kp (f:Nat->Bool) (s:Bs):(gf f s).length<=s.length:=by
 unfold gf eM;rw[ajy];have:=(ag8 (l:=s.reverse) (λc=>f c.toNat)).length_le
 rwa[ajy] at this
set_option maxRecDepth 100000 in
def VE {P:Program} {G:Nat->Option (List IV)} [KN P G] (s t:Bs) (hs:s.length<=B) (ht:2<=t.length)
  (hM:aj P G 140 [.str t] (.bq [.agg (fZ (eS t)),.bool true]))
  (hR:cM P G 141 [.str s,.ptr (.par 0) 256 0 0] (fZ (eS t)) λx cs=>x= .str (gf (eS t) s)/\cs=fZ (eS t))
  (hL:cM P G 175 [.str (gf (eS t) s),.ptr (.par 0) 256 0 0] (fZ (eS t)) λx cs=>x= .str (eM (eS t) (gf (eS t) s))/\cs=fZ (eS t)) :
  aj P G 138 [.str s,.str t] (.str (eM (eS t) (gf (eS t) s))):=by
 refine au (cw 138 []) ajL ajO ajP ?_;simp only[↓aX,mX,reduceCtorEq,Int.reduceLT,Nat.reduceEqDiff,Int.reduceLE,Nat.reduceLT,Nat.reduceLeDiff,Nat.reduceAdd,Nat.reduceMul,Int.reduceToNat];have e1:(t==[])=false:=ane
 have e2:(((t.length:Nat):Int)==1)=false:=alO
 cases R0:(s==[]) with
 |true=>
  have:s=[]:=anV
  subst this;simp only[↓aX,mX,seval];rfl
 |false=>
 simp only[↓aX,mX,reduceCtorEq,Int.reduceLT,Nat.reduceEqDiff,Int.reduceLE,Nat.reduceLT,Nat.reduceLeDiff,Nat.reduceAdd,Nat.reduceMul,Int.reduceToNat,e1,e2];refine ah hM ?_;simp only[↓aX,mX,reduceCtorEq,Int.reduceLT,Nat.reduceEqDiff,Int.reduceLE,Nat.reduceLT,Nat.reduceLeDiff,Nat.reduceAdd,Nat.reduceMul,Int.reduceToNat,List.length_replicate,yR,bh,rQ,rR,vk,List.append_nil];refine ba (l:= .loc 5) hR rfl akT ?_;rintro x1 fB ⟨rfl,rfl⟩ _ _ _;simp only[↓aX,mX,reduceCtorEq,Int.reduceLT,Nat.reduceEqDiff,Int.reduceLE,Nat.reduceLT,Nat.reduceLeDiff,Nat.reduceAdd,Nat.reduceMul,Int.reduceToNat,bh,List.length_replicate];refine ba (l:= .loc 5) hL rfl akT ?_;rintro x1 fB ⟨rfl,rfl⟩ _ _ _;simp only[↓aX,mX,reduceCtorEq,Int.reduceLT,Nat.reduceEqDiff,Int.reduceLE,Nat.reduceLT,Nat.reduceLeDiff,Nat.reduceAdd,Nat.reduceMul,Int.reduceToNat,bh]
theorem rT (f:Nat->Bool):∀s:Bs,eM f s=[]↔s.all (λc=>f c.toNat)=true
 |[]=>by simp[eM]
 |c::r=>by
  have ih:=rT f r;unfold eM at ih ⊢;rw[ahX,ai9];cases h:f c.toNat with
  |true=>rw[agc rfl,ih];simp
  |false=>simp
def Py (f:Nat->Bool) (s:Bs):eM f (gf f s)=[]↔s.all (λc=>f c.toNat)=true:=by
 constructor
 ·intro h;cases bV:s.all (λc=>f c.toNat) with
  |true=>rfl
  |false=>
  have h1:∃x,x∈eM f s.reverse/\f x.toNat=false:=by
   have:(s.reverse).all (λc=>f c.toNat)=false:=(by rw[aiM];exact bV);have cf:eM f s.reverse≠[]:=λe=>(by rw[(rT f _).1 e] at this;cases this);unfold eM at cf ⊢;cases hd:(s.reverse.dropWhile λc=>f c.toNat) with
   |nil=>exact absurd hd cf
   |cons x r=>
   refine⟨x,ajL,?_⟩;have:=List.head?_dropWhile_not (p:=λc:UInt8=>f c.toNat) (l:=s.reverse);rw[hd] at this;simpa using this
  obtain⟨x,hx,hfx⟩:=h1;have h2:=(rT f _).1 h;have h3:=agJ.1 h2 x (by unfold gf;simpa using hx);rw[hfx] at h3;cases h3
 intro h;have:eM f s.reverse=[]:=(rT f _).2 (by rw[aiM];exact h);unfold gf;rw[this];rfl
def cV:Bs:=[97,98,99,100,101,102,103,104,105,106,107,108,109,110,111,112,113,114,115,116,117,118,119,120,121,122]
def Mi (c:UInt8):eS cV c.toNat=mh c:=by
 have:∀n:Fin 256,eS cV (UInt8.ofNat n.val).toNat=mh (UInt8.ofNat n.val):=aj7
 have h:=this ⟨c.toNat,c.toNat_lt⟩;simpa using h
def Pz (s:Bs):named s=(decide (s≠[])&&(decide (((s.length:Nat):Int)<=8)&&(eM (eS cV) (gf (eS cV) s)==[]))):=by
 have h1:(s.all λc=>eS cV c.toNat)=s.all mh:=by congr 1;funext c;exact Mi c
 have h2:(eM (eS cV) (gf (eS cV) s)==[])=s.all mh:=by
  rw[<-h1,agP,ag9];exact Py _ s
 have h3:decide ((s.length:Int)>=1)=decide (s≠[]):=by
  rw[aiy];cases s with
  |nil=>simp
  |cons c r=>simp;omega
 rw[h2,named,h3];cases decide (s≠[])<;>cases s.all mh<;>simp
def Tq {P:Program} {G:Nat->Option (List IV)} [KN P G] (s:Bs)
  (hT:aj P G 138 [.str s,.str cV] (.str (eM (eS cV) (gf (eS cV) s)))):aj P G 97 [.str s] (.bool (named s)):=by
 refine au (cw 97 []) ajL ajO ajP ?_;rw[Pz];simp only[↓aX,mX,seval];cases h1:(s==[]) with
 |true=>
  have Ep:s=[]:=aj8
  simp only[↓aX,mX,seval,af4,Ep];rfl
 |false=>
 have Ep:s≠[]:=aj8
 simp only[↓aX,mX,seval,af1];cases h2:decide (((s.length:Nat):Int)<=8) with
 |false=>simp only[↓aX,mX,seval,ahQ Ep,ag7,aha]
 |true=>
 simp only[↓aX,mX,seval];refine ah hT ?_;simp only[↓aX,mX,seval,ahQ Ep,ag7]

def FD {P:Program} {G:Nat->Option (List IV)} [KN P G] (c:UInt8):aj P G 98 [.int .u8 (c.toNat:Int)] (.bool (fe c)):=by
 refine au (cw 98 []) ajL ajO ajP ?_;simp only[↓aX,mX,seval];cases h1:((c.toNat:Int)==10) with
 |true=>
  have Ep:(c.toNat:Int)=10:=aj8
  simp only[↓aX,mX,seval];simp[fe,Ep]
 |false=>
 have Ep:(c.toNat:Int)≠10:=aj8
 simp only[↓aX,mX,seval];cases h2:decide ((c.toNat:Int)>=32) with
 |false=>
  have h2':=ai3 h2;simp only[↓aX,mX,seval];have:fe c=false:=by unfold fe;simp[Ep];omega
  simp only[this]
 |true=>
 have h2':=air h2;simp only[↓aX,mX,seval];have:fe c=decide ((c.toNat:Int)<127):=by
  unfold fe;rw[show((c.toNat:Int) !=10)=true by simpa using Ep,show decide ((c.toNat:Int)<32)=false by simp;omega];simp only[ag7,aih];rw[<-decide_not,aiy];omega
 rw[this]
def u8L (s:Bs):List IV:=s.map λc=> .int .u8 (c.toNat:Int)
def Tr (s:Bs):(u8L s).length=s.length:=by simp[u8L]
def Ts (s:Bs) (i:Nat):(u8L s)[i]?=(s[i]?).map λc=> .int .u8 (c.toNat:Int):=ago ..
def Yd (s:Bs):dV 1 (u8L s):=by
 intro x hx;obtain⟨a,_,rfl⟩:=agp.1 hx;rfl
def PA {P:Program} {G:Nat->Option (List IV)} [KN P G] (s:Bs) (hs:s.length<=B)
  (hP:∀c:UInt8,aj P G 98 [.int .u8 (c.toNat:Int)] (.bool (fe c))):aj P G 62 [.str s] (.bool (plain s)):=by
 refine au (cw 62 []) ajL ajO ajP ?_;have hB:s.length<=140737488355328:=alm
 have hu:(s.map λc=>IV.int .u8 (c.toNat:Int))=u8L s:=rfl;simp only[↓aX,mX,seval,agc hB,hu,Tr];refine dj (σ:={i:Nat // i<=s.length/\(s.take i).all fe=true}) (λq=>[(0,.str s),(6,.list (u8L s)),(7,.int .i64 s.length),(8,.int .i64 q.1)]) (λq=>s.length - q.1) ⟨0,ajL⟩ (λ_=>rfl) ?_ ?_
 ·exact qi
 rintro⟨i,hi,fG⟩;simp only[↓aX,mX,seval];by_cases aF:i<s.length
 ·rw[dT aF];obtain⟨c,hc⟩:=gE aF;have hw:=w1 i alm;simp only[↓aX,mX,seval,Ts,hc,Yd,af9,IV.cells];refine ah (hP c) ?_;cases hp:fe c with
  |false=>
   have:plain s=false:=by
    unfold plain;rw[show s.all fe=false by rw[ai_];intro h;have:=agJ.1 h c (af3 hc);rw[hp] at this;cases this];rfl
   simp only[↓aX,mX,seval,af1,this]
  |true=>
  simp only[↓aX,mX,seval,af4,hw];exact⟨⟨i+1,aF,zr fG hc hp⟩,ajM,rfl⟩
 have je:i=s.length:=ajK
 subst je;rw[agu] at fG;rw[show decide ((s.length:Int)<(s.length:Int))=false by simp];simp only[↓aX,mX,seval,plain,fG,ag7]

def Bj:Bs:=[38,108,116,59]
def Bl:Bs:=[38,103,116,59]
def nL:Bs:=[38,97,109,112,59]
def jU:Bs:=[38,113,117,111,116,59]
def wI (v:Bool) (c:UInt8):Bs:=
 if c=60 then Bj else if c=62 then Bl else if c=38 then nL else if c=34/\v=true then jU else [c]
def pB (v:Bool) (s:Bs):Bs:=s.flatMap (wI v)
def qQ (a:Attr):Bs:=32::a.name++[61,34]++pB true a.val++[34]
def cT (az:List Attr):Bs:=az.flatMap qQ
mutual
def Tree.sh:Tree->Bs
 | .mk t s az ks=>if t then pB false s else 60::s++cT az++(match ks with
  |[]=>[47,62]
  |k::r=>62::(k.sh++uk r)++[60,47]++s++[62])
def uk:List Tree->Bs
 |[]=>[]
 |x::r=>x.sh++uk r
end
def Tree.Tt (x:Tree) (h:x.text=true):x.sh=pB false x.s:=by
 cases x with
 |mk t s az ks=>simp only[Tree.text] at h;subst h;cases ks<;>simp[Tree.sh,Tree.s]
def Dy (s:Bs):List Tree->Bs
 |[]=>[47,62]
 |k::r=>62::uk (k::r)++[60,47]++s++[62]
def Kq (s:Bs) {ks:List Tree} (h:ks≠[]):Dy s ks=62::uk ks++[60,47]++s++[62]:=by
 cases ks with
 |nil=>grind
 |cons k r=>rfl
def Tree.Tu (x:Tree) (h:x.text=false):x.sh=60::x.s++cT x.attrs++Dy x.s x.kids:=by
 cases x with
 |mk t s az ks=>
 simp only[Tree.text] at h;subst h;cases ks<;>simp[Tree.sh,Tree.s,Tree.attrs,Tree.kids,uk,Dy]
def aY (c:UInt8):Bool:=decide (97<=c)&&decide (c<=122)
def isSp (c:UInt8):Bool:=c==32||c==10
def lW (c:UInt8):Bool:=c==10||(decide (32<=c)&&decide (c<=126))
def ke (s:Bs):Option (Bs×Bs):=
 let n:=s.takeWhile aY
 if n=[]\/8<n.length then none else some (n,s.dropWhile aY)
def da (p s:Bs):Option Bs:=if p.isPrefixOf s then some (s.drop p.length) else none
def mu (s:Bs):Option (UInt8×Bs):=
 if Bj.isPrefixOf s then some (60,s.drop 4) else if Bl.isPrefixOf s then some (62,s.drop 4) else if nL.isPrefixOf s then some (38,s.drop 5) else if jU.isPrefixOf s then some (34,s.drop 6) else none
theorem nU {s r:Bs} {c:UInt8} (h:mu s=some (c,r)):r.length<s.length:=by
 unfold mu at h;have key:∀p:Bs,0<p.length->p.isPrefixOf s=true->(s.drop p.length).length<s.length:=λp h0 hp=>by
  grind
 split at h
 ·rename_i hp;simp only[afZ,agq] at h;obtain⟨_,rfl⟩:=h;exact key Bj ajN hp
 split at h
 ·rename_i hp;simp only[afZ,agq] at h;obtain⟨_,rfl⟩:=h;exact key Bl ajN hp
 grind [nL,jU]
def bb (v:Bool) (s:Bs):Option (Bs×Bs):=
 match s with
 |[]=>some ([],[])
 |c::r=>
  if c=60\/(c=34/\v=true) then some ([],c::r)
  else if c=38 then
   match h:mu (c::r) with
   |some (e,q)=>(bb v q).map λx=>(e::x.1,x.2)
   |none=>none
  else if c=62\/lW c=false then none
  else(bb v r).map λx=>(c::x.1,x.2)
termination_by s.length
decreasing_by
 ·exact nU h
 simp
def rU {v:Bool}:∀(n:Nat) (s t r:Bs),s.length<=n->bb v s=some (t,r)->r.length+t.length<=s.length:=by
 intro n;induction n with
 |zero=>
  grind [agL,bb]
 |succ n ih=>
 intro s t r hn h;cases s with
 |nil=>grind
 |cons c q=>
 rw[bb] at h;split at h
 ·grind
 split at h
 ·split at h
  ·rename_i e q' he;have:=nU he
   grind [acF,agq]
  grind
 grind [acF,agq]

def jL (l:List Attr) (a:Attr):List Attr:=
 match l with
 |[]=>[a]
 |b::r=>if Op.bytesLess a.name b.name then a::b::r else b::jL r a
def df (l:List Attr):List Attr:=l.foldl jL []
def sW (s:Bs):Option (Attr×Bs):=
 (ke s).bind λx=>(da [61,34] x.2).bind λr=>(bb true r).bind λy=>(da [34] y.2).map λq=>(⟨x.1,y.1⟩,q)
theorem mG {p s r:Bs} (h:da p s=some r):r.length+p.length=s.length:=by
 grind [da]
def kV {s n r:Bs} (h:ke s=some (n,r)):s=n++r/\n≠[]:=by
 grind [ke,afZ,agq,ahm.symm]
def zU {s r:Bs} {a:Attr} (h:sW s=some (a,r)):r.length+a.name.length+a.val.length+3<=s.length:=by
 unfold sW at h;obtain⟨⟨n,r1⟩,h1,h⟩:=afX.1 h;obtain⟨r2,h2,h⟩:=afX.1 h;obtain⟨⟨v,r3⟩,h3,h⟩:=afX.1 h;obtain⟨r4,h4,h⟩:=acF.1 h;obtain⟨rfl,rfl⟩:=h;obtain⟨rfl,_⟩:=kV h1;have e2:=mG h2;have e3:=rU _ _ _ _ (af6 _) h3
 grind [mG]
theorem gq (p:UInt8->Bool) (s:Bs):(s.dropWhile p).length<=s.length:=(ag8 p).length_le
def jk (s s1:Bs):Bool:=decide (s1.length<s.length)&&match s1 with
 |[]=>false
 |c::_=> !(c==62)&& !(c==47)
def cW (s:Bs):Option (List Attr×Bs):=
 if jk s (s.dropWhile isSp) then match h:sW (s.dropWhile isSp) with
  |some (a,r)=>(cW r).map λx=>(a::x.1,x.2)
  |none=>none
 else some ([],s.dropWhile isSp)
termination_by s.length
decreasing_by
 have:=zU h;have:=gq isSp s;omega
def n5 (s:Bs):Option (Bs×List Attr×Bs):=
 (da [60] s).bind λr=>(ke r).bind λx=>(cW x.2).map λy=>(x.1,y.1,y.2)
def jl (nm s:Bs):Option Bs:=
 (da [60,47] s).bind λr=>(ke r).bind λx=>if x.1=nm then da [62] (x.2.dropWhile isSp) else none
def cF (el:Bs->Option (Tree×Bs)) (s:Bs):Option (List Tree×Bs):=
 match s with
 |[]=>some ([],[])
 |c::q=>
  if [60,47].isPrefixOf (c::q) then some ([],c::q)
  else match(if c=60 then el (c::q) else(bb false (c::q)).map λx=>(Tree.mk true x.1 [] [],x.2)) with
   |some (t,r)=>if h:r.length<(c::q).length then(cF el r).map λx=>(t::x.1,x.2) else none
   |none=>none
termination_by s.length
def aV:Nat->Bs->Option (Tree×Bs)
 |0,_=>none
 |d+1,s=>(n5 s).bind λx=>
  if [47,62].isPrefixOf x.2.2 then some (.mk false x.1 (df x.2.1) [],x.2.2.drop 2)
  else(da [62] x.2.2).bind λr=>(cF (aV d) r).bind λy=>(jl x.1 y.2).map λq=>(.mk false x.1 (df x.2.1) y.1,q)
def Ij:∀(n:Nat) (s:Bs) (l:List Attr) (r:Bs),s.length<=n->cW s=some (l,r)->r.length+fm l<=s.length:=by
 intro n;induction n with
 |zero=>
  simp_all[agL,cW,jk,fm]
 |succ n ih=>
 intro s l r hn h;rw[cW] at h;have h0:=gq isSp s;split at h
 ·split at h
  ·rename_i a q ha;have h1:=zU ha
   grind [acF,agq,fm,Attr.wt]
  grind
 grind [fm]
theorem Kr (a:Attr):∀l:List Attr,fm (jL l a)=fm l+a.wt
 |[]=>by simp[jL,fm]
 |b::r=>by unfold jL;split<;>simp[fm,Kr a r]<;>omega
theorem FE:∀(l acc:List Attr),fm (l.foldl jL acc)=fm acc+fm l
 |[],acc=>by simp[fm]
 |a::r,acc=>by simp only[ah2,FE r,Kr,fm];omega
theorem FF (l:List Attr):fm (df l)=fm l:=by unfold df;rw[FE];simp[fm]
def Mj {s nm r:Bs} {az:List Attr} (h:n5 s=some (nm,az,r)):r.length+nm.length+fm az+1<=s.length/\0<nm.length:=by
 unfold n5 at h;obtain⟨r1,h1,h⟩:=afX.1 h;obtain⟨⟨n,r2⟩,h2,h⟩:=afX.1 h;obtain⟨⟨l,r3⟩,h3,h⟩:=acF.1 h;obtain⟨rfl,rfl,rfl⟩:=h;have e1:=mG h1;obtain⟨rfl,e2⟩:=kV h2;have e3:=Ij _ _ _ _ (af6 _) h3
 grind
def Ik {nm s r:Bs} (h:jl nm s=some r):r.length<s.length:=by
 unfold jl at h;obtain⟨r1,h1,h⟩:=afX.1 h;obtain⟨⟨n,r2⟩,h2,h5⟩:=afX.1 h;split at h5
 ·have e1:=mG h1;have e3:=mG h5;obtain⟨rfl,e2⟩:=kV h2
  grind [gq,isSp]
 grind
def B8 {el:Bs->Option (Tree×Bs)} (j5:∀s t r,el s=some (t,r)->t.wt+3*r.length<=3*s.length):∀(n:Nat) (s:Bs) (l:List Tree) (r:Bs),s.length<=n->cF el s=some (l,r)->bH l+3*r.length<=3*s.length:=by
 intro n;induction n with
 |zero=>
  grind [cF,bH]
 |succ n ih=>
 intro s l r hn h;cases s with
 |nil=>grind
 |cons c q=>
 rw[cF] at h;split at h
 ·grind [bH]
 split at h
 ·rename_i t r1 h1;split at h
  ·rename_i aF;obtain⟨⟨l',r'⟩,h2,h3⟩:=acF.1 h;obtain⟨rfl,rfl⟩:=h3;have e1:=ih r1 l' r' ajK h2;have e2:t.wt+3*r1.length<=3*(c::q).length:=by
    split at h1
    ·grind
    obtain⟨⟨tx,r2⟩,h4,h5⟩:=acF.1 h1;obtain⟨rfl,rfl⟩:=h5;have:=rU _ _ _ _ (af6 _) h4
    grind [Tree.wt,fm,bH]
   grind [bH]
  grind
 grind
theorem py:∀(d:Nat) (s:Bs) (t:Tree) (r:Bs),aV d s=some (t,r)->t.wt+3*r.length<=3*s.length
 |0,s,t,r,h=>by simp[aV] at h
 |d+1,s,t,r,h=>by
  unfold aV at h;obtain⟨⟨nm,az,r1⟩,h1,h⟩:=afX.1 h;obtain⟨e1,e2⟩:=Mj h1;split at h
  ·grind [Tree.wt,FF,bH]
  obtain⟨r2,h2,h⟩:=afX.1 h;obtain⟨⟨ks,r3⟩,h3,h⟩:=afX.1 h;obtain⟨r4,h4,h⟩:=acF.1 h;obtain⟨rfl,rfl⟩:=h;have k1:=mG h2;have k2:=B8 (py d) _ _ _ _ (af6 _) h3;have k3:=Ik h4
  grind [Tree.wt,FF]
def Mk (c:UInt8):mh c=aY c:=by
 unfold mh aY;rw[agP];simp;show _↔97<=c.toNat/\c.toNat<=122;omega
theorem mH (s:Bs):named s=true↔(∀c∈s,aY c=true)/\s≠[]/\s.length<=8:=by
 simp only[named,agm,agJ,agv,Mk]
 grind [ahL]
theorem mI {p:UInt8->Bool}:∀(s r:Bs),(∀c∈s,p c=true)->(∀c q,r=c::q->p c=false)->(s++r).takeWhile p=s/\(s++r).dropWhile p=r
 |[],r,_,h=>by
  cases r with
  |nil=>simp
  |cons c q=>simp[h c q rfl]
 |c::s,r,h1,h2=>by
  have h:=mI s r (λx hx=>h1 x ajV) h2;simp[h1 c ajL,h.1,h.2]
theorem Cs {n r:Bs} (hn:named n=true) (hr:∀c q,r=c::q->aY c=false):ke (n++r)=some (n,r):=by
 grind [mH,mI,ke]
def oW (p r:Bs):da p (p++r)=some r:=by
 unfold da;simp

def mJ (a:UInt8):¬a<a:=by rw[UInt8.lt_iff_toNat_lt];omega
def Il (a b:UInt8):a<b\/a=b\/b<a:=by
 grind
theorem wJ:∀x:Bs,Op.bytesLess x x=false
 |[]=>rfl
 |a::x=>by simp[Op.bytesLess,mJ,wJ x]
theorem qa:∀{x y z:Bs},Op.bytesLess x y=true->Op.bytesLess y z=true->Op.bytesLess x z=true
 |[],[],_,h,_=>by simp[Op.bytesLess] at h
 |[],_::_,[],_,h=>by simp[Op.bytesLess] at h
 |[],_::_,_::_,_,_=>rfl
 |_::_,[],_,h,_=>by simp[Op.bytesLess] at h
 |_::_,_::_,[],_,h=>by simp[Op.bytesLess] at h
 |a::x,b::y,c::z,h1,h2=>by
  simp[Op.bytesLess,ahu,agv,agm,ag9] at h1 h2 ⊢;rcases h1 with h1|⟨rfl,h1⟩
  ·grind
  rcases h2 with h2|⟨rfl,h2⟩
  ·grind
  exact .inr ⟨rfl,qa h1 h2⟩
theorem vl {x y:Bs} (h:Op.bytesLess x y=true):Op.bytesLess y x=false:=by
 grind [qa,wJ]
theorem tH:∀x y:Bs,Op.bytesLess x y=true\/x=y\/Op.bytesLess y x=true
 |[],[]=> .inr (.inl rfl)
 |[],_::_=> .inl rfl
 |_::_,[]=> .inr (.inr rfl)
 |a::x,b::y=>by
  simp[Op.bytesLess,ahu,agv,agm,ag9,agY];rcases Il a b with h|rfl|h
  ·grind
  ·simp[tH]
  grind
def gA:List Attr->Bool
 |[]=>true
 |[_]=>true
 |a::b::r=>Op.bytesLess a.name b.name&&gA (b::r)
theorem qR (a:Attr) (l:List Attr) (i:Nat):fI (a::l) (i+1)=(fI l i&&(if i=0 then match l[0]? with|some b=>Op.bytesLess a.name b.name|none=>true else true)):=by
 grind [fI]
theorem lr (az:List Attr):cR az=true↔(∀a∈az,named a.name=true/\plain a.val=true)/\gA az=true/\az.length<=4:=by
 have key:∀az:List Attr,(∀i,i<az.length->fI az i=true)↔(∀a∈az,named a.name=true/\plain a.val=true)/\gA az=true:=by
  intro az;induction az with
  |nil=>simp[gA]
  |cons a l ih=>
  constructor
  ·intro h;have h0:=h 0 ajL;have ih':=ih.1 λi hi=>by
    have:=h (i+1) ajV;rw[qR,agm] at this;exact this.1
   simp only[fI,agF,agm] at h0;refine⟨λx hx=> ?_,?_⟩
   ·grind
   cases l with
   |nil=>rfl
   |cons b r=>
   have:=h 1 ajL
   grind [qR,gA]
  rintro⟨h1,h2⟩ i hi;have hl:∀i,i<l.length->fI l i=true:=ih.2 ⟨λx hx=>h1 x ajV,by
   cases l with
   |nil=>rfl
   |cons b r=>simp[gA,agm] at h2;exact h2.2⟩
  cases i with
  |zero=>grind [fI]
  |succ i=>
  rw[qR,hl i ajV];cases l with
  |nil=>simp
  |cons b r=>
  simp_all[gA,agm]
 grind [cR]
theorem yS:∀{a:Attr} {l:List Attr},gA (a::l)=true->∀b∈l,Op.bytesLess a.name b.name=true
 |_,[],_,b,hb=>by simp at hb
 |a,c::r,h,b,hb=>by
  simp[gA,agm] at h;simp at hb;rcases hb with rfl|hb
  ·grind
  exact qa h.1 (yS h.2 b hb)
def wK {a:Attr} {l:List Attr} (h:gA (a::l)=true):gA l=true:=by
 cases l with
 |nil=>rfl
 |cons b r=>simp_all[gA,agm]

def Ct (az:List Attr):Nat->Bs
 |0=>[]
 |i+1=>match az[i]? with
  |some p=>p.name
  |none=>[]
def PB (x y:Bs):(Op.bytesLess x y||x==y)= !Op.bytesLess y x:=by
 rcases tH x y with h|h|h
 ·rw[h,vl h];rfl
 ·subst h;rw[wJ];simp
 rw[h,vl h];have:(x==y)=false:=by rw[agZ];rintro rfl;rw[wJ] at h;cases h
 rw[this];rfl
def Ye {x:Bs} (h:named x=true):Op.bytesLess [] x=true:=by
 cases x with
 |nil=>simp[named] at h
 |cons c r=>rfl
def PC {P:Program} {G:Nat->Option (List IV)} [KN P G] (az:List Attr) (hx:az.length<=B)
  (hN:∀a∈az,aj P G 97 [.str a.name] (.bool (named a.name))) (hP:∀a∈az,aj P G 62 [.str a.val] (.bool (plain a.val))) :
  aj P G 146 [.list (aQ az)] (.bool (cR az)):=by
 refine au (cw 146 []) ajL ajO ajP ?_;simp only[↓aX,mX,seval,aE];refine dj (σ:={i:Nat // i<=az.length/\∀j,j<i->fI az j=true}) (λq=>[(0,.list (aQ az)),(3,.str (Ct az q.1)),(6,.list (aQ az)),(7,.int .i64 az.length),(8,.int .i64 q.1)]) (λq=>az.length - q.1) ⟨0,ajL⟩ (λ_=>rfl) ?_ ?_
 ·exact qi
 rintro⟨i,hi,hs⟩;simp only[↓aX,mX,seval,aE];by_cases aF:i<az.length
 ·rw[dT aF];obtain⟨a,ha⟩:=gE aF;have hw:=w1 i ajZ;simp only[↓aX,mX,seval,ln,ha,kx,Attr.ax,Attr.cs];refine ah (hN a (af3 ha)) ?_;have stop:fI az i=false->cR az=false:=λhp=>by rw[cR,B_ aF hp];rfl
  have kn:fI az i=(named a.name&&(plain a.val&&(i==0||match az[i - 1]? with|some p=>Op.bytesLess p.name a.name|none=>true))):=by unfold fI;rw[ha];rfl
  cases h1:named a.name with
  |false=>
   simp only[↓aX,mX,seval,af1];rw[stop (by rw[kn,h1];rfl)]
  |true=>
  simp only[↓aX,mX,seval,af4];refine ah (hP a (af3 ha)) ?_;cases h2:plain a.val with
  |false=>
   simp only[↓aX,mX,seval,af1];rw[stop anI]
  |true=>
  simp only[↓aX,mX,seval,af4];have hb:fI az i=Op.bytesLess (Ct az i) a.name:=by
   rw[kn,h1,h2];cases i with
   |zero=>rw[show Ct az 0=[] from rfl,Ye h1];rfl
   |succ i=>
   obtain⟨p,hp⟩:∃p,az[i]?=some p:=⟨_,af7 ajK⟩;simp[Ct,hp]
  rw[PB,<-hb];cases h4:fI az i with
  |false=>
   simp only[↓aX,mX,seval,af1];rw[stop h4]
  |true=>
  simp only[↓aX,mX,seval,af4,hw];refine⟨⟨i+1,aF,λj hj=> ?_⟩,ajM,?_⟩
  ·by_cases e:j=i
   ·rw[e];exact h4
   exact hs j ajK
  refine⟨?_,rfl⟩;show AV.str a.name=AV.str (Ct az (i+1));simp only[Ct,ha]
 have je:i=az.length:=ajK
 rw[dF aF];simp only[↓aX,mX,seval,aE];have:(List.range az.length).all (fI az)=true:=by
  rw[agJ];intro j hj;exact hs j (by simp at hj;omega)
 rw[cR,this];rfl

def Yf {P:Program} {G:Nat->Option (List IV)} [KN P G] (l:List Tree) (hx:bH l<=B)
  (hP:∀x∈l,aj P G 62 [.str x.s] (.bool (plain x.s))) (hN:∀x∈l,aj P G 97 [.str x.s] (.bool (named x.s)))
  (hA:∀x∈l,aj P G 146 [.list (aQ x.attrs)] (.bool (cR x.attrs))) (hK:∀x∈l,aj P G 105 [.list (aM x.kids)] (.bool (cD none x.kids))) :
  aj P G 105 [.list (aM l)] (.bool (cD none l)):=by
 refine au (cw 105 []) ajL ajO ajP ?_;have hl:=bO l;simp only[↓aX,mX,seval,ar];refine dj (σ:={q:Nat×Option Bool // q.1<=l.length/\cD none l=cD q.2 (l.drop q.1)}) (λq=>[(0,.list (aM l)),(3,.bool (q.1.2==some true)),(6,.list (aM l)),(7,.int .i64 l.length),(8,.int .i64 q.1.1)]) (λq=>l.length - q.1.1) ⟨(0,none),ajL,rfl⟩ (λ_=>rfl) ?_ ?_
 ·exact qi
 rintro⟨⟨i,p⟩,hi,hs⟩;simp only at hi hs;simp only[↓aX,mX,seval,ar];by_cases aF:i<l.length
 ·rw[dT aF];obtain⟨x,xI⟩:=gE aF;have hm:=af3 xI;have hw:=w1 i ajZ;have ka:cD none l=(x.iu&&(!(p==some true&&x.text)&&cD (some x.text) (l.drop (i+1)))):=by rw[hs,ag1 aF,af7 aF |>.symm.trans xI|>ah4];rfl
  have stop:x.iu=false->cD none l=false:=λh=>by rw[ka,h];rfl
  simp only[↓aX,mX,seval,dc,xI,fa,Tree.ax,Tree.cs];cases ht:x.text with
  |true=>
   have J8:=x.zw ht;simp only[↓aX,mX,seval];cases hp:(p==some true) with
   |true=>
    have:cD none l=false:=(by rw[ka,hp,ht];simp);simp only[↓aX,mX,seval,this]
   |false=>
   simp only[↓aX,mX,seval];cases h1:(x.s==[]) with
   |true=>
    have h9:(x.s !=[])=false:=aj8;have:cD none l=false:=stop (by rw[J8,h9];simp);simp only[↓aX,mX,seval,this]
   |false=>
   simp only[↓aX,mX,seval];refine ah (hP x hm) ?_;cases h2:plain x.s with
   |false=>
    have:cD none l=false:=stop (by rw[J8,h2];rfl);simp only[↓aX,mX,seval,af1,this]
   |true=>
   simp only[↓aX,mX,seval,af4,aE];have h9:(x.s !=[])=true:=aj8;cases h5:((x.attrs.length:Int) !=0) with
   |true=>
    have:cD none l=false:=stop (by
     have:(x.attrs.length==0)=false:=(by simp at h5 ⊢;exact h5);rw[J8,this];simp)
    simp only[↓aX,mX,seval,this]
   |false=>
   simp only[↓aX,mX,seval,ar];cases h6:((x.kids.length:Int) !=0) with
   |true=>
    have:cD none l=false:=stop (by
     have:(x.kids.length==0)=false:=(by simp at h6 ⊢;exact h6);rw[J8,this];simp)
    simp only[↓aX,mX,seval,this]
   |false=>
   have SH:x.iu=true:=by
    have e5:(x.attrs.length==0)=true:=(by simp at h5 ⊢;exact h5);have e6:(x.kids.length==0)=true:=(by simp at h6 ⊢;exact h6);rw[J8,h2,h9,e5,e6];rfl
   simp only[↓aX,mX,seval,af4,hw];refine⟨⟨(i+1,some true),aF,by rw[ka,SH,hp,ht];rfl⟩,ajM,rfl,rfl⟩
  |false=>
  have J8:=x.tu ht;simp only[↓aX,mX,seval,af1];refine ah (hN x hm) ?_;cases h2:named x.s with
  |false=>
   have:cD none l=false:=stop (by rw[J8,h2];rfl);simp only[↓aX,mX,seval,af1,this]
  |true=>
  simp only[↓aX,mX,seval,af4];refine ah (hA x hm) ?_;cases h3:cR x.attrs with
  |false=>
   have:cD none l=false:=stop (by rw[J8,h2,h3];rfl);simp only[↓aX,mX,seval,af1,this]
  |true=>
  simp only[↓aX,mX,seval,af4];refine ah (hK x hm) ?_;cases h4:cD none x.kids with
  |false=>
   have:cD none l=false:=stop (by rw[J8,h2,h3,h4];rfl);simp only[↓aX,mX,seval,af1,this]
  |true=>
  simp only[↓aX,mX,seval,af4,hw];have SH:x.iu=true:=by rw[J8,h2,h3,h4];rfl
  refine⟨⟨(i+1,some false),aF,by rw[ka,SH,ht];simp⟩,ajM,rfl,rfl⟩
 have je:i=l.length:=ajK
 subst je;rw[show decide ((l.length:Int)<(l.length:Int))=false by simp];simp only[↓aX,mX,seval];rw[hs,aic];rfl

def vm (sz b d k:Nat) (xs ys:List IV) {n:Nat} {H:Hp} (hl:H (.loc k)= .live ⟨sz,ak xs⟩) (hn:xs.length=n) (he:dV sz ys) (hf:Flat ys) (hb:(n+ys.length)*b<=140737488355328) (h0:0<b)
  (cf:k≠d) (hu:H (.loc d)= .unused) :
  iQ sz b d (.sl (.loc k) sz 0 n) (.list ys) H=some (.sl (.loc d) sz 0 (n+ys.length),aS (aS H (.loc k) .dead) (.loc d) (.live ⟨sz,ak (xs++ys)⟩)):=by
 have h1:(ak xs).length=n:=ana
 rw[Dk (l:= .loc k) (els:=ak xs) hl ajK he hf hb h0 (by simpa[Lb.app,Lb.fresh] using cf) (by simpa[Lb.app,Lb.fresh] using hu)];simp only[Lb.app,Lb.fresh,agn];rw[af2 ajK,fR]
def Tx {P:Program} {G:Nat->Option (List IV)} [KN P G] (x:Tree) (hx:x.wt<=B) :
  aj P G 104 [x.av] (.bq [.int .i64 x.dep,.int .i64 x.cC]):=by
 refine au (cw 104 [.a 7 (.own 7 4),.b 32 (.tj (.loc 7) 7)]) ajL akb ajU ?_;have nE:[x.iv]=aM [x]:=by simp[aM]
 have Bh:[IV.agg [.bool x.text,.str x.s,.list (aQ x.attrs),.list (aM x.kids)]]=aM [x]:=by rw[<-nE,x.mY];rfl
 simp only[↓aX,mX,seval,Tree.av,Bh];have gV:B=1073741824:=rfl;have hd:=x.wD;have hdw:=x.Pd;refine dj (σ:={q:Nat×Nat×List Tree // q.1+gU q.2.2=x.dep/\q.2.1+aJ q.2.2=x.cC/\bH q.2.2<=B}) (λq=>[(4,.int .i64 q.1.1),(5,.int .i64 q.1.2.1),(6,.list (aM q.1.2.2))]) (λq=>aJ q.1.2.2) ⟨(0,0,[x]),by simp[gU,aJ,bH,hx]⟩ (λ_=>rfl) ?_ ?_
 ·exact qi
 rintro⟨⟨d,c,xs⟩,h1,h2,h3⟩;simp only at h1 h2 h3;simp only[↓aX,mX,seval,ar];by_cases hn:xs=[]
 ·subst hn;simp only[gU,aJ,ahs] at h1 h2;simp only[agx,show decide (((0:Nat):Int)>0)=false from rfl,↓aX,mX,reduceCtorEq,Int.reduceLT,Nat.reduceEqDiff,Int.reduceLE,Nat.reduceLT,Nat.reduceLeDiff,Nat.reduceAdd,Nat.reduceMul,Int.reduceToNat,h1,h2,↓a_]
 have EU:0<xs.length:=ahL.2 hn;have hlx:=bO xs;have gz:=w1 d;have ml:IntKind.i64.wrap ((c:Int)+(xs.length:Int))=((c+xs.length:Nat):Int):=by
  have:=rO xs;exact wrap64 ajK ajK
 simp only[show decide ((xs.length:Int)>0)=true by simpa using EU,↓aX,mX,seval,ar,gz,ml];refine qH (σ:={i:Nat // i<=xs.length}) 7 4 (λq=>[(4,.int .i64 ((d+1:Nat):Int)),(5,.int .i64 ((c+xs.length:Nat):Int)),(21,.list (aM xs)),(22,.int .i64 xs.length),(23,.int .i64 q.1)]) (λq=>aM (jX (xs.take q.1))) (λq=>xs.length - q.1) ⟨0,ajL⟩ (λ_=>rfl) ?_ ?_
 ·simp only[J',↓aX,mX,reduceCtorEq,Int.reduceLT,Nat.reduceEqDiff,Int.reduceLE,Nat.reduceLT,Nat.reduceLeDiff,Nat.reduceAdd,Nat.reduceMul,Int.reduceToNat];exact⟨rfl,7,[],rfl,rfl,rfl⟩
 rintro⟨i,hi⟩;have hnw:=vd xs;have hnt:bH (jX (xs.take i))<=bH xs:=ag' (by have:=vd (xs.take i);omega) (ey xs i);have xy:=bO (jX (xs.take i));simp only[↓aX,mX,seval,ar];by_cases aF:i<xs.length
 ·obtain⟨y,hy⟩:=gE aF;have hw:=w1 i;have eW:jX (xs.take (i+1))=jX (xs.take i)++y.kids:=by rw[agz,hy];simp[jX]
  have ad_:bH (jX (xs.take (i+1)))<=bH xs:=ag' (by have:=vd (xs.take (i+1));omega) (ey xs (i+1));rw[eW,dQ] at ad_;have xx:=bO y.kids;simp only[dT aF,↓aX,mX,seval,dc,hy,fa,Tree.ax,Tree.cs];rw[vm 4 72 30 7 (aM (jX (xs.take i))) (aM y.kids) ajR ak4 (fa _) (gd _) (by have:=ar y.kids;have:=ar (jX (xs.take i));omega) ajN ajN ajX];simp only[↓aX,mX,seval,hw];refine⟨⟨i+1,aF⟩,ajM,?_⟩;refine pZ 30 aj4 ⟨rfl,rfl,rfl,rfl,rfl,trivial⟩ ?_ ?_
  ·simp only[↓aX,mX,seval,eW,ed,age,ar]
  simp only[↓aX,mX,seval,eW,ed]
 have je:i=xs.length:=ajK
 subst je;simp only[show decide ((xs.length:Int)<(xs.length:Int))=false by simp,↓aX,mX,seval];refine⟨4,aM (jX (xs.take xs.length)),0,_,rfl,rfl,ajL,gd _,?_⟩;simp only[↓aX,mX,seval,agu,agj];refine⟨⟨(d+1,c+xs.length,jX xs),?_,?_,?_⟩,?_,?_⟩
 ·have:=Cj xs hn;simp only;omega
 ·have:=rO xs;simp only;omega
 ·simp only;omega
 ·have:=rO xs;simp only;omega
 exact qi
def Ty {P:Program} {G:Nat->Option (List IV)} [KN P G] (x:Tree)
  (hS:aj P G 104 [x.av] (.bq [.int .i64 x.dep,.int .i64 x.cC])) (hR:aj P G 105 [.list (aM [x])] (.bool (cD none [x]))) :
  aj P G 75 [x.av] (.bool x.cA):=by
 refine au (cw 75 []) ajL akb ajP ?_;have Bh:[IV.agg [.bool x.text,.str x.s,.list (aQ x.attrs),.list (aM x.kids)]]=aM [x]:=by simp only[aM,x.mY];rfl
 have hf:cD none [x]=x.iu:=by simp[cD]
 simp only[↓aX,mX,seval,Tree.av];refine ah hS ?_;simp only[↓aX,mX,seval];cases ht:x.text with
 |true=>
  have:x.cA=false:=by
   cases hg:x.cA with
   |false=>rfl
   |true=>have:=(fg x).1 hg;rw[ht] at this;simp at this
  simp only[↓aX,mX,seval,af4,this]
 |false=>
 simp only[↓aX,mX,seval,af1];cases h1:decide ((x.dep:Int)<9) with
 |false=>
  have:x.cA=false:=by
   cases hg:x.cA with
   |false=>rfl
   |true=>have:=(fg x).1 hg;have:=ai3 h1;omega
  simp only[↓aX,mX,seval,this]
 |true=>
 simp only[↓aX,mX,seval];cases h2:decide ((x.cC:Int)<81) with
 |false=>
  have:x.cA=false:=by
   cases hg:x.cA with
   |false=>rfl
   |true=>have:=(fg x).1 hg;have:=ai3 h2;omega
  simp only[↓aX,mX,seval,this]
 |true=>
 simp only[↓aX,mX,seval];rw[<-ht,Bh];refine ah hR ?_;have hd1:=air h1;have Ml:=air h2;have:x.cA=x.iu:=by
  rw[agP,fg];constructor
  ·exactλh=>h.2.2.2
  exactλh=>⟨ht,ajK,ajK,h⟩
 simp only[↓aX,mX,seval,hf,this]
def Io {P:Program} {G:Nat->Option (List IV)} [KN P G] (l:List Tree) (hx:bH l<=B)
  (hS:∀x∈l,aj P G 104 [x.av] (.bq [.int .i64 x.dep,.int .i64 x.cC])) (hR:aj P G 105 [.list (aM l)] (.bool (cD none l))) :
  aj P G 65 [.list (aM l)] (.bool (content l)):=by
 refine au (cw 65 []) ajL ajO ajP ?_;have gV:B=1073741824:=rfl;have hl:=bO l;simp only[↓aX,mX,seval,ar];refine dj (σ:={i:Nat // i<=l.length/\(l.take i).all (λx=>decide (x.dep<=8))=true}) (λq=>[(0,.list (aM l)),(3,.int .i64 (aJ (l.take q.1))),(8,.list (aM l)),(9,.int .i64 l.length),(10,.int .i64 q.1)]) (λq=>l.length - q.1) ⟨0,ajL⟩ (λ_=>rfl) ?_ ?_
 ·exact qi
 rintro⟨i,hi,hs⟩;simp only[↓aX,mX,seval,ar];refine j7 (λh=> ?_) (λh=> ?_)
 ·have aF:i<l.length:=by simpa using h
  obtain⟨x,xI⟩:=gE aF;have hw:=w1 i ajZ;have h2:=ey l i;have h3:=mo (l.take i);have h5:=iS _ _ _ xI;have h6:=x.wD;have h1:l.take (i+1)=l.take i++[x]:=by rw[agz,xI];rfl
  have hc:IntKind.i64.wrap ((aJ (l.take i):Int)+(x.cC:Int))=((aJ (l.take (i+1)):Nat):Int):=by
   rw[wrap64 ajK ajZ,h1,dM];simp[aJ]
  simp only[↓aX,mX,seval,dc,xI,fa,Tree.ax,Tree.cs];refine ah (hS x (af3 xI)) ?_;simp only[↓aX,mX,seval];refine j7 (λh9=> ?_) (λh9=> ?_)
  ·exact abb
  exact abd
 have je:i=l.length:=aki
 subst je;rw[agu] at hs;simp only[↓aX,mX,seval,agu];cases h9:decide ((aJ l:Int)<=80) with
 |true=>
  simp only[↓aX,mX,seval];refine ah hR ?_;simp only[↓aX,mX,seval];have:decide (aJ l<=80)=true:=ama
  rw[content,hs,this];rfl
 |false=>
 simp only[↓aX,mX,seval];have:decide (aJ l<=80)=false:=ama
 rw[content,hs,this];rfl

mutual
def pC (X:Lb->Option (Nat×List IV)):AV->AV
 | .sl l sz i n=>match X l with
  |some (s,xs)=>if s=sz/\i+n<=xs.length then .list ((xs.drop i).take n) else .sl l sz i n
  |none=> .sl l sz i n
 | .agg cs=> .agg (iG X cs)
 | .bq cs=> .bq (iG X cs)
 |x=>x
def iG (X:Lb->Option (Nat×List IV)):List AV->List AV
 |[]=>[]
 |x::r=>pC X x::iG X r
end
def mK (X:Lb->Option (Nat×List IV)) (H:Hp):Hp:=λl=>match X l with
 |some _=> .dead
 |none=>match H l with
  | .live r=> .live ⟨r.sz,r.els.map (iG X)⟩
  |s=>s
theorem FG (X:Lb->Option (Nat×List IV)):∀xs,(iG X xs).length=xs.length
 |[]=>rfl
 |x::r=>by simp[iG,FG X r]
theorem FH (X:Lb->Option (Nat×List IV)):∀(xs:List AV) (i:Nat),(iG X xs)[i]?=xs[i]?.map (pC X)
 |[],i=>by simp[iG]
 |x::r,0=>by simp[iG]
 |x::r,i+1=>by simp[iG,FH X r]
mutual
theorem Ks (X:Lb->Option (Nat×List IV)):∀(x:AV) (l:Lb),l∈(pC X x).aq->l∈x.aq
 | .sl q sz i n,l,h=>by
  simp only[pC] at h;split at h
  ·split at h
   ·simp[AV.aq] at h
   exact h
  exact h
 | .agg cs,l,h=>by simp only[pC,AV.aq] at h ⊢;exact vn X cs l h
 | .bq cs,l,h=>by simp only[pC,AV.aq] at h ⊢;exact vn X cs l h
 | .slk ..,l,h| .ptr ..,l,h| .any,l,h| .un,l,h| .bool _,l,h| .int ..,l,h| .str _,l,h| .list _,l,h| .mT,l,h| .nil0,l,h| .jS,l,h| .lptr _,l,h| .fn ..,l,h| .ifc ..,l,h| .mis _,l,h=>h
theorem vn (X:Lb->Option (Nat×List IV)):∀(xs:List AV) (l:Lb),l∈ai (iG X xs)->l∈ai xs
 |[],l,h=>h
 |x::r,l,h=>by
  simp only[iG,ai,agi] at h ⊢;exact h.imp (Ks X x l) (vn X r l)
end
def vo {X:Lb->Option (Nat×List IV)} {H:Hp} {l:Lb} {r:Row} (h:mK X H l= .live r):X l=none/\∃r0,H l= .live r0/\r=⟨r0.sz,r0.els.map (iG X)⟩:=by
 unfold mK at h;split at h
 ·cases h
 rename_i e;split at h
 ·rename_i r0 h0;simp only[Slot.live.injEq] at h;exact⟨e,r0,h0,h.symm⟩
 rename_i hn;exact absurd h (hn r)
def zV {X:Lb->Option (Nat×List IV)} {H:Hp} {l:Lb} (h:H l≠ .unused):mK X H l≠ .unused:=by
 unfold mK;split
 ·simp
 split
 ·simp
 exact h
section
variable {K:Kx} {β:Lb->Option Nat} {env:Env} {H:Hp} {a:Act} {w:World} {X:Lb->Option (Nat×List IV)}
def pD (l:Lb) (h:live (mK X H) l):live H l:=by
 obtain⟨r,h⟩:=h;obtain⟨_,r0,h0,_⟩:=vo h;exact⟨r0,h0⟩
def vp (ls:List Lb):ic w w β β H (mK X H) (Im K β H) (Im K β (mK X H)) ls:=
 ⟨⟨λk hk hs=>⟨⟨hk.1,λl hl=>hk.2 l (pD l hl)⟩,hs,rfl⟩⟩,λl _ hl=>⟨pD l hl,rfl,λ_ _ _ h=>h⟩⟩
mutual
theorem PD (hr:aO K β env H a w) (hX:∀l sz xs,X l=some (sz,xs)->H l= .live ⟨sz,ak xs⟩/\l.fresh=true/\Flat xs):∀(x:AV) (v:Value),RV w β H (Im K β H) x v->RV w β (mK X H) (Im K β (mK X H)) (pC X x) v
 | .sl l sz i n,v,h=>by
  simp only[pC];split
  ·rename_i s xs e;split
   ·rename_i hc;obtain⟨rfl,qe⟩:=hc;obtain⟨h1,h2,h3⟩:=hX l _ _ e;have h4:=HW hr h1 h2 qe h3 h;simp only[RV] at h4 ⊢;refine iM.mono ⟨λk hk hs=>⟨⟨hk.1,λq hq=>hk.2 q ?_⟩,hs,rfl⟩⟩ _ _ h4;obtain⟨r,hq⟩:=hq;obtain⟨q1,r0,q2,_⟩:=vo hq;refine⟨r0,?_⟩;rw[an _ _ (by rintro rfl;rw[e] at q1;cases q1)];exact q2
   exact RV.mono _ _ (vp _) h
  exact RV.mono _ _ (vp _) h
 | .agg cs,v,h=>by
  simp only[pC,RV] at h ⊢;obtain⟨vs,rfl,h1⟩:=h;exact⟨vs,rfl,Ip hr hX cs vs h1⟩
 | .bq cs,v,h=>by
  simp only[pC,RV] at h ⊢;obtain⟨vs,rfl,h1⟩:=h;exact⟨vs,rfl,Ip hr hX cs vs h1⟩
 | .slk ..,v,h| .ptr ..,v,h| .any,v,h| .un,v,h| .bool _,v,h| .int ..,v,h| .str _,v,h| .list _,v,h| .mT,v,h| .nil0,v,h| .jS,v,h| .lptr _,v,h| .fn ..,v,h| .ifc ..,v,h| .mis _,v,h=>RV.mono _ _ (vp _) h
theorem Ip (hr:aO K β env H a w) (hX:∀l sz xs,X l=some (sz,xs)->H l= .live ⟨sz,ak xs⟩/\l.fresh=true/\Flat xs):∀(xs:List AV) (vs:List Value),bA w β H (Im K β H) xs vs->bA w β (mK X H) (Im K β (mK X H)) (iG X xs) vs
 |[],vs,h=>h
 |x::r,vs,h=>by
  simp only[iG,bA] at h ⊢;obtain⟨v,us,rfl,h1,h2⟩:=h;exact⟨v,us,rfl,PD hr hX x v h1,Ip hr hX r us h2⟩
end
def aO.fz (hr:aO K β env H a w) (hX:∀l sz xs,X l=some (sz,xs)->H l= .live ⟨sz,ak xs⟩/\l.fresh=true/\Flat xs) {env2:Env} (he:∀n,env2 n= .any\/env2 n=pC X (env n)):aO K β env2 (mK X H) a w where
 defers:=hr.defers
 size:=hr.size
 jc n:=by
  rcases he n with e|e
  ·rw[e];simp[RV]
  rw[e];exact PD hr hX _ _ (hr.jc n)
 rows l r hl:=by
  obtain⟨_,r0,h0,rfl⟩:=vo hl;obtain⟨h1,h2,h3⟩:=hr.rows l r0 h0;refine⟨h1,?_,?_⟩
  ·intro cs aZ;obtain⟨c0,Bf,rfl⟩:=agp.1 aZ;rw[FG];exact h2 c0 Bf
  cases hb:β l with
  |none=>rw[hb] at h3;simp only at h3;simp[h3]
  |some g=>
  rw[hb] at h3;simp only at h3 ⊢;obtain⟨cur,e,cap,e1,e2,e3,e4,e5⟩:=h3;refine⟨cur,e,cap,e1,e2,e3,by simpa using e4,?_⟩;intro i j cs x hi hj;rw[ago,acF] at hi;obtain⟨c0,hi,rfl⟩:=hi;rw[FH,acF] at hj;obtain⟨x0,hj,rfl⟩:=hj;obtain⟨v,k1,k2⟩:=e5 i j c0 x0 hi hj;exact⟨v,k1,PD hr hX _ _ k2⟩
 own l g hl:=hr.own l g (pD l hl)
 inj l l' g hl gR:=hr.inj l l' g (pD l hl) (pD l' gR)
 iq n l hl:=by
  rcases he n with e|e
  ·rw[e] at hl;simp[AV.aq] at hl
  rw[e] at hl;exact zV (hr.iq n l (Ks X _ l hl))
 cB l r hl cs aZ q hq:=by
  obtain⟨_,r0,h0,rfl⟩:=vo hl;obtain⟨c0,Bf,rfl⟩:=agp.1 aZ;exact zV (hr.cB l r0 h0 c0 Bf q (vn X _ q hq))
 frame:=hr.frame
 iO g cs hg:=by
  obtain⟨h1,h2,h3⟩:=hr.iO g cs hg;have hk:=(vp (K:=K) (β:=β) (H:=H) (X:=X) (w:=w) []).tojt;exact⟨(hk.im g h1 h2).1,h2,dD.mono hk h1 h2 h3⟩
 jv l hl:=⟨zV (hr.jv l hl).1,λh=>(hr.jv l hl).2 (pD l h)⟩
 fr l g hl:=hr.fr l g (pD l hl)
end
def rV {S:St} {env:Env} {H:Hp} (X:Lb->Option (Nat×List IV)) (hX:∀l sz xs,X l=some (sz,xs)->H l= .live ⟨sz,ak xs⟩/\l.fresh=true/\Flat xs) {env2:Env}
  (he:∀n,env2 n= .any\/env2 n=pC X (env n)):eE S env H env2 (mK X H):=
 λK β a w _ _ hr=>⟨β,hr.fz hX he⟩
def eE.trans {S:St} {env env2 Yg:Env} {H H2 H3:Hp} (h1:eE S env H env2 H2) (h2:eE S env2 H2 Yg H3):eE S env H Yg H3:=λK β a w e hf hr=>by
 obtain⟨β',qf⟩:=h1 K β a w e hf hr;exact h2 K β' a w e hf qf
def eE.VF {S:St} {ρ:Lb->Lb} {env env2:Env} {H H2:Hp} (h:Wk ρ env H env2 H2):eE S env H env2 H2:=
 λK β a w e hf hr=>⟨_,h.rel hf hr⟩
def zW {S:St} {env:Env} {H:Hp} (X:Lb->Option (Nat×List IV)) (ps:List (Nat×AV)) (rs:List (Lb×Row)) (m:List (Lb×Lb))
  (hX:∀l sz xs,X l=some (sz,xs)->H l= .live ⟨sz,ak xs⟩/\l.fresh=true/\Flat xs)
  (hp:∀l∈ai (ps.map Prod.snd),l∈rs.map Prod.fst) (hr:∀q∈rs,∀cs∈q.2.els,∀l∈ai cs,l∈rs.map Prod.fst)
  (h:WU (rs.map Prod.fst) (λ_=>false) ps rs (λn=>pC X (env n)) (mK X H) m):eE S env H (iX ps) (cU (λ_=>false) rs):=
 (rV X hX (env2:=λn=>pC X (env n)) (λ_=> .inr rfl)).trans (.VF (h.wk rfl hp hr))
def oX {X:Lb->Option (Nat×List IV)} {H:Hp} {l:Lb} {r:Row} (h:X l=none) (hl:H l= .live r):mK X H l= .live ⟨r.sz,r.els.map (iG X)⟩:=by simp[mK,h,hl]
def zX (X:Lb->Option (Nat×List IV)):iG X []=[]:=rfl
def wL (X:Lb->Option (Nat×List IV)) (x:AV) (r:List AV):iG X (x::r)=pC X x::iG X r:=rfl
def Yh {X:Lb->Option (Nat×List IV)} {l:Lb} {sz n:Nat} {xs:List IV} (h:X l=some (sz,xs)) (hn:n=xs.length):pC X (.sl l sz 0 n)= .list xs:=by
 subst hn;simp[pC,h]
mutual
theorem PE (X:Lb->Option (Nat×List IV)):∀x:AV,x.aq=[]->pC X x=x
 | .sl ..,h| .slk ..,h| .ptr ..,h=>by simp[AV.aq] at h
 | .any,_| .un,_| .bool _,_| .int ..,_| .str _,_| .list _,_| .nil0,_| .mT,_| .jS,_| .lptr _,_| .fn ..,_| .ifc ..,_| .mis _,_=>rfl
 | .agg cs,h=>by simp only[AV.aq] at h;simp[pC,rW X cs h]
 | .bq cs,h=>by simp only[AV.aq] at h;simp[pC,rW X cs h]
theorem rW (X:Lb->Option (Nat×List IV)):∀xs:List AV,ai xs=[]->iG X xs=xs
 |[],_=>rfl
 |x::r,h=>by simp only[ai,ah0] at h;simp[iG,PE X x h.1,rW X r h.2]
end
def PF (X:Lb->Option (Nat×List IV)) (xs:List IV):(ak xs).map (iG X)=ak xs:=by
 conv=>rhs;rw[<-ajJ (ak xs)]
 exact agX λcs aZ=>rW X cs (bc aZ)
def pE (g:Lb->AV->AV) (H:Hp):Hp:=λl=>match H l with
 | .live r=> .live ⟨r.sz,r.els.map λcs=>cs.map (g l)⟩
 |s=>s
def wM {g:Lb->AV->AV} {H:Hp} {l:Lb} {r:Row} (h:pE g H l= .live r):∃r0,H l= .live r0/\r=⟨r0.sz,r0.els.map λcs=>cs.map (g l)⟩:=by
 unfold pE at h;split at h
 ·rename_i r0 h0;simp only[Slot.live.injEq] at h;exact⟨r0,h0,h.symm⟩
 rename_i hn;exact absurd h (hn r)
def wN {g:Lb->AV->AV} {H:Hp} {l:Lb} (h:H l≠ .unused):pE g H l≠ .unused:=by
 unfold pE;split
 ·simp
 exact h
def ni {g:Lb->AV->AV} {H:Hp} (l:Lb):live (pE g H) l↔live H l:=by
 constructor
 ·rintro⟨r,h⟩;obtain⟨r0,h0,_⟩:=wM h;exact⟨r0,h0⟩
 rintro⟨r,h⟩;exact⟨_,by unfold pE;rw[h]⟩
theorem FI {f:AV->AV} (hf:∀x q,q∈(f x).aq->q∈x.aq):∀(cs:List AV) (q:Lb),q∈ai (cs.map f)->q∈ai cs
 |[],q,h=>h
 |x::r,q,h=>by
  simp only[agC,ai,agi] at h ⊢;exact h.imp (hf x q) (FI hf r q)
def Iq {S:St} {env:Env} {H:Hp} (g:Lb->AV->AV) (hg:∀l x (w:World) (β:Lb->Option Nat) (H:Hp) (I:Nat->Prop) v,RV w β H I x v->RV w β H I (g l x) v) (hl:∀l x q,q∈(g l x).aq->q∈x.aq) :
  eE S env H env (pE g H):=by
 intro K β a w _ _ hr;have Od:∀k,Im K β (pE g H) k↔Im K β H k:=by
  intro k;simp only[Im,ni]
 have d_:∀ls,ic w w β β H (pE g H) (Im K β H) (Im K β (pE g H)) ls:=λls=>
  ⟨⟨λk hk hs=>⟨(Od k).2 hk,hs,rfl⟩⟩,λl _ hl=>⟨(ni l).1 hl,rfl,λ_ _ _ h=>h⟩⟩
 refine⟨β,⟨hr.defers,hr.size,λn=>RV.mono _ _ (d_ _) (hr.jc n),?_,λl g0 h=>hr.own l g0 ((ni l).1 h),λl l' g0 h h'=>hr.inj l l' g0 ((ni l).1 h) ((ni l').1 h'),
  λn l h=>wN (hr.iq n l h),?_,hr.frame,?_,λl h=>⟨wN (hr.jv l h).1,λh2=>(hr.jv l h).2 ((ni l).1 h2)⟩,λl g0 h=>hr.fr l g0 ((ni l).1 h)⟩⟩
 ·intro l r h;obtain⟨r0,h0,rfl⟩:=wM h;obtain⟨h1,h2,h3⟩:=hr.rows l r0 h0;refine⟨h1,?_,?_⟩
  ·intro cs aZ;obtain⟨c0,Bf,rfl⟩:=agp.1 aZ;rw[eD];exact h2 c0 Bf
  cases hb:β l with
  |none=>rw[hb] at h3;simp only at h3;simp[h3]
  |some g0=>
  rw[hb] at h3;simp only at h3 ⊢;obtain⟨cur,e,cap,e1,e2,e3,e4,e5⟩:=h3;refine⟨cur,e,cap,e1,e2,e3,by simpa using e4,?_⟩;intro i j cs x hi hj;rw[ago,acF] at hi;obtain⟨c0,hi,rfl⟩:=hi;rw[ago,acF] at hj;obtain⟨x0,hj,rfl⟩:=hj;obtain⟨v,k1,k2⟩:=e5 i j c0 x0 hi hj;exact⟨v,k1,hg l _ _ _ _ _ _ (RV.mono _ _ (d_ _) k2)⟩
 ·intro l r h cs aZ q hq;obtain⟨r0,h0,rfl⟩:=wM h;obtain⟨c0,Bf,rfl⟩:=agp.1 aZ;exact wN (hr.cB l r0 h0 c0 Bf q (FI (hl l) _ _ hq))
 intro g0 cs h;obtain⟨h1,h2,h3⟩:=hr.iO g0 cs h;exact⟨(Od g0).2 h1,h2,dD.mono (d_ []).tojt h1 h2 h3⟩
def Kt (p:Lb->Bool) (l:Lb) (x:AV):AV:=if p l then norm x else x
def xQ {S:St} {env:Env} {H:Hp} (p:Lb->Bool):eE S env H env (pE (Kt p) H):=
 Iq _ (λl x w β H I v h=>by unfold Kt;split;exact RV.norm x v h;exact h) (λl x q h=>by
  unfold Kt at h;split at h
  ·rwa[uX] at h
  exact h)

def Mm {x y:Int} (h:x≠y):(x !=y)=true:=aj6
def qS (n:Int):(aC n).cells=[.int .i64 n]:=rfl
def Dz {P:Program} {G:Nat->Option (List IV)} [KN P G] (xs ys:List Int) (hx:xs.length<=B) :
  aj P G 44 [.list (xs.map aC),.list (ys.map aC)] (.bool (Fb xs ys)):=by
 refine au (cw 44 []) ajL ajO ajP ?_;simp only[↓aX,mX,seval,eD];by_cases hl:xs.length=ys.length
 ·rw[show((xs.length:Int) !=(ys.length:Int))=false by simp[hl]];simp only[↓aX,mX,seval,eD];refine dj (σ:={i:Nat // i<=xs.length/\∀j,j<i->xs[j]?=ys[j]?}) (λq=>[(0,.list (xs.map aC)),(1,.list (ys.map aC)),(12,.int .i64 xs.length),(13,.int .i64 q.1)]) (λq=>xs.length - q.1) ⟨0,ajL⟩ (λ_=>rfl) ?_ ?_
  ·exact qi
  rintro⟨i,hi,hs⟩;simp only[↓aX,mX,seval,eD];by_cases aF:i<xs.length
  ·rw[dT aF];obtain⟨x,nE⟩:=gE aF;obtain⟨y,zp⟩:∃y,ys[i]?=some y:=⟨_,af7 (hl▸aF)⟩;simp only[↓aX,mX,seval,pz,nE,zp,af9,mi,qS];refine⟨rfl,?_⟩;by_cases EL:x=y
   ·subst EL;have hw:=w1 i ajZ;rw[show(x !=x)=false by simp];simp only[↓aX,mX,seval,hw];refine⟨⟨i+1,aF,λj hj=> ?_⟩,ajM,rfl⟩;by_cases e:j=i
    ·rw[e,nE,zp]
    exact hs j ajK
   have cf:xs≠ys:=λe=>EL anB;rw[Mm EL];simp only[↓aX,mX,seval,qK cf]
  rw[dF aF];simp only[↓aX,mX,seval];have:xs=ys:=agV λj=>by
   by_cases hj:j<i
   ·exact hs j hj
   rw[agK ajK,agK ajK]
  rw[this,qJ]
 rw[show((xs.length:Int) !=(ys.length:Int))=true by simp;omega];have:xs≠ys:=λe=>hl (by rw[e]);simp only[↓aX,mX,seval,qK this]
def DA (d e:Doc) (i:Nat):List (Nat×AV):=[(2,.ptr (.loc 2) 1 0 0),(3,.ptr (.loc 3) 1 0 0),(17,.int .i64 d.length),(18,.int .i64 i)]
def Ir (d e:Doc):List (Lb×Row):=[(.loc 2,⟨1,[[.list (d.map Node.iv)]]⟩),(.loc 3,⟨1,[[.list (e.map Node.iv)]]⟩)]
def PG {P:Program} {G:Nat->Option (List IV)} [KN P G] (d e:Doc) (hd:mr d<=B)
  (hA:∀x∈d,∀y∈e,aj P G 43 [.list (aQ x.attrs),.list (aQ y.attrs)] (.bool (Fb x.attrs y.attrs)))
  (hN:∀x∈d,∀y∈e,aj P G 44 [.list (x.kids.map aC),.list (y.kids.map aC)] (.bool (Fb x.kids y.kids))) :
  aj P G 15 [Doc.av d,Doc.av e] (.bool (Fb d e)):=by
 refine au (cw 15 [.f 21 1 (.rw [.loc 2] []),.f 21 6 (.rw [.loc 3] []),.f 21 10 (.rw [] [.loc 6]),.f 21 11 (.rw [] [.loc 7]),.f 21 12 (.rw [] [.loc 6]),.f 21 13 (.rw [] [.loc 7])]) ajL aka ajP ?_;have xD:=kc d;simp only[↓aX,mX,seval,Doc.av,eD];by_cases hl:d.length=e.length
 ·rw[show((d.length:Int) !=(e.length:Int))=false by simp[hl]];simp only[↓aX,mX,seval,eD];refine b_ (σ:={i:Nat // i<=d.length/\∀j,j<i->d[j]?=e[j]?}) [.loc 2,.loc 3] (λq=>DA d e q.1) (λ_=>Ir d e) (λq=>d.length - q.1) ⟨0,ajL⟩
   (λ_=>rfl) ajN (by simp[ai,AV.aq,DA]) (by
    intro q r hr cs aZ l hl;simp only[Ir,aga,agf,agI] at hr;rcases hr with rfl|rfl<;>(simp only[af'] at aZ;subst aZ;simp[ai,AV.aq] at hl)) ?_ ?_
  ·exact eu ak1 (by unfold DA;repeat' constructor) ⟨rfl,rfl,trivial⟩
  rintro⟨i,hi,hs⟩;simp only[↓aX,mX,seval,DA,Ir,aR,aI];by_cases aF:i<d.length
  ·rw[dT aF];obtain⟨x,nE⟩:=gE aF;obtain⟨y,zp⟩:∃y,e[i]?=some y:=⟨_,af7 (hl▸aF)⟩;have NO:=af3 nE;have hym:=af3 zp;have stop:x≠y->Fb d e=false:=λh=>qK λhe=>h (by rw[he,zp] at nE;cases nE;rfl);have hw:=w1 i (by unfold B at hd;omega);simp only[↓aX,mX,seval,Doc.iE nE,Doc.iE zp,iY,Node.ax,Node.cs];refine⟨rfl,?_⟩;cases h1:(x.text==y.text) with
   |false=>
    have cf:x≠y:=(by rintro rfl;simp at h1);simp only[↓aX,mX,seval,stop cf]
   |true=>
   simp only[↓aX,mX,seval];cases h2:(x.s==y.s) with
   |false=>
    have cf:x≠y:=(by rintro rfl;simp at h2);simp only[↓aX,mX,seval,af1,stop cf]
   |true=>
   simp only[↓aX,mX,seval,af4];cases h3:(x.parent !=y.parent) with
   |true=>
    have cf:x≠y:=(by rintro rfl;simp at h3);simp only[↓aX,mX,seval,stop cf]
   |false=>
   simp only[↓aX,mX,seval];refine ah (hA x NO y hym) ?_;by_cases h4:x.attrs=y.attrs
   ·rw[h4,qJ];simp only[↓aX,mX,seval,af4];refine ah (hN x NO y hym) ?_;by_cases h5:x.kids=y.kids
    ·rw[h5,qJ];simp only[↓aX,mX,seval,af4,hw];refine⟨⟨i+1,aF,λj hj=> ?_⟩,ajM,eu ?_ ⟨rfl,rfl,rfl,rfl,trivial⟩ ⟨rfl,rfl,trivial⟩⟩
     ·by_cases ej:j=i
      ·rw[ej,nE,zp];congr 1;exact Node.ext' aj8 akN h4 ak6 h5
      exact hs j ajK
     intro l uj hu;by_cases e0:l= .loc 2
     ·subst e0;simp
     by_cases e1:l= .loc 3
     ·subst e1;simp
     exact Dq
    have cf:x≠y:=(by rintro rfl;exact h5 rfl);rw[qK h5];simp only[↓aX,mX,seval,af1,stop cf]
   have cf:x≠y:=(by rintro rfl;exact h4 rfl);rw[qK h4];simp only[↓aX,mX,seval,af1,stop cf]
  rw[dF aF];simp only[↓aX,mX,seval];have:d=e:=agV λj=>by
   by_cases hj:j<i
   ·exact hs j hj
   rw[agK ajK,agK ajK]
  rw[this,qJ]
 rw[show((d.length:Int) !=(e.length:Int))=true by simp;omega];have:d≠e:=λh=>hl (by rw[h]);simp only[↓aX,mX,seval,qK this]

def vq (m:Int) (j:Nat) (a:List Node) (k:Nat) (h:k∈bT m j a):j<=k/\k<j+a.length:=by
 obtain⟨h1,x,h2,_⟩:=(tE m j a k).1 h;have:=(afY.1 h2).1;omega
theorem zY (m:Int):∀(j:Nat) (a:List Node),(bT m j a).length<=a.length
 |j,[]=>by simp[bT]
 |j,x::r=>by
  have:=zY m (j+1) r;simp only[bT,age,agd];split<;>simp<;>omega
theorem vt (d:Doc):∀(f g n:Nat),d.length - n<=f->d.length - n<=g->ij d f n=ij d g n
 |0,0,n,_,_=>rfl
 |0,g+1,n,h,_=>by
  have:d[n]?=none:=agK ajK;simp[ij,this]
 |f+1,0,n,_,h=>by
  have:d[n]?=none:=agK ajK;simp[ij,this]
 |f+1,g+1,n,h1,h2=>by
  simp only[ij];cases hx:d[n]? with
  |none=>rfl
  |some x=>
  simp only;congr 1;refine agX λk hk=> ?_;have:=vq _ _ _ _ hk;exact vt d f g k ajK ajK
def ky (d:Doc) (n:Nat):Tree:=ij d d.length n
def PI {d:Doc} {n:Nat} {x:Node} (hx:d[n]?=some x):ky d n= .mk x.text x.s x.attrs ((bT n (n+1) (d.drop (n+1))).map (ky d)):=by
 have aF:=(afY.1 hx).1;obtain⟨f,hf⟩:∃f,d.length=f+1:=⟨d.length - 1,ajK⟩;unfold ky;rw[hf,ij,hx];simp only;congr 1;refine agX λk hk=> ?_;have:=vq _ _ _ _ hk;rw[ahe] at this;exact vt d f (f+1) k ajK ajK
def Mn {l:Lb} {sz:Nat} {xs:List IV} {H:Hp} (h1:H l= .live ⟨sz,ak xs⟩) (h2:l.fresh=true) (h3:Flat xs) :
  ∀q s ys,(λp:Lb=>if p=l then some (sz,xs) else none) q=some (s,ys)->H q= .live ⟨s,ak ys⟩/\q.fresh=true/\Flat ys:=by
 intro q s ys hq;simp only at hq;split at hq
 ·rename_i e;subst e;simp only[afZ,agq] at hq;obtain⟨rfl,rfl⟩:=hq;exact⟨h1,h2,h3⟩
 cases hq
def FJ (m:Int) (j:Nat) (l:List Node) (i:Nat) (x:Node) (h:l[i]?=some x):bT m j (l.take (i+1))=bT m j (l.take i)++(if x.parent=m then [j+i] else []):=by
 have aF:=(afY.1 h).1;rw[agz,h,kR];simp only[ahR,bT,agb,agA];rw[ahK ajK]
def Tz {P:Program} {G:Nat->Option (List IV)} [KN P G] (d:Doc) (hd:mr d<=B) (n:Nat) (hn:n<d.length)
  (hK:∀k,n<k->k<d.length->aj P G 40 [Doc.av d,.int .i64 (k:Int)] (ky d k).av):aj P G 40 [Doc.av d,.int .i64 (n:Int)] (ky d n).av:=by
 refine cO (cw 40 [.f 13 1 (.rw [.loc 5] []),.f 13 3 (.rw [.loc 5] []),.f 13 5 (.rw [.loc 5] []),.f 13 6 (.rw [] [.loc 19]),.f 13 8 (.rw [] [.loc 6]),.f 13 9 (.rw [] [.loc 6]),.f 38 1 (.rw [.loc 6] []),.f 38 2 (.rw [.loc 2] []),.f 38 8 (.rw [] [.loc 6]),.b 21 .jf,.b 46 (.uJ (.loc 1000) (.loc 6) 3),.f 38 6 (.rw [] [.loc 1000,.loc 44])]) ajL aka ale ?_;have gV:B=1073741824:=rfl;have xD:=kc d;obtain⟨x,hx⟩:=gE hn;have VG:=vh (af3 hx);have PJ:=fS x.attrs;simp only[Node.wt] at VG;have gz:=w1 n;simp only[↓aX,mX,seval,Doc.av,eD,Doc.iE hx,iY,Node.ax,Node.cs];rw[lI 2 32 19 (aQ x.attrs) (kx _) (gn _) akQ ajN ajX];simp only[↓aX,mX,seval];refine⟨rfl,?_⟩;rw[ec];refine⟨_,_,(zW (λp:Lb=>if p= .loc 19 then some (2,aQ x.attrs) else none)
    [(1,.int .i64 n),(2,.ptr (.loc 2) 1 0 0),(4,.ptr (.loc 4) 4 0 0),(6,.ptr (.loc 6) 4 0 0)]
    [(.loc 2,⟨1,[[.list (d.map Node.iv)]]⟩),(.loc 4,⟨4,[[.bool false,.str [],.nil0,.nil0]]⟩),(.loc 6,⟨4,[[.bool x.text,.str x.s,.list (aQ x.attrs),.nil0]]⟩)] []
    (Mn ajR rfl (gn _)) ?_ ?_ ?_).trans (jW (q:= .loc 6) (cs:=[.bool x.text,.str x.s,.list (aQ x.attrs),.nil0]) (j:=3) (d:=1000) (sz:=4) rfl rfl rfl ajN),?_⟩
 ·simp[ai,AV.aq]
 ·rintro r hr cs aZ l hl;simp only[aga,agf,agI] at hr;rcases hr with rfl|rfl|rfl<;>(simp only[af'] at aZ;subst aZ;simp[ai,AV.aq] at hl)
 ·refine⟨?_,?_,?_,ajS,λl hl=>⟨id,λ_=>rfl⟩⟩
  ·intro l hf hu;exfalso;apply hu;cases l<;>simp_all[Lb.fresh,ae,Hp.none,mK]
  ·simp[dp,aD,aH,put,pC,fH]
  simp[eL,aD,mK,ae,aP,aA,aH,iG,pC,aE];exact af2 (by simp[aE])
 rw[dq];simp only[↓aX,mX,seval,aR,aI,gz];have xx:∀i,i<=d.length - (n+1)->((bT n (n+1) ((d.drop (n+1)).take i)).map (ky d)).length<=i:=λi hi=>by
  rw[eD];refine ag' (zY _ _ _) ?_;rw[agA];omega
 refine br (σ:={i:Nat // i<=d.length - (n+1)}) (λ_=>[.loc 2,.loc 4,.loc 6,.loc 1000]) (λ_ _=>false)
  (λq=>[(1,.int .i64 n),(2,.ptr (.loc 2) 1 0 0),(4,.ptr (.loc 4) 4 0 0),(6,.ptr (.loc 6) 4 0 0),(7,.int .i64 ((n+1+q.1:Nat):Int))])
  (λq=>[(.loc 2,⟨1,[[.list (d.map Node.iv)]]⟩),(.loc 4,⟨4,[[.bool false,.str [],.nil0,.nil0]]⟩),(.loc 6,⟨4,[[.bool x.text,.str x.s,.list (aQ x.attrs),.sl (.loc 1000) 4 0 ((bT n (n+1) ((d.drop (n+1)).take q.1)).map (ky d)).length]]⟩),
   (.loc 1000,⟨4,ak (aM ((bT n (n+1) ((d.drop (n+1)).take q.1)).map (ky d)))⟩)])
  (λq=>d.length - q.1) ⟨0,agO _⟩ (λ_=>rfl) (λq=>by simp[ai,AV.aq]) ?_ ⟨[],?_⟩ ?_
 ·exact aa5
 ·refine⟨?_,?_,?_,ajS,λl _=>⟨id,λ_=>rfl⟩⟩
  ·exact ow
  ·exact wz
  simp[eL,aD,ae,aP,aA,aH,ak,bT,aM]
 rintro⟨i,hi⟩;rw[dq];simp only[↓aX,mX,seval,aR,aI,eD];have Om:=xx i hi;by_cases aF:n+1+i<d.length
 ·rw[show decide (((n+1+i:Nat):Int)<(d.length:Int))=true by rw[agv];omega];obtain⟨y,hy⟩:∃y,d[n+1+i]?=some y:=⟨_,af7 aF⟩;have hyd:(d.drop (n+1))[i]?=some y:=by rw[ahv];exact hy
  have hw:IntKind.i64.wrap (((n+1+i:Nat):Int)+1)=((n+1+(i+1):Nat):Int):=ajW
  have eW:=FJ n (n+1) (d.drop (n+1)) i y hyd;have hr:∀(ρ:Lb->Lb) (xs:List IV),aP ρ ⟨4,ak xs⟩=⟨4,ak xs⟩:=λρ xs=>aK _ _ _;simp only[↓aX,mX,seval,Doc.iE hy,iY,Node.ax,Node.cs];cases qT:(y.parent==(n:Int)) with
  |false=>
   have cf:¬y.parent=(n:Int):=(by simpa using qT);rw[af8 cf,agb] at eW;simp only[↓aX,mX,seval,hw];refine⟨⟨i+1,ajK⟩,ajM,[],?_⟩;refine⟨?_,?_,?_,ajS,λl _=>⟨id,λ_=>rfl⟩⟩
   ·exact ow
   ·exact wz
   simp only[eL,hr,eW];simp[aD,ae,aP,aA,aH]
  |true=>
  have he:y.parent=(n:Int):=by simpa using qT
  rw[agc he] at eW;simp only[↓aX,mX,seval];refine⟨rfl,dG (hK (n+1+i) ajK aF) ?_⟩;simp only[↓aX,mX,seval,Tree.av];rw[bX 4 72 44 1000 (aM ((bT n (n+1) ((d.drop (n+1)).take i)).map (ky d))) (.agg [.bool (ky d (n+1+i)).text,.str (ky d (n+1+i)).s,.list (aQ (ky d (n+1+i)).attrs),.list (aM (ky d (n+1+i)).kids)]) ajR (by rw[ar,eD]) rfl aj0
   (by rw[eD] at Om;omega) ajN ajN ajX]
  simp only[↓aX,mX,seval,hw];refine⟨akc,⟨i+1,ajK⟩,ajM,[(.loc 1000,.loc 44)],?_⟩;refine⟨?_,?_,?_,ajS,?_⟩
  ·exact ow
  ·exact wz
  ·simp only[eL,hr,eW,ag2,ed];simp[aD,ae,aP,aA,aH,aM,Tree.mY,Tree.cs,fR]
  exact aa7
 rw[show decide (((n+1+i:Nat):Int)<(d.length:Int))=false by rw[ahn];omega];have je:(d.drop (n+1)).take i=d.drop (n+1):=af2 (by rw[ahe];omega);rw[je];simp only[↓aX,mX,seval];refine⟨4,aM ((bT n (n+1) (d.drop (n+1))).map (ky d)),0,_,[.bool x.text,.str x.s,.list (aQ x.attrs),.sl (.loc 1000) 4 0 _],rfl,rfl,rfl,ajL,by rw[ar,eD,agh];exact af6 _,gd _,?_⟩;simp only[↓aX,mX,seval,agj,af2 (show(aM ((bT n (n+1) (d.drop (n+1))).map (ky d))).length<=(bT n (n+1) (d.drop (n+1))).length by rw[ar,eD];exact af6 _)];rw[PI hx];rfl

def TA {sz b d n:Nat} {l l2:Lb} {els:List (List AV)} {cs:List AV} {H:Hp} (hl:H l= .live ⟨sz,els⟩) (hn:els.length=n) (h2:H l2= .live ⟨sz,[cs]⟩) (j6:AV.oF cs)
  (hb:(n+1)*b<=140737488355328) (h0:0<b) (hd:l≠l.app d) (hu:H (l.app d)= .unused) :
  iQ sz b d (.sl l sz 0 n) (.sl l2 sz 0 1) H=some (.sl (l.app d) sz 0 (n+1),aS (aS H l .dead) (l.app d) (.live ⟨sz,els++[cs]⟩)):=by
 grind [iQ,kG]
def PK {sz b d n i m:Nat} {l l2:Lb} {els els2:List (List AV)} {xs:List IV} {H:Hp} (hl:H l= .live ⟨sz,els⟩) (hn:els.length=n) (h2:H l2= .live ⟨sz,els2⟩) (hi:i+m<=els2.length)
  (hx:(els2.drop i).take m=ak xs) (hf:Flat xs) (hm:xs.length=m) (hb:(n+m)*b<=140737488355328) (h0:0<b) (hd:l≠l.app d) (hu:H (l.app d)= .unused) :
  iQ sz b d (.sl l sz 0 n) (.sl l2 sz i m) H=some (.sl (l.app d) sz 0 (n+m),aS (aS H l .dead) (l.app d) (.live ⟨sz,els++ak xs⟩)):=by
 have hlx:(ak xs).length=m:=ajV
 unfold iQ;have hs:kG sz (.sl l2 sz i m) H=some (ak xs):=by grind [kG]
 rw[hs,af_,af8 al']
 grind
def PL (rs:List (Lb×Row)) (l:Lb):eQ rs l= .unused\/∃r,eQ rs l= .live r:=by
 induction rs with
 |nil=>exact .inl rfl
 |cons p t ih=>
 obtain⟨l0,r0⟩:=p;simp[eQ,aS]
 grind
theorem TB {rs:List (Lb×Row)} {l:Lb} {r:Row} (h:(l,r)∈rs) (hu:∀r',(l,r')∈rs->r'=r):eQ rs l= .live r:=by
 rcases PL rs l with h1|⟨r',h1⟩
 ·grind [qI,agp]
 rw[h1,hu r' (fQ h1)]
theorem FK {rs:List (Lb×Row)} {l:Lb} (h:l∉rs.map Prod.fst):eQ rs l= .unused:=by
 rcases PL rs l with h1|⟨r,h1⟩
 ·grind
 exact absurd (agp.2 ⟨_,fQ h1,rfl⟩) h
def Is (a b:List (Lb×Row)) (l:Lb):eQ (a++b) l=match eQ a l with| .unused=>eQ b l|s=>s:=by
 induction a with
 |nil=>rfl
 |cons p t ih=>
 obtain⟨l0,r0⟩:=p;simp[List.cons_append,eQ,aS]
 grind
theorem vu {ρ:Lb->Lb} {H:Hp}:∀{a b:List (Lb×Row)},eL ρ H a->eL ρ H b->eL ρ H (a++b)
 |[],b,_,h=>h
 |(l,r)::a,b,h1,h2=>⟨h1.1,vu h1.2 h2⟩
theorem PM {ρ:Lb->Lb} {H:Hp}:∀{a:List (Lb×Row)},(∀q∈a,H (ρ q.1)= .live (aP ρ q.2))->eL ρ H a
 |[],_=>trivial
 |(l,r)::a,h=>⟨h (l,r) ajL,PM λq hq=>h q anv⟩
def KL (i:Nat):Lb:= .nest (.loc 1000) i 4
def oY (i:Nat) (ks:List Int):AV:=if ks=[] then .nil0 else .sl (KL i) 1 0 ks.length
def pF (i:Nat) (x:Node):List AV:=[.bool x.text,.str x.s,.list (aQ x.attrs),.int .i64 x.parent,oY i x.kids]
def qU (d:List Node):List (List AV):=d.mapIdx pF
def DB (ks:List Int):Row:=⟨1,ak (ks.map aC)⟩
def sJ (d:List Node):List (Lb×Row):=(List.range d.length).filterMap λi=>(d[i]?).bind λx=>if x.kids=[] then none else some (KL i,DB x.kids)
def ma (q:Tree×Int):IV:= .agg [.bool q.1.text,.str q.1.s,.list (aQ q.1.attrs),.list (aM q.1.kids),.int .i64 q.2]
def zZ (d:List Node) (l:List (Tree×Int)):List (Lb×Row):=[(.loc 2,⟨1,[[.nil0]]⟩),(.loc 4,⟨1,[[.sl (.loc 1000) 5 0 d.length]]⟩),(.loc 1000,⟨5,qU d⟩),(.loc 1001,⟨5,ak (l.map ma)⟩)]++sJ d
theorem oZ {d:List Node} {l:Lb} {r:Row}:(l,r)∈sJ d↔∃i x,d[i]?=some x/\x.kids≠[]/\l=KL i/\r=DB x.kids:=by
 grind [sJ]
theorem PN {i j:Nat} (h:KL i=KL j):i=j:=by simpa[KL] using h
def rG {d:List Node} {i:Nat} {x:Node} (h:d[i]?=some x) (hk:x.kids≠[]):eQ (sJ d) (KL i)= .live (DB x.kids):=by
 grind [TB,oZ,PN]
def Ku {d:List Node} {l:Lb} (h:∀i,l≠KL i):eQ (sJ d) l= .unused:=by
 grind [FK,oZ]
def z6 (d:List Node) (n:Nat):eQ (sJ d) (.loc n)= .unused:=Ku λi=>by simp[KL]
def o3 (d:List Node):(qU d).length=d.length:=by simp[qU]
def o4 (d:List Node) (i:Nat):(qU d)[i]?=d[i]?.map (pF i):=by simp[qU]
def Mo (d:List Node):((sJ d).map Prod.fst).Nodup:=by
 have:(sJ d).map Prod.fst=(List.range d.length).filterMap λi=>(d[i]?).bind λx=>if x.kids=[] then none else some (KL i):=by
  grind [sJ]
 grind [List.nodup_range,afX,afZ,PN]
theorem FL {d:List Node} {l:Lb} (h:l∈(sJ d).map Prod.fst):∃i,l=KL i/\i<d.length:=by
 grind [oZ]
theorem Kv (d:List Node) (w:List (Tree×Int)):∀q∈zZ d w,∀cs∈q.2.els,∀l∈ai cs,l∈(zZ d w).map Prod.fst:=by
 intro q hq cs aZ l hl;simp only[zZ,agi,aga,agf,agI] at hq;rcases hq with(rfl|rfl|rfl|rfl)|hq
 ·grind [ai,AV.aq]
 ·grind [ai,AV.aq,zZ]
 ·simp only at aZ;obtain⟨i,hi⟩:=agE aZ;rw[o4,acF] at hi;obtain⟨x,hx,rfl⟩:=hi;unfold pF oY at hl;split at hl
  ·simp[ai,AV.aq] at hl
  rename_i hk;simp[ai,AV.aq] at hl;subst hl;simp only[zZ,ag2,agi];exact .inr (agp.2 ⟨_,oZ.2 ⟨i,x,hx,hk,rfl,rfl⟩,rfl⟩)
 ·grind [bc]
 obtain⟨l0,r0⟩:=q;obtain⟨i,x,_,_,rfl,rfl⟩:=oZ.1 hq;rw[bc aZ] at hl;simp at hl
def yJ (d:List Node) {l:Lb} (h:l.fresh=false):eQ (sJ d) l= .unused:=Ku λi e=>by subst e;simp[KL,Lb.fresh] at h
def Iu {α β:Type} {f:α->β} {l:List α} (h:l.Nodup) (hf:∀a∈l,∀b∈l,f a=f b->a=b):(l.map f).Nodup:=by
 rw[List.Nodup,List.pairwise_map];exact List.Pairwise.imp_of_mem (λha hb cf e=>cf (hf _ ha _ hb e)) h
def o5 {ls:List Lb} {ps:List (Nat×AV)} {rs:List (Lb×Row)} {env:Env} {H:Hp} {m:List (Lb×Lb)} (nf:∀l:Lb,l.fresh=false->H l= .unused) (e:dp (aD m) env ps) (r:eL (aD m) H rs)
  (yo:ls.Nodup) (hf:∀l∈ls,l.fresh=true/\(aD m l).fresh=true) (Ol:∀a∈ls,∀b∈ls,aD m a=aD m b->a=b):WU ls (λ_=>false) ps rs env H m:=
 ⟨λl h hu=>absurd (nf l h) hu,e,r,Iu yo Ol,λl hl=>⟨λ_=>(hf l hl).2,λh=>by rw[(hf l hl).1] at h;cases h⟩⟩
def rX {ρ:Lb->Lb} {H:Hp} {d:List Node} {w:List (Tree×Int)} (h2:H (ρ (.loc 2))= .live ⟨1,[[.nil0]]⟩) (h4:H (ρ (.loc 4))= .live ⟨1,[[.sl (ρ (.loc 1000)) 5 0 d.length]]⟩) (h5:H (ρ (.loc 1000))= .live (aP ρ ⟨5,qU d⟩)) (h6:H (ρ (.loc 1001))= .live ⟨5,ak (w.map ma)⟩)
  (hk:∀i x,d[i]?=some x->x.kids≠[]->H (ρ (KL i))= .live (DB x.kids)):eL ρ H (zZ d w):=by
 refine⟨by rw[h2];simp[aP,aA,aH],by rw[h4];simp[aP,aA,aH],h5,by rw[h6,aK],PM λq hq=> ?_⟩;obtain⟨l,r⟩:=q;obtain⟨i,x,h1,h3,rfl,rfl⟩:=oZ.1 hq
 grind [DB,aK]
def Mp (y:IV) (r:List IV):ak (y::r)=y.cells.map IV.dw::ak r:=rfl
def TC (q:Tree×Int):(ma q).cells=[.bool q.1.text,.str q.1.s,.list (aQ q.1.attrs),.list (aM q.1.kids),.int .i64 q.2]:=rfl
def Kw (d:List Node):List Lb:=[.loc 2,.loc 4,.loc 1000,.loc 1001]++(sJ d).map Prod.fst
theorem FM (d:List Node) (w:List (Tree×Int)):(zZ d w).map Prod.fst=Kw d:=by simp[Kw,zZ]
theorem PO (d:List Node):Kw d=[.loc 2,.loc 4,.loc 1000,.loc 1001]++(sJ d).map Prod.fst:=rfl
theorem lk {d:List Node} {l:Lb} (h:l∈Kw d):l= .loc 2\/l= .loc 4\/l= .loc 1000\/l= .loc 1001\/∃i,l=KL i:=by
 grind [PO,FL]
theorem wO (d:List Node):(Kw d).Nodup:=by
 rw[PO];refine List.nodup_append.2 ⟨ajN,Mo d,?_⟩
 grind [FL,KL]
def pG (d:List Node):(Kw d++[Lb.loc 8]).Nodup:=by
 grind [wO,lk,KL]
def z7 (ρ:Lb->Lb) (d:List Node) (h:∀i x,d[i]?=some x->x.kids≠[]->ρ (KL i)=KL i):aP ρ ⟨5,qU d⟩=⟨5,qU d⟩:=by
 simp[aP,Row.mk.injEq,agt];refine agV λi=> ?_;rw[ago,o4];cases hx:d[i]? with
 |none=>rfl
 |some x=>
 grind [pF,oY,aA,aH]
def Yi (l:List (Tree×Int)):Flat (l.map ma):=u0 ma (by
 intro x z hz cs;simp only[ma,IV.cells,aga,agf,agI] at hz;rcases hz with rfl|rfl|rfl|rfl|rfl<;>simp) l
def FN {d:List Node} {p n:Int} {m:Nat} (h:∀y∈d,y.kids.length<=m):∀y∈kQ d p n,y.kids.length<=m+1:=by
 grind [kQ]
def TD (d:List Node) (w:List (Tree×Int)) (r:Row):eQ (zZ d w++[(.loc 8,r)])=aS (eQ (zZ d w)) (.loc 8) (.live r):=by
 funext l;rw[Is];by_cases e:l= .loc 8
 ·subst e;have:eQ (zZ d w) (.loc 8)= .unused:=FK λhm=>by
   grind [FM,lk,KL]
  rw[this];rfl
 rw[an _ _ e];cases h:eQ (zZ d w) l with
 |unused=>simp[eQ,aS,e,Hp.none]
 |dead=>rfl
 |live r=>rfl
def TE (d:List Node) (w:List (Tree×Int)) (xs:List IV):∀q∈zZ d w++[((.loc 8:Lb),(⟨5,ak xs⟩:Row))],∀cs∈q.2.els,∀l∈ai cs,l∈Kw d++[Lb.loc 8]:=by
 intro q hq cs aZ l hl
 grind [Kv,FM,bc]
def mw {d:List Node} {l:Lb} (h:l∈Kw d++[Lb.loc 8]):l= .loc 2\/l= .loc 4\/l= .loc 1000\/l= .loc 1001\/l= .loc 8\/∃i,l=KL i:=by
 grind [lk]
def abV {a b:Lb} (ha:a= .loc 2\/a= .loc 4\/a= .loc 1000\/a= .loc 1001\/a= .loc 8\/∃i,a=KL i) (hb:b= .loc 2\/b= .loc 4\/b= .loc 1000\/b= .loc 1001\/b= .loc 8\/∃i,b=KL i) :
  aD [(.loc 1000,.loc 43)] a=aD [(.loc 1000,.loc 43)] b->a=b:=by
 rcases ha with rfl|rfl|rfl|rfl|rfl|⟨i,rfl⟩<;>rcases hb with rfl|rfl|rfl|rfl|rfl|⟨j,rfl⟩<;>simp[KL,aD]
def aea {a:Lb} (ha:a= .loc 2\/a= .loc 4\/a= .loc 1000\/a= .loc 1001\/a= .loc 8\/∃i,a=KL i):a.fresh=true/\(aD [(.loc 1000,.loc 43)] a).fresh=true:=by
 grind [KL,aD,Lb.fresh]
def abW {q:Nat} {a b:Lb} (ha:a= .loc 2\/a= .loc 4\/a= .loc 1000\/a= .loc 1001\/a= .loc 8\/∃i,a=KL i) (hb:b= .loc 2\/b= .loc 4\/b= .loc 1000\/b= .loc 1001\/b= .loc 8\/∃i,b=KL i) :
  aD [(.loc 1000,.loc 43),(KL q,.loc 61)] a=aD [(.loc 1000,.loc 43),(KL q,.loc 61)] b->a=b:=by
 rcases ha with rfl|rfl|rfl|rfl|rfl|⟨i,rfl⟩<;>rcases hb with rfl|rfl|rfl|rfl|rfl|⟨j,rfl⟩<;>simp[KL,aD]
 all_goals (try split)<;>(try split)<;>simp_all
def frq {q:Nat} {a:Lb} (ha:a= .loc 2\/a= .loc 4\/a= .loc 1000\/a= .loc 1001\/a= .loc 8\/∃i,a=KL i):a.fresh=true/\(aD [(.loc 1000,.loc 43),(KL q,.loc 61)] a).fresh=true:=by
 grind [KL,aD,Lb.fresh]
def kX (d:List Node):Lb->Option (Nat×List IV):=λl=>match l with
 | .nest l i j=>if l= .loc 1000/\j=4 then(d[i]?).bind λx=>if x.kids=[] then none else some (1,x.kids.map aC) else none
 |_=>none
def abX {d:List Node} {i:Nat} {x:Node} (h:d[i]?=some x) (hk:x.kids≠[]):kX d (KL i)=some (1,x.kids.map aC):=by
 simp[kX,KL,h,hk]
def Ky {d:List Node} {l:Lb} {sz:Nat} {xs:List IV} (h:kX d l=some (sz,xs)):∃i x,d[i]?=some x/\x.kids≠[]/\l=KL i/\sz=1/\xs=x.kids.map aC:=by
 unfold kX at h;split at h
 ·rename_i l0 i j;split at h
  ·rename_i hc;obtain⟨rfl,rfl⟩:=hc;obtain⟨x,h1,h2⟩:=afX.1 h;split at h2
   ·grind
   rename_i hk;simp at h2;exact⟨i,x,h1,hk,rfl,h2.1.symm,h2.2.symm⟩
  grind
 grind
def Iv (d:List Node) (n:Nat):kX d (.loc n)=none:=rfl
def Mq (d:List Node):((qU d).map λcs=>cs.map (Kt (λl=>decide (l= .loc 1000)) (.loc 1000))).map (iG (kX d))=ak (d.map Node.iv):=by
 refine agV λi=> ?_;rw[ago,ago,o4,uY,ago];cases hx:d[i]? with
 |none=>rfl
 |some x=>
 have hn:Kt (λl=>decide (l=Lb.loc 1000)) (.loc 1000)=norm:=by rfl
 simp only[af9,Node.ax,Node.cs,pF,oY,hn];by_cases hk:x.kids=[]
 ·simp[hk,norm,iG,pC,IV.dw]
 simp_all[agC,ag6,norm,iG,pC,abX,IV.dw,af2]
structure MdS (x:Tree) where
 d:List Node
 l:List (Tree×Int)
 hw:whole d l=ay x
 hp:∀y∈l,y.2<(d.length:Int)
 hc:d.length+aJ (l.map Prod.fst)=x.cC
 hb:bH (l.map Prod.fst)<=B
 hk:∀y∈d,y.kids.length<=d.length
def edD:List Ed:=[.f 27 1 (.rw [.loc 4] []),.f 27 4 (.rw [.loc 6] []),.f 27 7 (.rw [.loc 6] []),.f 27 10 (.rw [.loc 6] []),.f 27 11 (.rw [] [.loc 38]),.f 27 13 (.rw [.loc 6] []),.f 48 1 (.rw [.loc 4] []),.f 48 3 (.rw [.loc 6] []),.f 48 5 (.rw [.loc 4] []),.f 48 7 (.rw [.loc 6] []),.a 17 .jf,.p 38,.l 42,.f 27 16 (.rw [.loc 42] [.loc 1000,.loc 43]),.f 27 18 (.rw [] [.loc 4]),.f 48 10 (.rw [.loc 43] []),.f 48 13 (.rw [] [.loc 61,.nest (.loc 1000) 0 4]),.f 48 16 (.rw [] [.loc 43]),.l 17,.a 8 (.own 8 5),.b 83 .jf,.b 83 (.uJ (.loc 1000) (.loc 4) 0)]
def isL (k:Nat):AC->Bool
 | .block i (.loop _)=>i==k
 |_=>false
def isR (k:Nat):AC->Bool
 | .nD l=>l.any λi=>i.d==some k
 |_=>false
def abY:Option AC->AC
 |some (.block _ (.loop c))=>c
 |_=> .skip
noncomputable def d_C:AC:=abY ((Ds 38 edD).Se (isL 2))
noncomputable def d_R:AC:=((Ds 38 edD).Se (isR 79)).getD .skip
def aeb:=BI d_C
def aec:=BI d_R
def aed (C R:AC):=XW 38 edD λx=>(((x.fst (isR 79) λ_=>R).1).fst (isL 2) λ_=> .block 2 (.loop C)).1
set_option maxHeartbeats 1000000 in
def DC {P:Program} {G:Nat->Option (List IV)} {Q:ir} {ks:List It} {E:Env} {H:Hp} {d2:List Node} {n:Nat} {t:Tree} {p:Int} {r:List (Tree×Int)} (xx:t.kids.length<=B) (Si:r.length<=B)
  (h0:∃m,WU (Kw d2++[.loc 8]) (λ_=>false) [(2,.ptr (.loc 2) 1 0 0),(4,.ptr (.loc 4) 1 0 0),(5,.sl (.loc 1001) 5 0 (r.length+1)),(7,.int .i64 n),(8,.sl (.loc 8) 5 0 (0:Nat)),(66,.list (aM t.kids)),(67,.int .i64 t.kids.length),(68,.int .i64 (0:Nat))] (zZ d2 ((t,p)::r)++[(.loc 8,⟨5,ak (((t.kids.take 0).map λk=>(k,(n:Int))).map ma)⟩)]) E H m)
  (hk:∀E' H',(∃m,WU (Kw d2) (λ_=>false) [(2,.ptr (.loc 2) 1 0 0),(4,.ptr (.loc 4) 1 0 0),(5,.sl (.loc 1001) 5 0 ((t.kids.map λk=>(k,(n:Int)))++r).length)] (zZ d2 ((t.kids.map λk=>(k,(n:Int)))++r)) E' H' m)->go ⟨P,G,84⟩ Q ks E' H') :
  oL ⟨P,G,84⟩ Q d_C (.yF 2:: .code d_R::ks) E H:=by
 have gV:B=1073741824:=rfl;refine br (σ:={j:Nat // j<=t.kids.length}) (λ_=>Kw d2++[.loc 8]) (λ_ _=>false)
  (λj=>[(2,.ptr (.loc 2) 1 0 0),(4,.ptr (.loc 4) 1 0 0),(5,.sl (.loc 1001) 5 0 (r.length+1)),(7,.int .i64 n),(8,.sl (.loc 8) 5 0 j.1),(66,.list (aM t.kids)),(67,.int .i64 t.kids.length),(68,.int .i64 j.1)])
  (λj=>zZ d2 ((t,p)::r)++[(.loc 8,⟨5,ak (((t.kids.take j.1).map λk=>(k,(n:Int))).map ma)⟩)]) (λj=>t.kids.length - j.1) ⟨0,Nat.zero_le _⟩ (λ_=>by rw[List.map_append,FM];rfl) (λj=>by simp[ai,AV.aq,Kw]) (λj=>TE d2 _ _) h0 ?_
 rintro⟨j,hj⟩;have Yj:∀n,eQ (sJ d2) (.loc n)= .unused:=z6 _;rw[dq];have hH:eQ (zZ d2 ((t,p)::r)++[(.loc 8,⟨5,ak (((t.kids.take j).map λk=>(k,(n:Int))).map ma)⟩)]) =
   aS (eQ (zZ d2 ((t,p)::r))) (.loc 8) (.live ⟨5,ak (((t.kids.take j).map λk=>(k,(n:Int))).map ma)⟩):=TD _ _ _
 rw[hH];have kE:(((t.kids.take j).map λk=>(k,(n:Int))).map ma).length=j:=by rw[List.length_map,List.length_map,List.length_take];omega
 rw[aeb];simp only[↓aX,mX,seval,zZ,List.cons_append,List.nil_append,aR,aI,ar];by_cases aF:j<t.kids.length
 ·rw[dT aF];obtain⟨k,hkk⟩:∃k,t.kids[j]?=some k:=⟨_,List.getElem?_eq_getElem aF⟩;have hw:=w1 j;have za:((t.kids.take (j+1)).map λk=>(k,(n:Int))).map ma=((t.kids.take j).map λk=>(k,(n:Int))).map ma++[ma (k,(n:Int))]:=by rw[List.take_add_one,hkk];simp
  simp only[↓aX,mX,seval,dc,hkk,fa,Tree.ax,Tree.cs,Yj];rw[bX 5 80 77 8 (((t.kids.take j).map λk=>(k,(n:Int))).map ma) (.agg [.bool k.text,.str k.s,.list (aQ k.attrs),.list (aM k.kids),.int .i64 n]) ajR kE rfl aj0 ajK ajN ajN (by simp[ae,Yj])];simp only[↓aX,mX,seval,hw];refine⟨⟨j+1,aF⟩,ajM,[(.loc 8,.loc 77)],?_⟩;show WU _ _ _ (zZ d2 ((t,p)::r)++[(.loc 8,_)]) _ _ _;refine o5 ?_ ?_ (vu (rX ?_ ?_ ?_ ?_ ?_) ⟨?_,trivial⟩) (pG _) ?_ ?_
  ·intro l hf;have:=yJ d2 hf;cases l<;>simp_all[Lb.fresh,ae]
  ·simp[dp,aD,aH,put,ar,KL]
  ·simp[aD,ae,KL]
  ·simp[aD,ae,KL]
  ·rw[z7 _ _ (λi y _ _=>by simp[aD,KL])];simp[aD,ae]
  ·simp[aD,ae,ak,ma,IV.cells,IV.dw]
  ·intro i y h1 h2;have:=rG h1 h2;simp[aD,KL,ae] at this ⊢;exact this
  ·simp only[za,aK];simp[aD,ae,ma]
  ·intro l hl;rcases List.mem_append.1 hl with hl|hl
   ·rcases lk hl with rfl|rfl|rfl|rfl|⟨i,rfl⟩<;>simp[KL,Lb.fresh,aD]
   simp only[List.mem_singleton] at hl;subst hl;simp[KL,Lb.fresh,aD]
  intro a ha b hb;have Br:a= .loc 2\/a= .loc 4\/a= .loc 1000\/a= .loc 1001\/a= .loc 8\/∃i,a=KL i:=by
   rcases List.mem_append.1 ha with h|h
   ·rcases lk h with h|h|h|h|h<;>simp[h]
   simp only[List.mem_singleton] at h;simp[h]
  have Oc:b= .loc 2\/b= .loc 4\/b= .loc 1000\/b= .loc 1001\/b= .loc 8\/∃i,b=KL i:=by
   rcases List.mem_append.1 hb with h|h
   ·rcases lk h with h|h|h|h|h<;>simp[h]
   simp only[List.mem_singleton] at h;simp[h]
  rcases Br with rfl|rfl|rfl|rfl|rfl|⟨i,rfl⟩<;>rcases Oc with rfl|rfl|rfl|rfl|rfl|⟨j,rfl⟩<;>simp[KL,aD]
 have aee:j=t.kids.length:=ajK
 subst aee;rw[show decide ((t.kids.length:Int)<(t.kids.length:Int))=false by simp];have Bg:Mg (.int .i64 1) (r.length+1)=some 1:=zS .i64 1 _ ajK;simp only[↓aX,mX,seval,aec,nH,nG,Pu,Pv,Bg,Option.bind_some,Option.map_some,Option.isSome_none,List.take_length,Nat.add_sub_cancel];rw[PK (sz:=5) (b:=80) (d:=82) (l:= .loc 8) (l2:= .loc 1001) (els:=ak ((t.kids.map λk=>(k,(n:Int))).map ma)) (els2:=ak (ma (t,p)::r.map ma)) (xs:=r.map ma) ajR alL ajR
  (by simp[ak];omega) (by simp[ak];exact List.take_of_length_le ajL) (Yi r) ajL ajK ajN aj3 (by simp[Lb.app,Lb.fresh,ae,Yj])]
 simp only[↓aX,mX,seval];refine hk _ _ ⟨[(.loc 1001,.loc 82)],?_⟩;show WU _ _ _ (zZ d2 ((t.kids.map λk=>(k,(n:Int)))++r)) _ _ _;refine o5 ?_ ?_ (rX ?_ ?_ ?_ ?_ ?_) (wO _) ?_ ?_
 ·intro l hf;have:=yJ d2 hf;cases l<;>simp_all[Lb.fresh,ae]
 ·simp[dp,aD,aH,put,KL]
 ·simp[aD,ae,KL]
 ·simp[aD,ae,KL]
 ·rw[z7 _ _ (λi y _ _=>by simp[aD,KL])];simp[aD,ae]
 ·simp[aD,ae,ak]
 ·intro i y h1 h2;have:=rG h1 h2;simp[aD,KL,ae] at this ⊢;exact this
 ·intro l hl;rcases lk hl with rfl|rfl|rfl|rfl|⟨i,rfl⟩<;>simp[KL,Lb.fresh,aD]
 exact abf
set_option maxHeartbeats 1000000 in
set_option maxHeartbeats 1000000 in
def PQ {P:Program} {G:Nat->Option (List IV)} [KN P G] (x:Tree) (hx:x.wt<=B)
  (hI:aj P G 75 [x.av] (.bool x.cA)):aj P G 38 [x.av] (.bq [Doc.av (c_ x).1,.int .i64 (c_ x).2]):=by
 refine cO (XX (aed d_C d_R)) ajL akb alM ?_;have gV:B=1073741824:=rfl;simp only[↓aX,mX,seval,Tree.av];refine ah hI ?_;cases hg:x.cA with
 |false=>
  simp only[↓aX,mX,seval,Bool.not_false,cS];simp[norm,bP,c_,hg,Doc.av]
 |true=>
 simp only[↓aX,mX,seval,Bool.not_true];have Iw:=x.wD;rw[uR (sz:=5) (d:=17) (cs:=[.bool x.text,.str x.s,.list (aQ x.attrs),.list (aM x.kids),.int .i64 (-1)]) alJ ajX rfl ajN];simp only[↓aX,mX,seval];rw[ec];refine⟨_,_,jW (q:= .loc 4) (cs:=[.nil0]) (j:=0) (d:=1000) (sz:=5) ajR rfl ajX ajN,?_⟩;simp only[↓aX,mX,seval];refine br (σ:=MdS x) (λq=>Kw q.d) (λ_ _=>false)
  (λq=>[(2,.ptr (.loc 2) 1 0 0),(4,.ptr (.loc 4) 1 0 0),(5,.sl (.loc 1001) 5 0 q.l.length)]) (λq=>zZ q.d q.l) (λq=>aJ (q.l.map Prod.fst))
  {d:=[],l:=[(x,-1)],hw:=Fs x,hp:=by simp,hc:=by simp[aJ],hb:=by simp[bH,hx],hk:=by simp} (λq=>FM _ _) (λq=>by simp[ai,AV.aq,Kw]) (λq=>by rw[<-FM _ q.l];exact Kv q.d q.l) ⟨[(.loc 1001,.loc 17)],?_⟩ ?_
 ·refine o5 ?_ ?_ ?_ (wO _) ?_ ?_
  ·intro l hf;cases l<;>simp_all[Lb.fresh,ae,Hp.none]
  ·exact wz
  ·refine rX ?_ ?_ ?_ ?_ ?_
   ·simp[aD,ae]
   ·simp[aD,ae]
   ·simp[aD,ae,aP,qU]
   ·simp[aD,ae,ak,ma,IV.cells,IV.dw]
   intro i y h;simp at h
  ·intro l hl;rcases lk hl with rfl|rfl|rfl|rfl|⟨i,rfl⟩<;>simp[KL,Lb.fresh,aD]
  exact abf
 rintro⟨d,l,hw,hp,hc,hb,qB⟩;rw[dq];simp only[↓aX,mX,seval,zZ,List.cons_append,List.nil_append,aR,aI];cases l with
 |nil=>
  rw[Mb] at hw;subst hw;simp only[List.length_nil,show decide (((0:Nat):Int)>0)=false from rfl,↓aX,mX,reduceCtorEq,Int.reduceLT,Nat.reduceEqDiff,Int.reduceLE,Nat.reduceLT,Nat.reduceLeDiff,Nat.reduceAdd,Nat.reduceMul,Int.reduceToNat];have Kz:∀n,eQ (sJ (ay x)) (.loc n)= .unused:=z6 _;rw[ec];refine⟨_,_,(xQ (λl=>decide (l= .loc 1000))).trans (zW (kX (ay x)) [(2,.ptr (.loc 2) 1 0 0),(4,.ptr (.loc 4) 1 0 0)]
   [(.loc 2,⟨1,[[.nil0]]⟩),(.loc 4,⟨1,[[.sl (.loc 1000) 5 0 (ay x).length]]⟩),(.loc 1000,⟨5,ak ((ay x).map Node.iv)⟩)] [] ?_ ?_ ?_ ?_),?_⟩
  ·intro l sz xs h;obtain⟨i,y,h1,h2,rfl,rfl,rfl⟩:=Ky h;have:=rG h1 h2;refine⟨?_,by simp[KL,Lb.fresh],mj _⟩;have e:∀n,KL i≠ .loc n:=λn=>(by simp[KL]);unfold pE;simp only[aS,e,if_false,this,DB];congr 2
   conv=>rhs;rw[<-List.map_id (ak (y.kids.map aC))]
   refine List.map_congr_left λcs aZ=> ?_;have hn:Kt (λl=>decide (l= .loc 1000)) (KL i)=id:=(by funext z;simp[Kt,e]);rw[hn];simp
  ·simp[ai,AV.aq]
  ·rintro q hq cs aZ l hl;simp only[List.mem_cons,List.not_mem_nil,or_false] at hq;rcases hq with rfl|rfl|rfl
   ·simp only[List.mem_singleton] at aZ;subst aZ;simp[ai,AV.aq] at hl
   ·simp only[List.mem_singleton] at aZ;subst aZ;simp[ai,AV.aq] at hl;subst hl;simp
   rw[bc aZ] at hl;simp at hl
  ·refine⟨?_,?_,?_,ajS,λl hl=>⟨id,λ_=>rfl⟩⟩
   ·intro l hf hu;exfalso;apply hu;have h1:=yJ (ay x) hf;have h2:kX (ay x) l=none:=by
     cases h3:kX (ay x) l with
     |none=>rfl
     |some q=>
     obtain⟨i,y,_,_,rfl,_⟩:=Ky (sz:=q.1) (xs:=q.2) h3;simp[KL,Lb.fresh] at hf
    have e:∀n,l≠ .loc n:=λn h=>(by subst h;simp[Lb.fresh] at hf);simp[mK,h2,pE,aS,e,h1]
   ·simp[dp,aD,aH,put,pC]
   refine⟨?_,?_,?_,trivial⟩
   ·simp[aD,mK,Iv,pE,ae,iG,pC,Kt,aP,aA,aH]
   ·simp[aD,mK,Iv,pE,ae,iG,pC,Kt,aP,aA,aH]
   have:=Mq (ay x);simp only[aD,aK];unfold mK;simp only[Iv];unfold pE;simp only[ae,Lb.loc.injEq,Nat.reduceEqDiff,if_true,if_false,this]
  rw[dq];simp only[↓aX,mX,seval,aR,aI];refine⟨5,(ay x).map Node.iv,0,(ay x).length,[.sl (.loc 1000) 5 0 (ay x).length],rfl,rfl,rfl,ajL,ajL,J_ _,?_⟩;simp only[↓aX,mX,seval,cS,norm,bP,c_,hg,Doc.av,List.length_map];simp;exact List.take_of_length_le ajL
 |cons it r=>
 obtain⟨t,p⟩:=it;have hdc:t.cC+aJ (r.map Prod.fst)+d.length=x.cC:=by simp only[List.map_cons,aJ] at hc;omega
 have hbt:t.wt+bH (r.map Prod.fst)<=B:=by simpa only[List.map_cons,bH] using hb
 have hpd:p<d.length:=hp (t,p) ajL;have TF:=t.dL;have PJ:=fS t.attrs;have xx:=bO t.kids;have htc:=t.ff;have Kz:∀n,eQ (sJ d) (.loc n)= .unused:=z6 d;have hAI:(dV 2 (aQ t.attrs)/\Flt (aQ t.attrs)/\(aQ t.attrs).length*32<=140737488355328/\0<32/\0<2):=⟨kx _,gn _,akQ,ajN,ajN⟩;simp only[List.length_cons,show decide (((r.length+1:Nat):Int)>0)=true by simp,↓aX,mX,seval,Nat.zero_lt_succ,Mp,TC,List.length_map,Kz];refine⟨rfl,?_⟩;rw[if_pos hAI];simp only[↓aX,mX,seval,Kz];rw[uR (sz:=5) (d:=42) (cs:=[.bool t.text,.str t.s,.list (aQ t.attrs),.int .i64 p,.nil0]) alJ (by simp[ae,Kz]) rfl ajN];simp only[↓aX,mX,seval,Kz];rw[TA (sz:=5) (b:=80) (d:=43) (l:= .loc 1000) (l2:= .loc 42) (els:=qU d) (cs:=[.bool t.text,.str t.s,.list (aQ t.attrs),.int .i64 p,.nil0]) ajR (o3 d) ajR (by intro y hy;simp only[List.mem_cons,List.not_mem_nil,or_false] at hy;rcases hy with rfl|rfl|rfl|rfl|rfl<;>rfl) ajK ajN aj3 (by simp[Lb.app,Lb.fresh,ae,Kz])];simp only[↓aX,mX,seval,Kz];obtain⟨d2,Ml⟩:∃d2,d2=kQ (d++[⟨t.text,t.s,t.attrs,p,[]⟩]) p d.length:=⟨_,rfl⟩;have uj:d2.length=d.length+1:=by rw[Ml,zL];simp
 have ml:whole d2 (t.kids.map (λk=>(k,(d.length:Int)))++r)=ay x:=by rw[Ml,<-Ih d t p r hpd (λy hy=>hp y alK)];exact hw
 have hmf:(t.kids.map λk=>(k,(d.length:Int))).map Prod.fst=t.kids:=by rw[List.map_map,show(Prod.fst∘λk:Tree=>(k,(d.length:Int)))=id from rfl,List.map_id]
 have HP:∀y∈t.kids.map (λk=>(k,(d.length:Int)))++r,y.2<(d2.length:Int):=by
  intro y hy;rcases List.mem_append.1 hy with hy|hy
  ·obtain⟨k,_,rfl⟩:=List.mem_map.1 hy;simp only;omega
  have:=hp y alK;omega
 have DD:d2.length+aJ ((t.kids.map (λk=>(k,(d.length:Int)))++r).map Prod.fst)=x.cC:=by rw[List.map_append,hmf,dM];omega
 have pr:bH ((t.kids.map (λk=>(k,(d.length:Int)))++r).map Prod.fst)<=B:=by rw[List.map_append,hmf,dQ];omega
 have EG:∀y∈d2,y.kids.length<=d2.length:=by
  rw[uj,Ml];refine FN ?_;intro y hy;rcases List.mem_append.1 hy with hy|hy
  ·exact qB y hy
  simp only[List.mem_singleton] at hy;subst hy;simp
 have Si:=bO (r.map Prod.fst);rw[List.length_map] at Si;have VH:aJ (((t.kids.map λk=>(k,(d.length:Int)))++r).map Prod.fst)<aJ (((t,p)::r).map Prod.fst):=by
  rw[List.map_append,hmf,dM];simp only[List.map_cons,aJ];omega
 cases Z9:decide (p>=0) with
 |false=>
  have PR:¬0<=p:=of_decide_eq_false Z9;simp only[↓aX,mX,seval,Kz,ar];refine⟨akc,?_⟩;refine DC (d2:=d2) (t:=t) (p:=p) (r:=r) ajK ajK ⟨[(.loc 1000,.loc 43)],?_⟩ λE' H' h=>by simp only[↓aX,mX,seval];exact⟨{d:=d2,l:=_,hw:=ml,hp:=HP,hc:=DD,hb:=pr,hk:=EG},VH,h⟩
  refine o5 ?_ ?_ (vu (rX ?_ ?_ ?_ ?_ ?_) ⟨?_,trivial⟩) (pG _) ?_ ?_
  ·exact XB
  ·simp[dp,aD,aH,put,ar,KL]
  ·simp[aD,ae,KL]
  ·simp[aD,ae,KL,uj]
  ·rw[z7 _ _ (λi y _ _=>by simp[aD,KL])];have:qU d2=qU d++[[.bool t.text,.str t.s,.list (aQ t.attrs),.int .i64 p,.nil0]]:=by
    rw[Ml,kQ,if_neg PR];simp[qU,List.mapIdx_append,pF,oY]
   simp[aD,ae,this]
  ·simp[aD,ae,KL,ak,ma,IV.cells,IV.dw]
  ·intro i y h1 h2;rw[Ml,kQ,if_neg PR] at h1;have h3:d[i]?=some y:=by
    by_cases hi:i<d.length
    ·rwa[List.getElem?_append_left hi] at h1
    rw[List.getElem?_append_right ajK] at h1;cases hq:i - d.length with
    |zero=>rw[hq] at h1;simp at h1;subst h1;simp at h2
    |succ n=>rw[hq] at h1;simp at h1
   have:=rG h3 h2;simp[aD,KL,ae] at this ⊢;exact this
  ·simp[aD,ae,KL,ak,aP]
  ·intro l hl;exact aea (mw hl)
  exactλa ha b hb=>abV (mw ha) (mw hb)
 |true=>
 have PR:=of_decide_eq_true Z9;obtain⟨q,rfl⟩:=Int.eq_ofNat_of_zero_le PR;have Pl:q<d.length:=ajK
 obtain⟨y,hy⟩:=gE Pl;have Hl:q<d.length+1:=ajK
 have Yk:d2=List.set (d++[(⟨t.text,t.s,t.attrs,(q:Int),[]⟩:Node)]) q {y with kids:=y.kids++[(d.length:Int)]}:=by
  rw[Ml,kQ,if_pos PR,Int.toNat_natCast,List.getElem?_append_left Pl,hy]
 have Cu:∀new,(qU d++[new])[q]?=some [.bool y.text,.str y.s,.list (aQ y.attrs),.int .i64 y.parent,oY q y.kids]:=λnew=>by
  rw[List.getElem?_append_left (by rw[o3];exact Pl),o4,hy];rfl
 have Yl:aP (aD [(.loc 1000,.loc 43),(KL q,.loc 61)]) ⟨5,qU d2⟩=⟨5,List.set (qU d++[[.bool t.text,.str t.s,.list (aQ t.attrs),.int .i64 q,.nil0]]) q [.bool y.text,.str y.s,.list (aQ y.attrs),.int .i64 y.parent,.sl (.loc 61) 1 0 (y.kids.length+1)]⟩:=by
  simp only[aP,Row.mk.injEq,true_and];refine List.ext_getElem? λi=> ?_;rw[List.getElem?_map,o4,Yk,List.getElem?_set,List.getElem?_set];by_cases e:q=i
  ·subst e;simp only[if_true,List.length_append,o3,List.length_cons,List.length_nil];rw[if_pos ajK,if_pos ajK];simp[pF,oY,aA,aH,aD,KL]
  rw[if_neg e,if_neg e];have e':¬i=q:=λh=>e h.symm;by_cases hi:i<d.length
  ·rw[List.getElem?_append_left hi,List.getElem?_append_left (by rw[o3];exact hi),o4];cases d[i]? with
   |none=>rfl
   |some z=>
   simp only[Option.map_some,Option.some.injEq,pF,oY];split<;>simp[aA,aH,aD,KL,e']
  rw[List.getElem?_append_right ajK,List.getElem?_append_right (by rw[o3];omega),o3];cases i - d.length with
  |zero=>simp[pF,oY,aA,aH]
  |succ n=>simp
 have afK:=qB y (List.mem_of_getElem? hy);by_cases Bx:y.kids=[]
 ·have hkc:oY q y.kids= .nil0:=by simp[oY,Bx]
  rw[hkc] at Cu;simp only[↓aX,mX,seval,Kz,Hl,Cu];refine⟨akc,rfl,?_⟩;rw[lI 1 8 61 [.int .i64 d.length] alE alq ajL ajN (by simp[ae,Kz])];simp only[↓aX,mX,seval,Kz,Hl,Cu,ar];rw[Bx] at Yl;refine DC (d2:=d2) (t:=t) (p:=(q:Int)) (r:=r) ajK ajK ⟨[(.loc 1000,.loc 43),(KL q,.loc 61)],?_⟩ λE' H' h=>by simp only[↓aX,mX,seval];exact⟨{d:=d2,l:=_,hw:=ml,hp:=HP,hc:=DD,hb:=pr,hk:=EG},VH,h⟩
  refine o5 ?_ ?_ (vu (rX ?_ ?_ ?_ ?_ ?_) ⟨?_,trivial⟩) (pG _) ?_ ?_
  ·exact XB
  ·simp[dp,aD,aH,put,ar,KL]
  ·simp[aD,ae,KL]
  ·simp[aD,ae,KL,uj]
  ·rw[Yl];simp[aD,ae]
  ·simp[aD,ae,KL,ak,ma,IV.cells,IV.dw]
  ·intro i z h1 h2;rw[Yk,List.getElem?_set] at h1;by_cases e:q=i
   ·subst e;rw[if_pos rfl,if_pos ajY] at h1;simp only[Option.some.injEq] at h1;subst h1;simp[aD,KL,ae,DB,ak,aC];simp[Bx,IV.cells,IV.dw]
   exact aa4
  ·simp[aD,ae,KL,ak,aP]
  ·intro l hl;exact frq (mw hl)
  exactλa ha b hb=>abW (mw ha) (mw hb)
 have hkc:oY q y.kids= .sl (KL q) 1 0 y.kids.length:=by simp[oY,Bx]
 rw[hkc] at Cu;have hkq:=rG hy Bx;simp only[↓aX,mX,seval,Kz,Hl,Cu];refine⟨akc,rfl,?_⟩;rw[nX (sz:=1) (b:=8) (d:=61) (l:=KL q) (els:=ak (y.kids.map aC)) (x:= .int .i64 d.length) (by simp[ae,KL];simpa[KL,DB] using hkq) alL rfl aj0 ajK ajN (by simp[Lb.app,Lb.fresh,KL]) (by simp[Lb.app,Lb.fresh,KL,ae,Kz])];simp only[↓aX,mX,seval,Kz,Hl,Cu,ar,KL];refine⟨akc,?_⟩;refine DC (d2:=d2) (t:=t) (p:=(q:Int)) (r:=r) ajK ajK ⟨[(.loc 1000,.loc 43),(KL q,.loc 61)],?_⟩ λE' H' h=>by simp only[↓aX,mX,seval];exact⟨{d:=d2,l:=_,hw:=ml,hp:=HP,hc:=DD,hb:=pr,hk:=EG},VH,h⟩
 refine o5 ?_ ?_ (vu (rX ?_ ?_ ?_ ?_ ?_) ⟨?_,trivial⟩) (pG _) ?_ ?_
 ·exact XB
 ·simp[dp,aD,aH,put,ar,KL]
 ·simp[aD,ae,KL]
 ·simp[aD,ae,KL,uj]
 ·rw[Yl];simp[aD,ae]
 ·simp[aD,ae,KL,ak,ma,IV.cells,IV.dw]
 ·intro i z h1 h2;rw[Yk,List.getElem?_set] at h1;by_cases e:q=i
  ·subst e;rw[if_pos rfl,if_pos ajY] at h1;simp only[Option.some.injEq] at h1;subst h1;simp[aD,KL,ae,DB,ak,aC]
  exact aa4
 ·simp[aD,ae,KL,ak,aP]
 ·intro l hl;exact frq (mw hl)
 exactλa ha b hb=>abW (mw ha) (mw hb)
end Go.Am
