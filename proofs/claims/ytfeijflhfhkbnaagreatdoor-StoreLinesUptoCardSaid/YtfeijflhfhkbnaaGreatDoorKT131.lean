import Derived.Test.YtfeijflhfhkbnaaGreatDoorKT150
import Derived.Test.YtfeijflhfhkbnaaGreatDoorKP2
import Derived.Test.YtfeijflhfhkbnaaGreatDoorKAm47
import Derived.Test.YtfeijflhfhkbnaaGreatDoorKT84
import Derived.Test.YtfeijflhfhkbnaaGreatDoorKAm17
import Derived.Test.YtfeijflhfhkbnaaGreatDoorKAm53
import Derived.Test.YtfeijflhfhkbnaaGreatDoorKT91
import Derived.Test.YtfeijflhfhkbnaaGreatDoorKT21
import Derived.Test.YtfeijflhfhkbnaaGreatDoorKAm48
set_option linter.all false
/- The text of a path, read byte by byte, and by words: the same good paths. -/
namespace Go.Am
open Go Go.RowKit
theorem aoe {c:UInt8}:∀{a b a' b':Bs},a++c::b=a'++c::b'->c∉a->c∉a'->a=a'/\b=b'
 |[],b,[],b',h,_,_=>by simpa using h
 |[],b,x::a',b',h,_,h2=>by simp at h;exact absurd (by simp[h.1]) h2
 |x::a,b,[],b',h,h1,_=>by simp at h;exact absurd (by simp[h.1]) h1
 |x::a,b,y::a',b',h,h1,h2=>by
  simp only[List.cons_append,Q5] at h;obtain⟨e,g⟩:=aoe h.2 (λm=>h1 (by simp[m])) (λm=>h2 (by simp[m]));exact⟨by rw[h.1,e],g⟩
def anF (c:UInt8) (w:Bs):(c∉w/\Bj c w=(w,[],false))\/∃a b,w=a++c::b/\c∉a/\Bj c w=(a,b,true):=by
 obtain⟨g1,g2⟩:=amD c w;rcases pC c w with⟨h1,_,h3⟩|⟨m,h1,hm,_,h3⟩
 ·rw[h3] at g2;exact .inl ⟨g2 w tM,by unfold Bj;rw[h1,Ev M3]⟩
 rw[h3] at g1 g2;simp only[Rj,N7,(amD c (w.drop (m+1))).1,List.cons_append,Q5,Su] at g1;refine .inr ⟨w.take m,w.drop (m+1),g1.symm,g2 _ tM,?_⟩;unfold Bj;rw[h1,P8 sf,Qj]
def apD {c:UInt8} {w:Bs} (h:c∉w):Bj c w=(w,[],false):=by
 rcases anF c w with⟨_,h2⟩|⟨a,b,rfl,_,_⟩
 ·exact h2
 exact absurd tM h
def aof {c:UInt8} {a b:Bs} (h:c∉a):Bj c (a++c::b)=(a,b,true):=by
 rcases anF c (a++c::b) with⟨h1,_⟩|⟨a',b',e,h1,h2⟩
 ·exact absurd tM h1
 obtain⟨rfl,rfl⟩:=aoe e h h1;exact h2
def atb {c:UInt8}:dgt c=true↔48<=c.toNat/\c.toNat<=57:=by simp[dgt]
def u8 {c d:UInt8} (h:c.toNat=d.toNat):c=d:=WX.1 h
def ofN {m:Nat} (h:m<256):(UInt8.ofNat m).toNat=m:=by rw[YG];omega
def auO {k:Nat} (h:k<10):Lib.itoa (k:Int)=[UInt8.ofNat (48+k)]:=by
 unfold Lib.itoa;rw[Ev sf,Qj,Lib.decDigits_one h]
def auP {k:Nat} (h1:¬k<10) (h2:k<100):Lib.itoa (k:Int)=[UInt8.ofNat (48+k/10),UInt8.ofNat (48+k%10)]:=by
 unfold Lib.itoa;rw[Ev sf,Qj,Lib.decDigits_two h1 h2]
theorem at7:∀(t:Bs) (n:Nat),min n 1000<=t.foldl (λn c=>min (10*n+(c.toNat - 48)) 1000) n
 |[],n=>by simp;omega
 |c::r,n=>by
  have:=at7 r (min (10*n+(c.toNat - 48)) 1000);simp only[Bw];omega
def auT {t:Bs} (h1:t≠[]) (h2:∀c∈t,dgt c=true) (h3:t.head?≠some 48) (h4:as7 t<=99):JM t=some (as7 t:Int):=by
 match t,h1 with
 |d::r,_=>
  have hd:=atb.1 (h2 d tM);have h48:d.toNat≠48:=λe=>h3 (by simp only[Zi];rw[u8 (c:=d) (d:=48) e])
  match r with
  |[]=>
   have hc:as7 [d]=d.toNat - 48:=(by simp[as7];omega);have ha:Lib.atoiAll [d]= .ok ((d.toNat - 48:Nat):Int):=by
    rw[Lib.atoiAll_plain d [] sf sf];simp only[Lib.parseMag,Lib.parseUint10,Z4,nX,hd,A5,Rc,V9,bM,Lib.signless];rw[Ev sf,Ev sf];simp only[Lib.signless];rw[Ev sf]
   have hi:Lib.itoa ((d.toNat - 48:Nat):Int)=[d]:=by
    rw[auO sf];congr 1;exact u8 (by rw[ofN sf];omega)
   unfold JM;rw[ha,hc];simp only;rw[P8 ⟨hi,sf⟩]
  |[e]=>
   have he:=atb.1 (h2 e tM);have hc:as7 [d,e]=10*(d.toNat - 48)+(e.toNat - 48):=(by simp[as7];omega);obtain⟨k,hk⟩:∃k,k=10*(d.toNat - 48)+(e.toNat - 48):=⟨_,rfl⟩;have ha:Lib.atoiAll [d,e]= .ok (k:Int):=by
    rw[Lib.atoiAll_plain d [e] sf sf];simp only[Lib.parseMag,Lib.parseUint10,Z4,nX,hd,he,A5,Rc,V9,bM];rw[Ev sf,Ev sf,Ev sf,Ev sf];simp only[Lib.signless];rw[Ev sf,hk];congr 1;omega
   have hi:Lib.itoa (k:Int)=[d,e]:=by
    rw[auP sf sf];congr 1
    ·exact u8 (by rw[ofN sf];omega)
    congr 1;exact u8 (by rw[ofN sf];omega)
   unfold JM;rw[ha,hc,<-hk];simp only;rw[P8 ⟨hi,sf⟩]
  |e::f::r=>
   exfalso;have:=at7 r (min (10*(min (10*(min (10*0+(d.toNat - 48)) 1000)+(e.toNat - 48)) 1000)+(f.toNat - 48)) 1000);simp only[as7,Bw] at h4;omega
def auU {t:Bs} {k:Int} (h:JM t=some k) (hk:k<=99):t≠[]/\(∀c∈t,dgt c=true)/\t.head?≠some 48/\(as7 t:Int)=k:=by
 unfold JM at h;split at h
 ·rename_i v hv;split at h
  ·rename_i hq;cases h;obtain⟨n,rfl⟩:=Wu (show 0<=k by omega);have h1:1<=n:=sf;have h99:n<=99:=sf;rw[<-hq.1];by_cases wH:n<10
   ·rw[auO wH];have e:=ofN (m:=48+n) sf;refine⟨tM,λc hc=> ?_,λe2=> ?_,?_⟩
    ·simp only[bY] at hc;subst hc;rw[atb,e];omega
    ·simp only[Zi,di] at e2;rw[e2] at e;have:(48:UInt8).toNat=48:=rfl;omega
    simp only[as7,Bw,sc,e];omega
   rw[auP wH sf];have e:=ofN (m:=48+n/10) sf;have g:=ofN (m:=48+n%10) sf;refine⟨tM,λc hc=> ?_,λe2=> ?_,?_⟩
   ·simp only[PY,QN,QV] at hc;rcases hc with rfl|rfl
    ·rw[atb,e];omega
    rw[atb,g];omega
   ·simp only[Zi,di] at e2;rw[e2] at e;have:(48:UInt8).toNat=48:=rfl;omega
   simp only[as7,Bw,sc,e,g];omega
  cases h
 cases h

def atH (t:Bs):([93]:Bs).isSuffixOf (t++[93])=true/\JL [93] (t++[93])=t:=by
 have h:([93]:Bs).isSuffixOf (t++[93])=true:=by rw[Xf];exact Ym _ _
 refine⟨h,?_⟩;unfold JL;rw[P8 h];simp
def auV {b:Bs} (h:([93]:Bs).isSuffixOf b=true):∃t,b=t++[93]:=by
 rw[Xf] at h;obtain⟨t,ht⟩:=h;exact⟨t,ht.symm⟩
theorem aty {p:UInt8->Bool}:∀{s:Bs} {c:UInt8},c∈s.takeWhile p->p c=true
 |[],c,h=>by simp at h
 |a::s,c,h=>by
  cases ha:p a with
  |false=>simp[ha] at h
  |true=>
  simp only[ou,ha,Rc,PY] at h;rcases h with rfl|h
  ·exact ha
  exact aty h
theorem atz {p:UInt8->Bool}:∀{a z:Bs},(∀c∈a,p c=true)->(∀c r,z=c::r->p c=false)->(a++z).takeWhile p=a/\(a++z).dropWhile p=z
 |[],z,_,hz=>by
  cases z with
  |nil=>simp
  |cons c r=>simp[hz c r rfl]
 |c::a,z,ha,hz=>by
  obtain⟨h1,h2⟩:=atz (a:=a) (λc hc=>ha c (by simp[hc])) hz;simp[ha c tM,h1,h2]
def auk {w:Bs} {x:Bs×Bs} (h:asR w=some x):∃pre,w=pre++x.2/\(91:UInt8)∉pre/\Hb pre=some x.1:=by
 unfold asR at h;split at h
 ·cases h;exact⟨[42],rfl,M3,rfl⟩
 ·cases h;exact⟨[35],rfl,M3,rfl⟩
 split at h
 ·cases h
 rename_i Vi;cases h;refine⟨w.takeWhile ltr,(Vf).symm,λhm=> ?_,?_⟩
 ·have:=aty hm;simp[ltr] at this
 unfold Hb;rw[Ev Vi,Ev λe=> ?_];have:=aty (p:=ltr) (s:=w) (c:=35) (by rw[e];simp);simp[ltr] at this
def atZ {r:Bs} {y:Nat×Bs} (h:as9 r=some y) (h2:y.2=[]):(r=[]/\y.1=0)\/∃t,r=91::(t++[93])/\t≠[]/\(∀c∈t,dgt c=true)/\t.head?≠some 48/\y.1=as7 t:=by
 unfold as9 at h;split at h
 ·rename_i r;split at h
  ·cases h
  rename_i hn;split at h
  ·rename_i r2 e;cases h;simp only at h2;subst h2;refine .inr ⟨r.takeWhile dgt,?_,λe=>hn (.inl e),λc hc=>aty hc,λe=>hn (.inr e),rfl⟩;rw[<-e,Vf]
  cases h
 cases h;exact .inl ⟨h2,rfl⟩
def au7 {x:Step} (h:al1 x=true):(x.name=[]\/x.name=[42]\/named x.name=true)/\0<=x.n/\x.n<=99:=by
 simpa[al1] using h
def at0 {w:Bs} {x:Step} (h:atp w=some x) (hk:al1 x=true):Hc w=some x:=by
 unfold atp at h;simp only[yV] at h;obtain⟨⟨nm,r1⟩,hn,⟨n,r2⟩,hm,h⟩:=h;split at h
 ·rename_i e;cases h;obtain⟨pre,hw,h91,hs⟩:=auk hn;simp only at e hw hs hm;obtain⟨_,_,h99⟩:=au7 hk;simp only at h99;rcases atZ hm e with⟨hr,h0⟩|⟨t,hr,t1,t2,t3,t4⟩
  ·simp only at h0 hr;subst hr;rw[SU] at hw;subst hw;subst h0;simp only[Hc,JN,apD h91,hs,EF,bT,jy,nX];rfl
  simp only at t4 hr;subst hr;subst hw;simp only[Hc,JN,aof h91,hs,Rc,(atH t).1,(atH t).2,auT t1 t2 t3 sf,EF,bT,t4]
 cases h
def at1 {w:Bs} {x:Step} (h:Hc w=some x) (hk:al1 x=true):atp w=some x:=by
 simp only[Hc,yV,jF] at h;obtain⟨k,hn,nm,ha,rfl⟩:=h;obtain⟨h1,_,h99⟩:=au7 hk;simp only at h1 h99;have key:∀(a z:Bs),Hb a=some nm->(∀c r,z=c::r->ltr c=false)->asR (a++z)=some (nm,z):=by
  intro a z ha hz;unfold Hb at ha;split at ha
  ·cases ha
  split at ha
  ·rename_i e;subst e;cases ha;rfl
  rename_i e1 e2;cases ha;rcases h1 with e|e|e
  ·exact absurd e e1
  ·subst e;rfl
  have dN:∀c∈nm,ltr c=true:=λc hc=>by
   simp only[named,QH,Rh] at e;have:=e.1 c hc;simp only[Oq,Ve,EI,Tt] at this;simp only[ltr,QH,dj];omega
  obtain⟨g1,g2⟩:=atz dN hz
  match nm,e1,dN,g1,g2 with
  |c::a,_,dN,g1,g2=>
   have hc:=dN c tM;unfold asR;split
   ·rename_i h;simp only[List.cons_append,Q5] at h;rw[h.1] at hc;simp[ltr] at hc
   ·rename_i h;simp only[List.cons_append,Q5] at h;rw[h.1] at hc;simp[ltr] at hc
   rw[g1,g2,Ev tM]
 unfold atp;rcases anF 91 w with⟨_,hc⟩|⟨a,b,rfl,_,hc⟩
 ·simp only[JN,hc,jy,nX,di] at hn ha;subst hn;have:=key w [] ha (λc r e=>by cases e);rw[SU] at this;rw[this];rfl
 simp only[JN,hc,Rc] at hn ha;split at hn
 ·rename_i hs;obtain⟨t,rfl⟩:=auV hs;rw[(atH t).2] at hn;obtain⟨t1,t2,t3,t4⟩:=auU hn h99;obtain⟨g1,g2⟩:=atz (p:=dgt) (z:=[93]) t2 (λc r e=>by cases e;decide);rw[key a _ ha (λc r e=>by cases e;decide)];simp only[EF,as9,g1,g2];rw[Ev (by rintro(e|e);exact t1 e;exact t3 e)];simp only[EF,Rc,t4]
 cases hn
def atr {l:List Step} (hl:∀x∈l,al1 x=true):∀{ws:List Bs},atf ws=some l↔zc ws=some l:=by
 intro ws;induction ws generalizing l with
 |nil=>simp[atf,zc]
 |cons w r ih=>
 simp only[atf,zc,yV,jF];constructor
 ·rintro⟨x,hx,l',h,rfl⟩;exact⟨x,at0 hx (hl x tM),l',(ih λy hy=>hl y (by simp[hy])).1 h,rfl⟩
 rintro⟨x,hx,l',h,rfl⟩;exact⟨x,at1 hx (hl x tM),l',(ih λy hy=>hl y (by simp[hy])).2 h,rfl⟩
def at2 (s:Bs):atw s=ami s:=by
 match s with
 |[]=>rfl
 |c::r=>
  by_cases hc:c=47
  ·subst hc;obtain⟨g1,g2⟩:=amD 47 r;have e:atl (47::r).length (47::r)=atf (Z_ 47 r):=by
    have g3:glue (Z_ 47 r)=47::r:=g1;rw[<-g3];exact atq _ _ (PW _) g2
   unfold atw ami;simp only[e,SX,tn];by_cases hl:(47::r:Bs).length<=2500
   ·rw[P8 ⟨hl,tM⟩,P8 ⟨tM,hl⟩];apply Option.ext;intro l;simp only[yV];constructor
    ·rintro⟨m,h,h2⟩;split at h2
     ·rename_i hg;cases h2;have j4:∀x∈l,al1 x=true:=λx hx=>(by simp only[ak6,QH,Rh] at hg;exact hg.1 x hx);exact⟨l,(atr j4).1 h,by rw[P8 hg]⟩
     cases h2
    rintro⟨m,h,h2⟩;split at h2
    ·rename_i hg;cases h2;have j4:∀x∈l,al1 x=true:=λx hx=>(by simp only[ak6,QH,Rh] at hg;exact hg.1 x hx);exact⟨l,(atr j4).2 h,by rw[P8 hg]⟩
    cases h2
   rw[Ev (λh=>hl h.1),Ev (λh=>hl h.2)]
  unfold atw ami;rw[Ev (c:=[47].isPrefixOf (c::r)=true/\_) (by
   rintro⟨h,_⟩;simp at h;exact hc h.symm)]
  split
  ·simp[atl,hc]
  rfl

section
variable {P:Program} {G:Nat->Option (List IV)}
def asZ (bd:Nat):AC:=
(aM [jM 2 false] (.seq (aM [MR 5 0,oy 6 5,gH 7 0] (.block 0 (.loop (aM [et 8 .lss 7 6] (.seq (.cond (.t 8) .skip (.exit 0)) (.seq (.block 1 (aM [jL 9 5 7 2,gz 10 2 9,aQ 4 (.new [(.str []),(.int .i64 0)]),gg (.store 2 (.t 4) (.t 10))] (aM [ep 11 4 1,fm 12 11,eY 13 .lss 12 0,MR 14 13,oH 15 14 4 1,oG 16 14 15,iR 17 14 (.bin .gtr (.t 16) (jS 99)),sj 18 14 17,MR 19 18,oH 20 19 4 0,oG 21 19 20,iR 22 19 (.bin .neq (.t 21) (.c (.str []))),gV 23 19 22,Wb 24 23 4 0,jm 25 23 24,dW 26 23 (.bin .neq (.t 25) (.c (.str [42]))),iR 27 19 (.pick (.t 23) (.t 26) (me false)),gV 28 19 27,Wb 29 28 4 0,jm 30 28 29,dW 31 28 (.call bd [(.t 30)]),dW 32 28 (.not (.t 31)),iR 33 19 (.pick (.t 28) (.t 32) (me false)),sj 34 19 33] (.cond (.t 34) (aM [jM 2 false] .ret) .skip)))) (.cq [eY 35 .add 7 1,MR 7 35]))))))) (aM [MR 36 0,oy 37 36,eY 38 .gtr 37 0,MR 39 38,cU 40 39 0,dW 41 39 (.len (.t 40)),dW 42 39 (.bin .lss (.t 41) (jS 6)),jT 43 39 42,MR 2 43] .ret)))
def aul {asB bd:Nat} (hF:aw P G asB=some (44,[(none,2)],(asZ bd).bare)) (l:List Step) (hl:l.length<=B) (hN:∀x∈l,au P G bd [.str x.name] (.bool (named x.name))) :
  au P G asB [.list (l.map Step.iv)] (.bool (ak6 l)):=by
 refine aR hF tM aae aad ?_;have zo:B=1073741824:=rfl;unfold asZ;simp only[↓aX,mX,seval,G_];refine VR (σ:={i:Nat // i<=l.length/\∀x∈l.take i,al1 x=true}) (λq=>[(0,.list (l.map Step.iv)),(5,.list (l.map Step.iv)),(6,.int .i64 l.length),(7,.int .i64 q.1)]) (λq=>l.length - q.1) ⟨0,tM⟩ (λ_=>rfl) ?_ ?_
 ·exact⟨by simp only[↓aX,mX,seval],aah⟩
 rintro⟨i,hi,hs⟩;simp only[↓aX,mX,seval,G_];by_cases bI:i<l.length
 ·rw[show decide ((i:Int)<(l.length:Int))=true by simpa using bI];obtain⟨x,hx⟩:∃x,l[i]?=some x:=⟨_,rX bI⟩;have Md:=PX hx;have hw:IntKind.i64.wrap ((i:Int)+1)=((i+1:Nat):Int):=wrap64 sf sf;have stop:al1 x=false->ak6 l=false:=λh=>by
   unfold ak6;rw[show l.all al1=false from ZT.2 ⟨x,Md,by simp[h]⟩];rfl
  have next:al1 x=true->∀y∈l.take (i+1),al1 y=true:=λh y hy=>by
   rw[Ro,hx] at hy;simp only[Wx,QL,bY] at hy;rcases hy with hy|rfl
   ·exact hs y hy
   exact h
  simp only[↓aX,mX,seval,ap7,hx,aph,bT,Step.cJ,Step.cs];have tail:∀b:Bool,(x.name==[]||(x.name==[42]||named x.name))=b->al1 x=(b&&(decide (0<=x.n)&&decide (x.n<=99))):=λb h=>by unfold al1;rw[h]
  by_cases h4:x.n<0
  ·simp only[↓aX,mX,seval,h4,Ts,stop (by unfold al1;rw[Uy (show ¬0<=x.n by omega),VD,VO])]
  by_cases h5:99<x.n
  ·simp only[↓aX,mX,seval,h4,XG,Nu,h5,Ts,QI,stop (by unfold al1;rw[Uy (show ¬x.n<=99 by omega),VO,VO])]
  have hd:(decide (0<=x.n)&&decide (x.n<=99))=true:=by rw[VI (show 0<=x.n by omega),VI (show x.n<=99 by omega)];rfl
  simp only[↓aX,mX,seval,h4,XG,Nu,h5,QI];cases h1:(x.name==[]) with
  |true=>
   have ht:=tail true (by rw[h1];rfl);simp only[↓aX,mX,seval,show(x.name !=[])=false by simp[bne,h1],hw];exact⟨⟨i+1,bI,next (by rw[ht,hd];rfl)⟩,aac,rfl⟩
  |false=>
  simp only[↓aX,mX,seval,show(x.name !=[])=true by simp[bne,h1]];cases h2:(x.name==[42]) with
  |true=>
   have ht:=tail true (by rw[h1,h2];rfl);simp only[↓aX,mX,seval,show(x.name !=[42])=false by simp[bne,h2],hw];exact⟨⟨i+1,bI,next (by rw[ht,hd];rfl)⟩,aac,rfl⟩
  |false=>
  simp only[↓aX,mX,seval,show(x.name !=[42])=true by simp[bne,h2]];refine ay (hN x Md) ?_;cases h3:named x.name with
  |true=>
   have ht:=tail true (by rw[h1,h2,h3];rfl);simp only[↓aX,mX,seval,QK,hw];exact⟨⟨i+1,bI,next (by rw[ht,hd];rfl)⟩,aac,rfl⟩
  |false=>
  have ht:=tail false (by rw[h1,h2,h3];rfl);simp only[↓aX,mX,seval,QI,stop ht]
 have XV:l.take i=l:=P5 sf;have dN:l.all al1=true:=Rh.2 λx hx=>hs x (by rw[XV];exact hx);rw[show decide ((i:Int)<(l.length:Int))=false by simpa using bI];simp only[↓aX,mX,seval,G_];by_cases h1:1<=l.length
 ·by_cases h2:l.length<=5
  ·simp only[↓aX,mX,seval,show((l.length:Int)>0) by omega,Ts,G_,show((l.length:Int)<6) by omega,ak6,dN,h1,h2,YX]
  simp only[↓aX,mX,seval,show((l.length:Int)>0) by omega,Ts,G_,show ¬((l.length:Int)<6) by omega,ak6,dN,h1,h2,XG,VO]
 simp only[↓aX,mX,seval,show ¬((l.length:Int)>0) by omega,XG,ak6,dN,h1,VO,VD]
def asT:AC:=
(aM [jM 4 false] (.seq (aM [MR 6 0,oy 7 6,MR 8 1,oy 9 8,et 10 .neq 7 9] (.cond (.t 10) (aM [jM 4 false] .ret) .skip)) (.seq (aM [MR 11 0,oy 12 11,gH 13 0] (.block 0 (.loop (aM [et 14 .lss 13 12] (.seq (.cond (.t 14) .skip (.exit 0)) (.seq (.block 1 (aM [MR 15 13,MR 5 15] (.seq (.VL [MR 16 0,MR 17 5,jL 18 16 17 2,gz 19 2 18,MR 20 1,MR 21 5,jL 22 20 21 2,gz 23 2 22,aQ 24 (.pM true [.s,.i] (.t 19) (.t 23))] [[],[],[0,1],[2],[],[],[4,5],[6],[3,7]] [.no,.no,.no,.no,.no,.no,.no,.no,.no]) (.cond (.t 24) (aM [jM 4 false] .ret) .skip)))) (.cq [eY 25 .add 13 1,MR 13 25]))))))) (aM [jM 4 true] .ret))))
def atI {asy:Nat} (hF:aw P G asy=some (26,[(none,4)],asT.bare)) (l:List Step) (hl:l.length<=B):au P G asy [.list (l.map Step.iv),.list (l.map Step.iv)] (.bool true):=by
 refine aR hF tM aae aad ?_;have zo:B=1073741824:=rfl;unfold asT;simp only[↓aX,mX,seval,G_,show(((l.length:Nat):Int) !=((l.length:Nat):Int))=false by simp];refine VR (σ:={i:Nat // i<=l.length}) (λq=>[(0,.list (l.map Step.iv)),(1,.list (l.map Step.iv)),(12,.int .i64 l.length),(13,.int .i64 q.1)]) (λq=>l.length - q.1) ⟨0,tM⟩ (λ_=>rfl) ?_ ?_
 ·exact⟨by simp only[↓aX,mX,seval],aah⟩
 rintro⟨i,hi⟩;simp only[↓aX,mX,seval,G_];by_cases bI:i<l.length
 ·rw[show decide ((i:Int)<(l.length:Int))=true by simpa using bI];obtain⟨x,hx⟩:∃x,l[i]?=some x:=⟨_,rX bI⟩;have hw:IntKind.i64.wrap ((i:Int)+1)=((i+1:Nat):Int):=wrap64 sf sf;simp only[↓aX,mX,seval,ap7,hx,aph,bT,Step.cJ,Step.cs,eqs,JP,Xh,ZA,hw];exact⟨rfl,⟨i+1,bI⟩,aac,rfl⟩
 rw[show decide ((i:Int)<(l.length:Int))=false by simpa using bI];simp only[↓aX,mX,seval]
structure MeS (n:Nat) where
 k:Nat
 hk:k<=n+1
structure SeS (d:Doc) where
 k:Nat
 hk:k<=d.length
end

def noC (a:Nat):AC:= .seq (.cq [⟨some a,none,.iC (.t 4)⟩,⟨some (a+1),none,.fM (.t a) []⟩,⟨some (a+2),none,.ext (.t (a+1)) 0⟩,⟨some (a+3),none,.ext (.t (a+1)) 1⟩,⟨some 2,none,.iC (.t (a+2))⟩,⟨some 3,none,.iC (.t (a+3))⟩]) .ret
def asK:AC:=
(.cq [MR 161 5,gz 162 2 7,aQ 163 (.lits 1 2 [(.str []),(.int .i64 0)] [(0,(.t 162))]),aQ 164 (.app (.t 161) (.t 163) 2 24),MR 5 164])
def asL:AC:=
(.seq (aM [MR 134 6,MR 135 8,et 136 .eql 134 135,MR 137 136,gV 138 137 0,gV 139 137 8,iR 140 137 (.lj (.t 138) (.t 139)),iR 141 137 (.bin .eql (.t 140) (.c (.int .u8 48))),sj 142 137 141,MR 143 142,gV 144 143 6,gV 145 143 0,iR 146 143 (.lens (.t 145)),iR 147 143 (.bin .eql (.t 144) (.t 146)),sj 148 143 147,MR 149 148,gV 150 149 0,gV 151 149 6,iR 152 149 (.lj (.t 150) (.t 151)),iR 153 149 (.bin .neq (.t 152) (.c (.int .u8 93))),sj 154 149 153] (.cond (.t 154) (noC 155) .skip)) (.cq [MR 159 6,eY 160 .add 159 1,MR 6 160]))
def asE:AC:=
(.seq (aM [MR 92 6,MR 93 0,oF 94 93,et 95 .lss 92 94,MR 96 95,cU 97 96 0,cU 98 96 6,dW 99 96 (.lj (.t 97) (.t 98)),dW 100 96 (.bin .eql (.t 99) (.c (.int .u8 91))),jT 101 96 100] (.cond (.t 101) (aM [MR 102 6,eY 103 .add 102 1,MR 6 103] (aM [MR 104 6,MR 8 104] (.seq (.block 5 (.loop (.seq (aM [MR 105 6,MR 106 0,oF 107 106,et 108 .lss 105 107,MR 109 108,cU 110 109 0,cU 111 109 6,dW 112 109 (.lj (.t 110) (.t 111)),dW 113 109 (.bin .geq (.t 112) (.c (.int .u8 48))),jT 114 109 113,MR 115 114,cU 116 115 0,cU 117 115 6,dW 118 115 (.lj (.t 116) (.t 117)),dW 119 115 (.bin .leq (.t 118) (.c (.int .u8 57))),jT 120 115 119] (.cond (.t 120) .skip (.exit 5))) (.block 6 (.seq (.VL [ep 121 7 1,fm 122 121,aQ 123 (.bin .mul (jS 10) (.t 122)),MR 124 0,MR 125 6,aQ 126 (.lj (.t 124) (.t 125)),aQ 127 (.bin .sub (.t 126) (.c (.int .u8 48))),aQ 128 (.qK .i64 (.t 127)),et 129 .add 123 128,aQ 130 (.min (.t 129) (jS 1000)),ep 131 7 1,gg (.store 1 (.t 131) (.t 130))] [[],[0],[1],[],[],[3,4],[5],[6],[2,7],[8],[0,1,2,3,4,5,6,7,8,9],[10,9,0,1,2,3,4,5,6,7,8,9]] [.no,.rw [.loc 7] [],.no,.no,.no,.no,.no,.no,.no,.no,.no,.rw [] [.loc 7]]) (.cq [MR 132 6,eY 133 .add 132 1,MR 6 133])))))) asL))) .skip)) asK)
def asM:AC:=
(aM [ep 61 7 0,fm 62 61,aQ 63 (.bin .eql (.t 62) (.c (.str [])))] (.cond (.t 63) (noC 64) .skip))
def asN:AC:=
(.seq (.block 3 (.loop (.seq (aM [MR 34 6,MR 35 0,oF 36 35,et 37 .lss 34 36,MR 38 37,cU 39 38 0,cU 40 38 6,dW 41 38 (.lj (.t 39) (.t 40)),dW 42 38 (.bin .geq (.t 41) (.c (.int .u8 97))),jT 43 38 42,MR 44 43,cU 45 44 0,cU 46 44 6,dW 47 44 (.lj (.t 45) (.t 46)),dW 48 44 (.bin .leq (.t 47) (.c (.int .u8 122))),jT 49 44 48] (.cond (.t 49) .skip (.exit 3))) (.block 4 (.seq (.VL [ep 50 7 0,fm 51 50,MR 52 0,MR 53 6,MR 54 6,eY 55 .add 54 1,aQ 56 (.ZL (.t 52) (some (.t 53)) (some (.t 55))),et 57 .add 51 56,ep 58 7 0,gg (.store 1 (.t 58) (.t 57))] [[],[0],[],[],[],[4],[2,3,5],[1,6],[0,1,2,3,4,5,6,7],[8,7,0,1,2,3,4,5,6,7]] [.no,.rw [.loc 7] [],.no,.no,.no,.no,.no,.no,.no,.rw [] [.loc 7]]) (.cq [MR 59 6,eY 60 .add 59 1,MR 6 60])))))) asM)
def asO:AC:=
(.seq (.block 2 (aM [MR 69 6,MR 70 0,oF 71 70,et 72 .lss 69 71,MR 73 72,cU 74 73 0,cU 75 73 6,dW 76 73 (.lj (.t 74) (.t 75)),dW 77 73 (.bin .eql (.t 76) (.c (.int .u8 42))),cU 78 73 77,gV 79 78 0,gV 80 78 6,iR 81 78 (.lj (.t 79) (.t 80)),iR 82 78 (.bin .eql (.t 81) (.c (.int .u8 35))),dW 83 73 (.pick (.t 78) (me true) (.t 82)),jT 84 73 83,MR 68 84] (.cond (.t 68) (.seq (aM [MR 85 0,MR 86 6,aQ 87 (.lj (.t 85) (.t 86)),aQ 88 (.bin .eql (.t 87) (.c (.int .u8 42)))] (.cond (.t 88) (.cq [ep 89 7 0,gg (.store 1 (.t 89) (.c (.str [42])))]) .skip)) (.cq [MR 90 6,eY 91 .add 90 1,MR 6 91])) asN))) asE)
def asU (ph asB:Nat):AC:=
(aM [zi 2,gH 3 0] (aM [aQ 4 (.iC (.c (.fn ph [] [])))] (.seq (aM [MR 9 0,oF 10 9,eY 11 .gtr 10 2500,MR 12 11,gV 13 12 0,iR 14 12 (.bin .eql (.t 13) (.c (.str []))),sj 15 12 14] (.cond (.t 15) (noC 16) .skip)) (aM [zi 5] (.gh (.own 5 2) (.seq (aM [gH 6 0] (.block 0 (.loop (.seq (aM [MR 20 6,MR 21 0,oF 22 21,et 23 .lss 20 22] (.cond (.t 23) .skip (.exit 0))) (.block 1 (.seq (aM [MR 24 0,MR 25 6,aQ 26 (.lj (.t 24) (.t 25)),aQ 27 (.bin .neq (.t 26) (.c (.int .u8 47)))] (.cond (.t 27) (noC 28) .skip)) (aM [MR 32 6,eY 33 .add 32 1,MR 6 33] (aM [aQ 7 (.new [(.str []),(.int .i64 0)])] asO)))))))) (.seq (.gh (.zS (.loc 5) 5) (aM [MR 165 5,aQ 166 (.call asB [(.t 165)]),sB 167 166] (.cond (.t 167) (noC 168) .skip))) (aM [MR 172 5,MR 2 172,gH 3 0] .ret))))))))
def drop_at {s:Bs} {i:Nat} {c:UInt8} (h:s[i]?=some c):s.drop i=c::s.drop (i+1):=by
 obtain⟨hi,e⟩:=yY.1 h;rw[<-e];exact EK hi
def aum {c:UInt8} {r:Bs} (h:c≠91):as9 (c::r)=some (0,c::r):=by
 unfold as9;split
 ·rename_i e;cases e;exact absurd rfl h
 rfl
def att (c:UInt8) (n:Nat) (hn:n<256):(((c.toNat:Int))==(n:Int))=(c==UInt8.ofNat n):=by
 rw[SZ];simp only[S'];constructor
 ·intro h;exact u8 (by rw[ofN hn];omega)
 rintro rfl;rw[ofN hn]
def aua {p:UInt8->Bool} {s:Bs} {f j:Nat} (h1:f<=j) (h2:j<=s.length) (dN:∀c∈(s.drop f).take (j - f),p c=true) (aiy:∀c,s[j]?=some c->p c=false) :
  (s.drop f).takeWhile p=(s.drop f).take (j - f)/\(s.drop f).dropWhile p=s.drop j:=by
 have wu:(s.drop f).take (j - f)++s.drop j=s.drop f:=by
  have:=tO (j - f) (s.drop f);rw[W6,show f+(j - f)=j by omega] at this;exact this
 have:=atz (p:=p) (z:=s.drop j) dN (λc r e=>by
  refine aiy c ?_;have:=VZ List.head? e;rw[Xw] at this;simpa using this)
 rw[wu] at this;exact this
def take_one {s:Bs} {f j:Nat} {c:UInt8} (h1:f<=j) (hc:s[j]?=some c):(s.drop f).take (j+1 - f)=(s.drop f).take (j - f)++[c]:=by
 rw[show j+1 - f=(j - f)+1 by omega,Ro,Ba,show f+(j - f)=j by omega,hc];rfl
def aun (t:Bs):as7 t<=1000:=by
 have h:∀(t:Bs) (n:Nat),n<=1000->t.foldl (λn c=>min (10*n+(c.toNat - 48)) 1000) n<=1000:=by
  intro t;induction t with
  |nil=>intro n h;exact h
  |cons c t ih=>intro n h;exact ih _ (ZW _ _)
 exact h t 0 M3
def at3 (t:Bs) (c:UInt8):as7 (t++[c])=min (10*as7 t+(c.toNat - 48)) 1000:=by simp[as7]
def ath {S:St} {Q:gI} {k:List It} {env:Env} {H:Hp} {f1 a:Nat} (ha:4<a) (hN:a+3<S.N) (hB:fU S.P f1=true) (hNo:au S.P S.G f1 [] (.gf [.nil0,.int .i64 1])) (h4:env 4= .fn f1 [] [])
  (ati:∀(E:Env) (H':Hp),E 2= .nil0->E 3= .int .i64 1->Q .ret E H'):go S Q (.code (noC a)::k) env H:=by
 unfold noC;have n0:a<S.N:=sf
 have n1:a+1<S.N:=sf
 have n2:a+2<S.N:=sf
 have n3:2<S.N:=sf
 have n4:3<S.N:=sf
 simp only[yE,Ek,↓aX,mX,seval,List.nil_append,SU,h4,n0,n1,Su];refine⟨hB,ay hNo ?_⟩;simp only[↓aX,mX,seval,n2,hN,n3,n4,Su,show(a=a+1)=False by simp];exact ati _ _ rfl rfl
def PaS (s:Bs) (f1:Nat) (l:List Step) (i:Nat) (E:Env) (H:Hp):Prop:=
 E 0= .str s/\E 4= .fn f1 [] []/\E 5= .sl (.loc 5) 2 0 l.length/\E 6= .int .i64 i/\E 7= .ptr (.loc 7) 2 0 0/\H (.loc 5)= .live ⟨2,aB (l.map Step.iv)⟩/\(∀q:Lb,q.fresh=false->H q= .unused)/\H (.loc 164)= .unused
def PaD (s:Bs) (f1:Nat) (l:List Step) (nm:Bs) (n i:Nat) (E:Env) (H:Hp):Prop:=
 E 0= .str s/\E 4= .fn f1 [] []/\E 5= .sl (.loc 164) 2 0 (l.length+1)/\E 6= .int .i64 i/\H (.loc 164)= .live ⟨2,aB ((l++[(⟨nm,(n:Int)⟩:Step)]).map Step.iv)⟩/\∀q:Lb,q.fresh=false->H q= .unused
def atu (Q:gI):Prop:=∀(E:Env) (H:Hp),E 2= .nil0->E 3= .int .i64 1->Q .ret E H
section
variable {S:St} {Q:gI} {k:List It} {E:Env} {H:Hp} {s nm:Bs} {l:List Step} {f1:Nat} (hN:S.N=173) (hs:s.length<=2500) (hl:l.length<=2500) (hB:fU S.P f1=true) (hNo:au S.P S.G f1 [] (.gf [.nil0,.int .i64 1]))
include hN hl
theorem auW {n i2:Nat} (ps:PaS s f1 l i2 E H) (h7:H (.loc 7)= .live ⟨2,[[.str nm,.int .i64 n]]⟩) (hk:∀E' H',PaD s f1 l nm n i2 E' H'->go S Q k E' H'):go S Q (.code asK::k) E H:=by
 obtain⟨e0,e4,e5,e6,e7,g5,gE,g1⟩:=ps;unfold asK;simp only[↓aX,mX,seval,hN,e0,e4,e5,e6,e7,h7];rw[qg 2 24 164 5 (l.map Step.iv) (.agg [.str nm,.int .i64 n]) g5 tM rfl aaw sf sf sf g1];simp only[↓aX,mX,seval,hN];exact hk _ _ ⟨e0,e4,rfl,e6,by simp[ae,Step.iv,Step.cs],λq hq=>by rw[aq _ _ (by rintro rfl;simp[Lb.fresh] at hq),aq _ _ (by rintro rfl;simp[Lb.fresh] at hq)];exact gE q hq⟩
include hs hB hNo
omit hl in
theorem avd {f j:Nat} (Kb:f<=j) (hj:j<=s.length) (e0:E 0= .str s) (e4:E 4= .fn f1 [] []) (e6:E 6= .int .i64 j) (e8:E 8= .int .i64 f) (ati:j=f\/s[f]?=some 48\/s[j]?≠some 93->atu Q)
  (hk:j≠f->s[f]?≠some 48->s[j]?=some 93->∀E':Env,E' 0=E 0->E' 4=E 4->E' 5=E 5->E' 6= .int .i64 ((j+1:Nat):Int)->E' 7=E 7->go S Q k E' H):go S Q (.code asL::k) E H:=by
 unfold asL;by_cases hjf:j=f
 ·simp only[↓aX,mX,seval,hN,e0,e6,e8,show((j:Int)==(f:Int))=true by simp[hjf]];exact ath M3 sf hB hNo e4 (ati (.inl hjf))
 obtain⟨c0,BZ⟩:∃c0,s[f]?=some c0:=⟨_,rX sf⟩;simp only[↓aX,mX,seval,hN,e0,e6,e8,show((j:Int)==(f:Int))=false by simp;omega,BZ,bT,QJ,Qj,show((c0.toNat:Int)==48)=(c0==48) from att c0 48 M3];by_cases h48:c0=48
 ·simp only[↓aX,mX,seval,hN,show(c0==48)=true by simpa using h48];exact ath M3 sf hB hNo e4 (ati (.inr (.inl (by rw[BZ,h48]))))
 simp only[↓aX,mX,seval,hN,e0,e6,show(c0==48)=false by simpa using h48];by_cases Sx:j=s.length
 ·simp only[↓aX,mX,seval,hN,e0,e6,show((j:Int)==(s.length:Int))=true by simp[Sx]];exact ath M3 sf hB hNo e4 (ati (.inr (.inr (by simp[Sx]))))
 obtain⟨b,hb⟩:∃b,s[j]?=some b:=⟨_,rX sf⟩;have hw:IntKind.i64.wrap ((j:Int)+1)=((j+1:Nat):Int):=wrap64 sf sf;simp only[↓aX,mX,seval,hN,e0,e6,show((j:Int)==(s.length:Int))=false by simp;omega,hb,bT,QJ,Qj,show((b.toNat:Int) !=93)= !(b==93) by rw[bne,show((b.toNat:Int)==93)=(b==93) from att b 93 M3]];by_cases h93:b=93
 ·simp only[↓aX,mX,seval,hN,show(b==93)=true by simpa using h93,QK,hw,e6];exact hk hjf (by rw[BZ];simpa using h48) (by rw[hb,h93]) _ rfl rfl rfl rfl rfl
 simp only[↓aX,mX,seval,hN,show(b==93)=false by simpa using h93,QI];exact ath M3 sf hB hNo e4 (ati (.inr (.inr (by rw[hb];simpa using h93))))
set_option maxHeartbeats 1000000 in
theorem auo {i1:Nat} (hi:i1<=s.length) (ps:PaS s f1 l i1 E H) (h7:H (.loc 7)= .live ⟨2,[[.str nm, .int .i64 0]]⟩) (ati:as9 (s.drop i1)=none->atu Q)
    (hk:∀(n i2:Nat),as9 (s.drop i1)=some (n,s.drop i2)->i1<=i2->i2<=s.length->∀E' H',PaD s f1 l nm n i2 E' H'->go S Q k E' H'):go S Q (.code asE::k) E H:=by
  have h7':=h7
  have ps':=ps
  obtain⟨h0,h4,h5,h6,e7,H5,hE,atB⟩:=ps
  unfold asE
  by_cases bI:i1<s.length
  · obtain⟨c,hc⟩:∃c,s[i1]?=some c:=⟨_,List.getElem?_eq_getElem bI⟩
    have hd:=drop_at hc
    simp only[↓aX,mX,seval,hN,h0,h4,h5,h6,e7,show decide ((i1:Int)<(s.length:Int))=true by simpa using bI,Int.natCast_nonneg,Int.toNat_natCast,hc,Option.map_some]
    rw[show((c.toNat:Int)==91)=(c==91) from att c 91 M3]
    by_cases h91:c=91
    · subst h91
      obtain⟨f,hf⟩:∃f,f=i1+1:=⟨_,rfl⟩
      have fin:∀j,f<=j->j<=s.length->(∀c∈(s.drop f).take (j - f),dgt c=true)->(∀c,s[j]?=some c->dgt c=false)->∀(E':Env) (H':Hp),PaS s f1 l j E' H'->E' 8= .int .i64 f ->
          H' (.loc 7)= .live ⟨2,[[.str nm, .int .i64 (as7 ((s.drop f).take (j - f)))]]⟩->go S Q (.code asL:: .code asK::k) E' H':=by
        rintro j Ig FE dN aiy E' H' ⟨e0,e4,e5,e6,e7,g5,gE,g1⟩ e8 g7
        obtain⟨auX,T9⟩:=aua Ig FE dN aiy
        obtain⟨t,ht⟩:∃t,(s.drop f).take (j - f)=t:=⟨_,rfl⟩
        have amP:as9 (s.drop i1)=if t=[]\/t.head?=some 48 then none else match s.drop j with
          |93::r2=>some (as7 t,r2)
          |_=>none:=by rw[hd,<-hf,<-ht];simp only[as9,auX,T9];rfl
        have Tf:j≠f->t.head?=s[f]?:=λh=>by rw[<-ht,List.head?_eq_getElem?,List.getElem?_take,if_pos sf,List.getElem?_drop,Nat.add_zero]
        refine avd hN hs hB hNo Ig FE e0 e4 e6 e8 (λh=>ati ?_) λh1 h2 h3 E2 k0 k4 k5 k6 k7=> ?_
        · rw[amP]
          by_cases hjf:j=f
          · rw[if_pos (.inl (by rw[<-ht,hjf];simp))]
          rcases h with h|h|h
          · exact absurd h hjf
          · rw[if_pos (.inr (by rw[Tf hjf,h]))]
          split
          · rfl
          split
          · rename_i e
            have:=congrArg List.head? e
            rw[List.head?_drop] at this
            exact absurd this h
          rfl
        have hx:=Tf h1
        rw [if_neg (by rintro (e | e); · rw [e] at hx; have := (List.getElem?_eq_none_iff.1 hx.symm); omega
                       exact h2 (hx.symm.trans e)),drop_at h3] at amP
        rw[ht] at g7
        exact auW hN hl ⟨k0.trans e0,k4.trans e4,k5.trans e5,k6,k7.trans e7,g5,gE,g1⟩ g7 (hk (as7 t) (j+1) amP sf (List.getElem?_eq_some_iff.1 h3).1)
      have hwf:IntKind.i64.wrap ((i1:Int)+1)=((f:Nat):Int):=by rw[hf];exact wrap64 sf sf
      simp only[↓aX,mX,seval,hN,beq_self_eq_true,h6,hwf]
      refine pe (σ:={j:Nat // f<=j/\j<=s.length/\∀c∈(s.drop f).take (j - f),dgt c=true}) (λ_=>[.loc 7, .loc 5]) (λ_ _=>false)
        (λq=>[(0, .str s),(4, .fn f1 [] []),(5, .sl (.loc 5) 2 0 l.length),(6, .int .i64 q.1),(7, .ptr (.loc 7) 2 0 0),(8, .int .i64 f)])
        (λq=>[(.loc 7,⟨2,[[.str nm, .int .i64 (as7 ((s.drop f).take (q.1 - f)))]]⟩),(.loc 5,⟨2,aB (l.map Step.iv)⟩)]) (λq=>s.length - q.1) ⟨f,Nat.le_refl _,sf,tM⟩ (λ_=>rfl) (λq=>by simp[ah,AV.an]) ?_ ⟨[], ?_⟩ ?_
      · intro q w hw cs bV z hz
        simp only[List.mem_cons,List.not_mem_nil,or_false] at hw
        rcases hw with rfl|rfl
        · simp only[List.mem_singleton] at bV;subst bV
          simp[ah,AV.an] at hz
        rw[bU bV] at hz;simp at hz
      · refine⟨λq hq hu=>absurd (hE q hq) hu, ?_, ?_,aar,λl _=>⟨id,λ_=>rfl⟩⟩
        · simp[k_,dn,bJ,bu,put,h0,h4,h5,e7]
        simp only[tc,dy]
        simp[dn,dO,bu,bJ,h7,H5,as7]
      rintro⟨j,Ig,FE,dN⟩
      rw[Cf]
      obtain⟨t,ht⟩:∃t,(s.drop f).take (j - f)=t:=⟨_,rfl⟩
      have aub:=fin j Ig FE dN
      rw[ht] at dN
      have zD:=aun t
      simp only[↓aX,mX,seval,cF,bW,hN,ht]
      have KF:∀(E':Env) (Y:Slot),E' 0= .str s->E' 4= .fn f1 [] []->E' 5= .sl (.loc 5) 2 0 l.length->E' 6= .int .i64 j->E' 7= .ptr (.loc 7) 2 0 0->PaS s f1 l j E' (bD (bD Hp.none (.loc 5) (.live ⟨2,aB (l.map Step.iv)⟩)) (.loc 7) Y):=
        λE' Y a b c d e=>⟨a,b,c,d,e,aai,λq hq=>by cases q<;>simp_all[Lb.fresh,ae,Hp.none],aat⟩
      by_cases hj:j<s.length
      · obtain⟨b,hb⟩:∃b,s[j]?=some b:=⟨_,List.getElem?_eq_getElem hj⟩
        have hbt:=b.toNat_lt
        have hw:IntKind.i64.wrap ((j:Int)+1)=((j+1:Nat):Int):=wrap64 sf sf
        cases hdg:dgt b with
        |true=>
          obtain⟨b1,b2⟩:=atb.1 hdg
          simp only[↓aX,mX,seval,hN,show decide ((j:Int)<(s.length:Int))=true by simpa using hj,hb,Option.map_some,Int.natCast_nonneg,Int.toNat_natCast,show decide ((b.toNat:Int)>=48)=true by simp;omega,show decide ((b.toNat:Int)<=57)=true by simp;omega]
          refine⟨aax, ?_⟩
          have w1:IntKind.i64.wrap (10*(as7 t:Int))=((10*as7 t:Nat):Int):=by rw[wrap64 sf sf];omega
          have w2:IntKind.u8.wrap ((b.toNat:Int) - 48)=((b.toNat - 48:Nat):Int):=by rw[IntKind.wrap_u8];omega
          have w3:IntKind.i64.wrap ((b.toNat - 48:Nat):Int)=((b.toNat - 48:Nat):Int):=wrap64 sf sf
          have w4:IntKind.i64.wrap (((10*as7 t:Nat):Int)+((b.toNat - 48:Nat):Int))=((10*as7 t+(b.toNat - 48):Nat):Int):=by rw[wrap64 sf sf];omega
          have w5:(if(1000:Int)<((10*as7 t+(b.toNat - 48):Nat):Int) then(1000:Int) else((10*as7 t+(b.toNat - 48):Nat):Int))=((min (10*as7 t+(b.toNat - 48)) 1000:Nat):Int):=by split<;>omega
          have fw:=take_one Ig hb
          rw[ht] at fw
          simp only[↓aX,mX,seval,hN,hb,Option.map_some,Int.natCast_nonneg,Int.toNat_natCast,hw,w1,w2,w3,w4,w5]
          refine⟨⟨j+1,sf,hj,λc hc=> ?_⟩,aac,[], ?_⟩
          · rw[fw] at hc
            rcases List.mem_append.1 hc with hc|hc
            · exact dN c hc
            rw[List.mem_singleton.1 hc];exact hdg
          refine⟨?_, ?_, ?_,aar,λl _=>⟨id,λ_=>rfl⟩⟩
          · intro l hf hu
            exfalso;apply hu
            cases l<;>simp_all[Lb.fresh,ae,Hp.none]
          · simp[k_,dn,bJ,bu,put]
          simp only[tc,dy,fw,at3]
          simp[dn,ae,dO,bu,bJ,ht]
          rw[w1,w4];exact w5
        |false=>
        have e2:(decide ((b.toNat:Int)>=48)=false)\/(decide ((b.toNat:Int)>=48)=true/\decide ((b.toNat:Int)<=57)=false):=by
          have:¬(48<=b.toNat/\b.toNat<=57):=λh=>by rw[atb.2 h] at hdg;cases hdg
          simp only[decide_eq_false_iff_not,decide_eq_true_eq];omega
        rcases e2 with e2|⟨e2,e3⟩<;>(first|simp only[↓aX,mX,seval,hN,show decide ((j:Int)<(s.length:Int))=true by simpa using hj,hb,Option.map_some,Int.natCast_nonneg,Int.toNat_natCast,e2,e3]|simp only[↓aX,mX,seval,hN,show decide ((j:Int)<(s.length:Int))=true by simpa using hj,hb,Option.map_some,Int.natCast_nonneg,Int.toNat_natCast,e2]) <;>
          exact aub (λc hc=>by rw[hb] at hc;cases hc;exact hdg) _ _ (KF _ _ rfl rfl rfl rfl rfl) rfl (by simp[ae,ht])
      simp only[↓aX,mX,seval,hN,show decide ((j:Int)<(s.length:Int))=false by simpa using hj]
      exact aub (λc hc=>by have:=(List.getElem?_eq_some_iff.1 hc).1;omega) _ _ (KF _ _ rfl rfl rfl rfl rfl) rfl (by simp[ae,ht])
    simp only[↓aX,mX,seval,show(c==91)=false by simpa using h91]
    exact auW hN hl ⟨h0,h4,h5,h6,e7,H5,hE,atB⟩ h7 (hk 0 i1 (by rw[hd];exact aum h91) (Nat.le_refl _) hi)
  simp only[↓aX,mX,seval,hN,h0,h4,h5,h6,e7,show decide ((i1:Int)<(s.length:Int))=false by simpa using bI]
  exact auW hN hl ⟨h0,h4,h5,h6,e7,H5,hE,atB⟩ h7 (hk 0 i1 (by rw[List.drop_of_length_le sf];rfl) (Nat.le_refl _) hi)
end

def atg (r:Bs):Option (List Step):=atl r.length r
def at4:∀(n:Nat) (r:Bs),r.length<=n->atl n r=atg r:=by
 intro n;induction n using Nat.strongRecOn with
 |_ n ih=>
 intro r hr
 match n,r,hr,ih with
 |n,[],_,_=>cases n<;>rfl
 |n+1,c::r,hr,ih=>
  simp only[gL] at hr;unfold atg;simp only[gL,atl];split
  ·cases hx:asR r with
   |none=>rfl
   |some x=>
    simp only[EF];cases hy:as9 x.2 with
    |none=>rfl
    |some y=>
    simp only[EF];have hl:y.2.length<=r.length:=((atx hy).trans (atm hx)).length_le;rw[ih n sf y.2 sf,ih r.length sf y.2 hl]
  rfl
def atv (r:Bs):atg (47::r)=(asR r).bind λx=>(as9 x.2).bind λy=>(atg y.2).map λl=>⟨x.1,y.1⟩::l:=by
 unfold atg;simp only[gL,atl,Rc];cases hx:asR r with
 |none=>rfl
 |some x=>
 simp only[EF];cases hy:as9 x.2 with
 |none=>rfl
 |some y=>
 simp only[EF];rw[at4 r.length y.2 ((atx hy).trans (atm hx)).length_le];rfl
def auc {c:UInt8} (r:Bs) (h:c≠47):atg (c::r)=none:=by
 unfold atg;simp only[gL,atl,Ev h]
def aup {c:UInt8} (r:Bs) (h1:c≠42) (h2:c≠35):asR (c::r)=if(c::r).takeWhile ltr=[] then none else some ((c::r).takeWhile ltr,(c::r).dropWhile ltr):=by
 unfold asR;split
 ·rename_i h;cases h;exact absurd rfl h1
 ·rename_i h;cases h;exact absurd rfl h2
 rfl
def atV {c:UInt8}:ltr c=true↔97<=c.toNat/\c.toNat<=122:=by simp[ltr]
def atC (s:Bs):AV:=match atw s with
 |some l=> .gf [.list (l.map Step.iv),.int .i64 0]
 |none=> .gf [.nil0,.int .i64 1]
def at5 (s:Bs):atC s=amr s:=by unfold atC amr;rw[at2];rfl
section
variable {S:St} {Q:gI} {k:List It} {E:Env} {H:Hp} {s:Bs} {l:List Step} {f1:Nat} (hN:S.N=173) (hs:s.length<=2500) (hl:l.length<=2500) (hB:fU S.P f1=true) (hNo:au S.P S.G f1 [] (.gf [.nil0,.int .i64 1]))
include hN hs hB hNo
theorem au8 {f:Nat} (hf:f<=s.length) (hc:∀c,s[f]?=some c->c≠42/\c≠35) (ps:PaS s f1 l f E H) (h7:H (.loc 7)= .live ⟨2,[[.str [],.int .i64 0]]⟩) (ati:asR (s.drop f)=none->atu Q)
  (hk:∀(nm:Bs) (i1:Nat),asR (s.drop f)=some (nm,s.drop i1)->f<=i1->i1<=s.length->nm.length<=2500->∀E' H',PaS s f1 l i1 E' H'->H' (.loc 7)= .live ⟨2,[[.str nm,.int .i64 0]]⟩->go S Q k E' H'):go S Q (.code asN::k) E H:=by
 obtain⟨h0,h4,h5,h6,e7,H5,hE,atB⟩:=ps;have QM:asR (s.drop f)=if(s.drop f).takeWhile ltr=[] then none else some ((s.drop f).takeWhile ltr,(s.drop f).dropWhile ltr):=by
  cases hdf:s.drop f with
  |nil=>rfl
  |cons b r=>
  have:=VZ List.head? hdf;rw[Xw] at this;exact aup r (hc b this).1 (hc b this).2
 unfold asN;have fin:∀j,f<=j->j<=s.length->(∀c∈(s.drop f).take (j - f),ltr c=true)->(∀c,s[j]?=some c->ltr c=false)->∀(E':Env) (H':Hp),PaS s f1 l j E' H' ->
   H' (.loc 7)= .live ⟨2,[[.str ((s.drop f).take (j - f)),.int .i64 0]]⟩->go S Q (.code asM::k) E' H':=by
  intro j Ig FE dN aiy E' H' ps g7;obtain⟨auX,T9⟩:=aua Ig FE dN aiy;obtain⟨e0,e4,e5,e6,e7,g5,gE,g1⟩:=ps;obtain⟨t,ht⟩:∃t,(s.drop f).take (j - f)=t:=⟨_,rfl⟩;rw[auX,T9,ht] at QM;rw[ht] at g7;unfold asM;simp only[↓aX,mX,seval,hN,e7,g7];by_cases hte:t=[]
  ·simp only[↓aX,mX,seval,hN,show(t==[])=true by simp[hte]];exact ath M3 sf hB hNo e4 (ati (by rw[QM,P8 hte]))
  simp only[↓aX,mX,seval,hN,show(t==[])=false by simpa using hte];exact hk t j (by rw[QM,Ev hte]) Ig FE (by rw[<-ht];simp;omega) _ _ ⟨e0,e4,e5,e6,e7,g5,gE,g1⟩ g7
 simp only[↓aX,mX,seval,hN];refine pe (σ:={j:Nat // f<=j/\j<=s.length/\∀c∈(s.drop f).take (j - f),ltr c=true}) (λ_=>[.loc 7,.loc 5]) (λ_ _=>false)
  (λq=>[(0,.str s),(4,.fn f1 [] []),(5,.sl (.loc 5) 2 0 l.length),(6,.int .i64 q.1),(7,.ptr (.loc 7) 2 0 0)])
  (λq=>[(.loc 7,⟨2,[[.str ((s.drop f).take (q.1 - f)),.int .i64 0]]⟩),(.loc 5,⟨2,aB (l.map Step.iv)⟩)]) (λq=>s.length - q.1) ⟨f,PW _,sf,tM⟩ (λ_=>rfl) (λq=>by simp[ah,AV.an]) ?_ ⟨[],?_⟩ ?_
 ·intro q w hw cs bV z hz;simp only[PY,QN,QV] at hw;rcases hw with rfl|rfl
  ·simp only[bY] at bV;subst bV;simp[ah,AV.an] at hz
  rw[bU bV] at hz;simp at hz
 ·refine⟨λq hq hu=>absurd (hE q hq) hu,?_,?_,aar,λl _=>⟨id,λ_=>rfl⟩⟩
  ·simp[k_,dn,bJ,bu,h0,h4,h5,h6,e7]
  simp only[tc,dy];simp[dn,dO,bu,bJ,h7,H5]
 rintro⟨j,Ig,FE,dN⟩;rw[Cf];obtain⟨t,ht⟩:∃t,(s.drop f).take (j - f)=t:=⟨_,rfl⟩;have aub:=fin j Ig FE dN;rw[ht] at dN;simp only[↓aX,mX,seval,cF,bW,hN,ht];have KF:∀(E':Env) (Y:Slot),E' 0= .str s->E' 4= .fn f1 [] []->E' 5= .sl (.loc 5) 2 0 l.length->E' 6= .int .i64 j->E' 7= .ptr (.loc 7) 2 0 0->PaS s f1 l j E' (bD (bD Hp.none (.loc 5) (.live ⟨2,aB (l.map Step.iv)⟩)) (.loc 7) Y):=
  λE' Y a b c d e=>⟨a,b,c,d,e,aai,λq hq=>by cases q<;>simp_all[Lb.fresh,ae,Hp.none],aat⟩
 by_cases hj:j<s.length
 ·obtain⟨b,nL⟩:∃b,s[j]?=some b:=⟨_,rX hj⟩;have hw:IntKind.i64.wrap ((j:Int)+1)=((j+1:Nat):Int):=wrap64 sf sf;cases hdg:ltr b with
  |true=>
   obtain⟨b1,b2⟩:=atV.1 hdg;simp only[↓aX,mX,seval,hN,ht,show decide ((j:Int)<(s.length:Int))=true by simpa using hj,nL,bT,QJ,Qj,show decide ((b.toNat:Int)>=97)=true by simp;omega,show decide ((b.toNat:Int)<=122)=true by simp;omega];refine⟨aax,?_⟩;have fw:=take_one Ig nL;rw[ht] at fw;have HG:List.drop j (List.take (j+1) s)=[b]:=by
    rw[Ro,nL,Gk aak,Wv aak];rfl
   have CM:t.length<=s.length:=(by rw[<-ht];simp;omega);have ave:j+1<=s.length:=hj;simp only[↓aX,mX,seval,hN,ht,nL,bT,QJ,Qj,hw,lk,Le,ave,PW,zd,Su,A5,EF,show j<=j+1 by omega,HG,Zm,show t.length+1<=9223372036854775807 by omega,show t.length<=9223372036854775806 by omega];refine⟨⟨j+1,sf,hj,λc hc=> ?_⟩,aac,[],?_⟩
   ·rw[fw] at hc;rcases QL.1 hc with hc|hc
    ·exact dN c hc
    rw[bY.1 hc];exact hdg
   refine⟨?_,?_,?_,aar,λl _=>⟨id,λ_=>rfl⟩⟩
   ·intro l hf hu;exfalso;apply hu;cases l<;>simp_all[Lb.fresh,ae,Hp.none]
   ·simp[k_,dn,bJ,bu,put]
   simp only[tc,dy,fw];simp[dn,ae,dO,bu,bJ,ht]
  |false=>
  have e2:(decide ((b.toNat:Int)>=97)=false)\/(decide ((b.toNat:Int)>=97)=true/\decide ((b.toNat:Int)<=122)=false):=by
   have:¬(97<=b.toNat/\b.toNat<=122):=λh=>(by rw[atV.2 h] at hdg;cases hdg);simp only[Tt,dj];omega
  rcases e2 with e2|⟨e2,e3⟩<;>(first|simp only[↓aX,mX,seval,hN,show decide ((j:Int)<(s.length:Int))=true by simpa using hj,nL,bT,QJ,Qj,e2,e3]|simp only[↓aX,mX,seval,hN,show decide ((j:Int)<(s.length:Int))=true by simpa using hj,nL,bT,QJ,Qj,e2]) <;>
   exact aub (λc hc=>by rw[nL] at hc;cases hc;exact hdg) _ _ (KF _ _ rfl rfl rfl rfl rfl) (by simp[ae,ht])
 simp only[↓aX,mX,seval,hN,show decide ((j:Int)<(s.length:Int))=false by simpa using hj];exact aub (λc hc=>by have:=(yY.1 hc).1;omega) _ _ (KF _ _ rfl rfl rfl rfl rfl) (by simp[ae,ht])
include hl
theorem avf {f:Nat} (hf:f<=s.length) (ps:PaS s f1 l f E H) (h7:H (.loc 7)= .live ⟨2,[[.str [],.int .i64 0]]⟩) (ati:((asR (s.drop f)).bind λx=>as9 x.2)=none->atu Q)
  (hk:∀(nm r:Bs) (n i2:Nat),asR (s.drop f)=some (nm,r)->as9 r=some (n,s.drop i2)->f<=i2->i2<=s.length->nm.length<=2500->∀E' H',PaD s f1 l nm n i2 E' H'->go S Q k E' H'):go S Q (.code asO::k) E H:=by
 have step:∀(nm:Bs) (i1:Nat),asR (s.drop f)=some (nm,s.drop i1)->f<=i1->i1<=s.length->nm.length<=2500->∀E' H',PaS s f1 l i1 E' H'->H' (.loc 7)= .live ⟨2,[[.str nm,.int .i64 0]]⟩->go S Q (.code asE::k) E' H':=
  λnm i1 hn h1 h2 kR E' H' ps g7=>auo hN hs hl hB hNo h2 ps g7 (λh=>ati (by rw[hn];exact h)) λn i2 hm k1 k2=>hk nm _ n i2 hn hm sf k2 kR
 have auQ:∀(nm:Bs) (i1:Nat),asR (s.drop f)=some (nm,s.drop i1)->f<=i1->i1<=s.length->nm.length<=2500->∀E' H',PaS s f1 l i1 E' H'->H' (.loc 7)= .live ⟨2,[[.str nm,.int .i64 0]]⟩->go S Q (.o6 2:: .code asE::k) E' H':=
  λnm i1 a b c d E' H' p g=>by simp only[↓aX,mX,seval];exact step nm i1 a b c d E' H' p g
 obtain⟨h0,h4,h5,h6,e7,H5,hE,atB⟩:=ps;unfold asO;by_cases FO:f<s.length
 ·obtain⟨a,ha⟩:∃a,s[f]?=some a:=⟨_,rX FO⟩;have hda:=drop_at ha;have Jy:IntKind.i64.wrap ((f:Int)+1)=((f+1:Nat):Int):=wrap64 sf sf;have auq:decide ((f:Int)<(s.length:Int))=true:=by simpa using FO
  have g42:((a.toNat:Int)==42)=(a==42):=att a 42 M3;have g35:((a.toNat:Int)==35)=(a==35):=att a 35 M3;simp only[↓aX,mX,seval,hN,h0,h6,auq,QJ,Qj,ha,bT,g42,g35];by_cases e42:a=42
  ·simp only[↓aX,mX,seval,hN,h0,h6,e7,h7,auq,show(a==42)=true by simpa using e42,Jy,ha,QJ,Qj,bT,g42];exact step [42] (f+1) (by rw[hda,e42];rfl) sf FO M3 _ _ ⟨h0,h4,h5,rfl,e7,by simp[ae,H5],λq hq=>by rw[aq _ _ (by rintro rfl;simp[Lb.fresh] at hq)];exact hE q hq,by simp[ae,atB]⟩ aai
  by_cases e35:a=35
  ·simp only[↓aX,mX,seval,hN,h0,h6,e7,h7,auq,show(a==42)=false by simpa using e42,show(a==35)=true by simpa using e35,g35,Jy,ha,QJ,Qj,bT,g42];exact step [] (f+1) (by rw[hda,e35];rfl) sf FO M3 _ _ ⟨h0,h4,h5,rfl,e7,H5,hE,atB⟩ h7
  simp only[↓aX,mX,seval,hN,h0,h6,auq,show(a==42)=false by simpa using e42,ha,bT,QJ,Qj,g35,show(a==35)=false by simpa using e35];exact au8 hN hs hB hNo hf (λc h=>by rw[ha] at h;cases h;exact⟨e42,e35⟩) ⟨h0,h4,h5,h6,e7,H5,hE,atB⟩ h7 (λh=>ati (by rw[h];rfl)) auQ
 simp only[↓aX,mX,seval,hN,h0,h6,show decide ((f:Int)<(s.length:Int))=false by simpa using FO];exact au8 hN hs hB hNo hf (λc h=>by have:=(yY.1 h).1;omega) ⟨h0,h4,h5,h6,e7,H5,hE,atB⟩ h7 (λh=>ati (by rw[h];rfl)) auQ
end
section
variable {P:Program} {G:Nat->Option (List IV)}
def asP:AC:=
(aM [zi 0,gH 1 0] (aM [zi 0,gH 1 1] .ret))
def auY {ph:Nat} (hF:aw P G ph=some (2,[(none,0),(none,1)],asP.bare)):au P G ph [] (.gf [.nil0,.int .i64 1]):=by
 refine aR hF tM (by simp[ah]) aao ?_;unfold asP;simp only[↓aX,mX,seval,↓h_]
set_option maxHeartbeats 4000000 in
def atJ {tK ph asB:Nat} (hF:aw P G tK=some (173,[(none,2),(none,3)],(asU ph asB).bare)) (s:Bs) (hs:s.length<=B) (hB:fU P ph=true) (hNo:au P G ph [] (.gf [.nil0,.int .i64 1]))
  (hIP:∀l:List Step,l.length<=2500->(∀x∈l,x.name.length<=2500)->au P G asB [.list (l.map Step.iv)] (.bool (ak6 l))):au P G tK [.str s] (atC s):=by
 have zo:B=1073741824:=rfl;refine aR hF tM aae (by unfold atC;cases atw s<;>simp[AV.an,ah]) ?_;unfold asU;simp only[↓aX,mX,seval];have fail:atw s=none->atu (fX [(none,2),(none,3)] λx _=>x=atC s):=λh E H e2 e3=>by
  simp only[↓aX,mX,seval,↓h_,e2,e3];unfold atC;rw[h]
 by_cases hs5:s.length<=2500
 ·simp only[↓aX,mX,seval,show decide ((s.length:Int)>2500)=false by simp;omega];cases hse:(s==[]) with
  |true=>
   simp only[↓aX,mX,seval];exact ath M3 tM hB hNo rfl (fail (by rw[show s=[] by simpa using hse];rfl))
  |false=>
  have wo:s≠[]:=by simpa using hse
  have hrP:atw s=(atg s).bind λl=>if ak6 l then some l else none:=by unfold atw atg;rw[if_pos ⟨hs5,wo⟩]
  simp only[↓aX,mX,seval];refine pe (σ:={q:Nat×List Step // q.1<=s.length/\q.2.length<=q.1/\(∀x∈q.2,x.name.length<=2500)/\atg s=(atg (s.drop q.1)).map λm=>q.2++m}) (λ_=>[.loc 5]) (λ_ _=>false)
   (λq=>[(0,.str s),(4,.fn ph [] []),(5,.sl (.loc 5) 2 0 q.1.2.length),(6,.int .i64 q.1.1)]) (λq=>[(.loc 5,⟨2,aB (q.1.2.map Step.iv)⟩)]) (λq=>s.length - q.1.1)
   ⟨(0,[]),Nat.zero_le _,Nat.le_refl _,tM,tM⟩ (λ_=>rfl) (λq=>by simp[ah,AV.an]) ?_ ⟨[],?_⟩ ?_
  ·intro q w hw cs bV z hz;simp only[List.mem_singleton] at hw;subst hw;rw[bU bV] at hz;simp at hz
  ·refine⟨?_,?_,?_,aar,λl _=>⟨id,λ_=>rfl⟩⟩
   ·intro l hf hu;exfalso;apply hu;cases l<;>simp_all[Lb.fresh,ae,Hp.none]
   ·simp[k_,dn,bJ,bu,put,jP]
   simp[tc,dn,ae,dO,bu,bJ,aB]
  rintro⟨⟨i,l⟩,hi,avg,ve,aur⟩;rw[Cf];simp only at hi avg ve aur;have FQ:atg (s.drop i)=none->atu _:=λh=>fail (by rw[hrP,aur,h];rfl);simp only[↓aX,mX,seval,cF,bW];by_cases bI:i<s.length
  ·obtain⟨c,hc⟩:∃c,s[i]?=some c:=⟨_,List.getElem?_eq_getElem bI⟩;have hd:=drop_at hc;simp only[↓aX,mX,seval,show decide ((i:Int)<(s.length:Int))=true by simpa using bI,Int.natCast_nonneg,Int.toNat_natCast,hc,Option.map_some,show((c.toNat:Int) !=47)= !(c==47) by rw[bne,show((c.toNat:Int)==47)=(c==47) from att c 47 M3]];by_cases HE:c=47
   ·subst HE;obtain⟨f,hf⟩:∃f,f=i+1:=⟨_,rfl⟩;have hsi:s.drop i=47::s.drop f:=(by rw[hd,hf]);have hwf:IntKind.i64.wrap ((i:Int)+1)=((f:Nat):Int):=(by rw[hf];exact wrap64 sf sf);simp only[↓aX,mX,seval,beq_self_eq_true,Bool.not_true,hwf];refine avf (S:=⟨P,G,173⟩) rfl hs5 sf hB hNo sf ⟨rfl,rfl,rfl,rfl,rfl,aai,λq hq=>by cases q<;>simp_all[Lb.fresh,ae,Hp.none],aat⟩ aai (λh=>FQ ?_) λnm r n i2 hn hm k1 k2 hlen E H ⟨e0,e4,e5,e6,g1,gE⟩=> ?_
    ·rw[hsi,atv];cases hx:asR (s.drop f) with
     |none=>rfl
     |some x=>
     rw[hx] at h;simp only[Option.bind_some] at h ⊢;rw[h];rfl
    simp only[↓aX,mX,seval];refine⟨⟨(i2,l++[(⟨nm,(n:Int)⟩:Step)]),k2,aaK,λx hx=> ?_,?_⟩,aac,[(.loc 5,.loc 164)],?_⟩
    ·rcases List.mem_append.1 hx with hx|hx
     ·exact ve x hx
     rw[List.mem_singleton.1 hx];exact hlen
    ·rw[aur,hsi,atv,hn];simp only[Option.bind_some,hm];cases atg (s.drop i2)<;>simp
    refine⟨λq hq hu=>absurd (gE q hq) hu,?_,?_,aar,?_⟩
    ·simp[k_,dn,bJ,bu,e0,e4,e5,e6]
    ·simp only[tc,dy];simp[dn,g1]
    intro l hl;simp only[List.mem_singleton] at hl;subst hl;exact⟨λ_=>rfl,λh=>by simp[Lb.fresh] at h⟩
   simp only[show(c==47)=false by simpa using HE,Bool.not_false,↓aX,mX,seval];exact ath M3 tM hB hNo rfl (FQ (by rw[hd];exact auc _ HE))
  have XV:i=s.length:=sf
  simp only[↓aX,mX,seval,show decide ((i:Int)<(s.length:Int))=false by simpa using bI];have au9:atg s=some l:=by rw[aur,XV,List.drop_length];simp[atg,atl]
  have FO:Flat (l.map Step.iv):=aqf l;have E0:(l.map Step.iv).take l.length=l.map Step.iv:=List.take_of_length_le tM;refine⟨2,l.map Step.iv,0,l.length,rfl,rfl,tM,FO,?_⟩;simp only[↓aX,mX,seval,List.drop_zero,E0];refine ay (hIP l sf ve) ?_;cases hg:ak6 l with
  |true=>simp only[↓aX,mX,seval,Bool.not_true,↓h_,E0,show atC s= .gf [.list (l.map Step.iv),.int .i64 0] by unfold atC;rw[hrP,au9,Option.bind_some,if_pos hg]]
  |false=>
  simp only[↓aX,mX,seval,Bool.not_false];exact ath M3 tM hB hNo rfl (fail (by rw[hrP,au9,Option.bind_some,if_neg (by rw[hg];decide)]))
 simp only[↓aX,mX,seval,show decide ((s.length:Int)>2500)=true by simp;omega];exact ath M3 tM hB hNo rfl (fail (by unfold atw;rw[if_neg λh=>hs5 h.1]))
end
end Go.Am

set_option maxRecDepth 20000
namespace Go.Am
open Go Go.RowKit
section
variable {P:Program} {G:Nat->Option (List IV)}
def Op.az (x:Op):List AV:=[.int .i64 x.kind,.int .i64 x.target,.list (dq x.content),.str x.name,.str x.s]
end
end Go.Am

set_option maxRecDepth 20000
namespace Go.Am
open Go Go.RowKit
section
variable {P:Program} {G:Nat->Option (List IV)}
def ajp (Nl:Nat):AC:=
(aM [zzX 2 0,zzX 3 1,jM 4 false] (aM [ep 5 2 0,fm 6 5,ep 7 3 0,fm 8 7,et 9 .eql 6 8,MR 10 9,Wb 11 10 2 1,jm 12 10 11,Wb 13 10 3 1,jm 14 10 13,dW 15 10 (.bin .eql (.t 12) (.t 14)),jT 16 10 15,MR 17 16,Wb 18 17 2 3,jm 19 17 18,Wb 20 17 3 3,jm 21 17 20,dW 22 17 (.bin .eql (.t 19) (.t 21)),jT 23 17 22,MR 24 23,Wb 25 24 2 4,jm 26 24 25,Wb 27 24 3 4,jm 28 24 27,dW 29 24 (.bin .eql (.t 26) (.t 28)),jT 30 24 29,MR 31 30,Wb 32 31 2 2,jm 33 31 32,Wb 34 31 3 2,jm 35 31 34,dW 36 31 (.call Nl [(.t 33),(.t 35)]),jT 37 31 36,MR 4 37] .ret))
def akw {ai9 Nl:Nat} (hF:aw P G ai9=some (38,[(none,4)],(ajp Nl).bare)) (o:Op) (hS:au P G Nl [.list (dq o.content),.list (dq o.content)] (.bool true)) :
  au P G ai9 [o.av,o.av] (.bool true):=by
 refine aR hF tM (by simp[ah,AV.an,Op.av]) aad ?_;unfold ajp;simp only[↓aX,mX,seval,Op.av];refine ay hS ?_;simp only[↓aX,mX,seval]
end

def spn (c:UInt8):Nat->Bs->List Bs
 |0,r=>[r]
 |k+1,r=>if(Bj c r).2.2 then(Bj c r).1::spn c k (Bj c r).2.1 else [r]
structure avh (c:UInt8) (s:Bs) (k:Nat) where
 i:Nat
 pre:List Bs
 hp:i=pre.length
 r:Bs
 hi:pre.length<=k
 hs:spn c k s=pre++spn c (k - pre.length) r
 hl:r.length<=s.length
def atW {pre:List Bs} {k:Nat} (h:pre.length<=k) (w:Bs):(pre++List.replicate (k+1 - pre.length) []).set pre.length w=pre++[w]++List.replicate (k - pre.length) []:=by
 rw[Vq _ _ (PW _),Gl,show k+1 - pre.length=(k - pre.length)+1 by omega,Yw,ZI];simp
def atK {P:Program} {G:Nat->Option (List IV)} {ak' alO alk NY:Nat} (hF:aw P G ak'=some (66,[(none,8)],(alH alO alk NY).bare)) (s:Bs) (c:UInt8) (hs:s.length<=B) (n:Nat) (hn:n+1<=s.length+1) (wq:0<=n) (JU:n<=B) (N:Nat) (hN:min N (s.length+1)=n+1)
  (hX:∀r:Bs,au P G NY [.str r,.str [c]] (.int .i64 (Lib.indexByte r c))) :
  au P G ak' [.str s,.str [c],.int .i64 0,.int .i64 N] (.list ((spn c n s).map IV.str)):=by
 refine aR hF tM aae aad ?_;have zo:B=1073741824:=rfl;have wB:IntKind.i64.wrap (((s.length:Nat):Int)+1)=((s.length+1:Nat):Int):=wrap64 sf sf;have Es:IntKind.i64.wrap (((n+1:Nat):Int) - 1)=((n:Nat):Int):=by rw[wrap64 sf sf];omega
 have hN0:((N:Int)==0)=false:=aak
 have hN1:decide ((N:Int)<0)=false:=tM
 have IF:(if((s.length+1:Nat):Int)<(N:Int) then((s.length+1:Nat):Int) else(N:Int))=((n+1:Nat):Int):=by split<;>omega
 unfold alH;simp only[↓aX,mX,seval,hN0,hN1,show(([c]:Bs)==[])=false from rfl,wB,IF];rw[aqj sf abF];simp only[↓aX,mX,seval,Es];refine ca (σ:=avh c s n) [.loc 31] (λq=>[(0,.str q.r),(1,.str [c]),(2,.int .i64 0),(3,.int .i64 (n:Int)),(9,.sl (.loc 31) 1 0 (n+1)),(10,.int .i64 q.i)])
  (λq=>[(.loc 31,⟨1,anr (q.pre++List.replicate (n+1 - q.pre.length) [])⟩)]) (λq=>n - q.pre.length) ⟨0,[],rfl,s,zd _,rfl,PW _⟩ (λ_=>rfl) M3 aae (by
   intro q r hr cs bV l hl;simp only[bY] at hr;subst hr;rw[apl bV] at hl;simp at hl) ?_ ?_
 ·refine eL aa9 aah ⟨?_,trivial⟩;simp[anr,ae]
 rintro⟨_,pre,rfl,r,hi,wu,hl⟩;have hlen:(pre++List.replicate (n+1 - pre.length) ([]:Bs)).length=n+1:=aak
 have hwc:IntKind.i64.wrap (((pre.length:Nat):Int)+1)=((pre.length+1:Nat):Int):=wrap64 sf sf;obtain⟨w0,zO⟩:∃w0,(pre++List.replicate (n+1 - pre.length) ([]:Bs))[pre.length]?=some w0:=⟨_,rX sf⟩;have vf:=atW hi r;simp only[↓aX,mX,seval,cF,bW];refine AU (λbI=> ?_) (λbI=> ?_)
 ·have bI:pre.length<n:=by simpa using bI
  simp only[↓aX,mX,seval];refine ay (hX r) ?_;simp only[↓aX,mX,seval];refine AU (λhm=> ?_) (λhm=> ?_)
  rotate_left
  ·have hm:¬Lib.indexByte r c<0:=(by simpa using hm);rcases pC c r with⟨h1,_,_⟩|⟨m,h1,h2,_,_⟩
   ·rw[h1] at hm;exact absurd hm M3
   have g_:spn c (n - pre.length) r=r.take m::spn c (n - (pre.length+1)) (r.drop (m+1)):=by
    rw[show n - pre.length=(n - (pre.length+1))+1 by omega];simp[spn,Bj,h1]
   have au':=atW hi (r.take m);have Ef:IntKind.i64.wrap (((m:Nat):Int)+0)=((m:Nat):Int):=(by rw[wrap64 sf sf];omega);have LX:IntKind.i64.wrap (((m:Nat):Int)+1)=((m+1:Nat):Int):=wrap64 sf sf;simp only[h1,↓aX,mX,seval,Ef,lk,Le,QJ,Qj,Su,show m<=r.length by omega,tn,an4,an5,hlen,zO,bT,EF,SX,X3,au',show pre.length<n+1 by omega,bM,
    gL,Rm,show((1:Nat):Int)=1 from rfl,LX,show m+1<=r.length by omega,Rk,hwc]
   exact⟨⟨pre.length+1,pre++[r.take m],tM,r.drop (m+1),aak,by rw[wu,g_];simp,aak⟩,by simp only[ko,gL,Rm];omega,eL aa9 aah ⟨aai,trivial⟩⟩
  have g_:spn c (n - pre.length) r=[r]:=by
   rcases pC c r with⟨h1,_,_⟩|⟨m,h1,h2,_,_⟩
   ·rw[show n - pre.length=(n - pre.length - 1)+1 by omega];simp[spn,Bj,h1]
   rw[h1] at hm;simp at hm;omega
  simp only[↓aX,mX,seval,lk,Le,QJ,Qj,Su,an5,zO,bT,EF,gL,Rm,SX,tn,X3,bM,an4,vf,hwc,
   show pre.length<n+1 by omega,PW]
  simp only[↓aX,mX,seval,Cs,nB,lk,Le,QJ,Qj,Su,PW,zd,EF,bT,V8,Xa,kf,bM,show pre.length+1<=n+1 by omega];refine⟨1,(pre++[r]++List.replicate (n - pre.length) []).map IV.str,0,pre.length+1,rfl,?_,tM,aqX _,?_⟩
  ·rw[<-an3];try simp[ae]
  have ht:((pre++[r]++List.replicate (n - pre.length) []).map IV.str).take (pre.length+1)=(spn c n s).map IV.str:=by
   rw[wu,g_,<-JD,pI tM];rw[P5 tM]
  simp only[↓aX,mX,seval,tn,ht]
 have g_:spn c (n - pre.length) r=[r]:=by
  have:¬pre.length<n:=by simpa using bI
  rw[show n - pre.length=0 by omega];rfl
 simp only[↓aX,mX,seval,lk,Le,QJ,Qj,Su,an5,zO,bT,EF,gL,Rm,SX,tn,X3,bM,an4,vf,hwc,hlen,
  show pre.length<n+1 by omega,PW]
 simp only[↓aX,mX,seval,Cs,nB,lk,Le,QJ,Qj,Su,PW,zd,EF,bT,V8,Xa,kf,bM,show pre.length+1<=n+1 by omega];refine⟨1,(pre++[r]++List.replicate (n - pre.length) []).map IV.str,0,pre.length+1,rfl,?_,tM,aqX _,?_⟩
 ·rw[<-an3];try simp[ae]
 have ht:((pre++[r]++List.replicate (n - pre.length) []).map IV.str).take (pre.length+1)=(spn c n s).map IV.str:=by
  rw[wu,g_,<-JD,pI tM];rw[P5 tM]
 simp only[↓aX,mX,seval,tn,ht]
def aus {c:UInt8} {r:Bs} (h:(Bj c r).2.2=true):(Bj c r).2.1.length<r.length:=by
 unfold Bj at h ⊢;rcases pC c r with⟨h1,_,_⟩|⟨m,h1,h2,_,_⟩
 ·rw[h1] at h;simp at h
 rw[h1];simp;omega
theorem atA (c:UInt8):∀(k:Nat) (r:Bs),spn c k r=spn c (min k r.length) r
 |0,r=>by simp
 |k+1,r=>by
  rcases Nat.eq_zero_or_pos r.length with h|h
  ·rw[h,Nat.min_zero];have:r=[]:=(by simpa using h);subst this;rfl
  rw[show min (k+1) r.length=min k (r.length - 1)+1 by omega];simp only[spn];split
  ·rename_i h2;have:=aus h2;rw[atA c k,atA c (min k (r.length - 1)),show min (min k (r.length - 1)) (Bj c r).2.1.length=min k (Bj c r).2.1.length by omega]
  rfl
def as8 (ak':Nat):AC:=
(aM [zi 6] (aM [MR 7 0,MR 8 1,MR 9 2,aQ 10 (.call ak' [(.t 7),(.t 8),(jS 0),(.t 9)]),MR 6 10] .ret))
def aut {P:Program} {G:Nat->Option (List IV)} {asI ak' alO alk NY:Nat} (hF:aw P G asI=some (11,[(none,6)],(as8 ak').bare)) (hF2:aw P G ak'=some (66,[(none,8)],(alH alO alk NY).bare)) (s:Bs) (c:UInt8) (hs:s.length<=B)
  (hX:∀r:Bs,au P G NY [.str r,.str [c]] (.int .i64 (Lib.indexByte r c))):au P G asI [.str s,.str [c],.int .i64 3] (.list ((spn c 2 s).map IV.str)):=by
 refine aR hF tM aae aad ?_;have zo:B=1073741824:=rfl;unfold as8;simp only[↓aX,mX,seval];have:=atK hF2 s c hs (min 2 s.length) sf sf sf 3 sf hX;rw[<-atA] at this;refine ay this ?_;simp only[↓aX,mX,seval]
def auu {c:UInt8} {s:Bs}:∃w:List Bs,spn c 2 s=w/\w[0]?=some (Bj c s).1/\w.length<=3/\(1<w.length->w[1]?=some (Bj c (Bj c s).2.1).1)/\(w.length<=1->(Bj c (Bj c s).2.1).1=[]) /\
  ((w.length:Int)==3)=(Bj c (Bj c s).2.1).2.2/\((Bj c (Bj c s).2.1).2.2=true->w[2]?=some (Bj c (Bj c s).2.1).2.1):=by
 refine⟨_,rfl,?_⟩;have no:∀r:Bs,(Bj c r).2.2=false->(Bj c r).1=r/\(Bj c r).2.1=[]:=λr h=>by
  unfold Bj at h ⊢;split at h
  ·simp at h
  rename_i h1;rw[Ev h1];exact⟨rfl,rfl⟩
 simp only[spn];cases h1:(Bj c s).2.2 with
 |false=>
  have h2:Bj c []=([],[],false):=rfl;simp[h1,(no s h1).1,(no s h1).2,h2]
 |true=>
 cases h2:(Bj c (Bj c s).2.1).2.2 with
 |false=>simp[h1,h2,(no _ h2).1]
 |true=>simp[h1,h2]

def auZ {o:Option AV} {x:AV} {k:AV->Prop} {u:Tv k} (h:o=some x) (hk:k x):cw o k u:=by exact⟨x,h,hk⟩
def atc:List Bs:=al8.tail
def kAt (kd:Int) (j:Nat):Int:=if 1<=kd/\kd<=j then kd else 0
def auv {w x:Bs} {j:Nat} (h:atc[j]?=some x):(w==x)=decide (amt al8 w=(j+1:Nat)):=by
 have hj:j<10:=(yY.1 h).1;rw[SZ,S',dj];constructor
 ·rintro rfl
  match j,hj with
  |0,_|1,_|2,_|3,_|4,_|5,_|6,_|7,_|8,_|9,_=>simp[atc,al8] at h;subst h;rfl
 intro e;have h2:∀(l:List Bs) (w x:Bs) (i:Nat),amt l w=(i:Int)->l[i]?=some x->w=x:=by
  intro l;induction l with
  |nil=>intro w x i h;simp[amt] at h
  |cons v r ih=>
  intro w x i h hx;simp only[amt] at h;split at h
  ·rename_i e;have:i=0:=sf;subst this;simp at hx;rw[e,hx]
  split at h
  ·omega
  cases i with
  |zero=>omega
  |succ i=>exact ih w x i sf (by simpa using hx)
 exact h2 al8 w x (j+1) e (by rw[<-h];rfl)
section
variable {P:Program} {G:Nat->Option (List IV)}
def asW:AC:=
(aM [aQ 2 (.new [(.int .i64 0),(.int .i64 0),.nil0,(.str []),(.str [])]),zi 3,gH 4 0] (aM [aQ 5 (.sg [(.int .i64 0),(.int .i64 0),.nil0,(.str []),(.str [])] []),MR 6 0,gg (.store 5 (.t 2) (.t 5)),zi 3,MR 4 6] .ret))
def auw {tz:Nat} (hF:aw P G tz=some (7,[((some (some 5)),2),(none,3),(none,4)],asW.bare)) (e:Int):au P G tz [.int .i64 e] (.gf [.agg [.int .i64 0,.int .i64 0,.nil0,.str [],.str []],.nil0,.int .i64 e]):=by
 refine aR hF tM aae aao ?_;unfold asW;simp only[↓aX,mX,seval,↓akV]
def as1 (tz asI tK M7 MT M0:Nat):AC:=
(aM [aQ 2 (.new [(.int .i64 0),(.int .i64 0),.nil0,(.str []),(.str [])]),zi 3,gH 4 0] (aM [aQ 5 (.iC (.c (.fn tz [] [])))] (aM [MR 14 0,aQ 15 (.call asI [(.t 14),(.c (.str [32])),(jS 3)]),MR 6 15] (aM [aQ 7 (.new [(.int .i64 0),(.int .i64 0),.nil0,(.str []),(.str [])])] (.seq (aM [aQ 16 (.lits 10 1 [(.str [])] [(0,(.c (.str [102,105,114,115,116]))),(1,(.c (.str [108,97,115,116]))),(2,(.c (.str [98,101,102,111,114,101]))),(3,(.c (.str [97,102,116,101,114]))),(4,(.c (.str [100,101,108,101,116,101]))),(5,(.c (.str [114,101,112,108,97,99,101]))),(6,(.c (.str [118,97,108,117,101]))),(7,(.c (.str [114,101,110,97,109,101]))),(8,(.c (.str [115,101,116]))),(9,(.c (.str [100,114,111,112])))]),oy 17 16,gH 18 0] (.block 0 (.loop (aM [et 19 .lss 18 17] (.seq (.cond (.t 19) .skip (.exit 0)) (.seq (.block 1 (aM [MR 20 18,jL 21 16 18 1,fm 22 21,MR 8 20,MR 9 22] (aM [MR 23 6,aQ 24 (.Vc (.t 23) (jS 0) 1),fm 25 24,MR 26 9,et 27 .eql 25 26] (.cond (.t 27) (.cq [MR 28 8,eY 29 .add 28 1,ep 30 7 0,gg (.store 1 (.t 30) (.t 29))]) .skip)))) (.cq [eY 31 .add 18 1,MR 18 31]))))))) (.seq (aM [ep 32 7 0,fm 33 32,eY 34 .eql 33 0,MR 35 34,gV 36 35 0,iR 37 35 (.lens (.t 36)),iR 38 35 (.bin .gtr (.t 37) (jS 2500)),sj 39 35 38] (.cond (.t 39) (aM [MR 40 5,aQ 41 (.fM (.t 40) [(jS 1)]),ox 42 41 0,ox 43 41 1,ox 44 41 2,gg (.store 5 (.t 2) (.t 42)),MR 3 43,MR 4 44] .ret) .skip)) (aM [aQ 10 (.iC (.c (.str [])))] (.seq (aM [MR 45 6,oy 46 45,eY 47 .gtr 46 1] (.cond (.t 47) (.cq [MR 48 6,aQ 49 (.Vc (.t 48) (jS 1) 1),fm 50 49,MR 10 50]) .skip)) (aM [MR 52 10,aQ 53 (.call tK [(.t 52)]),MR 51 53,ox 54 51 0,ox 55 51 1,MR 11 54,MR 12 55] (.seq (aM [MR 56 12,eY 57 .neq 56 0] (.cond (.t 57) (aM [MR 58 5,MR 59 12,aQ 60 (.fM (.t 58) [(.t 59)]),ox 61 60 0,ox 62 60 1,ox 63 60 2,gg (.store 5 (.t 2) (.t 61)),MR 3 62,MR 4 63] .ret) .skip)) (.seq (aM [MR 64 6,oy 65 64,eY 66 .eql 65 3,ep 67 7 0,fm 68 67,eY 69 .eql 68 5,aQ 70 (.eqb false (.t 66) (.t 69))] (.cond (.t 70) (aM [MR 71 5,aQ 72 (.fM (.t 71) [(jS 1)]),ox 73 72 0,ox 74 72 1,ox 75 72 2,gg (.store 5 (.t 2) (.t 73)),MR 3 74,MR 4 75] .ret) .skip)) (.seq (aM [ep 76 7 0,fm 77 76] (.block 2 (aM [eY 87 .eql 77 5,MR 86 87] (.cond (.t 86) .skip (.seq (aM [eY 89 .eql 77 8,MR 88 89] (.cond (.t 88) .skip (.cq [eY 90 .eql 77 10,MR 88 90]))) (.cond (.t 88) (.cq [MR 91 6,aQ 92 (.Vc (.t 91) (jS 2) 1),fm 93 92,ep 94 7 3,gg (.store 1 (.t 94) (.t 93))]) (aM [eY 96 .eql 77 7,MR 95 96] (.cond (.t 95) (.cq [MR 98 6,aQ 99 (.Vc (.t 98) (jS 2) 1),fm 100 99,aQ 101 (.call M7 [(.t 100)]),MR 97 101,ox 102 97 0,ox 103 97 1,ep 104 7 4,gg (.store 1 (.t 104) (.t 102)),MR 12 103]) (aM [eY 106 .eql 77 9,MR 105 106] (.cond (.t 105) (aM [MR 107 6,aQ 108 (.Vc (.t 107) (jS 2) 1),fm 109 108,aQ 110 (.call MT [(.t 109),(.c (.int .u8 61))]),MR 13 110] (.seq (aM [MR 111 13,eY 112 .lss 111 0] (.cond (.t 112) (aM [MR 113 5,aQ 114 (.fM (.t 113) [(jS 1)]),ox 115 114 0,ox 116 114 1,ox 117 114 2,gg (.store 5 (.t 2) (.t 115)),MR 3 116,MR 4 117] .ret) .skip)) (aM [MR 118 6,aQ 119 (.Vc (.t 118) (jS 2) 1),fm 120 119,MR 121 13,aQ 122 (.ZL (.t 120) none (some (.t 121))),ep 123 7 3,gg (.store 1 (.t 123) (.t 122))] (.cq [MR 125 6,aQ 126 (.Vc (.t 125) (jS 2) 1),fm 127 126,MR 128 13,eY 129 .add 128 1,aQ 130 (.ZL (.t 127) (some (.t 129)) none),aQ 131 (.call M7 [(.t 130)]),MR 124 131,ox 132 124 0,ox 133 124 1,ep 134 7 4,gg (.store 1 (.t 134) (.t 132)),MR 12 133])))) (.cq [MR 79 6,aQ 80 (.Vc (.t 79) (jS 2) 1),fm 81 80,aQ 82 (.call M0 [(.t 81)]),MR 78 82,ox 83 78 0,ox 84 78 1,ep 85 7 2,gg (.store 1 (.t 85) (.t 83)),MR 12 84]))))))))))) (.seq (aM [MR 135 12,eY 136 .neq 135 0] (.cond (.t 136) (aM [MR 137 5,MR 138 12,aQ 139 (.fM (.t 137) [(.t 138)]),ox 140 139 0,ox 141 139 1,ox 142 139 2,gg (.store 5 (.t 2) (.t 140)),MR 3 141,MR 4 142] .ret) .skip)) (aM [gz 143 5 7,MR 144 11,gg (.store 5 (.t 2) (.t 143)),MR 3 144,gH 4 0] .ret))))))))))))))
set_option maxHeartbeats 2000000 in
def auy {asC tz asI tK M7 MT M0:Nat} (hF:aw P G asC=some (145,[((some (some 5)),2),(none,3),(none,4)],(as1 tz asI tK M7 MT M0).bare)) (s:Bs) (hs:s.length<=B) (hB:fU P tz=true)
  (hNo:∀e,au P G tz [.int .i64 e] (.gf [.agg [.int .i64 0,.int .i64 0,.nil0,.str [],.str []],.nil0,.int .i64 e])) (hN:au P G asI [.str s,.str [32],.int .i64 3] (.list ((spn 32 2 s).map IV.str)))
  (hP:∀t:Bs,t.length<=s.length->au P G tK [.str t] (amr t)) (hI:∀t:Bs,t.length<=s.length->au P G MT [.str t,.int .u8 61] (.int .i64 (Lib.indexByte t 61)))
  (hT:∀t:Bs,t.length<=s.length->au P G M7 [.str t] (.gf [.str (OF t).1,.int .i64 (OF t).2]))
  (hC:∀t:Bs,t.length<=s.length->au P G M0 [.str t] (.gf [.list (dq (NQ t).1),.int .i64 (NQ t).2])):au P G asC [.str s] (amF s):=by
 refine Ws hF (by simp) (by simp[ah,AV.an]) (by simp[AV.an,ah,amF,Op.av]) ?_;have zo:B=1073741824:=rfl;have l1:=(alP 32 s).2;have l2:=alP 32 (Bj 32 s).2.1;have l3:=alP 61 (Bj 32 (Bj 32 s).2.1).2.1;obtain⟨w,hw,w0,Es,w1,wn,wl,w2⟩:=auu (c:=32) (s:=s);rw[hw] at hN;obtain⟨kd,K2⟩:∃kd,amt al8 (Bj 32 s).1=kd:=⟨_,rfl⟩;have hrg:=aoJ al8 (Bj 32 s).1;rw[K2] at hrg;obtain⟨x,hx⟩:∃x,(Bj 32 s).1=x:=⟨_,rfl⟩;obtain⟨a,ha⟩:∃a,Bj 32 (Bj 32 s).2.1=a:=⟨_,rfl⟩;rw[ha] at l2 l3 w1 wn wl w2;rw[hx] at w0;have ll:jV 1 (w.map IV.str):=by intro y hy;simp only[List.mem_map] at hy;obtain⟨w',_,rfl⟩:=hy;rfl
 have Jn:jV 1 (atc.map IV.str):=by intro y hy;simp only[List.mem_map] at hy;obtain⟨w',_,rfl⟩:=hy;rfl
 have wg:∀i,(w.map IV.str)[i]?=(w[i]?).map IV.str:=λi=>List.getElem?_map ..;unfold as1;simp only[↓aX,mX,reduceCtorEq,Nat.reduceEqDiff,Nat.reduceLT,Nat.reduceLeDiff,Nat.reduceAdd,Nat.reduceMul,Int.reduceToNat,Int.reduceLE,Int.reduceLT];refine ay hN ?_;simp only[↓aX,mX,reduceCtorEq,Nat.reduceEqDiff,Nat.reduceLT,Nat.reduceLeDiff,Nat.reduceAdd,Nat.reduceMul,Int.reduceToNat,Int.reduceLE,Int.reduceLT];refine auZ (x:= .list (atc.map IV.str)) rfl ?_;simp only[↓aX,mX,reduceCtorEq,Nat.reduceEqDiff,Nat.reduceLT,Nat.reduceLeDiff,Nat.reduceAdd,Nat.reduceMul,Int.reduceToNat,Int.reduceLE,Int.reduceLT,List.length_map,show atc.length=10 from rfl];refine pe (σ:={j:Nat // j<=10}) (λ_=>[.loc 2,.loc 7]) (λ_ _=>false)
  (λq=>[(0,.str s),(2,.ptr (.loc 2) 5 0 0),(3,.nil0),(4,.int .i64 0),(5,.fn tz [] []),(6,.list (w.map IV.str)),(7,.ptr (.loc 7) 5 0 0),(16,.list (atc.map IV.str)),(17,.int .i64 10),(18,.int .i64 q.1)])
  (λq=>[(.loc 2,⟨5,[[.int .i64 0,.int .i64 0,.nil0,.str [],.str []]]⟩),(.loc 7,⟨5,[[.int .i64 (kAt kd q.1),.int .i64 0,.nil0,.str [],.str []]]⟩)]) (λq=>10 - q.1)
  ⟨0,by decide⟩ (λ_=>rfl) (λq=>by simp[ah,AV.an]) ?_ ⟨[],?_⟩ ?_
 ·intro q z hz cs bV y hy;simp only[List.mem_cons,List.not_mem_nil,or_false] at hz;rcases hz with rfl|rfl<;>(simp only[List.mem_singleton] at bV;subst bV;simp[ah,AV.an] at hy)
 ·refine⟨?_,?_,?_,by simp[dn],λl _=>⟨id,λ_=>rfl⟩⟩
  ·intro l hf hu;exfalso;apply hu;cases l<;>simp_all[Lb.fresh,ae,Hp.none]
  ·simp[k_,dn,bJ,bu,put,jP]
  have:kAt kd 0=0:=by unfold kAt;rw[if_neg];omega
  simp[tc,dn,ae,dO,bu,bJ,this]
 rintro⟨j,hj⟩;dsimp only;rw[Cf];simp only[↓aX,mX,reduceCtorEq,Nat.reduceEqDiff,Nat.reduceLT,Nat.reduceLeDiff,Nat.reduceAdd,Nat.reduceMul,Int.reduceToNat,Int.reduceLE,Int.reduceLT,cF,bW];refine AU (λh=> ?_) (λh=> ?_)
 ·have zk:j<10:=by simp at h;omega
  obtain⟨y,hy⟩:∃y,atc[j]?=some y:=⟨_,List.getElem?_eq_getElem (show j<atc.length from zk)⟩;have Ju:IntKind.i64.wrap ((j:Int)+1)=((j+1:Nat):Int):=wrap64 (by omega) (by omega);have FP:(atc.map IV.str)[j]?=some (.str y):=by rw[List.getElem?_map,hy];rfl
  simp only[↓aX,mX,reduceCtorEq,Nat.reduceEqDiff,Nat.reduceLT,Nat.reduceLeDiff,Nat.reduceAdd,Nat.reduceMul,Int.reduceToNat,Int.reduceLE,Int.reduceLT,FP,Jn,wg,w0,ll,IV.cells,Option.map_some,Int.natCast_nonneg,Int.toNat_natCast];have KW:(x==y)=decide (kd=(j+1:Nat)):=by rw[<-K2,<-auv hy,hx]
  rw[KW];refine AU (λh=> ?_) (λh=> ?_)
  ·have h:kd=((j+1:Nat):Int):=(by simpa using h);have hk:kAt kd (j+1)=kd:=(by unfold kAt;rw[if_pos (by omega)]);simp only[↓aX,mX,reduceCtorEq,Nat.reduceEqDiff,Nat.reduceLT,Nat.reduceLeDiff,Nat.reduceAdd,Nat.reduceMul,Int.reduceToNat,Int.reduceLE,Int.reduceLT,Ju];refine⟨⟨j+1,zk⟩,by simp only;omega,[],?_,?_,?_,by simp[dn],λl _=>⟨id,λ_=>rfl⟩⟩
   ·intro l hf hu;exfalso;apply hu;cases l<;>simp_all[Lb.fresh,ae,Hp.none]
   ·simp[k_,dn,bJ,bu,put,o9]
   simp[tc,dn,ae,dO,bu,bJ,hk];simp[h]
  have h:¬kd=((j+1:Nat):Int):=by simpa using h
  have hk:kAt kd (j+1)=kAt kd j:=by unfold kAt;split<;>split<;>omega
  simp only[↓aX,mX,reduceCtorEq,Nat.reduceEqDiff,Nat.reduceLT,Nat.reduceLeDiff,Nat.reduceAdd,Nat.reduceMul,Int.reduceToNat,Int.reduceLE,Int.reduceLT,Ju];refine⟨⟨j+1,zk⟩,by simp only;omega,[],?_,?_,?_,by simp[dn],λl _=>⟨id,λ_=>rfl⟩⟩
  ·intro l hf hu;exfalso;apply hu;cases l<;>simp_all[Lb.fresh,ae,Hp.none]
  ·simp[k_,dn,bJ,bu,put,o9]
  simp[tc,dn,ae,dO,bu,bJ,hk]
 have hj:j=10:=by simp at h;omega
 subst hj;simp only[↓aX,mX,reduceCtorEq,Nat.reduceEqDiff,Nat.reduceLT,Nat.reduceLeDiff,Nat.reduceAdd,Nat.reduceMul,Int.reduceToNat,Int.reduceLE,Int.reduceLT];have d_:∀(o:Op) (l':List Step),ak8 s=(o,l',0)->amF s= .gf [o.av,.list (l'.map Step.iv),.int .i64 0]:=λo l' h=>by simp only[amF,h]
 have bad:∀e:Int,ak8 s=(op0,[],e)->amF s= .gf [.agg [.int .i64 0,.int .i64 0,.list [],.str [],.str []],.list [],.int .i64 e]:=λe h=>by simp only[amF,h];rfl
 by_cases Jd:kd<1
 ·have hl:ak8 s=(op0,[],1):=by simp only[ak8,K2,Jd,true_or,ite_true]
  have sr:kAt kd 10=0:=by unfold kAt;rw[if_neg (by omega)]
  simp only[↓aX,mX,reduceCtorEq,Nat.reduceEqDiff,Nat.reduceLT,Nat.reduceLeDiff,Nat.reduceAdd,Nat.reduceMul,Int.reduceToNat,Int.reduceLE,Int.reduceLT,sr,show((0:Int)==0)=true from rfl,yE,Ek,List.nil_append,List.append_nil];refine⟨hB,ay (hNo 1) ?_⟩;simp only[↓aX,mX,reduceCtorEq,Nat.reduceEqDiff,Nat.reduceLT,Nat.reduceLeDiff,Nat.reduceAdd,Nat.reduceMul,Int.reduceToNat,Int.reduceLE,Int.reduceLT,bad 1 hl,↓akV,norm,fi]
 have avj:kd<=10:=by have:(al8.length:Int)=11:=rfl;omega
 have sr:kAt kd 10=kd:=by unfold kAt;rw[if_pos (by omega)]
 rw[sr];simp only[↓aX,mX,reduceCtorEq,Nat.reduceEqDiff,Nat.reduceLT,Nat.reduceLeDiff,Nat.reduceAdd,Nat.reduceMul,Int.reduceToNat,Int.reduceLE,Int.reduceLT,sr,show(kd==0)=false by simp;omega];rcases Nat.lt_or_ge 2500 s.length with hlen|hlen
 ·have hl:ak8 s=(op0,[],1):=by simp only[ak8,K2,hlen,or_true,ite_true]
  simp only[↓aX,mX,reduceCtorEq,Nat.reduceEqDiff,Nat.reduceLT,Nat.reduceLeDiff,Nat.reduceAdd,Nat.reduceMul,Int.reduceToNat,Int.reduceLE,Int.reduceLT,show decide ((s.length:Int)>2500)=true by simp;omega,yE,Ek,List.nil_append,List.append_nil];refine⟨hB,ay (hNo 1) ?_⟩;simp only[↓aX,mX,reduceCtorEq,Nat.reduceEqDiff,Nat.reduceLT,Nat.reduceLeDiff,Nat.reduceAdd,Nat.reduceMul,Int.reduceToNat,Int.reduceLE,Int.reduceLT,bad 1 hl,↓akV,norm,fi]
 simp only[↓aX,mX,reduceCtorEq,Nat.reduceEqDiff,Nat.reduceLT,Nat.reduceLeDiff,Nat.reduceAdd,Nat.reduceMul,Int.reduceToNat,Int.reduceLE,Int.reduceLT,show decide ((s.length:Int)>2500)=false by simp;omega];have c4:=hP a.1 (by omega);have wv:¬(kd<1\/2500<s.length):=by omega
 have Ka:ak8 s=(match ami a.1 with
  |none=>(op0,[],1)
  |some l=>
   if a.2.2=decide (kd=5) then(op0,[],1)
   else if kd=8\/kd=10 then(⟨kd,0,[],a.2.1,[]⟩,l,0)
   else if kd=9 then
    if(Bj 61 a.2.1).2.2 then(if(OF (Bj 61 a.2.1).2.1).2=0 then(⟨kd,0,[],(Bj 61 a.2.1).1,(OF (Bj 61 a.2.1).2.1).1⟩,l,0) else(op0,[],(OF (Bj 61 a.2.1).2.1).2)) else(op0,[],1)
   else if kd=7 then(if(OF a.2.1).2=0 then(⟨kd,0,[],[],(OF a.2.1).1⟩,l,0) else(op0,[],(OF a.2.1).2))
   else if kd=5 then(⟨kd,0,[],[],[]⟩,l,0)
   else if(NQ a.2.1).2=0 then(⟨kd,0,(NQ a.2.1).1,[],[]⟩,l,0) else(op0,[],(NQ a.2.1).2)):=by
  unfold ak8;simp only[K2,ha];rw[if_neg wv];cases ami a.1<;>rfl
 have two:∀p:Bs,p=a.1->au P G tK [.str p] (amr a.1):=λp e=>by rw[e];exact c4
 refine AU (λh=> ?a1) (λh=> ?a2)
 case' a1=>
  have h:1<w.length:=by simp at h;omega
  simp only[↓aX,mX,reduceCtorEq,Nat.reduceEqDiff,Nat.reduceLT,Nat.reduceLeDiff,Nat.reduceAdd,Nat.reduceMul,Int.reduceToNat,Int.reduceLE,Int.reduceLT,wg,w1 h,ll,IV.cells,Option.map_some];refine ay (two _ rfl) ?_
 case' a2=>
  have h:w.length<=1:=by simp at h;omega
  simp only[↓aX,mX,reduceCtorEq,Nat.reduceEqDiff,Nat.reduceLT,Nat.reduceLeDiff,Nat.reduceAdd,Nat.reduceMul,Int.reduceToNat,Int.reduceLE,Int.reduceLT];refine ay (two _ (wn h).symm) ?_
 all_goals
  cases hp:ami a.1 with
  |none=>
   have hl:ak8 s=(op0,[],1):=(by rw[Ka,hp]);simp only[↓aX,mX,reduceCtorEq,Nat.reduceEqDiff,Nat.reduceLT,Nat.reduceLeDiff,Nat.reduceAdd,Nat.reduceMul,Int.reduceToNat,Int.reduceLE,Int.reduceLT,amr,hp,show((1:Int) !=0)=true from rfl,yE,Ek,List.nil_append,List.append_nil];refine⟨hB,ay (hNo 1) ?_⟩;simp only[↓aX,mX,reduceCtorEq,Nat.reduceEqDiff,Nat.reduceLT,Nat.reduceLeDiff,Nat.reduceAdd,Nat.reduceMul,Int.reduceToNat,Int.reduceLE,Int.reduceLT,bad 1 hl,↓akV,norm,fi]
  |some l=>
  rw[hp] at Ka;simp only at Ka;simp only[↓aX,mX,reduceCtorEq,Nat.reduceEqDiff,Nat.reduceLT,Nat.reduceLeDiff,Nat.reduceAdd,Nat.reduceMul,Int.reduceToNat,Int.reduceLE,Int.reduceLT,amr,hp,show((0:Int) !=0)=false from rfl,wl,sr];by_cases h3:a.2.2=decide (kd=5)
  ·have hl:ak8 s=(op0,[],1):=(by rw[Ka,if_pos h3]);simp only[↓aX,mX,reduceCtorEq,Nat.reduceEqDiff,Nat.reduceLT,Nat.reduceLeDiff,Nat.reduceAdd,Nat.reduceMul,Int.reduceToNat,Int.reduceLE,Int.reduceLT,show(a.2.2==(kd==5))=true by rw[h3];by_cases e:kd=5<;>simp[e],yE,Ek,List.nil_append,List.append_nil];refine⟨hB,ay (hNo 1) ?_⟩;simp only[↓aX,mX,reduceCtorEq,Nat.reduceEqDiff,Nat.reduceLT,Nat.reduceLeDiff,Nat.reduceAdd,Nat.reduceMul,Int.reduceToNat,Int.reduceLE,Int.reduceLT,bad 1 hl,↓akV,norm,fi]
  rw[if_neg h3] at Ka;simp only[↓aX,mX,reduceCtorEq,Nat.reduceEqDiff,Nat.reduceLT,Nat.reduceLeDiff,Nat.reduceAdd,Nat.reduceMul,Int.reduceToNat,Int.reduceLE,Int.reduceLT,show(a.2.2==(kd==5))=false by by_cases e:kd=5<;>cases h4:a.2.2<;>simp_all];by_cases k5:kd=5
  ·have e5:a.2.2=false:=(by cases h4:a.2.2<;>simp_all);have hl:ak8 s=(⟨kd,0,[],[],[]⟩,l,0):=(by rw[Ka,if_neg (by omega),if_neg (by omega),if_neg (by omega),if_pos k5]);simp only[↓aX,mX,reduceCtorEq,Nat.reduceEqDiff,Nat.reduceLT,Nat.reduceLeDiff,Nat.reduceAdd,Nat.reduceMul,Int.reduceToNat,Int.reduceLE,Int.reduceLT,show(kd==5)=true by simp[k5],show((0:Int) !=0)=false from rfl,d_ _ _ hl,↓akV,norm,fi,Op.av,dq,List.map_nil]
  have e5:a.2.2=true:=by cases h4:a.2.2<;>simp_all
  have g2:=w2 e5;have z0:((0:Int) !=0)=false:=rfl;have eg:(w.map IV.str)[2]?=some (.str a.2.1):=by rw[wg,g2];rfl
  by_cases k8:kd=8
  ·have hl:ak8 s=(⟨kd,0,[],a.2.1,[]⟩,l,0):=(by rw[Ka,if_pos (.inl k8)]);simp only[↓aX,mX,reduceCtorEq,Nat.reduceEqDiff,Nat.reduceLT,Nat.reduceLeDiff,Nat.reduceAdd,Nat.reduceMul,Int.reduceToNat,Int.reduceLE,Int.reduceLT,show(kd==5)=false by simp[k5],show(kd==8)=true by simp[k8],eg,ll,IV.cells,z0,d_ _ _ hl,↓akV,norm,fi,Op.av,dq,List.map_nil]
  by_cases k10:kd=10
  ·have hl:ak8 s=(⟨kd,0,[],a.2.1,[]⟩,l,0):=(by rw[Ka,if_pos (.inr k10)]);simp only[↓aX,mX,reduceCtorEq,Nat.reduceEqDiff,Nat.reduceLT,Nat.reduceLeDiff,Nat.reduceAdd,Nat.reduceMul,Int.reduceToNat,Int.reduceLE,Int.reduceLT,show(kd==5)=false by simp[k5],show(kd==8)=false by simp[k8],show(kd==10)=true by simp[k10],eg,ll,IV.cells,z0,d_ _ _ hl,↓akV,norm,fi,Op.av,dq,List.map_nil]
  have k80:¬(kd=8\/kd=10):=λh=>h.elim k8 k10;rw[if_neg k80] at Ka;simp only[↓aX,mX,reduceCtorEq,Nat.reduceEqDiff,Nat.reduceLT,Nat.reduceLeDiff,Nat.reduceAdd,Nat.reduceMul,Int.reduceToNat,Int.reduceLE,Int.reduceLT,show(kd==5)=false by simp[k5],show(kd==8)=false by simp[k8],show(kd==10)=false by simp[k10]];by_cases k7:kd=7
  ·rw[if_neg (by omega),if_pos k7] at Ka;simp only[↓aX,mX,reduceCtorEq,Nat.reduceEqDiff,Nat.reduceLT,Nat.reduceLeDiff,Nat.reduceAdd,Nat.reduceMul,Int.reduceToNat,Int.reduceLE,Int.reduceLT,show(kd==7)=true by simp[k7],eg,ll,IV.cells];refine ay (hT a.2.1 (by omega)) ?_;cases he:(OF a.2.1).2==0 with
   |true=>
    have he':(OF a.2.1).2=0:=(by simpa using he);have hl:ak8 s=(⟨kd,0,[],[],(OF a.2.1).1⟩,l,0):=(by rw[Ka,if_pos he']);simp only[↓aX,mX,reduceCtorEq,Nat.reduceEqDiff,Nat.reduceLT,Nat.reduceLeDiff,Nat.reduceAdd,Nat.reduceMul,Int.reduceToNat,Int.reduceLE,Int.reduceLT,he',z0,d_ _ _ hl,↓akV,norm,fi,Op.av,dq,List.map_nil]
   |false=>
   have he':¬(OF a.2.1).2=0:=(by simpa using he);have hl:ak8 s=(op0,[],(OF a.2.1).2):=(by rw[Ka,if_neg he']);simp only[↓aX,mX,reduceCtorEq,Nat.reduceEqDiff,Nat.reduceLT,Nat.reduceLeDiff,Nat.reduceAdd,Nat.reduceMul,Int.reduceToNat,Int.reduceLE,Int.reduceLT,show((OF a.2.1).2 !=0)=true by simpa using he',yE,Ek,List.nil_append,List.append_nil];refine⟨hB,ay (hNo _) ?_⟩;simp only[↓aX,mX,reduceCtorEq,Nat.reduceEqDiff,Nat.reduceLT,Nat.reduceLeDiff,Nat.reduceAdd,Nat.reduceMul,Int.reduceToNat,Int.reduceLE,Int.reduceLT,bad _ hl,↓akV,norm,fi]
  by_cases k9:kd=9
  ·rw[if_pos k9] at Ka;simp only[↓aX,mX,reduceCtorEq,Nat.reduceEqDiff,Nat.reduceLT,Nat.reduceLeDiff,Nat.reduceAdd,Nat.reduceMul,Int.reduceToNat,Int.reduceLE,Int.reduceLT,show(kd==7)=false by simp[k7],show(kd==9)=true by simp[k9],eg,ll,IV.cells];refine ay (hI a.2.1 (by omega)) ?_;rcases pC 61 a.2.1 with⟨h1,_,_⟩|⟨m,h1,h2,_,_⟩
   ·have hc:(Bj 61 a.2.1).2.2=false:=(by simp[Bj,h1]);have hl:ak8 s=(op0,[],1):=(by rw[Ka,hc];rfl);simp only[↓aX,mX,reduceCtorEq,Nat.reduceEqDiff,Nat.reduceLT,Nat.reduceLeDiff,Nat.reduceAdd,Nat.reduceMul,Int.reduceToNat,Int.reduceLE,Int.reduceLT,h1,show((-1:Int)<0)=True by decide,decide_true];simp only[↓aX,mX,reduceCtorEq,Nat.reduceEqDiff,Nat.reduceLT,Nat.reduceLeDiff,Nat.reduceAdd,Nat.reduceMul,Int.reduceToNat,Int.reduceLE,Int.reduceLT,yE,Ek,List.nil_append,List.append_nil];refine⟨hB,ay (hNo 1) ?_⟩;simp only[↓aX,mX,reduceCtorEq,Nat.reduceEqDiff,Nat.reduceLT,Nat.reduceLeDiff,Nat.reduceAdd,Nat.reduceMul,Int.reduceToNat,Int.reduceLE,Int.reduceLT,bad 1 hl,↓akV,norm,fi]
   have hc:Bj 61 a.2.1=(a.2.1.take m,a.2.1.drop (m+1),true):=(by simp[Bj,h1]);rw[hc] at Ka;simp only[if_true] at Ka;have LX:IntKind.i64.wrap (((m:Nat):Int)+1)=((m+1:Nat):Int):=wrap64 (by omega) (by omega);simp only[↓aX,mX,reduceCtorEq,Nat.reduceEqDiff,Nat.reduceLT,Nat.reduceLeDiff,Nat.reduceAdd,Nat.reduceMul,Int.reduceToNat,Int.reduceLE,Int.reduceLT,h1,show decide ((m:Int)<0)=false by simp,eg,ll,IV.cells,lk,Le,Int.natCast_nonneg,Int.toNat_natCast,true_and,show m<=a.2.1.length by omega,List.drop_zero,LX,show m+1<=a.2.1.length by omega,List.take_length];refine ay (hT (a.2.1.drop (m+1)) (by rw[List.length_drop];omega)) ?_;cases he:(OF (a.2.1.drop (m+1))).2==0 with
   |true=>
    have he':(OF (a.2.1.drop (m+1))).2=0:=(by simpa using he);have hl:ak8 s=(⟨kd,0,[],a.2.1.take m,(OF (a.2.1.drop (m+1))).1⟩,l,0):=(by rw[Ka,if_pos he']);simp only[↓aX,mX,reduceCtorEq,Nat.reduceEqDiff,Nat.reduceLT,Nat.reduceLeDiff,Nat.reduceAdd,Nat.reduceMul,Int.reduceToNat,Int.reduceLE,Int.reduceLT,he',z0,d_ _ _ hl,↓akV,norm,fi,Op.av,dq,List.map_nil]
   |false=>
   have he':¬(OF (a.2.1.drop (m+1))).2=0:=(by simpa using he);have hl:ak8 s=(op0,[],(OF (a.2.1.drop (m+1))).2):=(by rw[Ka,if_neg he']);simp only[↓aX,mX,reduceCtorEq,Nat.reduceEqDiff,Nat.reduceLT,Nat.reduceLeDiff,Nat.reduceAdd,Nat.reduceMul,Int.reduceToNat,Int.reduceLE,Int.reduceLT,show((OF (a.2.1.drop (m+1))).2 !=0)=true by simpa using he',yE,Ek,List.nil_append,List.append_nil];refine⟨hB,ay (hNo _) ?_⟩;simp only[↓aX,mX,reduceCtorEq,Nat.reduceEqDiff,Nat.reduceLT,Nat.reduceLeDiff,Nat.reduceAdd,Nat.reduceMul,Int.reduceToNat,Int.reduceLE,Int.reduceLT,bad _ hl,↓akV,norm,fi]
  rw[if_neg k9,if_neg k7,if_neg k5] at Ka;simp only[↓aX,mX,reduceCtorEq,Nat.reduceEqDiff,Nat.reduceLT,Nat.reduceLeDiff,Nat.reduceAdd,Nat.reduceMul,Int.reduceToNat,Int.reduceLE,Int.reduceLT,show(kd==7)=false by simp[k7],show(kd==9)=false by simp[k9],eg,ll,IV.cells];refine ay (hC a.2.1 (by omega)) ?_;cases he:(NQ a.2.1).2==0 with
  |true=>
   have he':(NQ a.2.1).2=0:=(by simpa using he);have hl:ak8 s=(⟨kd,0,(NQ a.2.1).1,[],[]⟩,l,0):=(by rw[Ka,if_pos he']);simp only[↓aX,mX,reduceCtorEq,Nat.reduceEqDiff,Nat.reduceLT,Nat.reduceLeDiff,Nat.reduceAdd,Nat.reduceMul,Int.reduceToNat,Int.reduceLE,Int.reduceLT,he',z0,d_ _ _ hl,↓akV,norm,fi,Op.av,dq,List.map_nil]
  |false=>
  have he':¬(NQ a.2.1).2=0:=by simpa using he
  have hl:ak8 s=(op0,[],(NQ a.2.1).2):=by rw[Ka,if_neg he']
  simp only[↓aX,mX,reduceCtorEq,Nat.reduceEqDiff,Nat.reduceLT,Nat.reduceLeDiff,Nat.reduceAdd,Nat.reduceMul,Int.reduceToNat,Int.reduceLE,Int.reduceLT,show((NQ a.2.1).2 !=0)=true by simpa using he',yE,Ek,List.nil_append,List.append_nil];refine⟨hB,ay (hNo _) ?_⟩;simp only[↓aX,mX,reduceCtorEq,Nat.reduceEqDiff,Nat.reduceLT,Nat.reduceLeDiff,Nat.reduceAdd,Nat.reduceMul,Int.reduceToNat,Int.reduceLE,Int.reduceLT,bad _ hl,↓akV,norm,fi]

def atM {ak1 alx alu akN:Nat} (hF:aw P G ak1=some (84,[((some (some 3)),4)],(alC alx alu akN).bare)) (d:Doc) (hd:Vo d=true) (alb:Int) (ls:List Bs) (lr:ls.length<=B)
  (hL:∀s∈ls,au P G alx [.str s] (amF s)) (hLb:∀s∈ls,opB (ak8 s).1)
  (hS:∀s∈ls,au P G alu [Doc.av d,.list ((ak8 s).2.1.map Step.iv)] (.gf [.list ((ali d (ak8 s).2.1).1.map xX),.int .i64 (ali d (ak8 s).2.1).2]))
  (hA:∀l:List Op,ahb l->alE d [] ls= .ok l->au P G akN [Doc.av d,.list (l.map Op.iv)] (.gf [Doc.av (XU d l).1,.int .i64 (XU d l).2])) :
  cR P G ak1 [.ptr (.par 0) 2 0 0,.list (ls.map IV.str)] (stC d alb) (λx cs=>x=(alh d ls).2.av/\cs=stC (alh d ls).1 alb):=by
 refine dw hF tM aae aa3 ?_;have zo:B=1073741824:=rfl;unfold alC;simp only[↓aX,mX,seval,Oj,stC,G_];rcases Nat.lt_or_ge 6 ls.length with h6|h6
 ·have hc:alh d ls=(d,⟨2,0,[]⟩):=by unfold alh;rw[P8 h6]
  simp only[↓aX,mX,seval,show decide ((ls.length:Int)>6)=true by simp;omega,hc,Rep.av];exact⟨_,rfl,aao,aae,rfl,aai⟩
 have Vi:¬6<ls.length:=sf
 have H_:alh d ls=(match alE d [] ls with
  | .error e=>(d,⟨e,0,[]⟩)
  | .ok l=>if(XU d l).2=0 then((XU d l).1,⟨0,l.length,[]⟩) else(d,⟨(XU d l).2,0,[]⟩)):=by unfold alh;rw[Ev Vi];cases alE d [] ls<;>rfl
 have zR:d.length<=80:=by
  obtain⟨t,ht,rfl⟩:=XW.1 hd;have:=(ia t).1 ht;rw[pf];omega
 simp only[↓aX,mX,seval,show decide ((ls.length:Int)>6)=false by simp;omega,G_];refine gb (σ:=LsS d ls) (λ_=>[.par 0,.loc 4,.loc 5]) (λ_ _=>false)
  (λq=>[(0,.ptr (.par 0) 2 0 0),(4,.ptr (.loc 4) 3 0 0),(5,.sl (.loc 5) 5 0 q.ops.length),(21,.list (ls.map IV.str)),(22,.int .i64 ls.length),(23,.int .i64 q.i)])
  (λq=>[(.par 0,⟨2,[stC d alb]⟩),(.loc 4,⟨3,[[.int .i64 0,.int .i64 0,.str []]]⟩),(.loc 5,⟨5,aB (q.ops.map Op.iv)⟩)]) (λq=>ls.length - q.i) ⟨0,[],sf,tM,tM,tM⟩ (λ_=>rfl) (λq=>by simp[ah,AV.an]) ?_ ⟨[],?_⟩ ?_
 ·intro q w hw cs bV z hz;simp only[PY,QN,QV] at hw;rcases hw with rfl|rfl|rfl
  ·simp only[bY] at bV;subst bV;simp[ah,AV.an,stC] at hz
  ·simp only[bY] at bV;subst bV;simp[ah,AV.an] at hz
  rw[bU bV] at hz;simp at hz
 ·refine⟨?_,?_,?_,aar,aar⟩
  ·intro l hf hu;left;cases l<;>simp[Lb.entry] at hf;rename_i n;by_cases e:n=0
   ·subst e;simp
   exfalso;apply hu;simp[ae,Hp.none,e]
  ·simp[k_,dn,bJ,put,jP]
  simp[tc,dn,ae,dO,bu,bJ,aB,stC]
 rintro⟨i,ops,hi,hn,hb,h⟩;simp only;obtain⟨rs0,al5⟩:∃rs0,rs0=[(Lb.par 0,(⟨2,[stC d alb]⟩:Row)),(Lb.loc 4,⟨3,[[.int .i64 0,.int .i64 0,.str []]]⟩),(Lb.loc 5,⟨5,aB (ops.map Op.iv)⟩)]:=⟨_,rfl⟩;rw[<-al5];have hU:∀d,d≠4->d≠5->ie (λ_=>false) rs0 (.loc d)= .unused:=λd h4 h5=>by rw[al5,fE (by simp[h4,h5])];rfl
 have nk:∀d,d≠0->ie (λ_=>false) rs0 (.par d)= .unused:=λd hd=>by rw[al5,fE (by simp[hd])];rfl
 have ij:ie (λ_=>false) rs0 (.par 0)= .live ⟨2,[stC d alb]⟩:=cL.2 (by simp[al5,kl,ae]);have hL4:ie (λ_=>false) rs0 (.loc 4)= .live ⟨3,[[.int .i64 0,.int .i64 0,.str []]]⟩:=cL.2 (by simp[al5,kl,ae]);have oB:ie (λ_=>false) rs0 (.loc 5)= .live ⟨5,aB (ops.map Op.iv)⟩:=cL.2 (by simp[al5,kl,ae]);generalize ie (λ_=>false) rs0=H0 at *;clear al5 rs0;by_cases bI:i<ls.length
 ·obtain⟨s,hs⟩:∃s,ls[i]?=some s:=⟨_,rX bI⟩;have hsm:=PX hs;have pU:IntKind.i64.wrap ((i:Int)+1)=((i+1:Nat):Int):=wrap64 sf sf;have hse:(ls.map IV.str)[i]?=some (.str s):=by simp[hs]
  have ll:jV 1 (ls.map IV.str):=by intro y hy;simp only[pb] at hy;obtain⟨w',_,rfl⟩:=hy;rfl
  have aq4:ls.drop i=s::ls.drop (i+1):=by rw[EK bI];congr 1;exact(yY.1 hs).2
  rw[aq4] at h;obtain⟨o,so,e,hle⟩:∃o so e,ak8 s=(o,so,e):=⟨_,_,_,rfl⟩;have L8:=hL s hsm;have hSs:=hS s hsm;have hob:=hLb s hsm;simp only[amF,hle,Op.av] at L8;simp only[hle,Doc.av] at hSs hob;simp only[alE,hle] at h;simp only[↓aX,mX,seval,show decide ((i:Int)<(ls.length:Int))=true by simpa using bI,hse,ll,IV.cells,QJ,Qj];refine ay L8 ?_;simp only[↓aX,mX,seval,hU 8 M3 M3];cases he:(e==0) with
  |false=>
   have he':e≠0:=(by simpa using he);rw[Ev he'] at h;rw[h] at H_;simp only at H_;simp only[↓aX,mX,seval,bne,he,QI,hL4];exact⟨stC d alb,⟨by rw[H_];rfl,by rw[H_];rfl⟩,aao,aa3,rfl,by simp[ae,ij]⟩
  |true=>
  have he':e=0:=by simpa using he
  rw[P8 he'] at h;simp only[↓aX,mX,seval,bne,he,QK,ij,stC];refine ay hSs ?_;obtain⟨ns,np⟩:∃ns,(ali d so).1=ns:=⟨_,rfl⟩;rw[np] at h;simp only[↓aX,mX,seval,np,G_];have ve:ns.length<=80:=by
   rw[<-np];unfold ali;split
   ·rename_i hc;have:=(anN hd (show so≠[] by intro e;subst e;simp[ak6] at hc)).1;simp only;omega
   simp
  by_cases wq:ns=[]
  ·rw[P8 wq] at h;rw[h] at H_;simp only at H_;simp only[↓aX,mX,seval,show(((ns.length:Nat):Int)==0)=true by simp[wq],hL4];exact⟨stC d alb,⟨by rw[H_];rfl,by rw[H_];rfl⟩,aao,aa3,rfl,by simp[ae,ij]⟩
  rw[Ev wq] at h;simp only[↓aX,mX,seval,show(((ns.length:Nat):Int)==0)=false by simpa using wq,G_];have CM:∀j,j<=ns.length->(ops++amb o (ns.take j)).length=ops.length+j:=λj hj=>by simp[amb,ov hj]
  refine gb (σ:=CiS d o ns) (λ_=>[.par 0,.loc 4,.loc 5,.loc 8]) (λ_ _=>false)
   (λq=>[(0,.ptr (.par 0) 2 0 0),(4,.ptr (.loc 4) 3 0 0),(5,.sl (.loc 5) 5 0 (ops.length+q.j)),(8,.ptr (.loc 8) 5 0 0),(21,.list (ls.map IV.str)),(22,.int .i64 ls.length),(23,.int .i64 i),(50,.list (ns.map xX)),(51,.int .i64 ns.length),(52,.int .i64 q.j)])
   (λq=>[(.par 0,⟨2,[stC d alb]⟩),(.loc 4,⟨3,[[.int .i64 0,.int .i64 0,.str []]]⟩),(.loc 5,⟨5,aB ((ops++amb o (ns.take q.j)).map Op.iv)⟩),(.loc 8,⟨5,[[.int .i64 o.kind,.int .i64 q.t,.list (dq o.content),.str o.name,.str o.s]]⟩)])
   (λq=>ns.length - q.j) ⟨0,o.target,sf⟩ (λ_=>rfl) (λq=>by simp[ah,AV.an]) ?_ ⟨[],?_⟩ ?_
  ·intro q w hw cs bV z hz;simp only[PY,QN,QV] at hw;rcases hw with rfl|rfl|rfl|rfl
   ·simp only[bY] at bV;subst bV;simp[ah,AV.an,stC] at hz
   ·simp only[bY] at bV;subst bV;simp[ah,AV.an] at hz
   ·rw[bU bV] at hz;simp at hz
   simp only[bY] at bV;subst bV;simp[ah,AV.an] at hz
  ·refine⟨?_,?_,?_,aar,aar⟩
   ·intro l hf hu;left;cases l<;>simp[Lb.entry] at hf;rename_i n;by_cases e:n=0
    ·subst e;simp
    exfalso;apply hu;simp[ae,nk n e]
   ·simp[k_,dn,bJ,put,jP]
   have hr5:∀(ρ:Lb->Lb) (xs:List IV),dO ρ ⟨5,aB xs⟩=⟨5,aB xs⟩:=λρ xs=>dy _ _ _;simp only[tc,List.take_zero,amb,Ww,SU,hr5];simp[dn,ae,dO,bu,bJ,stC,ij,hL4,oB]
  rintro⟨j,tg,hj⟩;simp only;obtain⟨rs1,aoa⟩:∃rs1,rs1=[(Lb.par 0,(⟨2,[stC d alb]⟩:Row)),(Lb.loc 4,⟨3,[[.int .i64 0,.int .i64 0,.str []]]⟩),(Lb.loc 5,⟨5,aB ((ops++amb o (ns.take j)).map Op.iv)⟩),(Lb.loc 8,⟨5,[[.int .i64 o.kind,.int .i64 tg,.list (dq o.content),.str o.name,.str o.s]]⟩)]:=⟨_,rfl⟩;rw[<-aoa];have kU:∀d,d≠4->d≠5->d≠8->ie (λ_=>false) rs1 (.loc d)= .unused:=λd h4 h5 h8=>by rw[aoa,fE (by simp[h4,h5,h8])];rfl
  have kUp:∀d,d≠0->ie (λ_=>false) rs1 (.par d)= .unused:=λd hd=>by rw[aoa,fE (by simp[hd])];rfl
  have k0:ie (λ_=>false) rs1 (.par 0)= .live ⟨2,[stC d alb]⟩:=cL.2 (by simp[aoa,kl,ae]);have k4:ie (λ_=>false) rs1 (.loc 4)= .live ⟨3,[[.int .i64 0,.int .i64 0,.str []]]⟩:=cL.2 (by simp[aoa,kl,ae]);have k5:ie (λ_=>false) rs1 (.loc 5)= .live ⟨5,aB ((ops++amb o (ns.take j)).map Op.iv)⟩:=cL.2 (by simp[aoa,kl,ae]);have k8:ie (λ_=>false) rs1 (.loc 8)= .live ⟨5,[[.int .i64 o.kind,.int .i64 tg,.list (dq o.content),.str o.name,.str o.s]]⟩:=cL.2 (by simp[aoa,kl,ae]);generalize ie (λ_=>false) rs1=H1 at *;clear aoa rs1;by_cases zk:j<ns.length
  ·obtain⟨n,hn⟩:∃n,ns[j]?=some n:=⟨_,rX zk⟩;have wB:IntKind.i64.wrap ((j:Int)+1)=((j+1:Nat):Int):=wrap64 sf sf;have g_:ops++amb o (ns.take (j+1))=(ops++amb o (ns.take j))++[{o with target:=n}]:=(by rw[Ro,hn];simp[amb]);simp only[↓aX,mX,seval,show decide ((j:Int)<(ns.length:Int))=true by simpa using zk,aaX,hn,YN,bT,aej,QJ,Qj,k8];rw[qg 5 72 61 5 ((ops++amb o (ns.take j)).map Op.iv) (.agg [.int .i64 o.kind,.int .i64 n,.list (dq o.content),.str o.name,.str o.s]) (by simp[ae,k5]) (by rw[G_];exact CM j hj) rfl (by intro z hz cs;simp only[IV.cells,PY,QN,QV] at hz;rcases hz with rfl|rfl|rfl|rfl|rfl<;>simp) sf M3 M3 (by simp[ae,kU])];simp only[↓aX,mX,seval,wB];have hr5:∀(ρ:Lb->Lb) (xs:List IV),dO ρ ⟨5,aB xs⟩=⟨5,aB xs⟩:=λρ xs=>dy _ _ _;refine⟨⟨j+1,n,zk⟩,aac,[(.loc 5,.loc 61)],?_,?_,?_,aar,?_⟩
   ·intro z hf hu;left;cases z<;>simp[Lb.entry] at hf;rename_i m;by_cases e:m=0
    ·subst e;simp
    exfalso;apply hu;simp[ae,kUp m e]
   ·simp[k_,dn,bJ,put];omega
   ·simp only[tc,g_,hr5,BG];simp[dn,ae,dO,bu,bJ,stC,k0,k4,Op.iv,Op.cs]
   intro z hz;simp only[PY,QN,QV] at hz;rcases hz with rfl|rfl|rfl|rfl<;>simp[dn,Lb.fresh,Lb.entry]
  have hjn:j=ns.length:=sf
  subst hjn;simp only[↓aX,mX,seval,show decide ((ns.length:Int)<(ns.length:Int))=false by simp,pU];rw[Rk] at k5;have hr5:∀(ρ:Lb->Lb) (xs:List IV),dO ρ ⟨5,aB xs⟩=⟨5,aB xs⟩:=λρ xs=>dy _ _ _;refine⟨⟨i+1,ops++amb o ns,bI,by simp only[ko,amb,G_];omega,λo' ho=> ?_,h⟩,aac,[],?_,?_,?_,aar,aar⟩
  ·rcases QL.1 ho with ho|ho
   ·exact hb o' ho
   simp only[amb,pb] at ho;obtain⟨n,_,rfl⟩:=ho;exact hob
  ·intro z hf hu;left;cases z<;>simp[Lb.entry] at hf;rename_i m;by_cases e:m=0
   ·subst e;simp
   exfalso;apply hu;simp[kUp m e]
  ·simp[k_,dn,bJ,put,amb]
  simp only[tc,hr5];simp[dn,dO,bu,bJ,stC,k0,k4,k5]
 have qB:i=ls.length:=sf
 subst qB;rw[Zd] at h;simp only[alE] at h;rw[h] at H_;simp only at H_;simp only[↓aX,mX,seval,show decide ((ls.length:Int)<(ls.length:Int))=false by simp];have E0:List.take ops.length (ops.map Op.iv)=ops.map Op.iv:=P5 tM;refine⟨5,ops.map Op.iv,0,ops.length,rfl,oB,tM,agu ops,?_⟩;simp only[↓aX,mX,seval,tn,E0,ae,ij,stC];have hAp:=hA ops ⟨sf,hb⟩ h;simp only[Doc.av] at hAp;refine ay hAp ?_;cases he:((XU d ops).2==0) with
 |false=>
  have he':(XU d ops).2≠0:=by simpa using he
  rw[Ev he'] at H_;simp only[↓aX,mX,seval,hU 15 M3 M3,bne,he,QI,hL4];exact⟨stC d alb,⟨by rw[H_];rfl,by rw[H_];rfl⟩,aao,aa3,rfl,by simp[ae,ij,stC]⟩
 |true=>
 have he':(XU d ops).2=0:=by simpa using he
 rw[P8 he'] at H_;simp only[↓aX,mX,seval,hU 15 M3 M3,bne,he,QK,ij,hL4,stC,E0,G_];exact⟨stC (XU d ops).1 alb,⟨by rw[H_];rfl,by rw[H_];rfl⟩,aao,aa3,rfl,by simp[ae,ij,stC]⟩
def au0 {w6 ak0 alv Vj ak1 alc cd:Nat} (hF:aw P G w6=some (106,[((some (some 3)),4)],(alY ak0 alv Vj ak1 alc cd).bare)) (d:Doc) (ls:List Bs) (lr:ls.length<=B)
  (hC:cR P G ak1 [.ptr (.par 0) 2 0 0,.list (ls.map IV.str)] (stC d 1) (λx cs=>x=(alh d ls).2.av/\cs=stC (alh d ls).1 1)) :
  cR P G w6 [.ptr (.par 0) 2 0 0,(⟨2,ls⟩:ak7).av] (stC d 0) (λx cs=>x=(doF d 0 ⟨2,ls⟩).2.av/\cs=stC (doF d 0 ⟨2,ls⟩).1.1 (doF d 0 ⟨2,ls⟩).1.2):=by
 refine dw hF (by simp) (by simp[ah,AV.an,ak7.av]) (by simp[ah,AV.an,stC]) ?_;unfold alY;have hdo:doF d 0 ⟨2,ls⟩=(((alh d ls).1,1),(alh d ls).2):=by
  unfold doF alS;rfl
 simp only[↓aX,mX,reduceCtorEq,Nat.reduceEqDiff,Nat.reduceLT,Nat.reduceLeDiff,Nat.reduceAdd,Nat.reduceMul,Int.reduceToNat,Int.reduceLE,Int.reduceLT,Oj,stC,ak7.av,JQ,show decide ((0:Int)>=100)=false from rfl,show IntKind.i64.wrap (0+1)=1 from rfl,show((2:Int)==1)=false from rfl,show((2:Int)==2)=true from rfl];refine bj (l:= .par 0) hC (by simp[bu,bJ,ft]) (by simp[ae,stC]) ?_;rintro x dF ⟨rfl,rfl⟩ _ _ _;simp only[↓aX,mX,reduceCtorEq,Nat.reduceEqDiff,Nat.reduceLT,Nat.reduceLeDiff,Nat.reduceAdd,Nat.reduceMul,Int.reduceToNat,Int.reduceLE,Int.reduceLT,Rep.av];exact⟨stC (alh d ls).1 1,⟨by rw[hdo],by rw[hdo];rfl⟩,by simp[AV.an,ah],by simp[ah,AV.an,stC],rfl,by simp[ae,stC]⟩
def au1 {w6 ak0 alv Vj ak1 alc cd:Nat} (hF:aw P G w6=some (106,[((some (some 3)),4)],(alY ak0 alv Vj ak1 alc cd).bare)) (d:Doc) (x:Tree) (t:Bs) (h1:aec d 0=(x,0)) (h2:dh x=(t,0))
  (hT:au P G alc [Doc.av d,.int .i64 0] (.gf [(aec d 0).1.av,.int .i64 (aec d 0).2]))
  (hPr:au P G cd [x.av] (.gf [.str (dh x).1,.int .i64 (dh x).2])) :
  cR P G w6 [.ptr (.par 0) 2 0 0,(⟨3,[]⟩:ak7).av] (stC d 1) (λx cs=>x=(doF d 1 ⟨3,[]⟩).2.av/\cs=stC (doF d 1 ⟨3,[]⟩).1.1 (doF d 1 ⟨3,[]⟩).1.2):=by
 refine dw hF (by simp) (by simp[ah,AV.an,ak7.av]) (by simp[ah,AV.an,stC]) ?_;unfold alY;have hdo:doF d 1 ⟨3,[]⟩=((d,2),⟨0,d.length,t⟩):=by
  have:alS d ⟨3,[]⟩=(d,⟨0,d.length,t⟩):=by
   unfold alS;simp only[h1,h2];rfl
  unfold doF;rw[this];rfl
 rw[h1] at hT;rw[h2] at hPr;simp only[Tree.av,Doc.av] at hT hPr;simp only[↓aX,mX,reduceCtorEq,Nat.reduceEqDiff,Nat.reduceLT,Nat.reduceLeDiff,Nat.reduceAdd,Nat.reduceMul,Int.reduceToNat,Int.reduceLE,Int.reduceLT,Oj,stC,ak7.av,JQ,show decide ((1:Int)>=100)=false from rfl,show IntKind.i64.wrap (1+1)=2 from rfl,show((3:Int)==1)=false from rfl,show((3:Int)==2)=false from rfl,show((3:Int)==3)=true from rfl,Doc.av];refine ay hT ?_;simp only[↓aX,mX,reduceCtorEq,Nat.reduceEqDiff,Nat.reduceLT,Nat.reduceLeDiff,Nat.reduceAdd,Nat.reduceMul,Int.reduceToNat,Int.reduceLE,Int.reduceLT];refine ay hPr ?_;simp only[↓aX,mX,reduceCtorEq,Nat.reduceEqDiff,Nat.reduceLT,Nat.reduceLeDiff,Nat.reduceAdd,Nat.reduceMul,Int.reduceToNat,Int.reduceLE,Int.reduceLT,show((0:Int) !=0)=false from rfl,G_];exact⟨stC d 2,⟨by rw[hdo];rfl,by rw[hdo];rfl⟩,by simp[AV.an,ah],by simp[ah,AV.an,stC],rfl,by simp[ae,stC]⟩
end

def tL:Tree:= .mk false [100,111,99] [] [tA]
def auS:alE amp [] [lnA]= .ok [opA]:=by
 simp only[alE,aq8,aqy];rfl
def aud:VU amp [opA]=0:=by
 show VU (lW amQ) [opA]=0;rw[aan amj];refine⟨λo ho=> ?_,M3,M3⟩;simp only[PY,QN,QV] at ho;subst ho;exact⟨⟨0,-1,amQ,.self 0 (-1) amQ,rfl,M3⟩,M3,M3⟩
def aue:XU amp [opA]=(lW tL,0):=by
 have:=aaq amj (l:=[opA]) aud;have e:Yc amQ [opA]=tL:=abL
 rw[e,P8 M3] at this;exact this
def au2:doF amp 0 ⟨2,[lnA]⟩=((lW tL,1),⟨0,1,[]⟩):=by
 have h:alh amp [lnA]=(lW tL,⟨0,1,[]⟩):=by
  unfold alh;rw[Ev M3,auS];simp only[aue];rfl
 unfold doF alS;rw[Ev M3,Ev M3,P8 rfl,h];rfl
def txL:Bs:=[60,100,111,99,62,60,97,62,120,60,47,97,62,60,47,100,111,99,62]
def auz:doF (lW tL) 1 ⟨3,[]⟩=((lW tL,2),⟨0,3,txL⟩):=by
 have ht:aec (lW tL) ((0:Nat):Int)=(tL,0):=aed (t:=tL) M3 (Sub.self 0 (-1) tL);have hp:dh tL=(txL,0):=by rw[oq M3 M3];rfl
 unfold doF alS;rw[Ev M3,Ev M3,Ev M3,P8 rfl];have ht':aec (lW tL) 0=(tL,0):=ht;simp only[ht',hp];rfl
def atX:Node:=⟨false,[100,111,99],[],-1,[]⟩
def au_ {i:Nat} {o:Op} {y:Node} (h1:[opA][i]?=some o) (h2:amp[o.target.toNat]?=some y):i=0/\o=opA/\y=atX:=by
 match i,h1 with
 |0,h1=>
  have h1:opA=o:=by simpa using h1
  subst h1;exact⟨rfl,rfl,(Xy (h2.symm.trans (show amp[opA.target.toNat]?=some atX from rfl)))⟩
def bL0:Bn:=Yg amp 1
def bL1:Bn:=bL0.ins 0 0 [tA]
def btL (p i:Nat):Bn:=if p=0\/(p=1/\i=0) then bL0 else bL1
def ava (p i:Nat):(btL p i).n0=1:=by unfold btL;split<;>rfl
section
variable {P:Program} {G:Nat->Option (List IV)}
def auA {akN asw iJ l4 akQ kX c7 nq Vj ej pr gN asx asz:Nat}
  (hF:aw P G akN=some (100,[((some (some 1)),4),(none,5)],(VV asw iJ l4 akQ kX c7 nq Vj).bare)) (hF2:aw P G kX=some (194,[],(fO ej pr gN asx asz).bare)) (hF3:aw P G c7=some (40,[((some (some 4)),4)],(Vu c7).bare)) (adL:au P G asw [Doc.av amp,.list ([opA].map Op.iv)] (.int .i64 (VU amp [opA])))
  (hCA:∀xs:List Attr,xs.length<=B->aa4 P G iJ [.list (cD xs)] 2 (cD xs)) (hCI:∀xs:List Int,xs.length<=B->aa4 P G l4 [.list (xs.map xX)] 1 (xs.map xX))
  (hPh:∀k t,au P G akQ [.int .i64 k,.bool t] (.int .i64 (WL k t))) (hI:aau P G ej)
  (hJ:au P G nq [.list (dq [tA])] (.list (dq (Wf [tA])))) (hM:au P G Vj [tL.av] (.gf [Doc.av (Wo tL).1,.int .i64 (Wo tL).2])) :
  au P G akN [Doc.av amp,.list ([opA].map Op.iv)] (.gf [Doc.av (lW tL),.int .i64 0]):=by
 have hm:Wo tL=(lW tL,0):=by unfold Wo;rw[P8 M3]
 have:=ae2 hF amp [opA] tL btL M3 M3 adL aud hCA hCI (λy hy=> ?_) rfl (λp i=>ava p i) (λp=> ?_) ?_ (λo ho=> ?_) (λp i o y h1 h2 h3=> ?_) (λp i o y h1 h2 h3=> ?_) ?_ hJ (Wo tL) hM
 ·rw[hm] at this;exact this
 ·rw[show amp=[atX] from rfl] at hy;have:y=atX:=by simpa using hy
  subst this;exact⟨zd _,zd _⟩
 ·unfold btL
  match p with
  |0=>rfl
  |1=>rfl
  |p+2=>simp
 ·decide
 ·have:o=opA:=by simpa using ho
  subst this;exact⟨⟨false,[100,111,99],[],-1,[]⟩,M3,rfl,hPh _ _⟩
 ·obtain⟨rfl,rfl,rfl⟩:=au_ h1 h2;unfold btL;by_cases h0:p=0
  ·simp[h0]
  have:¬p=1:=λe=>h3 (by rw[e];rfl);rw[Ev sf,Ev sf]
 ·obtain⟨rfl,rfl,rfl⟩:=au_ h1 h2;have:p=1:=by have:(1:Int)=(p:Int):=h3;omega
  subst this;exact aiF hF2 bL0 M3 0 M3 _ rfl [tA] [] [] M3 M3 hI
 exact aeX hF3 _ _ _ M3 _ tL (PW _) 0 ⟨-1,[1],rfl,⟨1,rfl,0,[2],rfl,⟨2,rfl,1,[],rfl,trivial⟩,trivial⟩,trivial⟩ M3
def as2 (alg w6 mm:Nat):AC:=
(aM [jM 0 false] (aM [aQ 4 (.call alg []),MR 1 4] (.seq (aM [MR 5 1,aQ 6 (.zu false (.t 5) (.c .jK))] (.cond (.t 6) (aM [jM 0 false] .ret) .skip)) (aM [MR 7 1,aQ 8 (.lits 1 1 [(.str [])] [(0,(.c (.str [108,97,115,116,32,47,100,111,99,32,60,97,62,120,60,47,97,62])))]),aQ 9 (.sg [(.int .i64 0),.nil0] [(0,(1,(jS 2))),(1,(1,(.t 8)))]),aQ 10 (.call w6 [(.t 7),(.t 9)]),aQ 2 (.new [(.int .i64 0),(.int .i64 0),(.str [])]),gg (.store 3 (.t 2) (.t 10))] (aM [MR 11 1,aQ 12 (.sg [(.int .i64 0),.nil0] [(0,(1,(jS 3)))]),aQ 13 (.call w6 [(.t 11),(.t 12)]),aQ 3 (.new [(.int .i64 0),(.int .i64 0),(.str [])]),gg (.store 3 (.t 3) (.t 13))] (aM [ep 14 2 0,fm 15 14,eY 16 .eql 15 0,MR 17 16,Wb 18 17 2 1,jm 19 17 18,dW 20 17 (.bin .eql (.t 19) (jS 1)),jT 21 17 20,MR 22 21,Wb 23 22 3 2,jm 24 22 23,dW 25 22 (.bin .eql (.t 24) (.c (.str [60,100,111,99,62,60,97,62,120,60,47,97,62,60,47,100,111,99,62]))),jT 26 22 25,MR 27 26,cU 28 27 1,dW 29 27 (.call mm [(.t 28)]),dW 30 27 (.pN (.t 29) 0 none),dW 31 27 (.len (.t 30)),dW 32 27 (.bin .eql (.t 31) (jS 3)),jT 33 27 32,MR 0 33] .ret))))))
def auf {asD alg w6 mm:Nat} (hF:aw P G asD=some (34,[(none,0)],(as2 alg w6 mm).bare)) (aqx:ao6 P G alg [] 2 [.list (amp.map Node.iv),.int .i64 0])
  (h1:cR P G w6 [.ptr (.par 0) 2 0 0,(⟨2,[lnA]⟩:ak7).av] (stC amp 0) (λx cs=>x=(doF amp 0 ⟨2,[lnA]⟩).2.av/\cs=stC (doF amp 0 ⟨2,[lnA]⟩).1.1 (doF amp 0 ⟨2,[lnA]⟩).1.2))
  (h2:cR P G w6 [.ptr (.par 0) 2 0 0,(⟨3,[]⟩:ak7).av] (stC (lW tL) 1) (λx cs=>x=(doF (lW tL) 1 ⟨3,[]⟩).2.av/\cs=stC (doF (lW tL) 1 ⟨3,[]⟩).1.1 (doF (lW tL) 1 ⟨3,[]⟩).1.2))
  (h3:cR P G mm [.ptr (.par 0) 2 0 0] (stC (lW tL) 2) (λx cs=>x=Doc.av (lW tL)/\cs=stC (lW tL) 2)) :
  au P G asD [] (.bool true):=by
 rw[au2] at h1;rw[auz] at h2;refine aR hF tM (by simp[ah]) aad ?_;unfold as2;simp only[↓aX,mX,seval];refine anC 4 aqx rfl (λl=>by simp[NW,Hp.none]) λq=> ?_;simp only[↓aX,mX,seval,JQ];refine bj (l:=NW 4 q) h1 (by simp[bu,bJ,ft,ak7.av,lnA]) (by simp[ae,stC,IV.dQ]) ?_;rintro x1 cs1 ⟨rfl,rfl⟩ _ _ _;simp only[↓aX,mX,seval,Rep.av];refine⟨aaM,?_⟩;refine bj (l:=NW 4 q) (apT h2) (by simp[bu,bJ,ft,ak7.av]) (by simp[ae,stC,NW]) ?_;rintro x2 cs2 ⟨rfl,rfl⟩ _ _ _;simp only[↓aX,mX,seval,Rep.av];have hn:∀k,(Lb.loc k=NW 4 q)=False:=λk=>by simp[NW]
 refine⟨by simp[hn],?_⟩;simp only[↓aX,mX,seval,hn,show((0:Int)==0)=true from rfl,show((1:Int)==1)=true from rfl,show(txL==[60,100,111,99,62,60,97,62,120,60,47,97,62,60,47,100,111,99,62])=true from rfl];refine bj (l:=NW 4 q) h3 aas (by simp[ae,stC,NW]) ?_;rintro x3 cs3 ⟨rfl,rfl⟩ _ _ _;simp only[↓aX,mX,seval,Doc.av,G_,show(lW tL).length=3 from rfl,show(((3:Nat):Int)==3)=true from rfl]

def asQ (alx asC ai9 asy asD:Nat):AC:=
(aM [jM 2 false] (aM [MR 10 0,aQ 11 (.call alx [(.t 10)]),MR 9 11,ox 12 9 0,ox 13 9 1,ox 14 9 2,aQ 3 (.new [(.int .i64 0),(.int .i64 0),.nil0,(.str []),(.str [])]),gg (.store 5 (.t 3) (.t 12)),MR 4 13,MR 5 14] (aM [MR 16 0,aQ 17 (.call asC [(.t 16)]),MR 15 17,ox 18 15 0,ox 19 15 1,ox 20 15 2,aQ 6 (.new [(.int .i64 0),(.int .i64 0),.nil0,(.str []),(.str [])]),gg (.store 5 (.t 6) (.t 18)),MR 7 19,MR 8 20] (aM [gz 21 5 3,gz 22 5 6,aQ 23 (.call ai9 [(.t 21),(.t 22)]),MR 24 23,cU 25 24 4,cU 26 24 7,dW 27 24 (.call asy [(.t 25),(.t 26)]),jT 28 24 27,MR 29 28,cU 30 29 5,cU 31 29 8,dW 32 29 (.bin .eql (.t 30) (.t 31)),jT 33 29 32,MR 34 33,dW 35 34 (.call asD []),jT 36 34 35,MR 2 36] .ret))))
def atD {as6 alx asC ai9 asy asD:Nat} (hF:aw P G as6=some (37,[(none,2)],(asQ alx asC ai9 asy asD).bare)) (s:Bs)
  (h1:au P G alx [.str s] (amF s)) (h2:au P G asC [.str s] (amF s)) (h3:au P G ai9 [(ak8 s).1.av,(ak8 s).1.av] (.bool true))
  (h4:au P G asy [.list ((ak8 s).2.1.map Step.iv),.list ((ak8 s).2.1.map Step.iv)] (.bool true)) (h5:au P G asD [] (.bool true)) :
  au P G as6 [.str s] (.bool true):=by
 refine aR hF tM aae aad ?_;unfold amF at h1 h2;obtain⟨o,l,e,hle⟩:∃o l e,ak8 s=(o,l,e):=by
  cases ak8 s with
  |mk o r=>cases r with|mk l e=>exact⟨o,l,e,rfl⟩
 rw[hle] at h1 h2 h3 h4;simp only[Op.av] at h1 h2 h3;unfold asQ;simp only[↓aX,mX,seval];refine ay h1 ?_;simp only[↓aX,mX,seval];refine ay h2 ?_;simp only[↓aX,mX,seval];refine ay h3 ?_;simp only[↓aX,mX,seval];refine ay h4 ?_;simp only[↓aX,mX,seval,Xh];refine ay h5 ?_;simp only[↓aX,mX,seval]
end

def aoc {s:Bs} {l:List Step} (h:ami s=some l):l.length<=5/\∀x∈l,x.name.length<=8:=by
 have hg:ak6 l=true:=by
  unfold ami at h;split at h
  ·cases hs:zc (Z_ 47 (s.drop 1)) with
   |none=>rw[hs] at h;cases h
   |some q=>
    rw[hs] at h;simp only[EF] at h;split at h
    ·rename_i hq;cases h;exact hq
    cases h
  cases h
 simp only[ak6,QH,Rh,dj] at hg;refine⟨hg.2.2,λx hx=> ?_⟩;have:=hg.1 x hx;simp only[al1,QH,Tu,S'] at this;rcases this.1 with h|h|h
 ·rw[h];simp
 ·rw[h];simp
 simp only[named,QH,dj] at h;have:=h.2.2;omega
def ank (s:Bs):(ak8 s).2.1.length<=5/\∀x∈(ak8 s).2.1,x.name.length<=8:=by
 have h0:([]:List Step).length<=5/\∀x∈([]:List Step),x.name.length<=8:=⟨tM,tM⟩;unfold ak8;simp only;split
 ·exact h0
 split
 ·exact h0
 rename_i l hl;have hp:=aoc hl;split
 ·exact h0
 split
 ·exact hp
 split
 ·split
  ·split
   ·exact hp
   exact h0
  exact h0
 split
 ·split
  ·exact hp
  exact h0
 split
 ·exact hp
 split
 ·exact hp
 exact h0
end Go.Am
