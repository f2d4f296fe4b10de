import Derived.Test.YtfeijflhfhkbnaaGreatDoorKAm34
import Derived.Test.YtfeijflhfhkbnaaGreatDoorKT21
import Derived.Lib.Bytealg
import Derived.Lib.AtoiAllCases
import Derived.Lib.ItoaNum
set_option linter.all false
/- Paths: chosen step by step, or node by node: the same. -/
namespace Go.Am
open Go Go.RowKit
def amM (d:Doc) (n:Nat):Nat:=match d[n]? with
 |some x=>if h:0<=x.parent/\x.parent.toNat<n then amM d x.parent.toNat+1 else 1
 |none=>0
termination_by n
decreasing_by exact h.2
def aoI {d:Doc} {n:Nat} {x:Node} {p:Int} (h:d[n]?=some x) (hp:x.parent=p):amM d n=if 0<=p/\p.toNat<n then amM d p.toNat+1 else 1:=by
 subst hp;rw[amM,h];simp only;split<;>rfl
def amm {d:Doc} {n:Nat} {x:Node} {p:Int} {s:Step} {l:List Step} (h:d[n]?=some x) (hp:x.parent=p) :
  ak9 d (s::l) n=(alN d s.name n&&((if p<0 then l.isEmpty else(!l.isEmpty&&ak9 d l p.toNat))&&(s.n==0||s.n==((amA d p s.name n:Nat):Int)))):=by
 subst hp;rw[ak9,h]
def am8 {d:Doc} {s:Step} {k n:Nat} {r:List Int} {x:Node} {tx:Bool} {sx:Bs} (h:d[n]?=some x) (ht:x.text=tx) (hs:x.s=sx) :
  kz d s k ((n:Int)::r)=if Ha tx sx s.name then(if s.n=0\/s.n=((k+1:Nat):Int) then(n:Int)::kz d s (k+1) r else kz d s (k+1) r) else kz d s k r:=by
 subst ht hs;rw[kz,Qj,h]
section
variable {t:Tree}
def Sub.at {n:Nat} {q:Int} {y:Tree} (h:Sub 0 (-1) t n q y):(lW t)[n]?=some (y.node n q):=(h.Gv _ ⟨[],aa'⟩).node
def am9 {n:Nat} {q:Int} {y:Tree} (h:Sub 0 (-1) t n q y):(n=0/\q= -1)\/∃(m:Nat) (z:Tree) (r:Int),q=(m:Int)/\Sub 0 (-1) t m r z/\m<n:=by
 rcases h.parent with⟨e1,e2,_⟩|⟨m,z,r,e1,e2,e3,_⟩
 ·exact .inl ⟨e1,e2⟩
 exact .inr ⟨m,z,r,e1,e2,e3⟩
def am2 {n:Nat} {q:Int} {y:Tree} (h:Sub 0 (-1) t n q y):(n=0/\q= -1/\amM (lW t) n=1)\/∃(m:Nat),q=(m:Int)/\m<n/\amM (lW t) n=amM (lW t) m+1:=by
 rcases am9 h with⟨e1,e2⟩|⟨m,z,r,e1,e2,e3⟩
 ·refine .inl ⟨e1,e2,?_⟩;rw[aoI h.at (p:=q) rfl,Ev sf]
 refine .inr ⟨m,e1,e3,?_⟩;rw[aoI h.at (p:=q) rfl,P8 ⟨sf,sf⟩,e1,Qj]
def anZ {n:Nat} {q:Int} {y:Tree} (h:Sub 0 (-1) t n q y):∀(k:Nat) (r:Int) (z:Tree),Sub n q y k r z->k≠n->amM (lW t) n<amM (lW t) k:=by
 intro k;induction k using Nat.strongRecOn with
 |ind k ih=>
 intro r z hs Vi;rcases hs.parent with⟨e,_⟩|⟨m,w,r',e1,e2,e3,_⟩
 ·exact absurd e Vi
 have hk:=h.trans hs;rcases am2 hk with⟨_,e,_⟩|⟨m',e4,e5,e6⟩
 ·omega
 have:m'=m:=sf
 subst this;by_cases hm:m'=n
 ·subst hm;omega
 have:=ih m' e3 r' w e2 hm;omega
theorem alZ:∀(l:List Step) (n:Nat) (q:Int) (y:Tree),Sub 0 (-1) t n q y->ak9 (lW t) l n=true->amM (lW t) n=l.length
 |[],n,q,y,_,h=>by simp[ak9] at h
 |s::l,n,q,y,hs,h=>by
  rw[amm hs.at (p:=q) rfl] at h;simp only[QH] at h;obtain⟨_,h,_⟩:=h;rcases am2 hs with⟨e1,e2,e3⟩|⟨m,e1,e2,e3⟩
  ·rw[P8 sf] at h;have:l=[]:=(by simpa using h);subst this;simpa using e3
  rw[Ev sf,QH] at h;obtain⟨m',z,r,e4,e5,e6⟩:=(am9 hs).resolve_left sf;have:m'=m:=sf
  subst this;rw[e1,Qj] at h;have:=alZ l m' r z e5 h.2;simp only[gL];omega
theorem am' {n:Nat} {q:Int} {y:Tree} (h:Sub 0 (-1) t n q y) {pre:List Step} (hp:amM (lW t) n=pre.length):∀(l:List Step) (k:Nat) (r:Int) (z:Tree),Sub n q y k r z ->
  ak9 (lW t) (l++pre) k=true->ak9 (lW t) pre n=true
 |[],k,r,z,hs,hm=>by
  have:=alZ pre k r z (h.trans hs) hm;by_cases e:k=n
  ·subst e;exact hm
  have:=anZ h k r z hs e;omega
 |s::l,k,r,z,hs,hm=>by
  have hd:=alZ _ k r z (h.trans hs) hm;have Vi:k≠n:=by rintro rfl;simp at hd;omega
  rcases hs.parent with⟨e,_⟩|⟨m,w,r',e1,e2,e3,_⟩
  ·exact absurd e Vi
  simp only[List.cons_append] at hm;rw[amm (h.trans hs).at (p:=r) rfl] at hm;simp only[QH] at hm;obtain⟨_,hm,_⟩:=hm;rw[Ev sf,QH,e1,Qj] at hm;exact am' h hp l m r' w e2 hm.2
def anM {n:Nat} {q:Int} {y:Tree} (h:Sub 0 (-1) t n q y) {k:Nat} (h1:n<=k) (h2:k<n+y.jz):∃r z,Sub n q y k r z:=afG y.jz y n q k (PW _) h1 h2
def aoX (d:Doc) (p:Int) (name:Bs) (n:Nat):amA d p name n=(((x6 p 0 d).filter λk=>decide (k<=n)).filter (alN d name)).length:=by
 have key:∀(m j:Nat) (e:List Node),(∀i,e[i]?=d[j+i]?)->e.length=m ->
   ((List.range' j (n+1 - j)).filter λk=>am5 d p k&&alN d name k)=((x6 p j e).filter λk=>decide (k<=n)).filter (alN d name):=by
  intro m;induction m with
  |zero=>
   intro j e he hl;have:e=[]:=Rg.1 hl;subst this;simp only[x6,vU];rw[mc];intro k hk;simp only[Nv] at hk;have:=he (k - j);simp only[List.getElem?_nil,show j+(k - j)=k by omega] at this;unfold am5;rw[<-this];simp
  |succ m ih=>
  intro j e he hl;obtain⟨x,r,rfl⟩:∃x r,e=x::r:=by
   cases e with
   |nil=>simp at hl
   |cons x r=>exact⟨x,r,rfl⟩
  have hx:d[j]?=some x:=by have:=he 0;simpa using this.symm
  have Kl:=ih (j+1) r (λi=>by have:=he (i+1);simp only[GA] at this;rw[this];congr 1;omega) (by simpa using hl);simp only[x6,WT];rw[<-Kl];by_cases hjn:j<=n
  ·rw[show n+1 - j=(n+1 - (j+1))+1 by omega,Zh,zp];have hip:am5 d p j=(x.parent==p):=(by unfold am5;rw[hx]);rw[hip];by_cases hp:x.parent=p
   ·rw[P8 hp];simp only[hp,Xh,Vn,zp,vU,hjn,Ts,Rc];split<;>simp
   rw[Ev hp];simp[hp]
  rw[show n+1 - j=0 by omega,show n+1 - (j+1)=0 by omega];simp only[List.range'_zero,vU,SU];by_cases hp:x.parent=p
  ·simp[hp,hjn]
  simp[hp]
 have:=key d.length 0 d (λi=>by simp) rfl;unfold amA;rw[Zu,<-this];simp
theorem anw:∀(off:Nat) (xs ys:List Tree),S6 off (xs++ys)=S6 off xs++S6 (off+dP xs) ys
 |off,[],ys=>by simp[S6,dP]
 |off,k::r,ys=>by simp[S6,dP,anw _ r ys,ze]
theorem am_:∀(off:Nat) (xs:List Tree),∀k∈S6 off xs,k<off+dP xs
 |_,[],k,h=>by simp[S6] at h
 |off,x::r,k,h=>by
  simp only[S6,PY] at h;have:=x.uE;simp only[dP];rcases h with rfl|h
  ·omega
  have:=am_ _ r k h;omega
def am1 (name:Bs) (k:Tree):Bool:=Ha k.text k.s name
def amB {n:Nat} {q:Int} {y:Tree} (h:Sub 0 (-1) t n q y) (name:Bs) {a b:List Tree} {k:Tree} (hk:y.kids=a++k::b):alN (lW t) name (n+1+dP a)=am1 name k:=by
 have hs:Sub 0 (-1) t (n+1+dP a) n k:=h.trans (.Ce a b k hk (.self _ _ _));unfold alN;rw[hs.at];rfl
def aoY {n:Nat} {q:Int} {y:Tree} (h:Sub 0 (-1) t n q y) (name:Bs) {a b:List Tree} {k:Tree} (hk:y.kids=a++k::b) :
  amA (lW t) n name (n+1+dP a)=(a.filter (am1 name)).length+if am1 name k then 1 else 0:=by
 rw[aoX,aeb h,hk,anw,WT];have sr:=k.uE;have e1:(S6 (n+1) a).filter (λx=>decide (x<=n+1+dP a))=S6 (n+1) a:=by
  rw[List.filter_eq_self];intro x hx;have:=am_ _ a x hx;simp;omega
 have e2:(S6 (n+1+dP a) (k::b)).filter (λx=>decide (x<=n+1+dP a))=[n+1+dP a]:=by
  simp only[S6];rw[List.filter_cons_of_pos tM];congr 1;rw[mc];intro x hx;have:=Y1 _ b x hx;simp;omega
 rw[e1,e2,WT];have e3:∀(c a':List Tree),y.kids=a'++c++(k::b)->((S6 (n+1+dP a') c).filter (alN (lW t) name)).length=(c.filter (am1 name)).length:=by
  intro c;induction c with
  |nil=>intro a' _;rfl
  |cons z c ih=>
  intro a' he;simp only[S6,zp];rw[amB h name (a:=a') (b:=c++k::b) (k:=z) (by rw[he];simp)];have:=ih (a'++[z]) (by rw[he];simp);rw[lU] at this;simp only[dP,kf] at this;rw[show n+1+dP a'+z.jz=n+1+(dP a'+z.jz) by omega];split<;>simp[this]
 have:=e3 a [] (by rw[hk];simp);simp only[dP,kf] at this;rw[ko,this,zp,amB h name hk];split<;>simp
theorem ana:∀(l:List Step) (n:Nat) (q:Int) (y:Tree) (pre:List Step),Sub 0 (-1) t n q y->ak9 (lW t) pre n=true ->
  ama (lW t) [(n:Int)] l=((List.range' n y.jz).filter (ak9 (lW t) (l.reverse++pre))).map λk:Nat=>(k:Int)
 |[],n,q,y,pre,hs,hm=>by
  have hd:=alZ pre n q y hs hm;have hc:=y.uE;simp only[ama,Z1,List.nil_append];rw[show y.jz=(y.jz - 1)+1 by omega,Zh,zp,P8 hm];have:(List.range' (n+1) (y.jz - 1)).filter (ak9 (lW t) pre)=[]:=by
   rw[mc];intro k hk hmk;simp only[Nv] at hk;obtain⟨r,z,hz⟩:=anM hs (k:=k) sf sf;have h1:=alZ pre k r z (hs.trans hz) hmk;have h2:=anZ hs k r z hz sf;omega
  rw[this];rfl
 |s::l,n,q,y,pre,hs,hm=>by
  have hd:=alZ pre n q y hs hm;have yN:pre≠[]:=by rintro rfl;simp[ak9] at hm
  have K2:al6 (lW t) (n:Int)=mw (n+1) y.kids:=by unfold al6;rw[Qj,hs.at];rfl
  have e1:ama (lW t) [(n:Int)] (s::l)=(kz (lW t) s 0 (mw (n+1) y.kids)).flatMap λm=>ama (lW t) [m] l:=by
   simp only[ama,VQ,Xk,SU,K2];exact anu _ _ _
  have e2:(s::l).reverse++pre=l.reverse++(s::pre):=tM
  rw[e1,e2,y.n8,Zh,zp];have wq:ak9 (lW t) (l.reverse++(s::pre)) n=false:=by
   cases h:ak9 (lW t) (l.reverse++(s::pre)) n with
   |false=>rfl
   |true=>
   have:=alZ _ n q y hs h;simp at this;omega
  rw[Ev (by rw[wq];simp)];have kids:∀(b a:List Tree),y.kids=a++b ->
    (kz (lW t) s (a.filter (am1 s.name)).length (mw (n+1+dP a) b)).flatMap (λm=>ama (lW t) [m] l) =
     ((List.range' (n+1+dP a) (dP b)).filter (ak9 (lW t) (l.reverse++(s::pre)))).map λk:Nat=>(k:Int):=by
   intro b;induction b with
   |nil=>intro a _;simp[mw,kz,dP]
   |cons k b ihb=>
   intro a hk;have MF:Sub 0 (-1) t (n+1+dP a) n k:=hs.trans (.Ce a b k hk (.self _ _ _));have qT:=amB hs s.name hk;have yT:=aoY hs s.name hk;have hmk:ak9 (lW t) (s::pre) (n+1+dP a)=(am1 s.name k&&(s.n==0||s.n==(((a.filter (am1 s.name)).length+1:Nat):Int))):=by
    rw[amm MF.at (p:=(n:Int)) rfl,qT,Ev sf,Qj,hm,yT];cases hf:am1 s.name k with
    |false=>simp
    |true=>
    cases pre with
    |nil=>exact absurd rfl yN
    |cons _ _=>simp
   have ih:=ihb (a++[k]) (by rw[hk];simp);rw[lU,WT] at ih;simp only[dP,kf] at ih;rw[<-ze] at ih;simp only[dP];have aqe:List.range' (n+1+dP a) (k.jz+dP b)=List.range' (n+1+dP a) k.jz++List.range' (n+1+dP a+k.jz) (dP b):=by
    have:=(List.range'_append_1 (s:=n+1+dP a) (m:=k.jz) (n:=dP b));exact this.symm
   rw[aqe,WT,BG];simp only[mw];rw[am8 (tx:=k.text) (sx:=k.s) MF.at rfl rfl];have aqU:ak9 (lW t) (s::pre) (n+1+dP a)=false->(List.range' (n+1+dP a) k.jz).filter (ak9 (lW t) (l.reverse++(s::pre)))=[]:=by
    intro hf;rw[mc];intro j hj hmj;simp only[Nv] at hj;obtain⟨r,z,hz⟩:=anM MF (k:=j) sf sf;have hdk:amM (lW t) (n+1+dP a)=(s::pre).length:=by
     rcases am2 MF with⟨_,e,_⟩|⟨m,e3,e4,e5⟩
     ·omega
     have:m=n:=sf;subst this;simp;omega
    have:=am' MF hdk l.reverse j r z hz hmj;rw[hf] at this;cases this
   by_cases hf:Ha k.text k.s s.name=true
   ·rw[P8 hf];have BQ:am1 s.name k=true:=hf;rw[BQ] at hmk;simp only[Vn] at hmk;rw[zp,P8 BQ] at ih;simp only[vU,ko,gL,Rm,bM] at ih;by_cases hn:s.n=0\/s.n=(((a.filter (am1 s.name)).length+1:Nat):Int)
    ·rw[P8 hn];have Hi:ak9 (lW t) (s::pre) (n+1+dP a)=true:=by
      rw[hmk];simp only[Tu,S'];exact hn
     rw[VQ,ana l _ n k (s::pre) MF Hi,ih]
    rw[Ev hn];have hmf:ak9 (lW t) (s::pre) (n+1+dP a)=false:=by
     rw[hmk];simp only[Xd] at hn;simp only[EI,SV];exact hn
    rw[aqU hmf,ih];rfl
   rw[Ev hf];have BQ:am1 s.name k=false:=(by simpa[am1] using hf);rw[BQ] at hmk;rw[zp,Ev (by rw[BQ];simp)] at ih;simp only[vU,ko,Rm,kf] at ih;rw[aqU (by rw[hmk];rfl),ih];rfl
  have:=kids y.kids [] rfl;simp only[vU,Rm,dP,kf] at this;exact this
def anq (l:List Step) (hl:l≠[]):akU (lW t) l=((List.range (lW t).length).filter (ak9 (lW t) l.reverse)).map λk:Nat=>(k:Int):=by
 cases l with
 |nil=>exact absurd rfl hl
 |cons s l=>
 have hs:Sub 0 (-1) t 0 (-1) t:= .self _ _ _;have BY:=hs.at;have hm:ak9 (lW t) [s] 0=(Ha t.text t.s s.name&&(s.n==0||s.n==1)):=by
  rw[amm BY (p:= -1) rfl];have h1:alN (lW t) s.name 0=Ha t.text t.s s.name:=by unfold alN;rw[BY];rfl
  have h2:amA (lW t) (-1) s.name 0=if Ha t.text t.s s.name then 1 else 0:=by
   unfold amA;have hip:am5 (lW t) (-1) 0=true:=(by unfold am5;rw[BY];rfl);rw[List.range_one,zp,hip,h1];by_cases h:Ha t.text t.s s.name=true<;>simp[h]
  rw[h1,h2,P8 sf];by_cases h:Ha t.text t.s s.name=true<;>simp[h]
 have apL:kz (lW t) s 0 [0]=if ak9 (lW t) [s] 0=true then [0] else []:=by
  rw[show [(0:Int)]=[((0:Nat):Int)] from rfl,am8 (tx:=t.text) (sx:=t.s) BY rfl rfl];simp only[hm];by_cases h:Ha t.text t.s s.name=true
  ·rw[P8 h];simp only[h,Vn,Tu,S',kz];by_cases hn:s.n=0\/s.n=1
   ·rw[P8 (by simpa using hn),P8 hn]
   rw[Ev (by simpa using hn),Ev hn]
  rw[Ev h];simp[h,kz]
 show ama (lW t) (kz (lW t) s 0 [0]) l=_;rw[apL,pf,Zu];have e:(s::l).reverse=l.reverse++[s]:=tM
 rw[e];by_cases h:ak9 (lW t) [s] 0=true
 ·rw[P8 h];exact ana l 0 (-1) t [s] hs h
 rw[Ev h,am4];have hd:amM (lW t) 0=[s].length:=by
  rcases am2 hs with⟨_,_,e⟩|⟨m,e,_⟩
  ·exact e
  omega
 have:(List.range' 0 t.jz).filter (ak9 (lW t) (l.reverse++[s]))=[]:=by
  rw[mc];intro j hj hmj;simp only[Nv] at hj;obtain⟨r,z,hz⟩:=anM hs (k:=j) sf sf;exact h (am' hs hd l.reverse j r z hz hmj)
 rw[this];rfl
end

def Step.cJ (x:Step):x.iv.cells=x.cs:=rfl
def aph (l:List Step):jV 2 (l.map Step.iv):=by
 intro y hy;obtain⟨x,_,rfl⟩:=pb.1 hy;rfl
def aqf (l:List Step):Flat (l.map Step.iv):=by
 intro y hy z hz cs;obtain⟨x,_,rfl⟩:=pb.1 hy;simp only[Step.cJ,Step.cs,PY,QN,QV] at hz;rcases hz with rfl|rfl<;>simp
def ap7 (l:List Step) (i:Nat):(l.map Step.iv)[i]?=(l[i]?).map Step.iv:=cn ..
section
variable {P:Program} {G:Nat->Option (List IV)}
def amu:AC:=
(aM [zzX 2 0,zzX 3 1,jM 4 false] (.seq (aM [ep 5 3 0,fm 6 5,aQ 7 (.bin .eql (.t 6) (.c (.str []))),MR 8 7,oH 9 8 2 0,oG 10 8 9,sj 11 8 10] (.cond (.t 11) (aM [ep 12 3 0,fm 13 12,aQ 14 (.bin .eql (.t 13) (.c (.str []))),MR 15 14,Wb 16 15 2 0,jm 17 15 16,jT 18 15 17,MR 4 18] .ret) .skip)) (aM [ep 19 3 0,fm 20 19,aQ 21 (.bin .eql (.t 20) (.c (.str [42]))),MR 22 21,oH 23 22 3 0,oG 24 22 23,oH 25 22 2 1,oG 26 22 25,iR 27 22 (.bin .eql (.t 24) (.t 26)),sj 28 22 27,MR 4 28] .ret)))
def aqV {alB:Nat} (hF:aw P G alB=some (29,[(none,4)],amu.bare)) (x:Node) (s:Step):au P G alB [x.av,s.av] (.bool (Ha x.text x.s s.name)):=by
 refine aR hF tM (by simp[ah,AV.an,Node.av,Step.av]) aad ?_;unfold amu Ha;simp only[↓aX,mX,seval,Node.av,Step.av];cases h1:(s.name==[]) with
 |true=>
  cases h2:x.text<;>simp only[↓aX,mX,seval,h1,Bool.true_or,Vn]
 |false=>
 cases h2:x.text with
 |true=>simp only[↓aX,mX,seval,h1,Bool.or_true,VD]
 |false=>
 simp only[↓aX,mX,seval,h1,Bool.or_false];cases h3:(s.name==[42])<;>simp only[↓aX,mX,seval,Bool.true_or,YZ]
def an0 {d:Doc} {s:Step} {k n:Nat} {r:List Int} {x:Node} (h:d[n]?=some x) :
  kz d s k ((n:Int)::r)=if Ha x.text x.s s.name then(if s.n=0\/s.n=((k+1:Nat):Int) then(n:Int)::kz d s (k+1) r else kz d s (k+1) r) else kz d s k r:=by
 simp only[kz,Qj,h]
def ame (alB:Nat):AC:=
(aM [zzX 3 0,zzX 5 2,zi 6] (aM [zi 7] (.gh (.own 7 1) (aM [gH 8 0] (.seq (aM [MR 11 1,oy 12 11,gH 13 0] (.block 0 (.loop (aM [et 14 .lss 13 12] (.seq (.cond (.t 14) .skip (.exit 0)) (.seq (.block 1 (aM [jL 15 11 13 1,fm 16 15,MR 10 16] (.seq (.seq (.VL [ep 17 3 0,fm 18 17,MR 19 10,jL 20 18 19 5,gz 21 5 20,gz 22 2 5,aQ 23 (.call alB [(.t 21),(.t 22)]),sB 24 23] [[],[0],[],[1,2],[3],[],[4,5],[6]] [.no,.rw [.loc 3] [],.no,.no,.no,.rw [.loc 5] [],.no,.no]) (.cond (.t 24) (.exit 1) .skip)) (aM [MR 25 8,eY 26 .add 25 1,MR 8 26] (aM [ep 27 5 1,fm 28 27,eY 29 .eql 28 0,MR 30 29,oH 31 30 5 1,oG 32 30 31,gV 33 30 8,iR 34 30 (.bin .eql (.t 32) (.t 33)),sj 35 30 34] (.cond (.t 35) (.cq [MR 36 7,MR 37 10,aQ 38 (.lits 1 1 [(.int .i64 0)] [(0,(.t 37))]),aQ 39 (.app (.t 36) (.t 38) 1 8),MR 7 39]) .skip)))))) (.cq [eY 40 .add 13 1,MR 13 40]))))))) (.gh (.zS (.loc 7) 7) (aM [MR 41 7,MR 6 41] .ret)))))))
structure MP (d:Doc) (s:Step) (l:List Int) where
 i:Nat
 k:Nat
 a:List Int
 hi:i<=l.length
 hk:k<=i
 ha:a.length<=i
 h:kz d s 0 l=a++kz d s k (l.drop i)
def an1 (d:Doc) (s:Step) (l:List Int) (q:MP d s l):List (Nat×AV):=
 [(3,.ptr (.loc 3) 1 0 0),(5,.ptr (.loc 5) 2 0 0),(7,.sl (.loc 7) 1 0 q.a.length),(8,.int .i64 q.k),(11,.list (l.map xX)),(12,.int .i64 l.length),(13,.int .i64 q.i)]
def an2 (d:Doc) (s:Step) (l:List Int) (q:MP d s l):List (Lb×Row):=
 [(.loc 3,⟨1,[[.list (d.map Node.iv)]]⟩),(.loc 5,⟨2,[[.str s.name,.int .i64 s.n]]⟩),(.loc 7,⟨1,aB (q.a.map xX)⟩)]
theorem amC (d:Doc) (s:Step):∀(l:List Int) (k:Nat),(kz d s k l).length<=l.length
 |[],_=>by simp[kz]
 |n::r,k=>by
  have h1:=amC d s r k;have h2:=amC d s r (k+1);simp only[kz];split
  ·split
   ·split<;>simp<;>omega
   simp;omega
  simp;omega
def apM {alq alB:Nat} (hF:aw P G alq=some (42,[(none,6)],(ame alB).bare)) (d:Doc) (hd:zn d<=B) (s:Step) (l:List Int) (hl:l.length<=B) (hm:∀n∈l,0<=n/\n<(d.length:Int))
  (hX:∀x∈d,au P G alB [x.av,s.av] (.bool (Ha x.text x.s s.name))) :
  au P G alq [Doc.av d,.list (l.map xX),s.av] (.list ((kz d s 0 l).map xX)):=by
 refine aR hF tM (by simp[ah,AV.an,Doc.av,Step.av]) aad ?_;have zo:B=1073741824:=rfl;unfold ame;simp only[Node.av,Step.av] at hX;simp only[↓aX,mX,seval,Doc.av,Step.av,G_];refine pe (σ:=MP d s l) (λ_=>[.loc 3,.loc 5,.loc 7]) (λ_ _=>false) (an1 d s l) (an2 d s l) (λq=>l.length - q.i) ⟨0,0,[],sf,sf,tM,tM⟩ (λ_=>rfl)
  (λq=>by simp[ah,AV.an,an1]) ?_ ⟨[],?_⟩ ?_
 ·intro q r hr cs bV z hz;simp only[an2,PY,QN,QV] at hr;rcases hr with rfl|rfl|rfl
  ·simp only[bY] at bV;subst bV;simp[ah,AV.an] at hz
  ·simp only[bY] at bV;subst bV;simp[ah,AV.an] at hz
  rw[bU bV] at hz;simp at hz
 ·refine⟨?_,?_,?_,aar,λl _=>⟨id,λ_=>rfl⟩⟩
  ·intro l hf hu;exfalso;apply hu;cases l<;>simp_all[Lb.fresh,ae,Hp.none]
  ·simp[k_,dn,bJ,put,an1]
  simp[tc,dn,ae,dO,bu,bJ,aB,an2]
 rintro⟨i,k,a,hi,hk,ha,h⟩;rw[Cf];simp only[↓aX,mX,seval,an1,an2,cF,bW,G_];by_cases bI:i<l.length
 ·rw[show decide (((i:Nat):Int)<((l.length:Nat):Int))=true by simpa using bI];obtain⟨n0,wq⟩:∃n,l[i]?=some n:=⟨_,rX bI⟩;obtain⟨h0,h1⟩:=hm n0 (PX wq);obtain⟨n,rfl⟩:=Wu h0;obtain⟨x,hx⟩:∃x,d[n]?=some x:=⟨_,rX sf⟩;have hw:IntKind.i64.wrap ((i:Int)+1)=((i+1:Nat):Int):=wrap64 sf sf;have ME:IntKind.i64.wrap ((k:Int)+1)=((k+1:Nat):Int):=wrap64 sf sf;have g_:=an0 (s:=s) (k:=k) (r:=l.drop (i+1)) hx;rw[drop_eq wq] at h;have hr:∀(ρ:Lb->Lb) (xs:List IV),dO ρ ⟨1,aB xs⟩=⟨1,aB xs⟩:=λρ xs=>dy _ _ _;simp only[↓aX,mX,seval,aaX,wq,YN,bT,aej,Qj,Doc.XF hx,Xx,Node.cJ,Node.cs,QJ,G_];refine⟨rfl,jw (hX x (PX hx)) ?_⟩;cases hf:Ha x.text x.s s.name with
  |false=>
   rw[hf,Ev M3] at g_;simp only[↓aX,mX,seval,QI,hw];refine⟨⟨i+1,k,a,sf,sf,sf,by rw[h,g_]⟩,aac,[],?_⟩;refine⟨?_,?_,?_,aar,λl _=>⟨id,λ_=>rfl⟩⟩
   ·intro l hf hu;exfalso;apply hu;cases l<;>simp_all[Lb.fresh,ae,Hp.none]
   ·simp[k_,dn,bJ,put,an1]
   simp only[tc,hr,an2];simp[dn,ae,dO,bu,bJ]
  |true=>
  rw[hf,P8 rfl] at g_;simp only[↓aX,mX,seval,QK,ME];cases e1:(s.n==0) with
  |true=>
   rw[P8 (.inl (by simpa using e1))] at g_;simp only[↓aX,mX,seval];rw[qg 1 8 39 7 (a.map xX) (.int .i64 (n:Int)) aai tM rfl aaw sf M3 M3 aat];simp only[↓aX,mX,seval,hw];refine⟨⟨i+1,k+1,a++[(n:Int)],sf,sf,aak,by rw[h,g_];simp⟩,aac,[(.loc 7,.loc 39)],?_⟩;refine⟨?_,?_,?_,aar,?_⟩
   ·intro l hf hu;exfalso;apply hu;cases l<;>simp_all[Lb.fresh,ae,Hp.none]
   ·simp[k_,dn,bJ,put,an1]
   ·simp only[tc,hr,an2,BG];simp[dn,ae,dO,bu,bJ,lR,xX]
   intro l hl;simp only[PY,QN,QV] at hl;rcases hl with rfl|rfl|rfl
   ·exact⟨λ_=>rfl,λ_=>rfl⟩
   ·exact⟨λ_=>rfl,λ_=>rfl⟩
   exact⟨λ_=>rfl,λh=>by simp[Lb.fresh] at h⟩
  |false=>
  have e1':s.n≠0:=by simpa using e1
  simp only[↓aX,mX,seval];cases e2:(s.n==((k+1:Nat):Int)) with
  |true=>
   rw[P8 (.inr (by simpa using e2))] at g_;simp only[↓aX,mX,seval];rw[qg 1 8 39 7 (a.map xX) (.int .i64 (n:Int)) aai tM rfl aaw sf M3 M3 aat];simp only[↓aX,mX,seval,hw];refine⟨⟨i+1,k+1,a++[(n:Int)],sf,sf,aak,by rw[h,g_];simp⟩,aac,[(.loc 7,.loc 39)],?_⟩;refine⟨?_,?_,?_,aar,?_⟩
   ·intro l hf hu;exfalso;apply hu;cases l<;>simp_all[Lb.fresh,ae,Hp.none]
   ·simp[k_,dn,bJ,put,an1]
   ·simp only[tc,hr,an2,BG];simp[dn,ae,dO,bu,bJ,lR,xX]
   intro l hl;simp only[PY,QN,QV] at hl;rcases hl with rfl|rfl|rfl
   ·exact⟨λ_=>rfl,λ_=>rfl⟩
   ·exact⟨λ_=>rfl,λ_=>rfl⟩
   exact⟨λ_=>rfl,λh=>by simp[Lb.fresh] at h⟩
  |false=>
  have e2':s.n≠((k+1:Nat):Int):=by simpa using e2
  rw[Ev (by simp only[Xd];exact⟨e1',e2'⟩)] at g_;simp only[↓aX,mX,seval,hw];refine⟨⟨i+1,k+1,a,sf,sf,sf,by rw[h,g_]⟩,aac,[],?_⟩;refine⟨?_,?_,?_,aar,λl _=>⟨id,λ_=>rfl⟩⟩
  ·intro l hf hu;exfalso;apply hu;cases l<;>simp_all[Lb.fresh,ae,Hp.none]
  ·simp[k_,dn,bJ,put,an1]
  simp only[tc,hr,an2];simp[dn,ae,dO,bu,bJ]
 have XV:l.drop i=[]:=Wv sf;rw[XV] at h;simp only[kz,SU] at h;rw[show decide (((i:Nat):Int)<((l.length:Nat):Int))=false by simpa using bI];simp only[↓aX,mX,seval];refine⟨1,a.map xX,0,a.length,rfl,rfl,tM,XD _,?_⟩;simp only[↓aX,mX,seval,tn,P5 (show(a.map xX).length<=a.length by simp),h]
end

def abt {t:Tree}:1<=(lW t).length:=by rw[pf];exact t.uE

section
variable {P:Program} {G:Nat->Option (List IV)}
def amv (Vs:Nat):AC:=
(aM [jM 2 false] (.seq (aM [MR 5 0,oy 6 5,gH 7 0] (.block 0 (.loop (aM [et 8 .lss 7 6] (.seq (.cond (.t 8) .skip (.exit 0)) (.seq (.block 1 (aM [jL 9 5 7 2,gz 10 2 9,aQ 4 (.new [(.str []),(.int .i64 0)]),gg (.store 2 (.t 4) (.t 10))] (aM [ep 11 4 0,fm 12 11,aQ 13 (.bin .neq (.t 12) (.c (.str []))),MR 14 13,Wb 15 14 4 0,jm 16 14 15,dW 17 14 (.bin .neq (.t 16) (.c (.str [42]))),jT 18 14 17,MR 19 18,Wb 20 19 4 0,jm 21 19 20,dW 22 19 (.call Vs [(.t 21)]),dW 23 19 (.not (.t 22)),jT 24 19 23,MR 25 24,oH 26 25 4 1,oG 27 25 26,iR 28 25 (.bin .lss (.t 27) (jS 0)),sj 29 25 28,MR 30 29,oH 31 30 4 1,oG 32 30 31,iR 33 30 (.bin .gtr (.t 32) (jS 99)),sj 34 30 33] (.cond (.t 34) (aM [jM 2 false] .ret) .skip)))) (.cq [eY 35 .add 7 1,MR 7 35]))))))) (aM [MR 36 0,oy 37 36,eY 38 .geq 37 1,MR 39 38,cU 40 39 0,dW 41 39 (.len (.t 40)),dW 42 39 (.bin .leq (.t 41) (jS 5)),jT 43 39 42,MR 2 43] .ret)))
def anx {alf Vs:Nat} (hF:aw P G alf=some (44,[(none,2)],(amv Vs).bare)) (l:List Step) (hl:l.length<=B) (hN:∀x∈l,au P G Vs [.str x.name] (.bool (named x.name))) :
  au P G alf [.list (l.map Step.iv)] (.bool (ak6 l)):=by
 refine aR hF tM aae aad ?_;have zo:B=1073741824:=rfl;unfold amv;simp only[↓aX,mX,seval,G_];refine VR (σ:={i:Nat // i<=l.length/\∀x∈l.take i,al1 x=true}) (λq=>[(0,.list (l.map Step.iv)),(5,.list (l.map Step.iv)),(6,.int .i64 l.length),(7,.int .i64 q.1)]) (λq=>l.length - q.1) ⟨0,tM⟩ (λ_=>rfl) ?_ ?_
 ·exact⟨by simp only[↓aX,mX,seval],aah⟩
 rintro⟨i,hi,hs⟩;simp only[↓aX,mX,seval,G_];by_cases bI:i<l.length
 ·rw[show decide ((i:Int)<(l.length:Int))=true by simpa using bI];obtain⟨x,hx⟩:∃x,l[i]?=some x:=⟨_,rX bI⟩;have Md:=PX hx;have hw:IntKind.i64.wrap ((i:Int)+1)=((i+1:Nat):Int):=wrap64 sf sf;have stop:al1 x=false->ak6 l=false:=λh=>by
   unfold ak6;rw[show l.all al1=false from ZT.2 ⟨x,Md,by simp[h]⟩];rfl
  have next:al1 x=true->∀y∈l.take (i+1),al1 y=true:=λh y hy=>by
   rw[Ro,hx] at hy;simp only[Wx,QL,bY] at hy;rcases hy with hy|rfl
   ·exact hs y hy
   exact h
  simp only[↓aX,mX,seval,ap7,hx,aph,bT,Step.cJ,Step.cs];have tail:∀b:Bool,(x.name==[]||(x.name==[42]||named x.name))=b->al1 x=(b&&(decide (0<=x.n)&&decide (x.n<=99))):=λb h=>by unfold al1;rw[h]
  cases h1:(x.name==[]) with
  |true=>
   have ht:=tail true (by rw[h1];rfl);simp only[↓aX,mX,seval,QK];by_cases h4:x.n<0
   ·simp only[↓aX,mX,seval,h4,Ts,stop (by rw[ht,Uy sf];rfl)]
   by_cases h5:99<x.n
   ·simp only[↓aX,mX,seval,h4,XG,Nu,h5,Ts,stop (by rw[ht,Uy (show ¬x.n<=99 by omega),VO];rfl)]
   simp only[↓aX,mX,seval,h4,XG,Nu,h5,hw];exact⟨⟨i+1,bI,next (by rw[ht,VI (show 0<=x.n by omega),VI (show x.n<=99 by omega)];rfl)⟩,aac,rfl⟩
  |false=>
  simp only[↓aX,mX,seval,QI];cases h2:(x.name==[42]) with
  |true=>
   have ht:=tail true (by rw[h1,h2];rfl);simp only[↓aX,mX,seval,QK];by_cases h4:x.n<0
   ·simp only[↓aX,mX,seval,h4,Ts,stop (by rw[ht,Uy sf];rfl)]
   by_cases h5:99<x.n
   ·simp only[↓aX,mX,seval,h4,XG,Nu,h5,Ts,stop (by rw[ht,Uy (show ¬x.n<=99 by omega),VO];rfl)]
   simp only[↓aX,mX,seval,h4,XG,Nu,h5,hw];exact⟨⟨i+1,bI,next (by rw[ht,VI (show 0<=x.n by omega),VI (show x.n<=99 by omega)];rfl)⟩,aac,rfl⟩
  |false=>
  simp only[↓aX,mX,seval,QI];refine ay (hN x Md) ?_;cases h3:named x.name with
  |true=>
   have ht:=tail true (by rw[h1,h2,h3];rfl);simp only[↓aX,mX,seval,QK];by_cases h4:x.n<0
   ·simp only[↓aX,mX,seval,h4,Ts,stop (by rw[ht,Uy sf];rfl)]
   by_cases h5:99<x.n
   ·simp only[↓aX,mX,seval,h4,XG,Nu,h5,Ts,stop (by rw[ht,Uy (show ¬x.n<=99 by omega),VO];rfl)]
   simp only[↓aX,mX,seval,h4,XG,Nu,h5,hw];exact⟨⟨i+1,bI,next (by rw[ht,VI (show 0<=x.n by omega),VI (show x.n<=99 by omega)];rfl)⟩,aac,rfl⟩
  |false=>
  have ht:=tail false (by rw[h1,h2,h3];rfl);simp only[↓aX,mX,seval,QI,stop ht]
 have XV:l.take i=l:=P5 sf;have dN:l.all al1=true:=Rh.2 λx hx=>hs x (by rw[XV];exact hx);rw[show decide ((i:Int)<(l.length:Int))=false by simpa using bI];simp only[↓aX,mX,seval,G_];by_cases h1:1<=l.length
 ·by_cases h2:l.length<=5
  ·simp only[↓aX,mX,seval,show((l.length:Int)>=1) by omega,Ts,G_,show((l.length:Int)<=5) by omega,ak6,dN,h1,h2,YX]
  simp only[↓aX,mX,seval,show((l.length:Int)>=1) by omega,Ts,G_,show ¬((l.length:Int)<=5) by omega,ak6,dN,h1,h2,XG,VO]
 simp only[↓aX,mX,seval,show ¬((l.length:Int)>=1) by omega,XG,ak6,dN,h1,VO,VD]
def api (d:Doc) (l:List Step) (s:Step) (hl:l≠[]):akU d (l++[s])=(akU d l).flatMap λn=>kz d s 0 (al6 d n):=by
 match l,hl with
 |t::r,_=>simp only[List.cons_append,akU,anv]
def anN {d:Doc} (hi:Vo d=true) {l:List Step} (hl:l≠[]):(akU d l).length<=d.length/\∀n∈akU d l,0<=n/\n<(d.length:Int):=by
 obtain⟨t,ht,rfl⟩:=XW.1 hi;rw[anq l hl];constructor
 ·rw[G_];refine U' (List.length_filter_le _ _) ?_;simp
 intro n hn;obtain⟨k,hk,rfl⟩:=pb.1 hn;have:=JG.1 (WO.1 hk).1;omega
def apj {d:Doc} (hi:Vo d=true) {n:Nat} {x:Node} (h:d[n]?=some x):∀k∈x.kids,0<=k/\k<(d.length:Int):=by
 obtain⟨t,ht,rfl⟩:=XW.1 hi;have bI:=(yY.1 h).1;obtain⟨q,y,l,s⟩:=ZR bI;have hn:=l.node;rw[h] at hn;have hk:x.kids=mw (n+1) y.kids:=by simp only[di] at hn;rw[hn];rfl
 intro k FA;rw[hk,<-aaE] at FA;obtain⟨m,hm,rfl⟩:=pb.1 FA;have h1:=am_ _ _ m hm;have h2:=l.len;have h3:=y.n8;omega
def aoZ {α:Type} (f:Int->List α) (l:List Int) (i:Nat):((l.take i).flatMap f).length<=(l.flatMap f).length:=by
 conv=>rhs;rw[<-tO i l,tG,ko]
 omega
def ao0 {α:Type} (f:Int->List α) {l:List Int} {i:Nat} {n:Int} (h:l[i]?=some n):(l.take (i+1)).flatMap f=(l.take i).flatMap f++f n:=by
 rw[Ro,h,tG];simp
noncomputable def ali (d:Doc) (l:List Step):List Int×Int:=if Vo d=true/\ak6 l=true then(akU d l,0) else([],1)
def amf (Vd alf alq:Nat):AC:=
(aM [zzX 2 0,zi 4,gH 5 0] (.seq (aM [gz 12 1 2,aQ 13 (.call Vd [(.t 12)]),sB 14 13,MR 15 14,gV 16 15 1,iR 17 15 (.call alf [(.t 16)]),iR 18 15 (.not (.t 17)),sj 19 15 18] (.cond (.t 19) (aM [zi 4,gH 5 1] .ret) .skip)) (.seq (.VL [gz 20 1 2,aQ 21 (.lits 1 1 [(.int .i64 0)] [(0,(jS 0))]),MR 22 1,aQ 23 (.Vc (.t 22) (jS 0) 2),gz 24 2 23,aQ 25 (.call alq [(.t 20),(.t 21),(.t 24)]),MR 6 25] [[],[],[],[2],[3],[0,1,4],[5,5,0,1,2,3,4,5]] [.rw [.loc 2] [],.no,.no,.no,.no,.no,.no]) (.seq (aM [MR 26 1,aQ 27 (.zr (.t 26) (some (jS 1)) none none 2),oy 28 27,gH 29 0] (.block 0 (.loop (aM [et 30 .lss 29 28] (.seq (.cond (.t 30) .skip (.exit 0)) (.seq (.block 1 (aM [jL 31 27 29 2,gz 32 2 31,aQ 8 (.new [(.str []),(.int .i64 0)]),gg (.store 2 (.t 8) (.t 32))] (aM [zi 9] (.gh (.own 9 1) (.seq (aM [MR 33 6,oy 34 33,gH 35 0] (.block 2 (.loop (aM [et 36 .lss 35 34] (.seq (.cond (.t 36) .skip (.exit 2)) (.seq (.block 3 (aM [jL 37 33 35 1,fm 38 37,MR 11 38] (.VL [MR 39 9,gz 40 1 2,ep 41 2 0,fm 42 41,MR 43 11,jL 44 42 43 5,ep 45 44 4,fm 46 45,gz 47 2 8,aQ 48 (.call alq [(.t 40),(.t 46),(.t 47)]),aQ 49 (.app (.t 39) (.t 48) 1 8),MR 9 49] [[],[],[],[2],[],[3,4],[5],[6],[],[1,7,8],[0,9,9],[10,10,0,1,2,3,4,5,6,7,8,9,10]] [.no,.rw [.loc 2] [],.no,.rw [.loc 2] [],.no,.no,.no,.no,.rw [.loc 8] [],.no,(.rw [] [.loc 9,.loc 49]),.no]))) (.cq [eY 50 .add 35 1,MR 35 50]))))))) (.gh (.zS (.loc 9) 9) (.cq [MR 51 9,MR 6 51]))))))) (.cq [eY 52 .add 29 1,MR 29 52]))))))) (aM [MR 53 6,MR 4 53,gH 5 0] .ret)))))
def apN {alu Vd alf alq:Nat} (hF:aw P G alu=some (54,[(none,4),(none,5)],(amf Vd alf alq).bare)) (d:Doc) (hd:zn d<=B) (l:List Step) (hl:l.length<=B)
  (hG:au P G Vd [Doc.av d] (.bool (Vo d))) (hP:au P G alf [.list (l.map Step.iv)] (.bool (ak6 l)))
  (hC:∀s∈l,∀ks:List Int,ks.length<=B->(∀n∈ks,0<=n/\n<(d.length:Int))->au P G alq [Doc.av d,.list (ks.map xX),s.av] (.list ((kz d s 0 ks).map xX))) :
  au P G alu [Doc.av d,.list (l.map Step.iv)] (.gf [.list ((ali d l).1.map xX),.int .i64 (ali d l).2]):=by
 refine Ws hF tM aa0 aao ?_;have zo:B=1073741824:=rfl;have zR:=XR d;unfold amf;simp only[Doc.av] at hG hC;simp only[↓aX,mX,seval,Doc.av];refine ay hG ?_;cases hi:Vo d with
 |false=>
  have e:ali d l=([],1):=by unfold ali;rw[Ev (by simp[hi])]
  simp only[↓aX,mX,seval,QI,↓h_,e];rfl
 |true=>
 simp only[↓aX,mX,seval,QK];refine ay hP ?_;cases hg:ak6 l with
 |false=>
  have e:ali d l=([],1):=by unfold ali;rw[Ev (by simp[hg])]
  simp only[↓aX,mX,seval,QI,↓h_,e];rfl
 |true=>
 have e:ali d l=(akU d l,0):=by unfold ali;rw[P8 ⟨hi,hg⟩]
 have hlen:1<=l.length:=by unfold ak6 at hg;simp only[QH,dj] at hg;exact hg.2.1
 obtain⟨t,ht,Hq⟩:=XW.1 hi;have Mw:1<=d.length:=by rw[Hq];exact abt
 obtain⟨s0,r,rfl⟩:∃s0 r,l=s0::r:=by cases l with|nil=>simp at hlen|cons a r=>exact⟨a,r,rfl⟩
 have BZ:=hC s0 tM [0] (by simp[zo]) (by intro n hn;simp only[bY] at hn;subst hn;omega);simp only[Rj,Ww,xX,Step.av] at BZ;have ll:=aph (s0::r);simp only[Rj] at ll;simp only[↓aX,mX,seval,QK,Rj,RA,ll,Step.cJ,Step.cs];refine⟨rfl,jw BZ ?_⟩;have arv:((s0.iv::r.map Step.iv).take (s0.iv::r.map Step.iv).length).drop 1=r.map Step.iv:=by rw[Rk];rfl
 simp only[↓aX,mX,seval,Cs,nB,lk,Le,show(1:Int).toNat=1 from rfl,show(0:Int)<=1 by decide,Su,gL,G_,show 1<=r.length+1 by omega,EF,bT,ll,reduceCtorEq,arv];have Vi:∀j,s0::r.take j≠[]:=λj=>by simp
 refine pe (σ:={j:Nat // j<=r.length}) (λ_=>[.loc 2]) (λ_ _=>false)
  (λq=>[(2,.ptr (.loc 2) 1 0 0),(6,.list ((akU d (s0::r.take q.1)).map xX)),(27,.list (r.map Step.iv)),(28,.int .i64 r.length),(29,.int .i64 q.1)])
  (λq=>[(.loc 2,⟨1,[[.list (d.map Node.iv)]]⟩)]) (λq=>r.length - q.1) ⟨0,zd _⟩ (λ_=>rfl) (λq=>by simp[ah,AV.an]) ?_ ⟨[],?_⟩ ?_
 ·intro q w hw cs bV z hz;simp only[bY] at hw;subst hw;simp only[bY] at bV;subst bV;simp[ah,AV.an] at hz
 ·refine⟨?_,?_,?_,aar,λl _=>⟨id,λ_=>rfl⟩⟩
  ·intro l hf hu;exfalso;apply hu;cases l<;>simp_all[Lb.fresh,ae,Hp.none]
  ·simp[k_,dn,bJ,put,akU,ama];exact P5 tM
  simp[tc,dn,ae,dO,bu,bJ]
 rintro⟨j,hj⟩;rw[Cf];obtain⟨HG,hsm⟩:=anN hi (Vi j);simp only[↓aX,mX,seval,cF,bW,G_];by_cases bI:j<r.length
 ·rw[show decide (((j:Nat):Int)<((r.length:Nat):Int))=true by simpa using bI];obtain⟨s,hs⟩:∃s,r[j]?=some s:=⟨_,rX bI⟩;have aqW:s∈s0::r:=Nk _ (PX hs);have hw:IntKind.i64.wrap ((j:Int)+1)=((j+1:Nat):Int):=wrap64 sf (by simp only[gL] at hl;omega);have gr:akU d (s0::r.take (j+1))=(akU d (s0::r.take j)).flatMap λn=>kz d s 0 (al6 d n):=by
   rw[Ro,hs,<-api d _ s (Vi j)];rfl
  have ve:=(anN hi (Vi (j+1))).1;rw[gr] at ve;simp only[↓aX,mX,seval,ap7,hs,aph,bT,Step.cJ,Step.cs,G_];refine pe (σ:={i:Nat // i<=(akU d (s0::r.take j)).length}) (λ_=>[.loc 2,.loc 8,.loc 9]) (λ_ _=>false)
   (λq=>[(2,.ptr (.loc 2) 1 0 0),(27,.list (r.map Step.iv)),(28,.int .i64 r.length),(29,.int .i64 j),(8,.ptr (.loc 8) 2 0 0),
    (9,.sl (.loc 9) 1 0 (((akU d (s0::r.take j)).take q.1).flatMap λn=>kz d s 0 (al6 d n)).length),(33,.list ((akU d (s0::r.take j)).map xX)),(34,.int .i64 (akU d (s0::r.take j)).length),(35,.int .i64 q.1)])
   (λq=>[(.loc 2,⟨1,[[.list (d.map Node.iv)]]⟩),(.loc 8,⟨2,[[.str s.name,.int .i64 s.n]]⟩),(.loc 9,⟨1,aB ((((akU d (s0::r.take j)).take q.1).flatMap λn=>kz d s 0 (al6 d n)).map xX)⟩)])
   (λq=>(akU d (s0::r.take j)).length - q.1) ⟨0,zd _⟩ (λ_=>rfl) (λq=>by simp[ah,AV.an]) ?_ ⟨[],?_⟩ ?_
  ·intro q w hw cs bV z hz;simp only[PY,QN,QV] at hw;rcases hw with rfl|rfl|rfl
   ·simp only[bY] at bV;subst bV;simp[ah,AV.an] at hz
   ·simp only[bY] at bV;subst bV;simp[ah,AV.an] at hz
   rw[bU bV] at hz;simp at hz
  ·refine⟨?_,?_,?_,aar,λl _=>⟨id,λ_=>rfl⟩⟩
   ·intro l hf hu;exfalso;apply hu;cases l<;>simp_all[Lb.fresh,ae,Hp.none]
   ·simp[k_,dn,bJ,put]
   simp[tc,dn,ae,dO,bu,bJ,aB]
  rintro⟨i,A2⟩;rw[Cf];have E0:=aoZ (λn=>kz d s 0 (al6 d n)) (akU d (s0::r.take j)) i;simp only[↓aX,mX,seval,cF,bW,G_];by_cases iG:i<(akU d (s0::r.take j)).length
  ·rw[show decide (((i:Nat):Int)<(((akU d (s0::r.take j)).length:Nat):Int))=true by simpa using iG];obtain⟨n0,wq⟩:∃n,(akU d (s0::r.take j))[i]?=some n:=⟨_,rX iG⟩;obtain⟨h0,h1⟩:=hsm n0 (PX wq);obtain⟨n,rfl⟩:=Wu h0;obtain⟨x,hx⟩:∃x,d[n]?=some x:=⟨_,rX sf⟩;have hxw:=Y2 (PX hx);simp only[Node.wt] at hxw;have hcx:=hC s aqW x.kids sf (apj hi hx);simp only[Step.av] at hcx;have K2:al6 d (n:Int)=x.kids:=(by simp only[al6,Qj,hx]);have qT:=amC d s x.kids 0;have mV:=ao0 (λn=>kz d s 0 (al6 d n)) wq;simp only[K2] at mV;have E9:IntKind.i64.wrap ((i:Int)+1)=((i+1:Nat):Int):=wrap64 sf sf;have hr:∀(ρ:Lb->Lb) (xs:List IV),dO ρ ⟨1,aB xs⟩=⟨1,aB xs⟩:=λρ xs=>dy _ _ _;simp only[↓aX,mX,seval,aaX,wq,YN,bT,aej,Qj,Doc.XF hx,Xx,Node.cJ,Node.cs,QJ,G_];refine⟨rfl,jw hcx ?_⟩;simp only[↓aX,mX,seval];rw[ym 1 8 49 9 ((((akU d (s0::r.take j)).take i).flatMap λn=>kz d s 0 (al6 d n)).map xX) ((kz d s 0 x.kids).map xX) aai tM (YN _) (XD _)
    (by rw[G_];omega) M3 M3 aat]
   simp only[↓aX,mX,seval,E9];refine⟨by rintro l (rfl|rfl)<;>simp[Lb.iQ],⟨i+1,sf⟩,aac,[(.loc 9,.loc 49)],?_⟩;refine⟨?_,?_,?_,aar,?_⟩
   ·intro l hf hu;exfalso;apply hu;cases l<;>simp_all[Lb.fresh,ae,Hp.none]
   ·simp only[mV];simp[k_,dn,bJ,put]
   ·simp only[tc,hr,mV,BG];simp[dn,ae,dO,bu,bJ]
   intro l hl;simp only[PY,QN,QV] at hl;rcases hl with rfl|rfl|rfl
   ·exact⟨λ_=>rfl,λ_=>rfl⟩
   ·exact⟨λ_=>rfl,λ_=>rfl⟩
   exact⟨λ_=>rfl,λh=>by simp[Lb.fresh] at h⟩
  have XV:(akU d (s0::r.take j)).take i=akU d (s0::r.take j):=P5 sf;rw[show decide (((i:Nat):Int)<(((akU d (s0::r.take j)).length:Nat):Int))=false by simpa using iG];rw[XV,<-gr];simp only[↓aX,mX,seval];refine⟨1,(akU d (s0::r.take (j+1))).map xX,0,(akU d (s0::r.take (j+1))).length,rfl,rfl,tM,XD _,?_⟩;simp only[↓aX,mX,seval,tn,P5 (show((akU d (s0::r.take (j+1))).map xX).length<=(akU d (s0::r.take (j+1))).length by simp),hw];refine⟨⟨j+1,sf⟩,aac,[],?_⟩;refine⟨?_,?_,?_,aar,λl _=>⟨id,λ_=>rfl⟩⟩
  ·intro l hf hu;exfalso;apply hu;cases l<;>simp_all[Lb.fresh,ae,Hp.none]
  ·simp[k_,dn,bJ,put]
  simp[tc,dn,ae,dO,bu,bJ]
 have zk:r.take j=r:=P5 sf;rw[show decide (((j:Nat):Int)<((r.length:Nat):Int))=false by simpa using bI,zk];simp only[↓aX,mX,seval,↓h_,e];simp[norm,fi]
end

section
variable {S:St} {env:Env} {H:Hp}
def aH.R7 {K:Kx} {β:Lb->Option Nat} {a:Act} {w:World} (hr:aH K β env H a w) {l:Lb} {sz:Nat} {els QX:List (List AV)} (hl:H l= .live ⟨sz,els⟩) (g:Nat) (hb:β l=some g)
   (hlen:∀cur e cap,w.heap[g]?=some (.cells cur e (0,0))->cur.size=cap*sz->els.length<=cap->QX.length<=cap) (bV:∀cs∈QX,cs.length=sz) (hm:∀cs∈QX,∀q∈ah cs,H q≠ .unused)
   (hc:∀(i j:Nat) cs x,QX[i]?=some cs->cs[j]?=some x->x= .any\/∃wy,els[i]?=some wy/\wy[j]?=some x):aH K β env (bD H l (.live ⟨sz,QX⟩)) a w:=by
 obtain⟨cur,e0,cap,k1,k2,k3,k4,k5⟩:=(hr.rows l _ hl).block hb
 have vf:=hr.setRow l (r':=⟨sz,QX⟩) (cur':=cur) (cap:=cap) hl hb k1 rfl rfl k2 k3 (hlen cur e0 cap k1 k2 k4) bV hm (by
   intro i j cs x hi hj
   rcases hc i j cs x hi hj with rfl|⟨wy,h1,h2⟩
   · have CQ:j<sz:=by
       have:=bV cs (PX hi)
       have:=(yY.1 hj).1
       omega
     have XV:i<QX.length:=(yY.1 hi).1
     have zD:=hlen cur e0 cap k1 k2 k4
     have:i*sz+j<cur.size:=by
       rw[k2]
       have:=Ri sz (show i+1<=cap by omega)
       rw[Sv] at this
       simp only at this ⊢
       omega
     exact⟨cur[i*sz+j],ff this,aaG⟩
   exact k5 i j wy x h1 h2)
 rw[setRow_self w g cur e0 (0,0) k1] at vf
 exact vf
def RB {l:Lb} {r:Row} (h:H l= .live r):bD H l (.live r)=H:=by
 funext q;by_cases e:q=l
 ·subst e;simp[h]
 rw[aq _ _ e]
def Z8 {d:Nat} {l:Lb} {sz n:Nat} {els:List (List AV)} (hd:env d= .sl l sz 0 n) (hl:H l= .live ⟨sz,els⟩) :
  Choice S env H {c:Nat // n<=c/\c<=maxLen} (λc=>put env d (.slk l sz 0 n c.1)) (λc=>bD H l (.live ⟨sz,els++List.replicate (c.1 - els.length) (List.replicate sz .any)⟩)):=by
 intro K β a w hS hf hr;have hv:=hr.N8 d;rw[hd] at hv;simp only[RV] at hv;obtain⟨ad,c,h1,h2,h3,h4,h5⟩:=hv;have gm:0<sz:=(hr.rows l _ hl).1;refine⟨⟨c,h2,h3⟩,β,?_⟩;have pT:aH K β env (bD H l (.live ⟨sz,els++List.replicate (c - els.length) (List.replicate sz .any)⟩)) a w:=by
  rcases h5 ⟨_,hl⟩ with h6|⟨g,Sz,g1,g2,g3,g4⟩
  ·subst h6;simp only[Nat.zero_sub,ZF,SU];rw[RB hl];exact hr
  refine hr.R7 hl g g1 ?_ ?_ ?_ ?_
  ·intro cur e cap k1 k2 k4;have hS:cur.size=Sz:=by
    unfold jl at g3;simp only[k1] at g3;simpa using g3
   have:(0+c)*sz=cap*sz:=(by rw[g4,<-hS,k2]);have:=YK gm this;simp;omega
  ·intro cs bV;rcases QL.1 bV with h|h
   ·exact(hr.rows l _ hl).2.1 cs h
   rw[BI h];simp
  ·intro cs bV q hq;rcases QL.1 bV with h|h
   ·exact hr.cH l _ hl cs h q hq
   rw[BI h] at hq;have:∀m:Nat,ah (List.replicate m AV.any)=[]:=by
    intro m;induction m with
    |zero=>rfl
    |succ m ih=>simp[Yw,ah,AV.an,ih]
   rw[this] at hq;simp at hq
  intro i j cs x hi hj;by_cases h:i<els.length
  ·rw[bB h] at hi;exact .inr ⟨cs,hi,hj⟩
  rw[b_ sf,JE] at hi;split at hi
  ·simp only[di] at hi;subst hi;rw[JE] at hj;split at hj
   ·simp only[di] at hj;exact .inl hj.symm
   simp at hj
  simp at hi
 refine um pT d ?_ aad;simp only[RV];refine⟨ad,h1,h2,h3,?_,λ_=>h5 ⟨_,hl⟩⟩;intro hc;rcases h5 ⟨_,hl⟩ with h6|⟨g,Sz,g1,g2,g3,g4⟩
 ·omega
 rw[g2];rfl
def Qr {l:Lb} {sz:Nat} {els:List (List AV)} (k:Nat) (hl:H l= .live ⟨sz,els⟩):nQ S env H env (bD H l (.live ⟨sz,els.take k⟩)):=by
 intro K β a w hS hf hr;cases hb:β l with
 |none=>
  have:=(hr.rows l _ hl).2.2;simp only[hb] at this;subst this;simp only[List.take_nil];rw[RB hl];exact⟨β,hr⟩
 |some g=>
 refine⟨β,hr.R7 hl g hb ?_ ?_ ?_ ?_⟩
 ·intro cur e cap k1 k2 k4;rw[tp];omega
 ·exactλcs bV=>(hr.rows l _ hl).2.1 cs (ec bV)
 ·exactλcs bV=>hr.cH l _ hl cs (ec bV)
 intro i j cs x hi hj;rw[Rd] at hi;split at hi
 ·exact .inr ⟨cs,hi,hj⟩
 simp at hi
end

def Eg {S:St} {f:Nat} {fn:Func} {e:Array Value→Sem Value} {args:List AV} {H:Hp} {res:AV} (hf:S.P.funcs[f]?=some fn) (yA:(fn.name== "runtime.NumGoroutine")=false) (hb:fn.body.isNone=true)
  (hn:Extern.findNext fn=none) (he:Extern.find fn=some e) (hr:∀(w:World) (β:Lb->Option Nat) (I:Nat->Prop) (vs:List Value),br w β H I args vs->∃v,(e vs.toArray).run S.P w= .ok v w/\RV w β H I res v) (hl:res.an=[]) :
  sZ S f args H res:=by
 intro K β env a w vs hS ju hv;subst hS;obtain⟨v,h1,h2⟩:=hr w β _ vs hv;refine⟨v,w,?_,Below.refl _ _,h2,by simp[hl]⟩;rw[run_callFunc_extern hf yA hb hn he,h1];rfl
def Jk {w:World} {β:Lb->Option Nat} {H:Hp} {I:Nat->Prop} {x y:AV} {vs:List Value} (h:br w β H I [x,y] vs):∃u v,vs=[u,v]/\RV w β H I x u/\RV w β H I y v:=by
 match vs,h with
 |[u,v],h=>
  simp only[br] at h;obtain⟨_,_,h0,h1,_,_,h2,h3,h4⟩:=h;cases h0;cases h2;cases h4;exact⟨u,v,rfl,h1,h3⟩
def RN {S:St} {f:Nat} {fn:Func} (hf:S.P.funcs[f]?=some fn) (yA:(fn.name== "runtime.NumGoroutine")=false) (hb:fn.body.isNone=true)
  (hn:Extern.findNext fn=none) (he:Extern.find fn=some Extern.BytealgIndexByte.indexByte) (s:Bs) (c:UInt8) (H:Hp):sZ S f [.str s,.int .u8 (c.toNat:Int)] H (.int .i64 (Lib.indexByte s c)):=by
 refine Eg hf yA hb hn he (λw β I vs hv=> ?_) rfl;obtain⟨u,v,rfl,h1,h2⟩:=Jk hv;simp only[RV] at h1 h2;subst h1;subst h2;exact⟨_,Lib.run_indexByteString _ _ _,aaG⟩
def ao1 {S:St} {f:Nat} {fn:Func} (hf:S.P.funcs[f]?=some fn) (yA:(fn.name== "runtime.NumGoroutine")=false) (hb:fn.body.isNone=true)
  (hn:Extern.findNext fn=none) (he:Extern.find fn=some Extern.BytealgCount.count) (s:Bs) (c:UInt8) (H:Hp):sZ S f [.str s,.int .u8 (c.toNat:Int)] H (.int .i64 ((s.count c:Nat):Int)):=by
 refine Eg hf yA hb hn he (λw β I vs hv=> ?_) rfl;obtain⟨u,v,rfl,h1,h2⟩:=Jk hv;simp only[RV] at h1 h2;subst h1;subst h2;exact⟨_,Lib.run_countString _ _ _,by simp[RV,Lib.countByte]⟩
def rN {S:St} {f:Nat} {fn:Func} (hf:S.P.funcs[f]?=some fn) (yA:(fn.name== "runtime.NumGoroutine")=false) (hb:fn.body.isNone=true)
  (hn:Extern.findNext fn=none) (he:Extern.find fn=some Extern.BytealgCompare.compare) (s t:Bs) (H:Hp):sZ S f [.str s,.str t] H (.int .i64 (Lib.compareBytes s t)):=by
 refine Eg hf yA hb hn he (λw β I vs hv=> ?_) rfl;obtain⟨u,v,rfl,h1,h2⟩:=Jk hv;simp only[RV] at h1 h2;subst h1;subst h2;exact⟨_,Lib.run_compareString _ _ _,aaG⟩
def Z_ (c:UInt8):Bs->List Bs
 |[]=>[[]]
 |b::r=>if b=c then []::Z_ c r else match Z_ c r with
  |w::ws=>(b::w)::ws
  |[]=>[[b]]
theorem pC (c:UInt8):∀s:Bs,(Lib.indexByte s c= -1/\s.count c=0/\Z_ c s=[s]) \/
  ∃m:Nat,Lib.indexByte s c=(m:Int)/\m<s.length/\s.count c=(s.drop (m+1)).count c+1/\Z_ c s=s.take m::Z_ c (s.drop (m+1))
 |[]=> .inl ⟨rfl,rfl,rfl⟩
 |b::r=>by
  by_cases h:b=c
  ·subst h;refine .inr ⟨0,?_,tM,tM,?_⟩
   ·unfold Lib.indexByte;simp
   simp[Z_]
  have hb:(b==c)=false:=by simpa using h
  rcases pC c r with⟨h1,h2,h3⟩|⟨m,h1,h2,h3,h4⟩
  ·refine .inl ⟨?_,?_,?_⟩
   ·unfold Lib.indexByte;rw[hb,h1];rfl
   ·rw[List.count_cons,h2,hb];rfl
   simp[Z_,h,h3]
  refine .inr ⟨m+1,?_,aak,?_,?_⟩
  ·unfold Lib.indexByte;rw[hb,h1];have:((m:Int)== -1)=false:=(by rw[SV];omega);rw[this];simp
  ·rw[List.count_cons,hb];simpa using h3
  simp[Z_,h,h4]
theorem amN (c:UInt8):∀(n:Nat) (s:Bs),s.count c=n->(Z_ c s).length=n+1
 |0,s,h=>by
  rcases pC c s with⟨_,_,h3⟩|⟨m,_,_,h3,_⟩
  ·rw[h3];rfl
  omega
 |n+1,s,h=>by
  rcases pC c s with⟨_,h2,_⟩|⟨m,_,_,h3,h4⟩
  ·omega
  rw[h4,gL,amN c n _ sf]
def yB (c s:Bs):(decide (c.length<=s.length)&&s.take c.length==c)=c.isPrefixOf s:=by
 rw[SZ];simp only[QH,dj,S',EJ];constructor
 ·rintro⟨_,h⟩;have:=tO c.length s;rw[h] at this;exact⟨s.drop c.length,this⟩
 rintro⟨t,rfl⟩;simp
section
variable {P:Program} {G:Nat->Option (List IV)}
def Nd (M5:Nat):AC:=
(aM [gH 4 0] (aM [MR 5 0,MR 6 1,aQ 7 (.kE M5 [(.t 5),(.t 6)]),MR 4 7] .ret))
def Q0 {MU M5:Nat} (hF:aw P G MU=some (8,[(none,4)],(Nd M5).bare))
  (hX:∀(N:Nat) (s:Bs) (c:UInt8) (H:Hp),sZ ⟨P,G,N⟩ M5 [.str s,.int .u8 (c.toNat:Int)] H (.int .i64 (Lib.indexByte s c))) (s:Bs) (c:UInt8) :
  au P G MU [.str s,.int .u8 (c.toNat:Int)] (.int .i64 (Lib.indexByte s c)):=by
 refine aR hF tM aae aad ?_;unfold Nd;simp only[↓aX,mX,seval];refine DZ (hX _ _ _ _) ?_;simp only[↓aX,mX,seval]
def alj (MU ak4 alr akZ:Nat):AC:=
(aM [gH 4 0] (aM [MR 14 1,oF 15 14,MR 5 15] (.seq (.block 0 (aM [MR 17 5,eY 18 .eql 17 0,MR 19 18,gV 20 19 1,gV 21 19 0,iR 22 19 (.bin .eql (.t 20) (.t 21)),sj 23 19 22,MR 16 23] (.cond (.t 16) (aM [gH 4 0] .ret) (aM [MR 25 5,eY 26 .eql 25 1,MR 24 26] (.cond (.t 24) (aM [MR 27 0,MR 28 1,aQ 29 (.lj (.t 28) (jS 0)),aQ 30 (.call MU [(.t 27),(.t 29)]),MR 4 30] .ret) (aM [MR 32 5,MR 33 0,oF 34 33,et 35 .geq 32 34,MR 31 35] (.cond (.t 31) (aM [aQ 4 (.iC (.c (.int .i64 (-1))))] .ret) (aM [MR 37 5,aQ 38 (.stuck),et 39 .leq 37 38,MR 40 39,cU 41 40 0,dW 42 40 (.lens (.t 41)),dW 43 40 (.bin .leq (.t 42) (jS 64)),jT 44 40 43,MR 36 44] (.cond (.t 36) (aM [MR 45 0,MR 46 1,aQ 47 (.kE ak4 [(.t 45),(.t 46)]),MR 4 47] .ret) .skip))))))))) (aM [MR 48 1,aQ 49 (.lj (.t 48) (jS 0)),MR 6 49] (aM [MR 50 1,aQ 51 (.lj (.t 50) (jS 1)),MR 7 51] (aM [gH 8 0] (aM [MR 52 0,oF 53 52,MR 54 5,et 55 .sub 53 54,eY 56 .add 55 1,MR 9 56] (aM [gH 10 0] (.seq (.block 1 (.loop (.seq (aM [MR 57 8,MR 58 9,et 59 .lss 57 58] (.cond (.t 59) .skip (.exit 1))) (.block 2 (.seq (aM [MR 60 0,MR 61 8,aQ 62 (.lj (.t 60) (.t 61)),MR 63 6,et 64 .neq 62 63] (.cond (.t 64) (aM [MR 65 0,MR 66 8,eY 67 .add 66 1,MR 68 9,aQ 69 (.ZL (.t 65) (some (.t 67)) (some (.t 68))),MR 70 6,aQ 71 (.call MU [(.t 69),(.t 70)]),MR 11 71] (.seq (aM [MR 72 11,eY 73 .lss 72 0] (.cond (.t 73) (aM [aQ 4 (.iC (.c (.int .i64 (-1))))] .ret) .skip)) (.cq [MR 74 8,MR 75 11,eY 76 .add 75 1,et 77 .add 74 76,MR 8 77]))) .skip)) (.seq (aM [MR 78 0,MR 79 8,eY 80 .add 79 1,aQ 81 (.lj (.t 78) (.t 80)),MR 82 7,et 83 .eql 81 82,MR 84 83,cU 85 84 0,cU 86 84 8,cU 87 84 8,cU 88 84 5,dW 89 84 (.bin .add (.t 87) (.t 88)),dW 90 84 (.ZL (.t 85) (some (.t 86)) (some (.t 89))),cU 91 84 1,dW 92 84 (.bin .eql (.t 90) (.t 91)),jT 93 84 92] (.cond (.t 93) (aM [MR 94 8,MR 4 94] .ret) .skip)) (aM [MR 95 8,eY 96 .add 95 1,MR 8 96] (aM [MR 97 10,eY 98 .add 97 1,MR 10 98] (aM [MR 99 5,aQ 100 (.stuck),et 101 .leq 99 100,MR 102 101,cU 103 102 10,cU 104 102 8,dW 105 102 (.call alr [(.t 104)]),dW 106 102 (.bin .gtr (.t 103) (.t 105)),jT 107 102 106] (.cond (.t 107) (aM [MR 108 0,MR 109 8,aQ 110 (.ZL (.t 108) (some (.t 109)) none),MR 111 1,aQ 112 (.kE ak4 [(.t 110),(.t 111)]),MR 12 112] (.seq (aM [MR 113 12,eY 114 .geq 113 0] (.cond (.t 114) (aM [MR 115 12,MR 116 8,et 117 .add 115 116,MR 4 117] .ret) .skip)) (aM [aQ 4 (.iC (.c (.int .i64 (-1))))] .ret))) (aM [MR 118 5,aQ 119 (.stuck),et 120 .gtr 118 119,MR 121 120,cU 122 121 10,cU 123 121 8,dW 124 121 (.bin .shr (.t 123) (.c (.int .u64 4))),dW 125 121 (.bin .add (jS 4) (.t 124)),dW 126 121 (.bin .geq (.t 122) (.t 125)),jT 127 121 126,MR 128 127,cU 129 128 8,cU 130 128 9,dW 131 128 (.bin .lss (.t 129) (.t 130)),jT 132 128 131] (.cond (.t 132) (aM [MR 133 0,MR 134 8,aQ 135 (.ZL (.t 133) (some (.t 134)) none),MR 136 1,aQ 137 (.call akZ [(.t 135),(.t 136)]),MR 13 137] (.seq (aM [MR 138 13,eY 139 .lss 138 0] (.cond (.t 139) (aM [aQ 4 (.iC (.c (.int .i64 (-1))))] .ret) .skip)) (aM [MR 140 8,MR 141 13,et 142 .add 140 141,MR 4 142] .ret))) .skip)))))))))))) (aM [aQ 4 (.iC (.c (.int .i64 (-1))))] .ret))))))))))
def apk {sO MU ak4 alr akZ:Nat} (hF:aw P G sO=some (143,[(none,4)],(alj MU ak4 alr akZ).bare))
  (hX:∀(s:Bs) (c:UInt8),au P G MU [.str s,.int .u8 (c.toNat:Int)] (.int .i64 (Lib.indexByte s c))) (s:Bs) (c:UInt8) :
  au P G sO [.str s,.str [c]] (.int .i64 (Lib.indexByte s c)):=by
 refine aR hF tM aae aad ?_;unfold alj;simp only[↓aX,mX,seval,gL,Rm,show(((1:Nat):Int)==0)=false from rfl];cases h:(([c]:Bs)==s) with
 |true=>
  have:s=[c]:=by simpa using(eq_comm.1 (eq_of_beq h))
  subst this;have:Lib.indexByte [c] c=0:=by unfold Lib.indexByte;simp
  simp only[↓aX,mX,seval,this]
 |false=>
 simp only[↓aX,mX,seval,show(((1:Nat):Int)==1)=true from rfl,RA];refine ay (hX s c) ?_;simp only[↓aX,mX,seval]
def al2 (sO:Nat):AC:=
(aM [gH 4 0] (aM [MR 5 0,MR 6 1,aQ 7 (.call sO [(.t 5),(.t 6)]),MR 4 7] .ret))
def aqg {NY sO:Nat} (hF:aw P G NY=some (8,[(none,4)],(al2 sO).bare)) (s:Bs) (c:UInt8)
  (hX:au P G sO [.str s,.str [c]] (.int .i64 (Lib.indexByte s c))):au P G NY [.str s,.str [c]] (.int .i64 (Lib.indexByte s c)):=by
 refine aR hF tM aae aad ?_;unfold al2;simp only[↓aX,mX,seval];refine ay hX ?_;simp only[↓aX,mX,seval]
def al3 (ald ak5 NY:Nat):AC:=
(aM [gH 4 0] (.seq (aM [MR 7 1,oF 8 7,eY 9 .eql 8 0] (.cond (.t 9) (aM [MR 10 0,aQ 11 (.call ald [(.t 10)]),eY 12 .add 11 1,MR 4 12] .ret) .skip)) (.seq (aM [MR 13 1,oF 14 13,eY 15 .eql 14 1] (.cond (.t 15) (aM [MR 16 0,MR 17 1,aQ 18 (.lj (.t 17) (jS 0)),aQ 19 (.kE ak5 [(.t 16),(.t 18)]),MR 4 19] .ret) .skip)) (aM [gH 5 0] (.block 0 (.loop (.block 1 (aM [MR 20 0,MR 21 1,aQ 22 (.call NY [(.t 20),(.t 21)]),MR 6 22] (.seq (aM [MR 23 6,aQ 24 (.bin .eql (.t 23) (.c (.int .i64 (-1))))] (.cond (.t 24) (aM [MR 25 5,MR 4 25] .ret) .skip)) (aM [MR 26 5,eY 27 .add 26 1,MR 5 27] (.cq [MR 28 0,MR 29 6,MR 30 1,oF 31 30,et 32 .add 29 31,aQ 33 (.ZL (.t 28) (some (.t 32)) none),MR 0 33])))))))))))
def aqh {alk ald ak5 NY:Nat} (hF:aw P G alk=some (34,[(none,4)],(al3 ald ak5 NY).bare)) (s:Bs) (c:UInt8)
  (hX:∀(N:Nat) (H:Hp),sZ ⟨P,G,N⟩ ak5 [.str s,.int .u8 (c.toNat:Int)] H (.int .i64 ((s.count c:Nat):Int))) :
  au P G alk [.str s,.str [c]] (.int .i64 ((s.count c:Nat):Int)):=by
 refine aR hF tM aae aad ?_;unfold al3;simp only[↓aX,mX,seval,gL,Rm,show(((1:Nat):Int)==0)=false from rfl,show(((1:Nat):Int)==1)=true from rfl,RA];refine DZ (hX _ _) ?_;simp only[↓aX,mX,seval]
def cy:AC:=
(aM [jM 4 false] (aM [MR 5 0,oF 6 5,MR 7 1,oF 8 7,et 9 .geq 6 8,MR 10 9,cU 11 10 0,cU 12 10 1,dW 13 10 (.lens (.t 12)),dW 14 10 (.ZL (.t 11) none (some (.t 13))),cU 15 10 1,dW 16 10 (.bin .eql (.t 14) (.t 15)),jT 17 10 16,MR 4 17] .ret))
def anb {ax:Nat} (hF:aw P G ax=some (18,[(none,4)],cy.bare)) (s t:Bs):au P G ax [.str s,.str t] (.bool (t.isPrefixOf s)):=by
 refine aR hF tM aae aad ?_;unfold cy;rw[<-yB];simp only[↓aX,mX,seval];by_cases h:t.length<=s.length
 ·rw[show decide (((s.length:Nat):Int)>=((t.length:Nat):Int))=true by simpa using h,VI h];simp only[↓aX,mX,seval,lk,QJ,Qj,Su,h]
 rw[show decide (((s.length:Nat):Int)>=((t.length:Nat):Int))=false by simpa using h,Uy h];simp only[↓aX,mX,seval,VD]
def cz (ax:Nat):AC:=
(aM [aQ 4 (.iC (.c (.str []))),jM 5 false] (.seq (aM [MR 6 0,MR 7 1,aQ 8 (.call ax [(.t 6),(.t 7)]),sB 9 8] (.cond (.t 9) (aM [MR 10 0,MR 4 10,jM 5 false] .ret) .skip)) (aM [MR 11 0,MR 12 1,oF 13 12,aQ 14 (.ZL (.t 11) (some (.t 13)) none),MR 4 14,jM 5 true] .ret)))
def qu {aY ax:Nat} (hF:aw P G aY=some (15,[(none,4),(none,5)],(cz ax).bare)) (s t:Bs)
  (hX:au P G ax [.str s,.str t] (.bool (t.isPrefixOf s))) :
  au P G aY [.str s,.str t] (.gf [.str (if t.isPrefixOf s then s.drop t.length else s),.bool (t.isPrefixOf s)]):=by
 refine aR hF tM aae aao ?_;unfold cz;simp only[↓aX,mX,seval];refine ay hX ?_;cases h:t.isPrefixOf s with
 |false=>simp only[↓aX,mX,seval,QI,↓h_]
 |true=>
 have:t.length<=s.length:=by rw[EJ] at h;exact h.length_le
 simp only[↓aX,mX,seval,QK,lk,QJ,Qj,Su,this,Rk,↓h_]
def eT (aY:Nat):AC:=
(aM [aQ 4 (.iC (.c (.str []))),jM 5 false] (aM [MR 6 0,MR 7 1,aQ 8 (.call aY [(.t 6),(.t 7)]),ox 9 8 0,ox 10 8 1,MR 4 9,MR 5 10] .ret))
def tu {bZ aY:Nat} (hF:aw P G bZ=some (11,[(none,4),(none,5)],(eT aY).bare)) (s t:Bs)
  (hX:au P G aY [.str s,.str t] (.gf [.str (if t.isPrefixOf s then s.drop t.length else s),.bool (t.isPrefixOf s)])) :
  au P G bZ [.str s,.str t] (.gf [.str (if t.isPrefixOf s then s.drop t.length else s),.bool (t.isPrefixOf s)]):=by
 refine aR hF tM aae aao ?_;unfold eT;simp only[↓aX,mX,seval];refine ay hX ?_;simp only[↓aX,mX,seval,↓h_]
def Sc (c s:Bs):(decide (c.length<=s.length)&&s.drop (s.length - c.length)==c)=c.isSuffixOf s:=by
 rw[SZ];simp only[QH,dj,S',Xf];constructor
 ·rintro⟨_,h⟩;have:=tO (s.length - c.length) s;rw[h] at this;exact⟨_,this⟩
 rintro⟨t,rfl⟩;simp
def Nf:AC:=
(aM [jM 4 false] (aM [MR 5 0,oF 6 5,MR 7 1,oF 8 7,et 9 .geq 6 8,MR 10 9,cU 11 10 0,cU 12 10 0,dW 13 10 (.lens (.t 12)),cU 14 10 1,dW 15 10 (.lens (.t 14)),dW 16 10 (.bin .sub (.t 13) (.t 15)),dW 17 10 (.ZL (.t 11) (some (.t 16)) none),cU 18 10 1,dW 19 10 (.bin .eql (.t 17) (.t 18)),jT 20 10 19,MR 4 20] .ret))
def Q1 {MV:Nat} (hF:aw P G MV=some (21,[(none,4)],Nf.bare)) (s t:Bs) (hs:s.length<=B) (ht:t.length<=B):au P G MV [.str s,.str t] (.bool (t.isSuffixOf s)):=by
 refine aR hF tM aae aad ?_;unfold Nf;rw[<-Sc];simp only[↓aX,mX,seval];by_cases h:t.length<=s.length
 ·have hw:IntKind.i64.wrap ((s.length:Int) - (t.length:Int))=((s.length - t.length:Nat):Int):=by rw[wrap64 (by unfold B at hs ht;omega) (by unfold B at hs ht;omega)];omega
  rw[show decide (((s.length:Nat):Int)>=((t.length:Nat):Int))=true by simpa using h,VI h];simp only[↓aX,mX,seval,hw,lk,QJ,Qj,Su,show s.length - t.length<=s.length by omega,Rk]
 rw[show decide (((s.length:Nat):Int)>=((t.length:Nat):Int))=false by simpa using h,Uy h];simp only[↓aX,mX,seval,VD]
def Ng (MV:Nat):AC:=
(aM [aQ 4 (.iC (.c (.str []))),jM 5 false] (.seq (aM [MR 6 0,MR 7 1,aQ 8 (.call MV [(.t 6),(.t 7)]),sB 9 8] (.cond (.t 9) (aM [MR 10 0,MR 4 10,jM 5 false] .ret) .skip)) (aM [MR 11 0,MR 12 0,oF 13 12,MR 14 1,oF 15 14,et 16 .sub 13 15,aQ 17 (.ZL (.t 11) none (some (.t 16))),MR 4 17,jM 5 true] .ret)))
def Qe {MW MV:Nat} (hF:aw P G MW=some (18,[(none,4),(none,5)],(Ng MV).bare)) (s t:Bs) (hs:s.length<=B) (ht:t.length<=B)
  (hX:au P G MV [.str s,.str t] (.bool (t.isSuffixOf s))) :
  au P G MW [.str s,.str t] (.gf [.str (if t.isSuffixOf s then s.take (s.length - t.length) else s),.bool (t.isSuffixOf s)]):=by
 refine aR hF tM aae aao ?_;unfold Ng;simp only[↓aX,mX,seval];refine ay hX ?_;cases h:t.isSuffixOf s with
 |false=>simp only[↓aX,mX,seval,QI,↓h_]
 |true=>
 have hl:t.length<=s.length:=by rw[Xf] at h;exact h.length_le
 have hw:IntKind.i64.wrap ((s.length:Int) - (t.length:Int))=((s.length - t.length:Nat):Int):=by rw[wrap64 (by unfold B at hs ht;omega) (by unfold B at hs ht;omega)];omega
 simp only[↓aX,mX,seval,QK,hw,lk,QJ,Qj,Su,show s.length - t.length<=s.length by omega,↓h_]
 try simp
def NR (MW:Nat):AC:=
(aM [aQ 4 (.iC (.c (.str []))),jM 5 false] (aM [MR 6 0,MR 7 1,aQ 8 (.call MW [(.t 6),(.t 7)]),ox 9 8 0,ox 10 8 1,MR 4 9,MR 5 10] .ret))
def Q2 {M9 MW:Nat} (hF:aw P G M9=some (11,[(none,4),(none,5)],(NR MW).bare)) (s t:Bs)
  (hX:au P G MW [.str s,.str t] (.gf [.str (if t.isSuffixOf s then s.take (s.length - t.length) else s),.bool (t.isSuffixOf s)])) :
  au P G M9 [.str s,.str t] (.gf [.str (if t.isSuffixOf s then s.take (s.length - t.length) else s),.bool (t.isSuffixOf s)]):=by
 refine aR hF tM aae aao ?_;unfold NR;simp only[↓aX,mX,seval];refine ay hX ?_;simp only[↓aX,mX,seval,↓h_]
def Bj (c:UInt8) (s:Bs):Bs×Bs×Bool:=if 0<=Lib.indexByte s c then(s.take (Lib.indexByte s c).toNat,s.drop ((Lib.indexByte s c).toNat+1),true) else(s,[],false)
def als (sO:Nat):AC:=
(aM [aQ 4 (.iC (.c (.str []))),aQ 5 (.iC (.c (.str []))),jM 6 false] (.seq (aM [MR 8 0,MR 9 1,aQ 10 (.call sO [(.t 8),(.t 9)]),MR 7 10] (aM [MR 11 7,eY 12 .geq 11 0] (.cond (.t 12) (.seq (.VL [MR 13 0,MR 14 7,aQ 15 (.ZL (.t 13) none (some (.t 14))),MR 16 0,MR 17 7,MR 18 1,oF 19 18,et 20 .add 17 19,aQ 21 (.ZL (.t 16) (some (.t 20)) none),MR 4 15,MR 5 21,jM 6 true] [[],[],[0,1],[],[],[],[5],[4,6],[3,7],[2,0,1,2],[8,9,0,1,2,3,4,5,6,7,8,9],[10,0,1,2,3,4,5,6,7,8,9,10]] [.no,.no,.no,.no,.no,.no,.no,.no,.no,.no,.no,.no]) .ret) .skip))) (aM [MR 22 0,MR 4 22,aQ 5 (.iC (.c (.str []))),jM 6 false] .ret)))
def aol {env:Env} {H:Hp} (t u v:Nat) (R:AV->Hp->Prop):fX [(none,t),(none,u),(none,v)] R .ret env H=R (.gf [env t,env u,env v]) H:=abb
def aqi {akS sO:Nat} (hF:aw P G akS=some (23,[(none,4),(none,5),(none,6)],(als sO).bare)) (s:Bs) (c:UInt8) (hs:s.length<=B)
  (hX:au P G sO [.str s,.str [c]] (.int .i64 (Lib.indexByte s c))) :
  au P G akS [.str s,.str [c]] (.gf [.str (Bj c s).1,.str (Bj c s).2.1,.bool (Bj c s).2.2]):=by
 refine aR hF tM aae aao ?_;unfold als Bj;simp only[↓aX,mX,seval];refine ay hX ?_;rcases pC c s with⟨h1,_,_⟩|⟨m,h1,h2,_,_⟩
 ·rw[h1,Ev M3];simp only[↓aX,mX,reduceCtorEq,Int.reduceLT,Nat.reduceEqDiff,Int.reduceLE,Nat.reduceLT,Nat.reduceLeDiff,Nat.reduceAdd,Nat.reduceMul,Int.reduceToNat,show decide ((-1:Int)>=0)=false from rfl,↓aol]
 rw[h1,P8 sf];have hw:IntKind.i64.wrap ((m:Int)+1)=((m+1:Nat):Int):=wrap64 sf (by unfold B at hs;omega);simp only[↓aX,mX,seval,ge_iff_le,QJ,Ts];refine⟨rfl,?_⟩;simp only[↓aX,mX,seval,gL,Rm,show((1:Nat):Int)=1 from rfl,hw,lk,Le,QJ,Qj,Su,
  show m<=s.length by omega,show m+1<=s.length by omega,Rk,↓aol]
def amg (akS:Nat):AC:=
(aM [aQ 4 (.iC (.c (.str []))),aQ 5 (.iC (.c (.str []))),jM 6 false] (aM [MR 7 0,MR 8 1,aQ 9 (.call akS [(.t 7),(.t 8)]),ox 10 9 0,ox 11 9 1,ox 12 9 2,MR 4 10,MR 5 11,MR 6 12] .ret))
def arw {NX akS:Nat} (hF:aw P G NX=some (13,[(none,4),(none,5),(none,6)],(amg akS).bare)) (s:Bs) (c:UInt8)
  (hX:au P G akS [.str s,.str [c]] (.gf [.str (Bj c s).1,.str (Bj c s).2.1,.bool (Bj c s).2.2])) :
  au P G NX [.str s,.str [c]] (.gf [.str (Bj c s).1,.str (Bj c s).2.1,.bool (Bj c s).2.2]):=by
 refine aR hF tM aae aao ?_;unfold amg;simp only[↓aX,mX,seval];refine ay hX ?_;simp only[↓aX,mX,seval,↓aol]
end

def aqj {sz b d:Nat} {z:List AV} {m:Nat} {k k':IntKind} {H:Hp} (h1:m*b<=140737488355328) (h2:H (.loc d)= .unused) :
  vg sz b d z (.int k (m:Int)) (.int k' (m:Int)) H=some (.sl (.loc d) sz 0 m,bD H (.loc d) (.live ⟨sz,List.replicate m z⟩)):=by
 unfold vg;simp only;rw[P8 ⟨rfl,sf,by simpa using h1,h2⟩,Qj]
def anr (ws:List Bs):List (List AV):=ws.map λw=>[AV.str w]
def an3 (ws:List Bs):anr ws=aB (ws.map IV.str):=by simp[anr,aB,IV.cells,IV.dQ]
def apl {ws:List Bs} {cs:List AV} (h:cs∈anr ws):ah cs=[]:=by rw[an3] at h;exact bU h
def an4 (ws:List Bs) (i:Nat) (w:Bs):(anr ws).set i [.str w]=anr (ws.set i w):=by simp[anr,Zb]
def an5 (ws:List Bs) (i:Nat):(anr ws)[i]?=ws[i]?.map λw=>[AV.str w]:=by simp[anr]
def aqX (ws:List Bs):Flat (ws.map IV.str):=by
 intro y hy z hz cs;obtain⟨w,_,rfl⟩:=pb.1 hy;simp only[IV.cells,bY] at hz;subst hz;simp
def alF (ws:List Bs) (n i:Nat):List Bs:=ws.take i++List.replicate (n - i) []
def an6 {ws:List Bs} {n i:Nat} (h:i<=ws.length) (h2:i<=n):(alF ws n i).length=n:=by simp[alF];omega
def amU {ws:List Bs} {n i:Nat} {w:Bs} (h:ws[i]?=some w) (h2:i<n):(alF ws n i).set i w=alF ws n (i+1):=by
 have hl:=(yY.1 h).1;have hlen:(ws.take i).length=i:=by rw[tp];omega
 unfold alF;rw[Vq _ _ sf,hlen,Gl,Ro,h,show n - i=(n - (i+1))+1 by omega,Yw,ZI];simp
def an7 {ws:List Bs} {n:Nat} (h:ws.length=n):alF ws n n=ws:=by
 unfold alF;rw[Gl,ZF,SU,P5 sf]
def alH (alO alk NY:Nat):AC:=
(aM [zi 8] (.seq (aM [MR 12 3,eY 13 .eql 12 0] (.cond (.t 13) (aM [zi 8] .ret) .skip)) (.seq (aM [MR 14 1,aQ 15 (.bin .eql (.t 14) (.c (.str [])))] (.cond (.t 15) (aM [MR 16 0,MR 17 3,aQ 18 (.call alO [(.t 16),(.t 17)]),MR 8 18] .ret) .skip)) (.seq (aM [MR 19 3,eY 20 .lss 19 0] (.cond (.t 20) (.cq [MR 21 0,MR 22 1,aQ 23 (.call alk [(.t 21),(.t 22)]),eY 24 .add 23 1,MR 3 24]) .skip)) (aM [MR 25 3,MR 26 0,oF 27 26,eY 28 .add 27 1,aQ 29 (.min (.t 25) (.t 28)),MR 3 29] (aM [MR 30 3,aQ 31 (.tU (.t 30) (.t 30) 1 16 [(.str [])]),MR 9 31] (aM [MR 32 3,eY 33 .sub 32 1,MR 3 33] (aM [gH 10 0] (.seq (.block 0 (.loop (.seq (aM [MR 34 10,MR 35 3,et 36 .lss 34 35] (.cond (.t 36) .skip (.exit 0))) (.block 1 (aM [MR 37 0,MR 38 1,aQ 39 (.call NY [(.t 37),(.t 38)]),MR 11 39] (.seq (aM [MR 40 11,eY 41 .lss 40 0] (.cond (.t 41) (.exit 0) .skip)) (aM [MR 42 9,MR 43 10,MR 44 0,MR 45 11,MR 46 2,et 47 .add 45 46,aQ 48 (.ZL (.t 44) none (some (.t 47))),jL 49 42 43 1,gg (.store 1 (.t 49) (.t 48))] (aM [MR 50 0,MR 51 11,MR 52 1,oF 53 52,et 54 .add 51 53,aQ 55 (.ZL (.t 50) (some (.t 54)) none),MR 0 55] (.cq [MR 56 10,eY 57 .add 56 1,MR 10 57]))))))))) (aM [MR 58 9,MR 59 10,MR 60 0,jL 61 58 59 1,gg (.store 1 (.t 61) (.t 60))] (aM [MR 62 9,MR 63 10,eY 64 .add 63 1,aQ 65 (.zr (.t 62) none (some (.t 64)) none 1),MR 8 65] (.gh (.zS (.loc 31) 8) .ret))))))))))))
structure L6 (c:UInt8) (s:Bs) where
 i:Nat
 r:Bs
 hc:r.count c+i=s.count c
 hs:Z_ c s=(Z_ c s).take i++Z_ c r
 hl:r.length<=s.length
def ao2 {P:Program} {G:Nat->Option (List IV)} {ak' alO alk NY:Nat} (hF:aw P G ak'=some (66,[(none,8)],(alH alO alk NY).bare)) (s:Bs) (c:UInt8) (hs:s.length<=B)
  (hC:au P G alk [.str s,.str [c]] (.int .i64 ((s.count c:Nat):Int))) (hX:∀r:Bs,au P G NY [.str r,.str [c]] (.int .i64 (Lib.indexByte r c))) :
  au P G ak' [.str s,.str [c],.int .i64 0,.int .i64 (-1)] (.list ((Z_ c s).map IV.str)):=by
 refine aR hF tM aae aad ?_;have qT:s.count c<=s.length:=Zv;have zo:B=1073741824:=rfl;have HG:=amN c _ s rfl;have pU:IntKind.i64.wrap (((s.count c:Nat):Int)+1)=((s.count c+1:Nat):Int):=wrap64 sf sf;have wB:IntKind.i64.wrap (((s.length:Nat):Int)+1)=((s.length+1:Nat):Int):=wrap64 sf sf;have Es:IntKind.i64.wrap (((s.count c+1:Nat):Int) - 1)=((s.count c:Nat):Int):=by rw[wrap64 sf sf];omega
 have IF:¬(((s.length+1:Nat):Int)<((s.count c+1:Nat):Int)):=sf
 unfold alH;simp only[↓aX,mX,seval,show((-1:Int)==0)=false from rfl,show(([c]:Bs)==[])=false from rfl,Ts];refine ay hC ?_;simp only[↓aX,mX,seval,pU,wB,IF];rw[aqj sf abF];simp only[↓aX,mX,seval,Es];refine ca (σ:=L6 c s) [.loc 31] (λq=>[(0,.str q.r),(1,.str [c]),(2,.int .i64 0),(3,.int .i64 ((s.count c:Nat):Int)),(9,.sl (.loc 31) 1 0 (s.count c+1)),(10,.int .i64 q.i)])
  (λq=>[(.loc 31,⟨1,anr (alF (Z_ c s) (s.count c+1) q.i)⟩)]) (λq=>s.count c - q.i) ⟨0,s,rfl,tM,PW _⟩ (λ_=>rfl) M3 aae (by
   intro q r hr cs bV l hl;simp only[bY] at hr;subst hr;rw[apl bV] at hl;simp at hl) ?_ ?_
 ·refine eL aa9 aah ⟨?_,trivial⟩;simp[alF,anr,ae]
 rintro⟨i,r,hc,wu,hl⟩;have hlen:(alF (Z_ c s) (s.count c+1) i).length=s.count c+1:=an6 sf sf;simp only[↓aX,mX,seval,cF,bW];by_cases bI:i<s.count c
 ·rw[show decide (((i:Nat):Int)<((s.count c:Nat):Int))=true by simpa using bI];simp only[↓aX,mX,seval];refine ay (hX r) ?_;rcases pC c r with⟨_,h2,_⟩|⟨m,h1,h2,h3,h4⟩
  ·omega
  rw[h1];have jY:(Z_ c s)[i]?=some (r.take m):=by
   rw[wu,b_ (by rw[tp];omega),h4,tp,ov sf,Gl];rfl
  obtain⟨w0,zO⟩:∃w0,(alF (Z_ c s) (s.count c+1) i)[i]?=some w0:=⟨_,rX sf⟩;have vf:=amU (n:=s.count c+1) jY sf;have Ef:IntKind.i64.wrap (((m:Nat):Int)+0)=((m:Nat):Int):=by rw[wrap64 sf sf];omega
  have LX:IntKind.i64.wrap (((m:Nat):Int)+1)=((m+1:Nat):Int):=wrap64 sf sf;have hwc:IntKind.i64.wrap (((i:Nat):Int)+1)=((i+1:Nat):Int):=wrap64 sf sf;simp only[↓aX,mX,seval,show ¬(((m:Nat):Int)<0) by omega,XG,Ef,lk,Le,QJ,Qj,Su,show m<=r.length by omega,tn,an4,an5,hlen,zO,bT,EF,SX,X3,vf,show i<s.count c+1 by omega,bM,
   gL,Rm,show((1:Nat):Int)=1 from rfl,LX,show m+1<=r.length by omega,Rk,hwc]
  exact⟨⟨i+1,r.drop (m+1),sf,by
    have h5:(Z_ c s).take (i+1)=(Z_ c s).take i++[r.take m]:=(by rw[Ro,jY];rfl);rw[h5,SS];rw[h4] at wu;exact wu,by rw[BH];omega⟩,aac,eL aa9 aah ⟨aai,trivial⟩⟩
 have hi:i=s.count c:=sf
 subst hi;have hz:r.count c=0:=sf
 have hr:Z_ c r=[r]:=by
  rcases pC c r with⟨_,_,h3⟩|⟨m,_,_,h3,_⟩
  ·exact h3
  omega
 have jY:(Z_ c s)[s.count c]?=some r:=by
  rw[wu,hr,b_ (by rw[tp];omega),tp,ov sf,Gl];rfl
 obtain⟨w0,zO⟩:∃w0,(alF (Z_ c s) (s.count c+1) (s.count c))[s.count c]?=some w0:=⟨_,rX sf⟩;have vf:=amU (n:=s.count c+1) jY sf;rw[an7 HG] at vf;rw[show decide (((s.count c:Nat):Int)<((s.count c:Nat):Int))=false by simp];simp only[↓aX,mX,seval,lk,Le,QJ,Qj,Su,an5,zO,bT,EF,gL,Rm,SX,tn,X3,bM,an4,vf,pU,
  show s.count c<s.count c+1 by omega,PW]
 simp only[↓aX,mX,seval,Cs,nB,lk,Le,QJ,Qj,Su,PW,zd,EF,bT,V8,Xa,kf,bM];refine⟨1,(Z_ c s).map IV.str,0,s.count c+1,rfl,?_,by simp[HG],aqX _,?_⟩
 ·rw[<-an3];try simp[ae]
 simp only[↓aX,mX,seval,tn,P5 (show((Z_ c s).map IV.str).length<=s.count c+1 by rw[G_];omega)]
def al4 (ak':Nat):AC:=
(aM [zi 4] (aM [MR 5 0,MR 6 1,aQ 7 (.call ak' [(.t 5),(.t 6),(jS 0),(.c (.int .i64 (-1)))]),MR 4 7] .ret))
def aqk {P:Program} {G:Nat->Option (List IV)} {alm ak':Nat} (hF:aw P G alm=some (8,[(none,4)],(al4 ak').bare)) (s:Bs) (c:UInt8)
  (hX:au P G ak' [.str s,.str [c],.int .i64 0,.int .i64 (-1)] (.list ((Z_ c s).map IV.str))):au P G alm [.str s,.str [c]] (.list ((Z_ c s).map IV.str)):=by
 refine aR hF tM aae aad ?_;unfold al4;simp only[↓aX,mX,seval];refine ay hX ?_;simp only[↓aX,mX,seval]

def JL (t s:Bs):Bs:=if t.isSuffixOf s then s.take (s.length - t.length) else s
def JM (n:Bs):Option Int:=match Lib.atoiAll n with
 | .ok k=>if Lib.itoa k=n/\1<=k then some k else none
 |_=>none
def JN (w:Bs):Option Int:=if(Bj 91 w).2.2 then(if [93].isSuffixOf (Bj 91 w).2.1 then JM (JL [93] (Bj 91 w).2.1) else none) else some 0
def Hb (nm:Bs):Option Bs:=if nm=[] then none else if nm=[35] then some [] else some nm
def Hc (w:Bs):Option Step:=(JN w).bind λk=>(Hb (Bj 91 w).1).map λnm=>⟨nm,k⟩
def zc:List Bs->Option (List Step)
 |[]=>some []
 |w::r=>(Hc w).bind λx=>(zc r).map λl=>x::l
def ami (s:Bs):Option (List Step):=
 if [47].isPrefixOf s/\s.length<=2500 then(zc (Z_ 47 (s.drop 1))).bind λl=>if ak6 l then some l else none else none
def amr (s:Bs):AV:=match ami s with
 |some l=> .gf [.list (l.map Step.iv),.int .i64 0]
 |none=> .gf [.nil0,.int .i64 1]
theorem amV:∀(ws:List Bs) (w:Bs),zc (ws++[w])=(zc ws).bind λl=>(Hc w).map λx=>l++[x]
 |[],w=>by cases h:Hc w<;>simp[zc,h]
 |v::r,w=>by
  simp only[List.cons_append,zc,amV r w];cases Hc v<;>simp;cases zc r<;>simp;cases Hc w<;>simp
def an8 {ws:List Bs} {i:Nat} {w:Bs} {l:List Step} (h:ws[i]?=some w) (hl:zc (ws.take i)=some l):zc (ws.take (i+1))=(Hc w).map λx=>l++[x]:=by
 rw[Ro,h,Wx,amV,hl];rfl
theorem amW:∀{ws:List Bs} {w:Bs},w∈ws->Hc w=none->zc ws=none
 |v::r,w,hm,h=>by
  rcases PY.1 hm with rfl|hm
  ·simp[zc,h]
  simp only[zc,amW hm h];cases Hc v<;>rfl
theorem anc:∀{ws:List Bs} {l:List Step},zc ws=some l->l.length=ws.length
 |[],l,h=>by simp[zc] at h;subst h;rfl
 |v::r,l,h=>by
  simp only[zc,yV,jF] at h;obtain⟨x,_,l',h2,rfl⟩:=h;simp[anc h2]
def ao3 (c:UInt8) (s:Bs):(Z_ c s).length=s.count c+1:=amN c _ s rfl
def alP (c:UInt8) (w:Bs):(Bj c w).1.length<=w.length/\(Bj c w).2.1.length<=w.length:=by
 unfold Bj;split
 ·simp only[tp,BH];omega
 simp
def apm (t s:Bs):(JL t s).length<=s.length:=by
 unfold JL;split
 ·simp only[tp];omega
 exact PW _
def aom {w:Bs} {x:Step} (h:Hc w=some x):x.name.length<=w.length:=by
 simp only[Hc,yV,jF] at h;obtain⟨k,_,nm,hn,rfl⟩:=h;have:=(alP 91 w).1;unfold Hb at hn;split at hn
 ·cases hn
 split at hn
 ·cases hn;exact zd _
 cases hn;exact this
theorem amX:∀{ws:List Bs} {l:List Step},zc ws=some l->∀x∈l,∃w∈ws,x.name.length<=w.length
 |[],l,h=>by simp[zc] at h;subst h;simp
 |v::r,l,h=>by
  simp only[zc,yV,jF] at h;obtain⟨x,hx,l',h2,rfl⟩:=h;intro y hy;rcases PY.1 hy with rfl|hy
  ·exact⟨v,tM,aom hx⟩
  obtain⟨w,h3,h4⟩:=amX h2 y hy;exact⟨w,by simp[h3],h4⟩
theorem amO (c:UInt8):∀(s:Bs),∀w∈Z_ c s,w.length<=s.length
 |[],w,h=>by simp[Z_] at h;subst h;simp
 |b::r,w,h=>by
  have ih:=amO c r;simp only[Z_] at h;split at h
  ·rcases PY.1 h with rfl|h
   ·simp
   have:=ih w h;simp;omega
  split at h
  ·rename_i v vs e;rw[e] at ih;rcases PY.1 h with rfl|h
   ·have:=ih v tM;simp;omega
   have:=ih w (by simp[h]);simp;omega
  simp at h;subst h;simp
structure L7 (ws:List Bs) where
 i:Nat
 l:List Step
 hi:i<=ws.length
 h:zc (ws.take i)=some l
def amY (ws:List Bs) (q:L7 ws):List (Nat×AV):=
 [(6,.sl (.loc 6) 2 0 q.i),(30,.list (ws.map IV.str)),(31,.int .i64 ws.length),(32,.int .i64 q.i)]
def amZ (ws:List Bs) (q:L7 ws):List (Lb×Row):=[(.loc 6,⟨2,aB (q.l.map Step.iv)⟩)]
section
variable {P:Program} {G:Nat->Option (List IV)}
def ap8 (P:Program) (G:Nat->Option (List IV)) (f:Nat):Prop:=∀n:Bs,n.length<=B->∃k e,au P G f [.str n] (.gf [.int .i64 k,e])/\((e= .iT/\Lib.atoiAll n= .ok k)\/((∃t,e= .ifc t .any)/\∀v,Lib.atoiAll n≠ .ok v))
def apn (P:Program) (G:Nat->Option (List IV)) (f:Nat):Prop:=∀k:Int,-9223372036854775808<=k->k<=9223372036854775807->au P G f [.int .i64 k] (.str (Lib.itoa k))
def amn (bZ alm NX M9 alQ alR alf:Nat):AC:=
(aM [zi 2,gH 3 0] (aM [MR 18 0,aQ 19 (.call bZ [(.t 18),(.c (.str [47]))]),MR 17 19,ox 20 17 0,ox 21 17 1,MR 4 20,MR 5 21] (.seq (aM [MR 22 5,sB 23 22,MR 24 23,gV 25 24 0,iR 26 24 (.lens (.t 25)),iR 27 24 (.bin .gtr (.t 26) (jS 2500)),sj 28 24 27] (.cond (.t 28) (aM [zi 2,gH 3 1] .ret) .skip)) (aM [zi 6] (.gh (.own 6 2) (.seq (aM [MR 29 4,aQ 30 (.call alm [(.t 29),(.c (.str [47]))]),oy 31 30,gH 32 0] (.block 0 (.loop (aM [et 33 .lss 32 31] (.seq (.cond (.t 33) .skip (.exit 0)) (.seq (.block 1 (aM [jL 34 30 32 1,fm 35 34,MR 8 35] (aM [aQ 9 (.new [(.str []),(.int .i64 0)])] (aM [MR 37 8,aQ 38 (.call NX [(.t 37),(.c (.str [91]))]),MR 36 38,ox 39 36 0,ox 40 36 1,ox 41 36 2,MR 10 39,MR 11 40,MR 12 41] (.seq (aM [MR 42 12] (.cond (.t 42) (aM [MR 44 11,aQ 45 (.call M9 [(.t 44),(.c (.str [93]))]),MR 43 45,ox 46 43 0,ox 47 43 1,MR 13 46,MR 14 47] (aM [MR 49 13,aQ 50 (.call alQ [(.t 49)]),MR 48 50,ox 51 48 0,ox 52 48 1,MR 15 51,MR 16 52] (.seq (aM [MR 53 14,sB 54 53,MR 55 54,gV 56 55 16,iR 57 55 (.zv true (.t 56) (.c .iT)),sj 58 55 57,MR 59 58,gV 60 59 15,iR 61 59 (.call alR [(.t 60)]),gV 62 59 13,iR 63 59 (.bin .neq (.t 61) (.t 62)),sj 64 59 63,MR 65 64,gV 66 65 15,iR 67 65 (.bin .lss (.t 66) (jS 1)),sj 68 65 67] (.cond (.t 68) (aM [zi 2,gH 3 1] .ret) .skip)) (.cq [MR 69 15,ep 70 9 1,gg (.store 1 (.t 70) (.t 69))])))) .skip)) (aM [MR 71 10,ep 72 9 0,gg (.store 1 (.t 72) (.t 71))] (.seq (aM [MR 73 10] (.block 2 (aM [aQ 75 (.bin .eql (.t 73) (.c (.str []))),MR 74 75] (.cond (.t 74) (aM [zi 2,gH 3 1] .ret) (aM [aQ 77 (.bin .eql (.t 73) (.c (.str [35]))),MR 76 77] (.cond (.t 76) (.cq [ep 78 9 0,gg (.store 1 (.t 78) (.c (.str [])))]) .skip)))))) (.cq [MR 79 6,gz 80 2 9,aQ 81 (.lits 1 2 [(.str []),(.int .i64 0)] [(0,(.t 80))]),aQ 82 (.app (.t 79) (.t 81) 2 24),MR 6 82])))))))) (.cq [eY 83 .add 32 1,MR 32 83]))))))) (.seq (.gh (.zS (.loc 6) 6) (aM [MR 84 6,aQ 85 (.call alf [(.t 84)]),sB 86 85] (.cond (.t 86) (aM [zi 2,gH 3 1] .ret) .skip))) (aM [MR 87 6,MR 2 87,gH 3 0] .ret))))))))
def aon {alw bZ alm NX M9 alQ alR alf:Nat} (hF:aw P G alw=some (88,[(none,2),(none,3)],(amn bZ alm NX M9 alQ alR alf).bare)) (s:Bs) (hs:s.length<=2^24)
  (hCP:au P G bZ [.str s,.str [47]] (.gf [.str (if [47].isPrefixOf s then s.drop 1 else s),.bool ([47].isPrefixOf s)]))
  (HK:au P G alm [.str (s.drop 1),.str [47]] (.list ((Z_ 47 (s.drop 1)).map IV.str)))
  (hCu:∀w∈Z_ 47 (s.drop 1),au P G NX [.str w,.str [91]] (.gf [.str (Bj 91 w).1,.str (Bj 91 w).2.1,.bool (Bj 91 w).2.2]))
  (UE:∀w∈Z_ 47 (s.drop 1),au P G M9 [.str (Bj 91 w).2.1,.str [93]] (.gf [.str (JL [93] (Bj 91 w).2.1),.bool ([93].isSuffixOf (Bj 91 w).2.1)]))
  (hA:∀w∈Z_ 47 (s.drop 1),∃k e,au P G alQ [.str (JL [93] (Bj 91 w).2.1)] (.gf [.int .i64 k,e])/\((e= .iT/\Lib.atoiAll (JL [93] (Bj 91 w).2.1)= .ok k)\/((∃t,e= .ifc t .any)/\∀v,Lib.atoiAll (JL [93] (Bj 91 w).2.1)≠ .ok v)))
  (hI:apn P G alR) (hG:∀l:List Step,l.length<=B->(∀x∈l,x.name.length<=s.length)->au P G alf [.list (l.map Step.iv)] (.bool (ak6 l))) :
  au P G alw [.str s] (amr s):=by
 refine aR hF tM aae (by unfold amr;split<;>simp[AV.an,ah]) ?_;have zo:B=1073741824:=rfl;unfold amn;simp only[↓aX,mX,seval];refine ay hCP ?_;simp only[↓aX,mX,seval];cases hp:([47]:Bs).isPrefixOf s with
 |false=>simp only[↓aX,mX,seval,QI,↓h_,amr,ami,hp,jy,false_and,X_]
 |true=>
 simp only[↓aX,mX,seval,QK];rcases Nat.lt_or_ge 2500 s.length with hlen|hlen
 ·simp only[↓aX,mX,seval,show decide ((s.length:Int)>2500)=true by simp;omega,↓h_,amr,ami,show ¬s.length<=2500 by omega,and_false,X_]
 simp only[↓aX,mX,seval,show decide ((s.length:Int)>2500)=false by simp;omega];refine ay HK ?_;obtain⟨ws,hws⟩:∃ws,Z_ 47 (s.drop 1)=ws:=⟨_,rfl⟩;have L2:ws.length<=2501:=by
  rw[<-hws,ao3];have:=Zv (a:=(47:UInt8)) (l:=s.drop 1);simp only[BH] at this;omega
 have KF:ami s=(zc ws).bind λl=>if ak6 l then some l else none:=by simp only[ami,hp,show s.length<=2500 from hlen,hws,Su,Zx]
 rw[hws] at hCu UE hA ⊢;simp only[↓aX,mX,seval,G_];refine pe (σ:=L7 ws) (λ_=>[.loc 6]) (λ_ _=>false) (amY ws) (amZ ws) (λq=>ws.length - q.i) ⟨0,[],sf,rfl⟩ (λ_=>rfl) (λq=>by simp[ah,AV.an,amY]) ?_ ⟨[],?_⟩ ?_
 ·intro q w hw cs bV z hz;simp only[amZ,bY] at hw;subst hw;rw[bU bV] at hz;simp at hz
 ·refine⟨?_,?_,?_,aar,λl _=>⟨id,λ_=>rfl⟩⟩
  ·intro l hf hu;exfalso;apply hu;cases l<;>simp_all[Lb.fresh,ae,Hp.none]
  ·simp[k_,dn,bJ,put,amY]
  simp[tc,dn,ae,dO,bu,bJ,aB,amZ]
 rintro⟨i,l,hi,h⟩;rw[Cf];have Ij:l.length=i:=by have:=anc h;simp only[tp] at this;omega
 have hr:∀(ρ:Lb->Lb) (xs:List IV),dO ρ ⟨2,aB xs⟩=⟨2,aB xs⟩:=λρ xs=>dy _ _ _;simp only[↓aX,mX,seval,amY,amZ,cF,bW];by_cases bI:i<ws.length
 ·obtain⟨w,hw⟩:∃w,ws[i]?=some w:=⟨_,rX bI⟩;have JA:=PX hw;have pU:IntKind.i64.wrap ((i:Int)+1)=((i+1:Nat):Int):=wrap64 sf sf;have Jz:(ws.map IV.str)[i]?=some (.str w):=by simp[hw]
  have ll:jV 1 (ws.map IV.str):=by intro y hy;simp only[pb] at hy;obtain⟨w',_,rfl⟩:=hy;rfl
  have FQ:Hc w=none->amr s= .gf [.nil0,.int .i64 1]:=λe=>by simp only[amr,KF,amW JA e];rfl
  have next:∀x:Step,Hc w=some x->zc (ws.take (i+1))=some (l++[x]):=λx e=>by rw[an8 hw h,e];rfl
  simp only[↓aX,mX,seval,show decide ((i:Int)<(ws.length:Int))=true by simpa using bI,Jz,ll,IV.cells,QJ,Qj,Ij];refine ay (hCu w JA) ?_;simp only[↓aX,mX,seval];cases Tf:(Bj 91 w).2.2 with
  |false=>
   have amP:JN w=some 0:=(by simp only[JN,Tf];rfl);simp only[↓aX,mX,seval];cases wq:((Bj 91 w).1==[]) with
   |true=>
    have ane:Hb (Bj 91 w).1=none:=(by simp only[Hb,show(Bj 91 w).1=[] by simpa using wq,Zx]);simp only[↓aX,mX,seval,↓h_,FQ (by simp only[Hc,ane];cases JN w<;>rfl)]
   |false=>
   have Cv:(Bj 91 w).1≠[]:=(by intro e;simp[e] at wq);cases JU:((Bj 91 w).1==[35]) with
   |true=>
    have ane:Hb (Bj 91 w).1=some []:=(by simp only[Hb,show(Bj 91 w).1=[35] by simpa using JU];rfl);simp only[↓aX,mX,seval,JU];rw[qg 2 24 82 6 (l.map Step.iv) (.agg [.str [],.int .i64 0]) aai (by simp[Ij]) rfl aaw sf sf sf aat];simp only[↓aX,mX,seval,pU];refine⟨⟨i+1,l++[⟨[],0⟩],bI,next _ (by simp only[Hc,amP,ane];rfl)⟩,aac,[(.loc 6,.loc 82)],?_⟩;refine⟨?_,?_,?_,aar,?_⟩
    ·intro l hf hu;exfalso;apply hu;cases l<;>simp_all[Lb.fresh,ae,Hp.none]
    ·simp[k_,dn,bJ,put,amY]
    ·simp only[tc,hr,amZ];simp[dn,ae,dO,bu,bJ,Step.iv,Step.cs]
    intro l hl;simp only[bY] at hl;subst hl;exact⟨λ_=>rfl,λh=>by simp[Lb.fresh] at h⟩
   |false=>
   have hn3:(Bj 91 w).1≠[35]:=(by intro e;simp[e] at JU);have ane:Hb (Bj 91 w).1=some (Bj 91 w).1:=(by simp only[Hb,Cv,hn3,X_]);simp only[↓aX,mX,seval,JU];rw[qg 2 24 82 6 (l.map Step.iv) (.agg [.str (Bj 91 w).1,.int .i64 0]) aai (by simp[Ij]) rfl aaw sf sf sf aat];simp only[↓aX,mX,seval,pU];refine⟨⟨i+1,l++[⟨(Bj 91 w).1,0⟩],bI,next _ (by simp only[Hc,amP,ane];rfl)⟩,aac,[(.loc 6,.loc 82)],?_⟩;refine⟨?_,?_,?_,aar,?_⟩
   ·intro l hf hu;exfalso;apply hu;cases l<;>simp_all[Lb.fresh,ae,Hp.none]
   ·simp[k_,dn,bJ,put,amY]
   ·simp only[tc,hr,amZ];simp[dn,ae,dO,bu,bJ,Step.iv,Step.cs]
   intro l hl;simp only[bY] at hl;subst hl;exact⟨λ_=>rfl,λh=>by simp[Lb.fresh] at h⟩
  |true=>
  simp only[↓aX,mX,seval];refine ay (UE w JA) ?_;simp only[↓aX,mX,seval];obtain⟨k,e,Km,bV⟩:=hA w JA;refine ay Km ?_;have ll:e.an=[]:=by rcases bV with⟨rfl,_⟩|⟨⟨t,rfl⟩,_⟩<;>rfl
  cases aiy:([93]:Bs).isSuffixOf (Bj 91 w).2.1 with
  |false=>
   have amP:JN w=none:=(by simp only[JN,Tf,aiy];rfl);simp only[↓aX,mX,seval,QI,↓h_,FQ (by simp only[Hc,amP];rfl)]
  |true=>
  have QM:JN w=JM (JL [93] (Bj 91 w).2.1):=by simp only[JN,Tf,aiy,Rc]
  rcases bV with⟨rfl,j4⟩|⟨⟨t,rfl⟩,RW⟩
  ·obtain⟨sr,Jd⟩:=Lib.atoiAll_bounds j4;simp only[↓aX,mX,seval,QK];refine ay (hI k sr Jd) ?_;cases hit:(Lib.itoa k==JL [93] (Bj 91 w).2.1) with
   |false=>
    have amP:JN w=none:=(by rw[QM];simp only[JM,j4,show ¬Lib.itoa k=JL [93] (Bj 91 w).2.1 by intro e;simp[e] at hit,false_and,X_]);simp only[↓aX,mX,seval,hit,QI,↓h_,FQ (by simp only[Hc,amP];rfl)]
   |true=>
   have aqY:Lib.itoa k=JL [93] (Bj 91 w).2.1:=(by simpa using hit);by_cases hk:k<1
   ·have amP:JN w=none:=(by rw[QM];simp only[JM,j4,aqY,show ¬1<=k by omega,and_false,X_]);simp only[↓aX,mX,seval,hit,QK,hk,Ts,↓h_,FQ (by simp only[Hc,amP];rfl)]
   have amP:JN w=some k:=(by rw[QM];simp only[JM,j4,aqY,show 1<=k by omega,A5,Zx]);simp only[↓aX,mX,seval,hit,QK,hk,XG];cases wq:((Bj 91 w).1==[]) with
   |true=>
    have ane:Hb (Bj 91 w).1=none:=(by simp only[Hb,show(Bj 91 w).1=[] by simpa using wq,Zx]);simp only[↓aX,mX,seval,↓h_,FQ (by simp only[Hc,ane];cases JN w<;>rfl)]
   |false=>
   have Cv:(Bj 91 w).1≠[]:=(by intro e;simp[e] at wq);cases JU:((Bj 91 w).1==[35]) with
   |true=>
    have ane:Hb (Bj 91 w).1=some []:=(by simp only[Hb,show(Bj 91 w).1=[35] by simpa using JU];rfl);simp only[↓aX,mX,seval,JU];rw[qg 2 24 82 6 (l.map Step.iv) (.agg [.str [],.int .i64 k]) aai (by simp[Ij]) rfl aaw sf sf sf aat];simp only[↓aX,mX,seval,pU];refine⟨⟨i+1,l++[⟨[],k⟩],bI,next _ (by simp only[Hc,amP,ane];rfl)⟩,aac,[(.loc 6,.loc 82)],?_⟩;refine⟨?_,?_,?_,aar,?_⟩
    ·intro l hf hu;exfalso;apply hu;cases l<;>simp_all[Lb.fresh,ae,Hp.none]
    ·simp[k_,dn,bJ,put,amY]
    ·simp only[tc,hr,amZ];simp[dn,ae,dO,bu,bJ,Step.iv,Step.cs]
    intro l hl;simp only[bY] at hl;subst hl;exact⟨λ_=>rfl,λh=>by simp[Lb.fresh] at h⟩
   |false=>
   have hn3:(Bj 91 w).1≠[35]:=(by intro e;simp[e] at JU);have ane:Hb (Bj 91 w).1=some (Bj 91 w).1:=(by simp only[Hb,Cv,hn3,X_]);simp only[↓aX,mX,seval,JU];rw[qg 2 24 82 6 (l.map Step.iv) (.agg [.str (Bj 91 w).1,.int .i64 k]) aai (by simp[Ij]) rfl aaw sf sf sf aat];simp only[↓aX,mX,seval,pU];refine⟨⟨i+1,l++[⟨(Bj 91 w).1,k⟩],bI,next _ (by simp only[Hc,amP,ane];rfl)⟩,aac,[(.loc 6,.loc 82)],?_⟩;refine⟨?_,?_,?_,aar,?_⟩
   ·intro l hf hu;exfalso;apply hu;cases l<;>simp_all[Lb.fresh,ae,Hp.none]
   ·simp[k_,dn,bJ,put,amY]
   ·simp only[tc,hr,amZ];simp[dn,ae,dO,bu,bJ,Step.iv,Step.cs]
   intro l hl;simp only[bY] at hl;subst hl;exact⟨λ_=>rfl,λh=>by simp[Lb.fresh] at h⟩
  have amP:JN w=none:=by
   rw[QM];unfold JM;split
   ·rename_i v hv;exact absurd hv (RW v)
   rfl
  simp only[↓aX,mX,seval,QK,↓h_,FQ (by simp only[Hc,amP];rfl)]
 have hiw:i=ws.length:=sf
 subst hiw;have g_:zc ws=some l:=by rw[Rk] at h;exact h
 simp only[↓aX,mX,seval,show decide ((ws.length:Int)<(ws.length:Int))=false by simp];have E0:List.take ws.length (l.map Step.iv)=l.map Step.iv:=P5 (by simp[Ij]);refine⟨2,l.map Step.iv,0,ws.length,rfl,rfl,by simp[Ij],aqf _,?_⟩;simp only[↓aX,mX,seval,tn,E0];refine ay (hG l sf (λx hx=>by
  obtain⟨w,hw,hq⟩:=amX g_ x hx;have h2:=amO 47 (s.drop 1) w (by rw[hws];exact hw);rw[BH] at h2;omega)) ?_
 cases hg:ak6 l with
 |false=>simp only[↓aX,mX,seval,QI,↓h_,amr,KF,g_,EF,hg,jy,X_]
 |true=>simp only[↓aX,mX,seval,QK,↓h_,E0,amr,KF,g_,EF,hg,Zx]
end
end Go.Am
