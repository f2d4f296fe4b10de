import Derived.Test.YtfinkeaikbmpgaaGreatDoorKT15
import Derived.Test.YtfinkeaikbmpgaaGreatDoorKT21
import Derived.Test.YtfinkeaikbmpgaaGreatDoorKD2
import Derived.Lib.Bytealg
set_option linter.unusedSimpArgs false
set_option linter.unusedVariables false
set_option linter.unnecessarySimpa false
set_option linter.defProp false
/- Paths: chosen step by step, or node by node: the same. -/
namespace Go.Am
open Go Go.RowKit
def x6 (d:Doc) (n:Nat):Nat:=match d[n]? with
 |some x=>if h:0≤x.parent∧x.parent.toNat<n then x6 d x.parent.toNat+1 else 1
 |none=>0
termination_by n
decreasing_by exact h.2
def Jz {d:Doc} {n:Nat} {x:Node} {p:Int} (h:d[n]?=some x) (hp:x.parent=p):x6 d n=if 0≤p∧p.toNat<n then x6 d p.toNat+1 else 1:=by
 subst hp;rw[x6,h];simp only;split<;>rfl
def rZ {d:Doc} {n:Nat} {x:Node} {p:Int} {s:Step} {l:List Step} (h:d[n]?=some x) (hp:x.parent=p) :
  fB d (s::l) n=(nj d s.name n&&((if p<0 then l.isEmpty else(!l.isEmpty&&fB d l p.toNat))&&(s.n==0||s.n==((vV d p s.name n:Nat):Int)))):=by
 subst hp;rw[fB,h]
def AU {d:Doc} {s:Step} {k n:Nat} {r:List Int} {x:Node} {tx:Bool} {sx:Bs} (h:d[n]?=some x) (ht:x.text=tx) (hs:x.s=sx) :
  c_ d s k ((n:Int)::r)=if o5 tx sx s.name then(if s.n=0∨s.n=((k+1:Nat):Int) then(n:Int)::c_ d s (k+1) r else c_ d s (k+1) r) else c_ d s k r:=by
 subst ht hs;rw[c_,ag9,h]
section
variable {t:Tree}
def Sub.at {n:Nat} {q:Int} {y:Tree} (h:Sub 0 (-1) t n q y):(aK t)[n]?=some (y.node n q):=(h.AA _ ⟨[],by simp[aK]⟩).node
def AW {n:Nat} {q:Int} {y:Tree} (h:Sub 0 (-1) t n q y):(n=0∧q= -1)∨∃(m:Nat) (z:Tree) (r:Int),q=(m:Int)∧Sub 0 (-1) t m r z∧m<n:=by
 rcases h.parent with⟨e1,e2,_⟩|⟨m,z,r,e1,e2,e3,_⟩
 ·exact .inl ⟨e1,e2⟩
 exact .inr ⟨m,z,r,e1,e2,e3⟩
def zF {n:Nat} {q:Int} {y:Tree} (h:Sub 0 (-1) t n q y):(n=0∧q= -1∧x6 (aK t) n=1)∨∃(m:Nat),q=(m:Int)∧m<n∧x6 (aK t) n=x6 (aK t) m+1:=by
 rcases AW h with⟨e1,e2⟩|⟨m,z,r,e1,e2,e3⟩
 ·refine .inl ⟨e1,e2,?_⟩;rw[Jz h.at (p:=q) rfl,ag8 (by omega)]
 refine .inr ⟨m,e1,e3,?_⟩;rw[Jz h.at (p:=q) rfl,adv ⟨by omega,by omega⟩,e1,ag9]
def Fo {n:Nat} {q:Int} {y:Tree} (h:Sub 0 (-1) t n q y):∀(k:Nat) (r:Int) (z:Tree),Sub n q y k r z→k≠n→x6 (aK t) n<x6 (aK t) k:=by
 intro k;induction k using Nat.strongRecOn with
 |ind k ih=>
 intro r z hs ff;rcases hs.parent with⟨e,_⟩|⟨m,w,r',e1,e2,e3,_⟩
 ·exact absurd e ff
 have hk:=h.trans hs;rcases zF hk with⟨_,e,_⟩|⟨m',e4,e5,e6⟩
 ·omega
 have:m'=m:=by omega
 subst this;by_cases hm:m'=n
 ·subst hm;omega
 have:=ih m' e3 r' w e2 hm;omega
theorem nY:∀(l:List Step) (n:Nat) (q:Int) (y:Tree),Sub 0 (-1) t n q y→fB (aK t) l n=true→x6 (aK t) n=l.length
 |[],n,q,y,_,h=>by simp[fB] at h
 |s::l,n,q,y,hs,h=>by
  rw[rZ hs.at (p:=q) rfl] at h;simp only[ady] at h;obtain⟨_,h,_⟩:=h;rcases zF hs with⟨e1,e2,e3⟩|⟨m,e1,e2,e3⟩
  ·rw[adv (by omega)] at h;have:l=[]:=(by simpa using h);subst this;simpa using e3
  rw[ag8 (by omega),ady] at h;obtain⟨m',z,r,e4,e5,e6⟩:=(AW hs).resolve_left (by omega);have:m'=m:=by omega
  subst this;rw[e1,ag9] at h;have:=nY l m' r z e5 h.2;simp only[adK];omega
theorem AX {n:Nat} {q:Int} {y:Tree} (h:Sub 0 (-1) t n q y) {pre:List Step} (hp:x6 (aK t) n=pre.length):∀(l:List Step) (k:Nat) (r:Int) (z:Tree),Sub n q y k r z →
  fB (aK t) (l++pre) k=true→fB (aK t) pre n=true
 |[],k,r,z,hs,hm=>by
  have:=nY pre k r z (h.trans hs) hm;by_cases e:k=n
  ·subst e;exact hm
  have:=Fo h k r z hs e;omega
 |s::l,k,r,z,hs,hm=>by
  have hd:=nY _ k r z (h.trans hs) hm;have ff:k≠n:=by rintro rfl;simp at hd;omega
  rcases hs.parent with⟨e,_⟩|⟨m,w,r',e1,e2,e3,_⟩
  ·exact absurd e ff
  simp only[adR] at hm;rw[rZ (h.trans hs).at (p:=r) rfl] at hm;simp only[ady] at hm;obtain⟨_,hm,_⟩:=hm;rw[ag8 (by omega),ady,e1,ag9] at hm;exact AX h hp l m r' w e2 hm.2
def DM {n:Nat} {q:Int} {y:Tree} (h:Sub 0 (-1) t n q y) {k:Nat} (h1:n≤k) (h2:k<n+y.fI):∃r z,Sub n q y k r z:=Jk y.fI y n q k (adw _) h1 h2
def Le (d:Doc) (p:Int) (name:Bs) (n:Nat):vV d p name n=(((gl p 0 d).filter fun k=>decide (k≤n)).filter (nj d name)).length:=by
 have key:∀(m j:Nat) (e:List Node),(∀i,e[i]?=d[j+i]?)→e.length=m →
   ((List.range' j (n+1 - j)).filter fun k=>AG d p k&&nj d name k)=((gl p j e).filter fun k=>decide (k≤n)).filter (nj d name):=by
  intro m;induction m with
  |zero=>
   intro j e he hl;have:e=[]:=aea.1 hl;subst this;simp only[gl,afo];rw[aeI];intro k hk;simp only[af5] at hk;have:=he (k - j);simp only[List.getElem?_nil,show j+(k - j)=k by omega] at this;unfold AG;rw[←this];simp
  |succ m ih=>
  intro j e he hl;obtain⟨x,r,rfl⟩:∃x r,e=x::r:=by
   cases e with
   |nil=>simp at hl
   |cons x r=>exact⟨x,r,rfl⟩
  have hx:d[j]?=some x:=by have:=he 0;simpa using this.symm
  have ih':=ih (j+1) r (fun i=>by have:=he (i+1);simp only[afa] at this;rw[this];congr 1;omega) (by simpa using hl);simp only[gl,aeO];rw[←ih'];by_cases hjn:j≤n
  ·rw[show n+1 - j=(n+1 - (j+1))+1 by omega,agy,aeo];have hip:AG d p j=(x.parent==p):=(by unfold AG;rw[hx]);rw[hip];by_cases hp:x.parent=p
   ·rw[adv hp];simp only[hp,beq_self_eq_true,afJ,aeo,afo,hjn,aeB,adH];split<;>simp
   rw[ag8 hp];simp[hp]
  rw[show n+1 - j=0 by omega,show n+1 - (j+1)=0 by omega];simp only[List.range'_zero,afo,adN];by_cases hp:x.parent=p
  ·simp[hp,hjn]
  simp[hp]
 have:=key d.length 0 d (fun i=>by simp) rfl;unfold vV;rw[agO,←this];simp
theorem CN:∀(off:Nat) (xs ys:List Tree),cO off (xs++ys)=cO off xs++cO (off+bC xs) ys
 |off,[],ys=>by simp[cO,bC]
 |off,k::r,ys=>by simp[cO,bC,CN _ r ys,aer]
theorem AY:∀(off:Nat) (xs:List Tree),∀k∈cO off xs,k<off+bC xs
 |_,[],k,h=>by simp[cO] at h
 |off,x::r,k,h=>by
  simp only[cO,adz] at h;have:=x.dH;simp only[bC];rcases h with rfl|h
  ·omega
  have:=AY _ r k h;omega
def zk (name:Bs) (k:Tree):Bool:=o5 k.text k.s name
def vX {n:Nat} {q:Int} {y:Tree} (h:Sub 0 (-1) t n q y) (name:Bs) {a b:List Tree} {k:Tree} (hk:y.kids=a++k::b):nj (aK t) name (n+1+bC a)=zk name k:=by
 have hs:Sub 0 (-1) t (n+1+bC a) n k:=h.trans (.BS a b k hk (.self _ _ _));unfold nj;rw[hs.at];rfl
def Lf {n:Nat} {q:Int} {y:Tree} (h:Sub 0 (-1) t n q y) (name:Bs) {a b:List Tree} {k:Tree} (hk:y.kids=a++k::b) :
  vV (aK t) n name (n+1+bC a)=(a.filter (zk name)).length+if zk name k then 1 else 0:=by
 rw[Le,E9 h,hk,CN,aeO];have Dn:=k.dH;have e1:(cO (n+1) a).filter (fun x=>decide (x≤n+1+bC a))=cO (n+1) a:=by
  rw[agX];intro x hx;have:=AY _ a x hx;simp;omega
 have e2:(cO (n+1+bC a) (k::b)).filter (fun x=>decide (x≤n+1+bC a))=[n+1+bC a]:=by
  simp only[cO];rw[agA (by simp)];congr 1;rw[aeI];intro x hx;have:=tp _ b x hx;simp;omega
 rw[e1,e2,aeO];have e3:∀(c a':List Tree),y.kids=a'++c++(k::b)→((cO (n+1+bC a') c).filter (nj (aK t) name)).length=(c.filter (zk name)).length:=by
  intro c;induction c with
  |nil=>intro a' _;rfl
  |cons z c ih=>
  intro a' he;simp only[cO,aeo];rw[vX h name (a:=a') (b:=c++k::b) (k:=z) (by rw[he];simp)];have:=ih (a'++[z]) (by rw[he];simp);rw[jt] at this;simp only[bC,ae0] at this;rw[show n+1+bC a'+z.fI=n+1+(bC a'+z.fI) by omega];split<;>simp[this]
 have:=e3 a [] (by rw[hk];simp);simp only[bC,ae0] at this;rw[adE,this,aeo,vX h name hk];split<;>simp
theorem AZ:∀(l:List Step) (n:Nat) (q:Int) (y:Tree) (pre:List Step),Sub 0 (-1) t n q y→fB (aK t) pre n=true →
  qI (aK t) [(n:Int)] l=((List.range' n y.fI).filter (fB (aK t) (l.reverse++pre))).map fun k:Nat=>(k:Int)
 |[],n,q,y,pre,hs,hm=>by
  have hd:=nY pre n q y hs hm;have hc:=y.dH;simp only[qI,List.reverse_nil,aec];rw[show y.fI=(y.fI - 1)+1 by omega,agy,aeo,adv hm];have:(List.range' (n+1) (y.fI - 1)).filter (fB (aK t) pre)=[]:=by
   rw[aeI];intro k hk Uc;simp only[af5] at hk;obtain⟨r,z,hz⟩:=DM hs (k:=k) (by omega) (by omega);have h1:=nY pre k r z (hs.trans hz) Uc;have h2:=Fo hs k r z hz (by omega);omega
  rw[this];rfl
 |s::l,n,q,y,pre,hs,hm=>by
  have hd:=nY pre n q y hs hm;have Sb:pre≠[]:=by rintro rfl;simp[fB] at hm
  have zG:rr (aK t) (n:Int)=aV (n+1) y.kids:=by unfold rr;rw[ag9,hs.at];rfl
  have e1:qI (aK t) [(n:Int)] (s::l)=(c_ (aK t) s 0 (aV (n+1) y.kids)).flatMap fun m=>qI (aK t) [m] l:=by
   simp only[qI,aeK,afG,adN,zG];exact Cy _ _ _
  have e2:(s::l).reverse++pre=l.reverse++(s::pre):=by simp
  rw[e1,e2,y.kc,agy,aeo];have qX:fB (aK t) (l.reverse++(s::pre)) n=false:=by
   cases h:fB (aK t) (l.reverse++(s::pre)) n with
   |false=>rfl
   |true=>
   have:=nY _ n q y hs h;simp at this;omega
  rw[ag8 (by rw[qX];simp)];have kids:∀(b a:List Tree),y.kids=a++b →
    (c_ (aK t) s (a.filter (zk s.name)).length (aV (n+1+bC a) b)).flatMap (fun m=>qI (aK t) [m] l) =
     ((List.range' (n+1+bC a) (bC b)).filter (fB (aK t) (l.reverse++(s::pre)))).map fun k:Nat=>(k:Int):=by
   intro b;induction b with
   |nil=>intro a _;simp[aV,c_,bC]
   |cons k b ihb=>
   intro a hk;have Sc:Sub 0 (-1) t (n+1+bC a) n k:=hs.trans (.BS a b k hk (.self _ _ _));have BE:=vX hs s.name hk;have Lg:=Lf hs s.name hk;have Uc:fB (aK t) (s::pre) (n+1+bC a)=(zk s.name k&&(s.n==0||s.n==(((a.filter (zk s.name)).length+1:Nat):Int))):=by
    rw[rZ Sc.at (p:=(n:Int)) rfl,BE,ag8 (by omega),ag9,hm,Lg];cases hf:zk s.name k with
    |false=>simp
    |true=>
    cases pre with
    |nil=>exact absurd rfl Sb
    |cons _ _=>simp
   have ih:=ihb (a++[k]) (by rw[hk];simp);rw[jt,aeO] at ih;simp only[bC,ae0] at ih;rw[←aer] at ih;simp only[bC];have WC:List.range' (n+1+bC a) (k.fI+bC b)=List.range' (n+1+bC a) k.fI++List.range' (n+1+bC a+k.fI) (bC b):=by
    have:=(List.range'_append_1 (s:=n+1+bC a) (m:=k.fI) (n:=bC b));exact this.symm
   rw[WC,aeO,aeQ];simp only[aV];rw[AU (tx:=k.text) (sx:=k.s) Sc.at rfl rfl];have aad:fB (aK t) (s::pre) (n+1+bC a)=false→(List.range' (n+1+bC a) k.fI).filter (fB (aK t) (l.reverse++(s::pre)))=[]:=by
    intro hf;rw[aeI];intro j hj hmj;simp only[af5] at hj;obtain⟨r,z,hz⟩:=DM Sc (k:=j) (by omega) (by omega);have hdk:x6 (aK t) (n+1+bC a)=(s::pre).length:=by
     rcases zF Sc with⟨_,e,_⟩|⟨m,e3,e4,e5⟩
     ·omega
     have:m=n:=(by omega);subst this;simp;omega
    have:=AX Sc hdk l.reverse j r z hz hmj;rw[hf] at this;cases this
   by_cases hf:o5 k.text k.s s.name=true
   ·rw[adv hf];have IT:zk s.name k=true:=hf;rw[IT] at Uc;simp only[afJ] at Uc;rw[aeo,adv IT] at ih;simp only[afo,adE,adK,aek,adC] at ih;by_cases hn:s.n=0∨s.n=(((a.filter (zk s.name)).length+1:Nat):Int)
    ·rw[adv hn];have Yb:fB (aK t) (s::pre) (n+1+bC a)=true:=by
      rw[Uc];simp only[aeJ,aep];exact hn
     rw[aeK,AZ l _ n k (s::pre) Sc Yb,ih]
    rw[ag8 hn];have hmf:fB (aK t) (s::pre) (n+1+bC a)=false:=by
     rw[Uc];simp only[not_or] at hn;simp only[ae5,aew];exact hn
    rw[aad hmf,ih];rfl
   rw[ag8 hf];have IT:zk s.name k=false:=(by simpa[zk] using hf);rw[IT] at Uc;rw[aeo,ag8 (by rw[IT];simp)] at ih;simp only[afo,adE,aek,ae0] at ih;rw[aad (by rw[Uc];rfl),ih];rfl
  have:=kids y.kids [] rfl;simp only[afo,aek,bC,ae0] at this;exact this
def BV (l:List Step) (hl:l≠[]):ew (aK t) l=((List.range (aK t).length).filter (fB (aK t) l.reverse)).map fun k:Nat=>(k:Int):=by
 cases l with
 |nil=>exact absurd rfl hl
 |cons s l=>
 have hs:Sub 0 (-1) t 0 (-1) t:= .self _ _ _;have G5:=hs.at;have hm:fB (aK t) [s] 0=(o5 t.text t.s s.name&&(s.n==0||s.n==1)):=by
  rw[rZ G5 (p:= -1) rfl];have h1:nj (aK t) s.name 0=o5 t.text t.s s.name:=by unfold nj;rw[G5];rfl
  have h2:vV (aK t) (-1) s.name 0=if o5 t.text t.s s.name then 1 else 0:=by
   unfold vV;have hip:AG (aK t) (-1) 0=true:=(by unfold AG;rw[G5];rfl);rw[List.range_one,aeo,hip,h1];by_cases h:o5 t.text t.s s.name=true<;>simp[h]
  rw[h1,h2,adv (by omega)];by_cases h:o5 t.text t.s s.name=true<;>simp[h]
 have Sd:c_ (aK t) s 0 [0]=if fB (aK t) [s] 0=true then [0] else []:=by
  rw[show [(0:Int)]=[((0:Nat):Int)] from rfl,AU (tx:=t.text) (sx:=t.s) G5 rfl rfl];simp only[hm];by_cases h:o5 t.text t.s s.name=true
  ·rw[adv h];simp only[h,afJ,aeJ,aep,c_];by_cases hn:s.n=0∨s.n=1
   ·rw[adv (by simpa using hn),adv hn]
   rw[ag8 (by simpa using hn),ag8 hn]
  rw[ag8 h];simp[h,c_]
 show qI (aK t) (c_ (aK t) s 0 [0]) l=_;rw[Sd,jU,agO];have e:(s::l).reverse=l.reverse++[s]:=by simp
 rw[e];by_cases h:fB (aK t) [s] 0=true
 ·rw[adv h];exact AZ l 0 (-1) t [s] hs h
 rw[ag8 h,AF];have hd:x6 (aK t) 0=[s].length:=by
  rcases zF hs with⟨_,_,e⟩|⟨m,e,_⟩
  ·exact e
  omega
 have:(List.range' 0 t.fI).filter (fB (aK t) (l.reverse++[s]))=[]:=by
  rw[aeI];intro j hj hmj;simp only[af5] at hj;obtain⟨r,z,hz⟩:=DM hs (k:=j) (by omega) (by omega);exact h (AX hs hd l.reverse j r z hz hmj)
 rw[this];rfl
end

def Step.bw (x:Step):x.iv.cells=x.cs:=rfl
def Oh (l:List Step):ko 2 (l.map Step.iv):=by
 intro y hy;obtain⟨x,_,rfl⟩:=adY.1 hy;rfl
def WG (l:List Step):Flat (l.map Step.iv):=by
 intro y hy z hz cs;obtain⟨x,_,rfl⟩:=adY.1 hy;simp only[Step.bw,Step.cs,adz,adG,adO] at hz;rcases hz with rfl|rfl<;>simp
def Ud (l:List Step) (i:Nat):(l.map Step.iv)[i]?=(l[i]?).map Step.iv:=adX ..
section
variable {P:Program} {G:Nat→Option (List IV)}
def tF:AC:=
(ay [oN 2 0,oN 3 1,jK 4 false] (.seq (ay [b7 5 3 0,cS 6 5,aE 7 (.bin .eql (.t 6) (.c (.str []))),af 8 7,j3 9 8 2 0,jP 10 8 9,nC 11 8 10] (.cond (.t 11) (ay [b7 12 3 0,cS 13 12,aE 14 (.bin .eql (.t 13) (.c (.str []))),af 15 14,iu 16 15 2 0,ir 17 15 16,l7 18 15 17,af 4 18] .ret) .skip)) (ay [b7 19 3 0,cS 20 19,aE 21 (.bin .eql (.t 20) (.c (.str [42]))),af 22 21,j3 23 22 3 0,jP 24 22 23,j3 25 22 2 1,jP 26 22 25,hQ 27 22 (.bin .eql (.t 24) (.t 26)),nC 28 22 27,af 4 28] .ret)))
def aae {lj:Nat} (hF:an P G lj=some (29,[(none,4)],tF.bare)) (x:Node) (s:Step):aw P G lj [x.av,s.av] (.bool (o5 x.text x.s s.name)):=by
 refine aM hF (by simp) (by simp[ah,AV.aB,Node.av,Step.av]) (by simp[AV.aB]) ?_;unfold tF o5;simp only[↓aX,mX,seval,Node.av,Step.av];cases h1:(s.name==[]) with
 |true=>
  cases h2:x.text<;>simp only[↓aX,mX,seval,h1,Bool.true_or,afJ]
 |false=>
 cases h2:x.text with
 |true=>simp only[↓aX,mX,seval,h1,Bool.or_true,afw]
 |false=>
 simp only[↓aX,mX,seval,h1,Bool.or_false];cases h3:(s.name==[42])<;>simp only[↓aX,mX,seval,Bool.true_or,agV]
def Fq {d:Doc} {s:Step} {k n:Nat} {r:List Int} {x:Node} (h:d[n]?=some x) :
  c_ d s k ((n:Int)::r)=if o5 x.text x.s s.name then(if s.n=0∨s.n=((k+1:Nat):Int) then(n:Int)::c_ d s (k+1) r else c_ d s (k+1) r) else c_ d s k r:=by
 simp only[c_,ag9,h]
def qL (lj:Nat):AC:=
(ay [oN 3 0,oN 5 2,oQ 6] (ay [oQ 7] (.gh (.own 7 1) (ay [eX 8 0] (.seq (ay [af 11 1,ky 12 11,eX 13 0] (.block 0 (.loop (ay [eS 14 .lss 13 12] (.seq (.cond (.t 14) .skip (.exit 0)) (.seq (.block 1 (ay [ig 15 11 13 1,cS 16 15,af 10 16] (.seq (.seq (.fg [b7 17 3 0,cS 18 17,af 19 10,ig 20 18 19 5,gd 21 5 20,gd 22 2 5,aE 23 (.call lj [(.t 21),(.t 22)]),uk 24 23] [[],[0],[],[1,2],[3],[],[4,5],[6]] [.no,.rw [.loc 3] [],.no,.no,.no,.rw [.loc 5] [],.no,.no]) (.cond (.t 24) (.exit 1) .skip)) (ay [af 25 8,db 26 .add 25 1,af 8 26] (ay [b7 27 5 1,cS 28 27,db 29 .eql 28 0,af 30 29,j3 31 30 5 1,jP 32 30 31,gj 33 30 8,hQ 34 30 (.bin .eql (.t 32) (.t 33)),nC 35 30 34] (.cond (.t 35) (.ec [af 36 7,af 37 10,aE 38 (.lits 1 1 [(.int .i64 0)] [(0,(.t 37))]),aE 39 (.app (.t 36) (.t 38) 1 8),af 7 39]) .skip)))))) (.ec [db 40 .add 13 1,af 13 40]))))))) (.gh (.Ch (.loc 7) 7) (ay [af 41 7,af 6 41] .ret)))))))
structure ChS (d:Doc) (s:Step) (l:List Int) where
 i:Nat
 k:Nat
 a:List Int
 hi:i≤l.length
 hk:k≤i
 ha:a.length≤i
 h:c_ d s 0 l=a++c_ d s k (l.drop i)
def Fs (d:Doc) (s:Step) (l:List Int) (q:ChS d s l):List (Nat×AV):=
 [(3,.ptr (.loc 3) 1 0 0),(5,.ptr (.loc 5) 2 0 0),(7,.sl (.loc 7) 1 0 q.a.length),(8,.int .i64 q.k),(11,.list (l.map aW)),(12,.int .i64 l.length),(13,.int .i64 q.i)]
def Ft (d:Doc) (s:Step) (l:List Int) (q:ChS d s l):List (Lb×Row):=
 [(.loc 3,⟨1,[[.list (d.map Node.iv)]]⟩),(.loc 5,⟨2,[[.str s.name,.int .i64 s.n]]⟩),(.loc 7,⟨1,ar (q.a.map aW)⟩)]
theorem vY (d:Doc) (s:Step):∀(l:List Int) (k:Nat),(c_ d s k l).length≤l.length
 |[],_=>by simp[c_]
 |n::r,k=>by
  have h1:=vY d s r k;have h2:=vY d s r (k+1);simp only[c_];split
  ·split
   ·split<;>simp<;>omega
   simp;omega
  simp;omega
def Se {iF lj:Nat} (hF:an P G iF=some (42,[(none,6)],(qL lj).bare)) (d:Doc) (hd:rq d≤B) (s:Step) (l:List Int) (hl:l.length≤B) (hm:∀n∈l,0≤n∧n<(d.length:Int))
  (hX:∀x∈d,aw P G lj [x.av,s.av] (.bool (o5 x.text x.s s.name))) :
  aw P G iF [Doc.av d,.list (l.map aW),s.av] (.list ((c_ d s 0 l).map aW)):=by
 refine aM hF (by simp) (by simp[ah,AV.aB,Doc.av,Step.av]) (by simp[AV.aB]) ?_;have nM:B=1073741824:=rfl;unfold qL;simp only[Node.av,Step.av] at hX;simp only[↓aX,mX,seval,Doc.av,Step.av,ag5];refine jj (σ:=ChS d s l) (fun _=>[.loc 3,.loc 5,.loc 7]) (fun _ _=>false) (Fs d s l) (Ft d s l) (fun q=>l.length - q.i) ⟨0,0,[],by omega,by omega,by simp,by simp⟩ (fun _=>rfl)
  (fun q=>by simp[ah,AV.aB,Fs]) ?_ ⟨[],?_⟩ ?_
 ·intro q r hr cs bS z hz;simp only[Ft,adz,adG,adO] at hr;rcases hr with rfl|rfl|rfl
  ·simp only[adr] at bS;subst bS;simp[ah,AV.aB] at hz
  ·simp only[adr] at bS;subst bS;simp[ah,AV.aB] at hz
  rw[bT bS] at hz;simp at hz
 ·refine⟨?_,?_,?_,by simp[bZ],fun l _=>⟨id,fun _=>rfl⟩⟩
  ·intro l hf hu;exfalso;apply hu;cases l<;>simp_all[Lb.fresh,ae,Hp.none]
  ·simp[kv,bZ,e7,put,Fs]
  simp[qe,bZ,ae,cV,aY,e7,ar,Ft]
 rintro⟨i,k,a,hi,hk,ha,h⟩;rw[vt];simp only[↓aX,mX,seval,Fs,Ft,ed,dk,ag5];by_cases bO:i<l.length
 ·rw[show decide (((i:Nat):Int)<((l.length:Nat):Int))=true by simpa using bO];obtain⟨n0,qX⟩:∃n,l[i]?=some n:=⟨_,ag7 bO⟩;obtain⟨h0,h1⟩:=hm n0 (adu qX);obtain⟨n,rfl⟩:=afH h0;obtain⟨x,hx⟩:∃x,d[n]?=some x:=⟨_,ag7 (by omega)⟩;have hw:IntKind.i64.wrap ((i:Int)+1)=((i+1:Nat):Int):=wrap64 (by omega) (by omega);have Mw:IntKind.i64.wrap ((k:Int)+1)=((k+1:Nat):Int):=wrap64 (by omega) (by omega);have mZ:=Fq (s:=s) (k:=k) (r:=l.drop (i+1)) hx;rw[drop_eq qX] at h;have hr:∀(ρ:Lb→Lb) (xs:List IV),cV ρ ⟨1,ar xs⟩=⟨1,ar xs⟩:=fun ρ xs=>b5 _ _ _;simp only[↓aX,mX,seval,xT,qX,rj,adB,AS,ag9,Doc.vS hx,tl,Node.bw,Node.cs,adt,ag5];refine⟨rfl,gJ (hX x (adu hx)) ?_⟩;cases hf:o5 x.text x.s s.name with
  |false=>
   rw[hf,ag8 (by decide)] at mZ;simp only[↓aX,mX,seval,adI,hw];refine⟨⟨i+1,k,a,by omega,by omega,by omega,by rw[h,mZ]⟩,by simp only;omega,[],?_⟩;refine⟨?_,?_,?_,by simp[bZ],fun l _=>⟨id,fun _=>rfl⟩⟩
   ·intro l hf hu;exfalso;apply hu;cases l<;>simp_all[Lb.fresh,ae,Hp.none]
   ·simp[kv,bZ,e7,put,Fs]
   simp only[qe,hr,Ft];simp[bZ,ae,cV,aY,e7]
  |true=>
  rw[hf,adv rfl] at mZ;simp only[↓aX,mX,seval,adL,Mw];cases e1:(s.n==0) with
  |true=>
   rw[adv (.inl (by simpa using e1))] at mZ;simp only[↓aX,mX,seval];rw[gU 1 8 39 7 (a.map aW) (.int .i64 (n:Int)) (by simp[ae]) (by simp) rfl (by simp[IV.cells]) (by omega) (by decide) (by decide) (by simp[ae,Hp.none])];simp only[↓aX,mX,seval,hw];refine⟨⟨i+1,k+1,a++[(n:Int)],by omega,by omega,by simp;omega,by rw[h,mZ];simp⟩,by simp only;omega,[(.loc 7,.loc 39)],?_⟩;refine⟨?_,?_,?_,by simp[bZ],?_⟩
   ·intro l hf hu;exfalso;apply hu;cases l<;>simp_all[Lb.fresh,ae,Hp.none]
   ·simp[kv,bZ,e7,put,Fs]
   ·simp only[qe,hr,Ft,aeQ];simp[bZ,ae,cV,aY,e7,iN,aW]
   intro l hl;simp only[adz,adG,adO] at hl;rcases hl with rfl|rfl|rfl
   ·exact⟨fun _=>rfl,fun _=>rfl⟩
   ·exact⟨fun _=>rfl,fun _=>rfl⟩
   exact⟨fun _=>rfl,fun h=>by simp[Lb.fresh] at h⟩
  |false=>
  have e1':s.n≠0:=by simpa using e1
  simp only[↓aX,mX,seval];cases e2:(s.n==((k+1:Nat):Int)) with
  |true=>
   rw[adv (.inr (by simpa using e2))] at mZ;simp only[↓aX,mX,seval];rw[gU 1 8 39 7 (a.map aW) (.int .i64 (n:Int)) (by simp[ae]) (by simp) rfl (by simp[IV.cells]) (by omega) (by decide) (by decide) (by simp[ae,Hp.none])];simp only[↓aX,mX,seval,hw];refine⟨⟨i+1,k+1,a++[(n:Int)],by omega,by omega,by simp;omega,by rw[h,mZ];simp⟩,by simp only;omega,[(.loc 7,.loc 39)],?_⟩;refine⟨?_,?_,?_,by simp[bZ],?_⟩
   ·intro l hf hu;exfalso;apply hu;cases l<;>simp_all[Lb.fresh,ae,Hp.none]
   ·simp[kv,bZ,e7,put,Fs]
   ·simp only[qe,hr,Ft,aeQ];simp[bZ,ae,cV,aY,e7,iN,aW]
   intro l hl;simp only[adz,adG,adO] at hl;rcases hl with rfl|rfl|rfl
   ·exact⟨fun _=>rfl,fun _=>rfl⟩
   ·exact⟨fun _=>rfl,fun _=>rfl⟩
   exact⟨fun _=>rfl,fun h=>by simp[Lb.fresh] at h⟩
  |false=>
  have e2':s.n≠((k+1:Nat):Int):=by simpa using e2
  rw[ag8 (by simp only[not_or];exact⟨e1',e2'⟩)] at mZ;simp only[↓aX,mX,seval,hw];refine⟨⟨i+1,k+1,a,by omega,by omega,by omega,by rw[h,mZ]⟩,by simp only;omega,[],?_⟩;refine⟨?_,?_,?_,by simp[bZ],fun l _=>⟨id,fun _=>rfl⟩⟩
  ·intro l hf hu;exfalso;apply hu;cases l<;>simp_all[Lb.fresh,ae,Hp.none]
  ·simp[kv,bZ,e7,put,Fs]
  simp only[qe,hr,Ft];simp[bZ,ae,cV,aY,e7]
 have qV:l.drop i=[]:=aeC (by omega);rw[qV] at h;simp only[c_,adN] at h;rw[show decide (((i:Nat):Int)<((l.length:Nat):Int))=false by simpa using bO];simp only[↓aX,mX,seval];refine⟨1,a.map aW,0,a.length,rfl,rfl,by simp,oy _,?_⟩;simp only[↓aX,mX,seval,ad1,ads (show(a.map aW).length≤a.length by simp),h]
end

def Oi {t:Tree}:1≤(aK t).length:=by rw[jU];exact t.dH

section
variable {P:Program} {G:Nat→Option (List IV)}
def tG (dU:Nat):AC:=
(ay [jK 2 false] (.seq (ay [af 5 0,ky 6 5,eX 7 0] (.block 0 (.loop (ay [eS 8 .lss 7 6] (.seq (.cond (.t 8) .skip (.exit 0)) (.seq (.block 1 (ay [ig 9 5 7 2,gd 10 2 9,aE 4 (.new [(.str []),(.int .i64 0)]),dT (.store 2 (.t 4) (.t 10))] (ay [b7 11 4 0,cS 12 11,aE 13 (.bin .neq (.t 12) (.c (.str []))),af 14 13,iu 15 14 4 0,ir 16 14 15,eP 17 14 (.bin .neq (.t 16) (.c (.str [42]))),l7 18 14 17,af 19 18,iu 20 19 4 0,ir 21 19 20,eP 22 19 (.call dU [(.t 21)]),eP 23 19 (.not (.t 22)),l7 24 19 23,af 25 24,j3 26 25 4 1,jP 27 25 26,hQ 28 25 (.bin .lss (.t 27) (ij 0)),nC 29 25 28,af 30 29,j3 31 30 4 1,jP 32 30 31,hQ 33 30 (.bin .gtr (.t 32) (ij 99)),nC 34 30 33] (.cond (.t 34) (ay [jK 2 false] .ret) .skip)))) (.ec [db 35 .add 7 1,af 7 35]))))))) (ay [af 36 0,ky 37 36,db 38 .geq 37 1,af 39 38,eJ 40 39 0,eP 41 39 (.len (.t 40)),eP 42 39 (.bin .leq (.t 41) (ij 5)),l7 43 39 42,af 2 43] .ret)))
def CO {gH dU:Nat} (hF:an P G gH=some (44,[(none,2)],(tG dU).bare)) (l:List Step) (hl:l.length≤B) (hN:∀x∈l,aw P G dU [.str x.name] (.bool (named x.name))) :
  aw P G gH [.list (l.map Step.iv)] (.bool (gN l)):=by
 refine aM hF (by simp) (by simp[ah,AV.aB]) (by simp[AV.aB]) ?_;have nM:B=1073741824:=rfl;unfold tG;simp only[↓aX,mX,seval,ag5];refine mK (σ:={i:Nat // i≤l.length∧∀x∈l.take i,qH x=true}) (fun q=>[(0,.list (l.map Step.iv)),(5,.list (l.map Step.iv)),(6,.int .i64 l.length),(7,.int .i64 q.1)]) (fun q=>l.length - q.1) ⟨0,by simp⟩ (fun _=>rfl) ?_ ?_
 ·exact⟨by simp only[↓aX,mX,seval],by repeat' constructor⟩
 rintro⟨i,hi,hs⟩;simp only[↓aX,mX,seval,ag5];by_cases bO:i<l.length
 ·rw[show decide ((i:Int)<(l.length:Int))=true by simpa using bO];obtain⟨x,hx⟩:∃x,l[i]?=some x:=⟨_,ag7 bO⟩;have Yh:=adu hx;have hw:IntKind.i64.wrap ((i:Int)+1)=((i+1:Nat):Int):=wrap64 (by omega) (by omega);have stop:qH x=false→gN l=false:=fun h=>by
   unfold gN;rw[show l.all qH=false from List.all_eq_false.2 ⟨x,Yh,by simp[h]⟩];rfl
  have next:qH x=true→∀y∈l.take (i+1),qH y=true:=fun h y hy=>by
   rw[aei,hx] at hy;simp only[afA,adD,adr] at hy;rcases hy with hy|rfl
   ·exact hs y hy
   exact h
  simp only[↓aX,mX,seval,Ud,hx,Oh,adB,Step.bw,Step.cs];have tail:∀b:Bool,(x.name==[]||(x.name==[42]||named x.name))=b→qH x=(b&&(decide (0≤x.n)&&decide (x.n≤99))):=fun b h=>by unfold qH;rw[h]
  cases h1:(x.name==[]) with
  |true=>
   have ht:=tail true (by rw[h1];rfl);simp only[↓aX,mX,seval,adL];by_cases h4:x.n<0
   ·simp only[↓aX,mX,seval,h4,aeB,stop (by rw[ht,ae1 (by omega)];rfl)]
   by_cases h5:99<x.n
   ·simp only[↓aX,mX,seval,h4,aeL,af3,h5,aeB,stop (by rw[ht,ae1 (show ¬x.n≤99 by omega),afR];rfl)]
   simp only[↓aX,mX,seval,h4,aeL,af3,h5,hw];exact⟨⟨i+1,bO,next (by rw[ht,afx (show 0≤x.n by omega),afx (show x.n≤99 by omega)];rfl)⟩,by simp only;omega,rfl⟩
  |false=>
  simp only[↓aX,mX,seval,adI];cases h2:(x.name==[42]) with
  |true=>
   have ht:=tail true (by rw[h1,h2];rfl);simp only[↓aX,mX,seval,adL];by_cases h4:x.n<0
   ·simp only[↓aX,mX,seval,h4,aeB,stop (by rw[ht,ae1 (by omega)];rfl)]
   by_cases h5:99<x.n
   ·simp only[↓aX,mX,seval,h4,aeL,af3,h5,aeB,stop (by rw[ht,ae1 (show ¬x.n≤99 by omega),afR];rfl)]
   simp only[↓aX,mX,seval,h4,aeL,af3,h5,hw];exact⟨⟨i+1,bO,next (by rw[ht,afx (show 0≤x.n by omega),afx (show x.n≤99 by omega)];rfl)⟩,by simp only;omega,rfl⟩
  |false=>
  simp only[↓aX,mX,seval,adI];refine aq (hN x Yh) ?_;cases h3:named x.name with
  |true=>
   have ht:=tail true (by rw[h1,h2,h3];rfl);simp only[↓aX,mX,seval,adL];by_cases h4:x.n<0
   ·simp only[↓aX,mX,seval,h4,aeB,stop (by rw[ht,ae1 (by omega)];rfl)]
   by_cases h5:99<x.n
   ·simp only[↓aX,mX,seval,h4,aeL,af3,h5,aeB,stop (by rw[ht,ae1 (show ¬x.n≤99 by omega),afR];rfl)]
   simp only[↓aX,mX,seval,h4,aeL,af3,h5,hw];exact⟨⟨i+1,bO,next (by rw[ht,afx (show 0≤x.n by omega),afx (show x.n≤99 by omega)];rfl)⟩,by simp only;omega,rfl⟩
  |false=>
  have ht:=tail false (by rw[h1,h2,h3];rfl);simp only[↓aX,mX,seval,adI,stop ht]
 have qV:l.take i=l:=ads (by omega);have fX:l.all qH=true:=aeg.2 fun x hx=>hs x (by rw[qV];exact hx);rw[show decide ((i:Int)<(l.length:Int))=false by simpa using bO];simp only[↓aX,mX,seval,ag5];by_cases h1:1≤l.length
 ·by_cases h2:l.length≤5
  ·simp only[↓aX,mX,seval,show((l.length:Int)≥1) by omega,aeB,ag5,show((l.length:Int)≤5) by omega,gN,fX,h1,h2,agU]
  simp only[↓aX,mX,seval,show((l.length:Int)≥1) by omega,aeB,ag5,show ¬((l.length:Int)≤5) by omega,gN,fX,h1,h2,aeL,afR]
 simp only[↓aX,mX,seval,show ¬((l.length:Int)≥1) by omega,aeL,gN,fX,h1,afR,afw]
def Oj (d:Doc) (l:List Step) (s:Step) (hl:l≠[]):ew d (l++[s])=(ew d l).flatMap fun n=>c_ d s 0 (rr d n):=by
 match l,hl with
 |t::r,_=>simp only[adR,ew,Cz]
def DN {d:Doc} (hi:cW d=true) {l:List Step} (hl:l≠[]):(ew d l).length≤d.length∧∀n∈ew d l,0≤n∧n<(d.length:Int):=by
 obtain⟨t,ht,rfl⟩:=hZ.1 hi;rw[BV l hl];constructor
 ·rw[ag5];refine aeZ (List.length_filter_le _ _) ?_;simp
 intro n hn;obtain⟨k,hk,rfl⟩:=adY.1 hn;have:=af4.1 (aey.1 hk).1;omega
def Ok {d:Doc} (hi:cW d=true) {n:Nat} {x:Node} (h:d[n]?=some x):∀k∈x.kids,0≤k∧k<(d.length:Int):=by
 obtain⟨t,ht,rfl⟩:=hZ.1 hi;have bO:=(ag6.1 h).1;obtain⟨q,y,l,s⟩:=wL bO;have hn:=l.node;rw[h] at hn;have hk:x.kids=aV (n+1) y.kids:=by simp only[jl] at hn;rw[hn];rfl
 intro k MP;rw[hk,←xS] at MP;obtain⟨m,hm,rfl⟩:=adY.1 MP;have h1:=AY _ _ m hm;have h2:=l.len;have h3:=y.kc;omega
def Lh {α:Type} (f:Int→List α) (l:List Int) (i:Nat):((l.take i).flatMap f).length≤(l.flatMap f).length:=by
 conv=>rhs;rw[←ad0 i l,afe,adE]
 omega
def Li {α:Type} (f:Int→List α) {l:List Int} {i:Nat} {n:Int} (h:l[i]?=some n):(l.take (i+1)).flatMap f=(l.take i).flatMap f++f n:=by
 rw[aei,h,afe];simp
noncomputable def gm (d:Doc) (l:List Step):List Int×Int:=if cW d=true∧gN l=true then(ew d l,0) else([],1)
def qM (bX gH iF:Nat):AC:=
(ay [oN 2 0,oQ 4,eX 5 0] (.seq (ay [gd 12 1 2,aE 13 (.call bX [(.t 12)]),uk 14 13,af 15 14,gj 16 15 1,hQ 17 15 (.call gH [(.t 16)]),hQ 18 15 (.not (.t 17)),nC 19 15 18] (.cond (.t 19) (ay [oQ 4,eX 5 1] .ret) .skip)) (.seq (.fg [gd 20 1 2,aE 21 (.lits 1 1 [(.int .i64 0)] [(0,(ij 0))]),af 22 1,aE 23 (.Dg (.t 22) (ij 0) 2),gd 24 2 23,aE 25 (.call iF [(.t 20),(.t 21),(.t 24)]),af 6 25] [[],[],[],[2],[3],[0,1,4],[5,5,0,1,2,3,4,5]] [.rw [.loc 2] [],.no,.no,.no,.no,.no,.no]) (.seq (ay [af 26 1,aE 27 (.qd (.t 26) (some (ij 1)) none none 2),ky 28 27,eX 29 0] (.block 0 (.loop (ay [eS 30 .lss 29 28] (.seq (.cond (.t 30) .skip (.exit 0)) (.seq (.block 1 (ay [ig 31 27 29 2,gd 32 2 31,aE 8 (.new [(.str []),(.int .i64 0)]),dT (.store 2 (.t 8) (.t 32))] (ay [oQ 9] (.gh (.own 9 1) (.seq (ay [af 33 6,ky 34 33,eX 35 0] (.block 2 (.loop (ay [eS 36 .lss 35 34] (.seq (.cond (.t 36) .skip (.exit 2)) (.seq (.block 3 (ay [ig 37 33 35 1,cS 38 37,af 11 38] (.fg [af 39 9,gd 40 1 2,b7 41 2 0,cS 42 41,af 43 11,ig 44 42 43 5,b7 45 44 4,cS 46 45,gd 47 2 8,aE 48 (.call iF [(.t 40),(.t 46),(.t 47)]),aE 49 (.app (.t 39) (.t 48) 1 8),af 9 49] [[],[],[],[2],[],[3,4],[5],[6],[],[1,7,8],[0,9,9],[10,10,0,1,2,3,4,5,6,7,8,9,10]] [.no,.rw [.loc 2] [],.no,.rw [.loc 2] [],.no,.no,.no,.no,.rw [.loc 8] [],.no,(.rw [] [.loc 9,.loc 49]),.no]))) (.ec [db 50 .add 35 1,af 35 50]))))))) (.gh (.Ch (.loc 9) 9) (.ec [af 51 9,af 6 51]))))))) (.ec [db 52 .add 29 1,af 29 52]))))))) (ay [af 53 6,af 4 53,eX 5 0] .ret)))))
def Sf {jE bX gH iF:Nat} (hF:an P G jE=some (54,[(none,4),(none,5)],(qM bX gH iF).bare)) (d:Doc) (hd:rq d≤B) (l:List Step) (hl:l.length≤B)
  (hG:aw P G bX [Doc.av d] (.bool (cW d))) (hP:aw P G gH [.list (l.map Step.iv)] (.bool (gN l)))
  (hC:∀s∈l,∀ks:List Int,ks.length≤B→(∀n∈ks,0≤n∧n<(d.length:Int))→aw P G iF [Doc.av d,.list (ks.map aW),s.av] (.list ((c_ d s 0 ks).map aW))) :
  aw P G jE [Doc.av d,.list (l.map Step.iv)] (.dM [.list ((gm d l).1.map aW),.int .i64 (gm d l).2]):=by
 refine iC hF (by simp) (by simp[ah,AV.aB,Doc.av]) (by simp[AV.aB,ah]) ?_;have nM:B=1073741824:=rfl;have Mx:=uF d;unfold qM;simp only[Doc.av] at hG hC;simp only[↓aX,mX,seval,Doc.av];refine aq hG ?_;cases hi:cW d with
 |false=>
  have e:gm d l=([],1):=by unfold gm;rw[ag8 (by simp[hi])]
  simp only[↓aX,mX,seval,adI,↓eQ,e];rfl
 |true=>
 simp only[↓aX,mX,seval,adL];refine aq hP ?_;cases hg:gN l with
 |false=>
  have e:gm d l=([],1):=by unfold gm;rw[ag8 (by simp[hg])]
  simp only[↓aX,mX,seval,adI,↓eQ,e];rfl
 |true=>
 have e:gm d l=(ew d l,0):=by unfold gm;rw[adv ⟨hi,hg⟩]
 have hlen:1≤l.length:=by unfold gN at hg;simp only[ady,adM] at hg;exact hg.2.1
 obtain⟨t,ht,Yg⟩:=hZ.1 hi;have hd1:1≤d.length:=by rw[Yg];exact Oi
 obtain⟨s0,r,rfl⟩:∃s0 r,l=s0::r:=by cases l with|nil=>simp at hlen|cons a r=>exact⟨a,r,rfl⟩
 have EG:=hC s0 (by simp) [0] (by simp[nM]) (by intro n hn;simp only[adr] at hn;subst hn;omega);simp only[ad5,aeW,aW,Step.av] at EG;have oS:=Oh (s0::r);simp only[ad5] at oS;simp only[↓aX,mX,seval,adL,ad5,aem,oS,Step.bw,Step.cs];refine⟨rfl,gJ EG ?_⟩;have ab8:((s0.iv::r.map Step.iv).take (s0.iv::r.map Step.iv).length).drop 1=r.map Step.iv:=by rw[aee];rfl
 simp only[↓aX,mX,seval,nG,rK,mW,xI,show(1:Int).toNat=1 from rfl,show(0:Int)≤1 by decide,adF,adK,ag5,show 1≤r.length+1 by omega,adA,adB,oS,reduceCtorEq,ab8];have ff:∀j,s0::r.take j≠[]:=fun j=>by simp
 refine jj (σ:={j:Nat // j≤r.length}) (fun _=>[.loc 2]) (fun _ _=>false)
  (fun q=>[(2,.ptr (.loc 2) 1 0 0),(6,.list ((ew d (s0::r.take q.1)).map aW)),(27,.list (r.map Step.iv)),(28,.int .i64 r.length),(29,.int .i64 q.1)])
  (fun q=>[(.loc 2,⟨1,[[.list (d.map Node.iv)]]⟩)]) (fun q=>r.length - q.1) ⟨0,ad3 _⟩ (fun _=>rfl) (fun q=>by simp[ah,AV.aB]) ?_ ⟨[],?_⟩ ?_
 ·intro q w hw cs bS z hz;simp only[adr] at hw;subst hw;simp only[adr] at bS;subst bS;simp[ah,AV.aB] at hz
 ·refine⟨?_,?_,?_,by simp[bZ],fun l _=>⟨id,fun _=>rfl⟩⟩
  ·intro l hf hu;exfalso;apply hu;cases l<;>simp_all[Lb.fresh,ae,Hp.none]
  ·simp[kv,bZ,e7,put,ew,qI];exact ads (by simp)
  simp[qe,bZ,ae,cV,aY,e7]
 rintro⟨j,hj⟩;rw[vt];obtain⟨Ol,fl⟩:=DN hi (ff j);simp only[↓aX,mX,seval,ed,dk,ag5];by_cases bO:j<r.length
 ·rw[show decide (((j:Nat):Int)<((r.length:Nat):Int))=true by simpa using bO];obtain⟨s,hs⟩:∃s,r[j]?=some s:=⟨_,ag7 bO⟩;have aaf:s∈s0::r:=afT _ (adu hs);have hw:IntKind.i64.wrap ((j:Int)+1)=((j+1:Nat):Int):=wrap64 (by omega) (by simp only[adK] at hl;omega);have o4:ew d (s0::r.take (j+1))=(ew d (s0::r.take j)).flatMap fun n=>c_ d s 0 (rr d n):=by
   rw[aei,hs,←Oj d _ s (ff j)];rfl
  have Dp:=(DN hi (ff (j+1))).1;rw[o4] at Dp;simp only[↓aX,mX,seval,Ud,hs,Oh,adB,Step.bw,Step.cs,ag5];refine jj (σ:={i:Nat // i≤(ew d (s0::r.take j)).length}) (fun _=>[.loc 2,.loc 8,.loc 9]) (fun _ _=>false)
   (fun q=>[(2,.ptr (.loc 2) 1 0 0),(27,.list (r.map Step.iv)),(28,.int .i64 r.length),(29,.int .i64 j),(8,.ptr (.loc 8) 2 0 0),
    (9,.sl (.loc 9) 1 0 (((ew d (s0::r.take j)).take q.1).flatMap fun n=>c_ d s 0 (rr d n)).length),(33,.list ((ew d (s0::r.take j)).map aW)),(34,.int .i64 (ew d (s0::r.take j)).length),(35,.int .i64 q.1)])
   (fun q=>[(.loc 2,⟨1,[[.list (d.map Node.iv)]]⟩),(.loc 8,⟨2,[[.str s.name,.int .i64 s.n]]⟩),(.loc 9,⟨1,ar ((((ew d (s0::r.take j)).take q.1).flatMap fun n=>c_ d s 0 (rr d n)).map aW)⟩)])
   (fun q=>(ew d (s0::r.take j)).length - q.1) ⟨0,ad3 _⟩ (fun _=>rfl) (fun q=>by simp[ah,AV.aB]) ?_ ⟨[],?_⟩ ?_
  ·intro q w hw cs bS z hz;simp only[adz,adG,adO] at hw;rcases hw with rfl|rfl|rfl
   ·simp only[adr] at bS;subst bS;simp[ah,AV.aB] at hz
   ·simp only[adr] at bS;subst bS;simp[ah,AV.aB] at hz
   rw[bT bS] at hz;simp at hz
  ·refine⟨?_,?_,?_,by simp[bZ],fun l _=>⟨id,fun _=>rfl⟩⟩
   ·intro l hf hu;exfalso;apply hu;cases l<;>simp_all[Lb.fresh,ae,Hp.none]
   ·simp[kv,bZ,e7,put]
   simp[qe,bZ,ae,cV,aY,e7,ar]
  rintro⟨i,Eu⟩;rw[vt];have s4:=Lh (fun n=>c_ d s 0 (rr d n)) (ew d (s0::r.take j)) i;simp only[↓aX,mX,seval,ed,dk,ag5];by_cases lA:i<(ew d (s0::r.take j)).length
  ·rw[show decide (((i:Nat):Int)<(((ew d (s0::r.take j)).length:Nat):Int))=true by simpa using lA];obtain⟨n0,qX⟩:∃n,(ew d (s0::r.take j))[i]?=some n:=⟨_,ag7 lA⟩;obtain⟨h0,h1⟩:=fl n0 (adu qX);obtain⟨n,rfl⟩:=afH h0;obtain⟨x,hx⟩:∃x,d[n]?=some x:=⟨_,ag7 (by omega)⟩;have Yq:=zA (adu hx);simp only[Node.wt] at Yq;have hcx:=hC s aaf x.kids (by omega) (Ok hi hx);simp only[Step.av] at hcx;have zG:rr d (n:Int)=x.kids:=(by simp only[rr,ag9,hx]);have BE:=vY d s x.kids 0;have Ap:=Li (fun n=>c_ d s 0 (rr d n)) qX;simp only[zG] at Ap;have Ue:IntKind.i64.wrap ((i:Int)+1)=((i+1:Nat):Int):=wrap64 (by omega) (by omega);have hr:∀(ρ:Lb→Lb) (xs:List IV),cV ρ ⟨1,ar xs⟩=⟨1,ar xs⟩:=fun ρ xs=>b5 _ _ _;simp only[↓aX,mX,seval,xT,qX,rj,adB,AS,ag9,Doc.vS hx,tl,Node.bw,Node.cs,adt,ag5];refine⟨rfl,gJ hcx ?_⟩;simp only[↓aX,mX,seval];rw[Ob 1 8 49 9 ((((ew d (s0::r.take j)).take i).flatMap fun n=>c_ d s 0 (rr d n)).map aW) ((c_ d s 0 x.kids).map aW) (by simp[ae]) (by simp) (rj _) (oy _)
    (by rw[ag5];omega) (by decide) (by decide) (by simp[ae,Hp.none])]
   simp only[↓aX,mX,seval,Ue];refine⟨by rintro l (rfl|rfl)<;>simp[Lb.kQ],⟨i+1,by omega⟩,by simp only;omega,[(.loc 9,.loc 49)],?_⟩;refine⟨?_,?_,?_,by simp[bZ],?_⟩
   ·intro l hf hu;exfalso;apply hu;cases l<;>simp_all[Lb.fresh,ae,Hp.none]
   ·simp only[Ap];simp[kv,bZ,e7,put]
   ·simp only[qe,hr,Ap,aeQ];simp[bZ,ae,cV,aY,e7]
   intro l hl;simp only[adz,adG,adO] at hl;rcases hl with rfl|rfl|rfl
   ·exact⟨fun _=>rfl,fun _=>rfl⟩
   ·exact⟨fun _=>rfl,fun _=>rfl⟩
   exact⟨fun _=>rfl,fun h=>by simp[Lb.fresh] at h⟩
  have qV:(ew d (s0::r.take j)).take i=ew d (s0::r.take j):=ads (by omega);rw[show decide (((i:Nat):Int)<(((ew d (s0::r.take j)).length:Nat):Int))=false by simpa using lA];rw[qV,←o4];simp only[↓aX,mX,seval];refine⟨1,(ew d (s0::r.take (j+1))).map aW,0,(ew d (s0::r.take (j+1))).length,rfl,rfl,by simp,oy _,?_⟩;simp only[↓aX,mX,seval,ad1,ads (show((ew d (s0::r.take (j+1))).map aW).length≤(ew d (s0::r.take (j+1))).length by simp),hw];refine⟨⟨j+1,by omega⟩,by simp only;omega,[],?_⟩;refine⟨?_,?_,?_,by simp[bZ],fun l _=>⟨id,fun _=>rfl⟩⟩
  ·intro l hf hu;exfalso;apply hu;cases l<;>simp_all[Lb.fresh,ae,Hp.none]
  ·simp[kv,bZ,e7,put]
  simp[qe,bZ,ae,cV,aY,e7]
 have wu:r.take j=r:=ads (by omega);rw[show decide (((j:Nat):Int)<((r.length:Nat):Int))=false by simpa using bO,wu];simp only[↓aX,mX,seval,↓eQ,e];simp[norm,dC]
end

section
variable {S:St} {env:Env} {H:Hp}
def bu.Fu {K:Kx} {β:Lb→Option Nat} {a:Act} {w:World} (hr:bu K β env H a w) {l:Lb} {sz:Nat} {els HB:List (List AV)} (hl:H l= .live ⟨sz,els⟩) (g:Nat) (hb:β l=some g)
   (hlen:∀cur e cap,w.heap[g]?=some (.cells cur e (0,0))→cur.size=cap*sz→els.length≤cap→HB.length≤cap) (bS:∀cs∈HB,cs.length=sz) (hm:∀cs∈HB,∀q∈ah cs,H q≠ .unused)
   (hc:∀(i j:Nat) cs x,HB[i]?=some cs→cs[j]?=some x→x= .any∨∃EL,els[i]?=some EL∧EL[j]?=some x):bu K β env (bF H l (.live ⟨sz,HB⟩)) a w:=by
 obtain⟨cur,e0,cap,k1,k2,k3,k4,k5⟩:=(hr.rows l _ hl).block hb
 have oV:=hr.setRow l (r':=⟨sz,HB⟩) (cur':=cur) (cap:=cap) hl hb k1 rfl rfl k2 k3 (hlen cur e0 cap k1 k2 k4) bS hm (by
   intro i j cs x hi hj
   rcases hc i j cs x hi hj with rfl|⟨EL,h1,h2⟩
   · have TG:j<sz:=by
       have:=bS cs (adu hi)
       have:=(ag6.1 hj).1
       omega
     have qV:i<HB.length:=(ag6.1 hi).1
     have zV:=hlen cur e0 cap k1 k2 k4
     have:i*sz+j<cur.size:=by
       rw[k2]
       have:=adW sz (show i+1≤cap by omega)
       rw[ad_] at this
       simp only at this ⊢
       omega
     exact⟨cur[i*sz+j],aeM this,by simp[RV]⟩
   exact k5 i j EL x h1 h2)
 rw[setRow_self w g cur e0 (0,0) k1] at oV
 exact oV
def CP {l:Lb} {r:Row} (h:H l= .live r):bF H l (.live r)=H:=by
 funext q;by_cases e:q=l
 ·subst e;simp[h]
 rw[ax _ _ e]
def r_ {d:Nat} {l:Lb} {sz n:Nat} {els:List (List AV)} (hd:env d= .sl l sz 0 n) (hl:H l= .live ⟨sz,els⟩) :
  Choice S env H {c:Nat // n≤c∧c≤maxLen} (fun c=>put env d (.slk l sz 0 n c.1)) (fun c=>bF H l (.live ⟨sz,els++List.replicate (c.1 - els.length) (List.replicate sz .any)⟩)):=by
 intro K β a w hS hf hr;have hv:=hr.mS d;rw[hd] at hv;simp only[RV] at hv;obtain⟨ad,c,h1,h2,h3,h4,h5⟩:=hv;have pC:0<sz:=(hr.rows l _ hl).1;refine⟨⟨c,h2,h3⟩,β,?_⟩;have qC:bu K β env (bF H l (.live ⟨sz,els++List.replicate (c - els.length) (List.replicate sz .any)⟩)) a w:=by
  rcases h5 ⟨_,hl⟩ with h6|⟨g,Sz,g1,g2,g3,g4⟩
  ·subst h6;simp only[Nat.zero_sub,agY,adN];rw[CP hl];exact hr
  refine hr.Fu hl g g1 ?_ ?_ ?_ ?_
  ·intro cur e cap k1 k2 k4;have hS:cur.size=Sz:=by
    unfold qU at g3;simp only[k1] at g3;simpa using g3
   have:(0+c)*sz=cap*sz:=(by rw[g4,←hS,k2]);have:=agm pC this;simp;omega
  ·intro cs bS;rcases adD.1 bS with h|h
   ·exact(hr.rows l _ hl).2.1 cs h
   rw[aeR h];simp
  ·intro cs bS q hq;rcases adD.1 bS with h|h
   ·exact hr.fk l _ hl cs h q hq
   rw[aeR h] at hq;have:∀m:Nat,ah (List.replicate m AV.any)=[]:=by
    intro m;induction m with
    |zero=>rfl
    |succ m ih=>simp[agZ,ah,AV.aB,ih]
   rw[this] at hq;simp at hq
  intro i j cs x hi hj;by_cases h:i<els.length
  ·rw[ad6 h] at hi;exact .inr ⟨cs,hi,hj⟩
  rw[adU (by omega),afr] at hi;split at hi
  ·simp only[jl] at hi;subst hi;rw[afr] at hj;split at hj
   ·simp only[jl] at hj;exact .inl hj.symm
   simp at hj
  simp at hi
 refine zv qC d ?_ (by simp[AV.aB]);simp only[RV];refine⟨ad,h1,h2,h3,?_,fun _=>h5 ⟨_,hl⟩⟩;intro hc;rcases h5 ⟨_,hl⟩ with h6|⟨g,Sz,g1,g2,g3,g4⟩
 ·omega
 rw[g2];rfl
end

def HC {S:St} {f:Nat} {fn:Func} {e:Array Value→Sem Value} {args:List AV} {H:Hp} {res:AV} (hf:S.P.funcs[f]?=some fn) (w7:(fn.name== "runtime.NumGoroutine")=false) (hb:fn.body.isNone=true)
  (hn:Extern.findNext fn=none) (he:Extern.find fn=some e) (hr:∀(w:World) (β:Lb→Option Nat) (I:Nat→Prop) (vs:List Value),cM w β H I args vs→∃v,(e vs.toArray).run S.P w= .ok v w∧RV w β H I res v) (hl:res.aB=[]) :
  o7 S f args H res:=by
 intro K β env a w vs hS qD hv;subst hS;obtain⟨v,h1,h2⟩:=hr w β _ vs hv;refine⟨v,w,?_,Below.refl _ _,h2,by simp[hl]⟩;rw[run_callFunc_extern hf w7 hb hn he,h1];rfl
def WI {w:World} {β:Lb→Option Nat} {H:Hp} {I:Nat→Prop} {x y:AV} {vs:List Value} (h:cM w β H I [x,y] vs):∃u v,vs=[u,v]∧RV w β H I x u∧RV w β H I y v:=by
 match vs,h with
 |[u,v],h=>
  simp only[cM] at h;obtain⟨_,_,h0,h1,_,_,h2,h3,h4⟩:=h;cases h0;cases h2;cases h4;exact⟨u,v,rfl,h1,h3⟩
def Lj {S:St} {f:Nat} {fn:Func} (hf:S.P.funcs[f]?=some fn) (w7:(fn.name== "runtime.NumGoroutine")=false) (hb:fn.body.isNone=true)
  (hn:Extern.findNext fn=none) (he:Extern.find fn=some Extern.BytealgIndexByte.indexByte) (s:Bs) (c:UInt8) (H:Hp):o7 S f [.str s,.int .u8 (c.toNat:Int)] H (.int .i64 (Lib.indexByte s c)):=by
 refine HC hf w7 hb hn he (fun w β I vs hv=> ?_) rfl;obtain⟨u,v,rfl,h1,h2⟩:=WI hv;simp only[RV] at h1 h2;subst h1;subst h2;exact⟨_,Lib.run_indexByteString _ _ _,by simp[RV]⟩
def Lk {S:St} {f:Nat} {fn:Func} (hf:S.P.funcs[f]?=some fn) (w7:(fn.name== "runtime.NumGoroutine")=false) (hb:fn.body.isNone=true)
  (hn:Extern.findNext fn=none) (he:Extern.find fn=some Extern.BytealgCount.count) (s:Bs) (c:UInt8) (H:Hp):o7 S f [.str s,.int .u8 (c.toNat:Int)] H (.int .i64 ((s.count c:Nat):Int)):=by
 refine HC hf w7 hb hn he (fun w β I vs hv=> ?_) rfl;obtain⟨u,v,rfl,h1,h2⟩:=WI hv;simp only[RV] at h1 h2;subst h1;subst h2;exact⟨_,Lib.run_countString _ _ _,by simp[RV,Lib.countByte]⟩
def yK {S:St} {f:Nat} {fn:Func} (hf:S.P.funcs[f]?=some fn) (w7:(fn.name== "runtime.NumGoroutine")=false) (hb:fn.body.isNone=true)
  (hn:Extern.findNext fn=none) (he:Extern.find fn=some Extern.BytealgCompare.compare) (s t:Bs) (H:Hp):o7 S f [.str s,.str t] H (.int .i64 (Lib.compareBytes s t)):=by
 refine HC hf w7 hb hn he (fun w β I vs hv=> ?_) rfl;obtain⟨u,v,rfl,h1,h2⟩:=WI hv;simp only[RV] at h1 h2;subst h1;subst h2;exact⟨_,Lib.run_compareString _ _ _,by simp[RV]⟩
def ej (c:UInt8):Bs→List Bs
 |[]=>[[]]
 |b::r=>if b=c then []::ej c r else match ej c r with
  |w::ws=>(b::w)::ws
  |[]=>[[b]]
theorem pt (c:UInt8):∀s:Bs,(Lib.indexByte s c= -1∧s.count c=0∧ej c s=[s]) ∨
  ∃m:Nat,Lib.indexByte s c=(m:Int)∧m<s.length∧s.count c=(s.drop (m+1)).count c+1∧ej c s=s.take m::ej c (s.drop (m+1))
 |[]=> .inl ⟨rfl,rfl,rfl⟩
 |b::r=>by
  by_cases h:b=c
  ·subst h;refine .inr ⟨0,?_,by simp,by simp,?_⟩
   ·unfold Lib.indexByte;simp
   simp[ej]
  have hb:(b==c)=false:=by simpa using h
  rcases pt c r with⟨h1,h2,h3⟩|⟨m,h1,h2,h3,h4⟩
  ·refine .inl ⟨?_,?_,?_⟩
   ·unfold Lib.indexByte;rw[hb,h1];rfl
   ·rw[BD,h2,hb];rfl
   simp[ej,h,h3]
  refine .inr ⟨m+1,?_,by simp;omega,?_,?_⟩
  ·unfold Lib.indexByte;rw[hb,h1];have:((m:Int)== -1)=false:=(by rw[aew];omega);rw[this];simp
  ·rw[BD,hb];simpa using h3
  simp[ej,h,h4]
theorem x7 (c:UInt8):∀(n:Nat) (s:Bs),s.count c=n→(ej c s).length=n+1
 |0,s,h=>by
  rcases pt c s with⟨_,_,h3⟩|⟨m,_,_,h3,_⟩
  ·rw[h3];rfl
  omega
 |n+1,s,h=>by
  rcases pt c s with⟨_,h2,_⟩|⟨m,_,_,h3,h4⟩
  ·omega
  rw[h4,adK,x7 c n _ (by omega)]
def Om (c s:Bs):(decide (c.length≤s.length)&&s.take c.length==c)=c.isPrefixOf s:=by
 rw[aeG];simp only[ady,adM,aep,ae6];constructor
 ·rintro⟨_,h⟩;have:=ad0 c.length s;rw[h] at this;exact⟨s.drop c.length,this⟩
 rintro⟨t,rfl⟩;simp
section
variable {P:Program} {G:Nat→Option (List IV)}
def gn (ek:Nat):AC:=
(ay [eX 4 0] (ay [af 5 0,af 6 1,aE 7 (.o3 ek [(.t 5),(.t 6)]),af 4 7] .ret))
def HD {bV ek:Nat} (hF:an P G bV=some (8,[(none,4)],(gn ek).bare))
  (hX:∀(N:Nat) (s:Bs) (c:UInt8) (H:Hp),o7 ⟨P,G,N⟩ ek [.str s,.int .u8 (c.toNat:Int)] H (.int .i64 (Lib.indexByte s c))) (s:Bs) (c:UInt8) :
  aw P G bV [.str s,.int .u8 (c.toNat:Int)] (.int .i64 (Lib.indexByte s c)):=by
 refine aM hF (by simp) (by simp[ah,AV.aB]) (by simp[AV.aB]) ?_;unfold gn;simp only[↓aX,mX,seval];refine Ai (hX _ _ _ _) ?_;simp only[↓aX,mX,seval]
def ia (bV eY iR eG:Nat):AC:=
(ay [eX 4 0] (ay [af 14 1,wg 15 14,af 5 15] (.seq (.block 0 (ay [af 17 5,db 18 .eql 17 0,af 19 18,gj 20 19 1,gj 21 19 0,hQ 22 19 (.bin .eql (.t 20) (.t 21)),nC 23 19 22,af 16 23] (.cond (.t 16) (ay [eX 4 0] .ret) (ay [af 25 5,db 26 .eql 25 1,af 24 26] (.cond (.t 24) (ay [af 27 0,af 28 1,aE 29 (.vd (.t 28) (ij 0)),aE 30 (.call bV [(.t 27),(.t 29)]),af 4 30] .ret) (ay [af 32 5,af 33 0,wg 34 33,eS 35 .geq 32 34,af 31 35] (.cond (.t 31) (ay [aE 4 (.nE (.c (.int .i64 (-1))))] .ret) (ay [af 37 5,aE 38 (.stuck),eS 39 .leq 37 38,af 40 39,eJ 41 40 0,eP 42 40 (.lens (.t 41)),eP 43 40 (.bin .leq (.t 42) (ij 64)),l7 44 40 43,af 36 44] (.cond (.t 36) (ay [af 45 0,af 46 1,aE 47 (.o3 eY [(.t 45),(.t 46)]),af 4 47] .ret) .skip))))))))) (ay [af 48 1,aE 49 (.vd (.t 48) (ij 0)),af 6 49] (ay [af 50 1,aE 51 (.vd (.t 50) (ij 1)),af 7 51] (ay [eX 8 0] (ay [af 52 0,wg 53 52,af 54 5,eS 55 .sub 53 54,db 56 .add 55 1,af 9 56] (ay [eX 10 0] (.seq (.block 1 (.loop (.seq (ay [af 57 8,af 58 9,eS 59 .lss 57 58] (.cond (.t 59) .skip (.exit 1))) (.block 2 (.seq (ay [af 60 0,af 61 8,aE 62 (.vd (.t 60) (.t 61)),af 63 6,eS 64 .neq 62 63] (.cond (.t 64) (ay [af 65 0,af 66 8,db 67 .add 66 1,af 68 9,aE 69 (.ot (.t 65) (some (.t 67)) (some (.t 68))),af 70 6,aE 71 (.call bV [(.t 69),(.t 70)]),af 11 71] (.seq (ay [af 72 11,db 73 .lss 72 0] (.cond (.t 73) (ay [aE 4 (.nE (.c (.int .i64 (-1))))] .ret) .skip)) (.ec [af 74 8,af 75 11,db 76 .add 75 1,eS 77 .add 74 76,af 8 77]))) .skip)) (.seq (ay [af 78 0,af 79 8,db 80 .add 79 1,aE 81 (.vd (.t 78) (.t 80)),af 82 7,eS 83 .eql 81 82,af 84 83,eJ 85 84 0,eJ 86 84 8,eJ 87 84 8,eJ 88 84 5,eP 89 84 (.bin .add (.t 87) (.t 88)),eP 90 84 (.ot (.t 85) (some (.t 86)) (some (.t 89))),eJ 91 84 1,eP 92 84 (.bin .eql (.t 90) (.t 91)),l7 93 84 92] (.cond (.t 93) (ay [af 94 8,af 4 94] .ret) .skip)) (ay [af 95 8,db 96 .add 95 1,af 8 96] (ay [af 97 10,db 98 .add 97 1,af 10 98] (ay [af 99 5,aE 100 (.stuck),eS 101 .leq 99 100,af 102 101,eJ 103 102 10,eJ 104 102 8,eP 105 102 (.call iR [(.t 104)]),eP 106 102 (.bin .gtr (.t 103) (.t 105)),l7 107 102 106] (.cond (.t 107) (ay [af 108 0,af 109 8,aE 110 (.ot (.t 108) (some (.t 109)) none),af 111 1,aE 112 (.o3 eY [(.t 110),(.t 111)]),af 12 112] (.seq (ay [af 113 12,db 114 .geq 113 0] (.cond (.t 114) (ay [af 115 12,af 116 8,eS 117 .add 115 116,af 4 117] .ret) .skip)) (ay [aE 4 (.nE (.c (.int .i64 (-1))))] .ret))) (ay [af 118 5,aE 119 (.stuck),eS 120 .gtr 118 119,af 121 120,eJ 122 121 10,eJ 123 121 8,eP 124 121 (.bin .shr (.t 123) (.c (.int .u64 4))),eP 125 121 (.bin .add (ij 4) (.t 124)),eP 126 121 (.bin .geq (.t 122) (.t 125)),l7 127 121 126,af 128 127,eJ 129 128 8,eJ 130 128 9,eP 131 128 (.bin .lss (.t 129) (.t 130)),l7 132 128 131] (.cond (.t 132) (ay [af 133 0,af 134 8,aE 135 (.ot (.t 133) (some (.t 134)) none),af 136 1,aE 137 (.call eG [(.t 135),(.t 136)]),af 13 137] (.seq (ay [af 138 13,db 139 .lss 138 0] (.cond (.t 139) (ay [aE 4 (.nE (.c (.int .i64 (-1))))] .ret) .skip)) (ay [af 140 8,af 141 13,eS 142 .add 140 141,af 4 142] .ret))) .skip)))))))))))) (ay [aE 4 (.nE (.c (.int .i64 (-1))))] .ret))))))))))
def On {bp bV eY iR eG:Nat} (hF:an P G bp=some (143,[(none,4)],(ia bV eY iR eG).bare))
  (hX:∀(s:Bs) (c:UInt8),aw P G bV [.str s,.int .u8 (c.toNat:Int)] (.int .i64 (Lib.indexByte s c))) (s:Bs) (c:UInt8) :
  aw P G bp [.str s,.str [c]] (.int .i64 (Lib.indexByte s c)):=by
 refine aM hF (by simp) (by simp[ah,AV.aB]) (by simp[AV.aB]) ?_;unfold ia;simp only[↓aX,mX,seval,adK,aek,show(((1:Nat):Int)==0)=false from rfl];cases h:(([c]:Bs)==s) with
 |true=>
  have:s=[c]:=by simpa using(eq_comm.1 (eq_of_beq h))
  subst this;have:Lib.indexByte [c] c=0:=by unfold Lib.indexByte;simp
  simp only[↓aX,mX,seval,this]
 |false=>
 simp only[↓aX,mX,seval,show(((1:Nat):Int)==1)=true from rfl,aem];refine aq (hX s c) ?_;simp only[↓aX,mX,seval]
def oY (bp:Nat):AC:=
(ay [eX 4 0] (ay [af 5 0,af 6 1,aE 7 (.call bp [(.t 5),(.t 6)]),af 4 7] .ret))
def WJ {eu bp:Nat} (hF:an P G eu=some (8,[(none,4)],(oY bp).bare)) (s:Bs) (c:UInt8)
  (hX:aw P G bp [.str s,.str [c]] (.int .i64 (Lib.indexByte s c))):aw P G eu [.str s,.str [c]] (.int .i64 (Lib.indexByte s c)):=by
 refine aM hF (by simp) (by simp[ah,AV.aB]) (by simp[AV.aB]) ?_;unfold oY;simp only[↓aX,mX,seval];refine aq hX ?_;simp only[↓aX,mX,seval]
def oZ (gp eZ eu:Nat):AC:=
(ay [eX 4 0] (.seq (ay [af 7 1,wg 8 7,db 9 .eql 8 0] (.cond (.t 9) (ay [af 10 0,aE 11 (.call gp [(.t 10)]),db 12 .add 11 1,af 4 12] .ret) .skip)) (.seq (ay [af 13 1,wg 14 13,db 15 .eql 14 1] (.cond (.t 15) (ay [af 16 0,af 17 1,aE 18 (.vd (.t 17) (ij 0)),aE 19 (.o3 eZ [(.t 16),(.t 18)]),af 4 19] .ret) .skip)) (ay [eX 5 0] (.block 0 (.loop (.block 1 (ay [af 20 0,af 21 1,aE 22 (.call eu [(.t 20),(.t 21)]),af 6 22] (.seq (ay [af 23 6,aE 24 (.bin .eql (.t 23) (.c (.int .i64 (-1))))] (.cond (.t 24) (ay [af 25 5,af 4 25] .ret) .skip)) (ay [af 26 5,db 27 .add 26 1,af 5 27] (.ec [af 28 0,af 29 6,af 30 1,wg 31 30,eS 32 .add 29 31,aE 33 (.ot (.t 28) (some (.t 32)) none),af 0 33])))))))))))
def WK {ib gp eZ eu:Nat} (hF:an P G ib=some (34,[(none,4)],(oZ gp eZ eu).bare)) (s:Bs) (c:UInt8)
  (hX:∀(N:Nat) (H:Hp),o7 ⟨P,G,N⟩ eZ [.str s,.int .u8 (c.toNat:Int)] H (.int .i64 ((s.count c:Nat):Int))) :
  aw P G ib [.str s,.str [c]] (.int .i64 ((s.count c:Nat):Int)):=by
 refine aM hF (by simp) (by simp[ah,AV.aB]) (by simp[AV.aB]) ?_;unfold oZ;simp only[↓aX,mX,seval,adK,aek,show(((1:Nat):Int)==0)=false from rfl,show(((1:Nat):Int)==1)=true from rfl,aem];refine Ai (hX _ _) ?_;simp only[↓aX,mX,seval]
def eM:AC:=
(ay [jK 4 false] (ay [af 5 0,wg 6 5,af 7 1,wg 8 7,eS 9 .geq 6 8,af 10 9,eJ 11 10 0,eJ 12 10 1,eP 13 10 (.lens (.t 12)),eP 14 10 (.ot (.t 11) none (some (.t 13))),eJ 15 10 1,eP 16 10 (.bin .eql (.t 14) (.t 15)),l7 17 10 16,af 4 17] .ret))
def A0 {a6:Nat} (hF:an P G a6=some (18,[(none,4)],eM.bare)) (s t:Bs):aw P G a6 [.str s,.str t] (.bool (t.isPrefixOf s)):=by
 refine aM hF (by simp) (by simp[ah,AV.aB]) (by simp[AV.aB]) ?_;unfold eM;rw[←Om];simp only[↓aX,mX,seval];by_cases h:t.length≤s.length
 ·rw[show decide (((s.length:Nat):Int)≥((t.length:Nat):Int))=true by simpa using h,afx h];simp only[↓aX,mX,seval,mW,adt,ag9,adF,h]
 rw[show decide (((s.length:Nat):Int)≥((t.length:Nat):Int))=false by simpa using h,ae1 h];simp only[↓aX,mX,seval,afw]
def eN (a6:Nat):AC:=
(ay [aE 4 (.nE (.c (.str []))),jK 5 false] (.seq (ay [af 6 0,af 7 1,aE 8 (.call a6 [(.t 6),(.t 7)]),uk 9 8] (.cond (.t 9) (ay [af 10 0,af 4 10,jK 5 false] .ret) .skip)) (ay [af 11 0,af 12 1,wg 13 12,aE 14 (.ot (.t 11) (some (.t 13)) none),af 4 14,jK 5 true] .ret)))
def w8 {cm a6:Nat} (hF:an P G cm=some (15,[(none,4),(none,5)],(eN a6).bare)) (s t:Bs)
  (hX:aw P G a6 [.str s,.str t] (.bool (t.isPrefixOf s))) :
  aw P G cm [.str s,.str t] (.dM [.str (if t.isPrefixOf s then s.drop t.length else s),.bool (t.isPrefixOf s)]):=by
 refine aM hF (by simp) (by simp[ah,AV.aB]) (by simp[AV.aB,ah]) ?_;unfold eN;simp only[↓aX,mX,seval];refine aq hX ?_;cases h:t.isPrefixOf s with
 |false=>simp only[↓aX,mX,seval,adI,↓eQ]
 |true=>
 have:t.length≤s.length:=by rw[ae6] at h;exact h.length_le
 simp only[↓aX,mX,seval,adL,mW,adt,ag9,adF,this,aee,↓eQ]
def jN (cm:Nat):AC:=
(ay [aE 4 (.nE (.c (.str []))),jK 5 false] (ay [af 6 0,af 7 1,aE 8 (.call cm [(.t 6),(.t 7)]),gQ 9 8 0,gQ 10 8 1,af 4 9,af 5 10] .ret))
def A1 {cG cm:Nat} (hF:an P G cG=some (11,[(none,4),(none,5)],(jN cm).bare)) (s t:Bs)
  (hX:aw P G cm [.str s,.str t] (.dM [.str (if t.isPrefixOf s then s.drop t.length else s),.bool (t.isPrefixOf s)])) :
  aw P G cG [.str s,.str t] (.dM [.str (if t.isPrefixOf s then s.drop t.length else s),.bool (t.isPrefixOf s)]):=by
 refine aM hF (by simp) (by simp[ah,AV.aB]) (by simp[AV.aB,ah]) ?_;unfold jN;simp only[↓aX,mX,seval];refine aq hX ?_;simp only[↓aX,mX,seval,↓eQ]
def Oo (c s:Bs):(decide (c.length≤s.length)&&s.drop (s.length - c.length)==c)=c.isSuffixOf s:=by
 rw[aeG];simp only[ady,adM,aep,agn];constructor
 ·rintro⟨_,h⟩;have:=ad0 (s.length - c.length) s;rw[h] at this;exact⟨_,this⟩
 rintro⟨t,rfl⟩;simp
def gq:AC:=
(ay [jK 4 false] (ay [af 5 0,wg 6 5,af 7 1,wg 8 7,eS 9 .geq 6 8,af 10 9,eJ 11 10 0,eJ 12 10 0,eP 13 10 (.lens (.t 12)),eJ 14 10 1,eP 15 10 (.lens (.t 14)),eP 16 10 (.bin .sub (.t 13) (.t 15)),eP 17 10 (.ot (.t 11) (some (.t 16)) none),eJ 18 10 1,eP 19 10 (.bin .eql (.t 17) (.t 18)),l7 20 10 19,af 4 20] .ret))
def HE {cn:Nat} (hF:an P G cn=some (21,[(none,4)],gq.bare)) (s t:Bs) (hs:s.length≤B) (ht:t.length≤B):aw P G cn [.str s,.str t] (.bool (t.isSuffixOf s)):=by
 refine aM hF (by simp) (by simp[ah,AV.aB]) (by simp[AV.aB]) ?_;unfold gq;rw[←Oo];simp only[↓aX,mX,seval];by_cases h:t.length≤s.length
 ·have hw:IntKind.i64.wrap ((s.length:Int) - (t.length:Int))=((s.length - t.length:Nat):Int):=by rw[wrap64 (by unfold B at hs ht;omega) (by unfold B at hs ht;omega)];omega
  rw[show decide (((s.length:Nat):Int)≥((t.length:Nat):Int))=true by simpa using h,afx h];simp only[↓aX,mX,seval,hw,mW,adt,ag9,adF,show s.length - t.length≤s.length by omega,aee]
 rw[show decide (((s.length:Nat):Int)≥((t.length:Nat):Int))=false by simpa using h,ae1 h];simp only[↓aX,mX,seval,afw]
def gr (cn:Nat):AC:=
(ay [aE 4 (.nE (.c (.str []))),jK 5 false] (.seq (ay [af 6 0,af 7 1,aE 8 (.call cn [(.t 6),(.t 7)]),uk 9 8] (.cond (.t 9) (ay [af 10 0,af 4 10,jK 5 false] .ret) .skip)) (ay [af 11 0,af 12 0,wg 13 12,af 14 1,wg 15 14,eS 16 .sub 13 15,aE 17 (.ot (.t 11) none (some (.t 16))),af 4 17,jK 5 true] .ret)))
def DO {cp cn:Nat} (hF:an P G cp=some (18,[(none,4),(none,5)],(gr cn).bare)) (s t:Bs) (hs:s.length≤B) (ht:t.length≤B)
  (hX:aw P G cn [.str s,.str t] (.bool (t.isSuffixOf s))) :
  aw P G cp [.str s,.str t] (.dM [.str (if t.isSuffixOf s then s.take (s.length - t.length) else s),.bool (t.isSuffixOf s)]):=by
 refine aM hF (by simp) (by simp[ah,AV.aB]) (by simp[AV.aB,ah]) ?_;unfold gr;simp only[↓aX,mX,seval];refine aq hX ?_;cases h:t.isSuffixOf s with
 |false=>simp only[↓aX,mX,seval,adI,↓eQ]
 |true=>
 have hl:t.length≤s.length:=by rw[agn] at h;exact h.length_le
 have hw:IntKind.i64.wrap ((s.length:Int) - (t.length:Int))=((s.length - t.length:Nat):Int):=by rw[wrap64 (by unfold B at hs ht;omega) (by unfold B at hs ht;omega)];omega
 simp only[↓aX,mX,seval,adL,hw,mW,adt,ag9,adF,show s.length - t.length≤s.length by omega,↓eQ]
 try simp
def lU (cp:Nat):AC:=
(ay [aE 4 (.nE (.c (.str []))),jK 5 false] (ay [af 6 0,af 7 1,aE 8 (.call cp [(.t 6),(.t 7)]),gQ 9 8 0,gQ 10 8 1,af 4 9,af 5 10] .ret))
def HF {fh cp:Nat} (hF:an P G fh=some (11,[(none,4),(none,5)],(lU cp).bare)) (s t:Bs)
  (hX:aw P G cp [.str s,.str t] (.dM [.str (if t.isSuffixOf s then s.take (s.length - t.length) else s),.bool (t.isSuffixOf s)])) :
  aw P G fh [.str s,.str t] (.dM [.str (if t.isSuffixOf s then s.take (s.length - t.length) else s),.bool (t.isSuffixOf s)]):=by
 refine aM hF (by simp) (by simp[ah,AV.aB]) (by simp[AV.aB,ah]) ?_;unfold lU;simp only[↓aX,mX,seval];refine aq hX ?_;simp only[↓aX,mX,seval,↓eQ]
def cU (c:UInt8) (s:Bs):Bs×Bs×Bool:=if 0≤Lib.indexByte s c then(s.take (Lib.indexByte s c).toNat,s.drop ((Lib.indexByte s c).toNat+1),true) else(s,[],false)
def iS (bp:Nat):AC:=
(ay [aE 4 (.nE (.c (.str []))),aE 5 (.nE (.c (.str []))),jK 6 false] (.seq (ay [af 8 0,af 9 1,aE 10 (.call bp [(.t 8),(.t 9)]),af 7 10] (ay [af 11 7,db 12 .geq 11 0] (.cond (.t 12) (.seq (.fg [af 13 0,af 14 7,aE 15 (.ot (.t 13) none (some (.t 14))),af 16 0,af 17 7,af 18 1,wg 19 18,eS 20 .add 17 19,aE 21 (.ot (.t 16) (some (.t 20)) none),af 4 15,af 5 21,jK 6 true] [[],[],[0,1],[],[],[],[5],[4,6],[3,7],[2,0,1,2],[8,9,0,1,2,3,4,5,6,7,8,9],[10,0,1,2,3,4,5,6,7,8,9,10]] [.no,.no,.no,.no,.no,.no,.no,.no,.no,.no,.no,.no]) .ret) .skip))) (ay [af 22 0,af 4 22,aE 5 (.nE (.c (.str []))),jK 6 false] .ret)))
def HG {env:Env} {H:Hp} (t u v:Nat) (R:AV→Hp→Prop):kX [(none,t),(none,u),(none,v)] R .ret env H=R (.dM [env t,env u,env v]) H:=by simp[kX,jc,vM,jf]
def WL {dz bp:Nat} (hF:an P G dz=some (23,[(none,4),(none,5),(none,6)],(iS bp).bare)) (s:Bs) (c:UInt8) (hs:s.length≤B)
  (hX:aw P G bp [.str s,.str [c]] (.int .i64 (Lib.indexByte s c))) :
  aw P G dz [.str s,.str [c]] (.dM [.str (cU c s).1,.str (cU c s).2.1,.bool (cU c s).2.2]):=by
 refine aM hF (by simp) (by simp[ah,AV.aB]) (by simp[AV.aB,ah]) ?_;unfold iS cU;simp only[↓aX,mX,reduceCtorEq,Nat.reduceEqDiff,Nat.reduceLT,Nat.reduceLeDiff,Nat.reduceAdd,Nat.reduceMul,Int.reduceToNat,Int.reduceLE,Int.reduceLT];refine aq hX ?_;rcases pt c s with⟨h1,_,_⟩|⟨m,h1,h2,_,_⟩
 ·rw[h1,ag8 (by decide)];simp only[↓aX,mX,reduceCtorEq,Nat.reduceEqDiff,Nat.reduceLT,Nat.reduceLeDiff,Nat.reduceAdd,Nat.reduceMul,Int.reduceToNat,Int.reduceLE,Int.reduceLT,show decide ((-1:Int)≥0)=false from rfl,↓HG]
 rw[h1,adv (by omega)];have hw:IntKind.i64.wrap ((m:Int)+1)=((m+1:Nat):Int):=wrap64 (by omega) (by unfold B at hs;omega);simp only[↓aX,mX,reduceCtorEq,Nat.reduceEqDiff,Nat.reduceLT,Nat.reduceLeDiff,Nat.reduceAdd,Nat.reduceMul,Int.reduceToNat,Int.reduceLE,Int.reduceLT,agC,adt,aeB];refine⟨rfl,?_⟩;simp only[↓aX,mX,reduceCtorEq,Nat.reduceEqDiff,Nat.reduceLT,Nat.reduceLeDiff,Nat.reduceAdd,Nat.reduceMul,Int.reduceToNat,Int.reduceLE,Int.reduceLT,adK,aek,show((1:Nat):Int)=1 from rfl,hw,mW,xI,adt,ag9,adF,
  show m≤s.length by omega,show m+1≤s.length by omega,aee,↓HG]
def qN (dz:Nat):AC:=
(ay [aE 4 (.nE (.c (.str []))),aE 5 (.nE (.c (.str []))),jK 6 false] (ay [af 7 0,af 8 1,aE 9 (.call dz [(.t 7),(.t 8)]),gQ 10 9 0,gQ 11 9 1,gQ 12 9 2,af 4 10,af 5 11,af 6 12] .ret))
def ab9 {ef dz:Nat} (hF:an P G ef=some (13,[(none,4),(none,5),(none,6)],(qN dz).bare)) (s:Bs) (c:UInt8)
  (hX:aw P G dz [.str s,.str [c]] (.dM [.str (cU c s).1,.str (cU c s).2.1,.bool (cU c s).2.2])) :
  aw P G ef [.str s,.str [c]] (.dM [.str (cU c s).1,.str (cU c s).2.1,.bool (cU c s).2.2]):=by
 refine aM hF (by simp) (by simp[ah,AV.aB]) (by simp[AV.aB,ah]) ?_;unfold qN;simp only[↓aX,mX,seval];refine aq hX ?_;simp only[↓aX,mX,seval,↓HG]
end
end Go.Am
