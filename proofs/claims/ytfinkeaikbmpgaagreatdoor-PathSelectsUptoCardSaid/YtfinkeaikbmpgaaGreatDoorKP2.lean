import Derived.Test.YtfinkeaikbmpgaaGreatDoorKT3
import Derived.Test.YtfinkeaikbmpgaaGreatDoorT29
import Derived.Test.YtfinkeaikbmpgaaGreatDoorKT26
import Derived.Test.YtfinkeaikbmpgaaGreatDoorKD2
import Derived.Test.YtfinkeaikbmpgaaGreatDoorKS4
set_option linter.unusedSimpArgs false
set_option linter.unusedVariables false
set_option linter.unnecessarySimpa false
set_option linter.defProp false
/- Paths: chosen step by step, or node by node: the same. -/
namespace Go.Am
open Go Go.RowKit
def mJ (d:Doc) (n:Nat):Nat:=match d[n]? with
 |some x=>if h:0≤x.parent∧x.parent.toNat<n then mJ d x.parent.toNat+1 else 1
 |none=>0
termination_by n
decreasing_by exact h.2
theorem vF {d:Doc} {n:Nat} {x:Node} {p:Int} (h:d[n]?=some x) (hp:x.parent=p):mJ d n=if 0≤p∧p.toNat<n then mJ d p.toNat+1 else 1:=by
 subst hp;rw[mJ,h];simp only;split<;>rfl
theorem iA {d:Doc} {n:Nat} {x:Node} {p:Int} {s:Step} {l:List Step} (h:d[n]?=some x) (hp:x.parent=p) :
  bn d (s::l) n=(dE d s.name n&&((if p<0 then l.isEmpty else(!l.isEmpty&&bn d l p.toNat))&&(s.n==0||s.n==((jH d p s.name n:Nat):Int)))):=by
 subst hp;rw[bn,h]
theorem o1 {d:Doc} {s:Step} {k n:Nat} {r:List Int} {x:Node} {tx:Bool} {sx:Bs} (h:d[n]?=some x) (ht:x.text=tx) (hs:x.s=sx) :
  bu d s k ((n:Int)::r)=if ey tx sx s.name then(if s.n=0∨s.n=((k+1:Nat):Int) then(n:Int)::bu d s (k+1) r else bu d s (k+1) r) else bu d s k r:=by
 subst ht hs;rw[bu,Int.toNat_natCast,h]
section
variable {t:Tree}
theorem Sub.at {n:Nat} {q:Int} {y:Tree} (h:Sub 0 (-1) t n q y):(aR t)[n]?=some (y.node n q):=(h.yE _ ⟨[],by simp[aR]⟩).node
theorem o2 {n:Nat} {q:Int} {y:Tree} (h:Sub 0 (-1) t n q y):(n=0∧q= -1)∨∃(m:Nat) (z:Tree) (r:Int),q=(m:Int)∧Sub 0 (-1) t m r z∧m<n:=by
 rcases h.parent with⟨e1,e2,_⟩|⟨m,z,r,e1,e2,e3,_⟩
 ·exact .inl ⟨e1,e2⟩
 ·exact .inr ⟨m,z,r,e1,e2,e3⟩
theorem nT {n:Nat} {q:Int} {y:Tree} (h:Sub 0 (-1) t n q y):(n=0∧q= -1∧mJ (aR t) n=1)∨∃(m:Nat),q=(m:Int)∧m<n∧mJ (aR t) n=mJ (aR t) m+1:=by
 rcases o2 h with⟨e1,e2⟩|⟨m,z,r,e1,e2,e3⟩
 ·refine .inl ⟨e1,e2,?_⟩;rw[vF h.at (p:=q) rfl,if_neg (by omega)]
 ·refine .inr ⟨m,e1,e3,?_⟩;rw[vF h.at (p:=q) rfl,if_pos ⟨by omega,by omega⟩,e1,Int.toNat_natCast]
theorem sE {n:Nat} {q:Int} {y:Tree} (h:Sub 0 (-1) t n q y):∀(k:Nat) (r:Int) (z:Tree),Sub n q y k r z→k≠n→mJ (aR t) n<mJ (aR t) k:=by
 intro k
 induction k using Nat.strongRecOn with
 |ind k ih=>
  intro r z hs eg;rcases hs.parent with⟨e,_⟩|⟨m,w,r',e1,e2,e3,_⟩
  ·exact absurd e eg
  ·have hk:=h.trans hs;rcases nT hk with⟨_,e,_⟩|⟨m',e4,e5,e6⟩
   ·omega
   ·have:m'=m:=by omega
    subst this;by_cases hm:m'=n
    ·subst hm;omega
    ·have:=ih m' e3 r' w e2 hm;omega
theorem gr:∀(l:List Step) (n:Nat) (q:Int) (y:Tree),Sub 0 (-1) t n q y→bn (aR t) l n=true→mJ (aR t) n=l.length
 |[],n,q,y,_,h=>by simp[bn] at h
 |s::l,n,q,y,hs,h=>by
  rw[iA hs.at (p:=q) rfl] at h;simp only[Bool.and_eq_true] at h;obtain⟨_,h,_⟩:=h;rcases nT hs with⟨e1,e2,e3⟩|⟨m,e1,e2,e3⟩
  ·rw[if_pos (by omega)] at h;have:l=[]:=by simpa using h
   subst this;simpa using e3
  ·rw[if_neg (by omega),Bool.and_eq_true] at h;obtain⟨m',z,r,e4,e5,e6⟩:=(o2 hs).resolve_left (by omega);have:m'=m:=by omega
   subst this;rw[e1,Int.toNat_natCast] at h;have:=gr l m' r z e5 h.2;simp only[List.length_cons];omega
theorem o3 {n:Nat} {q:Int} {y:Tree} (h:Sub 0 (-1) t n q y) {pre:List Step} (hp:mJ (aR t) n=pre.length):∀(l:List Step) (k:Nat) (r:Int) (z:Tree),Sub n q y k r z →
  bn (aR t) (l++pre) k=true→bn (aR t) pre n=true
 |[],k,r,z,hs,hm=>by
  have:=gr pre k r z (h.trans hs) hm;by_cases e:k=n
  ·subst e;exact hm
  ·have:=sE h k r z hs e;omega
 |s::l,k,r,z,hs,hm=>by
  have hd:=gr _ k r z (h.trans hs) hm;have eg:k≠n:=by rintro rfl;simp at hd;omega
  rcases hs.parent with⟨e,_⟩|⟨m,w,r',e1,e2,e3,_⟩
  ·exact absurd e eg
  ·simp only[List.cons_append] at hm;rw[iA (h.trans hs).at (p:=r) rfl] at hm;simp only[Bool.and_eq_true] at hm;obtain⟨_,hm,_⟩:=hm;rw[if_neg (by omega),Bool.and_eq_true,e1,Int.toNat_natCast] at hm;exact o3 h hp l m r' w e2 hm.2
theorem qP {n:Nat} {q:Int} {y:Tree} (h:Sub 0 (-1) t n q y) {k:Nat} (h1:n≤k) (h2:k<n+y.dP):∃r z,Sub n q y k r z:=vn y.dP y n q k (Nat.le_refl _) h1 h2
theorem wL (d:Doc) (p:Int) (name:Bs) (n:Nat):jH d p name n=(((bA p 0 d).filter fun k=>decide (k≤n)).filter (dE d name)).length:=by
 have key:∀(m j:Nat) (e:List Node),(∀i,e[i]?=d[j+i]?)→e.length=m →
   ((List.range' j (n+1 - j)).filter fun k=>jq d p k&&dE d name k)=((bA p j e).filter fun k=>decide (k≤n)).filter (dE d name):=by
  intro m
  induction m with
  |zero=>
   intro j e he hl;have:e=[]:=List.length_eq_zero_iff.1 hl;subst this;simp only[bA,List.filter_nil];rw[List.filter_eq_nil_iff];intro k hk;simp only[List.mem_range'_1] at hk;have:=he (k - j);simp only[List.getElem?_nil,show j+(k - j)=k by omega] at this;unfold jq;rw[←this];simp
  |succ m ih=>
   intro j e he hl
   obtain⟨x,r,rfl⟩:∃x r,e=x::r:=by
    cases e with
    |nil=>simp at hl
    |cons x r=>exact⟨x,r,rfl⟩
   have hx:d[j]?=some x:=by have:=he 0;simpa using this.symm
   have Le:=ih (j+1) r (fun i=>by have:=he (i+1);simp only[List.getElem?_cons_succ] at this;rw[this];congr 1;omega) (by simpa using hl);simp only[bA,List.filter_append];rw[←Le];by_cases JV:j≤n
   ·rw[show n+1 - j=(n+1 - (j+1))+1 by omega,List.range'_succ,List.filter_cons];have I1:jq d p j=(x.parent==p):=by unfold jq;rw[hx]
    rw[I1];by_cases hp:x.parent=p
    ·rw[if_pos hp];simp only[hp,beq_self_eq_true,Bool.true_and,List.filter_cons,List.filter_nil,JV,decide_true,if_true];split<;>simp
    ·rw[if_neg hp];simp[hp]
   ·rw[show n+1 - j=0 by omega,show n+1 - (j+1)=0 by omega];simp only[List.range'_zero,List.filter_nil,List.append_nil];by_cases hp:x.parent=p
    ·simp[hp,JV]
    ·simp[hp]
 have:=key d.length 0 d (fun i=>by simp) rfl;unfold jH;rw[List.range_eq_range',←this];simp
theorem p9:∀(off:Nat) (xs ys:List Tree),d_ off (xs++ys)=d_ off xs++d_ (off+aY xs) ys
 |off,[],ys=>by simp[d_,aY]
 |off,k::r,ys=>by simp[d_,aY,p9 _ r ys,Nat.add_assoc]
theorem o4:∀(off:Nat) (xs:List Tree),∀k∈d_ off xs,k<off+aY xs
 |_,[],k,h=>by simp[d_] at h
 |off,x::r,k,h=>by
  simp only[d_,List.mem_cons] at h;have:=x.ew;simp only[aY];rcases h with rfl|h
  ·omega
  ·have:=o4 _ r k h;omega
def nH (name:Bs) (k:Tree):Bool:=ey k.text k.s name
theorem lx {n:Nat} {q:Int} {y:Tree} (h:Sub 0 (-1) t n q y) (name:Bs) {a b:List Tree} {k:Tree} (hk:y.kids=a++k::b):dE (aR t) name (n+1+aY a)=nH name k:=by
 have hs:Sub 0 (-1) t (n+1+aY a) n k:=h.trans (.tU a b k hk (.self _ _ _));unfold dE;rw[hs.at];rfl
theorem wM {n:Nat} {q:Int} {y:Tree} (h:Sub 0 (-1) t n q y) (name:Bs) {a b:List Tree} {k:Tree} (hk:y.kids=a++k::b) :
  jH (aR t) n name (n+1+aY a)=(a.filter (nH name)).length+if nH name k then 1 else 0:=by
 rw[wL,r7 h,hk,p9,List.filter_append];have xd:=k.ew
 have e1:(d_ (n+1) a).filter (fun x=>decide (x≤n+1+aY a))=d_ (n+1) a:=by
  rw[List.filter_eq_self];intro x hx;have:=o4 _ a x hx;simp;omega
 have e2:(d_ (n+1+aY a) (k::b)).filter (fun x=>decide (x≤n+1+aY a))=[n+1+aY a]:=by
  simp only[d_];rw[List.filter_cons_of_pos (by simp)]
  congr 1
  rw[List.filter_eq_nil_iff];intro x hx;have:=oK _ b x hx;simp;omega
 rw[e1,e2,List.filter_append]
 have e3:∀(c a':List Tree),y.kids=a'++c++(k::b)→((d_ (n+1+aY a') c).filter (dE (aR t) name)).length=(c.filter (nH name)).length:=by
  intro c
  induction c with
  |nil=>intro a' _;rfl
  |cons z c ih=>
   intro a' he;simp only[d_,List.filter_cons];rw[lx h name (a:=a') (b:=c++k::b) (k:=z) (by rw[he];simp)];have:=ih (a'++[z]) (by rw[he];simp);rw[c7] at this;simp only[aY,Nat.add_zero] at this;rw[show n+1+aY a'+z.dP=n+1+(aY a'+z.dP) by omega];split<;>simp[this]
 have:=e3 a [] (by rw[hk];simp);simp only[aY,Nat.add_zero] at this;rw[List.length_append,this,List.filter_cons,lx h name hk];split<;>simp
theorem o5:∀(l:List Step) (n:Nat) (q:Int) (y:Tree) (pre:List Step),Sub 0 (-1) t n q y→bn (aR t) pre n=true →
  iT (aR t) [(n:Int)] l=((List.range' n y.dP).filter (bn (aR t) (l.reverse++pre))).map fun k:Nat=>(k:Int)
 |[],n,q,y,pre,hs,hm=>by
  have hd:=gr pre n q y hs hm;have hc:=y.ew;simp only[iT,List.reverse_nil,List.nil_append];rw[show y.dP=(y.dP - 1)+1 by omega,List.range'_succ,List.filter_cons,if_pos hm]
  have:(List.range' (n+1) (y.dP - 1)).filter (bn (aR t) pre)=[]:=by
   rw[List.filter_eq_nil_iff];intro k hk zu;simp only[List.mem_range'_1] at hk;obtain⟨r,z,hz⟩:=qP hs (k:=k) (by omega) (by omega);have h1:=gr pre k r z (hs.trans hz) zu;have h2:=sE hs k r z hz (by omega);omega
  rw[this];rfl
 |s::l,n,q,y,pre,hs,hm=>by
  have hd:=gr pre n q y hs hm;have I2:pre≠[]:=by rintro rfl;simp[bn] at hm
  have Fa:jo (aR t) (n:Int)=cS (n+1) y.kids:=by unfold jo;rw[Int.toNat_natCast,hs.at];rfl
  have e1:iT (aR t) [(n:Int)] (s::l)=(bu (aR t) s 0 (cS (n+1) y.kids)).flatMap fun m=>iT (aR t) [m] l:=by
   simp only[iT,List.flatMap_cons,List.flatMap_nil,List.append_nil,Fa];exact pR _ _ _
  have e2:(s::l).reverse++pre=l.reverse++(s::pre):=by simp
  rw[e1,e2,y.ft,List.range'_succ,List.filter_cons]
  have mm:bn (aR t) (l.reverse++(s::pre)) n=false:=by
   cases h:bn (aR t) (l.reverse++(s::pre)) n with
   |false=>rfl
   |true=>
    have:=gr _ n q y hs h;simp at this;omega
  rw[if_neg (by rw[mm];simp)]
  have kids:∀(b a:List Tree),y.kids=a++b →
    (bu (aR t) s (a.filter (nH s.name)).length (cS (n+1+aY a) b)).flatMap (fun m=>iT (aR t) [m] l) =
     ((List.range' (n+1+aY a) (aY b)).filter (bn (aR t) (l.reverse++(s::pre)))).map fun k:Nat=>(k:Int):=by
   intro b
   induction b with
   |nil=>intro a _;simp[cS,bu,aY]
   |cons k b IG=>
    intro a hk;have Fb:Sub 0 (-1) t (n+1+aY a) n k:=hs.trans (.tU a b k hk (.self _ _ _));have qo:=lx hs s.name hk;have Lf:=wM hs s.name hk
    have zu:bn (aR t) (s::pre) (n+1+aY a)=(nH s.name k&&(s.n==0||s.n==(((a.filter (nH s.name)).length+1:Nat):Int))):=by
     rw[iA Fb.at (p:=(n:Int)) rfl,qo,if_neg (by omega),Int.toNat_natCast,hm,Lf];cases hf:nH s.name k with
     |false=>simp
     |true=>
      cases pre with
      |nil=>exact absurd rfl I2
      |cons _ _=>simp
    have ih:=IG (a++[k]) (by rw[hk];simp);rw[c7,List.filter_append] at ih;simp only[aY,Nat.add_zero] at ih;rw[←Nat.add_assoc] at ih;simp only[aY]
    have EA:List.range' (n+1+aY a) (k.dP+aY b)=List.range' (n+1+aY a) k.dP++List.range' (n+1+aY a+k.dP) (aY b):=by
     have:=(List.range'_append_1 (s:=n+1+aY a) (m:=k.dP) (n:=aY b));exact this.symm
    rw[EA,List.filter_append,List.map_append];simp only[cS];rw[o1 (tx:=k.text) (sx:=k.s) Fb.at rfl rfl]
    have GQ:bn (aR t) (s::pre) (n+1+aY a)=false→(List.range' (n+1+aY a) k.dP).filter (bn (aR t) (l.reverse++(s::pre)))=[]:=by
     intro hf;rw[List.filter_eq_nil_iff];intro j hj I3;simp only[List.mem_range'_1] at hj;obtain⟨r,z,hz⟩:=qP Fb (k:=j) (by omega) (by omega)
     have IH:mJ (aR t) (n+1+aY a)=(s::pre).length:=by
      rcases nT Fb with⟨_,e,_⟩|⟨m,e3,e4,e5⟩
      ·omega
      ·have:m=n:=by omega
       subst this;simp;omega
     have:=o3 Fb IH l.reverse j r z hz I3;rw[hf] at this;cases this
    by_cases hf:ey k.text k.s s.name=true
    ·rw[if_pos hf];have zT:nH s.name k=true:=hf;rw[zT] at zu;simp only[Bool.true_and] at zu;rw[List.filter_cons,if_pos zT] at ih;simp only[List.filter_nil,List.length_append,List.length_cons,List.length_nil,Nat.zero_add] at ih;by_cases hn:s.n=0∨s.n=(((a.filter (nH s.name)).length+1:Nat):Int)
     ·rw[if_pos hn]
      have EX:bn (aR t) (s::pre) (n+1+aY a)=true:=by
       rw[zu];simp only[Bool.or_eq_true,beq_iff_eq];exact hn
      rw[List.flatMap_cons,o5 l _ n k (s::pre) Fb EX,ih]
     ·rw[if_neg hn]
      have Hy:bn (aR t) (s::pre) (n+1+aY a)=false:=by
       rw[zu];simp only[not_or] at hn;simp only[Bool.or_eq_false_iff,beq_eq_false_iff_ne];exact hn
      rw[GQ Hy,ih];rfl
    ·rw[if_neg hf];have zT:nH s.name k=false:=by simpa[nH] using hf
     rw[zT] at zu;rw[List.filter_cons,if_neg (by rw[zT];simp)] at ih;simp only[List.filter_nil,List.length_append,List.length_nil,Nat.add_zero] at ih;rw[GQ (by rw[zu];rfl),ih];rfl
  have:=kids y.kids [] rfl;simp only[List.filter_nil,List.length_nil,aY,Nat.add_zero] at this;exact this
theorem kY (l:List Step) (hl:l≠[]):bM (aR t) l=((List.range (aR t).length).filter (bn (aR t) l.reverse)).map fun k:Nat=>(k:Int):=by
 cases l with
 |nil=>exact absurd rfl hl
 |cons s l=>
  have hs:Sub 0 (-1) t 0 (-1) t:= .self _ _ _;have xe:=hs.at
  have hm:bn (aR t) [s] 0=(ey t.text t.s s.name&&(s.n==0||s.n==1)):=by
   rw[iA xe (p:= -1) rfl];have h1:dE (aR t) s.name 0=ey t.text t.s s.name:=by unfold dE;rw[xe];rfl
   have h2:jH (aR t) (-1) s.name 0=if ey t.text t.s s.name then 1 else 0:=by
    unfold jH;have I1:jq (aR t) (-1) 0=true:=by unfold jq;rw[xe];rfl
    rw[List.range_one,List.filter_cons,I1,h1];by_cases h:ey t.text t.s s.name=true<;>simp[h]
   rw[h1,h2,if_pos (by omega)];by_cases h:ey t.text t.s s.name=true<;>simp[h]
  have BY:bu (aR t) s 0 [0]=if bn (aR t) [s] 0=true then [0] else []:=by
   rw[show [(0:Int)]=[((0:Nat):Int)] from rfl,o1 (tx:=t.text) (sx:=t.s) xe rfl rfl];simp only[hm];by_cases h:ey t.text t.s s.name=true
   ·rw[if_pos h];simp only[h,Bool.true_and,Bool.or_eq_true,beq_iff_eq,bu];by_cases hn:s.n=0∨s.n=1
    ·rw[if_pos (by simpa using hn),if_pos hn]
    ·rw[if_neg (by simpa using hn),if_neg hn]
   ·rw[if_neg h];simp[h,bu]
  show iT (aR t) (bu (aR t) s 0 [0]) l=_;rw[BY,hZ,List.range_eq_range'];have e:(s::l).reverse=l.reverse++[s]:=by simp
  rw[e];by_cases h:bn (aR t) [s] 0=true
  ·rw[if_pos h];exact o5 l 0 (-1) t [s] hs h
  ·rw[if_neg h,oO]
   have hd:mJ (aR t) 0=[s].length:=by
    rcases nT hs with⟨_,_,e⟩|⟨m,e,_⟩
    ·exact e
    ·omega
   have:(List.range' 0 t.dP).filter (bn (aR t) (l.reverse++[s]))=[]:=by
    rw[List.filter_eq_nil_iff];intro j hj I3;simp only[List.mem_range'_1] at hj;obtain⟨r,z,hz⟩:=qP hs (k:=j) (by omega) (by omega);exact h (o3 hs hd l.reverse j r z hz I3)
   rw[this];rfl
end
end Go.Am

/- Paths: which nodes are meant. -/
namespace Go.Am
open Go Go.RowKit
theorem Step.aU (x:Step):x.iv.cells=x.cs:=rfl
theorem p_ (l:List Step):ia 2 (l.map Step.iv):=by
 intro y hy;obtain⟨x,_,rfl⟩:=List.mem_map.1 hy;rfl
theorem zw (l:List Step):Flat (l.map Step.iv):=by
 intro y hy z hz cs;obtain⟨x,_,rfl⟩:=List.mem_map.1 hy;simp only[Step.aU,Step.cs,List.mem_cons,List.not_mem_nil,or_false] at hz;rcases hz with rfl|rfl<;>simp
theorem sF (l:List Step) (i:Nat):(l.map Step.iv)[i]?=(l[i]?).map Step.iv:=List.getElem?_map ..
section
variable {P:Program} {G:Nat→Option (List IV)}
def kq:AC:=
(.seq (.au [⟨some 2,none,.box (.t 0)⟩,⟨some 3,none,.box (.t 1)⟩,⟨some 4,none,.af (.c (.bool false))⟩]) (.seq (.seq (.au [⟨some 5,none,.bU (.t 3) 0⟩,⟨some 6,none,.load none (.t 5)⟩,⟨some 7,none,.bin .eql (.t 6) (.c (.str []))⟩,⟨some 8,none,.af (.t 7)⟩,⟨some 9,(some (8,false)),(.bU (.t 2) 0)⟩,⟨some 10,(some (8,false)),(.load none (.t 9))⟩,⟨some 11,none,.pick (.t 8) (.c (.bool true)) (.t 10)⟩]) (.cond (.t 11) (.seq (.au [⟨some 12,none,.bU (.t 3) 0⟩,⟨some 13,none,.load none (.t 12)⟩,⟨some 14,none,.bin .eql (.t 13) (.c (.str []))⟩,⟨some 15,none,.af (.t 14)⟩,⟨some 16,(some (15,true)),(.bU (.t 2) 0)⟩,⟨some 17,(some (15,true)),(.load none (.t 16))⟩,⟨some 18,none,.pick (.t 15) (.t 17) (.c (.bool false))⟩,⟨some 4,none,.af (.t 18)⟩]) .ret) .skip)) (.seq (.au [⟨some 19,none,.bU (.t 3) 0⟩,⟨some 20,none,.load none (.t 19)⟩,⟨some 21,none,.bin .eql (.t 20) (.c (.str [42]))⟩,⟨some 22,none,.af (.t 21)⟩,⟨some 23,(some (22,false)),(.bU (.t 3) 0)⟩,⟨some 24,(some (22,false)),(.load none (.t 23))⟩,⟨some 25,(some (22,false)),(.bU (.t 2) 1)⟩,⟨some 26,(some (22,false)),(.load none (.t 25))⟩,⟨some 27,(some (22,false)),(.bin .eql (.t 24) (.t 26))⟩,⟨some 28,none,.pick (.t 22) (.c (.bool true)) (.t 27)⟩,⟨some 4,none,.af (.t 28)⟩]) .ret)))
theorem GR {eR:Nat} (hF:aB P G eR=some (29,[(none,4)],kq.bare)) (x:Node) (s:Step):ai P G eR [x.av,s.av] (.bool (ey x.text x.s s.name)):=by
 refine aC hF (by simp) (by simp[ah,AV.ar,Node.av,Step.av]) (by simp[AV.ar]) ?_;unfold kq ey;simp only[↓aX,mX,reduceCtorEq,Nat.reduceEqDiff,Nat.reduceLT,Nat.reduceLeDiff,Nat.reduceAdd,Nat.reduceMul,Int.reduceToNat,Int.reduceLE,Int.reduceLT,Node.av,Step.av];cases h1:(s.name==[]) with
 |true=>
  cases h2:x.text<;>simp only[↓aX,mX,reduceCtorEq,Nat.reduceEqDiff,Nat.reduceLT,Nat.reduceLeDiff,Nat.reduceAdd,Nat.reduceMul,Int.reduceToNat,Int.reduceLE,Int.reduceLT,h1,Bool.true_or,Bool.true_and]
 |false=>
  cases h2:x.text with
  |true=>simp only[↓aX,mX,reduceCtorEq,Nat.reduceEqDiff,Nat.reduceLT,Nat.reduceLeDiff,Nat.reduceAdd,Nat.reduceMul,Int.reduceToNat,Int.reduceLE,Int.reduceLT,h1,Bool.or_true,Bool.false_and]
  |false=>
   simp only[↓aX,mX,reduceCtorEq,Nat.reduceEqDiff,Nat.reduceLT,Nat.reduceLeDiff,Nat.reduceAdd,Nat.reduceMul,Int.reduceToNat,Int.reduceLE,Int.reduceLT,h1,Bool.or_false];cases h3:(s.name==[42])<;>simp only[↓aX,mX,reduceCtorEq,Nat.reduceEqDiff,Nat.reduceLT,Nat.reduceLeDiff,Nat.reduceAdd,Nat.reduceMul,Int.reduceToNat,Int.reduceLE,Int.reduceLT,Bool.true_or,Bool.false_or]
theorem sG {d:Doc} {s:Step} {k n:Nat} {r:List Int} {x:Node} (h:d[n]?=some x) :
  bu d s k ((n:Int)::r)=if ey x.text x.s s.name then(if s.n=0∨s.n=((k+1:Nat):Int) then(n:Int)::bu d s (k+1) r else bu d s (k+1) r) else bu d s k r:=by
 simp only[bu,Int.toNat_natCast,h]
def iU (eR:Nat):AC:=
(.seq (.au [⟨some 3,none,.box (.t 0)⟩,⟨some 5,none,.box (.t 2)⟩,⟨some 6,none,.af (.c .nil0)⟩]) (.seq (.au [⟨some 7,none,.af (.c .nil0)⟩]) (.gh (.own 7 1) (.seq (.au [⟨some 8,none,.af (.c (.int .i64 0))⟩]) (.seq (.seq (.au [⟨some 11,none,.af (.t 1)⟩,⟨some 12,none,.len (.t 11)⟩,⟨some 13,none,.af (.c (.int .i64 0))⟩]) (.block 0 (.loop (.seq (.au [⟨some 14,none,.bin .lss (.t 13) (.t 12)⟩]) (.seq (.cond (.t 14) .skip (.exit 0)) (.seq (.block 1 (.seq (.au [⟨some 15,none,.fH (.t 11) (.t 13) 1⟩,⟨some 16,none,.load none (.t 15)⟩,⟨some 10,none,.af (.t 16)⟩]) (.seq (.seq (.fY [⟨some 17,none,.bU (.t 3) 0⟩,⟨some 18,none,.load none (.t 17)⟩,⟨some 19,none,.af (.t 10)⟩,⟨some 20,none,.fH (.t 18) (.t 19) 5⟩,⟨some 21,none,.load (some 5) (.t 20)⟩,⟨some 22,none,.load (some 2) (.t 5)⟩,⟨some 23,none,.call eR [(.t 21),(.t 22)]⟩,⟨some 24,none,.not (.t 23)⟩] [[],[0],[],[1,2],[3],[],[4,5],[6]] [.no,.rw [.loc 3] [],.no,.no,.no,.rw [.loc 5] [],.no,.no]) (.cond (.t 24) (.exit 1) .skip)) (.seq (.au [⟨some 25,none,.af (.t 8)⟩,⟨some 26,none,.bin .add (.t 25) (.c (.int .i64 1))⟩,⟨some 8,none,.af (.t 26)⟩]) (.seq (.au [⟨some 27,none,.bU (.t 5) 1⟩,⟨some 28,none,.load none (.t 27)⟩,⟨some 29,none,.bin .eql (.t 28) (.c (.int .i64 0))⟩,⟨some 30,none,.af (.t 29)⟩,⟨some 31,(some (30,false)),(.bU (.t 5) 1)⟩,⟨some 32,(some (30,false)),(.load none (.t 31))⟩,⟨some 33,(some (30,false)),(.af (.t 8))⟩,⟨some 34,(some (30,false)),(.bin .eql (.t 32) (.t 33))⟩,⟨some 35,none,.pick (.t 30) (.c (.bool true)) (.t 34)⟩]) (.cond (.t 35) (.au [⟨some 36,none,.af (.t 7)⟩,⟨some 37,none,.af (.t 10)⟩,⟨some 38,none,.lits 1 1 [(.int .i64 0)] [(0,(.t 37))]⟩,⟨some 39,none,.app (.t 36) (.t 38) 1 8⟩,⟨some 7,none,.af (.t 39)⟩]) .skip)))))) (.au [⟨some 40,none,.bin .add (.t 13) (.c (.int .i64 1))⟩,⟨some 13,none,.af (.t 40)⟩]))))))) (.gh (.xQ (.loc 7) 7) (.seq (.au [⟨some 41,none,.af (.t 7)⟩,⟨some 6,none,.af (.t 41)⟩]) .ret)))))))
structure I4 (d:Doc) (s:Step) (l:List Int) where
 i:Nat
 k:Nat
 a:List Int
 hi:i≤l.length
 hk:k≤i
 ha:a.length≤i
 h:bu d s 0 l=a++bu d s k (l.drop i)
def sH (d:Doc) (s:Step) (l:List Int) (q:I4 d s l):List (Nat×AV):=
 [(3,.ptr (.loc 3) 1 0 0),(5,.ptr (.loc 5) 2 0 0),(7,.sl (.loc 7) 1 0 q.a.length),(8,.int .i64 q.k),(11,.list (l.map bl)),(12,.int .i64 l.length),(13,.int .i64 q.i)]
def sI (d:Doc) (s:Step) (l:List Int) (q:I4 d s l):List (Lb×Row):=
 [(.loc 3,⟨1,[[.list (d.map Node.iv)]]⟩),(.loc 5,⟨2,[[.str s.name,.int .i64 s.n]]⟩),(.loc 7,⟨1,aG (q.a.map bl)⟩)]
theorem ly (d:Doc) (s:Step):∀(l:List Int) (k:Nat),(bu d s k l).length≤l.length
 |[],_=>by simp[bu]
 |n::r,k=>by
  have h1:=ly d s r k;have h2:=ly d s r (k+1);simp only[bu];split
  ·split
   ·split<;>simp<;>omega
   ·simp;omega
  ·simp;omega
theorem BZ {bF eR : Nat} (hF : aB P G bF = some (42,[(none,6)],(iU eR).bare)) (d : Doc) (hd : gO d ≤ B) (s : Step) (l : List Int) (hl : l.length ≤ B) (hm : ∀ n ∈ l,0 ≤ n ∧ n < (d.length : Int))
   (hX:∀x∈d,ai P G eR [x.av,s.av] (.bool (ey x.text x.s s.name))) :
   ai P G bF [Doc.av d,.list (l.map bl),s.av] (.list ((bu d s 0 l).map bl)):=by
 refine aC hF (by simp) (by simp[ah,AV.ar,Doc.av,Step.av]) (by simp[AV.ar]) ?_
 have rn:B=1073741824:=rfl
 unfold iU
 simp only[Node.av,Step.av] at hX
 simp only[↓aX,mX,reduceCtorEq,Nat.reduceEqDiff,Nat.reduceLT,Nat.reduceLeDiff,Nat.reduceAdd,Nat.reduceMul,Int.reduceToNat,Int.reduceLE,Int.reduceLT,Doc.av,Step.av,List.length_map]
 refine dA (σ:=I4 d s l) (fun _=>[.loc 3,.loc 5,.loc 7]) (fun _ _=>false) (sH d s l) (sI d s l) (fun q=>l.length - q.i) ⟨0,0,[],by omega,by omega,by simp,by simp⟩ (fun _=>rfl)
   (fun q=>by simp[ah,AV.ar,sH]) ?_ ⟨[],?_⟩ ?_
 · intro q r hr cs bx z hz
   simp only[sI,List.mem_cons,List.not_mem_nil,or_false] at hr
   rcases hr with rfl|rfl|rfl
   · simp only[List.mem_singleton] at bx;subst bx;simp[ah,AV.ar] at hz
   · simp only[List.mem_singleton] at bx;subst bx;simp[ah,AV.ar] at hz
   · rw[bY bx] at hz;simp at hz
 · refine⟨?_,?_,?_,by simp[bq],fun l _=>⟨id,fun _=>rfl⟩⟩
   · intro l hf hu
     exfalso;apply hu
     cases l<;>simp_all[Lb.fresh,ae,Hp.none]
   · simp[iq,bq,bQ,put,sH]
   · simp[jW,bq,ae,bX,bT,bQ,aG,sI]
 · rintro ⟨i,k,a,hi,hk,ha,h⟩
   rw[iu]
   simp only[↓aX,mX,reduceCtorEq,Nat.reduceEqDiff,Nat.reduceLT,Nat.reduceLeDiff,Nat.reduceAdd,Nat.reduceMul,Int.reduceToNat,Int.reduceLE,Int.reduceLT,sH,sI,cb,bO,List.length_map]
   by_cases bz:i<l.length
   · rw[show decide (((i:Nat):Int)<((l.length:Nat):Int))=true by simpa using bz]
     obtain⟨n0,mm⟩:∃n,l[i]?=some n:=⟨_,List.getElem?_eq_getElem bz⟩
     obtain⟨h0,h1⟩:=hm n0 (List.mem_of_getElem? mm)
     obtain⟨n,rfl⟩:=Int.eq_ofNat_of_zero_le h0
     obtain⟨x,hx⟩:∃x,d[n]?=some x:=⟨_,List.getElem?_eq_getElem (by omega)⟩
     have hw:IntKind.i64.wrap ((i:Int)+1)=((i+1:Nat):Int):=wrap64 (by omega) (by omega)
     have Ef:IntKind.i64.wrap ((k:Int)+1)=((k+1:Nat):Int):=wrap64 (by omega) (by omega)
     have fW:=sG (s:=s) (k:=k) (r:=l.drop (i+1)) hx
     rw[drop_eq mm] at h
     have hr:∀(ρ:Lb→Lb) (xs:List IV),bX ρ ⟨1,aG xs⟩=⟨1,aG xs⟩:=fun ρ xs=>cr _ _ _
     simp only[↓aX,mX,reduceCtorEq,Nat.reduceEqDiff,Nat.reduceLT,Nat.reduceLeDiff,Nat.reduceAdd,Nat.reduceMul,Int.reduceToNat,Int.reduceLE,Int.reduceLT,oL,mm,oy,Option.map_some,oR,Int.toNat_natCast,Doc.er hx,gJ,Node.aU,Node.cs,Int.natCast_nonneg,List.length_map]
     refine⟨rfl,ik (hX x (List.mem_of_getElem? hx)) ?_⟩
     cases hf:ey x.text x.s s.name with
     |false=>
       rw[hf,if_neg (by decide)] at fW
       simp only[↓aX,mX,reduceCtorEq,Nat.reduceEqDiff,Nat.reduceLT,Nat.reduceLeDiff,Nat.reduceAdd,Nat.reduceMul,Int.reduceToNat,Int.reduceLE,Int.reduceLT,Bool.not_false,hw]
       refine⟨⟨i+1,k,a,by omega,by omega,by omega,by rw[h,fW]⟩,by simp only;omega,[],?_⟩
       refine⟨?_,?_,?_,by simp[bq],fun l _=>⟨id,fun _=>rfl⟩⟩
       · intro l hf hu
         exfalso;apply hu
         cases l<;>simp_all[Lb.fresh,ae,Hp.none]
       · simp[iq,bq,bQ,put,sH]
       · simp only[jW,hr,sI]
         simp[bq,ae,bX,bT,bQ]
     |true=>
       rw[hf,if_pos rfl] at fW
       simp only[↓aX,mX,reduceCtorEq,Nat.reduceEqDiff,Nat.reduceLT,Nat.reduceLeDiff,Nat.reduceAdd,Nat.reduceMul,Int.reduceToNat,Int.reduceLE,Int.reduceLT,Bool.not_true,Ef]
       cases e1:(s.n==0) with
       |true=>
         rw[if_pos (.inl (by simpa using e1))] at fW
         simp only[↓aX,mX,reduceCtorEq,Nat.reduceEqDiff,Nat.reduceLT,Nat.reduceLeDiff,Nat.reduceAdd,Nat.reduceMul,Int.reduceToNat,Int.reduceLE,Int.reduceLT]
         rw[eX 1 8 39 7 (a.map bl) (.int .i64 (n:Int)) (by simp[ae]) (by simp) rfl (by simp[IV.cells]) (by omega) (by decide) (by decide) (by simp[ae,Hp.none])]
         simp only[↓aX,mX,reduceCtorEq,Nat.reduceEqDiff,Nat.reduceLT,Nat.reduceLeDiff,Nat.reduceAdd,Nat.reduceMul,Int.reduceToNat,Int.reduceLE,Int.reduceLT,hw]
         refine⟨⟨i+1,k+1,a++[(n:Int)],by omega,by omega,by simp;omega,by rw[h,fW];simp⟩,by simp only;omega,[(.loc 7,.loc 39)],?_⟩
         refine⟨?_,?_,?_,by simp[bq],?_⟩
         · intro l hf hu
           exfalso;apply hu
           cases l<;>simp_all[Lb.fresh,ae,Hp.none]
         · simp[iq,bq,bQ,put,sH]
         · simp only[jW,hr,sI,List.map_append]
           simp[bq,ae,bX,bT,bQ,kf,bl]
         · intro l hl
           simp only[List.mem_cons,List.not_mem_nil,or_false] at hl
           rcases hl with rfl|rfl|rfl
           · exact⟨fun _=>rfl,fun _=>rfl⟩
           · exact⟨fun _=>rfl,fun _=>rfl⟩
           · exact⟨fun _=>rfl,fun h=>by simp[Lb.fresh] at h⟩
       |false=>
         have Lg:s.n≠0:=by simpa using e1
         simp only[↓aX,mX,reduceCtorEq,Nat.reduceEqDiff,Nat.reduceLT,Nat.reduceLeDiff,Nat.reduceAdd,Nat.reduceMul,Int.reduceToNat,Int.reduceLE,Int.reduceLT]
         cases e2:(s.n==((k+1:Nat):Int)) with
         |true=>
           rw[if_pos (.inr (by simpa using e2))] at fW
           simp only[↓aX,mX,reduceCtorEq,Nat.reduceEqDiff,Nat.reduceLT,Nat.reduceLeDiff,Nat.reduceAdd,Nat.reduceMul,Int.reduceToNat,Int.reduceLE,Int.reduceLT]
           rw[eX 1 8 39 7 (a.map bl) (.int .i64 (n:Int)) (by simp[ae]) (by simp) rfl (by simp[IV.cells]) (by omega) (by decide) (by decide) (by simp[ae,Hp.none])]
           simp only[↓aX,mX,reduceCtorEq,Nat.reduceEqDiff,Nat.reduceLT,Nat.reduceLeDiff,Nat.reduceAdd,Nat.reduceMul,Int.reduceToNat,Int.reduceLE,Int.reduceLT,hw]
           refine⟨⟨i+1,k+1,a++[(n:Int)],by omega,by omega,by simp;omega,by rw[h,fW];simp⟩,by simp only;omega,[(.loc 7,.loc 39)],?_⟩
           refine⟨?_,?_,?_,by simp[bq],?_⟩
           · intro l hf hu
             exfalso;apply hu
             cases l<;>simp_all[Lb.fresh,ae,Hp.none]
           · simp[iq,bq,bQ,put,sH]
           · simp only[jW,hr,sI,List.map_append]
             simp[bq,ae,bX,bT,bQ,kf,bl]
           · intro l hl
             simp only[List.mem_cons,List.not_mem_nil,or_false] at hl
             rcases hl with rfl|rfl|rfl
             · exact⟨fun _=>rfl,fun _=>rfl⟩
             · exact⟨fun _=>rfl,fun _=>rfl⟩
             · exact⟨fun _=>rfl,fun h=>by simp[Lb.fresh] at h⟩
         |false=>
           have Lh:s.n≠((k+1:Nat):Int):=by simpa using e2
           rw[if_neg (by simp only[not_or];exact⟨Lg,Lh⟩)] at fW
           simp only[↓aX,mX,reduceCtorEq,Nat.reduceEqDiff,Nat.reduceLT,Nat.reduceLeDiff,Nat.reduceAdd,Nat.reduceMul,Int.reduceToNat,Int.reduceLE,Int.reduceLT,hw]
           refine⟨⟨i+1,k+1,a,by omega,by omega,by omega,by rw[h,fW]⟩,by simp only;omega,[],?_⟩
           refine⟨?_,?_,?_,by simp[bq],fun l _=>⟨id,fun _=>rfl⟩⟩
           · intro l hf hu
             exfalso;apply hu
             cases l<;>simp_all[Lb.fresh,ae,Hp.none]
           · simp[iq,bq,bQ,put,sH]
           · simp only[jW,hr,sI]
             simp[bq,ae,bX,bT,bQ]
   · have lC:l.drop i=[]:=List.drop_of_length_le (by omega)
     rw[lC] at h
     simp only[bu,List.append_nil] at h
     rw[show decide (((i:Nat):Int)<((l.length:Nat):Int))=false by simpa using bz]
     simp only[↓aX,mX,reduceCtorEq,Nat.reduceEqDiff,Nat.reduceLT,Nat.reduceLeDiff,Nat.reduceAdd,Nat.reduceMul,Int.reduceToNat,Int.reduceLE,Int.reduceLT]
     refine⟨1,a.map bl,0,a.length,rfl,rfl,by simp,oz _,?_⟩
     simp only[↓aX,mX,reduceCtorEq,Nat.reduceEqDiff,Nat.reduceLT,Nat.reduceLeDiff,Nat.reduceAdd,Nat.reduceMul,Int.reduceToNat,Int.reduceLE,Int.reduceLT,List.drop_zero,List.take_of_length_le (show(a.map bl).length≤a.length by simp),h]
end
end Go.Am

/- Paths: what is a path; Select. -/
namespace Go.Am
open Go Go.RowKit
section
variable {P:Program} {G:Nat→Option (List IV)}
def gL (ee:Nat):AC:=
(.seq (.au [⟨some 2,none,.af (.c (.bool false))⟩]) (.seq (.seq (.au [⟨some 5,none,.af (.t 0)⟩,⟨some 6,none,.len (.t 5)⟩,⟨some 7,none,.af (.c (.int .i64 0))⟩]) (.block 0 (.loop (.seq (.au [⟨some 8,none,.bin .lss (.t 7) (.t 6)⟩]) (.seq (.cond (.t 8) .skip (.exit 0)) (.seq (.block 1 (.seq (.au [⟨some 9,none,.fH (.t 5) (.t 7) 2⟩,⟨some 10,none,.load (some 2) (.t 9)⟩,⟨some 4,none,.new [(.str []),(.int .i64 0)]⟩,⟨none,none,.store 2 (.t 4) (.t 10)⟩]) (.seq (.au [⟨some 11,none,.bU (.t 4) 0⟩,⟨some 12,none,.load none (.t 11)⟩,⟨some 13,none,.bin .neq (.t 12) (.c (.str []))⟩,⟨some 14,none,.af (.t 13)⟩,⟨some 15,(some (14,true)),(.bU (.t 4) 0)⟩,⟨some 16,(some (14,true)),(.load none (.t 15))⟩,⟨some 17,(some (14,true)),(.bin .neq (.t 16) (.c (.str [42])))⟩,⟨some 18,none,.pick (.t 14) (.t 17) (.c (.bool false))⟩,⟨some 19,none,.af (.t 18)⟩,⟨some 20,(some (19,true)),(.bU (.t 4) 0)⟩,⟨some 21,(some (19,true)),(.load none (.t 20))⟩,⟨some 22,(some (19,true)),(.call ee [(.t 21)])⟩,⟨some 23,(some (19,true)),(.not (.t 22))⟩,⟨some 24,none,.pick (.t 19) (.t 23) (.c (.bool false))⟩,⟨some 25,none,.af (.t 24)⟩,⟨some 26,(some (25,false)),(.bU (.t 4) 1)⟩,⟨some 27,(some (25,false)),(.load none (.t 26))⟩,⟨some 28,(some (25,false)),(.bin .lss (.t 27) (.c (.int .i64 0)))⟩,⟨some 29,none,.pick (.t 25) (.c (.bool true)) (.t 28)⟩,⟨some 30,none,.af (.t 29)⟩,⟨some 31,(some (30,false)),(.bU (.t 4) 1)⟩,⟨some 32,(some (30,false)),(.load none (.t 31))⟩,⟨some 33,(some (30,false)),(.bin .gtr (.t 32) (.c (.int .i64 99)))⟩,⟨some 34,none,.pick (.t 30) (.c (.bool true)) (.t 33)⟩]) (.cond (.t 34) (.seq (.au [⟨some 2,none,.af (.c (.bool false))⟩]) .ret) .skip)))) (.au [⟨some 35,none,.bin .add (.t 7) (.c (.int .i64 1))⟩,⟨some 7,none,.af (.t 35)⟩]))))))) (.seq (.au [⟨some 36,none,.af (.t 0)⟩,⟨some 37,none,.len (.t 36)⟩,⟨some 38,none,.bin .geq (.t 37) (.c (.int .i64 1))⟩,⟨some 39,none,.af (.t 38)⟩,⟨some 40,(some (39,true)),(.af (.t 0))⟩,⟨some 41,(some (39,true)),(.len (.t 40))⟩,⟨some 42,(some (39,true)),(.bin .leq (.t 41) (.c (.int .i64 5)))⟩,⟨some 43,none,.pick (.t 39) (.t 42) (.c (.bool false))⟩,⟨some 2,none,.af (.t 43)⟩]) .ret)))
theorem wN {a7 ee : Nat} (hF : aB P G a7 = some (44,[(none,2)],(gL ee).bare)) (l : List Step) (hl : l.length ≤ B) (hN : ∀ x ∈ l,ai P G ee [.str x.name] (.bool (named x.name))) :
   ai P G a7 [.list (l.map Step.iv)] (.bool (aT l)):=by
 refine aC hF (by simp) (by simp[ah,AV.ar]) (by simp[AV.ar]) ?_
 have rn:B=1073741824:=rfl
 unfold gL
 simp only[↓aX,mX,reduceCtorEq,Nat.reduceEqDiff,Nat.reduceLT,Nat.reduceLeDiff,Nat.reduceAdd,Nat.reduceMul,Int.reduceToNat,Int.reduceLE,Int.reduceLT,List.length_map]
 refine gm (σ:={i:Nat // i≤l.length∧∀x∈l.take i,cO x=true}) (fun q=>[(0,.list (l.map Step.iv)),(5,.list (l.map Step.iv)),(6,.int .i64 l.length),(7,.int .i64 q.1)]) (fun q=>l.length - q.1) ⟨0,by simp⟩ (fun _=>rfl) ?_ ?_
 · exact⟨by simp only[↓aX,mX,reduceCtorEq,Nat.reduceEqDiff,Nat.reduceLT,Nat.reduceLeDiff,Nat.reduceAdd,Nat.reduceMul,Int.reduceToNat,Int.reduceLE,Int.reduceLT],by repeat' constructor⟩
 · rintro ⟨i,hi,hs⟩
   simp only[↓aX,mX,reduceCtorEq,Nat.reduceEqDiff,Nat.reduceLT,Nat.reduceLeDiff,Nat.reduceAdd,Nat.reduceMul,Int.reduceToNat,Int.reduceLE,Int.reduceLT,List.length_map]
   by_cases bz:i<l.length
   · rw[show decide ((i:Int)<(l.length:Int))=true by simpa using bz]
     obtain⟨x,hx⟩:∃x,l[i]?=some x:=⟨_,List.getElem?_eq_getElem bz⟩
     have xf:=List.mem_of_getElem? hx
     have hw:IntKind.i64.wrap ((i:Int)+1)=((i+1:Nat):Int):=wrap64 (by omega) (by omega)
     have stop:cO x=false→aT l=false:=fun h=>by
       unfold aT
       rw[show l.all cO=false from List.all_eq_false.2 ⟨x,xf,by simp[h]⟩];rfl
     have next:cO x=true→∀y∈l.take (i+1),cO y=true:=fun h y hy=>by
       rw[List.take_add_one,hx] at hy
       simp only[Option.toList_some,List.mem_append,List.mem_singleton] at hy
       rcases hy with hy|rfl
       · exact hs y hy
       · exact h
     simp only[↓aX,mX,reduceCtorEq,Nat.reduceEqDiff,Nat.reduceLT,Nat.reduceLeDiff,Nat.reduceAdd,Nat.reduceMul,Int.reduceToNat,Int.reduceLE,Int.reduceLT,sF,hx,p_,Option.map_some,Step.aU,Step.cs]
     have tail:∀b:Bool,(x.name==[]||(x.name==[42]||named x.name))=b→cO x=(b&&(decide (0≤x.n)&&decide (x.n≤99))):=fun b h=>by unfold cO;rw[h]
     cases h1:(x.name==[]) with
     |true=>
       have ht:=tail true (by rw[h1];rfl)
       simp only[↓aX,mX,reduceCtorEq,Nat.reduceEqDiff,Nat.reduceLT,Nat.reduceLeDiff,Nat.reduceAdd,Nat.reduceMul,Int.reduceToNat,Int.reduceLE,Int.reduceLT,Bool.not_true]
       by_cases h4:x.n<0
       · simp only[↓aX,mX,reduceCtorEq,Nat.reduceEqDiff,Nat.reduceLT,Nat.reduceLeDiff,Nat.reduceAdd,Nat.reduceMul,Int.reduceToNat,Int.reduceLE,Int.reduceLT,h4,decide_true,stop (by rw[ht,decide_eq_false (by omega)];rfl)]
       · by_cases h5 : 99 < x.n
         · simp only[↓aX,mX,reduceCtorEq,Nat.reduceEqDiff,Nat.reduceLT,Nat.reduceLeDiff,Nat.reduceAdd,Nat.reduceMul,Int.reduceToNat,Int.reduceLE,Int.reduceLT,h4,decide_false,gt_iff_lt,h5,decide_true,stop (by rw[ht,decide_eq_false (show ¬x.n≤99 by omega),Bool.and_false];rfl)]
         · simp only[↓aX,mX,reduceCtorEq,Nat.reduceEqDiff,Nat.reduceLT,Nat.reduceLeDiff,Nat.reduceAdd,Nat.reduceMul,Int.reduceToNat,Int.reduceLE,Int.reduceLT,h4,decide_false,gt_iff_lt,h5,hw]
           exact⟨⟨i+1,bz,next (by rw[ht,decide_eq_true (show 0≤x.n by omega),decide_eq_true (show x.n≤99 by omega)];rfl)⟩,by simp only;omega,rfl⟩
     |false=>
       simp only[↓aX,mX,reduceCtorEq,Nat.reduceEqDiff,Nat.reduceLT,Nat.reduceLeDiff,Nat.reduceAdd,Nat.reduceMul,Int.reduceToNat,Int.reduceLE,Int.reduceLT,Bool.not_false]
       cases h2:(x.name==[42]) with
       |true=>
         have ht:=tail true (by rw[h1,h2];rfl)
         simp only[↓aX,mX,reduceCtorEq,Nat.reduceEqDiff,Nat.reduceLT,Nat.reduceLeDiff,Nat.reduceAdd,Nat.reduceMul,Int.reduceToNat,Int.reduceLE,Int.reduceLT,Bool.not_true]
         by_cases h4:x.n<0
         · simp only[↓aX,mX,reduceCtorEq,Nat.reduceEqDiff,Nat.reduceLT,Nat.reduceLeDiff,Nat.reduceAdd,Nat.reduceMul,Int.reduceToNat,Int.reduceLE,Int.reduceLT,h4,decide_true,stop (by rw[ht,decide_eq_false (by omega)];rfl)]
         · by_cases h5 : 99 < x.n
           · simp only[↓aX,mX,reduceCtorEq,Nat.reduceEqDiff,Nat.reduceLT,Nat.reduceLeDiff,Nat.reduceAdd,Nat.reduceMul,Int.reduceToNat,Int.reduceLE,Int.reduceLT,h4,decide_false,gt_iff_lt,h5,decide_true,stop (by rw[ht,decide_eq_false (show ¬x.n≤99 by omega),Bool.and_false];rfl)]
           · simp only[↓aX,mX,reduceCtorEq,Nat.reduceEqDiff,Nat.reduceLT,Nat.reduceLeDiff,Nat.reduceAdd,Nat.reduceMul,Int.reduceToNat,Int.reduceLE,Int.reduceLT,h4,decide_false,gt_iff_lt,h5,hw]
             exact⟨⟨i+1,bz,next (by rw[ht,decide_eq_true (show 0≤x.n by omega),decide_eq_true (show x.n≤99 by omega)];rfl)⟩,by simp only;omega,rfl⟩
       |false=>
         simp only[↓aX,mX,reduceCtorEq,Nat.reduceEqDiff,Nat.reduceLT,Nat.reduceLeDiff,Nat.reduceAdd,Nat.reduceMul,Int.reduceToNat,Int.reduceLE,Int.reduceLT,Bool.not_false]
         refine aj (hN x xf) ?_
         cases h3:named x.name with
         |true=>
           have ht:=tail true (by rw[h1,h2,h3];rfl)
           simp only[↓aX,mX,reduceCtorEq,Nat.reduceEqDiff,Nat.reduceLT,Nat.reduceLeDiff,Nat.reduceAdd,Nat.reduceMul,Int.reduceToNat,Int.reduceLE,Int.reduceLT,Bool.not_true]
           by_cases h4:x.n<0
           · simp only[↓aX,mX,reduceCtorEq,Nat.reduceEqDiff,Nat.reduceLT,Nat.reduceLeDiff,Nat.reduceAdd,Nat.reduceMul,Int.reduceToNat,Int.reduceLE,Int.reduceLT,h4,decide_true,stop (by rw[ht,decide_eq_false (by omega)];rfl)]
           · by_cases h5 : 99 < x.n
             · simp only[↓aX,mX,reduceCtorEq,Nat.reduceEqDiff,Nat.reduceLT,Nat.reduceLeDiff,Nat.reduceAdd,Nat.reduceMul,Int.reduceToNat,Int.reduceLE,Int.reduceLT,h4,decide_false,gt_iff_lt,h5,decide_true,stop (by rw[ht,decide_eq_false (show ¬x.n≤99 by omega),Bool.and_false];rfl)]
             · simp only[↓aX,mX,reduceCtorEq,Nat.reduceEqDiff,Nat.reduceLT,Nat.reduceLeDiff,Nat.reduceAdd,Nat.reduceMul,Int.reduceToNat,Int.reduceLE,Int.reduceLT,h4,decide_false,gt_iff_lt,h5,hw]
               exact⟨⟨i+1,bz,next (by rw[ht,decide_eq_true (show 0≤x.n by omega),decide_eq_true (show x.n≤99 by omega)];rfl)⟩,by simp only;omega,rfl⟩
         |false=>
           have ht:=tail false (by rw[h1,h2,h3];rfl)
           simp only[↓aX,mX,reduceCtorEq,Nat.reduceEqDiff,Nat.reduceLT,Nat.reduceLeDiff,Nat.reduceAdd,Nat.reduceMul,Int.reduceToNat,Int.reduceLE,Int.reduceLT,Bool.not_false,stop ht]
   · have lC:l.take i=l:=List.take_of_length_le (by omega)
     have dN:l.all cO=true:=List.all_eq_true.2 fun x hx=>hs x (by rw[lC];exact hx)
     rw[show decide ((i:Int)<(l.length:Int))=false by simpa using bz]
     simp only[↓aX,mX,reduceCtorEq,Nat.reduceEqDiff,Nat.reduceLT,Nat.reduceLeDiff,Nat.reduceAdd,Nat.reduceMul,Int.reduceToNat,Int.reduceLE,Int.reduceLT,List.length_map]
     by_cases h1:1≤l.length
     · by_cases h2:l.length≤5
       · simp only[↓aX,mX,reduceCtorEq,Nat.reduceEqDiff,Nat.reduceLT,Nat.reduceLeDiff,Nat.reduceAdd,Nat.reduceMul,Int.reduceToNat,Int.reduceLE,Int.reduceLT,show((l.length:Int)≥1) by omega,decide_true,List.length_map,show((l.length:Int)≤5) by omega,aT,dN,h1,h2,Bool.and_true]
       · simp only[↓aX,mX,reduceCtorEq,Nat.reduceEqDiff,Nat.reduceLT,Nat.reduceLeDiff,Nat.reduceAdd,Nat.reduceMul,Int.reduceToNat,Int.reduceLE,Int.reduceLT,show((l.length:Int)≥1) by omega,decide_true,List.length_map,show ¬((l.length:Int)≤5) by omega,aT,dN,h1,h2,decide_false,Bool.and_false]
     · simp only[↓aX,mX,reduceCtorEq,Nat.reduceEqDiff,Nat.reduceLT,Nat.reduceLeDiff,Nat.reduceAdd,Nat.reduceMul,Int.reduceToNat,Int.reduceLE,Int.reduceLT,show ¬((l.length:Int)≥1) by omega,decide_false,aT,dN,h1,Bool.and_false,Bool.false_and]
theorem zx (d:Doc) (l:List Step) (s:Step) (hl:l≠[]):bM d (l++[s])=(bM d l).flatMap fun n=>bu d s 0 (jo d n):=by
 match l,hl with
 |t::r,_=>simp only[List.cons_append,bM,pS]
theorem vG {d:Doc} (hi:cq d=true) {l:List Step} (hl:l≠[]):(bM d l).length≤d.length∧∀n∈bM d l,0≤n∧n<(d.length:Int):=by
 obtain⟨t,ht,rfl⟩:=fE.1 hi;rw[kY l hl];constructor
 ·rw[List.length_map];refine Nat.le_trans (List.length_filter_le _ _) ?_;simp
 ·intro n hn;obtain⟨k,hk,rfl⟩:=List.mem_map.1 hn;have:=List.mem_range.1 (List.mem_filter.1 hk).1;omega
theorem zy {d:Doc} (hi:cq d=true) {n:Nat} {x:Node} (h:d[n]?=some x):∀k∈x.kids,0≤k∧k<(d.length:Int):=by
 obtain⟨t,ht,rfl⟩:=fE.1 hi;have bz:=(List.getElem?_eq_some_iff.1 h).1;obtain⟨q,y,l,s⟩:=rY bz;have hn:=l.node;rw[h] at hn;have hk:x.kids=cS (n+1) y.kids:=by simp only[Option.some.injEq] at hn;rw[hn];rfl
 intro k Cd;rw[hk,←pO] at Cd;obtain⟨m,hm,rfl⟩:=List.mem_map.1 Cd;have h1:=o4 _ _ m hm;have h2:=l.len;have h3:=y.ft;omega
theorem wO {α:Type} (f:Int→List α) (l:List Int) (i:Nat):((l.take i).flatMap f).length≤(l.flatMap f).length:=by
 conv=>rhs;rw[←List.take_append_drop i l,List.flatMap_append,List.length_append]
 omega
theorem wP {α:Type} (f:Int→List α) {l:List Int} {i:Nat} {n:Int} (h:l[i]?=some n):(l.take (i+1)).flatMap f=(l.take i).flatMap f++f n:=by
 rw[List.take_add_one,h,List.flatMap_append];simp
noncomputable def vH (d:Doc) (l:List Step):List Int×Int:=if cq d=true∧aT l=true then(bM d l,0) else([],1)
def iV (cE a7 bF:Nat):AC:=
(.seq (.au [⟨some 2,none,.box (.t 0)⟩,⟨some 4,none,.af (.c .nil0)⟩,⟨some 5,none,.af (.c (.int .i64 0))⟩]) (.seq (.seq (.au [⟨some 12,none,.load (some 1) (.t 2)⟩,⟨some 13,none,.call cE [(.t 12)]⟩,⟨some 14,none,.not (.t 13)⟩,⟨some 15,none,.af (.t 14)⟩,⟨some 16,(some (15,false)),(.af (.t 1))⟩,⟨some 17,(some (15,false)),(.call a7 [(.t 16)])⟩,⟨some 18,(some (15,false)),(.not (.t 17))⟩,⟨some 19,none,.pick (.t 15) (.c (.bool true)) (.t 18)⟩]) (.cond (.t 19) (.seq (.au [⟨some 4,none,.af (.c .nil0)⟩,⟨some 5,none,.af (.c (.int .i64 1))⟩]) .ret) .skip)) (.seq (.fY [⟨some 20,none,.load (some 1) (.t 2)⟩,⟨some 21,none,.lits 1 1 [(.int .i64 0)] [(0,(.c (.int .i64 0)))]⟩,⟨some 22,none,.af (.t 1)⟩,⟨some 23,none,.fH (.t 22) (.c (.int .i64 0)) 2⟩,⟨some 24,none,.load (some 2) (.t 23)⟩,⟨some 25,none,.call bF [(.t 20),(.t 21),(.t 24)]⟩,⟨some 6,none,.af (.t 25)⟩] [[],[],[],[2],[3],[0,1,4],[5,5,0,1,2,3,4,5]] [.rw [.loc 2] [],.no,.no,.no,.no,.no,.no]) (.seq (.seq (.au [⟨some 26,none,.af (.t 1)⟩,⟨some 27,none,.uM (.t 26) (some (.c (.int .i64 1))) none none 2⟩,⟨some 28,none,.len (.t 27)⟩,⟨some 29,none,.af (.c (.int .i64 0))⟩]) (.block 0 (.loop (.seq (.au [⟨some 30,none,.bin .lss (.t 29) (.t 28)⟩]) (.seq (.cond (.t 30) .skip (.exit 0)) (.seq (.block 1 (.seq (.au [⟨some 31,none,.fH (.t 27) (.t 29) 2⟩,⟨some 32,none,.load (some 2) (.t 31)⟩,⟨some 8,none,.new [(.str []),(.int .i64 0)]⟩,⟨none,none,.store 2 (.t 8) (.t 32)⟩]) (.seq (.au [⟨some 9,none,.af (.c .nil0)⟩]) (.gh (.own 9 1) (.seq (.seq (.au [⟨some 33,none,.af (.t 6)⟩,⟨some 34,none,.len (.t 33)⟩,⟨some 35,none,.af (.c (.int .i64 0))⟩]) (.block 2 (.loop (.seq (.au [⟨some 36,none,.bin .lss (.t 35) (.t 34)⟩]) (.seq (.cond (.t 36) .skip (.exit 2)) (.seq (.block 3 (.seq (.au [⟨some 37,none,.fH (.t 33) (.t 35) 1⟩,⟨some 38,none,.load none (.t 37)⟩,⟨some 11,none,.af (.t 38)⟩]) (.fY [⟨some 39,none,.af (.t 9)⟩,⟨some 40,none,.load (some 1) (.t 2)⟩,⟨some 41,none,.bU (.t 2) 0⟩,⟨some 42,none,.load none (.t 41)⟩,⟨some 43,none,.af (.t 11)⟩,⟨some 44,none,.fH (.t 42) (.t 43) 5⟩,⟨some 45,none,.bU (.t 44) 4⟩,⟨some 46,none,.load none (.t 45)⟩,⟨some 47,none,.load (some 2) (.t 8)⟩,⟨some 48,none,.call bF [(.t 40),(.t 46),(.t 47)]⟩,⟨some 49,none,.app (.t 39) (.t 48) 1 8⟩,⟨some 9,none,.af (.t 49)⟩] [[],[],[],[2],[],[3,4],[5],[6],[],[1,7,8],[0,9,9],[10,10,0,1,2,3,4,5,6,7,8,9,10]] [.no,.rw [.loc 2] [],.no,.rw [.loc 2] [],.no,.no,.no,.no,.rw [.loc 8] [],.no,(.rw [] [.loc 9,.loc 49]),.no]))) (.au [⟨some 50,none,.bin .add (.t 35) (.c (.int .i64 1))⟩,⟨some 35,none,.af (.t 50)⟩]))))))) (.gh (.xQ (.loc 9) 9) (.au [⟨some 51,none,.af (.t 9)⟩,⟨some 6,none,.af (.t 51)⟩]))))))) (.au [⟨some 52,none,.bin .add (.t 29) (.c (.int .i64 1))⟩,⟨some 29,none,.af (.t 52)⟩]))))))) (.seq (.au [⟨some 53,none,.af (.t 6)⟩,⟨some 4,none,.af (.t 53)⟩,⟨some 5,none,.af (.c (.int .i64 0))⟩]) .ret)))))
end
end Go.Am
