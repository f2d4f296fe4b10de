import Derived.Test.YtfeijflhfhkbnaaGreatDoorKT9S
import Derived.Test.YtfeijflhfhkbnaaGreatDoorKAc0S
import Derived.Test.YtfeijflhfhkbnaaGreatDoorKT21S
import Derived.Lib.Bytealg
import Derived.Lib.AtoiAllCases
import Derived.Lib.ItoaNum
set_option linter.all false
/- Paths: chosen step by step, or node by node: the same. -/
namespace Go.Am
open Go Go.RowKit
def wP (d:Doc) (n:Nat):Nat:=match d[n]? with
 |some x=>if h:0<=x.parent/\x.parent.toNat<n then wP d x.parent.toNat+1 else 1
 |none=>0
termination_by n
decreasing_by exact h.2
def KC {d:Doc} {n:Nat} {x:Node} {p:Int} (h:d[n]?=some x) (hp:x.parent=p):wP d n=if 0<=p/\p.toNat<n then wP d p.toNat+1 else 1:=by
 grind [wP]
def nj {d:Doc} {n:Nat} {x:Node} {p:Int} {s:Step} {l:List Step} (h:d[n]?=some x) (hp:x.parent=p) :
  bx d (s::l) n=(fU d s.name n&&((if p<0 then l.isEmpty else(!l.isEmpty&&bx d l p.toNat))&&(s.n==0||s.n==((pA d p s.name n:Nat):Int)))):=by
 subst hp;rw[bx,h]
def Ab {d:Doc} {s:Step} {k n:Nat} {r:List Int} {x:Node} {tx:Bool} {sx:Bs} (h:d[n]?=some x) (ht:x.text=tx) (hs:x.s=sx) :
  bI d s k ((n:Int)::r)=if iZ tx sx s.name then(if s.n=0\/s.n=((k+1:Nat):Int) then(n:Int)::bI d s (k+1) r else bI d s (k+1) r) else bI d s k r:=by
 grind [bI,af0]
section
variable {t:Tree}
def Sub.at {n:Nat} {q:Int} {y:Tree} (h:Sub 0 (-1) t n q y):(ay t)[n]?=some (y.node n q):=(h.vc _ ⟨[],akJ⟩).node
def Ac {n:Nat} {q:Int} {y:Tree} (h:Sub 0 (-1) t n q y):(n=0/\q= -1)\/∃(m:Nat) (z:Tree) (r:Int),q=(m:Int)/\Sub 0 (-1) t m r z/\m<n:=by
 rcases h.parent with⟨e1,e2,_⟩|⟨m,z,r,e1,e2,e3,_⟩
 ·grind
 grind
theorem yU {n:Nat} {q:Int} {y:Tree} (h:Sub 0 (-1) t n q y):(n=0/\q= -1/\wP (ay t) n=1)\/∃(m:Nat),q=(m:Int)/\m<n/\wP (ay t) n=wP (ay t) m+1:=by
 rcases Ac h with⟨e1,e2⟩|⟨m,z,r,e1,e2,e3⟩
 ·refine .inl ⟨e1,e2,?_⟩;rw[KC h.at (p:=q) rfl,af8 ajK]
 refine .inr ⟨m,e1,e3,?_⟩;rw[KC h.at (p:=q) rfl,agc ⟨ajK,ajK⟩,e1,af0]
def FP {n:Nat} {q:Int} {y:Tree} (h:Sub 0 (-1) t n q y):∀(k:Nat) (r:Int) (z:Tree),Sub n q y k r z->k≠n->wP (ay t) n<wP (ay t) k:=by
 intro k;induction k using Nat.strongRecOn with
 |ind k ih=>
 intro r z hs cf;rcases hs.parent with⟨e,_⟩|⟨m,w,r',e1,e2,e3,_⟩
 ·grind
 have hk:=h.trans hs
 grind [yU]
theorem kW:∀(l:List Step) (n:Nat) (q:Int) (y:Tree),Sub 0 (-1) t n q y->bx (ay t) l n=true->wP (ay t) n=l.length
 |[],n,q,y,_,h=>by simp[bx] at h
 |s::l,n,q,y,hs,h=>by
  rw[nj hs.at (p:=q) rfl] at h;simp only[agm] at h;obtain⟨_,h,_⟩:=h;rcases yU hs with⟨e1,e2,e3⟩|⟨m,e1,e2,e3⟩
  ·grind
  rw[af8 ajK,agm] at h;obtain⟨m',z,r,e4,e5,e6⟩:=(Ac hs).resolve_left ajK;have:m'=m:=ajK
  subst this;rw[e1] at h;have:=kW l m' r z e5 h.2
  grind
theorem Ad {n:Nat} {q:Int} {y:Tree} (h:Sub 0 (-1) t n q y) {pre:List Step} (hp:wP (ay t) n=pre.length):∀(l:List Step) (k:Nat) (r:Int) (z:Tree),Sub n q y k r z ->
  bx (ay t) (l++pre) k=true->bx (ay t) pre n=true
 |[],k,r,z,hs,hm=>by
  have:=kW pre k r z (h.trans hs) hm;by_cases e:k=n
  ·grind
  have:=FP h k r z hs e;omega
 |s::l,k,r,z,hs,hm=>by
  have hd:=kW _ k r z (h.trans hs) hm;have cf:k≠n:=ajV
  rcases hs.parent with⟨e,_⟩|⟨m,w,r',e1,e2,e3,_⟩
  ·exact absurd e cf
  simp at hm;rw[nj (h.trans hs).at (p:=r) rfl] at hm;simp only[agm] at hm;obtain⟨_,hm,_⟩:=hm;rw[af8 ajK,agm,e1] at hm;exact Ad h hp l m r' w e2 hm.2
def DF {n:Nat} {q:Int} {y:Tree} (h:Sub 0 (-1) t n q y) {k:Nat} (h1:n<=k) (h2:k<n+y.cC):∃r z,Sub n q y k r z:=Ki y.cC y n q k (af6 _) h1 h2
def Mr (d:Doc) (p:Int) (name:Bs) (n:Nat):pA d p name n=(((bT p 0 d).filter λk=>decide (k<=n)).filter (fU d name)).length:=by
 have key:∀(m j:Nat) (e:List Node),(∀i,e[i]?=d[j+i]?)->e.length=m ->
   ((List.range' j (n+1 - j)).filter λk=>p_ d p k&&fU d name k)=((bT p j e).filter λk=>decide (k<=n)).filter (fU d name):=by
  intro m;induction m with
  |zero=>
   intro j e he hl;have:e=[]:=agL.1 hl;subst this;simp only[bT,ail];rw[ahz];intro k hk;simp at hk;have:=he (k - j)
   grind [p_]
  |succ m ih=>
  intro j e he hl;obtain⟨x,r,rfl⟩:∃x r,e=x::r:=by
   cases e with
   |nil=>grind
   |cons x r=>simp
  have hx:d[j]?=some x:=by have:=he 0;simpa using this.symm
  have ih':=ih (j+1) r (λi=>by have:=he (i+1);simp at this;rw[this];congr 1;omega) (by simpa using hl);simp only[bT,ahd];rw[<-ih'];by_cases yO:j<=n
  ·rw[show n+1 - j=(n+1 - (j+1))+1 by omega,ajj,ahP]
   grind [p_]
  grind
 grind [pA,List.range_eq_range']
theorem Cx:∀(off:Nat) (xs ys:List Tree),bC off (xs++ys)=bC off xs++bC (off+aJ xs) ys
 |off,[],ys=>by simp[bC,aJ]
 |off,k::r,ys=>by simp[bC,aJ,Cx _ r ys,agT]
theorem Ae:∀(off:Nat) (xs:List Tree),∀k∈bC off xs,k<off+aJ xs
 |_,[],k,h=>by simp[bC] at h
 |off,x::r,k,h=>by
  simp[bC,aga] at h;have:=x.ca;simp only[aJ];rcases h with rfl|h
  ·omega
  have:=Ae _ r k h;omega
def yr (name:Bs) (k:Tree):Bool:=iZ k.text k.s name
def tJ {n:Nat} {q:Int} {y:Tree} (h:Sub 0 (-1) t n q y) (name:Bs) {a b:List Tree} {k:Tree} (hk:y.kids=a++k::b):fU (ay t) name (n+1+aJ a)=yr name k:=by
 have hs:Sub 0 (-1) t (n+1+aJ a) n k:=h.trans (.Bm a b k hk (.self _ _ _));unfold fU;rw[hs.at];rfl
def Ms {n:Nat} {q:Int} {y:Tree} (h:Sub 0 (-1) t n q y) (name:Bs) {a b:List Tree} {k:Tree} (hk:y.kids=a++k::b) :
  pA (ay t) n name (n+1+aJ a)=(a.filter (yr name)).length+if yr name k then 1 else 0:=by
 rw[Mr,Ft h,hk,Cx,ahd];have pe:=k.ca;have e1:(bC (n+1) a).filter (λx=>decide (x<=n+1+aJ a))=bC (n+1) a:=by
  rw[ajz];intro x hx;have:=Ae _ a x hx
  grind
 have e2:(bC (n+1+aJ a) (k::b)).filter (λx=>decide (x<=n+1+aJ a))=[n+1+aJ a]:=by
  simp only[bC];rw[List.filter_cons_of_pos ajL];congr 1;rw[ahz];intro x hx;have:=qO _ b x hx
  grind
 rw[e1,e2,ahd];have e3:∀(c a':List Tree),y.kids=a'++c++(k::b)->((bC (n+1+aJ a') c).filter (fU (ay t) name)).length=(c.filter (yr name)).length:=by
  intro c;induction c with
  |nil=>intro a' _;rfl
  |cons z c ih=>
  intro a' he;simp[bC,ahP];rw[tJ h name (a:=a') (b:=c++k::b) (k:=z) ajV];have:=ih (a'++[z]) ajV
  grind [dM,aJ]
 have:=e3 a [] ajV;simp only[aJ,ahs] at this;rw[age,this,ahP,tJ h name hk];split<;>simp
theorem Af:∀(l:List Step) (n:Nat) (q:Int) (y:Tree) (pre:List Step),Sub 0 (-1) t n q y->bx (ay t) pre n=true ->
  oh (ay t) [(n:Int)] l=((List.range' n y.cC).filter (bx (ay t) (l.reverse++pre))).map λk:Nat=>(k:Int)
 |[],n,q,y,pre,hs,hm=>by
  have hd:=kW pre n q y hs hm;have hc:=y.ca;simp only[oh,List.reverse_nil,List.nil_append];rw[show y.cC=(y.cC - 1)+1 by omega,ajj,ahP,agc hm];have:(List.range' (n+1) (y.cC - 1)).filter (bx (ay t) pre)=[]:=by
   rw[ahz];intro k hk VK;simp only[List.mem_range'_1] at hk;obtain⟨r,z,hz⟩:=DF hs (k:=k) ajK ajK;have h1:=kW pre k r z (hs.trans hz) VK;have h2:=FP hs k r z hz ajK;omega
  rw[this];rfl
 |s::l,n,q,y,pre,hs,hm=>by
  have hd:=kW pre n q y hs hm;have FQ:pre≠[]:=by rintro rfl;simp[bx] at hm
  have qB:oU (ay t) (n:Int)=aG (n+1) y.kids:=by unfold oU;rw[af0,hs.at];rfl
  have e1:oh (ay t) [(n:Int)] (s::l)=(bI (ay t) s 0 (aG (n+1) y.kids)).flatMap λm=>oh (ay t) [m] l:=by
   simp only[oh,ah7,aji,agb,qB];exact Cn _ _ _
  have e2:(s::l).reverse++pre=l.reverse++(s::pre):=ajL
  rw[e1,e2,y.ff,ajj,ahP];have ov:bx (ay t) (l.reverse++(s::pre)) n=false:=by
   cases h:bx (ay t) (l.reverse++(s::pre)) n with
   |false=>rfl
   |true=>
   have:=kW _ n q y hs h;simp at this;omega
  rw[af8 (by rw[ov];simp)];have kids:∀(b a:List Tree),y.kids=a++b ->
    (bI (ay t) s (a.filter (yr s.name)).length (aG (n+1+aJ a) b)).flatMap (λm=>oh (ay t) [m] l) =
     ((List.range' (n+1+aJ a) (aJ b)).filter (bx (ay t) (l.reverse++(s::pre)))).map λk:Nat=>(k:Int):=by
   intro b;induction b with
   |nil=>intro a _;simp[aG,bI,aJ]
   |cons k b ihb=>
   intro a hk;have TG:Sub 0 (-1) t (n+1+aJ a) n k:=hs.trans (.Bm a b k hk (.self _ _ _));have yA:=tJ hs s.name hk;have Sc:=Ms hs s.name hk;have VK:bx (ay t) (s::pre) (n+1+aJ a)=(yr s.name k&&(s.n==0||s.n==(((a.filter (yr s.name)).length+1:Nat):Int))):=by
    rw[nj TG.at (p:=(n:Int)) rfl,yA,af8 ajK,af0,hm,Sc];cases hf:yr s.name k with
    |false=>simp
    |true=>
    cases pre with
    |nil=>exact absurd rfl FQ
    |cons _ _=>simp
   have ih:=ihb (a++[k]) (by rw[hk];simp);rw[dM,ahd] at ih;simp only[aJ,ahs] at ih;rw[<-agT] at ih;simp only[aJ];have Yn:List.range' (n+1+aJ a) (k.cC+aJ b)=List.range' (n+1+aJ a) k.cC++List.range' (n+1+aJ a+k.cC) (aJ b):=by
    have:=(List.range'_append_1 (s:=n+1+aJ a) (m:=k.cC) (n:=aJ b));exact this.symm
   rw[Yn,ahd,ag2];simp only[aG];rw[Ab (tx:=k.text) (sx:=k.s) TG.at rfl rfl];have ab0:bx (ay t) (s::pre) (n+1+aJ a)=false->(List.range' (n+1+aJ a) k.cC).filter (bx (ay t) (l.reverse++(s::pre)))=[]:=by
    intro hf;rw[ahz];intro j hj hmj;simp only[List.mem_range'_1] at hj;obtain⟨r,z,hz⟩:=DF TG (k:=j) ajK ajK;have hdk:wP (ay t) (n+1+aJ a)=(s::pre).length:=by
     rcases yU TG with⟨_,e,_⟩|⟨m,e3,e4,e5⟩
     ·omega
     have:m=n:=ajK;subst this;simp;omega
    have:=Ad TG hdk l.reverse j r z hz hmj;rw[hf] at this;cases this
   by_cases hf:iZ k.text k.s s.name=true
   ·rw[agc hf];have R1:yr s.name k=true:=hf;rw[R1] at VK;simp only[ag7] at VK;rw[ahP,agc R1] at ih;simp only[ail,age,agd,agx,agh] at ih;by_cases hn:s.n=0\/s.n=(((a.filter (yr s.name)).length+1:Nat):Int)
    ·rw[agc hn];have hmt:bx (ay t) (s::pre) (n+1+aJ a)=true:=by
      rw[VK];simp only[ahu,ag9];exact hn
     rw[ah7,Af l _ n k (s::pre) TG hmt,ih]
    rw[af8 hn];have hmf:bx (ay t) (s::pre) (n+1+aJ a)=false:=by
     rw[VK];simp only[not_or] at hn;simp only[ah',agZ];exact hn
    rw[ab0 hmf,ih];rfl
   rw[af8 hf];have R1:yr s.name k=false:=(by simpa[yr] using hf);rw[R1] at VK;rw[ahP,af8 (by rw[R1];simp)] at ih;simp only[ail,age,agx,ahs] at ih;rw[ab0 (by rw[VK];rfl),ih];rfl
  have:=kids y.kids [] rfl;simp only[ail,agx,aJ,ahs] at this;exact this
def sX (l:List Step) (hl:l≠[]):cp (ay t) l=((List.range (ay t).length).filter (bx (ay t) l.reverse)).map λk:Nat=>(k:Int):=by
 cases l with
 |nil=>grind
 |cons s l=>
 have hs:Sub 0 (-1) t 0 (-1) t:= .self _ _ _;have xz:=hs.at;have hm:bx (ay t) [s] 0=(iZ t.text t.s s.name&&(s.n==0||s.n==1)):=by
  rw[nj xz (p:= -1) rfl];have h1:fU (ay t) s.name 0=iZ t.text t.s s.name:=by unfold fU;rw[xz];rfl
  have h2:pA (ay t) (-1) s.name 0=if iZ t.text t.s s.name then 1 else 0:=by
   unfold pA;have hip:p_ (ay t) (-1) 0=true:=by unfold p_;rw[xz];rfl
   grind
  grind
 have TH:bI (ay t) s 0 [0]=if bx (ay t) [s] 0=true then [0] else []:=by
  rw[show [(0:Int)]=[((0:Nat):Int)] from rfl,Ab (tx:=t.text) (sx:=t.s) xz rfl rfl]
  grind [iZ,bI]
 show oh (ay t) (bI (ay t) s 0 [0]) l=_;rw[TH,eR,List.range_eq_range'];have e:(s::l).reverse=l.reverse++[s]:=ajL
 rw[e];by_cases h:bx (ay t) [s] 0=true
 ·rw[agc h];exact Af l 0 (-1) t [s] hs h
 rw[af8 h,zO];have hd:wP (ay t) 0=[s].length:=by
  grind [yU]
 have:(List.range' 0 t.cC).filter (bx (ay t) (l.reverse++[s]))=[]:=by
  rw[ahz];intro j hj hmj;simp at hj;obtain⟨r,z,hz⟩:=DF hs (k:=j) ajK ajK
  grind [Ad]
 grind
end

def Step.ax (x:Step):x.iv.cells=x.cs:=rfl
def Cy (l:List Step):dV 2 (l.map Step.iv):=by
 intro y hy;obtain⟨x,_,rfl⟩:=agp.1 hy;rfl
def PW (l:List Step):Flat (l.map Step.iv):=by
 intro y hy z hz cs;obtain⟨x,_,rfl⟩:=agp.1 hy;simp only[Step.ax,Step.cs,aga,agf,agI] at hz;rcases hz with rfl|rfl<;>simp
def PX (l:List Step) (i:Nat):(l.map Step.iv)[i]?=(l[i]?).map Step.iv:=ago ..
section
variable {P:Program} {G:Nat->Option (List IV)} [KN P G]
def ab1 (x:Node) (s:Step):aj P G 151 [x.av,s.av] (.bool (iZ x.text x.s s.name)):=by
 refine au (cw 151 []) ajL (by simp[ai,AV.aq,Node.av,Step.av]) ajP ?_;unfold iZ;simp only[↓aX,mX,seval,Node.av,Step.av];cases h1:(s.name==[]) with
 |true=>
  cases h2:x.text<;>simp only[↓aX,mX,seval,h1,ajk,ag7]
 |false=>
 cases h2:x.text with
 |true=>simp only[↓aX,mX,seval,h1,aiV,aha]
 |false=>
 simp only[↓aX,mX,seval,h1,ah6];cases h3:(s.name==[42])<;>simp only[↓aX,mX,seval,ajk,aih]
def FR {d:Doc} {s:Step} {k n:Nat} {r:List Int} {x:Node} (h:d[n]?=some x) :
  bI d s k ((n:Int)::r)=if iZ x.text x.s s.name then(if s.n=0\/s.n=((k+1:Nat):Int) then(n:Int)::bI d s (k+1) r else bI d s (k+1) r) else bI d s k r:=by
 simp only[bI,af0,h]
structure ChS (d:Doc) (s:Step) (l:List Int) where
 i:Nat
 k:Nat
 a:List Int
 hi:i<=l.length
 hk:k<=i
 ha:a.length<=i
 h:bI d s 0 l=a++bI d s k (l.drop i)
def FT (d:Doc) (s:Step) (l:List Int) (q:ChS d s l):List (Nat×AV):=
 [(3,.ptr (.loc 3) 1 0 0),(5,.ptr (.loc 5) 2 0 0),(7,.sl (.loc 7) 1 0 q.a.length),(8,.int .i64 q.k),(11,.list (l.map aC)),(12,.int .i64 l.length),(13,.int .i64 q.i)]
def FU (d:Doc) (s:Step) (l:List Int) (q:ChS d s l):List (Lb×Row):=
 [(.loc 3,⟨1,[[.list (d.map Node.iv)]]⟩),(.loc 5,⟨2,[[.str s.name,.int .i64 s.n]]⟩),(.loc 7,⟨1,ak (q.a.map aC)⟩)]
theorem tK (d:Doc) (s:Step):∀(l:List Int) (k:Nat),(bI d s k l).length<=l.length
 |[],_=>by simp[bI]
 |n::r,k=>by
  have h1:=tK d s r k;have h2:=tK d s r (k+1);simp only[bI];split
  ·split
   ·split<;>simp<;>omega
   simp;omega
  simp;omega
def TI (d:Doc) (hd:mr d<=B) (s:Step) (l:List Int) (hl:l.length<=B) (hm:∀n∈l,0<=n/\n<(d.length:Int))
  (hX:∀x∈d,aj P G 151 [x.av,s.av] (.bool (iZ x.text x.s s.name))) :
  aj P G 111 [Doc.av d,.list (l.map aC),s.av] (.list ((bI d s 0 l).map aC)):=by
 refine au (cw 111 [.f 17 1 (.rw [.loc 3] []),.f 17 5 (.rw [.loc 5] []),.a 7 (.own 7 1),.b 41 (.tj (.loc 7) 7)]) ajL (by simp[ai,AV.aq,Doc.av,Step.av]) ajP ?_;have gV:B=1073741824:=rfl;simp only[Node.av,Step.av] at hX;simp only[↓aX,mX,seval,Doc.av,Step.av,eD];refine br (σ:=ChS d s l) (λ_=>[.loc 3,.loc 5,.loc 7]) (λ_ _=>false) (FT d s l) (FU d s l) (λq=>l.length - q.i) ⟨0,0,[],ajK,ajK,ajL,ajL⟩ (λ_=>rfl)
  (λq=>by simp[ai,AV.aq,FT]) ?_ ⟨[],?_⟩ ?_
 ·intro q r hr cs aZ z hz;simp only[FU,aga,agf,agI] at hr;rcases hr with rfl|rfl|rfl
  ·exact Dp
  ·exact Dp
  exact Bp
 ·refine⟨?_,?_,?_,ajS,λl _=>⟨id,λ_=>rfl⟩⟩
  ·exact ow
  ·simp[dp,aD,aH,put,FT]
  simp[eL,aD,ae,aP,aA,aH,ak,FU]
 rintro⟨i,k,a,hi,hk,ha,h⟩;rw[dq];simp only[↓aX,mX,seval,FT,FU,aR,aI,eD];by_cases aF:i<l.length
 ·rw[dT aF];obtain⟨n0,ov⟩:∃n,l[i]?=some n:=⟨_,af7 aF⟩;obtain⟨h0,h1⟩:=hm n0 (af3 ov);obtain⟨n,rfl⟩:=ahx h0;obtain⟨x,hx⟩:∃x,d[n]?=some x:=⟨_,af7 ajK⟩;have hw:=w1 i;have Hn:=w1 k;have fG:=FR (s:=s) (k:=k) (r:=l.drop (i+1)) hx;rw[drop_eq ov] at h;have hr:∀(ρ:Lb->Lb) (xs:List IV),aP ρ ⟨1,ak xs⟩=⟨1,ak xs⟩:=λρ xs=>aK _ _ _;simp only[↓aX,mX,seval,pz,ov,mi,af9,qS,af0,Doc.iE hx,iY,Node.ax,Node.cs,af5,eD];refine⟨rfl,dG (hX x (af3 hx)) ?_⟩;cases hf:iZ x.text x.s s.name with
  |false=>
   rw[hf,af8 ajN] at fG;simp only[↓aX,mX,seval,af1,hw];refine⟨⟨i+1,k,a,ajK,ajK,ajK,by rw[h,fG]⟩,ajM,[],?_⟩;refine⟨?_,?_,?_,ajS,λl _=>⟨id,λ_=>rfl⟩⟩
   ·exact ow
   ·simp[dp,aD,aH,put,FT]
   simp only[eL,hr,FU];simp[aD,ae,aP,aA,aH]
  |true=>
  rw[hf,agc rfl] at fG;simp only[↓aX,mX,seval,af4,Hn];cases e1:(s.n==0) with
  |true=>
   rw[agc (.inl amL)] at fG;simp only[↓aX,mX,seval];rw[bX 1 8 39 7 (a.map aC) (.int .i64 (n:Int)) ajR ajL rfl aj0 ajK ajN ajN ajX];simp only[↓aX,mX,seval,hw];refine⟨⟨i+1,k+1,a++[(n:Int)],ajK,ajK,ajY,by rw[h,fG];simp⟩,ajM,[(.loc 7,.loc 39)],?_⟩;refine⟨?_,?_,?_,ajS,?_⟩
   ·exact ow
   ·simp[dp,aD,aH,put,FT]
   ·simp only[eL,hr,FU,ag2];simp[aD,ae,aP,aA,aH,fR,aC]
   exact dq5
  |false=>
  have e1':s.n≠0:=amL
  simp only[↓aX,mX,seval];cases e2:(s.n==((k+1:Nat):Int)) with
  |true=>
   rw[agc (.inr (by simpa using e2))] at fG;simp only[↓aX,mX,seval];rw[bX 1 8 39 7 (a.map aC) (.int .i64 (n:Int)) ajR ajL rfl aj0 ajK ajN ajN ajX];simp only[↓aX,mX,seval,hw];refine⟨⟨i+1,k+1,a++[(n:Int)],ajK,ajK,ajY,by rw[h,fG];simp⟩,ajM,[(.loc 7,.loc 39)],?_⟩;refine⟨?_,?_,?_,ajS,?_⟩
   ·exact ow
   ·simp[dp,aD,aH,put,FT]
   ·simp only[eL,hr,FU,ag2];simp[aD,ae,aP,aA,aH,fR,aC]
   exact dq5
  |false=>
  have e2':s.n≠((k+1:Nat):Int):=by simpa using e2
  rw[af8 (by simp only[not_or];exact⟨e1',e2'⟩)] at fG;simp only[↓aX,mX,seval,hw];refine⟨⟨i+1,k+1,a,ajK,ajK,ajK,by rw[h,fG]⟩,ajM,[],?_⟩;refine⟨?_,?_,?_,ajS,λl _=>⟨id,λ_=>rfl⟩⟩
  ·exact ow
  ·simp[dp,aD,aH,put,FT]
  simp only[eL,hr,FU];simp[aD,ae,aP,aA,aH]
 have je:l.drop i=[]:=ahN ajK;rw[je] at h;simp only[bI,agb] at h;rw[dF aF];simp only[↓aX,mX,seval];refine⟨1,a.map aC,0,a.length,rfl,rfl,ajL,mj _,?_⟩;simp only[↓aX,mX,seval,agj,af2 (show(a.map aC).length<=a.length by simp),h]
end

def tM {t:Tree} {n:Nat} {x:Node} (h:(ay t)[n]?=some x):(n=0/\x.parent= -1)\/(0<n/\0<=x.parent/\x.parent<n):=by
 have aF:=(afY.1 h).1;obtain⟨q,y,l,s⟩:=qM aF;have hn:=l.node;rw[h] at hn;have hp:x.parent=q:=by simp at hn;rw[hn];rfl
 rcases s.parent with⟨e1,e2,_⟩|⟨m,z,r,e1,e2,e3,e4,_⟩
 ·grind
 grind
def Ag {t:Tree}:1<=(ay t).length:=by rw[eR];exact t.ca

section
variable {P:Program} {G:Nat->Option (List IV)} [KN P G]
def Cz (l:List Step) (hl:l.length<=B) (hN:∀x∈l,aj P G 88 [.str x.name] (.bool (named x.name))) :
  aj P G 53 [.list (l.map Step.iv)] (.bool (bm l)):=by
 refine au (cw 53 []) ajL ajO ajP ?_;have gV:B=1073741824:=rfl;simp only[↓aX,mX,seval,eD];refine dj (σ:={i:Nat // i<=l.length/\∀x∈l.take i,dZ x=true}) (λq=>[(0,.list (l.map Step.iv)),(5,.list (l.map Step.iv)),(6,.int .i64 l.length),(7,.int .i64 q.1)]) (λq=>l.length - q.1) ⟨0,ajL⟩ (λ_=>rfl) ?_ ?_
 ·exact qi
 rintro⟨i,hi,hs⟩;simp only[↓aX,mX,seval,eD];by_cases aF:i<l.length
 ·rw[dT aF];obtain⟨x,hx⟩:=gE aF;have NO:=af3 hx;have hw:=w1 i;have stop:dZ x=false->bm l=false:=λh=>by
   unfold bm;rw[show l.all dZ=false from List.all_eq_false.2 ⟨x,NO,anM⟩];rfl
  have next:dZ x=true->∀y∈l.take (i+1),dZ y=true:=λh y hy=>by
   rw[agz,hx] at hy;simp only[ahR,agi,af'] at hy;rcases hy with hy|rfl
   ·exact hs y hy
   exact h
  simp only[↓aX,mX,seval,PX,hx,Cy,af9,Step.ax,Step.cs];have tail:∀b:Bool,(x.name==[]||(x.name==[42]||named x.name))=b->dZ x=(b&&(decide (0<=x.n)&&decide (x.n<=99))):=λb h=>by unfold dZ;rw[h]
  cases h1:(x.name==[]) with
  |true=>
   have ht:=tail true anN;simp only[↓aX,mX,seval,af4];by_cases h4:x.n<0
   ·exact XJ
   exact Xy
  |false=>
  simp only[↓aX,mX,seval,af1];cases h2:(x.name==[42]) with
  |true=>
   have ht:=tail true am4;simp only[↓aX,mX,seval,af4];by_cases h4:x.n<0
   ·exact XJ
   exact Xy
  |false=>
  simp only[↓aX,mX,seval,af1];refine ah (hN x NO) ?_;cases h3:named x.name with
  |true=>
   have ht:=tail true amp;simp only[↓aX,mX,seval,af4];by_cases h4:x.n<0
   ·exact XJ
   exact Xy
  |false=>
  have ht:=tail false amp;simp only[↓aX,mX,seval,af1,stop ht]
 have je:l.take i=l:=af2 ajK;have bV:l.all dZ=true:=agJ.2 λx hx=>hs x (by rw[je];exact hx);rw[dF aF];simp only[↓aX,mX,seval,eD];by_cases h1:1<=l.length
 ·by_cases h2:l.length<=5
  ·simp only[↓aX,mX,seval,show((l.length:Int)>=1) by omega,ag3,eD,show((l.length:Int)<=5) by omega,bm,bV,h1,h2,aiz]
  simp only[↓aX,mX,seval,show((l.length:Int)>=1) by omega,ag3,eD,show ¬((l.length:Int)<=5) by omega,bm,bV,h1,h2,ag4,aht]
 simp only[↓aX,mX,seval,show ¬((l.length:Int)>=1) by omega,ag4,bm,bV,h1,aht,aha]
def PY (d:Doc) (l:List Step) (s:Step) (hl:l≠[]):cp d (l++[s])=(cp d l).flatMap λn=>bI d s 0 (oU d n):=by
 match l,hl with
 |t::r,_=>simp only[List.cons_append,cp,Co]
def yV {d:Doc} (hi:bQ d=true) {l:List Step} (hl:l≠[]):(cp d l).length<=d.length/\∀n∈cp d l,0<=n/\n<(d.length:Int):=by
 obtain⟨t,ht,rfl⟩:=dm.1 hi;rw[sX l hl];constructor
 ·rw[eD];refine ag' (aiu _ _) ?_;simp
 intro n hn;obtain⟨k,hk,rfl⟩:=agp.1 hn;have:=ahZ.1 (ahB.1 hk).1;omega
def PZ {d:Doc} (hi:bQ d=true) {n:Nat} {x:Node} (h:d[n]?=some x):∀k∈x.kids,0<=k/\k<(d.length:Int):=by
 obtain⟨t,ht,rfl⟩:=dm.1 hi;have aF:=(afY.1 h).1;obtain⟨q,y,l,s⟩:=qM aF;have hn:=l.node;rw[h] at hn;have hk:x.kids=aG (n+1) y.kids:=by simp only[afZ] at hn;rw[hn];rfl
 intro k EG;rw[hk,<-wH] at EG;obtain⟨m,hm,rfl⟩:=agp.1 EG;have h1:=Ae _ _ m hm;have h2:=l.len;have h3:=y.ff;omega
def Mt {α:Type} (f:Int->List α) (l:List Int) (i:Nat):((l.take i).flatMap f).length<=(l.flatMap f).length:=by
 conv=>rhs;rw[<-agD i l,aiY,age]
 omega
def Mu {α:Type} (f:Int->List α) {l:List Int} {i:Nat} {n:Int} (h:l[i]?=some n):(l.take (i+1)).flatMap f=(l.take i).flatMap f++f n:=by
 rw[agz,h,aiY];simp
noncomputable def dr (d:Doc) (l:List Step):List Int×Int:=if bQ d=true/\bm l=true then(cp d l,0) else([],1)
def TJ (d:Doc) (hd:mr d<=B) (l:List Step) (hl:l.length<=B)
  (hG:aj P G 72 [Doc.av d] (.bool (bQ d))) (hP:aj P G 53 [.list (l.map Step.iv)] (.bool (bm l)))
  (hC:∀s∈l,∀ks:List Int,ks.length<=B->(∀n∈ks,0<=n/\n<(d.length:Int))->aj P G 111 [Doc.av d,.list (ks.map aC),s.av] (.list ((bI d s 0 ks).map aC))) :
  aj P G 70 [Doc.av d,.list (l.map Step.iv)] (.bq [.list ((dr d l).1.map aC),.int .i64 (dr d l).2]):=by
 refine cO (cw 70 [.f 20 0 (.rw [.loc 2] []),.f 39 1 (.rw [.loc 2] []),.f 39 3 (.rw [.loc 2] []),.f 39 8 (.rw [.loc 8] []),.a 9 (.own 9 1),.b 51 (.tj (.loc 9) 9),.f 49 10 (.rw [] [.loc 9,.loc 49])]) ajL aka ajU ?_;have gV:B=1073741824:=rfl;have xD:=kc d;simp only[Doc.av] at hG hC;simp only[↓aX,mX,seval,Doc.av];refine ah hG ?_;cases hi:bQ d with
 |false=>
  have e:dr d l=([],1):=by unfold dr;rw[af8 amy]
  simp only[↓aX,mX,seval,af1,↓a_,e];rfl
 |true=>
 simp only[↓aX,mX,seval,af4];refine ah hP ?_;cases hg:bm l with
 |false=>
  have e:dr d l=([],1):=by unfold dr;rw[af8 (by simp[hg])]
  simp only[↓aX,mX,seval,af1,↓a_,e];rfl
 |true=>
 have e:dr d l=(cp d l,0):=by unfold dr;rw[agc ⟨hi,hg⟩]
 have hlen:1<=l.length:=by unfold bm at hg;simp only[agm,agv] at hg;exact hg.2.1
 obtain⟨t,ht,hdt⟩:=dm.1 hi;have hd1:1<=d.length:=by rw[hdt];exact Ag
 obtain⟨s0,r,rfl⟩:∃s0 r,l=s0::r:=by cases l with|nil=>simp at hlen|cons a r=>exact⟨a,r,rfl⟩
 have Bf:=hC s0 ajL [0] (by simp[gV]) (by intro n hn;simp only[af'] at hn;subst hn;omega);simp only[agC,ag6,aC,Step.av] at Bf;have j5:=Cy (s0::r);simp only[agC] at j5;simp only[↓aX,mX,seval,af4,agC,agF,j5,Step.ax,Step.cs];refine⟨rfl,dG Bf ?_⟩;have aef:((s0.iv::r.map Step.iv).take (s0.iv::r.map Step.iv).length).drop 1=r.map Step.iv:=by rw[agu];rfl
 simp only[↓aX,mX,seval,nH,nG,iz,yI,show(1:Int).toNat=1 from rfl,show(0:Int)<=1 by decide,agt,agd,eD,show 1<=r.length+1 by omega,af_,af9,j5,reduceCtorEq,aef];have cf:∀j,s0::r.take j≠[]:=λj=>by simp
 refine br (σ:={j:Nat // j<=r.length}) (λ_=>[.loc 2]) (λ_ _=>false)
  (λq=>[(2,.ptr (.loc 2) 1 0 0),(6,.list ((cp d (s0::r.take q.1)).map aC)),(27,.list (r.map Step.iv)),(28,.int .i64 r.length),(29,.int .i64 q.1)])
  (λq=>[(.loc 2,⟨1,[[.list (d.map Node.iv)]]⟩)]) (λq=>r.length - q.1) ⟨0,agO _⟩ (λ_=>rfl) (λq=>by simp[ai,AV.aq]) ?_ ⟨[],?_⟩ ?_
 ·intro q w hw cs aZ z hz;simp only[af'] at hw;subst hw;simp only[af'] at aZ;subst aZ;simp[ai,AV.aq] at hz
 ·refine⟨?_,?_,?_,ajS,λl _=>⟨id,λ_=>rfl⟩⟩
  ·exact ow
  ·simp[dp,aD,aH,put,cp,oh];exact af2 ajL
  exact LX
 rintro⟨j,hj⟩;rw[dq];obtain⟨Mv,TK⟩:=yV hi (cf j);simp only[↓aX,mX,seval,aR,aI,eD];by_cases aF:j<r.length
 ·rw[dT aF];obtain⟨s,hs⟩:=gE aF;have ab2:s∈s0::r:=ah9 _ (af3 hs);have hw:IntKind.i64.wrap ((j:Int)+1)=((j+1:Nat):Int):=wrap64 ajK (by simp only[agd] at hl;omega);have eW:cp d (s0::r.take (j+1))=(cp d (s0::r.take j)).flatMap λn=>bI d s 0 (oU d n):=by
   rw[agz,hs,<-PY d _ s (cf j)];rfl
  have xy:=(yV hi (cf (j+1))).1;rw[eW] at xy;simp only[↓aX,mX,seval,PX,hs,Cy,af9,Step.ax,Step.cs,eD];refine br (σ:={i:Nat // i<=(cp d (s0::r.take j)).length}) (λ_=>[.loc 2,.loc 8,.loc 9]) (λ_ _=>false)
   (λq=>[(2,.ptr (.loc 2) 1 0 0),(27,.list (r.map Step.iv)),(28,.int .i64 r.length),(29,.int .i64 j),(8,.ptr (.loc 8) 2 0 0),
    (9,.sl (.loc 9) 1 0 (((cp d (s0::r.take j)).take q.1).flatMap λn=>bI d s 0 (oU d n)).length),(33,.list ((cp d (s0::r.take j)).map aC)),(34,.int .i64 (cp d (s0::r.take j)).length),(35,.int .i64 q.1)])
   (λq=>[(.loc 2,⟨1,[[.list (d.map Node.iv)]]⟩),(.loc 8,⟨2,[[.str s.name,.int .i64 s.n]]⟩),(.loc 9,⟨1,ak ((((cp d (s0::r.take j)).take q.1).flatMap λn=>bI d s 0 (oU d n)).map aC)⟩)])
   (λq=>(cp d (s0::r.take j)).length - q.1) ⟨0,agO _⟩ (λ_=>rfl) (λq=>by simp[ai,AV.aq]) ?_ ⟨[],?_⟩ ?_
  ·intro q w hw cs aZ z hz;simp only[aga,agf,agI] at hw;rcases hw with rfl|rfl|rfl
   ·exact Dp
   ·exact Dp
   exact Bp
  ·refine⟨?_,?_,?_,ajS,λl _=>⟨id,λ_=>rfl⟩⟩
   ·exact ow
   ·exact wz
   simp[eL,aD,ae,aP,aA,aH,ak]
  rintro⟨i,P0⟩;rw[dq];have ig:=Mt (λn=>bI d s 0 (oU d n)) (cp d (s0::r.take j)) i;simp only[↓aX,mX,seval,aR,aI,eD];by_cases iw:i<(cp d (s0::r.take j)).length
  ·rw[show decide (((i:Nat):Int)<(((cp d (s0::r.take j)).length:Nat):Int))=true by simpa using iw];obtain⟨n0,ov⟩:∃n,(cp d (s0::r.take j))[i]?=some n:=⟨_,af7 iw⟩;obtain⟨h0,h1⟩:=TK n0 (af3 ov);obtain⟨n,rfl⟩:=ahx h0;obtain⟨x,hx⟩:∃x,d[n]?=some x:=⟨_,af7 ajK⟩;have VG:=vh (af3 hx);simp only[Node.wt] at VG;have hcx:=hC s ab2 x.kids ajK (PZ hi hx);simp only[Step.av] at hcx;have qB:oU d (n:Int)=x.kids:=(by simp only[oU,af0,hx]);have yA:=tK d s x.kids 0;have ka:=Mu (λn=>bI d s 0 (oU d n)) ov;simp only[qB] at ka;have VL:=w1 i;have hr:∀(ρ:Lb->Lb) (xs:List IV),aP ρ ⟨1,ak xs⟩=⟨1,ak xs⟩:=λρ xs=>aK _ _ _;simp only[↓aX,mX,seval,pz,ov,mi,af9,qS,af0,Doc.iE hx,iY,Node.ax,Node.cs,af5,eD];refine⟨rfl,dG hcx ?_⟩;simp only[↓aX,mX,seval];rw[vm 1 8 49 9 ((((cp d (s0::r.take j)).take i).flatMap λn=>bI d s 0 (oU d n)).map aC) ((bI d s 0 x.kids).map aC) ajR ajL (mi _) (mj _)
    (by rw[eD];omega) ajN ajN ajX]
   simp only[↓aX,mX,seval,VL];refine⟨akc,⟨i+1,ajK⟩,ajM,[(.loc 9,.loc 49)],?_⟩;refine⟨?_,?_,?_,ajS,?_⟩
   ·exact ow
   ·simp only[ka];simp[dp,aD,aH,put]
   ·simp only[eL,hr,ka,ag2];simp[aD,ae,aP,aA,aH]
   exact dq5
  have je:(cp d (s0::r.take j)).take i=cp d (s0::r.take j):=af2 ajK;rw[show decide (((i:Nat):Int)<(((cp d (s0::r.take j)).length:Nat):Int))=false by simpa using iw];rw[je,<-eW];simp only[↓aX,mX,seval];refine⟨1,(cp d (s0::r.take (j+1))).map aC,0,(cp d (s0::r.take (j+1))).length,rfl,rfl,ajL,mj _,?_⟩;simp only[↓aX,mX,seval,agj,af2 (show((cp d (s0::r.take (j+1))).map aC).length<=(cp d (s0::r.take (j+1))).length by simp),hw];refine⟨⟨j+1,ajK⟩,ajM,[],?_⟩;refine⟨?_,?_,?_,ajS,λl _=>⟨id,λ_=>rfl⟩⟩
  ·exact ow
  ·exact wz
  exact LX
 have kE:r.take j=r:=af2 ajK;rw[dF aF,kE];simp only[↓aX,mX,seval,↓a_,e];simp[norm,bP]
end

section
variable {S:St} {env:Env} {H:Hp}
def aO.Ah {K:Kx} {β:Lb->Option Nat} {a:Act} {w:World} (hr:aO K β env H a w) {l:Lb} {sz:Nat} {els Iz:List (List AV)} (hl:H l= .live ⟨sz,els⟩) (g:Nat) (hb:β l=some g)
   (hlen:∀cur e cap,w.heap[g]?=some (.cells cur e (0,0))->cur.size=cap*sz->els.length<=cap->Iz.length<=cap) (aZ:∀cs∈Iz,cs.length=sz) (hm:∀cs∈Iz,∀q∈ai cs,H q≠ .unused)
   (hc:∀(i j:Nat) cs x,Iz[i]?=some cs->cs[j]?=some x->x= .any\/∃EN,els[i]?=some EN/\EN[j]?=some x):aO K β env (aS H l (.live ⟨sz,Iz⟩)) a w:=by
 obtain⟨cur,e0,cap,k1,k2,k3,k4,k5⟩:=(hr.rows l _ hl).block hb
 have kH:=hr.setRow l (r':=⟨sz,Iz⟩) (cur':=cur) (cap:=cap) hl hb k1 rfl rfl k2 k3 (hlen cur e0 cap k1 k2 k4) aZ hm (by
   intro i j cs x hi hj
   rcases hc i j cs x hi hj with rfl|⟨EN,h1,h2⟩
   · have ZU:j<sz:=by
       have:=aZ cs (af3 hi)
       have:=(afY.1 hj).1
       omega
     have je:i<Iz.length:=(afY.1 hi).1
     have C7:=hlen cur e0 cap k1 k2 k4
     have:i*sz+j<cur.size:=by
       rw[k2]
       have:=agy sz (show i+1<=cap by omega)
       rw[ag0] at this
       simp only at this ⊢
       omega
     exact⟨cur[i*sz+j],ag5 this,ake⟩
   exact k5 i j EN x h1 h2)
 rw[setRow_self w g cur e0 (0,0) k1] at kH
 exact kH
def wQ {l:Lb} {r:Row} (h:H l= .live r):aS H l (.live r)=H:=by
 funext q;by_cases e:q=l
 ·subst e;simp[h]
 rw[an _ _ e]
def Ai {d:Nat} {l:Lb} {sz n:Nat} {els:List (List AV)} (hd:env d= .sl l sz 0 n) (hl:H l= .live ⟨sz,els⟩) :
  Choice S env H {c:Nat // n<=c/\c<=maxLen} (λc=>put env d (.slk l sz 0 n c.1)) (λc=>aS H l (.live ⟨sz,els++List.replicate (c.1 - els.length) (List.replicate sz .any)⟩)):=by
 intro K β a w hS hf hr;have hv:=hr.jc d;rw[hd] at hv;simp only[RV] at hv;obtain⟨ad,c,h1,h2,h3,h4,h5⟩:=hv;have j9:0<sz:=(hr.rows l _ hl).1;refine⟨⟨c,h2,h3⟩,β,?_⟩;have oE:aO K β env (aS H l (.live ⟨sz,els++List.replicate (c - els.length) (List.replicate sz .any)⟩)) a w:=by
  rcases h5 ⟨_,hl⟩ with h6|⟨g,Sz,g1,g2,g3,g4⟩
  ·subst h6;simp only[Nat.zero_sub,ajA,agb];rw[wQ hl];exact hr
  refine hr.Ah hl g g1 ?_ ?_ ?_ ?_
  ·intro cur e cap k1 k2 k4;have hS:cur.size=Sz:=by
    unfold oy at g3;simp only[k1] at g3;simpa using g3
   have:(0+c)*sz=cap*sz:=(by rw[g4,<-hS,k2]);have:=ai7 j9 this;simp;omega
  ·intro cs aZ;rcases agi.1 aZ with h|h
   ·exact(hr.rows l _ hl).2.1 cs h
   rw[ahk h];simp
  ·intro cs aZ q hq;rcases agi.1 aZ with h|h
   ·exact hr.cB l _ hl cs h q hq
   rw[ahk h] at hq;have:∀m:Nat,ai (List.replicate m AV.any)=[]:=by
    intro m;induction m with
    |zero=>rfl
    |succ m ih=>simp[aiZ,ai,AV.aq,ih]
   rw[this] at hq;simp at hq
  intro i j cs x hi hj;by_cases h:i<els.length
  ·rw[agB h] at hi;exact .inr ⟨cs,hi,hj⟩
  rw[agr ajK,ahW] at hi;split at hi
  ·simp only[afZ] at hi;subst hi;rw[ahW] at hj;split at hj
   ·simp only[afZ] at hj;exact .inl hj.symm
   simp at hj
  simp at hi
 refine yG oE d ?_ ajP;simp only[RV];refine⟨ad,h1,h2,h3,?_,λ_=>h5 ⟨_,hl⟩⟩;intro hc;rcases h5 ⟨_,hl⟩ with h6|⟨g,Sz,g1,g2,g3,g4⟩
 ·omega
 rw[g2];rfl
def FV {l:Lb} {sz:Nat} {els:List (List AV)} (k:Nat) (hl:H l= .live ⟨sz,els⟩):eE S env H env (aS H l (.live ⟨sz,els.take k⟩)):=by
 intro K β a w hS hf hr;cases hb:β l with
 |none=>
  have:=(hr.rows l _ hl).2.2;simp only[hb] at this;subst this;simp only[List.take_nil];rw[wQ hl];exact⟨β,hr⟩
 |some g=>
 refine⟨β,hr.Ah hl g hb ?_ ?_ ?_ ?_⟩
 ·intro cur e cap k1 k2 k4;rw[agA];omega
 ·exactλcs aZ=>(hr.rows l _ hl).2.1 cs (agH aZ)
 ·exactλcs aZ=>hr.cB l _ hl cs (agH aZ)
 intro i j cs x hi hj;rw[agG] at hi;split at hi
 ·exact .inr ⟨cs,hi,hj⟩
 simp at hi
end

def IA {S:St} {f:Nat} {fn:Func} {e:Array Value→Sem Value} {args:List AV} {H:Hp} {res:AV} (hf:S.P.funcs[f]?=some fn) (vy:(fn.name== "runtime.NumGoroutine")=false) (hb:fn.body.isNone=true)
  (hn:Extern.findNext fn=none) (he:Extern.find fn=some e) (hr:∀(w:World) (β:Lb->Option Nat) (I:Nat->Prop) (vs:List Value),bA w β H I args vs->∃v,(e vs.toArray).run S.P w= .ok v w/\RV w β H I res v) (hl:res.aq=[]) :
  lT S f args H res:=by
 intro K β env a w vs hS od hv;subst hS;obtain⟨v,h1,h2⟩:=hr w β _ vs hv;refine⟨v,w,?_,Below.refl _ _,h2,ame⟩;rw[run_callFunc_extern hf vy hb hn he,h1];rfl
def Yo {w:World} {β:Lb->Option Nat} {H:Hp} {I:Nat->Prop} {x y:AV} {vs:List Value} (h:bA w β H I [x,y] vs):∃u v,vs=[u,v]/\RV w β H I x u/\RV w β H I y v:=by
 match vs,h with
 |[u,v],h=>
  simp only[bA] at h;obtain⟨_,_,h0,h1,_,_,h2,h3,h4⟩:=h;cases h0;cases h2;cases h4;exact⟨u,v,rfl,h1,h3⟩
def Mw {S:St} {f:Nat} {fn:Func} (hf:S.P.funcs[f]?=some fn) (vy:(fn.name== "runtime.NumGoroutine")=false) (hb:fn.body.isNone=true)
  (hn:Extern.findNext fn=none) (he:Extern.find fn=some Extern.BytealgIndexByte.indexByte) (s:Bs) (c:UInt8) (H:Hp):lT S f [.str s,.int .u8 (c.toNat:Int)] H (.int .i64 (Lib.indexByte s c)):=by
 refine IA hf vy hb hn he (λw β I vs hv=> ?_) rfl;obtain⟨u,v,rfl,h1,h2⟩:=Yo hv;simp only[RV] at h1 h2;subst h1;subst h2;exact⟨_,Lib.run_indexByteString _ _ _,ake⟩
def Mx {S:St} {f:Nat} {fn:Func} (hf:S.P.funcs[f]?=some fn) (vy:(fn.name== "runtime.NumGoroutine")=false) (hb:fn.body.isNone=true)
  (hn:Extern.findNext fn=none) (he:Extern.find fn=some Extern.BytealgCount.count) (s:Bs) (c:UInt8) (H:Hp):lT S f [.str s,.int .u8 (c.toNat:Int)] H (.int .i64 ((s.count c:Nat):Int)):=by
 refine IA hf vy hb hn he (λw β I vs hv=> ?_) rfl;obtain⟨u,v,rfl,h1,h2⟩:=Yo hv;simp only[RV] at h1 h2;subst h1;subst h2;exact⟨_,Lib.run_countString _ _ _,by simp[RV,Lib.countByte]⟩
def xR {S:St} {f:Nat} {fn:Func} (hf:S.P.funcs[f]?=some fn) (vy:(fn.name== "runtime.NumGoroutine")=false) (hb:fn.body.isNone=true)
  (hn:Extern.findNext fn=none) (he:Extern.find fn=some Extern.BytealgCompare.compare) (s t:Bs) (H:Hp):lT S f [.str s,.str t] H (.int .i64 (Lib.compareBytes s t)):=by
 refine IA hf vy hb hn he (λw β I vs hv=> ?_) rfl;obtain⟨u,v,rfl,h1,h2⟩:=Yo hv;simp only[RV] at h1 h2;subst h1;subst h2;exact⟨_,Lib.run_compareString _ _ _,ake⟩
def bF (c:UInt8):Bs->List Bs
 |[]=>[[]]
 |b::r=>if b=c then []::bF c r else match bF c r with
  |w::ws=>(b::w)::ws
  |[]=>[[b]]
theorem eT (c:UInt8):∀s:Bs,(Lib.indexByte s c= -1/\s.count c=0/\bF c s=[s]) \/
  ∃m:Nat,Lib.indexByte s c=(m:Int)/\m<s.length/\s.count c=(s.drop (m+1)).count c+1/\bF c s=s.take m::bF c (s.drop (m+1))
 |[]=> .inl ⟨rfl,rfl,rfl⟩
 |b::r=>by
  by_cases h:b=c
  ·subst h;refine .inr ⟨0,?_,ajL,ajL,?_⟩
   ·unfold Lib.indexByte;simp
   simp[bF]
  have hb:(b==c)=false:=aj6
  rcases eT c r with⟨h1,h2,h3⟩|⟨m,h1,h2,h3,h4⟩
  ·refine .inl ⟨?_,?_,?_⟩
   ·unfold Lib.indexByte;rw[hb,h1];rfl
   ·rw[List.count_cons,h2,hb];rfl
   simp[bF,h,h3]
  refine .inr ⟨m+1,?_,ajY,?_,?_⟩
  ·unfold Lib.indexByte;rw[hb,h1];have:((m:Int)== -1)=false:=(by rw[agZ];omega);rw[this];simp
  ·rw[List.count_cons,hb];simpa using h3
  simp[bF,h,h4]
theorem wR (c:UInt8):∀(n:Nat) (s:Bs),s.count c=n->(bF c s).length=n+1
 |0,s,h=>by
  rcases eT c s with⟨_,_,h3⟩|⟨m,_,_,h3,_⟩
  ·rw[h3];rfl
  omega
 |n+1,s,h=>by
  rcases eT c s with⟨_,h2,_⟩|⟨m,_,_,h3,h4⟩
  ·omega
  rw[h4,agd,wR c n _ ajK]
def P1 (c s:Bs):(decide (c.length<=s.length)&&s.take c.length==c)=c.isPrefixOf s:=by
 rw[agP];simp only[agm,agv,ag9,agN];constructor
 ·rintro⟨_,h⟩;have:=agD c.length s;rw[h] at this;exact⟨s.drop c.length,this⟩
 rintro⟨t,rfl⟩;simp
section
variable {P:Program} {G:Nat->Option (List IV)} [KN P G]
def Aj (hX:∀(N:Nat) (s:Bs) (c:UInt8) (H:Hp),lT ⟨P,G,N⟩ 99 [.str s,.int .u8 (c.toNat:Int)] H (.int .i64 (Lib.indexByte s c))) (s:Bs) (c:UInt8) :
  aj P G 63 [.str s,.int .u8 (c.toNat:Int)] (.int .i64 (Lib.indexByte s c)):=by
 refine au (cw 63 []) ajL ajO ajP ?_;simp only[↓aX,mX,seval];refine Dl (hX _ _ _ _) ?_;simp only[↓aX,mX,seval]
def P2 (h82:dK P G 82=dK Go.Proofs.Tryz.prog gD 82) (hX:∀(s:Bs) (c:UInt8),aj P G 63 [.str s,.int .u8 (c.toNat:Int)] (.int .i64 (Lib.indexByte s c))) (s:Bs) (c:UInt8) :
  aj P G 82 [.str s,.str [c]] (.int .i64 (Lib.indexByte s c)):=by
 refine au (rdX h82 []) ajL ajO ajP ?_;simp only[↓aX,mX,seval,agd,agx,show(((1:Nat):Int)==0)=false from rfl];cases h:(([c]:Bs)==s) with
 |true=>
  have:s=[c]:=by simpa using(eq_comm.1 (eq_of_beq h))
  subst this;have:Lib.indexByte [c] c=0:=by unfold Lib.indexByte;simp
  simp only[↓aX,mX,seval,this]
 |false=>
 simp only[↓aX,mX,seval,show(((1:Nat):Int)==1)=true from rfl,agF];refine ah (hX s c) ?_;simp only[↓aX,mX,seval]
def Yp (s:Bs) (c:UInt8)
  (hX:aj P G 82 [.str s,.str [c]] (.int .i64 (Lib.indexByte s c))):aj P G 96 [.str s,.str [c]] (.int .i64 (Lib.indexByte s c)):=by
 refine au (cw 96 []) ajL ajO ajP ?_;simp only[↓aX,mX,seval];refine ah hX ?_;simp only[↓aX,mX,seval]
def Yq (s:Bs) (c:UInt8)
  (hX:∀(N:Nat) (H:Hp),lT ⟨P,G,N⟩ 137 [.str s,.int .u8 (c.toNat:Int)] H (.int .i64 ((s.count c:Nat):Int))) :
  aj P G 95 [.str s,.str [c]] (.int .i64 ((s.count c:Nat):Int)):=by
 refine au (cw 95 []) ajL ajO ajP ?_;simp only[↓aX,mX,seval,agd,agx,show(((1:Nat):Int)==0)=false from rfl,show(((1:Nat):Int)==1)=true from rfl,agF];refine Dl (hX _ _) ?_;simp only[↓aX,mX,seval]
def Ak (s t:Bs):aj P G 127 [.str s,.str t] (.bool (t.isPrefixOf s)):=by
 refine au (cw 127 []) ajL ajO ajP ?_;rw[<-P1];simp only[↓aX,mX,seval];by_cases h:t.length<=s.length
 ·rw[show decide (((s.length:Nat):Int)>=((t.length:Nat):Int))=true by simpa using h,ahQ h];simp only[↓aX,mX,seval,iz,af5,af0,agt,h]
 exact abo
def vz (s t:Bs)
  (hX:aj P G 127 [.str s,.str t] (.bool (t.isPrefixOf s))) :
  aj P G 83 [.str s,.str t] (.bq [.str (if t.isPrefixOf s then s.drop t.length else s),.bool (t.isPrefixOf s)]):=by
 refine au (cw 83 []) ajL ajO ajU ?_;simp only[↓aX,mX,seval];refine ah hX ?_;cases h:t.isPrefixOf s with
 |false=>simp only[↓aX,mX,seval,af1,↓a_]
 |true=>
 have:t.length<=s.length:=by rw[agN] at h;exact h.length_le
 simp only[↓aX,mX,seval,af4,iz,af5,af0,agt,this,agu,↓a_]
def Al (s t:Bs)
  (hX:aj P G 83 [.str s,.str t] (.bq [.str (if t.isPrefixOf s then s.drop t.length else s),.bool (t.isPrefixOf s)])) :
  aj P G 48 [.str s,.str t] (.bq [.str (if t.isPrefixOf s then s.drop t.length else s),.bool (t.isPrefixOf s)]):=by
 refine au (cw 48 []) ajL ajO ajU ?_;simp only[↓aX,mX,seval];refine ah hX ?_;simp only[↓aX,mX,seval,↓a_]
def P3 (c s:Bs):(decide (c.length<=s.length)&&s.drop (s.length - c.length)==c)=c.isSuffixOf s:=by
 rw[agP];simp only[agm,agv,ag9,ahO];constructor
 ·rintro⟨_,h⟩;have:=agD (s.length - c.length) s;rw[h] at this;exact⟨_,this⟩
 rintro⟨t,rfl⟩;simp
def IB (s t:Bs) (hs:s.length<=B) (ht:t.length<=B):aj P G 128 [.str s,.str t] (.bool (t.isSuffixOf s)):=by
 refine au (cw 128 []) ajL ajO ajP ?_;rw[<-P3];simp only[↓aX,mX,seval];by_cases h:t.length<=s.length
 ·have hw:IntKind.i64.wrap ((s.length:Int) - (t.length:Int))=((s.length - t.length:Nat):Int):=by rw[wrap64 alA alA];omega
  rw[show decide (((s.length:Nat):Int)>=((t.length:Nat):Int))=true by simpa using h,ahQ h];simp only[↓aX,mX,seval,hw,iz,af5,af0,agt,show s.length - t.length<=s.length by omega,agu]
 exact abo
def DG (s t:Bs) (hs:s.length<=B) (ht:t.length<=B)
  (hX:aj P G 128 [.str s,.str t] (.bool (t.isSuffixOf s))) :
  aj P G 84 [.str s,.str t] (.bq [.str (if t.isSuffixOf s then s.take (s.length - t.length) else s),.bool (t.isSuffixOf s)]):=by
 refine au (cw 84 []) ajL ajO ajU ?_;simp only[↓aX,mX,seval];refine ah hX ?_;cases h:t.isSuffixOf s with
 |false=>simp only[↓aX,mX,seval,af1,↓a_]
 |true=>
 have hl:t.length<=s.length:=by rw[ahO] at h;exact h.length_le
 have hw:IntKind.i64.wrap ((s.length:Int) - (t.length:Int))=((s.length - t.length:Nat):Int):=by rw[wrap64 alA alA];omega
 simp only[↓aX,mX,seval,af4,hw,iz,af5,af0,agt,show s.length - t.length<=s.length by omega,↓a_]
 try simp
def IC (s t:Bs)
  (hX:aj P G 84 [.str s,.str t] (.bq [.str (if t.isSuffixOf s then s.take (s.length - t.length) else s),.bool (t.isSuffixOf s)])) :
  aj P G 50 [.str s,.str t] (.bq [.str (if t.isSuffixOf s then s.take (s.length - t.length) else s),.bool (t.isSuffixOf s)]):=by
 refine au (cw 50 []) ajL ajO ajU ?_;simp only[↓aX,mX,seval];refine ah hX ?_;simp only[↓aX,mX,seval,↓a_]
def a6 (c:UInt8) (s:Bs):Bs×Bs×Bool:=if 0<=Lib.indexByte s c then(s.take (Lib.indexByte s c).toNat,s.drop ((Lib.indexByte s c).toNat+1),true) else(s,[],false)
def ID {env:Env} {H:Hp} (t u v:Nat) (R:AV->Hp->Prop):eZ [(none,t),(none,u),(none,v)] R .ret env H=R (.bq [env t,env u,env v]) H:=ami
def Yr (s:Bs) (c:UInt8) (hs:s.length<=B)
  (hX:aj P G 82 [.str s,.str [c]] (.int .i64 (Lib.indexByte s c))) :
  aj P G 47 [.str s,.str [c]] (.bq [.str (a6 c s).1,.str (a6 c s).2.1,.bool (a6 c s).2.2]):=by
 refine au (cw 47 []) ajL ajO ajU ?_;unfold a6;simp only[↓aX,mX,seval];refine ah hX ?_;rcases eT c s with⟨h1,_,_⟩|⟨m,h1,h2,_,_⟩
 ·rw[h1,af8 ajN];simp only[↓aX,mX,reduceCtorEq,Int.reduceLT,Nat.reduceEqDiff,Int.reduceLE,Nat.reduceLT,Nat.reduceLeDiff,Nat.reduceAdd,Nat.reduceMul,Int.reduceToNat,show decide ((-1:Int)>=0)=false from rfl,↓ID]
 rw[h1,agc ajK];have hw:=w1 m alm;simp only[↓aX,mX,seval,ah1,af5,ag3];refine⟨rfl,?_⟩;simp only[↓aX,mX,seval,agd,agx,show((1:Nat):Int)=1 from rfl,hw,iz,yI,af5,af0,agt,
  show m<=s.length by omega,show m+1<=s.length by omega,agu,↓ID]
def aeg (s:Bs) (c:UInt8)
  (hX:aj P G 47 [.str s,.str [c]] (.bq [.str (a6 c s).1,.str (a6 c s).2.1,.bool (a6 c s).2.2])) :
  aj P G 18 [.str s,.str [c]] (.bq [.str (a6 c s).1,.str (a6 c s).2.1,.bool (a6 c s).2.2]):=by
 refine au (cw 18 []) ajL ajO ajU ?_;simp only[↓aX,mX,seval];refine ah hX ?_;simp only[↓aX,mX,seval,↓ID]
end

def P4 {sz b d:Nat} {z:List AV} {m:Nat} {k k':IntKind} {H:Hp} (h1:m*b<=140737488355328) (h2:H (.loc d)= .unused) :
  zf sz b d z (.int k (m:Int)) (.int k' (m:Int)) H=some (.sl (.loc d) sz 0 m,aS H (.loc d) (.live ⟨sz,List.replicate m z⟩)):=by
 unfold zf;simp only;rw[agc ⟨rfl,ajK,aj8,h2⟩,af0]
def yt (ws:List Bs):List (List AV):=ws.map λw=>[AV.str w]
def vA (ws:List Bs):yt ws=ak (ws.map IV.str):=by simp[yt,ak,IV.cells,IV.dw]
def FW {ws:List Bs} {cs:List AV} (h:cs∈yt ws):ai cs=[]:=by rw[vA] at h;exact bc h
def qV (ws:List Bs) (i:Nat) (w:Bs):(yt ws).set i [.str w]=yt (ws.set i w):=by simp[yt,aiT]
def qW (ws:List Bs) (i:Nat):(yt ws)[i]?=ws[i]?.map λw=>[AV.str w]:=by simp[yt]
def P5 (ws:List Bs):Flat (ws.map IV.str):=by
 intro y hy z hz cs;obtain⟨w,_,rfl⟩:=agp.1 hy;simp only[IV.cells,af'] at hz;subst hz;simp
def jH (ws:List Bs) (n i:Nat):List Bs:=ws.take i++List.replicate (n - i) []
def FX {ws:List Bs} {n i:Nat} (h:i<=ws.length) (h2:i<=n):(jH ws n i).length=n:=by simp[jH];omega
def xS {ws:List Bs} {n i:Nat} {w:Bs} (h:ws[i]?=some w) (h2:i<n):(jH ws n i).set i w=jH ws n (i+1):=by
 have hl:=(afY.1 h).1;have hlen:(ws.take i).length=i:=ali
 unfold jH;rw[ahr _ _ ajK,hlen,ahc,agz,h,show n - i=(n - (i+1))+1 by omega,aiZ,ai4];simp
def FY {ws:List Bs} {n:Nat} (h:ws.length=n):jH ws n n=ws:=by
 unfold jH;rw[ahc,ajA,agb,af2 ajK]
structure aeh (c:UInt8) (s:Bs) where
 i:Nat
 r:Bs
 hc:r.count c+i=s.count c
 hs:bF c s=(bF c s).take i++bF c r
 hl:r.length<=s.length
def My {P:Program} {G:Nat->Option (List IV)} [KN P G] (s:Bs) (c:UInt8) (hs:s.length<=B)
  (hC:aj P G 95 [.str s,.str [c]] (.int .i64 ((s.count c:Nat):Int))) (hX:∀r:Bs,aj P G 96 [.str r,.str [c]] (.int .i64 (Lib.indexByte r c))) :
  aj P G 58 [.str s,.str [c],.int .i64 0,.int .i64 (-1)] (.list ((bF c s).map IV.str)):=by
 refine au (cw 58 [.r (.tj (.loc 31) 8)]) ajL ajO ajP ?_;have yA:s.count c<=s.length:=aiW;have gV:B=1073741824:=rfl;have Mv:=wR c _ s rfl;have gz:IntKind.i64.wrap (((s.count c:Nat):Int)+1)=((s.count c+1:Nat):Int):=wrap64 ajK ajK;have ml:IntKind.i64.wrap (((s.length:Nat):Int)+1)=((s.length+1:Nat):Int):=wrap64 ajK ajK;have Cg:IntKind.i64.wrap (((s.count c+1:Nat):Int) - 1)=((s.count c:Nat):Int):=ajW
 have OA:¬(((s.length+1:Nat):Int)<((s.count c+1:Nat):Int)):=ajK
 simp only[↓aX,mX,seval,show((-1:Int)==0)=false from rfl,show(([c]:Bs)==[])=false from rfl,ag3];refine ah hC ?_;simp only[↓aX,mX,seval,gz,ml,OA];rw[P4 ajK an0];simp only[↓aX,mX,seval,Cg];refine b_ (σ:=aeh c s) [.loc 31] (λq=>[(0,.str q.r),(1,.str [c]),(2,.int .i64 0),(3,.int .i64 ((s.count c:Nat):Int)),(9,.sl (.loc 31) 1 0 (s.count c+1)),(10,.int .i64 q.i)])
  (λq=>[(.loc 31,⟨1,yt (jH (bF c s) (s.count c+1) q.i)⟩)]) (λq=>s.count c - q.i) ⟨0,s,rfl,ajL,af6 _⟩ (λ_=>rfl) ajN ajO (by
   intro q r hr cs aZ l hl;simp only[af'] at hr;subst hr;rw[FW aZ] at hl;simp at hl) ?_ ?_
 ·refine eu ak1 ajT ⟨?_,trivial⟩;simp[jH,yt,ae]
 rintro⟨i,r,hc,vZ,hl⟩;have hlen:(jH (bF c s) (s.count c+1) i).length=s.count c+1:=FX ajK ajK;simp only[↓aX,mX,seval,aR,aI];by_cases aF:i<s.count c
 ·rw[show decide (((i:Nat):Int)<((s.count c:Nat):Int))=true by simpa using aF];simp only[↓aX,mX,seval];refine ah (hX r) ?_;rcases eT c r with⟨_,h2,_⟩|⟨m,h1,h2,h3,h4⟩
  ·omega
  rw[h1];have bU:(bF c s)[i]?=some (r.take m):=by
   rw[vZ,agr ali,h4,agA,ahK ajK,ahc];rfl
  obtain⟨w0,yn⟩:∃w0,(jH (bF c s) (s.count c+1) i)[i]?=some w0:=⟨_,af7 ajK⟩;have kH:=xS (n:=s.count c+1) bU ajK;have P6:IntKind.i64.wrap (((m:Nat):Int)+0)=((m:Nat):Int):=ajW
  have Ys:IntKind.i64.wrap (((m:Nat):Int)+1)=((m+1:Nat):Int):=wrap64 ajK ajK;have hwc:IntKind.i64.wrap (((i:Nat):Int)+1)=((i+1:Nat):Int):=wrap64 ajK ajK;simp only[↓aX,mX,seval,show ¬(((m:Nat):Int)<0) by omega,ag4,P6,iz,yI,af5,af0,agt,show m<=r.length by omega,agj,qV,qW,hlen,yn,af9,af_,ag_,aiJ,kH,show i<s.count c+1 by omega,agh,
   agd,agx,show((1:Nat):Int)=1 from rfl,Ys,show m+1<=r.length by omega,agu,hwc]
  exact⟨⟨i+1,r.drop (m+1),ajK,by
    have h5:(bF c s).take (i+1)=(bF c s).take i++[r.take m]:=(by rw[agz,bU];rfl);rw[h5,agM];rw[h4] at vZ;exact vZ,by rw[ahe];omega⟩,ajM,eu ak1 ajT ⟨ajR,trivial⟩⟩
 have hi:i=s.count c:=ajK
 subst hi;have hz:r.count c=0:=ajK
 have hr:bF c r=[r]:=by
  rcases eT c r with⟨_,_,h3⟩|⟨m,_,_,h3,_⟩
  ·exact h3
  omega
 have bU:(bF c s)[s.count c]?=some r:=by
  rw[vZ,hr,agr ali,agA,ahK ajK,ahc];rfl
 obtain⟨w0,yn⟩:∃w0,(jH (bF c s) (s.count c+1) (s.count c))[s.count c]?=some w0:=⟨_,af7 ajK⟩;have kH:=xS (n:=s.count c+1) bU ajK;rw[FY Mv] at kH;rw[show decide (((s.count c:Nat):Int)<((s.count c:Nat):Int))=false by simp];simp only[↓aX,mX,seval,iz,yI,af5,af0,agt,qW,yn,af9,af_,agd,agx,ag_,agj,aiJ,agh,qV,kH,gz,
  show s.count c<s.count c+1 by omega,af6]
 simp only[↓aX,mX,seval,nH,nG,iz,yI,af5,af0,agt,af6,agO,af_,af9,ahG,ait,ahs,agh];refine⟨1,(bF c s).map IV.str,0,s.count c+1,rfl,?_,by simp[Mv],P5 _,?_⟩
 ·rw[<-vA];try simp[ae]
 simp only[↓aX,mX,seval,agj,af2 (show((bF c s).map IV.str).length<=s.count c+1 by rw[eD];omega)]
def Yt {P:Program} {G:Nat->Option (List IV)} [KN P G] (s:Bs) (c:UInt8)
  (hX:aj P G 58 [.str s,.str [c],.int .i64 0,.int .i64 (-1)] (.list ((bF c s).map IV.str))):aj P G 49 [.str s,.str [c]] (.list ((bF c s).map IV.str)):=by
 refine au (cw 49 []) ajL ajO ajP ?_;simp only[↓aX,mX,seval];refine ah hX ?_;simp only[↓aX,mX,seval]

def wS (t s:Bs):Bs:=if t.isSuffixOf s then s.take (s.length - t.length) else s
def An (n:Bs):Option Int:=match Lib.atoiAll n with
 | .ok k=>if Lib.itoa k=n/\1<=k then some k else none
 |_=>none
def qX (w:Bs):Option Int:=if(a6 91 w).2.2 then(if [93].isSuffixOf (a6 91 w).2.1 then An (wS [93] (a6 91 w).2.1) else none) else some 0
def kz (nm:Bs):Option Bs:=if nm=[] then none else if nm=[35] then some [] else some nm
def gr (w:Bs):Option Step:=(qX w).bind λk=>(kz (a6 91 w).1).map λnm=>⟨nm,k⟩
def eo:List Bs->Option (List Step)
 |[]=>some []
 |w::r=>(gr w).bind λx=>(eo r).map λl=>x::l
def lM (s:Bs):Option (List Step):=
 if [47].isPrefixOf s/\s.length<=2500 then(eo (bF 47 (s.drop 1))).bind λl=>if bm l then some l else none else none
def kf (s:Bs):AV:=match lM s with
 |some l=> .bq [.list (l.map Step.iv),.int .i64 0]
 |none=> .bq [.nil0,.int .i64 1]
theorem xT:∀(ws:List Bs) (w:Bs),eo (ws++[w])=(eo ws).bind λl=>(gr w).map λx=>l++[x]
 |[],w=>by cases h:gr w<;>simp[eo,h]
 |v::r,w=>by
  simp only[List.cons_append,eo,xT r w];cases gr v<;>simp;cases eo r<;>simp;cases gr w<;>simp
def FZ {ws:List Bs} {i:Nat} {w:Bs} {l:List Step} (h:ws[i]?=some w) (hl:eo (ws.take i)=some l):eo (ws.take (i+1))=(gr w).map λx=>l++[x]:=by
 rw[agz,h,ahR,xT,hl];rfl
theorem xU:∀{ws:List Bs} {w:Bs},w∈ws->gr w=none->eo ws=none
 |v::r,w,hm,h=>by
  rcases aga.1 hm with rfl|hm
  ·simp[eo,h]
  simp only[eo,xU hm h];cases gr v<;>rfl
theorem Ao:∀{ws:List Bs} {l:List Step},eo ws=some l->l.length=ws.length
 |[],l,h=>by simp[eo] at h;subst h;rfl
 |v::r,l,h=>by
  simp only[eo,afX,acF] at h;obtain⟨x,_,l',h2,rfl⟩:=h;simp[Ao h2]
def Mz (c:UInt8) (s:Bs):(bF c s).length=s.count c+1:=wR c _ s rfl
def gY (c:UInt8) (w:Bs):(a6 c w).1.length<=w.length/\(a6 c w).2.1.length<=w.length:=by
 unfold a6;split
 ·simp only[agA,ahe];omega
 simp
def P7 (t s:Bs):(wS t s).length<=s.length:=by
 unfold wS;split
 ·simp only[agA];omega
 exact af6 _
def IE {w:Bs} {x:Step} (h:gr w=some x):x.name.length<=w.length:=by
 simp only[gr,afX,acF] at h;obtain⟨k,_,nm,hn,rfl⟩:=h;have:=(gY 91 w).1;unfold kz at hn;split at hn
 ·cases hn
 split at hn
 ·cases hn;exact agO _
 cases hn;exact this
theorem xV:∀{ws:List Bs} {l:List Step},eo ws=some l->∀x∈l,∃w∈ws,x.name.length<=w.length
 |[],l,h=>by simp[eo] at h;subst h;simp
 |v::r,l,h=>by
  simp only[eo,afX,acF] at h;obtain⟨x,hx,l',h2,rfl⟩:=h;intro y hy;rcases aga.1 hy with rfl|hy
  ·exact⟨v,ajL,IE hx⟩
  obtain⟨w,h3,h4⟩:=xV h2 y hy;exact⟨w,by simp[h3],h4⟩
theorem wT (c:UInt8):∀(s:Bs),∀w∈bF c s,w.length<=s.length
 |[],w,h=>by simp[bF] at h;subst h;simp
 |b::r,w,h=>by
  have ih:=wT c r;simp only[bF] at h;split at h
  ·rcases aga.1 h with rfl|h
   ·simp
   have:=ih w h;simp;omega
  split at h
  ·rename_i v vs e;rw[e] at ih;rcases aga.1 h with rfl|h
   ·have:=ih v ajL;simp;omega
   have:=ih w anM;simp;omega
  simp at h;subst h;simp
structure Yu (ws:List Bs) where
 i:Nat
 l:List Step
 hi:i<=ws.length
 h:eo (ws.take i)=some l
def xW (ws:List Bs) (q:Yu ws):List (Nat×AV):=
 [(6,.sl (.loc 6) 2 0 q.i),(30,.list (ws.map IV.str)),(31,.int .i64 ws.length),(32,.int .i64 q.i)]
def E8 (ws:List Bs) (q:Yu ws):List (Lb×Row):=[(.loc 6,⟨2,ak (q.l.map Step.iv)⟩)]
section
variable {P:Program} {G:Nat->Option (List IV)} [KN P G]
def VM (P:Program) (G:Nat->Option (List IV)) (f:Nat):Prop:=∀n:Bs,n.length<=B->∃k e,aj P G f [.str n] (.bq [.int .i64 k,e])/\((e= .jS/\Lib.atoiAll n= .ok k)\/((∃t,e= .ifc t .any)/\∀v,Lib.atoiAll n≠ .ok v))
def P8 (P:Program) (G:Nat->Option (List IV)) (f:Nat):Prop:=∀k:Int,-9223372036854775808<=k->k<=9223372036854775807->aj P G f [.int .i64 k] (.str (Lib.itoa k))
def IF (s:Bs) (hs:s.length<=2^24)
  (hCP:aj P G 48 [.str s,.str [47]] (.bq [.str (if [47].isPrefixOf s then s.drop 1 else s),.bool ([47].isPrefixOf s)]))
  (hSp:aj P G 49 [.str (s.drop 1),.str [47]] (.list ((bF 47 (s.drop 1)).map IV.str)))
  (hCu:∀w∈bF 47 (s.drop 1),aj P G 18 [.str w,.str [91]] (.bq [.str (a6 91 w).1,.str (a6 91 w).2.1,.bool (a6 91 w).2.2]))
  (hCS:∀w∈bF 47 (s.drop 1),aj P G 50 [.str (a6 91 w).2.1,.str [93]] (.bq [.str (wS [93] (a6 91 w).2.1),.bool ([93].isSuffixOf (a6 91 w).2.1)]))
  (hA:∀w∈bF 47 (s.drop 1),∃k e,aj P G 51 [.str (wS [93] (a6 91 w).2.1)] (.bq [.int .i64 k,e])/\((e= .jS/\Lib.atoiAll (wS [93] (a6 91 w).2.1)= .ok k)\/((∃t,e= .ifc t .any)/\∀v,Lib.atoiAll (wS [93] (a6 91 w).2.1)≠ .ok v)))
  (hI:P8 P G 52) (hG:∀l:List Step,l.length<=B->(∀x∈l,x.name.length<=s.length)->aj P G 53 [.list (l.map Step.iv)] (.bool (bm l))) :
  aj P G 20 [.str s] (kf s):=by
 refine au (cw 20 [.a 6 (.own 6 2),.b 84 (.tj (.loc 6) 6)]) ajL ajO (by unfold kf;split<;>simp[AV.aq,ai]) ?_;have gV:B=1073741824:=rfl;simp only[↓aX,mX,seval];refine ah hCP ?_;simp only[↓aX,mX,seval];cases hp:([47]:Bs).isPrefixOf s with
 |false=>simp only[↓aX,mX,seval,af1,↓a_,kf,lM,hp,agl,false_and,aiP]
 |true=>
 simp only[↓aX,mX,seval,af4];rcases ajD 2500 s.length with hlen|hlen
 ·simp only[↓aX,mX,seval,show decide ((s.length:Int)>2500)=true by simp;omega,↓a_,kf,lM,show ¬s.length<=2500 by omega,and_false,aiP]
 simp only[↓aX,mX,seval,show decide ((s.length:Int)>2500)=false by simp;omega];refine ah hSp ?_;obtain⟨ws,hws⟩:∃ws,bF 47 (s.drop 1)=ws:=⟨_,rfl⟩;have hwl:ws.length<=2501:=by
  rw[<-hws,Mz];have:=aiW (a:=(47:UInt8)) (l:=s.drop 1);simp only[ahe] at this;omega
 have R3:lM s=(eo ws).bind λl=>if bm l then some l else none:=by simp only[lM,hp,show s.length<=2500 from hlen,hws,agt,ajl]
 rw[hws] at hCu hCS hA ⊢;simp only[↓aX,mX,seval,eD];refine br (σ:=Yu ws) (λ_=>[.loc 6]) (λ_ _=>false) (xW ws) (E8 ws) (λq=>ws.length - q.i) ⟨0,[],ajK,rfl⟩ (λ_=>rfl) (λq=>by simp[ai,AV.aq,xW]) ?_ ⟨[],?_⟩ ?_
 ·intro q w hw cs aZ z hz;simp only[E8,af'] at hw;subst hw;rw[bc aZ] at hz;simp at hz
 ·refine⟨?_,?_,?_,ajS,λl _=>⟨id,λ_=>rfl⟩⟩
  ·exact ow
  ·simp[dp,aD,aH,put,xW]
  simp[eL,aD,ae,aP,aA,aH,ak,E8]
 rintro⟨i,l,hi,h⟩;rw[dq];have HO:l.length=i:=by have:=Ao h;simp only[agA] at this;omega
 have hr:∀(ρ:Lb->Lb) (xs:List IV),aP ρ ⟨2,ak xs⟩=⟨2,ak xs⟩:=λρ xs=>aK _ _ _;simp only[↓aX,mX,seval,xW,E8,aR,aI];by_cases aF:i<ws.length
 ·obtain⟨w,hw⟩:=gE aF;have Sf:=af3 hw;have gz:=w1 i;have hwe:(ws.map IV.str)[i]?=some (.str w):=by simp[hw]
  have j5:dV 1 (ws.map IV.str):=akn
  have oe:gr w=none->kf s= .bq [.nil0,.int .i64 1]:=λe=>by simp only[kf,R3,xU Sf e];rfl
  have next:∀x:Step,gr w=some x->eo (ws.take (i+1))=some (l++[x]):=λx e=>by rw[FZ hw h,e];rfl
  simp only[↓aX,mX,seval,dT aF,hwe,j5,IV.cells,af5,af0,HO];refine ah (hCu w Sf) ?_;simp only[↓aX,mX,seval];cases KD:(a6 91 w).2.2 with
  |false=>
   have qY:qX w=some 0:=(by simp only[qX,KD];rfl);simp only[↓aX,mX,seval];cases ov:((a6 91 w).1==[]) with
   |true=>
    have Ap:kz (a6 91 w).1=none:=alv;simp only[↓aX,mX,seval,↓a_,oe amP]
   |false=>
   have JJ:(a6 91 w).1≠[]:=(by intro e;simp[e] at ov);cases Hj:((a6 91 w).1==[35]) with
   |true=>
    have Ap:kz (a6 91 w).1=some []:=alo;simp only[↓aX,mX,seval,Hj];rw[bX 2 24 82 6 (l.map Step.iv) (.agg [.str [],.int .i64 0]) ajR amB rfl aj0 ajK ajK ajK ajX];simp only[↓aX,mX,seval,gz];refine⟨⟨i+1,l++[⟨[],0⟩],aF,next _ alB⟩,ajM,[(.loc 6,.loc 82)],?_⟩;refine⟨?_,?_,?_,ajS,?_⟩
    ·exact ow
    ·simp[dp,aD,aH,put,xW]
    ·exact S_
    exact O6
   |false=>
   have hn3:(a6 91 w).1≠[35]:=(by intro e;simp[e] at Hj);have Ap:kz (a6 91 w).1=some (a6 91 w).1:=(by simp only[kz,JJ,hn3,aiP]);simp only[↓aX,mX,seval,Hj];rw[bX 2 24 82 6 (l.map Step.iv) (.agg [.str (a6 91 w).1,.int .i64 0]) ajR amB rfl aj0 ajK ajK ajK ajX];simp only[↓aX,mX,seval,gz];refine⟨⟨i+1,l++[⟨(a6 91 w).1,0⟩],aF,next _ alB⟩,ajM,[(.loc 6,.loc 82)],?_⟩;refine⟨?_,?_,?_,ajS,?_⟩
   ·exact ow
   ·simp[dp,aD,aH,put,xW]
   ·exact S_
   exact O6
  |true=>
  simp only[↓aX,mX,seval];refine ah (hCS w Sf) ?_;simp only[↓aX,mX,seval];obtain⟨k,e,NV,aZ⟩:=hA w Sf;refine ah NV ?_;have j5:e.aq=[]:=by rcases aZ with⟨rfl,_⟩|⟨⟨t,rfl⟩,_⟩<;>rfl
  cases BK:([93]:Bs).isSuffixOf (a6 91 w).2.1 with
  |false=>
   have qY:qX w=none:=(by simp only[qX,KD,BK];rfl);simp only[↓aX,mX,seval,af1,↓a_,oe alS]
  |true=>
  have um:qX w=An (wS [93] (a6 91 w).2.1):=by simp only[qX,KD,BK,agn]
  rcases aZ with⟨rfl,kn⟩|⟨⟨t,rfl⟩,F0⟩
  ·obtain⟨pe,P9⟩:=Lib.atoiAll_bounds kn;simp only[↓aX,mX,seval,af4];refine ah (hI k pe P9) ?_;cases hit:(Lib.itoa k==wS [93] (a6 91 w).2.1) with
   |false=>
    have qY:qX w=none:=(by rw[um];simp only[An,kn,show ¬Lib.itoa k=wS [93] (a6 91 w).2.1 by intro e;simp[e] at hit,false_and,aiP]);simp only[↓aX,mX,seval,hit,af1,↓a_,oe alS]
   |true=>
   have ab3:Lib.itoa k=wS [93] (a6 91 w).2.1:=(by simpa using hit);by_cases hk:k<1
   ·have qY:qX w=none:=(by rw[um];simp only[An,kn,ab3,show ¬1<=k by omega,and_false,aiP]);simp only[↓aX,mX,seval,hit,af4,hk,ag3,↓a_,oe alS]
   have qY:qX w=some k:=(by rw[um];simp only[An,kn,ab3,show 1<=k by omega,agR,ajl]);simp only[↓aX,mX,seval,hit,af4,hk,ag4];cases ov:((a6 91 w).1==[]) with
   |true=>
    have Ap:kz (a6 91 w).1=none:=alv;simp only[↓aX,mX,seval,↓a_,oe amP]
   |false=>
   have JJ:(a6 91 w).1≠[]:=(by intro e;simp[e] at ov);cases Hj:((a6 91 w).1==[35]) with
   |true=>
    have Ap:kz (a6 91 w).1=some []:=alo;simp only[↓aX,mX,seval,Hj];rw[bX 2 24 82 6 (l.map Step.iv) (.agg [.str [],.int .i64 k]) ajR amB rfl aj0 ajK ajK ajK ajX];simp only[↓aX,mX,seval,gz];refine⟨⟨i+1,l++[⟨[],k⟩],aF,next _ alB⟩,ajM,[(.loc 6,.loc 82)],?_⟩;refine⟨?_,?_,?_,ajS,?_⟩
    ·exact ow
    ·simp[dp,aD,aH,put,xW]
    ·exact S_
    exact O6
   |false=>
   have hn3:(a6 91 w).1≠[35]:=(by intro e;simp[e] at Hj);have Ap:kz (a6 91 w).1=some (a6 91 w).1:=(by simp only[kz,JJ,hn3,aiP]);simp only[↓aX,mX,seval,Hj];rw[bX 2 24 82 6 (l.map Step.iv) (.agg [.str (a6 91 w).1,.int .i64 k]) ajR amB rfl aj0 ajK ajK ajK ajX];simp only[↓aX,mX,seval,gz];refine⟨⟨i+1,l++[⟨(a6 91 w).1,k⟩],aF,next _ alB⟩,ajM,[(.loc 6,.loc 82)],?_⟩;refine⟨?_,?_,?_,ajS,?_⟩
   ·exact ow
   ·simp[dp,aD,aH,put,xW]
   ·exact S_
   exact O6
  have qY:qX w=none:=by
   rw[um];unfold An;split
   ·rename_i v hv;exact absurd hv (F0 v)
   rfl
  simp only[↓aX,mX,seval,af4,↓a_,oe alS]
 have hiw:i=ws.length:=ajK
 subst hiw;have fG:eo ws=some l:=by rw[agu] at h;exact h
 simp only[↓aX,mX,seval,show decide ((ws.length:Int)<(ws.length:Int))=false by simp];have ig:List.take ws.length (l.map Step.iv)=l.map Step.iv:=af2 amB;refine⟨2,l.map Step.iv,0,ws.length,rfl,rfl,amB,PW _,?_⟩;simp only[↓aX,mX,seval,agj,ig];refine ah (hG l ajK (λx hx=>by
  obtain⟨w,hw,hq⟩:=xV fG x hx;have h2:=wT 47 (s.drop 1) w (by rw[hws];exact hw);rw[ahe] at h2;omega)) ?_
 cases hg:bm l with
 |false=>simp only[↓aX,mX,seval,af1,↓a_,kf,R3,fG,af_,hg,agl,aiP]
 |true=>simp only[↓aX,mX,seval,af4,↓a_,ig,kf,R3,fG,af_,hg,ajl]
end
end Go.Am
