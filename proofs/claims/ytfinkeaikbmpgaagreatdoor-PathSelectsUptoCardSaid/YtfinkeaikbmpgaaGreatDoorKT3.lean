import Derived.Test.YtfinkeaikbmpgaaGreatDoorKT2
import Derived.Test.YtfinkeaikbmpgaaGreatDoorKAm25
import Derived.Test.YtfinkeaikbmpgaaGreatDoorKD2
set_option linter.unusedSimpArgs false
set_option linter.unusedVariables false
set_option linter.unnecessarySimpa false
set_option linter.defProp false
/- Trees: out of readings. -/
namespace Go.Am
open Go Go.RowKit
section
variable {P:Program}
theorem Sh.CA {t:TypeId} {y:IV} (h:Sh P t y) (hu:P.underlying t=some .bool):∃x,y= .bool x:=by
 cases h<;>simp_all
theorem Sh.yJ {t:TypeId} {y:IV} {k:IntKind} (h:Sh P t y) (hu:P.underlying t=some (.int k)):∃n,y= .int k n∧(Lit.int k n).wf=true:=by
 cases h<;>simp_all
theorem Sh.sb {t:TypeId} {y:IV} (h:Sh P t y) (hu:P.underlying t=some .string):∃x,y= .str x:=by
 cases h<;>simp_all
theorem Sh.pQ {t e:TypeId} {y:IV} (h:Sh P t y) (hu:P.underlying t=some (.slice e)):∃ys,y= .list ys∧∀y∈ys,Sh P e y:=by
 cases h<;>simp_all
theorem Sh.sc {t:TypeId} {fs:Array Field} {y:IV} (h:Sh P t y) (hu:P.underlying t=some (.struct fs)) :
  ∃ys,y= .agg ys∧ys.length=fs.size∧∀(j:Nat) (f:Field) (y:IV),fs[j]?=some f→ys[j]?=some y→Sh P f.type y:=by
 cases h with
 |g Gc h1 h2=>
  rw[Gc] at hu;cases hu;exact⟨_,rfl,h1,h2⟩
 |_=>simp_all
structure wz (P:Program) where
 tB:TypeId
 tS:TypeId
 tA:TypeId
 E':TypeId
 tT:TypeId
 Ht:TypeId
 fA:Array Field
 fT:Array Field
 uB:P.underlying tB=some .bool
 uS:P.underlying tS=some .string
 IL:P.underlying E'=some (.slice tA)
 JL:P.underlying Ht=some (.slice tT)
 uA:P.underlying tA=some (.struct fA)
 uT:P.underlying tT=some (.struct fT)
 sA:fA.toList.map (·.type)=[tS,tS]
 sT:fT.toList.map (·.type)=[tB,tS,E',Ht]
theorem dD {fs:Array Field} {ts:List TypeId} (h:fs.toList.map (·.type)=ts) (j:Nat) (t:TypeId) (ht:ts[j]?=some t):∃f,fs[j]?=some f∧f.type=t:=by
 subst h;rw[List.getElem?_map] at ht;obtain⟨f,h1,rfl⟩:=Option.map_eq_some_iff.1 ht;exact⟨f,by simpa using h1,rfl⟩
theorem Sh.attr (T:wz P) {y:IV} (h:Sh P T.tA y):∃a:Attr,y=a.iv∧a.wt≤y.wt:=by
 obtain⟨ys,rfl,hl,hy⟩:=h.sc T.uA;have hs:T.fA.size=2:=by have:=congrArg List.length T.sA;simpa using this
 match ys,hl.trans hs,hy with
 |[y0,y1],_,hy=>
  obtain⟨f0,e0,t0⟩:=dD T.sA 0 T.tS rfl;obtain⟨f1,e1,t1⟩:=dD T.sA 1 T.tS rfl;have h0:=hy 0 f0 y0 e0 rfl;have h1:=hy 1 f1 y1 e1 rfl;rw[t0] at h0;rw[t1] at h1;obtain⟨x0,rfl⟩:=h0.sb T.uS;obtain⟨x1,rfl⟩:=h1.sb T.uS;exact⟨⟨x0,x1⟩,rfl,by simp[Attr.wt,IV.wt,jE];omega⟩
theorem Sh.attrs (T:wz P):∀(ys:List IV),(∀y∈ys,Sh P T.tA y)→∃as,ys=eh as∧pI as≤jE ys
 |[],_=>⟨[],rfl,by simp[pI,jE]⟩
 |y::r,h=>by
  obtain⟨a,rfl,h1⟩:=(h y (by simp)).attr T;obtain⟨as,rfl,h2⟩:=Sh.attrs T r (fun z hz=>h z (by simp[hz]));exact⟨a::as,rfl,by simp only[pI,jE];omega⟩
theorem Sh.dy (T:wz P):∀(n:Nat),(∀y:IV,y.wt≤n→Sh P T.tT y→∃x:Tree,y=x.iv∧x.wt≤y.wt)∧∀ys:List IV,jE ys≤n→(∀y∈ys,Sh P T.tT y)→∃xs,ys=eY xs∧fL xs≤jE ys:=by
 intro n
 induction n with
 |zero=>
  refine⟨fun y hy h=> ?_,fun ys hy h=> ?_⟩
  ·exfalso;cases y<;>simp[IV.wt] at hy
  ·cases ys with
   |nil=>exact⟨[],rfl,by simp[fL,jE]⟩
   |cons y r=>exfalso;cases y<;>simp[IV.wt,jE] at hy
 |succ n ih=>
  have one:∀y:IV,y.wt≤n+1→Sh P T.tT y→∃x:Tree,y=x.iv∧x.wt≤y.wt:=by
   intro y hy h;obtain⟨ys,rfl,hl,nE⟩:=h.sc T.uT;have hs:T.fT.size=4:=by have:=congrArg List.length T.sT;simpa using this
   match ys,hl.trans hs,nE,hy with
   |[y0,y1,y2,y3],_,nE,hy=>
    obtain⟨f0,e0,t0⟩:=dD T.sT 0 T.tB rfl;obtain⟨f1,e1,t1⟩:=dD T.sT 1 T.tS rfl;obtain⟨f2,e2,t2⟩:=dD T.sT 2 T.E' rfl;obtain⟨f3,e3,t3⟩:=dD T.sT 3 T.Ht rfl;have h0:=nE 0 f0 y0 e0 rfl;have h1:=nE 1 f1 y1 e1 rfl;have h2:=nE 2 f2 y2 e2 rfl;have h3:=nE 3 f3 y3 e3 rfl;rw[t0] at h0;rw[t1] at h1;rw[t2] at h2;rw[t3] at h3;obtain⟨b,rfl⟩:=h0.CA T.uB;obtain⟨s,rfl⟩:=h1.sb T.uS;obtain⟨z2,rfl,g2⟩:=h2.pQ T.IL
    obtain⟨z3,rfl,g3⟩:=h3.pQ T.JL;obtain⟨as,rfl,w2⟩:=Sh.attrs T z2 g2;simp only[IV.wt,jE] at hy;obtain⟨ks,rfl,w3⟩:=ih.2 z3 (by omega) g3;exact⟨.mk b s as ks,by simp[Tree.iv],by simp only[Tree.wt,IV.wt,jE];omega⟩
  refine⟨one,fun ys=> ?_⟩
  induction ys with
  |nil=>exact fun _ _=>⟨[],rfl,by simp[fL,jE]⟩
  |cons y r II=>
   intro hy h;simp only[jE] at hy;obtain⟨x,rfl,h1⟩:=one y (by omega) (h y (by simp));obtain⟨xs,rfl,h2⟩:=II (by omega) (fun z hz=>h z (by simp[hz]));exact⟨x::xs,rfl,by simp only[fL,jE];omega⟩
end
end Go.Am

/- Documents: out of readings. -/
namespace Go.Am
open Go Go.RowKit
mutual
theorem Tree.oN (off:Nat) (p:Int):∀x:Tree,gO (x.flat off p)+1≤2*x.wt
 | .mk t s as ks=>by
  have:=nj (off+1) off ks;simp only[Tree.flat,gO,Node.wt,Tree.wt,jF];omega
theorem nj (off p:Nat):∀xs:List Tree,gO (cT off p xs)+xs.length≤2*fL xs
 |[]=>by simp[fL,cT,gO]
 |k::r=>by
  have:=k.oN off p;have:=nj (off+k.dP) p r;simp only[cT,l_,fL,List.length_cons];omega
end
theorem yK (x:Tree):gO (aR x)≤2*x.wt:=by have:=x.oN 0 (-1);unfold aR;omega
section
variable {P:Program}
structure Gx (P:Program) (T:wz P) where
 tI:TypeId
 Hu:TypeId
 tN:TypeId
 Hv:TypeId
 tD:TypeId
 fN:Array Field
 fD:Array Field
 uI:P.underlying tI=some (.int .i64)
 JM:P.underlying Hu=some (.slice tI)
 uN:P.underlying tN=some (.struct fN)
 JN:P.underlying Hv=some (.slice tN)
 uD:P.underlying tD=some (.struct fD)
 sN:fN.toList.map (·.type)=[T.tB,T.tS,T.E',tI,Hu]
 sD:fD.toList.map (·.type)=[Hv]
theorem Sh.ints {T:wz P} (D:Gx P T):∀(ys:List IV),(∀y∈ys,Sh P D.tI y)→∃xs:List Int,ys=xs.map bl∧xs.length≤jE ys
 |[],_=>⟨[],rfl,by simp[jE]⟩
 |y::r,h=>by
  obtain⟨n,rfl,_⟩:=(h y (by simp)).yJ D.uI;obtain⟨xs,rfl,h2⟩:=Sh.ints D r (fun z hz=>h z (by simp[hz]));exact⟨n::xs,rfl,by simp only[List.length_cons,jE,IV.wt];omega⟩
theorem Sh.node {T:wz P} (D:Gx P T) {y:IV} (h:Sh P D.tN y):∃x:Node,y=x.iv∧x.wt≤y.wt:=by
 obtain⟨ys,rfl,hl,nE⟩:=h.sc D.uN;have hs:D.fN.size=5:=by have:=congrArg List.length D.sN;simpa using this
 match ys,hl.trans hs,nE with
 |[y0,y1,y2,y3,y4],_,nE=>
  obtain⟨f0,e0,t0⟩:=dD D.sN 0 T.tB rfl;obtain⟨f1,e1,t1⟩:=dD D.sN 1 T.tS rfl;obtain⟨f2,e2,t2⟩:=dD D.sN 2 T.E' rfl;obtain⟨f3,e3,t3⟩:=dD D.sN 3 D.tI rfl;obtain⟨f4,e4,t4⟩:=dD D.sN 4 D.Hu rfl;have h0:=nE 0 f0 y0 e0 rfl;have h1:=nE 1 f1 y1 e1 rfl;have h2:=nE 2 f2 y2 e2 rfl;have h3:=nE 3 f3 y3 e3 rfl;have h4:=nE 4 f4 y4 e4 rfl;rw[t0] at h0;rw[t1] at h1;rw[t2] at h2;rw[t3] at h3;rw[t4] at h4
  obtain⟨b,rfl⟩:=h0.CA T.uB;obtain⟨s,rfl⟩:=h1.sb T.uS;obtain⟨z2,rfl,g2⟩:=h2.pQ T.IL;obtain⟨p,rfl,_⟩:=h3.yJ D.uI;obtain⟨z4,rfl,g4⟩:=h4.pQ D.JM;obtain⟨as,rfl,w2⟩:=Sh.attrs T z2 g2;obtain⟨ks,rfl,w4⟩:=Sh.ints D z4 g4;exact⟨⟨b,s,as,p,ks⟩,rfl,by simp only[Node.wt,IV.wt,jE];omega⟩
theorem Sh.nodes {T:wz P} (D:Gx P T):∀(ys:List IV),(∀y∈ys,Sh P D.tN y)→∃d:Doc,ys=d.map Node.iv∧gO d≤jE ys
 |[],_=>⟨[],rfl,by simp[jE,gO]⟩
 |y::r,h=>by
  obtain⟨x,rfl,h1⟩:=(h y (by simp)).node D;obtain⟨d,rfl,h2⟩:=Sh.nodes D r (fun z hz=>h z (by simp[hz]));exact⟨x::d,rfl,by simp only[gO,jE];omega⟩
theorem Sh.doc {T:wz P} (D:Gx P T) {y:IV} (h:Sh P D.tD y):∃d:Doc,y= .agg [.list (d.map Node.iv)]∧gO d≤y.wt:=by
 obtain⟨ys,rfl,hl,nE⟩:=h.sc D.uD;have hs:D.fD.size=1:=by have:=congrArg List.length D.sD;simpa using this
 match ys,hl.trans hs,nE with
 |[y0],_,nE=>
  obtain⟨f0,e0,t0⟩:=dD D.sD 0 D.Hv rfl;have h0:=nE 0 f0 y0 e0 rfl;rw[t0] at h0;obtain⟨z,rfl,g⟩:=h0.pQ D.JN;obtain⟨d,rfl,w⟩:=Sh.nodes D z g;exact⟨d,rfl,by simp only[IV.wt,jE];omega⟩
end
end Go.Am

/- Paths: which nodes are meant. -/
namespace Go.Am
open Go Go.RowKit
structure Step where
 name:Bs
 n:Int
def Step.cs (x:Step):List IV:=[.str x.name,.int .i64 x.n]
def Step.iv (x:Step):IV:= .agg x.cs
def Step.av (x:Step):AV:= .agg [.str x.name,.int .i64 x.n]
def cO (s:Step):Bool:=(s.name==[]||(s.name==[42]||named s.name))&&(decide (0≤s.n)&&decide (s.n≤99))
def aT (l:List Step):Bool:=l.all cO&&(decide (1≤l.length)&&decide (l.length≤5))
def ey (text:Bool) (s:Bs) (name:Bs):Bool:=if name==[]||text then name==[]&&text else name==[42]||name==s
def bu (d:Doc) (s:Step):Nat→List Int→List Int
 |_,[]=>[]
 |k,n::r=>match d[n.toNat]? with
  |some x=>if ey x.text x.s s.name then(if s.n=0∨s.n=((k+1:Nat):Int) then n::bu d s (k+1) r else bu d s (k+1) r) else bu d s k r
  |none=>bu d s k r
def jo (d:Doc) (n:Int):List Int:=match d[n.toNat]? with
 |some x=>x.kids
 |none=>[]
def iT (d:Doc):List Int→List Step→List Int
 |now,[]=>now
 |now,s::l=>iT d (now.flatMap fun n=>bu d s 0 (jo d n)) l
def bM (d:Doc):List Step→List Int
 |[]=>[]
 |s::l=>iT d (bu d s 0 [0]) l
theorem sd (d:Doc):∀(l:List Step) (a b:List Int),iT d (a++b) l=iT d a l++iT d b l
 |[],a,b=>rfl
 |s::l,a,b=>by simp only[iT,List.flatMap_append,sd d l]
theorem oO (d:Doc):∀(l:List Step),iT d [] l=[]
 |[]=>rfl
 |s::l=>by simp only[iT,List.flatMap_nil,oO d l]
theorem pR (d:Doc):∀(l:List Step) (a:List Int),iT d a l=a.flatMap fun n=>iT d [n] l
 |l,[]=>by simp[oO]
 |l,n::r=>by rw[show n::r=[n]++r from rfl,sd,pR d l r];simp
theorem pS (d:Doc) (s:Step):∀(l:List Step) (a:List Int),iT d a (l++[s])=(iT d a l).flatMap fun n=>bu d s 0 (jo d n)
 |[],a=>rfl
 |t::l,a=>by simp only[List.cons_append,iT,pS d s l]
def dE (d:Doc) (name:Bs) (k:Nat):Bool:=match d[k]? with
 |some x=>ey x.text x.s name
 |none=>false
def jq (d:Doc) (p:Int) (k:Nat):Bool:=match d[k]? with
 |some x=>x.parent==p
 |none=>false
def jH (d:Doc) (p:Int) (name:Bs) (n:Nat):Nat:=((List.range (n+1)).filter fun k=>jq d p k&&dE d name k).length
def bn (d:Doc):List Step→Nat→Bool
 |[],_=>false
 |s::l,n=>match d[n]? with
  |some x=>dE d s.name n&&((if x.parent<0 then l.isEmpty else(!l.isEmpty&&bn d l x.parent.toNat))&&(s.n==0||s.n==((jH d x.parent s.name n:Nat):Int)))
  |none=>false
end Go.Am

/- Paths: out of readings. -/
namespace Go.Am
open Go Go.RowKit
section
variable {P:Program}
structure Hw (P:Program) (T:wz P) where
 tI:TypeId
 tP:TypeId
 IM:TypeId
 fP:Array Field
 uI:P.underlying tI=some (.int .i64)
 uP:P.underlying tP=some (.struct fP)
 JO:P.underlying IM=some (.slice tP)
 sP:fP.toList.map (·.type)=[T.tS,tI]
theorem Sh.step {T:wz P} (D:Hw P T) {y:IV} (h:Sh P D.tP y):∃x:Step,y=x.iv∧1+x.name.length≤y.wt:=by
 obtain⟨ys,rfl,hl,nE⟩:=h.sc D.uP;have hs:D.fP.size=2:=by have:=congrArg List.length D.sP;simpa using this
 match ys,hl.trans hs,nE with
 |[y0,y1],_,nE=>
  obtain⟨f0,e0,t0⟩:=dD D.sP 0 T.tS rfl;obtain⟨f1,e1,t1⟩:=dD D.sP 1 D.tI rfl;have h0:=nE 0 f0 y0 e0 rfl;have h1:=nE 1 f1 y1 e1 rfl;rw[t0] at h0;rw[t1] at h1;obtain⟨s,rfl⟩:=h0.sb T.uS;obtain⟨p,rfl,_⟩:=h1.yJ D.uI;exact⟨⟨s,p⟩,rfl,by simp only[IV.wt,jE];omega⟩
theorem Sh.CB {T:wz P} (D:Hw P T):∀(ys:List IV),(∀y∈ys,Sh P D.tP y)→∃d:List Step,ys=d.map Step.iv∧d.length≤jE ys∧∀x∈d,x.name.length≤jE ys
 |[],_=>⟨[],rfl,by simp[jE],by simp⟩
 |y::r,h=>by
  obtain⟨x,rfl,h1⟩:=(h y (by simp)).step D;obtain⟨d,rfl,h2,h3⟩:=Sh.CB D r (fun z hz=>h z (by simp[hz]));refine⟨x::d,rfl,by simp only[List.length_cons,jE];omega,?_⟩;intro z hz;simp only[jE];rcases List.mem_cons.1 hz with rfl|hz
  ·omega
  ·have:=h3 z hz;omega
theorem Sh.steps {T:wz P} (D:Hw P T) {y:IV} (h:Sh P D.IM y):∃l:List Step,y= .list (l.map Step.iv)∧l.length≤y.wt∧∀x∈l,x.name.length≤y.wt:=by
 obtain⟨z,rfl,g⟩:=h.pQ D.JO;obtain⟨d,rfl,w,w2⟩:=Sh.CB D z g;exact⟨d,rfl,by simp only[IV.wt];omega,fun x hx=>by have:=w2 x hx;simp only[IV.wt];omega⟩
end
end Go.Am
