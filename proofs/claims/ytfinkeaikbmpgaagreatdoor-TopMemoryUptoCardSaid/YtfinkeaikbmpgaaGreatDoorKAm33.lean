import Derived.Test.YtfinkeaikbmpgaaGreatDoorKAm24
set_option linter.unusedSimpArgs false
set_option linter.unusedVariables false
set_option linter.unnecessarySimpa false
set_option linter.defProp false
/- THE ABSTRACT MACHINE, part 33: slices held against nil; loops of calls with pointers. -/
namespace Go.Am
open Go Go.RowKit
inductive Tb (k:Bool→Prop):Type
 |mk
def nK (o:Option (List Bool)) (k:Bool→Prop) (_:Tb k):Prop:=∃bs,o=some bs∧∀b∈bs,k b
def ab9 {S:St} {env:Env} {H:Hp} (d:Option Nat) (n:Bool) (x:O) (k:AV→Hp→Prop):bg S d (.BJ n x) env H k=nK (qY (ev env x)) (fun b=>k (.bool (n ^^ b)) H) .mk:=rfl
def aaW {xs:List IV} {k:Bool→Prop} {u:Tb k} (h1:xs=[]→k true) (h2:k false):nK (qY (.list xs)) k u:=by
 cases xs with
 |nil=>exact⟨_,rfl,fun b _=>by cases b;exact h2;exact h1 rfl⟩
 |cons x r=>exact⟨_,rfl,fun b hb=>by simp only[bY] at hb;subst hb;exact h2⟩
def Xp (sz b d:Nat) (xs:List IV) {H:Hp} (he:jV sz xs) (hf:Flat xs) (hb:xs.length*b≤140737488355328) (h0:0<b) (hu:H (.loc d)= .unused) :
 jN sz b d .nil0 (.list xs) H=some (.sl (.loc d) sz 0 xs.length,bD H (.loc d) (.live ⟨sz,aB xs⟩)):=AN he hf hb h0 hu

abbrev Bs:=List UInt8
structure Attr where
 name:Bs
 val:Bs
inductive Tree where
 |mk (text:Bool) (s:Bs) (attrs:List Attr) (kids:List Tree)
def Tree.text:Tree→Bool| .mk t _ _ _=>t
def Tree.s:Tree→Bs| .mk _ s _ _=>s
def Tree.attrs:Tree→List Attr| .mk _ _ a _=>a
def Tree.kids:Tree→List Tree| .mk _ _ _ k=>k
def Attr.cs (a:Attr):List IV:=[.str a.name,.str a.val]
def Attr.iv (a:Attr):IV:= .agg a.cs
def cD (az:List Attr):List IV:=az.map Attr.iv
mutual
def Tree.iv:Tree→IV
 | .mk t s az ks=> .agg [.bool t,.str s,.list (cD az),.list (dq ks)]
def dq:List Tree→List IV
 |[]=>[]
 |x::r=>x.iv::dq r
end
def Tree.cs (x:Tree):List IV:=[.bool x.text,.str x.s,.list (cD x.attrs),.list (dq x.kids)]
def Tree.av (x:Tree):AV:= .agg [.bool x.text,.str x.s,.list (cD x.attrs),.list (dq x.kids)]
def P6 {p:Prop} (h:p:=by simp[ah,AV.an,Tree.av]):p:=h
def Tree.o_ (x:Tree):x.iv= .agg x.cs:=by cases x;simp[Tree.iv,Tree.cs,Tree.text,Tree.s,Tree.attrs,Tree.kids]
def Tree.cJ (x:Tree):x.iv.cells=x.cs:=by rw[Tree.o_];rfl
def Attr.cJ (x:Attr):x.iv.cells=x.cs:=rfl
theorem ix:∀xs:List Tree,dq xs=xs.map Tree.iv
 |[]=>by simp[dq]
 |x::r=>by simp[dq,ix r]
def bF (xs:List Tree):(dq xs).length=xs.length:=by simp[ix]
def bp (xs:List Attr):(cD xs).length=xs.length:=by simp[cD]
def Qv {p:Prop} (h:p:=by simp[fg,AV.cells,AV.sI,AV.one,bp]):p:=h
def iy (xs:List Tree) (i:Nat):(dq xs)[i]?=xs[i]?.map Tree.iv:=by simp[ix]
def lS (xs:List Attr) (i:Nat):(cD xs)[i]?=xs[i]?.map Attr.iv:=by simp[cD]
def qh (xs ys:List Tree):dq (xs++ys)=dq xs++dq ys:=by simp[ix]
def lT (xs:List Tree):jV 4 (dq xs):=by
 intro x hx;rw[ix] at hx;obtain⟨a,_,rfl⟩:=pb.1 hx;rw[a.cJ];rfl
def rq (xs:List Attr):jV 2 (cD xs):=by
 intro x hx;obtain⟨a,_,rfl⟩:=pb.1 hx;rfl
def Tree.uy (x:Tree):∀z∈x.cs,∀cs,z≠ .agg cs:=by
 intro z hz cs;simp only[Tree.cs,dU,e7,kt] at hz;rcases hz with rfl|rfl|rfl|rfl<;>simp
def pa (xs:List Tree):Flat (dq xs):=by
 intro x hx;rw[ix] at hx;obtain⟨a,_,rfl⟩:=pb.1 hx;rw[a.cJ];exact a.uy
def nW (xs:List Attr):Flat (cD xs):=by
 intro x hx;obtain⟨a,_,rfl⟩:=pb.1 hx;intro z hz cs;simp only[Attr.cJ,Attr.cs,dU,e7,kt] at hz;rcases hz with rfl|rfl<;>simp
def Attr.wt (a:Attr):Nat:=1+a.name.length+a.val.length
def dX:List Attr→Nat
 |[]=>0
 |a::r=>a.wt+dX r
mutual
def Tree.wt:Tree→Nat
 | .mk _ s az ks=>1+s.length+dX az+dE ks
def dE:List Tree→Nat
 |[]=>0
 |x::r=>x.wt+dE r
end
def QF {p:Prop} (h:p:=by simp[dE]):p:=h
def Tree.gx (x:Tree):x.wt=1+x.s.length+dX x.attrs+dE x.kids:=by cases x;simp[Tree.wt,Tree.s,Tree.attrs,Tree.kids]
theorem iz:∀xs:List Attr,xs.length≤dX xs
 |[]=>by simp[dX]
 |a::r=>by have:=iz r;simp[dX,Attr.wt];omega
theorem eZ:∀xs:List Tree,xs.length≤dE xs
 |[]=>by simp[dE]
 |a::r=>by have:=eZ r;have:=a.gx;simp[dE];omega
theorem jx:∀(xs:List Tree) (i:Nat) (x:Tree),xs[i]?=some x→x.wt≤dE xs
 |[],i,x,h=>by simp at h
 |a::r,0,x,h=>by simp at h;subst h;simp[dE]
 |a::r,i+1,x,h=>by have:=jx r i x (by simpa using h);simp[dE];omega
theorem kn:∀xs ys:List Tree,dE (xs++ys)=dE xs+dE ys
 |[],ys=>by simp[dE]
 |a::r,ys=>by simp[dE,kn r ys];omega
def B:Nat:=2^30
def le_max {n:Nat} (h:n≤100):n≤maxLen:=D' h Pr

open Classical in
noncomputable def P2 {α:Type} (x y:α):Bool:=decide (x=y)
def Oh {α:Type} (x:α):P2 x x=true:=by simp[P2]
def NJ {α:Type} {x y:α} (h:x≠y):P2 x y=false:=by simp[P2,h]
def afz {α:Type} {x y:α}:P2 x y=true↔x=y:=by simp[P2]
def Attr.ext {x y:Attr} (h1:x.name=y.name) (h2:x.val=y.val):x=y:=by cases x;cases y;simp_all
def Tree.ext {x y:Tree} (h1:x.text=y.text) (h2:x.s=y.s) (h3:x.attrs=y.attrs) (h4:x.kids=y.kids):x=y:=by
 cases x;cases y;simp_all[Tree.text,Tree.s,Tree.attrs,Tree.kids]
end Go.Am

namespace Go.Am
open Go Go.RowKit
def dI (c:UInt8):Bool:= !((((c.toNat:Int) !=10))&&(decide ((c.toNat:Int)<32)||decide ((c.toNat:Int)>126)))
def plain (s:Bs):Bool:=s.all dI&&decide ((s.length:Int)≤40)
def nZ:AC:=
(.seq
 (.cq [
  jM 2 false])
(.seq
 (.seq
  (.cq [
   MR 4 0,
   oF 5 4,
   gH 6 0])
 (.block 0
  (.loop
   (.seq
    (.cq [
     et 7 .lss 6 5])
   (.seq
    (.cond (.t 7)
     .skip
     (.exit 0))
   (.seq
    (.block 1
     (.seq
      (.cq [
       MR 8 6,
       MR 3 8])
     (.seq
      (.cq [
       MR 9 0,
       MR 10 3,
       aQ 11 (.lj (.t 9) (.t 10)),
       aQ 12 (.bin .neq (.t 11) (.c (.int .u8 10))),
       MR 13 12,
       cU 14 13 0,
       cU 15 13 3,
       dW 16 13 (.lj (.t 14) (.t 15)),
       dW 17 13 (.bin .lss (.t 16) (.c (.int .u8 32))),
       cU 18 13 17,
       gV 19 18 0,
       gV 20 18 3,
       iR 21 18 (.lj (.t 19) (.t 20)),
       iR 22 18 (.bin .gtr (.t 21) (.c (.int .u8 126))),
       dW 23 13 (.pick (.t 18) (me true) (.t 22)),
       jT 24 13 23])
     (.cond (.t 24)
      (.seq
       (.cq [
        jM 2 false])
      .ret)
      .skip))))
   (.cq [
    eY 25 .add 6 1,
    MR 6 25])))))))
(.seq
 (.cq [
  MR 26 0,
  oF 27 26,
  eY 28 .leq 27 40,
  MR 2 28])
.ret)))
def qi (s:Bs) (i:Nat):Env:=put (put (put Env.any 0 (.str s)) 5 (.int .i64 s.length)) 6 (.int .i64 i)
def Pw {p:UInt8→Bool} {s:Bs} {i:Nat} {c:UInt8} (h:(s.take i).all p=true) (hc:s[i]?=some c) (hp:p c=true):(s.take (i+1)).all p=true:=by
 rw[yf,hc];simp[h,hp]
def nt {p:UInt8→Bool} {s:Bs} {i:Nat} {c:UInt8} (hc:s[i]?=some c) (hp:p c=false):s.all p=false:=by
 cases h:s.all p with
 |false=>rfl
 |true=>
 have:=yq.1 h c (dc hc);rw[hp] at this;exact this.symm
def qj {P:Program} {G:Nat→Option (List IV)} {f:Nat} (hF:aw P G f=some (29,[(none,2)],nZ.bare)) (s:Bs) (hx:s.length≤B) :
  au P G f [.str s] (.bool (plain s)):=by
 refine aR hF N7 PC Pv ?_;unfold nZ;simp only[↓lP,lK,lX,List.take,List.drop,seval];refine fY (σ:={i:Nat // i≤s.length∧(s.take i).all dI=true}) (fun q=>qi s q.1) (fun _=>Hp.none) (fun q=>s.length - q.1) ⟨0,N7⟩ id ?_ ?_
 ·refine .none ?_ ?_
  ·exact aT rfl (aT rfl (aT rfl (Wc _ _)))
  exact aU Pv (aU Pv (aU Pv (eB _)))
 rintro⟨i,hi,hs⟩;simp only[↓lP,lK,lX,List.take,List.drop,seval,qi];by_cases bI:i<s.length
 ·rw[show decide ((i:Int)<(s.length:Int))=true by simpa using bI];obtain⟨c,hc⟩:∃c,s[i]?=some c:=⟨_,bS bI⟩;have hw:IntKind.i64.wrap ((i:Int)+1)=((i+1:Nat):Int):=wrap64 tM (by unfold B at hx;omega);have next:dI c=true→∃q:{i:Nat // i≤s.length∧(s.take i).all dI=true},q.1=i+1:=fun hp=>⟨⟨i+1,bI,Pw hs hc hp⟩,rfl⟩
  simp only[↓lP,lK,lX,List.take,List.drop,seval,hc];cases h1:((c.toNat:Int) !=10) with
  |false=>
   obtain⟨q,hq⟩:=next (by simp[dI,h1])
   simp only[↓lP,lK,lX,List.take,List.drop,seval,hc,hw];refine⟨q,tM,id,.none ?_ ?_⟩
   ·rw[hq];exact aT rfl (aT rfl (aT rfl (Wc _ _)))
   exact aU Pv (aU Pv (aU Pv (eB _)))
  |true=>
  simp only[↓lP,lK,lX,List.take,List.drop,seval,hc];cases h2:decide ((c.toNat:Int)<32) with
  |true=>
   simp only[↓lP,lK,lX,List.take,List.drop,seval,hc];rw[plain,nt hc (by simp[dI,h1,h2])];rfl
  |false=>
  simp only[↓lP,lK,lX,List.take,List.drop,seval,hc];cases h3:decide ((c.toNat:Int)>126) with
  |true=>
   simp only[↓lP,lK,lX,List.take,List.drop,seval,hc];rw[plain,nt hc (by simp[dI,h1,h2,h3])];rfl
  |false=>
  obtain⟨q,hq⟩:=next (by simp[dI,h1,h2,h3])
  simp only[↓lP,lK,lX,List.take,List.drop,seval,hc,hw];refine⟨q,tM,id,.none ?_ ?_⟩
  ·rw[hq];exact aT rfl (aT rfl (aT rfl (Wc _ _)))
  exact aU Pv (aU Pv (aU Pv (eB _)))
 rw[show decide ((i:Int)<(s.length:Int))=false by simpa using bI];simp only[↓lP,lK,lX,List.take,List.drop,seval];have:s.take i=s:=eN tM;rw[plain,←this,hs,this];rfl
def Oq (c:UInt8):Bool:= !(decide ((c.toNat:Int)<97)||decide ((c.toNat:Int)>122))
def named (s:Bs):Bool:=s.all Oq&&(decide ((s.length:Int)≥1)&&decide ((s.length:Int)≤8))
def n4:AC:=
(.seq
 (.cq [
  jM 2 false])
(.seq
 (.seq
  (.cq [
   MR 4 0,
   oF 5 4,
   gH 6 0])
 (.block 0
  (.loop
   (.seq
    (.cq [
     et 7 .lss 6 5])
   (.seq
    (.cond (.t 7)
     .skip
     (.exit 0))
   (.seq
    (.block 1
     (.seq
      (.cq [
       MR 8 6,
       MR 3 8])
     (.seq
      (.cq [
       MR 9 0,
       MR 10 3,
       aQ 11 (.lj (.t 9) (.t 10)),
       aQ 12 (.bin .lss (.t 11) (.c (.int .u8 97))),
       MR 13 12,
       gV 14 13 0,
       gV 15 13 3,
       iR 16 13 (.lj (.t 14) (.t 15)),
       iR 17 13 (.bin .gtr (.t 16) (.c (.int .u8 122))),
       sj 18 13 17])
     (.cond (.t 18)
      (.seq
       (.cq [
        jM 2 false])
      .ret)
      .skip))))
   (.cq [
    eY 19 .add 6 1,
    MR 6 19])))))))
(.seq
 (.cq [
  MR 20 0,
  oF 21 20,
  eY 22 .geq 21 1,
  MR 23 22,
  cU 24 23 0,
  dW 25 23 (.lens (.t 24)),
  dW 26 23 (.bin .leq (.t 25) (jS 8)),
  jT 27 23 26,
  MR 2 27])
.ret)))
def qk {P:Program} {G:Nat→Option (List IV)} {f:Nat} (hF:aw P G f=some (28,[(none,2)],n4.bare)) (s:Bs) (hx:s.length≤B) :
  au P G f [.str s] (.bool (named s)):=by
 refine aR hF N7 PC Pv ?_;unfold n4;simp only[↓lP,lK,lX,List.take,List.drop,seval];refine fY (σ:={i:Nat // i≤s.length∧(s.take i).all Oq=true}) (fun q=>qi s q.1) (fun _=>Hp.none) (fun q=>s.length - q.1) ⟨0,N7⟩ id ?_ ?_
 ·refine .none ?_ ?_
  ·exact aT rfl (aT rfl (aT rfl (Wc _ _)))
  exact aU Pv (aU Pv (aU Pv (eB _)))
 rintro⟨i,hi,hs⟩;simp only[↓lP,lK,lX,List.take,List.drop,seval,qi];by_cases bI:i<s.length
 ·rw[show decide ((i:Int)<(s.length:Int))=true by simpa using bI];obtain⟨c,hc⟩:∃c,s[i]?=some c:=⟨_,bS bI⟩;have hw:IntKind.i64.wrap ((i:Int)+1)=((i+1:Nat):Int):=wrap64 tM (by unfold B at hx;omega);have next:Oq c=true→∃q:{i:Nat // i≤s.length∧(s.take i).all Oq=true},q.1=i+1:=fun hp=>⟨⟨i+1,bI,Pw hs hc hp⟩,rfl⟩
  simp only[↓lP,lK,lX,List.take,List.drop,seval,hc];cases h1:decide ((c.toNat:Int)<97) with
  |true=>
   simp only[↓lP,lK,lX,List.take,List.drop,seval,hc];rw[named,nt hc (by simp[Oq,h1])];rfl
  |false=>
  simp only[↓lP,lK,lX,List.take,List.drop,seval,hc];cases h2:decide ((c.toNat:Int)>122) with
  |true=>
   simp only[↓lP,lK,lX,List.take,List.drop,seval,hc];rw[named,nt hc (by simp[Oq,h1,h2])];rfl
  |false=>
  obtain⟨q,hq⟩:=next (by simp[Oq,h1,h2])
  simp only[↓lP,lK,lX,List.take,List.drop,seval,hc,hw];refine⟨q,tM,id,.none ?_ ?_⟩
  ·rw[hq];exact aT rfl (aT rfl (aT rfl (Wc _ _)))
  exact aU Pv (aU Pv (aU Pv (eB _)))
 rw[show decide ((i:Int)<(s.length:Int))=false by simpa using bI];have dN:s.all Oq=true:=by
  have:s.take i=s:=eN tM;rw[←this,hs]
 simp only[↓lP,lK,lX,List.take,List.drop,seval];cases h1:decide ((s.length:Int)≥1) with
 |true=>
  simp only[↓lP,lK,lX,List.take,List.drop,seval];rw[named,dN,h1];rfl
 |false=>
 simp only[↓lP,lK,lX,List.take,List.drop,seval];rw[named,dN,h1];rfl

def dr (az:List Attr) (i:Nat):Bool:=
 match az[i]? with
 |some a=>named a.name&&(plain a.val&&(i==0||match az[i - 1]? with|some p=>Op.bytesLess p.name a.name|none=>true))
 |none=>true
def bP (az:List Attr):Bool:=(List.range az.length).all (dr az)&&decide ((az.length:Int)≤4)
def hZ (fN fP:Nat):AC:=
(.seq
 (.cq [
  jM 2 false])
(.seq
 (.seq
  (.cq [
   MR 5 0,
   oy 6 5,
   gH 7 0])
 (.block 0
  (.loop
   (.seq
    (.cq [
     et 8 .lss 7 6])
   (.seq
    (.cond (.t 8)
     .skip
     (.exit 0))
   (.seq
    (.block 1
     (.seq
      (.cq [
       MR 9 7,
       jL 10 5 7 2,
       gz 11 2 10,
       aQ 4 (.new [(.str []),(.str [])]),
       MR 3 9,
       gg (.store 2 (.t 4) (.t 11))])
     (.seq
      (.VL [
       ep 12 4 0,
       fm 13 12,
       aQ 14 (.call fN [(.t 13)]),
       sB 15 14,
       MR 16 15,
       oH 17 16 4 1,
       oG 18 16 17,
       iR 19 16 (.call fP [(.t 18)]),
       iR 20 16 (.not (.t 19)),
       sj 21 16 20,
       MR 22 21,
       gV 23 22 3,
       iR 24 22 (.bin .gtr (.t 23) (jS 0)),
       gV 25 22 24,
       cU 26 25 0,
       cU 27 25 3,
       dW 28 25 (.bin .sub (.t 27) (jS 1)),
       dW 29 25 (.Vc (.t 26) (.t 28) 2),
       Wb 30 25 29 0,
       jm 31 25 30,
       Wb 32 25 4 0,
       jm 33 25 32,
       dW 34 25 (.bin .geq (.t 31) (.t 33)),
       iR 35 22 (.pick (.t 25) (.t 34) (me false)),
       sj 36 22 35]
       [[],[0],[1],[2],[3,2],[4],[5,4],[6,4,4],[7,4],[4,8],[9,7],[10],[11,10],[12,10,10],[13],[13],[15,13],[14,16,13],[17,13],[18,13],[13],[20,13],[19,21,13],[13,22,10],[10,23]]
       [.no,.rw [.loc 4] [],.no,.no,.no,.no,.rw [.loc 4] [],.no,.no,.no,.no,.no,.no,.no,.no,.no,.no,.no,.no,.no,.no,.rw [.loc 4] [],.no,.no,.no])
     (.cond (.t 36)
      (.seq
       (.cq [
        jM 2 false])
      .ret)
      .skip))))
   (.cq [
    eY 37 .add 7 1,
    MR 7 37])))))))
(.seq
 (.cq [
  MR 38 0,
  oy 39 38,
  eY 40 .leq 39 4,
  MR 2 40])
.ret)))
def n5 (az:List Attr) (i:Nat):Env:=put (put (put (put Env.any 0 (.list (cD az))) 5 (.list (cD az))) 6 (.int .i64 az.length)) 7 (.int .i64 i)
def Wk.drop {env env2:Env} {H:Hp} (e:∀n,env2 n= .any∨env n=bJ id (env2 n)) (m:∀n,∀l∈(env2 n).an,Hp.none l≠ .unused) (hn:∀l:Lb,l.fresh=false→H l= .unused):Wk id env H env2 Hp.none:=
 ⟨e,fun l r h=>by simp[Hp.none] at h,fun _ _ ⟨r,h⟩=>by simp[Hp.none] at h,m,fun l r h=>by simp[Hp.none] at h,fun l hl=>⟨fun h=>absurd (hn l (Lb.Og hl)) h,fun _=>rfl⟩,fun l ⟨r,h⟩=>by simp[Hp.none] at h⟩
def pc {p:Nat→Bool} {n i:Nat} (hi:i<n) (hp:p i=false):(List.range n).all p=false:=by
 cases h:(List.range n).all p with
 |false=>rfl
 |true=>
 have:=yq.1 h i (by simpa using hi);rw[hp] at this;exact this.symm
def n6 {P:Program} {G:Nat→Option (List IV)} {f fN fP:Nat} (hF:aw P G f=some (41,[(none,2)],(hZ fN fP).bare)) (az:List Attr) (hx:az.length≤B)
  (hN:∀a∈az,au P G fN [.str a.name] (.bool (named a.name))) (hP:∀a∈az,au P G fP [.str a.val] (.bool (plain a.val))) :
  au P G f [.list (cD az)] (.bool (bP az)):=by
 refine aR hF N7 PC Pv ?_;unfold hZ;simp only[↓lP,lK,lX,List.take,List.drop,seval,bp];refine fY (σ:={i:Nat // i≤az.length∧∀j,j<i→dr az j=true}) (fun q=>n5 az q.1) (fun _=>Hp.none) (fun q=>az.length - q.1) ⟨0,N7⟩ id ?_ ?_
 ·refine .none ?_ ?_
  ·exact aT rfl (aT rfl (aT rfl (aT rfl (Wc _ _))))
  exact aU Pv (aU Pv (aU Pv (aU Pv (eB _))))
 rintro⟨i,hi,hs⟩;simp only[↓lP,lK,lX,List.take,List.drop,seval,n5,bp];by_cases bI:i<az.length
 ·rw[show decide ((i:Int)<(az.length:Int))=true by simpa using bI];obtain⟨a,ha⟩:∃a,az[i]?=some a:=⟨_,bS bI⟩;have hw:IntKind.i64.wrap ((i:Int)+1)=((i+1:Nat):Int):=wrap64 tM (by unfold B at hx;omega);simp only[↓lP,lK,lX,List.take,List.drop,seval,lS,ha,rq,Attr.cJ,Attr.cs];refine⟨le_max Pr,rfl,jw (hN a (dc ha)) ?_⟩;have next:dr az i=true→∃q:{i:Nat // i≤az.length∧∀j,j<i→dr az j=true},q.1=i+1:=fun hp=>⟨⟨i+1,bI,fun j hj=>by
   by_cases e:j=i
   ·rw[e];exact hp
   exact hs j tM⟩,rfl⟩
  have stop:dr az i=false→bP az=false:=fun hp=>by rw[bP,pc bI hp];rfl
  have j4:dr az i=(named a.name&&(plain a.val&&(i==0||match az[i - 1]? with|some p=>Op.bytesLess p.name a.name|none=>true))):=by unfold dr;rw[ha]
  cases h1:named a.name with
  |false=>
   simp only[↓lP,lK,lX,List.take,List.drop,seval,fj];rw[stop (by rw[j4,h1];rfl)]
  |true=>
  simp only[↓lP,lK,lX,List.take,List.drop,seval,ib];refine jw (hP a (dc ha)) ?_;cases h2:plain a.val with
  |false=>
   simp only[↓lP,lK,lX,List.take,List.drop,seval,fj];rw[stop (by rw[j4,h1,h2];rfl)]
  |true=>
  simp only[↓lP,lK,lX,List.take,List.drop,seval,ib];by_cases h3:i=0
  ·subst h3;rw[show decide (((0:Nat):Int)>0)=false by simp];obtain⟨q,hq⟩:=next (by rw[j4,h1,h2];rfl)
   simp only[↓lP,lK,lX,List.take,List.drop,seval,hw];refine⟨q,tM,id,.drop ?_ ?_ ?_⟩
   ·rw[hq];exact aT rfl (aT rfl (aT rfl (aT rfl (Wc _ _))))
   ·exact aU Pv (aU Pv (aU Pv (aU Pv (eB _))))
   exact dT (dT gJ)
  rw[show decide ((i:Int)>0)=true by simp;omega];obtain⟨p,hp⟩:∃p,az[i - 1]?=some p:=⟨_,bS tM⟩;have pU:IntKind.i64.wrap ((i:Int) - 1)=((i - 1:Nat):Int):=by rw[wrap64 tM (by unfold B at hx;omega)];omega
  simp only[↓lP,lK,lX,List.take,List.drop,seval,pU,lS,hp,rq,Attr.cJ,Attr.cs];cases h4:Op.bytesLess p.name a.name with
  |false=>
   simp only[↓lP,lK,lX,List.take,List.drop,seval,fj];rw[stop (by rw[j4,h1,h2,hp];simp[h3,h4])]
  |true=>
  obtain⟨q,hq⟩:=next (by rw[j4,h1,h2,hp];simp[h4])
  simp only[↓lP,lK,lX,List.take,List.drop,seval,ib,hw];refine⟨q,tM,id,.drop ?_ ?_ ?_⟩
  ·rw[hq];exact aT rfl (aT rfl (aT rfl (aT rfl (Wc _ _))))
  ·exact aU Pv (aU Pv (aU Pv (aU Pv (eB _))))
  exact dT (dT gJ)
 rw[show decide ((i:Int)<(az.length:Int))=false by simpa using bI];simp only[↓lP,lK,lX,List.take,List.drop,seval,bp];have:(List.range az.length).all (dr az)=true:=by
  rw[yq];intro j hj;exact hs j (by simp at hj;omega)
 rw[bP,this];rfl

mutual
def Tree.dep:Tree→Nat
 | .mk _ _ _ ks=>fB ks+1
def fB:List Tree→Nat
 |[]=>0
 |x::r=>max x.dep (fB r)
end
mutual
def Tree.jz:Tree→Nat
 | .mk _ _ _ ks=>dP ks+1
def dP:List Tree→Nat
 |[]=>0
 |x::r=>x.jz+dP r
end
def Tree.n7 (x:Tree):x.dep=fB x.kids+1:=by cases x;simp[Tree.dep,Tree.kids]
def Tree.n8 (x:Tree):x.jz=dP x.kids+1:=by cases x;simp[Tree.jz,Tree.kids]
theorem n9:∀xs ys:List Tree,fB (xs++ys)=max (fB xs) (fB ys)
 |[],ys=>by simp[fB]
 |x::r,ys=>by simp only[List.cons_append,fB,n9 r ys];omega
theorem lU:∀xs ys:List Tree,dP (xs++ys)=dP xs+dP ys
 |[],ys=>by simp[dP]
 |x::r,ys=>by simp[dP,lU r ys];omega
mutual
theorem Tree.xV:∀x:Tree,x.dep≤x.wt
 | .mk _ _ _ ks=>by have:=nu ks;simp only[Tree.dep,Tree.wt];omega
theorem nu:∀xs:List Tree,fB xs≤dE xs
 |[]=>by simp[fB]
 |x::r=>by have:=x.xV;have:=nu r;simp only[fB,dE];omega
end
mutual
theorem Tree.td:∀x:Tree,x.jz≤x.wt
 | .mk _ _ _ ks=>by have:=ql ks;simp only[Tree.jz,Tree.wt];omega
theorem ql:∀xs:List Tree,dP xs≤dE xs
 |[]=>by simp[dP]
 |x::r=>by have:=x.td;have:=ql r;simp only[dP,dE];omega
end
def lV (xs:List Tree) (i:Nat):dE (xs.take i)≤dE xs:=by
 have:=kn (xs.take i) (xs.drop i);rw[tO] at this;omega
def h_ {env:Env} {H:Hp} (t u:Nat) (R:AV→Hp→Prop):fX [(none,t),(none,u)] R .ret env H=R (.gf [env t,env u]) H:=Qr
def uz (fS:Nat):AC:=
(.seq
 (.cq [
  zzX 1 0,
  gH 2 0,
  gH 3 0])
(.seq
 (.cq [
  gH 4 0,
  gH 5 1])
(.seq
 (.seq
  (.cq [
   ep 10 1 3,
   fm 11 10,
   oy 12 11,
   gH 13 0])
 (.block 0
  (.loop
   (.seq
    (.cq [
     et 14 .lss 13 12])
   (.seq
    (.cond (.t 14)
     .skip
     (.exit 0))
   (.seq
    (.block 1
     (.seq
      (.cq [
       jL 15 11 13 4,
       gz 16 4 15,
       aQ 7 (.new [(.bool false),(.str []),.nil0,.nil0]),
       gg (.store 4 (.t 7) (.t 16))])
     (.seq
      (.cq [
       gz 18 4 7,
       aQ 19 (.call fS [(.t 18)]),
       MR 17 19,
       ox 20 17 0,
       ox 21 17 1,
       MR 8 20,
       MR 9 21])
     (.cq [
      MR 22 4,
      MR 23 8,
      aQ 24 (.max (.t 22) (.t 23)),
      MR 25 5,
      MR 26 9,
      et 27 .add 25 26,
      MR 4 24,
      MR 5 27]))))
   (.cq [
    eY 28 .add 13 1,
    MR 13 28])))))))
(.seq
 (.cq [
  MR 29 4,
  eY 30 .add 29 1,
  MR 31 5,
  MR 2 30,
  MR 3 31])
.ret))))
def anW (ks:List Tree) (i:Nat):Env:=put (put (put (put (put Env.any 4 (.int .i64 (fB (ks.take i)))) 5 (.int .i64 ((dP (ks.take i)+1:Nat):Int))) 11 (.list (dq ks))) 12 (.int .i64 ks.length)) 13 (.int .i64 i)
def Gm {P:Program} {G:Nat→Option (List IV)} {f g:Nat} (hF:aw P G f=some (32,[(none,2),(none,3)],(uz g).bare)) (x:Tree) (hx:x.wt≤B)
  (hS:∀k∈x.kids,au P G g [k.av] (.gf [.int .i64 k.dep,.int .i64 k.jz])) :
  au P G f [x.av] (.gf [.int .i64 x.dep,.int .i64 x.jz]):=by
 refine aR hF N7 P6 PK ?_;have hk:dE x.kids≤B:=by have:=x.gx;omega
 have hl:x.kids.length≤B:=D' (eZ _) hk;unfold uz;simp only[↓lP,lK,lX,List.take,List.drop,seval,Tree.av,bF];refine⟨le_max Pr,?_⟩;refine fY (σ:={i:Nat // i≤x.kids.length}) (fun q=>anW x.kids q.1) (fun _=>Hp.none) (fun q=>x.kids.length - q.1) ⟨0,N7⟩ id ?_ ?_
 ·refine .drop ?_ ?_ (dT gJ)
  ·exact aT rfl (aT rfl (aT rfl (aT (by simp[s9,bJ,dP]) (aT (by simp[s9,bJ,fB]) (Wc _ _)))))
  exact aU Pv (aU Pv (aU Pv (aU Pv (aU Pv (eB _)))))
 rintro⟨i,hi⟩;simp only[↓lP,lK,lX,List.take,List.drop,seval,anW,bF];by_cases bI:i<x.kids.length
 ·rw[show decide ((i:Int)<(x.kids.length:Int))=true by simpa using bI];obtain⟨k,HA⟩:∃k,x.kids[i]?=some k:=⟨_,bS bI⟩;have hw:IntKind.i64.wrap ((i:Int)+1)=((i+1:Nat):Int):=wrap64 tM (by unfold B at hl;omega);simp only[↓lP,lK,lX,List.take,List.drop,seval,iy,HA,lT,Tree.cJ,Tree.cs];refine⟨le_max Pr,ay (hS k (dc HA)) ?_⟩;have h1:x.kids.take (i+1)=x.kids.take i++[k]:=by rw[yf,HA];rfl
  have h2:=lV x.kids i;have h3:=ql (x.kids.take i);have h4:=nu (x.kids.take i);have h5:=jx _ _ _ HA;have h6:=k.td;have hc:IntKind.i64.wrap (((dP (x.kids.take i)+1:Nat):Int)+(k.jz:Int))=((dP (x.kids.take (i+1))+1:Nat):Int):=by
   rw[wrap64 tM (by unfold B at hk;omega),h1,lU];simp[dP];omega
  have hd:(if(k.dep:Int)>(fB (x.kids.take i):Int) then(k.dep:Int) else(fB (x.kids.take i):Int))=(fB (x.kids.take (i+1)):Int):=by
   rw[h1,n9];simp only[fB];split<;>omega
  simp only[↓lP,lK,lX,List.take,List.drop,seval,hw,hc,hd];refine⟨⟨i+1,bI⟩,Pq,id,.drop ?_ ?_ (dT (dT gJ))⟩
  ·exact aT rfl (aT rfl (aT rfl (aT rfl (aT rfl (Wc _ _)))))
  exact aU Pv (aU Pv (aU Pv (aU Pv (aU Pv (eB _)))))
 rw[show decide ((i:Int)<(x.kids.length:Int))=false by simpa using bI];have h1:x.kids.take i=x.kids:=eN tM;have h4:=nu x.kids;have hd:IntKind.i64.wrap ((fB x.kids:Int)+1)=(x.dep:Int):=by rw[wrap64 tM (by unfold B at hk;omega),x.n7];omega
 simp only[↓lP,lK,lX,List.take,List.drop,seval,↓h_,h1,hd,x.n8]

mutual
def Tree.fu:Tree→Bool
 | .mk t s az ks=>if t then plain s&&(s !=[]&&(az.length==0&&ks.length==0)) else named s&&(bP az&&bQ none ks)
def bQ:Option Bool→List Tree→Bool
 |_,[]=>true
 |p,x::r=>x.fu&&(!(p==some true&&x.text)&&bQ (some x.text) r)
end
def rr (fP fN zm wA:Nat):AC:=
(.seq
 (.cq [
  zzX 1 0,
  jM 2 false])
(.seq
 (.seq
  (.cq [
   ep 3 1 0,
   fm 4 3])
 (.cond (.t 4)
  (.seq
   (.cq [
    ep 5 1 1,
    fm 6 5,
    aQ 7 (.call fP [(.t 6)]),
    MR 8 7,
    Wb 9 8 1 1,
    jm 10 8 9,
    dW 11 8 (.bin .neq (.t 10) (.c (.str []))),
    jT 12 8 11,
    MR 13 12,
    Wb 14 13 1 2,
    jm 15 13 14,
    dW 16 13 (.len (.t 15)),
    dW 17 13 (.bin .eql (.t 16) (jS 0)),
    jT 18 13 17,
    MR 19 18,
    Wb 20 19 1 3,
    jm 21 19 20,
    dW 22 19 (.len (.t 21)),
    dW 23 19 (.bin .eql (.t 22) (jS 0)),
    jT 24 19 23,
    MR 2 24])
  .ret)
  .skip))
(.seq
 (.cq [
  ep 25 1 1,
  fm 26 25,
  aQ 27 (.call fN [(.t 26)]),
  MR 28 27,
  Wb 29 28 1 2,
  jm 30 28 29,
  dW 31 28 (.call zm [(.t 30)]),
  jT 32 28 31,
  MR 33 32,
  Wb 34 33 1 3,
  jm 35 33 34,
  dW 36 33 (.call wA [(.t 35)]),
  jT 37 33 36,
  MR 2 37])
.ret)))
def n_ (fF:Nat):AC:=
(.seq
 (.cq [
  jM 2 false])
(.seq
 (.seq
  (.cq [
   MR 5 0,
   oy 6 5,
   gH 7 0])
 (.block 0
  (.loop
   (.seq
    (.cq [
     et 8 .lss 7 6])
   (.seq
    (.cond (.t 8)
     .skip
     (.exit 0))
   (.seq
    (.block 1
     (.seq
      (.cq [
       MR 9 7,
       jL 10 5 7 4,
       gz 11 4 10,
       aQ 4 (.new [(.bool false),(.str []),.nil0,.nil0]),
       MR 3 9,
       gg (.store 4 (.t 4) (.t 11))])
     (.seq
      (.cq [
       gz 12 4 4,
       aQ 13 (.call fF [(.t 12)]),
       sB 14 13,
       MR 15 14,
       gV 16 15 3,
       iR 17 15 (.bin .gtr (.t 16) (jS 0)),
       gV 18 15 17,
       Wb 19 18 4 0,
       jm 20 18 19,
       iR 21 15 (.pick (.t 18) (.t 20) (me false)),
       gV 22 15 21,
       cU 23 22 0,
       cU 24 22 3,
       dW 25 22 (.bin .sub (.t 24) (jS 1)),
       dW 26 22 (.Vc (.t 23) (.t 25) 4),
       Wb 27 22 26 0,
       jm 28 22 27,
       iR 29 15 (.pick (.t 22) (.t 28) (me false)),
       sj 30 15 29])
     (.cond (.t 30)
      (.seq
       (.cq [
        jM 2 false])
      .ret)
      .skip))))
   (.cq [
    eY 31 .add 7 1,
    MR 7 31])))))))
(.seq
 (.cq [
  jM 2 true])
.ret)))
def xW (fS fF:Nat):AC:=
(.seq
 (.cq [
  zzX 1 0,
  jM 2 false])
(.seq
 (.cq [
  gz 6 4 1,
  aQ 7 (.call fS [(.t 6)]),
  MR 5 7,
  ox 8 5 0,
  ox 9 5 1,
  MR 3 8,
  MR 4 9])
(.seq
 (.cq [
  ep 10 1 0,
  fm 11 10,
  sB 12 11,
  MR 13 12,
  cU 14 13 3,
  dW 15 13 (.bin .leq (.t 14) (jS 8)),
  jT 16 13 15,
  MR 17 16,
  cU 18 17 4,
  dW 19 17 (.bin .leq (.t 18) (jS 80)),
  jT 20 17 19,
  MR 21 20,
  dW 22 21 (.load (some 4) (.t 1)),
  dW 23 21 (.call fF [(.t 22)]),
  jT 24 21 23,
  MR 2 24])
.ret)))
def Tree.oa (x:Tree) (h:x.text=true):x.fu=(plain x.s&&(x.s !=[]&&(x.attrs.length==0&&x.kids.length==0))):=by
 cases x;simp only[Tree.text] at h;subst h;simp[Tree.fu,Tree.s,Tree.attrs,Tree.kids]
def Tree.Pa (x:Tree) (h:x.text=false):x.fu=(named x.s&&(bP x.attrs&&bQ none x.kids)):=by
 cases x;simp only[Tree.text] at h;subst h;simp[Tree.fu,Tree.s,Tree.attrs,Tree.kids]
def Cc {P:Program} {G:Nat→Option (List IV)} {f fP fN zm wA:Nat} (hF:aw P G f=some (38,[(none,2)],(rr fP fN zm wA).bare)) (x:Tree)
  (hP:au P G fP [.str x.s] (.bool (plain x.s))) (hN:au P G fN [.str x.s] (.bool (named x.s))) (hA:au P G zm [.list (cD x.attrs)] (.bool (bP x.attrs)))
  (Gn:au P G wA [.list (dq x.kids)] (.bool (bQ none x.kids))):au P G f [x.av] (.bool x.fu):=by
 refine aR hF N7 P6 Pv ?_;unfold rr;simp only[↓lP,lK,lX,List.take,List.drop,seval,Tree.av];refine⟨le_max Pr,?_⟩;cases h0:x.text with
 |true=>
  rw[x.oa h0];simp only[↓lP,lK,lX,List.take,List.drop,seval];refine ay hP ?_;cases h1:plain x.s with
  |false=>simp only[↓lP,lK,lX,List.take,List.drop,seval,GH]
  |true=>
  simp only[↓lP,lK,lX,List.take,List.drop,seval];cases h2:(!(x.s==[])) with
  |false=>
   simp only[↓lP,lK,lX,List.take,List.drop,seval];rw[show(x.s !=[])=false from h2];rfl
  |true=>
  simp only[↓lP,lK,lX,List.take,List.drop,seval,bp,bF];rw[show(x.s !=[])=true from h2];have e1:((x.attrs.length:Int)==0)=(x.attrs.length==0):=by
   rw[Bb];simp
  have e2:((x.kids.length:Int)==0)=(x.kids.length==0):=by
   rw[Bb];simp
  rw[e1];cases h3:(x.attrs.length==0) with
  |false=>simp only[↓lP,lK,lX,List.take,List.drop,seval,GH]
  |true=>simp only[↓lP,lK,lX,List.take,List.drop,seval,bF,e2]
 |false=>
 rw[x.Pa h0];simp only[↓lP,lK,lX,List.take,List.drop,seval];refine ay hN ?_;cases h1:named x.s with
 |false=>simp only[↓lP,lK,lX,List.take,List.drop,seval,GH]
 |true=>
 simp only[↓lP,lK,lX,List.take,List.drop,seval];refine ay hA ?_;cases h2:bP x.attrs with
 |false=>simp only[↓lP,lK,lX,List.take,List.drop,seval,GH]
 |true=>
 simp only[↓lP,lK,lX,List.take,List.drop,seval];refine ay Gn ?_;simp only[↓lP,lK,lX,List.take,List.drop,seval]
def YM (ks:List Tree) (i:Nat):Option Bool:=if i=0 then none else(ks[i - 1]?).map Tree.text
def te (ks:List Tree) (i:Nat):Env:=put (put (put (put Env.any 0 (.list (dq ks))) 5 (.list (dq ks))) 6 (.int .i64 ks.length)) 7 (.int .i64 i)
def D2 {P:Program} {G:Nat→Option (List IV)} {f fF:Nat} (hF:aw P G f=some (32,[(none,2)],(n_ fF).bare)) (ks:List Tree) (hx:ks.length≤B)
  (hK:∀k∈ks,au P G fF [k.av] (.bool k.fu)):au P G f [.list (dq ks)] (.bool (bQ none ks)):=by
 refine aR hF N7 PC Pv ?_;unfold n_;simp only[↓lP,lK,lX,List.take,List.drop,seval,bF];refine fY (σ:={i:Nat // i≤ks.length∧bQ none ks=bQ (YM ks i) (ks.drop i)}) (fun q=>te ks q.1) (fun _=>Hp.none) (fun q=>ks.length - q.1) ⟨0,by simp[YM]⟩ id ?_ ?_
 ·refine .none ?_ ?_
  ·exact aT rfl (aT rfl (aT rfl (aT rfl (Wc _ _))))
  exact aU Pv (aU Pv (aU Pv (aU Pv (eB _))))
 rintro⟨i,hi,hs⟩;simp only[↓lP,lK,lX,List.take,List.drop,seval,te,bF];by_cases bI:i<ks.length
 ·rw[show decide ((i:Int)<(ks.length:Int))=true by simpa using bI];obtain⟨k,hk⟩:∃k,ks[i]?=some k:=⟨_,bS bI⟩;have hw:IntKind.i64.wrap ((i:Int)+1)=((i+1:Nat):Int):=wrap64 tM (by unfold B at hx;omega);have hd:ks.drop i=k::ks.drop (i+1):=by
   rw[EK bI];rw[bS bI] at hk;cases hk;rfl
  have BT:YM ks (i+1)=some k.text:=by simp[YM,hk]
  have mV:bQ none ks=(k.fu&&(!(YM ks i==some true&&k.text)&&bQ (some k.text) (ks.drop (i+1)))):=by rw[hs,hd];simp only[bQ]
  have next:(k.fu&& !(YM ks i==some true&&k.text))=true→∃q:{i:Nat // i≤ks.length∧bQ none ks=bQ (YM ks i) (ks.drop i)},q.1=i+1:=fun h=>by
   rw[de] at h;exact⟨⟨i+1,bI,by rw[BT,mV,h.1,h.2];rfl⟩,rfl⟩
  simp only[↓lP,lK,lX,List.take,List.drop,seval,iy,hk,lT,Tree.cJ,Tree.cs];refine⟨le_max Pr,ay (hK k (dc hk)) ?_⟩;cases h1:k.fu with
  |false=>
   simp only[↓lP,lK,lX,List.take,List.drop,seval,fj];rw[mV,h1];rfl
  |true=>
  simp only[↓lP,lK,lX,List.take,List.drop,seval,ib];by_cases h3:i=0
  ·subst h3;rw[show decide (((0:Nat):Int)>0)=false by simp];obtain⟨q,hq⟩:=next (by rw[h1];simp[YM])
   simp only[↓lP,lK,lX,List.take,List.drop,seval,hw];refine⟨q,tM,id,.drop ?_ ?_ ?_⟩
   ·rw[hq];exact aT rfl (aT rfl (aT rfl (aT rfl (Wc _ _))))
   ·exact aU Pv (aU Pv (aU Pv (aU Pv (eB _))))
   exact dT (dT gJ)
  rw[show decide ((i:Int)>0)=true by simp;omega];obtain⟨p,hp⟩:∃p,ks[i - 1]?=some p:=⟨_,bS tM⟩;have qG:YM ks i=some p.text:=by simp[YM,h3,hp]
  have pU:IntKind.i64.wrap ((i:Int) - 1)=((i - 1:Nat):Int):=by rw[wrap64 tM (by unfold B at hx;omega)];omega
  simp only[↓lP,lK,lX,List.take,List.drop,seval];cases h2:k.text with
  |false=>
   obtain⟨q,hq⟩:=next (by rw[h1,h2];simp)
   simp only[↓lP,lK,lX,List.take,List.drop,seval,hw];refine⟨q,tM,id,.drop ?_ ?_ ?_⟩
   ·rw[hq];exact aT rfl (aT rfl (aT rfl (aT rfl (Wc _ _))))
   ·exact aU Pv (aU Pv (aU Pv (aU Pv (eB _))))
   exact dT (dT gJ)
  |true=>
  simp only[↓lP,lK,lX,List.take,List.drop,seval,pU,iy,hp,lT,Tree.cJ,Tree.cs];cases h4:p.text with
  |true=>
   simp only[↓lP,lK,lX,List.take,List.drop,seval];rw[mV,qG,h1,h2,h4];rfl
  |false=>
  obtain⟨q,hq⟩:=next (by rw[h1,h2,qG,h4];rfl)
  simp only[↓lP,lK,lX,List.take,List.drop,seval,hw];refine⟨q,tM,id,.drop ?_ ?_ ?_⟩
  ·rw[hq];exact aT rfl (aT rfl (aT rfl (aT rfl (Wc _ _))))
  ·exact aU Pv (aU Pv (aU Pv (aU Pv (eB _))))
  exact dT (dT gJ)
 rw[show decide ((i:Int)<(ks.length:Int))=false by simpa using bI];simp only[↓lP,lK,lX,List.take,List.drop,seval,bF];rw[hs,M_ tM];rfl
def Tree.d_ (x:Tree):Bool:= !x.text&&(decide ((x.dep:Int)≤8)&&(decide ((x.jz:Int)≤80)&&x.fu))
def Gp {P:Program} {G:Nat→Option (List IV)} {f fS fF:Nat} (hF:aw P G f=some (25,[(none,2)],(xW fS fF).bare)) (x:Tree)
  (hS:au P G fS [x.av] (.gf [.int .i64 x.dep,.int .i64 x.jz])) (hK:au P G fF [x.av] (.bool x.fu)):au P G f [x.av] (.bool x.d_):=by
 refine aR hF N7 P6 Pv ?_;unfold xW;simp only[↓lP,lK,lX,List.take,List.drop,seval,Tree.av];refine⟨le_max Pr,ay hS ?_⟩;simp only[↓lP,lK,lX,List.take,List.drop,seval];cases h0:x.text with
 |true=>
  simp only[↓lP,lK,lX,List.take,List.drop,seval,ib];simp[Tree.d_,h0]
 |false=>
 simp only[↓lP,lK,lX,List.take,List.drop,seval,fj];cases h1:decide ((x.dep:Int)≤8) with
 |false=>
  simp only[↓lP,lK,lX,List.take,List.drop,seval];rw[Tree.d_,h0,h1];rfl
 |true=>
 simp only[↓lP,lK,lX,List.take,List.drop,seval];cases h2:decide ((x.jz:Int)≤80) with
 |false=>
  simp only[↓lP,lK,lX,List.take,List.drop,seval];rw[Tree.d_,h0,h1,h2];rfl
 |true=>
 simp only[↓lP,lK,lX,List.take,List.drop,seval];refine ay (by rw[←h0];exact hK) ?_;simp only[↓lP,lK,lX,List.take,List.drop,seval];rw[Tree.d_,h0,h1,h2];rfl

structure Node where
 text:Bool
 s:Bs
 attrs:List Attr
 parent:Int
 kids:List Int
abbrev Doc:=List Node
def xX (n:Int):IV:= .int .i64 n
def Node.cs (x:Node):List IV:=[.bool x.text,.str x.s,.list (cD x.attrs),.int .i64 x.parent,.list (x.kids.map xX)]
def Node.iv (x:Node):IV:= .agg x.cs
def Node.av (x:Node):AV:= .agg [.bool x.text,.str x.s,.list (cD x.attrs),.int .i64 x.parent,.list (x.kids.map xX)]
def Node.cJ (x:Node):x.iv.cells=x.cs:=rfl
def ZO {α:Type} (f:α→IV) (n:Nat) (h:∀x,(f x).cells.length=n) (xs:List α):jV n (xs.map f):=by
 intro x hx;obtain⟨a,_,rfl⟩:=pb.1 hx;exact h a
def YY {α:Type} (f:α→IV) (h:∀x,∀z∈(f x).cells,∀cs,z≠ .agg cs) (xs:List α):Flat (xs.map f):=by
 intro x hx;obtain⟨a,_,rfl⟩:=pb.1 hx;exact h a
def YN (xs:List Int):jV 1 (xs.map xX):=ZO xX 1 (fun _=>rfl) xs
def XD (xs:List Int):Flat (xs.map xX):=YY _ (by intro x z hz cs;simp[xX,IV.cells] at hz;subst hz;simp) _
def Node.uy (x:Node):∀z∈x.cs,∀cs,z≠ .agg cs:=by
 intro z hz cs;simp only[Node.cs,dU,e7,kt] at hz;rcases hz with rfl|rfl|rfl|rfl|rfl<;>simp
def Xx (xs:List Node):jV 5 (xs.map Node.iv):=ZO Node.iv 5 (fun _=>rfl) xs
def acH (xs:List Node):Flat (xs.map Node.iv):=YY _ (fun x=>x.uy) _
def Node.ext' {x y:Node} (h1:x.text=y.text) (h2:x.s=y.s) (h3:x.attrs=y.attrs) (h4:x.parent=y.parent) (h5:x.kids=y.kids):x=y:=by
 cases x;cases y;simp_all
def mw (off:Nat):List Tree→List Int
 |[]=>[]
 |k::r=>(off:Int)::mw (off+k.jz) r
mutual
def Tree.flat (off:Nat) (p:Int):Tree→List Node
 | .mk t s az ks=>⟨t,s,az,p,mw (off+1) ks⟩::akX (off+1) off ks
def akX (off:Nat) (p:Nat):List Tree→List Node
 |[]=>[]
 |k::r=>k.flat off p++akX (off+k.jz) p r
end
def Tree.node (off:Nat) (p:Int) (x:Tree):Node:=⟨x.text,x.s,x.attrs,p,mw (off+1) x.kids⟩
def Tree.qm (off:Nat) (p:Int) (x:Tree):x.flat off p=x.node off p::akX (off+1) off x.kids:=by
 cases x;simp[Tree.flat,Tree.node,Tree.text,Tree.s,Tree.attrs,Tree.kids]
mutual
theorem Tree.j9 (off:Nat) (p:Int):∀x:Tree,(x.flat off p).length=x.jz
 | .mk t s az ks=>by simp[Tree.flat,Tree.jz,my (off+1) off ks]
theorem my (off:Nat) (p:Nat):∀xs:List Tree,(akX off p xs).length=dP xs
 |[]=>by simp[akX,dP]
 |k::r=>by simp[akX,dP,k.j9,my _ p r]
end
theorem VS:∀(off:Nat) (xs:List Tree),(mw off xs).length=xs.length
 |_,[]=>rfl
 |off,k::r=>by simp[mw,VS _ r]
theorem pd:∀(off p:Nat) (xs ys:List Tree),akX off p (xs++ys)=akX off p xs++akX (off+dP xs) p ys
 |off,p,[],ys=>by simp[akX,dP]
 |off,p,k::r,ys=>by simp[akX,dP,pd _ p r ys,ze]
theorem WZ:∀(off:Nat) (xs ys:List Tree),mw off (xs++ys)=mw off xs++mw (off+dP xs) ys
 |off,[],ys=>by simp[mw,dP]
 |off,k::r,ys=>by simp[mw,dP,WZ _ r ys,ze]
def lW (x:Tree):Doc:=x.flat 0 (-1)
def Qb {p:Prop} (h:p:=by simp[lW]):p:=h
def Tree.uE (x:Tree):0<x.jz:=by rw[x.n8];omega

def U8:AC:=
(aM [zi 2] (.seq (aM [MR 3 0,aQ 4 (.BJ false (.t 3))] (.cond (.t 4) (aM [zi 2] .ret) .skip)) (aM [aQ 5 (.lits 0 2 [(.str []),(.str [])] []),MR 6 0,aQ 7 (.app (.t 5) (.t 6) 2 32),MR 2 7] (.gh (.zS (.loc 7) 2) .ret))))
def Wd:AC:=
(aM [zi 2] (.seq (aM [MR 3 0,aQ 4 (.BJ false (.t 3))] (.cond (.t 4) (aM [zi 2] .ret) .skip)) (aM [aQ 5 (.lits 0 1 [(.int .i64 0)] []),MR 6 0,aQ 7 (.app (.t 5) (.t 6) 1 8),MR 2 7] (.gh (.zS (.loc 7) 2) .ret))))
def acI {P:Program} {G:Nat→Option (List IV)} {iJ:Nat} (hF:aw P G iJ=some (8,[(none,2)],U8.bare)) (xs:List Attr) (hx:xs.length≤B):au P G iJ [.list (cD xs)] (.list (cD xs)):=by
 refine Ws hF N7 PC Pv ?_;unfold U8;simp only[↓aX,mX,seval,ab9];refine aaW (fun h=> ?_) ?_
 ·simp only[↓aX,mX,seval,norm,h]
 simp only[↓aX,mX,seval,norm];rw[Xp 2 32 7 (cD xs) (rq _) (nW _) (by rw[bp];unfold B at hx;omega) Pr rfl];simp only[↓aX,mX,seval,norm];exact⟨2,cD xs,0,_,rfl,rfl,N7,nW _,N7⟩
def aoE {P:Program} {G:Nat→Option (List IV)} {l4:Nat} (hF:aw P G l4=some (8,[(none,2)],Wd.bare)) (xs:List Int) (hx:xs.length≤B):au P G l4 [.list (xs.map xX)] (.list (xs.map xX)):=by
 refine Ws hF N7 PC Pv ?_;unfold Wd;simp only[↓aX,mX,seval,ab9];refine aaW (fun h=> ?_) ?_
 ·simp only[↓aX,mX,seval,norm,h]
 simp only[↓aX,mX,seval,norm];rw[Xp 1 8 7 (xs.map xX) (YN _) (XD _) (by rw[bA];unfold B at hx;omega) Pr rfl];simp only[↓aX,mX,seval,norm];exact⟨1,xs.map xX,0,_,rfl,rfl,N7,XD _,by rw[tn,eN N7]⟩

def afA (sz b d:Nat) (l:Lb) (xs:List IV) (x:IV) {n:Nat} {H:Hp} (hf:l.fresh=false) (hl:H l= .live ⟨sz,aB xs⟩) (hn:xs.length=n) (he:x.cells.length=sz) (FO:∀z∈x.cells,∀cs,z≠ .agg cs) (hb:(n+1)*b≤140737488355328) (h0:0<b)
  (hd:l≠ .gen d) (hu:H (.gen d)= .unused) :
  jN sz b d (.sl l sz 0 n) (.list [x]) H=some (.sl (.gen d) sz 0 (n+1),bD (bD H l .dead) (.gen d) (.live ⟨sz,aB (xs++[x])⟩)):=by
 have e:l.app d= .gen d:=by unfold Lb.app;rw[hf];rfl
 have:=ux (l:=l) (d:=d) hl (by rw[lQ];exact hn) he FO hb h0 (by rw[e];exact hd) (by rw[e];exact hu);rw[e] at this;rw[this,lR]
def ie (u:Lb→Bool) (rs:List (Lb×Row)):Hp:=fun q=>match kl rs q with
 | .unused=>if u q then .dead else .unused
 |s=>s
def cL {u:Lb→Bool} {rs:List (Lb×Row)} {l:Lb} {r:Row}:ie u rs l= .live r↔kl rs l= .live r:=by
 unfold ie;cases h:kl rs l with
 |unused=>by_cases hu:u l=true<;>simp[hu]
 |dead=>simp
 |live r'=>simp
def jb {u:Lb→Bool} {rs:List (Lb×Row)} {l:Lb} (h:l∈rs.map Prod.fst∨u l=true):ie u rs l≠ .unused:=by
 unfold ie;rcases h with h|h
 ·have:=amE h;cases h2:kl rs l with
  |unused=>exact absurd h2 this
  |dead=>simp
  |live r=>simp
 cases h2:kl rs l with
 |unused=>simp[h]
 |dead=>simp
 |live r=>simp
def fE {u:Lb→Bool} {rs:List (Lb×Row)} {l:Lb} (h:l∉rs.map Prod.fst):ie u rs l=if u l then .dead else .unused:=by
 have:kl rs l= .unused:=by
  induction rs with
  |nil=>rfl
  |cons p t ih=>
  obtain⟨l0,r0⟩:=p;simp only[o2,dU,Xd] at h;simp only[kl,bD,cY h.1];exact ih h.2
 unfold ie;rw[this]
structure WU (ls:List Lb) (u:Lb→Bool) (ps:List (Nat×AV)) (rs:List (Lb×Row)) (env:Env) (H:Hp) (m:List (Lb×Lb)):Prop where
 nf:∀l:Lb,l.fresh=false→H l≠ .unused→l∈ls∨u l=true
 e:k_ (dn m) env ps
 r:tc (dn m) H rs
 inj:(ls.map (dn m)).Nodup
 fr:∀l∈ls,(l.fresh=true→(dn m l).fresh=true)∧(l.fresh=false→dn m l=l)
def WU.wk {ls:List Lb} {u:Lb→Bool} {ps:List (Nat×AV)} {rs:List (Lb×Row)} {env:Env} {H:Hp} {m:List (Lb×Lb)} (h:WU ls u ps rs env H m) (lr:rs.map Prod.fst=ls) (hp:∀l∈ah (ps.map Prod.snd),l∈ls)
  (hr:∀q∈rs,∀cs∈q.2.els,∀l∈ah cs,l∈ls):Wk (dn m) env H (o9 ps) (ie u rs):=by
 have sw:∀l,live (ie u rs) l→l∈ls:=fun l ⟨r,h⟩=>by rw[←lr];exact pb.2 ⟨_,fy (cL.1 h),rfl⟩
 refine⟨h.e.we,fun l r hl=>nr h.r (fy (cL.1 hl)),fun l l' h1 h2 e=>gi h.inj l (sw l h1) l' (sw l' h2) e,mu fun l hl=>jb (.inl (by rw[lr];exact hp l hl)),fun l r hl cs bV q hq=> ?_,
  fun l hf=>⟨fun hu=> ?_,fun hl=>(h.fr l (sw l hl)).2 (Lb.Og hf)⟩,fun l hl hf=>(h.fr l (sw l hl)).1 hf⟩
 ·exact jb (.inl (by rw[lr];exact hr _ (fy (cL.1 hl)) cs bV q hq))
 exact jb (by rw[lr];exact h.nf l (Lb.Og hf) hu)
def pe {σ:Type} {S:St} {Q:gI} {c:AC} {k:List It} {env:Env} {H:Hp} (ls:σ→List Lb) (u:σ→Lb→Bool) (ps:σ→List (Nat×AV)) (rs:σ→List (Lb×Row)) (μ:σ→Nat) (s0:σ)
  (lr:∀s,(rs s).map Prod.fst=ls s) (hp:∀s,∀l∈ah ((ps s).map Prod.snd),l∈ls s) (hr:∀s,∀q∈rs s,∀cs∈q.2.els,∀l∈ah cs,l∈ls s) (h0:∃m,WU (ls s0) (u s0) (ps s0) (rs s0) env H m)
  (round:∀s,go S (kM S Q k (fun env H s=>∃m,WU (ls s) (u s) (ps s) (rs s) env H m) μ (μ s)) [.code c] (o9 (ps s)) (ie (u s) (rs s))):lI S Q c k env H:=
 j7 (fun s=>o9 (ps s)) (fun s=>ie (u s) (rs s)) _ (fun _ _ s ⟨m,h⟩=>⟨_,h.wk (lr s) (hp s) (hr s)⟩) μ s0 h0 round
def ad7 (sz:Nat) (l:Lb) (o:Option Lb) (xs:List IV) (H:Hp):Prop:=match o with
 |none=>H l= .live ⟨1,[[.nil0]]⟩∧xs=[]
 |some L=>L≠l∧H l= .live ⟨1,[[.sl L sz 0 xs.length]]⟩∧H L= .live ⟨sz,aB xs⟩
def Xq (sz:Nat) (xs:List IV):Bool→Hp
 |false=>bD Hp.none (.par 0) (.live ⟨1,[[.nil0]]⟩)
 |true=>bD (bD Hp.none (.par 1) (.live ⟨sz,aB xs⟩)) (.par 0) (.live ⟨1,[[.sl (.par 1) sz 0 xs.length]]⟩)
def adm (P:Program) (G:Nat→Option (List IV)) (sz f:Nat) (args:List AV) (xs:List IV) (res:AV) (ys:List IV):Prop:=
 (∀l∈ah args,l= .par 0)∧res.an=[]∧∀b:Bool,(b=false→xs=[])→ey P G f args (Xq sz xs b) fun x H'=>x=res∧∃L,ad7 sz (.par 0) (some L) ys H'
def dy (ρ:Lb→Lb) (sz:Nat) (xs:List IV):dO ρ ⟨sz,aB xs⟩=⟨sz,aB xs⟩:=rk ρ sz xs
def P_ {p:Prop} (h:p:=by simp[dn,dy,ae,ix,Tree.o_,Tree.cs,Tree.text,Tree.s,Tree.attrs,Tree.kids,cD,dq]):p:=h
def ey.ahr {P:Program} {G:Nat→Option (List IV)} {f:Nat} {args:List AV} {H:Hp} {Q:AV→Hp→Prop} (h:ey P G f args H Q) (kp:Hp→Lb→Prop) :
  ey P G f args H fun x H'=>∃H1,Q x H1∧H'=eg (kp H1) H1:=by
 intro w A β vs hr hv;refine(h w A β vs hr hv).mono ?_;rintro e w' ⟨v,x,H1,β',rfl,hq,lz,hx,hm⟩;exact⟨v,x,eg (kp H1) H1,β',rfl,⟨H1,hq,rfl⟩,lz.eg _,hx.eg _,fun l hl=>by rw[Ne,N9];exact hm l hl⟩
mutual
theorem P4 {ρ ρ':Lb→Lb}:∀x:AV,(∀l∈x.an,ρ l=ρ' l)→bJ ρ x=bJ ρ' x
 | .sl l ..,h| .slk l ..,h| .ptr l ..,h=>by simp[bJ,h l Pv]
 | .any,_| .un,_| .bool _,_| .int ..,_| .str _,_| .list _,_| .nil0,_| .jK,_| .iT,_| .lptr _,_| .mis _,_=>by simp[bJ]
 | .agg cs,h=>by simp only[AV.an] at h;simp[bJ,NZ cs h]
 | .gf cs,h=>by simp only[AV.an] at h;simp[bJ,NZ cs h]
 | .fn f fs cs,h=>by
  simp only[AV.an,eR] at h;simp[bJ,NZ fs (fun l hl=>h l (.inl hl)),NZ cs (fun l hl=>h l (.inr hl))]
 | .ifc t x,h=>by simp only[AV.an] at h;simp[bJ,P4 x h]
theorem NZ {ρ ρ':Lb→Lb}:∀xs:List AV,(∀l∈ah xs,ρ l=ρ' l)→bu ρ xs=bu ρ' xs
 |[],_=>by simp[bu]
 |x::r,h=>by
  simp only[ah,eR] at h;simp[bu,P4 x (fun l hl=>h l (.inl hl)),NZ r (fun l hl=>h l (.inr hl))]
end
def We {sz:Nat} {xs:List IV} {b:Bool} {q:Lb} {r:Row} (h:Xq sz xs b q= .live r) :
  (q= .par 0∧r=⟨1,[[if b then .sl (.par 1) sz 0 xs.length else .nil0]]⟩)∨(b=true∧q= .par 1∧r=⟨sz,aB xs⟩):=by
 cases b with
 |false=>
  simp only[Xq] at h;by_cases e:q= .par 0
  ·subst e;simp at h;exact .inl ⟨rfl,by rw[←h];rfl⟩
  rw[aq _ _ e] at h;simp[Hp.none] at h
 |true=>
 simp only[Xq] at h;by_cases e:q= .par 0
 ·subst e;simp at h;exact .inl ⟨rfl,by rw[←h];rfl⟩
 rw[aq _ _ e] at h;by_cases e1:q= .par 1
 ·subst e1;simp at h;exact .inr ⟨rfl,rfl,h.symm⟩
 rw[aq _ _ e1] at h;simp[Hp.none] at h
open Classical in
def Zf {S:St} {sz f:Nat} {args U6:List AV} {xs ys:List IV} {res:AV} {H:Hp} {k:AV→Hp→Prop} {u:Tw k} {l N:Lb} {o:Option Lb} (h:adm S.P S.G sz f U6 xs res ys)
  (ha:args=bu (ft l) U6) (hl:ad7 sz l o xs H) (hN:H N= .unused) (Jc:N.fresh=true→l.fresh=true∧∀L,o=some L→L.fresh=true)
  (hk:∀L' kK,(L'=N∨o=some L')→ad7 sz l (some L') ys kK→(∀q,q≠l→q≠N→o≠some q→kK q=H q)→(∀q,H q≠ .unused→kK q≠ .unused)→k res kK):C7 S f args H k u:=by
 obtain⟨h1,h2,h3⟩:=h;have hob:o.isSome=false→xs=[]:=by
  intro ho;cases o with
  |none=>exact hl.2
  |some L=>simp at ho
 have ahs:=(h3 o.isSome hob).ahr fun H1 q=>q= .par 0∨∃n,H1 (.par 0)= .live ⟨1,[[.sl q sz 0 n]]⟩
 let L0:Lb:=o.getD N
 let ρ:Lb→Lb:=fun q=>if q= .par 0 then l else if q= .par 1 then L0 else q
 have adn:ρ (.par 0)=l:=by simp[ρ]
 have ado:ρ (.par 1)=L0:=by simp[ρ]
 have Lv:H l≠ .unused:=by cases o with
  |none=>rw[hl.1];simp
  |some L=>rw[hl.2.1];simp
 have Mz:N≠l:=by rintro rfl;exact Lv hN
 have aht:L0≠l:=by cases o with
  |none=>exact Mz
  |some L=>exact hl.1
 refine .inr<| .inr ⟨⟨ρ,Xq sz xs o.isSome,U6,_,ahs,?_,?_,?_,?_,?_,?_,?_,?_⟩⟩
 ·rw[ha];exact NZ _ fun q hq=>by rw[h1 q hq];simp[ft,ρ]
 ·intro q r hq;rcases We hq with⟨rfl,rfl⟩|⟨hb,rfl,rfl⟩
  ·rw[adn];cases o with
   |none=>rw[hl.1];simp[dO,bu,bJ]
   |some L=>rw[hl.2.1];simp[dO,bu,bJ,ρ,L0]
  rw[ado,dy];cases o with
  |none=>simp at hb
  |some L=>exact hl.2.2
 ·intro q hq;cases hb:o.isSome with
  |false=>
   rw[hb] at hq;simp only[Xq] at hq;by_cases e:q= .par 0
   ·subst e;exact⟨_,by simp[Xq];rfl⟩
   rw[aq _ _ e] at hq;simp[Hp.none] at hq
  |true=>
  rw[hb] at hq;simp only[Xq] at hq;by_cases e:q= .par 0
  ·subst e;exact⟨_,by simp[Xq];rfl⟩
  rw[aq _ _ e] at hq;by_cases e1:q= .par 1
  ·subst e1;exact⟨_,by simp[Xq,bD];rfl⟩
  rw[aq _ _ e1] at hq;simp[Hp.none] at hq
 ·rintro q q' ⟨r,hq⟩ ⟨r',oX⟩ he;rcases We hq with⟨rfl,_⟩|⟨_,rfl,_⟩<;>rcases We oX with⟨rfl,_⟩|⟨_,rfl,_⟩
  ·rfl
  ·rw[adn,ado] at he;exact absurd he.symm aht
  ·rw[adn,ado] at he;exact absurd he aht
  rfl
 ·intro q hq;rw[h1 q hq];cases o.isSome<;>simp[Xq]
 ·rintro q ⟨r,hq⟩;rcases We hq with⟨rfl,_⟩|⟨_,rfl,_⟩<;>rfl
 ·intro q r hq cs bV z hz;rcases We hq with⟨rfl,rfl⟩|⟨hb,rfl,rfl⟩
  ·simp only[List.mem_singleton] at bV;subst bV;cases hb:o.isSome with
   |false=>rw[hb] at hz;simp[ah,AV.an] at hz
   |true=>rw[hb] at hz;simp[ah,AV.an] at hz;subst hz;simp[Xq,bD]
  rw[bU bV] at hz;simp at hz
 rintro x H' ⟨H1,⟨rfl,L,hLa⟩,rfl⟩;obtain⟨ij,hp,hLr⟩:=hLa
 let L1:Lb:=if L= .par 1∧o.isSome=true then L0 else N
 have Je:L1=N∨o=some L1:=by
  by_cases e:L= .par 1∧o.isSome=true
  ·right;simp only[L1,if_pos e,L0];cases o with
   |none=>simp at e
   |some Lo=>rfl
  left;simp only[L1,if_neg e]
 have afB:L1≠l:=by
  rcases Je with e|e
  ·rw[e];exact Mz
  intro e2;rw[e2] at e;cases o with
  |none=>simp at e
  |some Lo=>simp only[Option.some.injEq] at e;exact hl.1 e
 let ρ':Lb→Lb:=fun q=>if q= .par 0 then l else if q=L then L1 else q
 have acJ:ρ' (.par 0)=l:=by simp[ρ']
 have ZP:ρ' L=L1:=by simp[ρ',ij]
 let Hk:Hp:=match o with
  |some Lo=>bD H Lo .dead
  |none=>H
 have Hn:∀q,o≠some q→Hk q=H q:=by
  intro q hq;cases o with
  |none=>rfl
  |some Lo=>exact aq _ _ (fun e=>hq (by rw[e]))
 have ahu:∀q,o=some q→Hk q= .dead:=by
  intro q hq;subst hq;simp[Hk]
 have aK:∀q r,eg (fun q=>q= .par 0∨∃n,H1 (.par 0)= .live ⟨1,[[.sl q sz 0 n]]⟩) H1 q= .live r→(q= .par 0∧r=⟨1,[[.sl L sz 0 ys.length]]⟩)∨(q=L∧r=⟨sz,aB ys⟩):=by
  intro q r hq;obtain⟨g1,g2⟩:=dH.1 hq;rcases g2 with rfl|⟨n,g2⟩
  ·rw[hp] at g1;cases g1;exact .inl ⟨rfl,rfl⟩
  rw[hp] at g2;simp only[Slot.live.injEq,Row.mk.injEq,List.cons.injEq,and_true,true_and,AV.sl.injEq] at g2;obtain⟨rfl,_⟩:=g2;rw[hLr] at g1;cases g1;exact .inr ⟨rfl,rfl⟩
 have agI:eg (fun q=>q= .par 0∨∃n,H1 (.par 0)= .live ⟨1,[[.sl q sz 0 n]]⟩) H1 (.par 0)= .live ⟨1,[[.sl L sz 0 ys.length]]⟩:=dH.2 ⟨hp,.inl rfl⟩;have ad8:eg (fun q=>q= .par 0∨∃n,H1 (.par 0)= .live ⟨1,[[.sl q sz 0 n]]⟩) H1 L= .live ⟨sz,aB ys⟩:=dH.2 ⟨hLr,.inr ⟨_,hp⟩⟩
 let kK:Hp:=bD (bD Hk l (.live ⟨1,[[.sl L1 sz 0 ys.length]]⟩)) L1 (.live ⟨sz,aB ys⟩)
 have hH1:kK L1= .live ⟨sz,aB ys⟩:=by simp[kK]
 have agJ:kK l= .live ⟨1,[[.sl L1 sz 0 ys.length]]⟩:=by
  show bD _ L1 _ l=_;rw[aq _ _ (Ne.symm afB)];simp
 have hHo:∀q,q≠L1→q≠l→kK q=Hk q:=by
  intro q e1 e2;show bD _ L1 _ q=_;rw[aq _ _ e1,aq _ _ e2]
 have GJ:∀q,H q≠ .unused→kK q≠ .unused:=by
  intro q hq;by_cases e1:q=L1
  ·rw[e1,hH1];simp
  by_cases e2:q=l
  ·rw[e2,agJ];simp
  rw[hHo q e1 e2];by_cases e3:o=some q
  ·rw[ahu q e3];simp
  rw[Hn q e3];exact hq
 refine⟨ρ',kK,?_,?_,?_,GJ,?_,?_,?_,?_,?_⟩
 ·rintro q ⟨r,hq⟩ ⟨r',oX⟩;rcases We hq with⟨rfl,_⟩|⟨hb,rfl,_⟩
  ·rw[adn,acJ]
  rcases aK _ _ oX with⟨e,_⟩|⟨e,_⟩
  ·cases e
  rw[ado,e,ZP];simp only[L1,if_pos (⟨e.symm,hb⟩:L= .par 1∧o.isSome=true)]
 ·intro q r hq;by_cases e1:q=L1
  ·subst e1;rw[hH1] at hq;simp only[Slot.live.injEq] at hq;exact .inr ⟨L,_,ad8,ZP,by rw[dy];exact hq.symm⟩
  by_cases e2:q=l
  ·subst e2;rw[agJ] at hq;simp only[Slot.live.injEq] at hq;refine .inr ⟨.par 0,_,agI,acJ,?_⟩;rw[←hq];simp[dO,bu,bJ,ZP]
  rw[hHo q e1 e2] at hq;by_cases e3:o=some q
  ·rw[ahu q e3] at hq;cases hq
  rw[Hn q e3] at hq;refine .inl ⟨hq,?_⟩;rintro z ⟨r',hz⟩ hzq;rcases We hz with⟨rfl,_⟩|⟨hb,rfl,_⟩
  ·rw[adn] at hzq;exact e2 hzq.symm
  rw[ado] at hzq;apply e3;cases o with
  |none=>simp at hb
  |some Lo=>simp only[L0,Option.getD_some] at hzq;rw[hzq]
 ·rintro q q' ⟨r,hq⟩ ⟨r',oX⟩ he;rcases aK _ _ hq with⟨rfl,_⟩|⟨rfl,_⟩<;>rcases aK _ _ oX with⟨rfl,_⟩|⟨rfl,_⟩
  ·rfl
  ·rw[acJ,ZP] at he;exact absurd he.symm afB
  ·rw[acJ,ZP] at he;exact absurd he afB
  rfl
 ·intro q hq;rw[h2] at hq;simp at hq
 ·intro q r hq cs bV z hz;rcases aK _ _ hq with⟨rfl,rfl⟩|⟨rfl,rfl⟩
  ·simp only[List.mem_singleton] at bV;subst bV;simp only[ah,AV.an,List.append_nil,List.mem_singleton] at hz;subst hz;rw[ZP,hH1];simp
  rw[bU bV] at hz;simp at hz
 ·rintro q ⟨r,hq⟩;rcases aK _ _ hq with⟨rfl,_⟩|⟨rfl,_⟩
  ·left;cases o.isSome<;>exact⟨_,by simp[Xq];rfl⟩
  by_cases e:q= .par 1∧o.isSome=true
  ·left;rw[e.1,e.2];exact⟨_,by simp[Xq,bD];rfl⟩
  right;rw[ZP];simp only[L1,if_neg e];refine⟨hN,fun hf=> .inr ?_⟩;obtain⟨g1,g2⟩:=Jc hf;rintro z ⟨r',hz⟩;rcases We hz with⟨rfl,_⟩|⟨hb,rfl,_⟩
  ·rw[adn];exact g1
  rw[ado];cases o with
  |none=>simp at hb
  |some Lo=>exact g2 Lo rfl
 ·rintro q (hq|⟨l1,r1,cs,g1,g2,g3⟩) _
  ·rw[h2] at hq;simp at hq
  rcases aK _ _ g1 with⟨rfl,rfl⟩|⟨rfl,rfl⟩
  ·simp only[List.mem_singleton] at g2;subst g2;simp only[ah,AV.an,List.append_nil,List.mem_singleton] at g3;subst g3;exact⟨_,ad8⟩
  rw[bU g2] at g3;simp at g3
 rw[j8 _ _ h2];refine hk L1 kK Je ⟨afB,agJ,hH1⟩ ?_ GJ;intro q e1 e2 e3;have:q≠L1:=by
  rintro rfl;rcases Je with e|e
  ·exact e2 e
  exact e3 e
 rw[hHo q this e1,Hn q e3]
end Go.Am

namespace Go.Am
open Go Go.RowKit
def wk (d:Doc):Nat→Int→Int→Int→Option Int
 |0,_,_,_=>none
 |f+1,n,p,nx=>if n=nx then match d[n.toNat]? with
   |some x=>if x.parent=p then x.kids.foldlM (fun q k=>wk d f k n q) (nx+1) else none
   |none=>none
  else none
def ob {α:Type} {l:List α} {n:Nat} {x:α} {r:List α} (h:l.drop n=x::r):l[n]?=some x∧l.drop (n+1)=r:=by
 have h1:(l.drop n)[0]?=some x:=by rw[h];rfl
 refine⟨by simpa[Ba] using h1,?_⟩;have:(l.drop n).drop 1=r:=by rw[h];rfl
 rwa[JO] at this
def drop_eq {α:Type} {l:List α} {n:Nat} {x:α} (h:l[n]?=some x):l.drop n=x::l.drop (n+1):=by
 obtain⟨hn,rfl⟩:=bd.1 h;exact EK hn
def acK (d:Doc):∀(f:Nat),
  (∀(m:Nat) (n p r:Int),wk d f n p m=some r→n=m∧∃x:Tree,x.dep≤f∧(∃post,d.drop m=x.flat m p++post)∧r=((m+x.jz:Nat):Int)):=by
 intro f;induction f with
 |zero=>intro m n p r h;simp[wk] at h
 |succ f ih=>
 intro m n p r h;unfold wk at h;split at h
 ·rename_i hn;subst hn;simp only[bX] at h;cases hx:d[m]? with
  |none=>rw[hx] at h;simp at h
  |some nd=>
  rw[hx] at h;simp only at h;split at h
  ·rename_i hp;refine⟨rfl,?_⟩;have kids:∀(ks:List Int) (q:Nat) (r:Int),ks.foldlM (fun q k=>wk d f k (m:Int) q) (q:Int)=some r→∃xs:List Tree,ks=mw q xs∧fB xs≤f∧(∃post,d.drop q=akX q m xs++post)∧r=((q+dP xs:Nat):Int):=by
    intro ks;induction ks with
    |nil=>intro q r h;simp at h;subst h;exact⟨[],rfl,by simp[fB],⟨_,by simp[akX];rfl⟩,by simp[dP]⟩
    |cons k ks Li=>
    intro q r h;rw[Oe] at h;obtain⟨q',h1,h2⟩:=dJ.1 h;obtain⟨rfl,x,x1,⟨post,x2⟩,rfl⟩:=ih q k m q' h1;obtain⟨xs,e1,e2,⟨ahv,e3⟩,rfl⟩:=Li _ _ h2;refine⟨x::xs,by simp only[mw,e1],by simp only[fB];omega,⟨ahv,?_⟩,by simp only[dP,ze]⟩;have:d.drop (q+x.jz)=post:=by
     rw[←JO,x2,Gk (by rw[x.j9];exact eM _),M_ (by rw[x.j9];exact eM _)];rfl
    rw[x2,←this,e3];simp[akX]
   obtain⟨xs,e1,e2,⟨post,e3⟩,rfl⟩:=kids nd.kids (m+1) r (by simpa using h);refine⟨.mk nd.text nd.s nd.attrs xs,by simp only[Tree.dep];omega,⟨post,?_⟩,by simp only[Tree.jz];congr 1;omega⟩;rw[drop_eq hx,e3];simp only[Tree.flat,List.cons_append,yn,Oc];exact Node.ext' rfl rfl rfl hp e1
  simp at h
 simp at h
def Gq (d:Doc):∀(f:Nat) (x:Tree) (m:Nat) (p:Int),x.dep≤f→(∃post,d.drop m=x.flat m p++post)→wk d f m p m=some ((m+x.jz:Nat):Int):=by
 intro f;induction f with
 |zero=>intro x m p h;rw[x.n7] at h;omega
 |succ f ih=>
 intro x m p hd ⟨post,hx⟩;rw[x.qm] at hx;obtain⟨h1,h2⟩:=ob hx;unfold wk;rw[eE rfl,bX,h1];simp only[Tree.node,ku];have kids:∀(xs:List Tree) (q:Nat),fB xs≤f→(∃post,d.drop q=akX q m xs++post)→(mw q xs).foldlM (fun q k=>wk d f k (m:Int) q) (q:Int)=some ((q+dP xs:Nat):Int):=by
  intro xs;induction xs with
  |nil=>intro q _ _;simp[mw,dP]
  |cons y ys Li=>
  intro q hq ⟨post,hp⟩;simp only[fB] at hq;simp only[akX,yo] at hp;simp only[mw,Oe];rw[ih y q m tM ⟨_,hp⟩];simp only[NV,eQ];rw[Li (q+y.jz) tM ⟨post,by rw[←JO,hp,Gk (by rw[y.j9];exact eM _),M_ (by rw[y.j9];exact eM _)];rfl⟩];simp only[dP,ze]
 have Lj:=x.n7;have:=kids x.kids (m+1) tM ⟨post,h2⟩;rw[show((m:Int)+1)=((m+1:Nat):Int) by omega,this,x.n8];congr 2;omega
mutual
theorem Tree.ZQ:∀(x y:Tree) (off:Nat) (p:Int) (r r':List Node),x.flat off p++r=y.flat off p++r'→x=y
 | .mk t s az ks,.mk t' s' U0 Hj,off,p,r,r',h=>by
  simp only[Tree.flat,List.cons_append,yn,Node.mk.injEq] at h;obtain⟨⟨rfl,rfl,rfl,_,hk⟩,h⟩:=h;have hl:ks.length=Hj.length:=by have:=GB List.length hk;simpa[VS] using this
  rw[aay ks Hj (off+1) off r r' hl h]
theorem aay:∀(xs ys:List Tree) (off p:Nat) (r r':List Node),xs.length=ys.length→akX off p xs++r=akX off p ys++r'→xs=ys
 |[],[],_,_,_,_,_,_=>rfl
 |[],_::_,_,_,_,_,h,_=>by simp at h
 |_::_,[],_,_,_,_,h,_=>by simp at h
 |x::xs,y::ys,off,p,r,r',hl,h=>by
  simp only[akX,yo] at h;have e:=x.ZQ y off p _ _ h;subst e;have:=List.append_cancel_left h;rw[aay xs ys _ p r r' (by simpa using hl) this]
end
def adp {x y:Tree} (h:lW x=lW y):x=y:=x.ZQ y 0 (-1) [] [] (by simpa[lW] using h)
def pf (x:Tree):(lW x).length=x.jz:=x.j9 0 (-1)
def uF (d:Doc):Prop:=∃x:Tree,x.d_=true∧d=lW x
open Classical in
noncomputable def Vo (d:Doc):Bool:=decide (uF d)
def XW {d:Doc}:Vo d=true↔uF d:=by simp[Vo]
def Yj {x:Tree} (h:x.d_=true):Vo (lW x)=true:=XW.2 ⟨x,h,rfl⟩
def XX {d:Doc} (h:¬uF d):Vo d=false:=by simp[Vo,h]
def ia (x:Tree):x.d_=true↔x.text=false∧x.dep≤8∧x.jz≤80∧x.fu=true:=by
 simp only[Tree.d_,de,D0,dj];constructor
 ·rintro⟨h1,h2,h3,h4⟩;exact⟨h1,tM,tM,h4⟩
 rintro⟨h1,h2,h3,h4⟩;exact⟨h1,tM,tM,h4⟩
def agK {d:Doc} (h:wk d 8 0 (-1) 0=some (d.length:Int)):∃x:Tree,x.dep≤8∧d=lW x:=by
 obtain⟨_,x,h1,⟨post,h2⟩,h3⟩:=acK d 8 0 0 (-1) _ h;refine⟨x,h1,?_⟩;simp only[tn,bM] at h2 h3;have hl:post=[]:=by
  have:=GB List.length h2;rw[ko,x.j9] at this;have:x.jz=d.length:=tM
  exact ye.1 tM
 rw[h2,hl,rI];rfl
def A3 {x:Tree} (h:x.dep≤8):wk (lW x) 8 0 (-1) 0=some ((lW x).length:Int):=by
 have:=Gq (lW x) 8 x 0 (-1) h ⟨[],Qb⟩;rw[pf];simpa using this
end Go.Am

namespace Go.Am
open Go Go.RowKit
def Tree.Gr (x:Tree) (s:Bs):Tree:= .mk x.text s x.attrs x.kids
def Cd (p:Bool):List Tree→Bool
 |[]=>p
 |x::r=>Cd x.text r
def grow (s:Bs):List Tree→List Tree
 |[]=>[]
 |[x]=>[x.Gr (x.s++s)]
 |x::y::r=>x::grow s (y::r)
def push (out:List Tree) (x:Tree):List Tree:=
 if x.text&&x.s==[] then out else if x.text&&Cd false out then grow x.s out else out++[x]
mutual
def Tree.jn:Tree→Tree
 | .mk t s az ks=> .mk t s az (Xc [] ks)
def Xc (out:List Tree):List Tree→List Tree
 |[]=>out
 |x::r=>Xc (push out x.jn) r
end
def Wf (l:List Tree):List Tree:=Xc [] l
def Tree.acL (x:Tree):x.jn= .mk x.text x.s x.attrs (Wf x.kids):=by cases x;simp[Tree.jn,Wf,Tree.text,Tree.s,Tree.attrs,Tree.kids]
def Tree.Yz (x:Tree):x.jn.text=x.text:=by rw[x.acL];rfl
def Tree.ad9 (x:Tree):x.jn.s=x.s:=by rw[x.acL];rfl
def Tree.ad_ (x:Tree):x.jn.attrs=x.attrs:=by rw[x.acL];rfl
def Tree.afC (x:Tree):x.jn.kids=Wf x.kids:=by rw[x.acL];rfl
theorem aaz:∀(xs ys out:List Tree),Xc out (xs++ys)=Xc (Xc out xs) ys
 |[],ys,out=>by simp[Xc]
 |x::r,ys,out=>by simp[Xc,aaz r ys]
theorem aaA (p:Bool):∀(xs:List Tree),xs≠[]→∃y,xs[xs.length - 1]?=some y∧Cd p xs=y.text
 |[],h=>absurd rfl h
 |[x],_=>⟨x,rfl,rfl⟩
 |x::y::r,_=>by
  obtain⟨z,h1,h2⟩:=aaA x.text (y::r) N7;exact⟨z,by simpa using h1,by simpa[Cd] using h2⟩
theorem abe (s:Bs):∀(xs:List Tree),(grow s xs).length=xs.length
 |[]=>rfl
 |[x]=>rfl
 |x::y::r=>by simp only[grow,gL,abe s (y::r)]
theorem acM (s:Bs):∀(xs:List Tree) (y:Tree),xs[xs.length - 1]?=some y→grow s xs=xs.set (xs.length - 1) (y.Gr (y.s++s))
 |[],y,h=>by simp at h
 |[x],y,h=>by simp at h;subst h;rfl
 |x::z::r,y,h=>by
  have:=acM s (z::r) y (by simpa using h);simp only[grow,this];simp
mutual
def Tree.jd:Tree→Bool
 | .mk _ _ _ ks=>Kf false ks
def Kf (p:Bool):List Tree→Bool
 |[]=>true
 |x::r=> !(x.text&&(p||x.s==[]))&&(x.jd&&Kf x.text r)
end
theorem abf (s:Bs):∀(xs:List Tree),dE (grow s xs)≤dE xs+s.length
 |[]=>by simp[grow,dE]
 |[x]=>by cases x;simp[grow,dE,Tree.Gr,Tree.wt,Tree.text,Tree.s,Tree.attrs,Tree.kids];omega
 |x::y::r=>by have:=abf s (y::r);simp only[grow,dE] at this ⊢;omega
def aea (out:List Tree) (x:Tree):dE (push out x)≤dE out+x.wt:=by
 unfold push;split
 ·omega
 split
 ·have:=abf x.s out;have:=x.gx;omega
 rw[kn];simp[dE]
mutual
theorem Tree.ahw:∀x:Tree,x.jn.wt≤x.wt
 | .mk t s az ks=>by have:=YA [] ks;simp only[Tree.jn,Tree.wt,dE] at this ⊢;omega
theorem YA:∀(out l:List Tree),dE (Xc out l)≤dE out+dE l
 |out,[]=>by simp[Xc,dE]
 |out,x::r=>by
  have:=YA (push out x.jn) r;have:=aea out x.jn;have:=x.ahw;simp only[Xc,dE];omega
end
def ab' (l:List Tree):dE (Wf l)≤dE l:=by have:=YA [] l;simp only[dE] at this;unfold Wf;omega
end Go.Am
