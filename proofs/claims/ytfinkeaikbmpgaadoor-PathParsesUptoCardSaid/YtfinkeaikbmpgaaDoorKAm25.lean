import Derived.Test.YtfinkeaikbmpgaaDoorKAm15
import Derived.WalkKit
import Derived.ProofKit
import Derived.OpenShut
import Derived.Carry
import Derived.JoinedCond
import Derived.Deep.LoopGhost
set_option linter.unusedSimpArgs false
set_option linter.unusedVariables false
set_option linter.unnecessarySimpa false
set_option linter.defProp false
/- THE ABSTRACT MACHINE, part 25: what a reading of plain data gives. -/
namespace Go.Am
open Go Go.RowKit
inductive Sh (P:Program):TypeId→IV→Prop
 |b {t:TypeId} {x:Bool}:P.underlying t=some .bool→Sh P t (.bool x)
 |i {t:TypeId} {k:IntKind} {n:Int}:P.underlying t=some (.int k)→(Lit.int k n).wf=true→Sh P t (.int k n)
 |s {t:TypeId} {x:List UInt8}:P.underlying t=some .string→Sh P t (.str x)
 |l {t e:TypeId} {ys:List IV}:P.underlying t=some (.slice e)→(∀y∈ys,Sh P e y)→Sh P t (.list ys)
 |g {t:TypeId} {fs:Array Field} {ys:List IV}:P.underlying t=some (.struct fs)→ys.length=fs.size→(∀(j:Nat) (f:Field) (y:IV),fs[j]?=some f→ys[j]?=some y→Sh P f.type y)→Sh P t (.agg ys)
mutual
def IV.wt:IV→Nat
 | .bool _=>1
 | .int _ _=>1
 | .str s=>s.length+1
 | .list xs=>kQ xs+1
 | .agg cs=>kQ cs+1
 | .ifc _=>1
def kQ:List IV→Nat
 |[]=>0
 |x::r=>x.wt+kQ r
end
def r6 (P:Program) (t:TypeId):Bool:=
 match P.underlying t with
 |some .bool|some (.int _)|some .string|some (.slice _)=>true
 |_=>false
def yc (P:Program) (T:List TypeId) (t:TypeId):Bool:=
 match P.underlying t with
 |some .bool|some (.int _)|some .string=>true
 |some (.slice e)=>T.contains e&&decide (0<P.cellsOf e)
 |some (.struct fs)=>decide (P.cellsOf t=fs.size)&&(List.range fs.size).all fun j=>match fs[j]? with
  |some f=>T.contains f.type&&r6 P f.type&&decide (f.offset=j)&&decide (P.cellsOf f.type=1)
  |none=>false
 |_=>false
section
variable {H:Type} {enc:TypeId×Value→H} {P:Program} {w:World} {base:Nat} {spare:Nat→Bool} {held:Bool}
theorem iB {α β:Type} {f:α→Option β}:∀{l:List α} {r:List β},l.mapM f=some r→r.length=l.length∧∀(i:Nat) (x:α),l[i]?=some x→∃y,r[i]?=some y∧f x=some y
 |[],r,h=>by
  simp at h;subst h;exact⟨rfl,by simp⟩
 |a::l,r,h=>by
  rw[List.mapM_cons] at h;obtain⟨y,h1,h⟩:=Fv.1 h;obtain⟨s,h2,h⟩:=Fv.1 h;simp only[Option.pure_def,cQ] at h;subst h;obtain⟨e1,e2⟩:=iB h2;refine⟨by simp[e1],fun i x hx=> ?_⟩;cases i with
  |zero=>simp at hx;subst hx;exact⟨y,by simp,h1⟩
  |succ i=>obtain⟨z,q1,q2⟩:=e2 i x (by simpa using hx);exact⟨z,by simpa using q1,q2⟩
def qd {a:Addr} {n:Nat} {cs:List Value} (h:w.cells? base a n=some cs):cs.length=n∧∀i,i<n→∃v,cs[i]?=some v∧w.cell? (a.add i)=some v:=by
 unfold World.cells? at h;split at h
 ·obtain⟨h1,h2⟩:=iB h;refine⟨by simpa using h1,fun i hi=> ?_⟩;obtain⟨v,e1,e2⟩:=h2 i i (by simp[hi]);exact⟨v,e1,e2⟩
 simp at h
def qe {a:Addr} {v:Value} (h:w.cell? a=some v):a.spot=none∧a.block<w.heap.size:=by
 unfold World.cell? at h;split at h
 ·rename_i c t f e;split at h
  ·simp at h
  rename_i hs;exact⟨by simpa using hs,(FL.1 e).1⟩
 simp at h
structure Bk (H:Type) where
 bk:DataW H→Nat
 one:∀d,1≤bk d
 str:∀l,bk (.lit (.string l))=l.length+1
 sl:∀es sp,(es.map bk).sum+1≤bk (.slice es sp)
 ag:∀ps,(ps.map bk).sum+1≤bk (.agg ps)
theorem build {Q:Nat→IV→Prop}:∀(n:Nat),(∀i,i<n→∃y,Q i y)→∃ys:List IV,ys.length=n∧∀i y,ys[i]?=some y→Q i y
 |0,_=>⟨[],rfl,by simp⟩
 |n+1,h=>by
  obtain⟨ys,h1,h2⟩:=build n (fun i hi=>h i (by omega));obtain⟨y,hy⟩:=h n (by omega);refine⟨ys++[y],by simp[h1],fun i z hz=> ?_⟩;by_cases hi:i<n
  ·rw[FO (by omega)] at hz;exact h2 i z hz
  have:i=n:=by
   have:=(Fw.1 hz).1;simp at this;omega
  subst this;rw[FM (by omega),h1] at hz;simp at hz;subst hz;exact hy
theorem oi {α:Type} {g:α→Nat}:∀(ys:List IV) (xs:List α),ys.length=xs.length→(∀(i:Nat) (y:IV) (x:α),ys[i]?=some y→xs[i]?=some x→y.wt≤g x)→kQ ys≤(xs.map g).sum
 |[],[],_,_=>by simp[kQ]
 |y::ys,[],h,_=>by simp at h
 |[],x::xs,h,_=>by simp at h
 |y::ys,x::xs,h,hw=>by
  have h1:=hw 0 y x (by simp) (by simp);have h2:=oi ys xs (by simpa using h) (fun i y x hy hx=>hw (i+1) y x (by simpa using hy) (by simpa using hx));simp only[kQ,FY,List.sum_cons];omega
def read (B:Bk H) {T:List TypeId} (hT:∀t∈T,yc P T t=true):∀(fuel:Nat) (t:TypeId) (cs:List Value) (d:DataW H) (ps:List MemPlace),t∈T→DataW.trod enc P w base spare held fuel t cs=some (d,ps) →
  ∃y:IV,Sh P t y∧y.wt≤B.bk d∧y.cells.length=cs.length∧∀(j:Nat) (z:IV),y.cells[j]?=some z→∃v,cs[j]?=some v∧de w (fun _=>True) z v:=by
 intro fuel;induction fuel with
 |zero=>intro t cs d ps _ h;simp[DataW.trod] at h
 |succ fuel ih=>
 intro t cs d ps ht h;have jw:=hT t ht;unfold yc at jw;unfold DataW.trod at h;cases hu:P.underlying t with
 |none=>rw[hu] at jw;simp at jw
 |some u=>
 rw[hu] at jw h;cases u with
 |bool=>
  simp only at h;split at h<;>simp_all;rename_i b;obtain⟨rfl,rfl⟩:=h;exact⟨.bool b,.b hu,by simpa[IV.wt] using B.one _,by simp[IV.cells],fun j z hz=>by
   cases j<;>simp[IV.cells] at hz;subst hz;simp[de]⟩
 |int k=>
  simp only at h;split at h<;>simp_all;rename_i n _;obtain⟨⟨rfl,hw⟩,rfl,rfl⟩:=h;exact⟨.int _ n,.i hu hw,by simpa[IV.wt] using B.one _,by simp[IV.cells],fun j z hz=>by
   cases j<;>simp[IV.cells] at hz;subst hz;simp[de]⟩
 |string=>
  simp only at h;split at h<;>simp_all;rename_i x;obtain⟨hw,rfl,rfl⟩:=h;exact⟨.str x.data.toList,.s hu,by rw[B.str];simp[IV.wt],by simp[IV.cells],fun j z hz=>by
   cases j<;>simp[IV.cells] at hz;subst hz;simp[de]⟩
 |slice e=>
  simp only[FE,FV,GG] at jw;obtain⟨rB,xu⟩:=jw;have AA:e∈T:=by simpa using rB
  simp only at h;split at h<;>simp_all
  ·obtain⟨rfl,rfl⟩:=h;exact⟨.list [],.l hu (by simp),by simpa[IV.wt,kQ] using B.one _,by simp[IV.cells],fun j z hz=>by
    cases j<;>simp[IV.cells] at hz;subst hz;simp only[de];exact⟨_,rfl,none,0,rfl,FJ _,by simp[maxLen],.inl rfl⟩⟩
  rename_i _ _ e' a len cap _;obtain⟨⟨hb,BU,mr⟩,h⟩:=h;obtain⟨elems,he,h⟩:=Fv.1 h;obtain⟨rest,hr,h⟩:=Fu.1 h;simp only[FB] at h;obtain⟨rfl,rfl⟩:=h;obtain⟨hlen,fI⟩:=iB he;have AB:elems.length=len:=by simpa using hlen
  have bG:∀i,i<len→∃y:IV,Sh P e' y∧(∀x,elems[i]?=some x→y.wt≤B.bk x.1)∧y.cells.length=P.cellsOf e' ∧
    ∀(j:Nat) (z:IV),y.cells[j]?=some z→∃v,w.cell? ((a.add (i*P.cellsOf e')).add j)=some v∧de w (fun _=>True) z v:=by
   intro i hi;obtain⟨x,e1,e2⟩:=fI i i (by simp[hi]);obtain⟨cs,c1,c2⟩:=Fv.1 e2;obtain⟨cl,cg⟩:=qd c1;obtain⟨y,y1,y2,y3,y4⟩:=ih e' cs x.1 x.2 AA c2;refine⟨y,y1,fun x' AD=>by rw[e1] at AD;cases AD;exact y2,by rw[y3,cl],fun j z hz=> ?_⟩;obtain⟨v,v1,v2⟩:=y4 j z hz;have hj:j<P.cellsOf e':=by
    have:=(Fw.1 hz).1;omega
   obtain⟨v',u1,u2⟩:=cg j hj;rw[v1] at u1;cases u1;exact⟨v,u2,v2⟩
  obtain⟨ys,Co,r7⟩:=build len bG;refine⟨.list ys,.l hu (fun y hy=> ?_),?_,by simp[IV.cells],fun j z hz=> ?_⟩
  ·obtain⟨i,hi⟩:=Gl hy;exact(r7 i y hi).1
  ·have h1:=oi (g:=fun x:DataW H×List MemPlace=>B.bk x.1) ys elems (by omega) (fun i y x hy hx=>(r7 i y hy).2.1 x hx);have h2:=B.sl (elems.map fun x=>x.1) (rest.map fun x=>x.1);simp only[G6] at h2;simp only[IV.wt];exact G3 (HQ h1 1) h2
  cases j with
  |succ j=>simp[IV.cells] at hz
  |zero=>
  simp[IV.cells] at hz;subst hz;refine⟨_,rfl,?_⟩;simp only[de];refine⟨some a,cap,by rw[Co],by omega,mr,?_⟩;by_cases ze:len=0
  ·exact .inl (by omega)
  right;have xc:∀i j,i<len→j<P.cellsOf e'→∃v,w.cell? ((a.add (i*P.cellsOf e')).add j)=some v:=by
   intro i j hi hj;obtain⟨y,hy⟩:∃y,ys[i]?=some y:=⟨_,FF (by omega)⟩;obtain⟨_,_,q3,q4⟩:=r7 i y hy;obtain⟨v,v1,_⟩:=q4 j _ (FF (by omega));exact⟨v,v1⟩
  obtain⟨v0,Cp⟩:=xc 0 0 (by omega) xu;obtain⟨s1,s2⟩:=qe Cp;obtain⟨ab,ao,E_⟩:=a;simp only[Addr.add,GA,Gv] at s1 s2;subst s1;refine⟨ab,ao,P.cellsOf e',rfl,trivial,s2,xu,fu _ _ _ (fun k y hy=> ?_)⟩;obtain⟨_,_,q3,q4⟩:=r7 k y hy;rw[dB];refine⟨q3.symm,ft _ _ _ (fun j z hz=> ?_)⟩;obtain⟨v,v1,v2⟩:=q4 j z hz;rw[addr_add,addr_add] at v1;exact⟨v,v1,v2⟩
 |struct fs=>
  simp only[FE,FV] at jw;simp only at h;obtain⟨fh,jw⟩:=jw;rw[F3] at jw;split at h
  ·rename_i nO;obtain⟨xs,hx,h⟩:=Fu.1 h;simp only[FB] at h;obtain⟨rfl,rfl⟩:=h;obtain⟨hlen,fI⟩:=iB hx;have AB:xs.length=fs.size:=(by simpa using hlen);have bG:∀i,i<fs.size→∃y:IV,(∀f,fs[i]?=some f→Sh P f.type y)∧(∀x,xs[i]?=some x→y.wt≤B.bk x.1)∧∃v,cs[i]?=some v∧de w (fun _=>True) y v:=by
    intro i hi;have hf:=jw i (by simpa using hi);obtain⟨f,Cq⟩:∃f,fs[i]?=some f:=⟨_,Gf hi⟩;rw[Cq] at hf;simp only[FE,FV,GG] at hf;obtain⟨⟨⟨f1,f2⟩,f3⟩,f4⟩:=hf;obtain⟨x,e1,e2⟩:=fI i f (by simpa using Cq);rw[f3,f4] at e2;obtain⟨y,y1,y2,y3,y4⟩:=ih f.type _ x.1 x.2 (by simpa using f1) e2;have cx:y.cells=[y]:=by
     cases y1 with
     |g AE _ _=>unfold r6 at f2;rw[AE] at f2;simp at f2
     |_=>rfl
    refine⟨y,fun f' Bm=>by rw[Cq] at Bm;cases Bm;exact y1,fun x' AD=>by rw[e1] at AD;cases AD;exact y2,?_⟩;obtain⟨v,v1,v2⟩:=y4 0 y (by rw[cx];rfl);refine⟨v,?_,v2⟩;rw[FA] at v1;split at v1
    ·rw[F6] at v1;simpa using v1
    simp at v1
   obtain⟨ys,Co,r7⟩:=build fs.size bG;refine⟨.agg ys,.g hu Co (fun j f y hf hy=>(r7 j y hy).1 f hf),?_,by simp only[IV.cells];omega,fun j z hz=>(r7 j z hz).2.2⟩;have h1:=oi (g:=fun x:DataW H×List MemPlace=>B.bk x.1) ys xs (by omega) (fun i y x hy hx=>(r7 i y hy).2.1 x hx);have h2:=B.ag (xs.map fun x=>x.1);simp only[G6] at h2;simp only[IV.wt];exact G3 (HQ h1 1) h2
  simp at h
 |_=>simp at jw
end
end Go.Am

namespace Go.Am
open Go Go.RowKit Go.ChangeShapes
def BA:Nat→Option (List IV):=fun _=>none
def eM:Lb→Option Nat:=fun _=>none
def r8 (P:Program) (W:World):au (bO P BA W (fun _=>True) eM Hp.none) eM Env.any Hp.none jq W:=
 { defers := rfl,size := rfl
   ey:=fun n=>by simp[Env.any,RV]
   rows:=fun l r h=>by simp[Hp.none] at h
   own:=fun l g ⟨r,h⟩=>by simp[Hp.none] at h
   inj:=fun l l' g ⟨r,h⟩=>by simp[Hp.none] at h
   dp:=fun n=>by simp[Env.any,AV.ax]
   bL:=fun l r h=>by simp[Hp.none] at h
   frame:=⟨rfl,rfl,rfl,FJ _,fun _ _ _=>rfl,fun _ _ h=>h⟩
   eD:=fun l ⟨r,h⟩=>by simp[bO,Hp.none] at h
   fr:=fun l g ⟨r,h⟩=>by simp[Hp.none] at h
   eh:=fun g cs hg=>by simp[bO,BA] at hg}
def run_pure {P:Program} {f:Nat} {args:List AV} {res:AV} {vs:List Value} {W:World} (hp:aw P BA f args res) (hv:aI W eM Hp.none (fun _=>True) args vs) :
  Calls P f vs.toArray W fun e W'=>∃v,e= .returned v∧Below W.heap.size W W'∧RV W' eM Hp.none (fun _=>True) res v:=by
 have hI:∀k,Im (bO P BA W (fun _=>True) eM Hp.none) eM Hp.none k:=fun k=>⟨.inl trivial,fun l ⟨r,h⟩=>by simp[Hp.none] at h⟩;refine(iU (r8 P W) hp (aI.mono _ _ ?_ hv) trivial).mono ?_
 ·exact {im:=fun k _ hs=>⟨hI k,hs,rfl⟩,lb:=fun l _ ⟨r,h⟩=>by simp[Hp.none] at h}
 rintro e W' ⟨v,rfl,h1,h2⟩;refine⟨v,rfl,h1,RV.mono _ _ ?_ h2⟩;exact {im:=fun k _ hs=>⟨trivial,hs,rfl⟩,lb:=fun l _ ⟨r,h⟩=>by simp[Hp.none] at h}
section
variable {H:Type} {enc:TypeId×Value→H} {P:Program}
def l5 (P:Program) (t:TypeId):Bool:=P.readableRec t&&decide (t<P.types.size)
theorem gO (hl:laidOutB P=true) {W W':World} (hb:Below W.heap.size W W') {sp:Nat→Bool}:∀{ts:List TypeId} {vs:List Value} {ds:List (DataW H)} {ps:List MemPlace},ts.all (l5 P)=true →
  DataW.TrodAll enc P W 0 (fun _=>true) true ts vs ds ps→(∀x∈ps,x.block<W.heap.size)→(∀x∈ps,sp x.block=true)→DataW.TrodAll enc P W' 0 sp true ts vs ds ps
 |[],_,_,_,_,h,_,_=>by
  obtain⟨rfl,rfl,rfl⟩:=trodAll_nil h;rfl
 |t::ts,_,_,_,hr,h,cD,hs=>by
  obtain⟨v,Fa,d,Fb,a,b,rfl,rfl,rfl,h1,h2⟩:=trodAll_cons h;simp only[List.all_cons,FE,l5,FV] at hr;refine⟨a,b,WideElems.Trod_stays hl hr.1.1 hr.1.2 h1 (fun x hx=>hb.same (cD x (by simp[hx]))) (fun x hx=>hs x (by simp[hx])),?_,rfl⟩;exact gO hl hb hr.2 h2 (fun x hx=>cD x (by simp[hx])) (fun x hx=>hs x (by simp[hx]))
def r9 {f:Func} {s:ChangeSpec} {apart fresh handsOn again:Bool} {W W':World} {args:Array Value} {ds gs:List (DataW H)} {before:List MemPlace} {tb:TypeId} (hl:laidOutB P=true)
  (hr:f.params.toList.all (l5 P)=true) (mO:f.resultTypes=#[tb]) (BB:P.underlying tb=some .bool) (ng:s.vars=[]) (rq:s.fn H ds={results:=[.lit (.bool true)],args:=ds})
  (hW:DataW.Whole enc P f.params.toList s.vars apart W args.toList ds gs before) (hb:Below W.heap.size W W') :
  s.post enc P f apart fresh handsOn again W args (.bool true) W':=by
 have BC:=hW;have cD:=hW.lt;obtain⟨p,q,hA,hV,rfl,hz,hn⟩:=hW;rw[ng] at hV;obtain⟨rfl,rfl⟩:=trodVars_none hV;simp only[GF] at BC cD hz hn;have yd:s.fn H (ds++[])={results:=[.lit (.bool true)],args:=ds}:=by rw[GF];exact rq
 have o9:∀sp:Nat→Bool,(∀x∈p,sp x.block=true)→DataW.TrodAll enc P W' 0 sp true f.params.toList args.toList ds p:=fun sp hs=>gO hl hb hr hA cD hs;have jQ:∀(b:Nat) (sp:Nat→Bool) (hd:Bool),DataW.TrodAll enc P W' b sp hd f.resultTypes.toList ((Value.bool true).resultList f.resultTypes.size) [.lit (.bool true)] []:=by
  intro b sp hd;rw[mO];exact trodAll_cons_mk (shut_bool BB _) trodAll_mk0
 have Cp:∀sp:Nat→Bool,DataW.TrodVars enc P W' sp s.vars (s.fn H (ds++[])).vars []:=by
  intro sp;rw[ng,yd];rfl
 refine⟨ds,[],p,[],p,[],BC,by rw[yd];exact jQ _ _ _,by rw[yd];exact o9 _ (fun x hx=>by simpa using cD x hx),Cp _,hb.frame _,fun _=> ?_⟩;have El:DataW.TrodVars enc P W' (fun _=>true) s.vars [] []:=by rw[ng];rfl
 refine⟨ok_one mO rfl (okWide_bool_mk BB _),_,_,([]++p)++[],⟨[]++p,[],trodAll_append (o9 _ (fun _ _=>rfl)) (jQ _ _ _),El,by simp,?_,?_⟩,?_⟩
 ·intro b off hp;have zf:MemPlace.cell b off∈p:=by simpa using hp
  rw[hb.frozen (p:=⟨b,off,none⟩) (cD _ zf)];exact hz b off zf
 ·intro ha;simpa using hn ha
 intro x hx _;simpa using hx
end
end Go.Am

namespace Go.Am
open Go Go.RowKit Go.ChangeShapes
section
variable {H:Type} {enc:TypeId×Value→H} {P:Program}
theorem r_ {W:World}:∀(ys:List IV) (cs:List Value),ys.length=cs.length→(∀z∈ys,∀q,z≠ .agg q)→(∀(j:Nat) (z:IV),ys[j]?=some z→∃v,cs[j]?=some v∧de W (fun _=>True) z v) →
  aI W eM Hp.none (fun _=>True) (ys.map IV.dQ) cs
 |[],[],_,_,_=>by simp[aI]
 |[],v::cs,h,_,_=>by simp at h
 |y::ys,[],h,_,_=>by simp at h
 |y::ys,v::cs,h,hf,hg=>by
  obtain⟨v',h1,h2⟩:=hg 0 y (by simp);simp at h1;subst h1;refine⟨v,cs,rfl,?_,r_ ys cs (by simpa using h) (fun z hz=>hf z (by simp[hz])) (fun j z hz=>by simpa using hg (j+1) z (by simpa using hz))⟩;cases y with
  |agg q=>exact absurd rfl (hf _ (by simp) q)
  |_=>simpa[IV.dQ,RV,de] using h2
def ye (B:Bk H) {T:List TypeId} (hT:∀t∈T,yc P T t=true) {W:World} {t:TypeId} (ht:t∈T) {v:Value} {d:DataW H} {ps:List MemPlace} {r:Reach}
  {b0:Nat} (ko:Value.okWide P W r b0 t v) (h:DataW.Trod enc P W 0 (fun _=>true) true t v d ps) :
  ∃y:IV,Sh P t y∧y.wt≤B.bk d∧RV W eM Hp.none (fun _=>True) y.av v:=by
 obtain⟨fuel,h⟩:=h;obtain⟨y,h1,h2,h3,h4⟩:=read B hT fuel t _ d ps ht h;refine⟨y,h1,h2,?_⟩;have one:∀u:TypeDesc,P.underlying t=some u→(∀fs,u≠ .struct fs)→(∀n e,u≠ .array n e)→(∀cs,y≠ .agg cs)→RV W eM Hp.none (fun _=>True) y.av v:=by
  intro u hu hs ha hy;have hc:y.cells=[y]:=by cases y<;>first|rfl|exact absurd rfl (hy _)
  have hv:v.cells=#[v]:=by
   cases v with
   |agg cs=>
    unfold Value.okWide at ko;rw[hu] at ko;cases u<;>simp_all[Cell.okWide,Cell.ok]
   |_=>rfl
  rw[hc,hv] at h4;obtain⟨v',e1,e2⟩:=h4 0 y rfl;simp at e1;subst e1;cases y<;>first|(simpa[IV.av,IV.dQ,RV,de] using e2)|exact absurd rfl (hy _)
 cases h1 with
 |b hu=>exact one _ hu (by simp) (by simp) (by simp)
 |i hu _=>exact one _ hu (by simp) (by simp) (by simp)
 |s hu=>exact one _ hu (by simp) (by simp) (by simp)
 |l hu _=>exact one _ hu (by simp) (by simp) (by simp)
 |@g _ fs ys hu hl hf=>
 have jw:=hT t ht;unfold yc at jw;rw[hu] at jw;simp only[FE,FV,F3] at jw;unfold Value.okWide at ko;rw[hu] at ko;obtain⟨cs,rfl,fh,_⟩:=ko;simp only[IV.av,RV];refine⟨cs.toList,by simp,r_ ys _ (by simpa[IV.cells,Value.cells] using h3) ?_ (fun j z hz=>by simpa[Value.cells] using h4 j z (by simpa[IV.cells] using hz))⟩;intro z hz q e;obtain⟨j,hj⟩:=Gl hz;have v8:j<fs.size:=by rw[←hl];exact(Fw.1 hj).1
 obtain⟨f,Dl⟩:∃f,fs[j]?=some f:=⟨_,Gf v8⟩;have h5:=hf j f z Dl hj;have h6:=jw.2 j (by simpa using v8);rw[Dl] at h6;simp only[FE] at h6;have h7:=h6.1.1.2;subst e;cases h5 with
 |g AE _ _=>unfold r6 at h7;rw[AE] at h7;simp at h7
inductive AF (P:Program):List TypeId→List IV→Prop
 |nil:AF P [] []
 |cons {t:TypeId} {y:IV} {ts:List TypeId} {ys:List IV}:Sh P t y→AF P ts ys→AF P (t::ts) (y::ys)
theorem pd (B:Bk H) {T:List TypeId} (hT:∀t∈T,yc P T t=true) {W:World} {r:Reach} {b0:Nat}:∀{ts:List TypeId} {vs:List Value} {ds:List (DataW H)} {ps:List MemPlace},(∀t∈ts,t∈T) →
  (∀(j:Nat) (t:TypeId) (v:Value),ts[j]?=some t→vs[j]?=some v→Value.okWide P W r b0 t v)→DataW.TrodAll enc P W 0 (fun _=>true) true ts vs ds ps →
  ∃ys:List IV,AF P ts ys∧kQ ys≤(ds.map B.bk).sum∧aI W eM Hp.none (fun _=>True) (ys.map IV.av) vs
 |[],vs,ds,ps,_,_,h=>by
  obtain⟨rfl,rfl,rfl⟩:=trodAll_nil h;exact⟨[],.nil,by simp[kQ],by simp[aI]⟩
 |t::ts,vs,ds,ps,ht,hv,h=>by
  obtain⟨v,vs,d,ds,p,q,rfl,rfl,rfl,h1,h2⟩:=trodAll_cons h;obtain⟨y,k1,k2,k3⟩:=ye B hT (ht t (by simp)) (hv 0 t v rfl rfl) h1;obtain⟨ys,q1,q2,q3⟩:=pd B hT (fun t' h'=>ht t' (by simp[h'])) (fun j t' v' a b=>hv (j+1) t' v' (by simpa using a) (by simpa using b)) h2;exact⟨y::ys,.cons k1 q1,by simp only[kQ,FY,List.sum_cons];omega,by simp only[FY,aI];exact⟨v,vs,rfl,k3,q3⟩⟩
theorem jx {W:World} {b0:Nat} {sp:Nat→Bool} {hd:Bool}:∀{ts:List TypeId} {vs:List Value} {ds:List (DataW H)} {ps:List MemPlace},DataW.TrodAll enc P W b0 sp hd ts vs ds ps→ds.length=ts.length
 |[],vs,ds,ps,h=>by
  obtain⟨_,rfl,_⟩:=trodAll_nil h;rfl
 |t::ts,vs,ds,ps,h=>by
  obtain⟨v,vs,d,ds,p,q,rfl,rfl,rfl,_,h2⟩:=trodAll_cons h;simp[jx h2]
end
end Go.Am

namespace Go.Am
open Go Go.RowKit
def oj:List (Nat×AV)→Env
 |[]=>Env.any
 |(n,x)::r=>put (oj r) n x
def vq:oj []=Env.any:=rfl
def sa (n:Nat) (x:AV) (r:List (Nat×AV)):oj ((n,x)::r)=put (oj r) n x:=rfl
def iZ (ρ:Lb→Lb) (env:Env):List (Nat×AV)→Prop
 |[]=>True
 |(n,x)::r=>env n=bw ρ x∧iZ ρ env r
def sb (env:Env):List (Nat×AV)→Prop
 |[]=>True
 |(n,x)::r=>env n=x∧sb env r
theorem iZ.we {ρ:Lb→Lb} {env:Env}:∀{ps:List (Nat×AV)},iZ ρ env ps→∀n,oj ps n= .any∨env n=bw ρ (oj ps n)
 |[],_=>og ρ env
 |(n,x)::r,h=>hO h.1 (iZ.we h.2)
theorem sb.eql {env:Env}:∀{ps:List (Nat×AV)},sb env ps→iZ id env ps
 |[],_=>trivial
 |(n,x)::r,h=>⟨by rw[lZ];exact h.1,sb.eql h.2⟩
theorem l6 {H:Hp}:∀{ps:List (Nat×AV)},(∀l∈af (ps.map Prod.snd),H l≠ .unused)→∀n,∀l∈(oj ps n).ax,H l≠ .unused
 |[],_=>oh H
 |(n,x)::r,h=>hP (fun l hl=>h l (by simp[af,hl])) (l6 fun l hl=>h l (by simp only[FY,af,Fz];exact .inr hl))
def NF (H:Hp):Prop:=∀l:Lb,l.fresh=false→H l= .unused
def vt:NF Hp.none=True:=by simp[NF,Hp.none]
def yf (H:Hp) (n:Nat) (s:Slot):NF (bb H (.loc n) s)=NF H:=by
 apply propext;constructor
 ·intro h l hl;have:=h l hl;have fa:l≠ .loc n:=by rintro rfl;simp[Lb.fresh] at hl
  rwa[ai _ _ fa] at this
 exact yb
def jy {σ:Type} (S:St) (Q:eQ) (k:List It) (W:Env→Hp→σ→Prop) (μ:σ→Nat) (n:Nat):eQ:=fun e env H=>
 match e with
 | .normal=>∃s,μ s<n∧W env H s
 | .exit id=>match cy id k with
  |some k'=>go S Q k' env H
  |none=>Q (.exit id) env H
 | .ret=>Q .ret env H
 |_=>False
def kq {σ:Type} {S:St} {Q:eQ} {c:AC} {k:List It} {env:Env} {H:Hp} (E:σ→Env) (HH:σ→Hp) (W:Env→Hp→σ→Prop) (hW:∀env H s,W env H s→∃ρ,Wk ρ env H (E s) (HH s))
  (μ:σ→Nat) (s0:σ) (h0:W env H s0) (round:∀s,go S (jy S Q k W μ (μ s)) [.code c] (E s) (HH s)):kj S Q c k env H:=by
 intro K Cf hS c0 ck hc bG β a w hr;subst Cf;simp only[PH,Exit.then];obtain⟨ρ,h0⟩:=hW _ _ _ h0;refine wp_loop_ghost (fun n a w=>∃s β,μ s=n∧au K β (E s) (HH s) a w) (μ s0) ⟨s0,_,rfl,h0.rel hS hr⟩ ?_;rintro n a w ⟨s,β,rfl,hr⟩;have hs:=go_sound (K:=K) hS _ (ju [.code c]) [.code c] [.code c0] (FJ _) (.cons (.code hc) .nil) (E s) (HH s) (round s) β a w hr;simp only[PH,Exit.then] at hs;refine wp_mono hs ?_;rintro e a' w' ⟨env',H',β',hq,jP⟩;cases e with
 |normal=>
  obtain⟨s',cD,hw⟩:=hq;obtain⟨ρ',hw⟩:=hW _ _ _ hw;exact⟨μ s',cD,s',_,rfl,hw.rel hS jP⟩
 |exit id=>
  have hp:=fx (P:=K.P) (G:=K.G) (lift K Q) (id:=id) ck k bG;simp only[jy] at hq;show PH K.P (lift K Q) ck (.exit id) a' w';cases pY:cy id k with
  |some k'=>
   rw[pY] at hp hq;obtain⟨qN,e1,e2⟩:=hp;exact e2 a' w' (go_sound (K:=K) hS Q (ju k') k' qN (FJ _) e1 env' H' hq β' a' w' jP)
  |none=>
  rw[pY] at hp hq;exact hp a' w' ⟨env',H',β',hq,jP⟩
 |ret=>exact kl _ _ _ _ _ ⟨env',H',β',hq,jP⟩
 |goto l=>exact hq.elim
 |panic ch=>exact hq.elim
 |outgrown=>exact hq.elim
mutual
theorem kr (ρ:Lb→Lb):∀x:AV,x.ax=[]→bw ρ x=x
 | .sl ..,h| .slk ..,h| .ptr ..,h=>by simp[AV.ax] at h
 | .any,_| .un,_| .bool _,_| .int ..,_| .str _,_| .list _,_| .nil0,_| .fV,_| .ee,_| .lptr _,_=>by simp[bw]
 | .agg cs,h=>by simp only[AV.ax] at h;simp[bw,dY ρ cs h]
 | .dG cs,h=>by simp only[AV.ax] at h;simp[bw,dY ρ cs h]
 | .fn f fs cs,h=>by simp only[AV.ax,Hb] at h;simp[bw,dY ρ fs h.1,dY ρ cs h.2]
 | .ifc t x,h=>by simp only[AV.ax] at h;simp[bw,kr ρ x h]
theorem dY (ρ:Lb→Lb):∀xs:List AV,af xs=[]→bo ρ xs=xs
 |[],_=>by simp[bo]
 |x::r,h=>by simp only[af,Hb] at h;simp[bo,kr ρ x h.1,dY ρ r h.2]
end
def WD {σ:Type} (ps:σ→List (Nat×AV)) (env:Env) (H:Hp) (s:σ):Prop:=NF H∧sb env (ps s)
def i_ {σ:Type} {S:St} {Q:eQ} {c:AC} {k:List It} {env:Env} {H:Hp} (ps:σ→List (Nat×AV)) (μ:σ→Nat) (s0:σ) (hl:∀s,af ((ps s).map Prod.snd)=[]) (h0:WD ps env H s0)
  (round:∀s,go S (jy S Q k (WD ps) μ (μ s)) [.code c] (oj (ps s)) Hp.none):kj S Q c k env H:=
 kq (fun s=>oj (ps s)) (fun _=>Hp.none) (WD ps) (fun env H s ⟨h1,h2⟩=>⟨id,h2.eql.we,fun l r h=>by simp[Hp.none] at h,fun _ _ ⟨r,h⟩=>by simp[Hp.none] at h,l6 (by rw[hl];simp),fun l r h=>by simp[Hp.none] at h,
  fun l hl=>⟨fun h=>absurd (h1 l (Lb.ed hl)) h,fun _=>rfl⟩,fun l ⟨r,h⟩=>by simp[Hp.none] at h⟩) μ s0 h0 round
def ln:List (Lb×Row)→Hp
 |[]=>Hp.none
 |(l,r)::t=>bb (ln t) l (.live r)
def cP:List (Lb×Lb)→Lb→Lb
 |[],l=>l
 |(a,b)::t,l=>if l=a then b else cP t l
def jR (ρ:Lb→Lb) (H:Hp):List (Lb×Row)→Prop
 |[]=>True
 |(l,r)::t=>H (ρ l)= .live (cC ρ r)∧jR ρ H t
def yg (H:Hp) (ls:List Lb):Prop:=∀l:Lb,l.fresh=false→H l≠ .unused→l∈ls
def iC (ls:List Lb):yg Hp.none ls=True:=by simp[yg,Hp.none]
def jX (H:Hp) (n:Nat) (s:Slot) (ls:List Lb):yg (bb H (.loc n) s) ls=yg H ls:=by
 apply propext;constructor
 ·intro h l hl hu;have fa:l≠ .loc n:=by rintro rfl;simp[Lb.fresh] at hl
  exact h l hl (by rwa[ai _ _ fa])
 intro h l hl hu;have fa:l≠ .loc n:=by rintro rfl;simp[Lb.fresh] at hl
 rw[ai _ _ fa] at hu;exact h l hl hu
structure Cr (ls:List Lb) (ps:List (Nat×AV)) (rs:List (Lb×Row)) (env:Env) (H:Hp) (m:List (Lb×Lb)):Prop where
 nf:yg H ls
 e:iZ (cP m) env ps
 r:jR (cP m) H rs
 inj:(ls.map (cP m)).Nodup
 fr:∀l∈ls,(l.fresh=true→(cP m l).fresh=true)∧(l.fresh=false→cP m l=l)
def fz {rs:List (Lb×Row)}:∀{l:Lb} {r:Row},ln rs l= .live r→(l,r)∈rs:=by
 induction rs with
 |nil=>intro l r h;simp[ln,Hp.none] at h
 |cons p t ih=>
 obtain⟨l0,r0⟩:=p;intro l r h;simp only[ln,bb] at h;split at h
 ·next e=>cases h;subst e;simp
 exact Hi _ (ih h)
def iD {rs:List (Lb×Row)} {l:Lb} (h:l∈rs.map Prod.fst):ln rs l≠ .unused:=by
 induction rs with
 |nil=>simp at h
 |cons p t ih=>
 obtain⟨l0,r0⟩:=p;simp only[ln,bb];split
 ·simp
 next e=>exact ih (by simpa[e] using h)
theorem l7 {ρ:Lb→Lb} {H:Hp}:∀{rs:List (Lb×Row)},jR ρ H rs→∀{l:Lb} {r:Row},(l,r)∈rs→H (ρ l)= .live (cC ρ r)
 |[],_,_,_,h=>by simp at h
 |(l0,r0)::t,h,l,r,hm=>by
  simp only[FP,FB] at hm;rcases hm with⟨rfl,rfl⟩|hm
  ·exact h.1
  exact l7 h.2 hm
theorem fe {α β:Type} [DecidableEq β] {f:α→β}:∀{l:List α},(l.map f).Nodup→∀a∈l,∀b∈l,f a=f b→a=b
 |[],_,_,h,_,_,_=>by simp at h
 |x::l,hd,a,ha,b,hb,e=>by
  simp only[FY,List.nodup_cons,F2,not_exists,not_and] at hd;simp only[FP] at ha hb;rcases ha with rfl|ha<;>rcases hb with rfl|hb
  ·rfl
  ·exact absurd e.symm (hd.1 b hb)
  ·exact absurd e (hd.1 a ha)
  exact fe hd.2 a ha b hb e
def Cr.wk {ls:List Lb} {ps:List (Nat×AV)} {rs:List (Lb×Row)} {env:Env} {H:Hp} {m:List (Lb×Lb)} (h:Cr ls ps rs env H m) (kK:rs.map Prod.fst=ls) (hp:∀l∈af (ps.map Prod.snd),l∈ls)
  (hr:∀q∈rs,∀cs∈q.2.bN,∀l∈af cs,l∈ls):Wk (cP m) env H (oj ps) (ln rs):=by
 have vu:∀l,live (ln rs) l→l∈ls:=fun l ⟨r,h⟩=>by rw[←kK];exact F2.2 ⟨_,fz h,rfl⟩
 refine⟨h.e.we,fun l r hl=>l7 h.r (fz hl),fun l l' h1 h2 e=>fe h.inj l (vu l h1) l' (vu l' h2) e,l6 fun l hl=>iD (by rw[kK];exact hp l hl),fun l r hl cs bt q hq=> ?_,fun l hf=>⟨fun hu=> ?_,fun hl=>(h.fr l (vu l hl)).2 (Lb.ed hf)⟩,fun l hl hf=>(h.fr l (vu l hl)).1 hf⟩
 ·exact iD (by rw[kK];exact hr _ (fz hl) cs bt q hq)
 exact iD (by rw[kK];exact h.nf l (Lb.ed hf) hu)
section
variable {σ:Type} {S:St} {Q:eQ} {k:List It} {W:Env→Hp→σ→Prop} {μ:σ→Nat} {n:Nat} {env:Env} {H:Hp}
def Cs:jy S Q k W μ n .normal env H=∃s,μ s<n∧W env H s:=rfl
theorem Ct (id:Nat):jy S Q k W μ n (.exit id) env H=match cy id k with
 |some k'=>go S Q k' env H
 |none=>Q (.exit id) env H:=rfl
def Cu:jy S Q k W μ n .ret env H=Q .ret env H:=rfl
def vv:sb env []=True:=rfl
def sc (n:Nat) (x:AV) (r:List (Nat×AV)):sb env ((n,x)::r)=(env n=x∧sb env r):=rfl
end
def Cv (env:Env) (n:Nat):ev env (.t n)=env n:=rfl
def Cw (env:Env) (x:AV):ev env (.c x)=x:=rfl
def yh (n:Nat) (h:n≤4000):(n≤maxLen)=True:=by simp[maxLen];omega

def yi (b:Bool) (A B:Prop) (u:Tp A B):cK (.bool (!b)) A B u=cK (.bool b) B A .mk:=by cases b<;>simp[cK]
def yj (b t:Bool) (A B:Prop) (u:Tp A B):gB (.bool (!b)) t A B u=gB (.bool b) (!t) A B .mk:=by cases b<;>cases t<;>simp[gB]
def pe (args:List AV) (n:Nat):kO args n=args.getD n .un:=rfl
def pf (l:Lb):Hp.none l= .unused:=rfl
def yk (n:Nat):Env.any n= .any:=rfl
def AG {σ:Type} (ps:σ→List (Nat×AV)) (env:Env) (H:Hp) (s:σ):WD ps env H s=(NF H∧sb env (ps s)):=rfl
def qf (cs:List IV):(IV.agg cs).cells=cs:=rfl
def AH (b:Bool):(false ^^ b)=b:=by cases b<;>rfl
def AI (b:Bool):(true ^^ b)= !b:=by cases b<;>rfl
def yl:=And.intro @List.getD_cons_zero.{0} (And.intro @List.getD_cons_succ.{0} (And.intro @List.length_map.{0,0} (And.intro @List.length_cons.{0} (And.intro @List.length_nil.{0} (And.intro @al (And.intro @List.getElem?_cons_zero.{0} (And.intro @List.getElem?_cons_succ.{0} (And.intro @Option.bind_some.{0,0} (And.intro @Option.map_some.{0,0} (And.intro @List.map_cons.{0,0} (And.intro @List.map_nil.{0,0} (And.intro @Gb (And.intro @FQ (And.intro @List.all_cons.{0} (And.intro @List.all_nil.{0} (And.intro @List.take_succ_cons.{0} (And.intro @List.take_zero.{0} (And.intro @List.drop_succ_cons.{0} (And.intro @List.drop_zero.{0} (And.intro @List.cons_append.{0} (And.intro @List.nil_append.{0} (And.intro @List.append_nil.{0} (And.intro @List.set_cons_zero.{0} (And.intro @List.set_cons_succ.{0} (And.intro @List.take_nil.{0} (And.intro @List.drop_nil.{0} (And.intro @List.replicate_one.{0} (And.intro @List.flatten_cons.{0} (And.intro @List.flatten_nil.{0} (And.intro @pe (And.intro @pf (And.intro @yk (And.intro @Cv (And.intro @Cw (And.intro @Cs (And.intro @Ct (And.intro @Cu (And.intro @vq (And.intro @sa (And.intro @vv (And.intro @sc (And.intro @vt (And.intro @yf (And.intro @yi (And.intro @yj (And.intro @AG (And.intro @qf (And.intro @AH @AI))))))))))))))))))))))))))))))))))))))))))))))))
def Em:=And.intro @GA (And.intro @F1 (And.intro @Nat.mul_one (And.intro @FJ (And.intro @yh (And.intro @HU (And.intro @Hw (And.intro @Hx (And.intro @Ge (And.intro @F8 (And.intro @Bool.not_not (And.intro @Gp (And.intro @Ig (And.intro @FR (And.intro @implies_true.{1} (And.intro @false_implies (@List.mem_cons.{0}))))))))))))))))
def Cx (x:AV) (k:AV→Prop) (_:Tv k):Prop:=∃R,ud x=some R∧∀m,R m→m≤maxLen→k (.int .i64 (m:Int))
def Dm (S:St) (f:Nat) (args:List AV) (H:Hp) (k:AV→Prop) (_:Tv k):Prop:=∃res,kL S f args H res∧k res
section
variable {S:St} {Q:eQ} {env:Env} {H:Hp}
def ym (d:Option Nat) (x:O) (k:AV→Hp→Prop):aH S d (.cap x) env H k=Cx (ev env x) (fun y=>k y H) .mk:=rfl
def yn (d:Option Nat) (s x:O) (sz:Nat) (k:AV→Hp→Prop):aH S d (.mB s x sz) env H k=pK (n8 sz (ev env s) (ev env x) H) k .mk:=rfl
def yo (d:Option Nat) (x:O) (sz:Nat) (z:List AV) (k:AV→Hp→Prop):aH S d (.nM x sz z) env H k=hK (n9 sz z (ev env x) H) (fun H'=>k (.dG []) H') .mk:=rfl
def yp (q:Nat) (n c:O) (sz b:Nat) (z:List AV) (k:AV→Hp→Prop):aH S (some q) (.nR n c sz b z) env H k=pK (mK sz b q z (ev env n) (ev env c) H) k .mk:=by
 simp[aH,pK]
def sd (d:Option Nat) (f:Nat) (args:List O) (k:AV→Hp→Prop):aH S d (.fj f args) env H k=Dm S f (args.map (ev env)) H (fun y=>k y H) .mk:=rfl
def vw d x n sz (k:AV→Hp→Prop):aH S d (.lM x n sz) env H k=bz (aa (.lM x n sz) env) (fun x=>k x H) .mk:=rfl
def vy d s x sz b (k:AV→Hp→Prop):aH S d (.kJ s x sz b) env H k=bz (aa (.kJ s x sz b) env) (fun x=>k x H) .mk:=rfl
def se d x n sz (k:AV→Hp→Prop):aj S .no d (.lM x n sz) env H k=bz (aa (.lM x n sz) env) (fun x=>k x H) .mk:=by simp only[aj,Quiet,bz,FR]
def sf d s x sz b (k:AV→Hp→Prop):aj S .no d (.kJ s x sz b) env H k=bz (aa (.kJ s x sz b) env) (fun x=>k x H) .mk:=by simp only[aj,Quiet,bz,FR]
def yq (R W:List Lb) (d:Option Nat) (s x:O) (sz:Nat) (k:AV→Hp→Prop):aj S (.rw R W) d (.mB s x sz) env H k =
  pK (n8 sz (ev env s) (ev env x) H) (fun y H'=>(∀l∈dH (ev env x),l.fZ∈R∨l.fZ∈W)∧(∀l∈dH (ev env s),l.fZ∈W)∧k y H') .mk:=by
 simp only[aj,b7,bx,ak,pK]
def yr (R W:List Lb) (d:Option Nat) (x:O) (sz:Nat) (z:List AV) (k:AV→Hp→Prop):aj S (.rw R W) d (.nM x sz z) env H k =
  hK (n9 sz z (ev env x) H) (fun H'=>(∀l∈dH (ev env x),l.fZ∈W)∧k (.dG []) H') .mk:=by
 apply propext;simp only[aj,b7,bx,ak,hK];constructor
 ·rintro⟨x1,H',h1,_,h2,h3⟩;obtain⟨H2,h5,h4⟩:=Fu.1 h1;simp only[FB] at h4;obtain⟨rfl,rfl⟩:=h4;exact⟨H2,h5,h2,h3⟩
 rintro⟨H2,h1,h2,h3⟩;exact⟨.dG [],H2,by rw[h1];rfl,by simp,h2,h3⟩
def vz (q:Nat) (s n:O) (sz b:Nat) (z:List AV) (k:AV→Hp→Prop):aH S (some q) (.lN s n sz b z) env H k=pK (o5 sz b q z (ev env s) (ev env n) H) k .mk:=by
 simp[aH,pK]
def sg (q:Nat) (sz:Nat) (z:List AV) (ps:List (Nat×O)) (k:AV→Hp→Prop):aH S (some q) (.et sz z ps) env H k=pK (n_ sz q z (ps.map fun p=>(p.1,ev env p.2)) H) k .mk:=by
 simp[aH,pK]
def sh (R W:List Lb) (q:Nat) (sz:Nat) (z:List AV) (ps:List (Nat×O)) (k:AV→Hp→Prop):aj S (.rw R W) (some q) (.et sz z ps) env H k =
  pK (n_ sz q z (ps.map fun p=>(p.1,ev env p.2)) H) (fun y H'=>Lb.loc q∈W∧k y H') .mk:=by
 simp[aj,b7,bx,ak,pK,Lb.fZ]
def yt d f qs cs (k:AV→Hp→Prop):aH S d (.tx f qs cs) env H k=bz (aa (.tx f qs cs) env) (fun x=>k x H) .mk:=rfl
def vA d f qs cs (k:AV→Hp→Prop):aj S .no d (.tx f qs cs) env H k=bz (aa (.tx f qs cs) env) (fun x=>k x H) .mk:=by simp only[aj,Quiet,bz,FR]
def yu (d:Option Nat) (i:a8) (k:AV→Hp→Prop):aj S .all d i env H k=aH S d i env H k:=rfl
def Cy (S:St) (F:List Lb) (f:Nat) (args:List AV) (H:Hp) (k:AV→Hp→Prop) (_:Tw k):Prop:=Ar S F f args H k
def yv (F:List Lb) (d:Option Nat) (f:Nat) (args:List O) (k:AV→Hp→Prop):aj S (.mU F) d (.call f args) env H k=Cy S F f (args.map (ev env)) H k .mk:=rfl
def si {f:Nat} {args:List AV} {res:AV} {k:AV→Prop} (h:kL S f args H res) (hk:k res) {u:Tv k}:Dm S f args H k u:=⟨res,h,hk⟩
end
def En:=And.intro @vz<|And.intro @sg<|And.intro @sh<|And.intro @yt<|And.intro @vA<|And.intro @ym (And.intro @yn (And.intro @yo (And.intro @yp (And.intro @sd (And.intro @vw (And.intro @vy (And.intro @se (And.intro @sf (And.intro @yq (And.intro @yr<|And.intro @yv @yu))))))))))
def aX:=And.intro rZ<|And.intro En<|And.intro cV<|And.intro cW<|And.intro @dI<|And.intro @cX<|And.intro @eL<|And.intro @eJ @eK
def mP:=And.intro Lb.loc.injEq<|And.intro Lb.par.injEq<|And.intro Lb.gen.injEq<|And.intro @oQ<|And.intro @oR<|And.intro @oS<|And.intro @mA<|And.intro Gt<|And.intro Int.le_refl Int.toNat_zero
def mX:=And.intro Dj (And.intro yl (And.intro Em (And.intro mP (And.intro @qa.eq_1 (And.intro @aa.eq_1 (And.intro @aa.eq_2 (And.intro @aa.eq_3 (And.intro @aa.eq_4 (And.intro @aa.eq_5 (And.intro @aa.eq_6 (And.intro @aa.eq_7 (And.intro @aa.eq_8 (And.intro @aa.eq_9 (And.intro @aa.eq_10 (And.intro @aa.eq_11 (And.intro @aa.eq_12 (And.intro @aa.eq_13 (And.intro @aa.eq_14 (And.intro @aa.eq_15 (And.intro @aa.eq_16 (And.intro @aa.eq_17 (And.intro @aa.eq_18 (And.intro @aa.eq_19 (And.intro @aa.eq_20 (And.intro @aa.eq_21 (And.intro @aa.eq_22 (And.intro @aa.eq_23 (And.intro @aa.eq_24 (And.intro @aa.eq_25 (And.intro @aa.eq_26 (And.intro @aa.eq_27 (And.intro @aa.eq_28 (And.intro @aa.eq_29 (And.intro @aa.eq_30 (And.intro @aa.eq_31 (And.intro @aa.eq_32 (And.intro @aa.eq_33 (And.intro @aa.eq_34 (And.intro @aa.eq_35 (And.intro @aa.eq_36 (And.intro @b6.eq_1 (And.intro @b6.eq_2 (And.intro @b6.eq_3 (And.intro @b6.eq_4 (And.intro @b6.eq_5 (And.intro @b6.eq_6 (And.intro @b6.eq_7 (And.intro @b6.eq_8 (And.intro @b6.eq_9 (And.intro @b6.eq_10 (And.intro @b6.eq_11 (And.intro @b6.eq_12 (And.intro @b6.eq_13 (And.intro @b6.eq_14 (And.intro @b6.eq_15 (And.intro @b6.eq_16 (And.intro @b6.eq_17 (And.intro @b6.eq_18 (And.intro @b6.eq_19 (And.intro @b6.eq_20 (And.intro @b6.eq_21 (And.intro @b6.eq_22 (And.intro @cN.eq_1 (And.intro @cN.eq_2 (And.intro @eF.eq_1 (And.intro @eF.eq_2 (And.intro @wv.eq_1 (And.intro @wv.eq_2 (And.intro @wv.eq_3 (And.intro @dH.eq_1 (And.intro @dH.eq_2 (And.intro @dH.eq_3 (And.intro @dH.eq_4 (And.intro @l4.eq_1 (And.intro @l4.eq_2 (And.intro @l4.eq_3 (And.intro @dD.eq_1 (And.intro @dD.eq_2 (And.intro @chunks.eq_1 (And.intro @chunks.eq_2 (And.intro @mC.eq_1 (And.intro @mC.eq_2 (And.intro @tK.eq_1 (And.intro @tK.eq_2 (And.intro @AV.cells.eq_1 (And.intro @AV.cells.eq_2 (And.intro @AV.nX.eq_1 (And.intro @AV.nX.eq_2 (And.intro @AV.one.eq_1 (And.intro @AV.one.eq_2 (And.intro @AV.one.eq_3 (And.intro @AV.one.eq_4 (And.intro @AV.one.eq_5 (And.intro @IV.dQ.eq_1 (And.intro @IV.dQ.eq_2 (And.intro @IV.dQ.eq_3 (And.intro @IV.dQ.eq_4 (And.intro @IV.dQ.eq_5 (And.intro @Lb.app.eq_1 (And.intro @Lb.fresh.eq_1 (And.intro @Lb.fresh.eq_2 (And.intro @Lb.fresh.eq_3 (And.intro @AV.iv.eq_1 (And.intro @AV.iv.eq_2 (And.intro @AV.iv.eq_3 (And.intro @AV.iv.eq_4 (And.intro @AV.iv.eq_5 (And.intro @AV.iv.eq_6 (And.intro @if_true.{1} (And.intro @if_false.{1} (And.intro @List.not_mem_nil.{0} (And.intro @forall_eq.{1} (And.intro @beq_self_eq_true.{0} @List.isEmpty_nil.{0})))))))))))))))))))))))))))))))))))))))))))))))))))))))))))))))))))))))))))))))))))))))))))))))))))))))))))))))))
def lX:=And.intro @ev.eq_1 (And.intro @ev.eq_2 (And.intro @pe (And.intro @List.getD_cons_zero.{0} (And.intro @List.getD_cons_succ.{0} (And.intro @Gp (And.intro @Ig (And.intro @List.length_map.{0,0} (And.intro @List.length_cons.{0} (And.intro @List.length_nil.{0} (And.intro @al (And.intro @Lb.loc.injEq (And.intro @List.getElem?_cons_zero.{0} (And.intro @List.getElem?_cons_succ.{0} (And.intro @Option.bind_some.{0,0} (And.intro @Option.map_some.{0,0} (And.intro @List.map_cons.{0,0} (And.intro @List.map_nil.{0,0} (And.intro @Gb (And.intro @FQ (And.intro @List.all_cons.{0} (And.intro @List.all_nil.{0} (And.intro @HU (And.intro @Hw (And.intro @Hx (And.intro @List.take_succ_cons.{0} (And.intro @List.take_zero.{0} (And.intro @List.drop_succ_cons.{0} (And.intro @List.drop_zero.{0} (And.intro @List.cons_append.{0} (And.intro @List.nil_append.{0} (And.intro @List.append_nil.{0} (And.intro @List.set_cons_zero.{0} (And.intro @oQ (And.intro @oR (And.intro @oS (And.intro @mA (And.intro @Gt (And.intro @List.mem_cons.{0} (And.intro @FR (And.intro @false_implies (And.intro @implies_true.{1} (And.intro @pf (And.intro @FJ (And.intro @List.set_cons_succ.{0} (And.intro @List.replicate_one.{0} (And.intro @List.flatten_cons.{0} (And.intro @List.flatten_nil.{0} (And.intro @GA (And.intro @F1 @Nat.mul_one)))))))))))))))))))))))))))))))))))))))))))))))))
def lK:=And.intro Dj (And.intro @qa.eq_1 (And.intro @aa.eq_1 (And.intro @aa.eq_2 (And.intro @aa.eq_3 (And.intro @aa.eq_4 (And.intro @aa.eq_5 (And.intro @aa.eq_6 (And.intro @aa.eq_7 (And.intro @aa.eq_8 (And.intro @aa.eq_9 (And.intro @aa.eq_10 (And.intro @aa.eq_11 (And.intro @aa.eq_12 (And.intro @aa.eq_13 (And.intro @aa.eq_14 (And.intro @aa.eq_15 (And.intro @aa.eq_16 (And.intro @aa.eq_17 (And.intro @aa.eq_18 (And.intro @aa.eq_19 (And.intro @aa.eq_20 (And.intro @aa.eq_21 (And.intro @aa.eq_22 (And.intro @aa.eq_23 (And.intro @aa.eq_24 (And.intro @aa.eq_25 (And.intro @aa.eq_26 (And.intro @aa.eq_27 (And.intro @aa.eq_28 (And.intro @aa.eq_29 (And.intro @aa.eq_30 (And.intro @aa.eq_31 (And.intro @aa.eq_32 (And.intro @aa.eq_33 (And.intro @aa.eq_34 (And.intro @aa.eq_35 (And.intro @aa.eq_36 (And.intro @b6.eq_1 (And.intro @b6.eq_2 (And.intro @b6.eq_3 (And.intro @b6.eq_4 (And.intro @b6.eq_5 (And.intro @b6.eq_6 (And.intro @b6.eq_7 (And.intro @b6.eq_8 (And.intro @b6.eq_9 (And.intro @b6.eq_10 (And.intro @b6.eq_11 (And.intro @b6.eq_12 (And.intro @b6.eq_13 (And.intro @b6.eq_14 (And.intro @b6.eq_15 (And.intro @b6.eq_16 (And.intro @b6.eq_17 (And.intro @b6.eq_18 (And.intro @b6.eq_19 (And.intro @b6.eq_20 (And.intro @b6.eq_21 (And.intro @b6.eq_22 (And.intro @cN.eq_1 (And.intro @cN.eq_2 (And.intro @eF.eq_1 (And.intro @eF.eq_2 (And.intro @wv.eq_1 (And.intro @wv.eq_2 (And.intro @wv.eq_3 (And.intro @dH.eq_1 (And.intro @dH.eq_2 (And.intro @dH.eq_3 (And.intro @dH.eq_4 (And.intro @l4.eq_1 (And.intro @l4.eq_2 (And.intro @l4.eq_3 (And.intro @dD.eq_1 (And.intro @dD.eq_2 (And.intro @chunks.eq_1 (And.intro @chunks.eq_2 (And.intro @mC.eq_1 (And.intro @mC.eq_2 (And.intro @tK.eq_1 (And.intro @tK.eq_2 (And.intro @AV.cells.eq_1 (And.intro @AV.cells.eq_2 (And.intro @AV.nX.eq_1 (And.intro @AV.nX.eq_2 (And.intro @AV.one.eq_1 (And.intro @AV.one.eq_2 (And.intro @AV.one.eq_3 (And.intro @AV.one.eq_4 (And.intro @AV.one.eq_5 (And.intro @IV.dQ.eq_1 (And.intro @IV.dQ.eq_2 (And.intro @IV.dQ.eq_3 (And.intro @IV.dQ.eq_4 (And.intro @IV.dQ.eq_5 (And.intro @Lb.app.eq_1 (And.intro @Lb.fresh.eq_1 (And.intro @Lb.fresh.eq_2 (And.intro @Lb.fresh.eq_3 (And.intro @AV.iv.eq_1 (And.intro @AV.iv.eq_2 (And.intro @AV.iv.eq_3 (And.intro @AV.iv.eq_4 (And.intro @AV.iv.eq_5 (And.intro @AV.iv.eq_6 (And.intro @if_true.{1} (And.intro @if_false.{1} (And.intro @List.not_mem_nil.{0} @forall_eq.{1}))))))))))))))))))))))))))))))))))))))))))))))))))))))))))))))))))))))))))))))))))))))))))))))))))))))))))))

open Classical in
noncomputable def ek (kp:Lb→Prop) (H:Hp):Hp:=fun l=>match H l with
 | .live r=>if kp l then .live r else .dead
 |s=>s
def dZ {kp:Lb→Prop} {H:Hp} {l:Lb} {r:Row}:ek kp H l= .live r↔H l= .live r∧kp l:=by
 unfold ek;cases h:H l with
 |live r'=>
  by_cases hk:kp l
  ·simp[hk]
  simp[hk]
 |unused=>simp
 |dead=>simp
def ez {kp:Lb→Prop} {H:Hp} {l:Lb}:ek kp H l= .unused↔H l= .unused:=by
 unfold ek;cases h:H l with
 |live r'=>
  by_cases hk:kp l
  ·simp[hk]
  simp[hk]
 |unused=>simp
 |dead=>simp
section
variable {K:Kx} {β:Lb→Option Nat} {env:Env} {H:Hp} {a:Act} {w:World}
def au.ek (hr:au K β env H a w) (kp:Lb→Prop):au K β env (Am.ek kp H) a w:=by
 have:=hr.pN id (env2:=env) (H2:=Am.ek kp H) (fun n=> .inr (lZ _).symm) (fun l r h=>by rw[l3];exact(dZ.1 h).1) (fun _ _ _ _ h=>h)
  (fun n l hl=>by rw[Ne,ez];exact hr.dp n l hl) (fun l r h cs bt q hq=>by rw[Ne,ez];exact hr.bL l r (dZ.1 h).1 cs bt q hq)
  (fun l hl=>⟨by rw[Ne,ez];exact(hr.eD l hl).1,fun _=>rfl⟩) (fun _ _ h=>h)
 exact this
def sj {K:Kx} {β:Lb→Option Nat} {H:Hp} (kp:Lb→Prop) {k:Nat} (h:Im K β H k):Im K β (Am.ek kp H) k:=
 ⟨h.1,fun l ⟨r,hl⟩=>h.2 l ⟨r,(dZ.1 hl).1⟩⟩
def RV.ek {w:World} {β:Lb→Option Nat} {H:Hp} {x:AV} {v:Value} (kp:Lb→Prop) (h:RV w β H (Im K β H) x v):RV w β (Am.ek kp H) (Im K β (Am.ek kp H)) x v:=
 RV.mono x v {im:=fun k hk hs=>⟨sj kp hk,hs,rfl⟩,lb:=fun l _ ⟨r,hl⟩=>⟨⟨r,(dZ.1 hl).1⟩,rfl,fun _ _ _ h=>h⟩} h
end
def dT.ca {P:Program} {G:Nat→Option (List IV)} {f:Nat} {args:List AV} {H:Hp} {Q:AV→Hp→Prop} (h:dT P G f args H Q) (kp:Lb→Prop) :
  dT P G f args H fun x H'=>∃H1,Q x H1∧H'=ek kp H1:=by
 intro w A β vs hr hv;refine(h w A β vs hr hv).mono ?_;rintro e w' ⟨v,x,H1,β',rfl,hq,jP,hx,hm⟩;exact⟨v,x,ek kp H1,β',rfl,⟨H1,hq,rfl⟩,jP.ek kp,hx.ek kp,fun l hl=>by rw[Ne,ez];exact hm l hl⟩
def hQ (cs:List AV):Hp:=bb Hp.none (.par 0) (.live ⟨cs.length,[cs]⟩)
def jS (P:Program) (G:Nat→Option (List IV)) (f:Nat) (args:List AV) (cs:List AV) (R:AV→List AV→Prop):Prop:=
 (∀l∈af args,l= .par 0)∧af cs=[]∧dT P G f args (hQ cs) fun x H'=>∃gS,R x gS∧x.ax=[]∧af gS=[]∧gS.length=cs.length∧H' (.par 0)= .live ⟨cs.length,[gS]⟩
def zt (l:Lb):Lb→Lb:=fun q=>if q= .par 0 then l else q
def gy {S:St} {f:Nat} {args cb:List AV} {cs:List AV} {R:AV→List AV→Prop} {H:Hp} {k:AV→Hp→Prop} {u:Tw k} {l:Lb} (h:jS S.P S.G f cb cs R)
  (ha:args=bo (zt l) cb) (hl:H l= .live ⟨cs.length,[cs]⟩) (hk:∀x gS,R x gS→x.ax=[]→af gS=[]→gS.length=cs.length→k x (bb H l (.live ⟨cs.length,[gS]⟩))):Aw S f args H k u:=by
 obtain⟨h1,h2,h3⟩:=h;have aF:∀q r,hQ cs q= .live r→q= .par 0∧r=⟨cs.length,[cs]⟩:=by
  intro q r h;by_cases e:q= .par 0
  ·subst e;simp[hQ] at h;exact⟨rfl,h.symm⟩
  rw[hQ,ai _ _ e] at h;simp[Hp.none] at h
 refine .inr<| .inr ⟨⟨zt l,hQ cs,cb,_,h3.ca (fun q=>q= .par 0),ha,?_,?_,?_,?_,?_,?_,?_⟩⟩
 ·intro q r h;obtain⟨rfl,rfl⟩:=aF q r h;simp only[zt,Gv,hl,Slot.live.injEq,cC,Row.mk.injEq,FY,List.map_nil,Gp,GH,Ig];exact(dY _ _ h2).symm
 ·intro q hq;by_cases e:q= .par 0
  ·subst e;exact⟨_,by simp[hQ];rfl⟩
  rw[hQ,ai _ _ e] at hq;simp[Hp.none] at hq
 ·rintro q q' ⟨r,h⟩ ⟨r',h'⟩ _;rw[(aF q r h).1,(aF q' r' h').1]
 ·intro q hq;rw[h1 q hq];simp[hQ]
 ·rintro q ⟨r,h⟩;rw[(aF q r h).1];rfl
 ·intro q r h c hc z hz;obtain⟨rfl,rfl⟩:=aF q r h;simp only[FN] at hc;subst hc;rw[h2] at hz;simp at hz
 rintro x H' ⟨H1,⟨gS,e1,e2,e3,e4,e5⟩,rfl⟩;have hH:∀q r,ek (fun q=>q= .par 0) H1 q= .live r→q= .par 0∧r=⟨cs.length,[gS]⟩:=by
  intro q r h;obtain⟨g1,rfl⟩:=dZ.1 h;rw[e5] at g1;cases g1;exact⟨rfl,rfl⟩
 have Eo:ek (fun q=>q= .par 0) H1 (.par 0)= .live ⟨cs.length,[gS]⟩:=dZ.2 ⟨e5,rfl⟩;refine⟨zt l,bb H l (.live ⟨cs.length,[gS]⟩),fun _ _ _=>rfl,?_,?_,?_,?_,?_,?_,?_,?_⟩
 ·intro q r h;by_cases e:q=l
  ·subst e;simp at h;refine .inr ⟨.par 0,_,Eo,by simp[zt],?_⟩;rw[←h];simp only[cC,Row.mk.injEq,FY,List.map_nil,Gp,GH,Ig];exact(dY _ _ e3).symm
  rw[ai _ _ e] at h;refine .inl ⟨h,?_⟩;rintro z ⟨r',hz⟩;rw[(aF z r' hz).1];simp only[zt,Gv];exact GP e
 ·rintro q q' ⟨r,h⟩ ⟨r',h'⟩ _;rw[(hH q r h).1,(hH q' r' h').1]
 ·intro q hq;by_cases e:q=l
  ·subst e;simp
  rw[ai _ _ e];exact hq
 ·intro q hq;rw[e2] at hq;simp at hq
 ·intro q r h c hc z hz;obtain⟨rfl,rfl⟩:=hH q r h;simp only[FN] at hc;subst hc;rw[e3] at hz;simp at hz
 ·rintro q ⟨r,h⟩;obtain⟨rfl,rfl⟩:=hH q r h;exact .inl ⟨_,by simp[hQ];rfl⟩
 ·rintro q (hq|⟨l1,r1,c,g1,g2,g3⟩) _
  ·rw[e2] at hq;simp at hq
  obtain⟨rfl,rfl⟩:=hH l1 r1 g1;simp only[FN] at g2;subst g2;rw[e3] at g3;simp at g3
 rw[kr _ _ e2];exact hk x gS e1 e2 e3 e4
def ja {P:Program} {G:Nat→Option (List IV)} {f:Nat} {n:Nat} {rs:List RO} {ac:AC} {args cs:List AV} {R:AV→List AV→Prop}
  (hF:aM P G f=some (n,rs,ac.bare)) (hn:args.length≤n) (ha:∀l∈af args,l= .par 0) (hc:af cs=[])
  (hg:go ⟨P,G,n⟩ (fc rs fun x H'=>∃gS,R x gS∧x.ax=[]∧af gS=[]∧gS.length=cs.length∧H' (.par 0)= .live ⟨cs.length,[gS]⟩) [.code ac] (kO args) (hQ cs)):jS P G f args cs R:=by
 refine⟨ha,hc,kn hF hn ?_ ?_ hg⟩
 ·rintro l ⟨r,h⟩;by_cases e:l= .par 0
  ·subst e;rfl
  rw[hQ,ai _ _ e] at h;simp[Hp.none] at h
 intro l hl;rw[ha l hl];simp[hQ]
def jS.mono {P:Program} {G:Nat→Option (List IV)} {f:Nat} {args cs:List AV} {R R':AV→List AV→Prop} (h:jS P G f args cs R) (hq:∀x c,R x c→R' x c):jS P G f args cs R':=
 ⟨h.1,h.2.1,h.2.2.mono fun x H ⟨c,h1,h2⟩=>⟨c,hq _ _ h1,h2⟩⟩
end Go.Am

namespace Go.Am
open Go Go.RowKit
mutual
def norm:AV→AV
 | .nil0=> .list []
 | .agg cs=> .agg (gP cs)
 | .dG cs=> .dG (gP cs)
 |x=>x
def gP:List AV→List AV
 |[]=>[]
 |x::r=>norm x::gP r
end
mutual
theorem nh:∀x:AV,(norm x).ax=x.ax
 | .nil0=>rfl
 | .agg cs=>by simp[norm,AV.ax,gz cs]
 | .dG cs=>by simp[norm,AV.ax,gz cs]
 | .sl ..| .slk ..| .ptr ..| .any| .un| .bool _| .int ..| .str _| .list _| .fV| .ee| .lptr _| .fn ..| .ifc ..=>rfl
theorem gz:∀xs:List AV,af (gP xs)=af xs
 |[]=>rfl
 |x::r=>by simp[gP,af,nh x,gz r]
end
mutual
theorem RV.norm {w:World} {β:Lb→Option Nat} {H:Hp} {I:Nat→Prop}:∀(x:AV) (v:Value),RV w β H I x v→RV w β H I (Am.norm x) v
 | .nil0,v,h=>by
  simp only[RV] at h;obtain⟨a,rfl⟩:=h;simp only[Am.norm,RV,de];exact⟨a,0,rfl,FJ _,by simp[maxLen],.inl rfl⟩
 | .agg cs,v,h=>by
  simp only[RV,Am.norm] at h ⊢;obtain⟨vs,h1,h2⟩:=h;exact⟨vs,h1,aI.norm cs vs h2⟩
 | .dG cs,v,h=>by
  simp only[RV,Am.norm] at h ⊢;obtain⟨vs,h1,h2⟩:=h;exact⟨vs,h1,aI.norm cs vs h2⟩
 | .sl ..,v,h| .slk ..,v,h| .ptr ..,v,h| .any,v,h| .un,v,h| .bool _,v,h| .int ..,v,h| .str _,v,h| .list _,v,h| .fV,v,h| .ee,v,h| .lptr _,v,h| .fn ..,v,h| .ifc ..,v,h=>h
theorem aI.norm {w:World} {β:Lb→Option Nat} {H:Hp} {I:Nat→Prop}:∀(xs:List AV) (vs:List Value),aI w β H I xs vs→aI w β H I (gP xs) vs
 |[],vs,h=>h
 |x::r,vs,h=>by
  simp only[aI,gP] at h ⊢;obtain⟨v,us,h1,h2,h3⟩:=h;exact⟨v,us,h1,RV.norm x v h2,aI.norm r us h3⟩
end
def dT.n {P:Program} {G:Nat→Option (List IV)} {f:Nat} {args:List AV} {H:Hp} {Q:AV→Hp→Prop} (h:dT P G f (gP args) H Q):dT P G f args H Q:=
 fun w A β vs hr hv=>h w A β vs hr (aI.norm _ _ hv)
def dT.res {P:Program} {G:Nat→Option (List IV)} {f:Nat} {args:List AV} {H:Hp} {Q:AV→Hp→Prop} (h:dT P G f args H Q):dT P G f args H fun x H'=>∃y,Q y H'∧x=norm y:=by
 intro w A β vs hr hv;refine(h w A β vs hr hv).mono ?_;rintro e w' ⟨v,x,H',β',rfl,h1,h2,h3,h4⟩;exact⟨v,norm x,H',β',rfl,⟨x,h1,rfl⟩,h2,RV.norm _ _ h3,by rw[nh];exact h4⟩
def aw.n {P:Program} {G:Nat→Option (List IV)} {f:Nat} {args:List AV} {res:AV} (h:aw P G f (gP args) res):aw P G f args res:=
 ⟨by have:=h.1;rwa[gz] at this,h.2.1,h.2.2.n⟩
def aw.of {P:Program} {G:Nat→Option (List IV)} {f:Nat} {args lr:List AV} {res:AV} (h:aw P G f lr res) (e:gP args=lr):aw P G f args res:=aw.n (by rw[e];exact h)
def sk (xs:List IV):(bK xs).length=xs.length:=by simp[bK]
def sn (xs ys:List IV):bK (xs++ys)=bK xs++bK ys:=by simp[bK]
def vB {sz b d n:Nat} {l:Lb} {bN:List (List AV)} {x:IV} {H:Hp} (hl:H l= .live ⟨sz,bN⟩) (hn:bN.length=n) (he:x.cells.length=sz) (hf:∀z∈x.cells,∀cs,z≠ .agg cs) (hb:(n+1)*b≤140737488355328) (h0:0<b)
  (hd:l≠l.app d) (hu:H (l.app d)= .unused) :
  j8 sz b d (.sl l sz 0 n) (.list [x]) H=some (.sl (l.app d) sz 0 (n+1),bb (bb H l .dead) (l.app d) (.live ⟨sz,bN++bK [x]⟩)):=by
 have:=ya (xs:=[x]) hl (HZ hn.symm) (by intro y hy;simp only[FN] at hy;subst hy;exact he) (by intro y hy;simp only[FN] at hy;subst hy;exact hf) (by simpa using hb) h0 hd hu;rw[this];simp only[FW,Gq,F1,cQ,FB,Gp];rw[F_ (HZ hn)]
def iE (sz b d k:Nat) (xs:List IV) (x:IV) {n:Nat} {H:Hp} (hl:H (.loc k)= .live ⟨sz,bK xs⟩) (hn:xs.length=n) (he:x.cells.length=sz) (hf:∀z∈x.cells,∀cs,z≠ .agg cs) (hb:(n+1)*b≤140737488355328) (h0:0<b)
  (hd:k≠d) (hu:H (.loc d)= .unused) :
  j8 sz b d (.sl (.loc k) sz 0 n) (.list [x]) H=some (.sl (.loc d) sz 0 (n+1),bb (bb H (.loc k) .dead) (.loc d) (.live ⟨sz,bK (xs++[x])⟩)):=by
 have e:(Lb.loc k).app d= .loc d:=rfl;have:=vB (l:= .loc k) (d:=d) hl (by rw[sk];exact hn) he hf hb h0 (by rw[e];simpa using hd) (by rw[e];exact hu);rw[e] at this;rw[this,sn]

def yw (H:Hp):List (Lb×Row)→Prop
 |[]=>True
 |(l,r)::t=>H l= .live r∧yw H t
theorem yw.rw {H:Hp}:∀{rs:List (Lb×Row)},yw H rs→jR (cP []) H rs
 |[],_=>trivial
 |(l,r)::t,h=>⟨by show H l= .live (cC id r);rw[l3];exact h.1,yw.rw h.2⟩
def WS {σ:Type} (ls:List Lb) (ps:σ→List (Nat×AV)) (rs:σ→List (Lb×Row)) (env:Env) (H:Hp) (s:σ):Prop:=yg H ls∧sb env (ps s)∧yw H (rs s)
def gA {σ:Type} {S:St} {Q:eQ} {c:AC} {k:List It} {env:Env} {H:Hp} (ls:List Lb) (ps:σ→List (Nat×AV)) (rs:σ→List (Lb×Row)) (μ:σ→Nat) (s0:σ)
  (kK:∀s,(rs s).map Prod.fst=ls) (Ep:ls.Nodup) (hp:∀s,∀l∈af ((ps s).map Prod.snd),l∈ls) (hr:∀s,∀q∈rs s,∀cs∈q.2.bN,∀l∈af cs,l∈ls) (h0:WS ls ps rs env H s0)
  (round:∀s,go S (jy S Q k (WS ls ps rs) μ (μ s)) [.code c] (oj (ps s)) (ln (rs s))):kj S Q c k env H:=by
 refine kq (fun s=>oj (ps s)) (fun s=>ln (rs s)) (WS ls ps rs) ?_ μ s0 h0 round;rintro env H s ⟨h1,h2,h3⟩;refine⟨cP [],Cr.wk (m:=[]) ⟨h1,h2.eql,yw.rw h3,?_,fun l _=>⟨id,fun _=>rfl⟩⟩ (kK s) (hp s) (hr s)⟩;have:cP []=id:=rfl;rw[this,List.map_id];exact Ep
def jz {σ:Type} {ls:List Lb} {ps:σ→List (Nat×AV)} {rs:σ→List (Lb×Row)} {env:Env} {H:Hp} {s:σ} (h1:yg H ls) (h2:sb env (ps s)) (h3:yw H (rs s)):WS ls ps rs env H s:=⟨h1,h2,h3⟩
def dJ:ln []=Hp.none:=rfl
def cY (l:Lb) (r:Row) (t:List (Lb×Row)):ln ((l,r)::t)=bb (ln t) l (.live r):=rfl

inductive Tb (k:Bool→Prop):Type
 |mk

abbrev Bs:=List UInt8
structure Attr where
 name:Bs
 val:Bs
inductive Tree where
 |mk (text:Bool) (s:Bs) (attrs:List Attr) (kids:List Tree)
def Tree.text:Tree→Bool| .mk t _ _ _=>t
def Tree.s:Tree→Bs| .mk _ s _ _=>s
def Tree.attrs:Tree→List Attr| .mk _ _ a _=>a
def Tree.kids:Tree→List Tree| .mk _ _ _ k=>k
def Attr.cs (a:Attr):List IV:=[.str a.name,.str a.val]
def Attr.iv (a:Attr):IV:= .agg a.cs
def zu (as:List Attr):List IV:=as.map Attr.iv
mutual
def Tree.iv:Tree→IV
 | .mk t s as ks=> .agg [.bool t,.str s,.list (zu as),.list (BD ks)]
def BD:List Tree→List IV
 |[]=>[]
 |x::r=>x.iv::BD r
end
def Tree.cs (x:Tree):List IV:=[.bool x.text,.str x.s,.list (zu x.attrs),.list (BD x.kids)]
def Tree.av (x:Tree):AV:= .agg [.bool x.text,.str x.s,.list (zu x.attrs),.list (BD x.kids)]
def Tree.AJ (x:Tree):x.iv= .agg x.cs:=by cases x;simp[Tree.iv,Tree.cs,Tree.text,Tree.s,Tree.attrs,Tree.kids]
def Tree.eN (x:Tree):x.iv.cells=x.cs:=by rw[Tree.AJ];rfl
def Attr.eN (x:Attr):x.iv.cells=x.cs:=rfl
def Attr.wt (a:Attr):Nat:=1+a.name.length+a.val.length
def zv:List Attr→Nat
 |[]=>0
 |a::r=>a.wt+zv r
mutual
def Tree.wt:Tree→Nat
 | .mk _ s as ks=>1+s.length+zv as+zw ks
def zw:List Tree→Nat
 |[]=>0
 |x::r=>x.wt+zw r
end
def B:Nat:=2^30

def Attr.ext {x y:Attr} (h1:x.name=y.name) (h2:x.val=y.val):x=y:=by cases x;cases y;simp_all
def Tree.ext {x y:Tree} (h1:x.text=y.text) (h2:x.s=y.s) (h3:x.attrs=y.attrs) (h4:x.kids=y.kids):x=y:=by
 cases x;cases y;simp_all[Tree.text,Tree.s,Tree.attrs,Tree.kids]

def yx (c:UInt8):Bool:= !((((c.toNat:Int) !=10))&&(decide ((c.toNat:Int)<32)||decide ((c.toNat:Int)>126)))
def plain (s:Bs):Bool:=s.all yx&&decide ((s.length:Int)≤40)
def so (s:Bs) (i:Nat):Env:=put (put (put Env.any 0 (.str s)) 5 (.int .i64 s.length)) 6 (.int .i64 i)
def sq {p:UInt8→Bool} {s:Bs} {i:Nat} {c:UInt8} (h:(s.take i).all p=true) (hc:s[i]?=some c) (hp:p c=true):(s.take (i+1)).all p=true:=by
 rw[Gy,hc];simp[h,hp]
def pg {p:UInt8→Bool} {s:Bs} {i:Nat} {c:UInt8} (hc:s[i]?=some c) (hp:p c=false):s.all p=false:=by
 cases h:s.all p with
 |false=>rfl
 |true=>
 have:=F3.1 h c (Fx hc);rw[hp] at this;exact this.symm
def eX (c:UInt8):Bool:= !(decide ((c.toNat:Int)<97)||decide ((c.toNat:Int)>122))
def named (s:Bs):Bool:=s.all eX&&(decide ((s.length:Int)≥1)&&decide ((s.length:Int)≤8))
def om:AC:=
(.seq
 (.fU [
  gQ 2 false])
(.seq
 (.seq
  (.fU [
   ah 4 0,
   ia 5 4,
   iK 6 0])
 (.block 0
  (.loop
   (.seq
    (.fU [
     ga 7 .lss 6 5])
   (.seq
    (.cond (.t 7)
     .skip
     (.exit 0))
   (.seq
    (.block 1
     (.seq
      (.fU [
       ah 8 6,
       ah 3 8])
     (.seq
      (.fU [
       ah 9 0,
       ah 10 3,
       bg 11 (.f_ (.t 9) (.t 10)),
       bg 12 (.bin .lss (.t 11) (.c (.int .u8 97))),
       ah 13 12,
       e8 14 13 0,
       e8 15 13 3,
       jJ 16 13 (.f_ (.t 14) (.t 15)),
       jJ 17 13 (.bin .gtr (.t 16) (.c (.int .u8 122))),
       nS 18 13 17])
     (.cond (.t 18)
      (.seq
       (.fU [
        gQ 2 false])
      .ret)
      .skip))))
   (.fU [
    ew 19 .add 6 1,
    ah 6 19])))))))
(.seq
 (.fU [
  ah 20 0,
  ia 21 20,
  ew 22 .geq 21 1,
  ah 23 22,
  cm 24 23 0,
  dC 25 23 (.lens (.t 24)),
  dC 26 23 (.bin .leq (.t 25) (iJ 8)),
  jk 27 23 26,
  ah 2 27])
.ret)))
def yy {P:Program} {G:Nat→Option (List IV)} {f:Nat} (hF:aM P G f=some (28,[(none,2)],om.bare)) (s:Bs) (hx:s.length≤B) :
  aw P G f [.str s] (.bool (named s)):=by
 refine aG hF (by simp) (by simp[af,AV.ax]) (by simp[AV.ax]) ?_;unfold om;simp only[↓rZ,lK,lX,↓cV,List.take,List.drop,Nat.reduceEqDiff,Nat.reduceLT,Nat.reduceLeDiff,Nat.reduceAdd,Nat.reduceMul,↓cW,↓dI,↓cX,↓eL,↓eJ,↓eK,reduceCtorEq];refine oe (σ:={i:Nat // i≤s.length∧(s.take i).all eX=true}) (fun q=>so s q.1) (fun _=>Hp.none) (fun q=>s.length - q.1) ⟨0,by simp⟩ id ?_ ?_
 ·refine .none ?_ ?_
  ·exact hO rfl (hO rfl (hO rfl (og _ _)))
  exact hP (by simp[AV.ax]) (hP (by simp[AV.ax]) (hP (by simp[AV.ax]) (oh _)))
 rintro⟨i,hi,hs⟩;simp only[↓rZ,lK,lX,↓cV,List.take,List.drop,Nat.reduceEqDiff,Nat.reduceLT,Nat.reduceLeDiff,Nat.reduceAdd,Nat.reduceMul,↓cW,↓dI,↓cX,↓eL,↓eJ,↓eK,reduceCtorEq,so];by_cases cD:i<s.length
 ·rw[show decide ((i:Int)<(s.length:Int))=true by simpa using cD];obtain⟨c,hc⟩:∃c,s[i]?=some c:=⟨_,FF cD⟩;have hw:IntKind.i64.wrap ((i:Int)+1)=((i+1:Nat):Int):=wrap64 (by omega) (by unfold B at hx;omega);have next:eX c=true→∃q:{i:Nat // i≤s.length∧(s.take i).all eX=true},q.1=i+1:=fun hp=>⟨⟨i+1,cD,sq hs hc hp⟩,rfl⟩
  simp only[↓rZ,lK,lX,↓cV,List.take,List.drop,Nat.reduceEqDiff,Nat.reduceLT,Nat.reduceLeDiff,Nat.reduceAdd,Nat.reduceMul,↓cW,↓dI,↓cX,↓eL,↓eJ,↓eK,reduceCtorEq,hc];cases h1:decide ((c.toNat:Int)<97) with
  |true=>
   simp only[↓rZ,lK,lX,↓cV,List.take,List.drop,Nat.reduceEqDiff,Nat.reduceLT,Nat.reduceLeDiff,Nat.reduceAdd,Nat.reduceMul,↓cW,↓dI,↓cX,↓eL,↓eJ,↓eK,reduceCtorEq,hc];rw[named,pg hc (by simp[eX,h1])];rfl
  |false=>
  simp only[↓rZ,lK,lX,↓cV,List.take,List.drop,Nat.reduceEqDiff,Nat.reduceLT,Nat.reduceLeDiff,Nat.reduceAdd,Nat.reduceMul,↓cW,↓dI,↓cX,↓eL,↓eJ,↓eK,reduceCtorEq,hc];cases h2:decide ((c.toNat:Int)>122) with
  |true=>
   simp only[↓rZ,lK,lX,↓cV,List.take,List.drop,Nat.reduceEqDiff,Nat.reduceLT,Nat.reduceLeDiff,Nat.reduceAdd,Nat.reduceMul,↓cW,↓dI,↓cX,↓eL,↓eJ,↓eK,reduceCtorEq,hc];rw[named,pg hc (by simp[eX,h1,h2])];rfl
  |false=>
  obtain⟨q,hq⟩:=next (by simp[eX,h1,h2])
  simp only[↓rZ,lK,lX,↓cV,List.take,List.drop,Nat.reduceEqDiff,Nat.reduceLT,Nat.reduceLeDiff,Nat.reduceAdd,Nat.reduceMul,↓cW,↓dI,↓cX,↓eL,↓eJ,↓eK,reduceCtorEq,hc,hw];refine⟨q,by omega,id,.none ?_ ?_⟩
  ·rw[hq];exact hO rfl (hO rfl (hO rfl (og _ _)))
  exact hP (by simp[AV.ax]) (hP (by simp[AV.ax]) (hP (by simp[AV.ax]) (oh _)))
 rw[show decide ((i:Int)<(s.length:Int))=false by simpa using cD];have bG:s.all eX=true:=by
  have:s.take i=s:=F_ (by omega);rw[←this,hs]
 simp only[↓rZ,lK,lX,↓cV,List.take,List.drop,Nat.reduceEqDiff,Nat.reduceLT,Nat.reduceLeDiff,Nat.reduceAdd,Nat.reduceMul,↓cW,↓dI,↓cX,↓eL,↓eJ,↓eK,reduceCtorEq];cases h1:decide ((s.length:Int)≥1) with
 |true=>
  simp only[↓rZ,lK,lX,↓cV,List.take,List.drop,Nat.reduceEqDiff,Nat.reduceLT,Nat.reduceLeDiff,Nat.reduceAdd,Nat.reduceMul,↓cW,↓dI,↓cX,↓eL,↓eJ,↓eK,reduceCtorEq];rw[named,bG,h1];rfl
 |false=>
 simp only[↓rZ,lK,lX,↓cV,List.take,List.drop,Nat.reduceEqDiff,Nat.reduceLT,Nat.reduceLeDiff,Nat.reduceAdd,Nat.reduceMul,↓cW,↓dI,↓cX,↓eL,↓eJ,↓eK,reduceCtorEq];rw[named,bG,h1];rfl

def yz (as:List Attr) (i:Nat):Bool:=
 match as[i]? with
 |some a=>named a.name&&(plain a.val&&(i==0||match as[i - 1]? with|some p=>Op.bytesLess p.name a.name|none=>true))
 |none=>true
def lu (as:List Attr):Bool:=(List.range as.length).all (yz as)&&decide ((as.length:Int)≤4)
def Wk.drop {env env2:Env} {H:Hp} (e:∀n,env2 n= .any∨env n=bw id (env2 n)) (m:∀n,∀l∈(env2 n).ax,Hp.none l≠ .unused) (hn:∀l:Lb,l.fresh=false→H l= .unused):Wk id env H env2 Hp.none:=
 ⟨e,fun l r h=>by simp[Hp.none] at h,fun _ _ ⟨r,h⟩=>by simp[Hp.none] at h,m,fun l r h=>by simp[Hp.none] at h,fun l hl=>⟨fun h=>absurd (hn l (Lb.ed hl)) h,fun _=>rfl⟩,fun l ⟨r,h⟩=>by simp[Hp.none] at h⟩

mutual
def Tree.dep:Tree→Nat
 | .mk _ _ _ ks=>sr ks+1
def sr:List Tree→Nat
 |[]=>0
 |x::r=>max x.dep (sr r)
end
mutual
def Tree.kR:Tree→Nat
 | .mk _ _ _ ks=>eO ks+1
def eO:List Tree→Nat
 |[]=>0
 |x::r=>x.kR+eO r
end
def Tree.ss (x:Tree):x.dep=sr x.kids+1:=by cases x;simp[Tree.dep,Tree.kids]
def Tree.oo (x:Tree):x.kR=eO x.kids+1:=by cases x;simp[Tree.kR,Tree.kids]
theorem ni:∀xs ys:List Tree,eO (xs++ys)=eO xs+eO ys
 |[],ys=>by simp[eO]
 |x::r,ys=>by simp[eO,ni r ys];omega
def ba {env:Env} {H:Hp} (t u:Nat) (R:AV→Hp→Prop):fc [(none,t),(none,u)] R .ret env H=R (.dG [env t,env u]) H:=by simp[fc,fy,km,iY]

mutual
def Tree.jT:Tree→Bool
 | .mk t s as ks=>if t then plain s&&(s !=[]&&(as.length==0&&ks.length==0)) else named s&&(lu as&&lv none ks)
def lv:Option Bool→List Tree→Bool
 |_,[]=>true
 |p,x::r=>x.jT&&(!(p==some true&&x.text)&&lv (some x.text) r)
end
def Tree.yA (x:Tree) (h:x.text=true):x.jT=(plain x.s&&(x.s !=[]&&(x.attrs.length==0&&x.kids.length==0))):=by
 cases x;simp only[Tree.text] at h;subst h;simp[Tree.jT,Tree.s,Tree.attrs,Tree.kids]
def Tree.yB (x:Tree) (h:x.text=false):x.jT=(named x.s&&(lu x.attrs&&lv none x.kids)):=by
 cases x;simp only[Tree.text] at h;subst h;simp[Tree.jT,Tree.s,Tree.attrs,Tree.kids]
def Tree.yC (x:Tree):Bool:= !x.text&&(decide ((x.dep:Int)≤8)&&(decide ((x.kR:Int)≤80)&&x.jT))
end Go.Am
