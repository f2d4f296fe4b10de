import Derived.Test.YtfinkeaikbmpgaaGreatDoorKAm15
import Derived.WalkKit
import Derived.ProofKit
import Derived.OpenShut
import Derived.Carry
import Derived.JoinedCond
import Derived.Deep.LoopGhost
set_option linter.unusedSimpArgs false
set_option linter.unusedVariables false
set_option linter.unnecessarySimpa false
set_option linter.defProp false
/- THE ABSTRACT MACHINE, part 25: what a reading of plain data gives. -/
namespace Go.Am
open Go Go.RowKit
inductive Sh (P:Program):TypeId→IV→Prop
 |b {t:TypeId} {x:Bool}:P.underlying t=some .bool→Sh P t (.bool x)
 |i {t:TypeId} {k:IntKind} {n:Int}:P.underlying t=some (.int k)→(Lit.int k n).wf=true→Sh P t (.int k n)
 |s {t:TypeId} {x:List UInt8}:P.underlying t=some .string→Sh P t (.str x)
 |l {t e:TypeId} {ys:List IV}:P.underlying t=some (.slice e)→(∀y∈ys,Sh P e y)→Sh P t (.list ys)
 |g {t:TypeId} {fs:Array Field} {ys:List IV}:P.underlying t=some (.struct fs)→ys.length=fs.size→(∀(j:Nat) (f:Field) (y:IV),fs[j]?=some f→ys[j]?=some y→Sh P f.type y)→Sh P t (.agg ys)
mutual
def IV.wt:IV→Nat
 | .bool _=>1
 | .int _ _=>1
 | .str s=>s.length+1
 | .list xs=>rI xs+1
 | .agg cs=>rI cs+1
 | .ifc _=>1
def rI:List IV→Nat
 |[]=>0
 |x::r=>x.wt+rI r
end
def Nv (P:Program) (t:TypeId):Bool:=
 match P.underlying t with
 |some .bool|some (.int _)|some .string|some (.slice _)=>true
 |_=>false
def VX (P:Program) (T:List TypeId) (t:TypeId):Bool:=
 match P.underlying t with
 |some .bool|some (.int _)|some .string=>true
 |some (.slice e)=>T.contains e&&decide (0<P.cellsOf e)
 |some (.struct fs)=>decide (P.cellsOf t=fs.size)&&(List.range fs.size).all fun j=>match fs[j]? with
  |some f=>T.contains f.type&&Nv P f.type&&decide (f.offset=j)&&decide (P.cellsOf f.type=1)
  |none=>false
 |_=>false
section
variable {H:Type} {enc:TypeId×Value→H} {P:Program} {w:World} {base:Nat} {spare:Nat→Bool} {held:Bool}
theorem wF {α β:Type} {f:α→Option β}:∀{l:List α} {r:List β},l.mapM f=some r→r.length=l.length∧∀(i:Nat) (x:α),l[i]?=some x→∃y,r[i]?=some y∧f x=some y
 |[],r,h=>by
  simp at h;subst h;exact⟨rfl,by simp⟩
 |a::l,r,h=>by
  rw[List.mapM_cons] at h;obtain⟨y,h1,h⟩:=adx.1 h;obtain⟨s,h2,h⟩:=adx.1 h;simp only[Option.pure_def,jl] at h;subst h;obtain⟨e1,e2⟩:=wF h2;refine⟨by simp[e1],fun i x hx=> ?_⟩;cases i with
  |zero=>simp at hx;subst hx;exact⟨y,by simp,h1⟩
  |succ i=>obtain⟨z,q1,q2⟩:=e2 i x (by simpa using hx);exact⟨z,by simpa using q1,q2⟩
def KN {a:Addr} {n:Nat} {cs:List Value} (h:w.cells? base a n=some cs):cs.length=n∧∀i,i<n→∃v,cs[i]?=some v∧w.cell? (a.add i)=some v:=by
 unfold World.cells? at h;split at h
 ·obtain⟨h1,h2⟩:=wF h;refine⟨by simpa using h1,fun i hi=> ?_⟩;obtain⟨v,e1,e2⟩:=h2 i i (by simp[hi]);exact⟨v,e1,e2⟩
 simp at h
def KO {a:Addr} {v:Value} (h:w.cell? a=some v):a.spot=none∧a.block<w.heap.size:=by
 unfold World.cell? at h;split at h
 ·rename_i c t f e;split at h
  ·simp at h
  rename_i hs;exact⟨by simpa using hs,(aed.1 e).1⟩
 simp at h
structure Bk (H:Type) where
 bk:DataW H→Nat
 one:∀d,1≤bk d
 str:∀l,bk (.lit (.string l))=l.length+1
 sl:∀es sp,(es.map bk).sum+1≤bk (.slice es sp)
 ag:∀ps,(ps.map bk).sum+1≤bk (.agg ps)
theorem build {Q:Nat→IV→Prop}:∀(n:Nat),(∀i,i<n→∃y,Q i y)→∃ys:List IV,ys.length=n∧∀i y,ys[i]?=some y→Q i y
 |0,_=>⟨[],rfl,by simp⟩
 |n+1,h=>by
  obtain⟨ys,h1,h2⟩:=build n (fun i hi=>h i (by omega));obtain⟨y,hy⟩:=h n (by omega);refine⟨ys++[y],by simp[h1],fun i z hz=> ?_⟩;by_cases hi:i<n
  ·rw[ad6 (by omega)] at hz;exact h2 i z hz
  have:i=n:=by
   have:=(ag6.1 hz).1;simp at this;omega
  subst this;rw[adU (by omega),h1] at hz;simp at hz;subst hz;exact hy
theorem Hh {α:Type} {g:α→Nat}:∀(ys:List IV) (xs:List α),ys.length=xs.length→(∀(i:Nat) (y:IV) (x:α),ys[i]?=some y→xs[i]?=some x→y.wt≤g x)→rI ys≤(xs.map g).sum
 |[],[],_,_=>by simp[rI]
 |y::ys,[],h,_=>by simp at h
 |[],x::xs,h,_=>by simp at h
 |y::ys,x::xs,h,hw=>by
  have h1:=hw 0 y x (by simp) (by simp);have h2:=Hh ys xs (by simpa using h) (fun i y x hy hx=>hw (i+1) y x (by simpa using hy) (by simpa using hx));simp only[rI,ad5,afU];omega
def read (B:Bk H) {T:List TypeId} (hT:∀t∈T,VX P T t=true):∀(fuel:Nat) (t:TypeId) (cs:List Value) (d:DataW H) (ps:List MemPlace),t∈T→DataW.trod enc P w base spare held fuel t cs=some (d,ps) →
  ∃y:IV,Sh P t y∧y.wt≤B.bk d∧y.cells.length=cs.length∧∀(j:Nat) (z:IV),y.cells[j]?=some z→∃v,cs[j]?=some v∧kP w (fun _=>True) z v:=by
 intro fuel;induction fuel with
 |zero=>intro t cs d ps _ h;simp[DataW.trod] at h
 |succ fuel ih=>
 intro t cs d ps ht h;have u7:=hT t ht;unfold VX at u7;unfold DataW.trod at h;cases hu:P.underlying t with
 |none=>rw[hu] at u7;simp at u7
 |some u=>
 rw[hu] at u7 h;cases u with
 |bool=>
  simp only at h;split at h<;>simp_all;rename_i b;obtain⟨rfl,rfl⟩:=h;exact⟨.bool b,.b hu,by simpa[IV.wt] using B.one _,by simp[IV.cells],fun j z hz=>by
   cases j<;>simp[IV.cells] at hz;subst hz;simp[kP]⟩
 |int k=>
  simp only at h;split at h<;>simp_all;rename_i n _;obtain⟨⟨rfl,hw⟩,rfl,rfl⟩:=h;exact⟨.int _ n,.i hu hw,by simpa[IV.wt] using B.one _,by simp[IV.cells],fun j z hz=>by
   cases j<;>simp[IV.cells] at hz;subst hz;simp[kP]⟩
 |string=>
  simp only at h;split at h<;>simp_all;rename_i x;obtain⟨hw,rfl,rfl⟩:=h;exact⟨.str x.data.toList,.s hu,by rw[B.str];simp[IV.wt],by simp[IV.cells],fun j z hz=>by
   cases j<;>simp[IV.cells] at hz;subst hz;simp[kP]⟩
 |slice e=>
  simp only[ady,adM,afn] at u7;obtain⟨Ac,M8⟩:=u7;have Zx:e∈T:=by simpa using Ac
  simp only at h;split at h<;>simp_all
  ·obtain⟨rfl,rfl⟩:=h;exact⟨.list [],.l hu (by simp),by simpa[IV.wt,rI] using B.one _,by simp[IV.cells],fun j z hz=>by
    cases j<;>simp[IV.cells] at hz;subst hz;simp only[kP];exact⟨_,rfl,none,0,rfl,adw _,by simp[maxLen],.inl rfl⟩⟩
  rename_i _ _ e' a len cap _;obtain⟨⟨hb,hlc,El⟩,h⟩:=h;obtain⟨elems,he,h⟩:=adx.1 h;obtain⟨rest,hr,h⟩:=ag4.1 h;simp only[adJ] at h;obtain⟨rfl,rfl⟩:=h;obtain⟨hlen,dO⟩:=wF he;have Zy:elems.length=len:=by simpa using hlen
  have fX:∀i,i<len→∃y:IV,Sh P e' y∧(∀x,elems[i]?=some x→y.wt≤B.bk x.1)∧y.cells.length=P.cellsOf e' ∧
    ∀(j:Nat) (z:IV),y.cells[j]?=some z→∃v,w.cell? ((a.add (i*P.cellsOf e')).add j)=some v∧kP w (fun _=>True) z v:=by
   intro i hi;obtain⟨x,e1,e2⟩:=dO i i (by simp[hi]);obtain⟨cs,c1,c2⟩:=adx.1 e2;obtain⟨cl,cg⟩:=KN c1;obtain⟨y,y1,y2,y3,y4⟩:=ih e' cs x.1 x.2 Zx c2;refine⟨y,y1,fun x' Zz=>by rw[e1] at Zz;cases Zz;exact y2,by rw[y3,cl],fun j z hz=> ?_⟩;obtain⟨v,v1,v2⟩:=y4 j z hz;have hj:j<P.cellsOf e':=by
    have:=(ag6.1 hz).1;omega
   obtain⟨v',u1,u2⟩:=cg j hj;rw[v1] at u1;cases u1;exact⟨v,u2,v2⟩
  obtain⟨ys,Qt,Ck⟩:=build len fX;refine⟨.list ys,.l hu (fun y hy=> ?_),?_,by simp[IV.cells],fun j z hz=> ?_⟩
  ·obtain⟨i,hi⟩:=aeh hy;exact(Ck i y hi).1
  ·have h1:=Hh (g:=fun x:DataW H×List MemPlace=>B.bk x.1) ys elems (by omega) (fun i y x hy hx=>(Ck i y hy).2.1 x hx);have h2:=B.sl (elems.map fun x=>x.1) (rest.map fun x=>x.1);simp only[af0] at h2;simp only[IV.wt];exact aeZ (agN h1 1) h2
  cases j with
  |succ j=>simp[IV.cells] at hz
  |zero=>
  simp[IV.cells] at hz;subst hz;refine⟨_,rfl,?_⟩;simp only[kP];refine⟨some a,cap,by rw[Qt],by omega,El,?_⟩;by_cases Ko:len=0
  ·exact .inl (by omega)
  right;have G5:∀i j,i<len→j<P.cellsOf e'→∃v,w.cell? ((a.add (i*P.cellsOf e')).add j)=some v:=by
   intro i j hi hj;obtain⟨y,hy⟩:∃y,ys[i]?=some y:=⟨_,ag7 (by omega)⟩;obtain⟨_,_,q3,q4⟩:=Ck i y hy;obtain⟨v,v1,_⟩:=q4 j _ (ag7 (by omega));exact⟨v,v1⟩
  obtain⟨v0,RN⟩:=G5 0 0 (by omega) M8;obtain⟨s1,s2⟩:=KO RN;obtain⟨ab,ao,asp⟩:=a;simp only[Addr.add,afl,adH] at s1 s2;subst s1;refine⟨ab,ao,P.cellsOf e',rfl,trivial,s2,M8,pg _ _ _ (fun k y hy=> ?_)⟩;obtain⟨_,_,q3,q4⟩:=Ck k y hy;rw[ku];refine⟨q3.symm,nS _ _ _ (fun j z hz=> ?_)⟩;obtain⟨v,v1,v2⟩:=q4 j z hz;rw[addr_add,addr_add] at v1;exact⟨v,v1,v2⟩
 |struct fs=>
  simp only[ady,adM] at u7;simp only at h;obtain⟨pC,u7⟩:=u7;rw[aeg] at u7;split at h
  ·rename_i BE;obtain⟨xs,hx,h⟩:=ag4.1 h;simp only[adJ] at h;obtain⟨rfl,rfl⟩:=h;obtain⟨hlen,dO⟩:=wF hx;have Zy:xs.length=fs.size:=(by simpa using hlen);have fX:∀i,i<fs.size→∃y:IV,(∀f,fs[i]?=some f→Sh P f.type y)∧(∀x,xs[i]?=some x→y.wt≤B.bk x.1)∧∃v,cs[i]?=some v∧kP w (fun _=>True) y v:=by
    intro i hi;have hf:=u7 i (by simpa using hi);obtain⟨f,hfi⟩:∃f,fs[i]?=some f:=⟨_,aeM hi⟩;rw[hfi] at hf;simp only[ady,adM,afn] at hf;obtain⟨⟨⟨f1,f2⟩,f3⟩,f4⟩:=hf;obtain⟨x,e1,e2⟩:=dO i f (by simpa using hfi);rw[f3,f4] at e2;obtain⟨y,y1,y2,y3,y4⟩:=ih f.type _ x.1 x.2 (by simpa using f1) e2;have mY:y.cells=[y]:=by
     cases y1 with
     |g ZA _ _=>unfold Nv at f2;rw[ZA] at f2;simp at f2
     |_=>rfl
    refine⟨y,fun f' IT=>by rw[hfi] at IT;cases IT;exact y1,fun x' Zz=>by rw[e1] at Zz;cases Zz;exact y2,?_⟩;obtain⟨v,v1,v2⟩:=y4 0 y (by rw[mY];rfl);refine⟨v,?_,v2⟩;rw[adT] at v1;split at v1
    ·rw[aeD] at v1;simpa using v1
    simp at v1
   obtain⟨ys,Qt,Ck⟩:=build fs.size fX;refine⟨.agg ys,.g hu Qt (fun j f y hf hy=>(Ck j y hy).1 f hf),?_,by simp only[IV.cells];omega,fun j z hz=>(Ck j z hz).2.2⟩;have h1:=Hh (g:=fun x:DataW H×List MemPlace=>B.bk x.1) ys xs (by omega) (fun i y x hy hx=>(Ck i y hy).2.1 x hx);have h2:=B.ag (xs.map fun x=>x.1);simp only[af0] at h2;simp only[IV.wt];exact aeZ (agN h1 1) h2
  simp at h
 |_=>simp at u7
end
end Go.Am

namespace Go.Am
open Go Go.RowKit Go.ChangeShapes
def noG:Nat→Option (List IV):=fun _=>none
def pL:Lb→Option Nat:=fun _=>none
def Nw (P:Program) (W:World):bu (fm P noG W (fun _=>True) pL Hp.none) pL Env.any Hp.none wv W:=
 { defers := rfl,size := rfl
   mS:=fun n=>by simp[Env.any,RV]
   rows:=fun l r h=>by simp[Hp.none] at h
   own:=fun l g ⟨r,h⟩=>by simp[Hp.none] at h
   inj:=fun l l' g ⟨r,h⟩=>by simp[Hp.none] at h
   kL:=fun n=>by simp[Env.any,AV.aB]
   fk:=fun l r h=>by simp[Hp.none] at h
   frame:=⟨rfl,rfl,rfl,adw _,fun _ _ _=>rfl,fun _ _ h=>h⟩
   nF:=fun l ⟨r,h⟩=>by simp[fm,Hp.none] at h
   fr:=fun l g ⟨r,h⟩=>by simp[Hp.none] at h
   l_:=fun g cs hg=>by simp[fm,noG] at hg}
def run_pure {P:Program} {f:Nat} {args:List AV} {res:AV} {vs:List Value} {W:World} (hp:aw P noG f args res) (hv:cM W pL Hp.none (fun _=>True) args vs) :
  Calls P f vs.toArray W fun e W'=>∃v,e= .returned v∧Below W.heap.size W W'∧RV W' pL Hp.none (fun _=>True) res v:=by
 have hI:∀k,Im (fm P noG W (fun _=>True) pL Hp.none) pL Hp.none k:=fun k=>⟨.inl trivial,fun l ⟨r,h⟩=>by simp[Hp.none] at h⟩;refine(xE (Nw P W) hp (cM.mono _ _ ?_ hv) trivial).mono ?_
 ·exact {im:=fun k _ hs=>⟨hI k,hs,rfl⟩,lb:=fun l _ ⟨r,h⟩=>by simp[Hp.none] at h}
 rintro e W' ⟨v,rfl,h1,h2⟩;refine⟨v,rfl,h1,RV.mono _ _ ?_ h2⟩;exact {im:=fun k _ hs=>⟨trivial,hs,rfl⟩,lb:=fun l _ ⟨r,h⟩=>by simp[Hp.none] at h}
section
variable {H:Type} {enc:TypeId×Value→H} {P:Program}
def DC (P:Program) (t:TypeId):Bool:=P.readableRec t&&decide (t<P.types.size)
theorem vl (hl:laidOutB P=true) {W W':World} (hb:Below W.heap.size W W') {sp:Nat→Bool}:∀{ts:List TypeId} {vs:List Value} {ds:List (DataW H)} {ps:List MemPlace},ts.all (DC P)=true →
  DataW.TrodAll enc P W 0 (fun _=>true) true ts vs ds ps→(∀x∈ps,x.block<W.heap.size)→(∀x∈ps,sp x.block=true)→DataW.TrodAll enc P W' 0 sp true ts vs ds ps
 |[],_,_,_,_,h,_,_=>by
  obtain⟨rfl,rfl,rfl⟩:=trodAll_nil h;rfl
 |t::ts,_,_,_,hr,h,bO,hs=>by
  obtain⟨v,vs1,d,ds1,a,b,rfl,rfl,rfl,h1,h2⟩:=trodAll_cons h;simp only[List.all_cons,ady,DC,adM] at hr;refine⟨a,b,WideElems.Trod_stays hl hr.1.1 hr.1.2 h1 (fun x hx=>hb.same (bO x (by simp[hx]))) (fun x hx=>hs x (by simp[hx])),?_,rfl⟩;exact vl hl hb hr.2 h2 (fun x hx=>bO x (by simp[hx])) (fun x hx=>hs x (by simp[hx]))
def Nx {f:Func} {s:ChangeSpec} {apart fresh handsOn again:Bool} {W W':World} {args:Array Value} {ds gs:List (DataW H)} {before:List MemPlace} {tb:TypeId} (hl:laidOutB P=true)
  (hr:f.params.toList.all (DC P)=true) (BN:f.resultTypes=#[tb]) (hub:P.underlying tb=some .bool) (EX:s.vars=[]) (vi:s.fn H ds={results:=[.lit (.bool true)],args:=ds})
  (hW:DataW.Whole enc P f.params.toList s.vars apart W args.toList ds gs before) (hb:Below W.heap.size W W') :
  s.post enc P f apart fresh handsOn again W args (.bool true) W':=by
 have hW':=hW;have bO:=hW.lt;obtain⟨p,q,hA,hV,rfl,hz,hn⟩:=hW;rw[EX] at hV;obtain⟨rfl,rfl⟩:=trodVars_none hV;simp only[adN] at hW' bO hz hn;have VY:s.fn H (ds++[])={results:=[.lit (.bool true)],args:=ds}:=by rw[adN];exact vi
 have I5:∀sp:Nat→Bool,(∀x∈p,sp x.block=true)→DataW.TrodAll enc P W' 0 sp true f.params.toList args.toList ds p:=fun sp hs=>vl hl hb hr hA bO hs;have pf:∀(b:Nat) (sp:Nat→Bool) (hd:Bool),DataW.TrodAll enc P W' b sp hd f.resultTypes.toList ((Value.bool true).resultList f.resultTypes.size) [.lit (.bool true)] []:=by
  intro b sp hd;rw[BN];exact trodAll_cons_mk (shut_bool hub _) trodAll_mk0
 have RN:∀sp:Nat→Bool,DataW.TrodVars enc P W' sp s.vars (s.fn H (ds++[])).vars []:=by
  intro sp;rw[EX,VY];rfl
 refine⟨ds,[],p,[],p,[],hW',by rw[VY];exact pf _ _ _,by rw[VY];exact I5 _ (fun x hx=>by simpa using bO x hx),RN _,hb.frame _,fun _=> ?_⟩;have VZ:DataW.TrodVars enc P W' (fun _=>true) s.vars [] []:=by rw[EX];rfl
 refine⟨ok_one BN rfl (okWide_bool_mk hub _),_,_,([]++p)++[],⟨[]++p,[],trodAll_append (I5 _ (fun _ _=>rfl)) (pf _ _ _),VZ,by simp,?_,?_⟩,?_⟩
 ·intro b off hp;have iJ:MemPlace.cell b off∈p:=by simpa using hp
  rw[hb.frozen (p:=⟨b,off,none⟩) (bO _ iJ)];exact hz b off iJ
 ·intro ha;simpa using hn ha
 intro x hx _;simpa using hx
end
end Go.Am

namespace Go.Am
open Go Go.RowKit Go.ChangeShapes
section
variable {H:Type} {enc:TypeId×Value→H} {P:Program}
theorem Ny {W:World}:∀(ys:List IV) (cs:List Value),ys.length=cs.length→(∀z∈ys,∀q,z≠ .agg q)→(∀(j:Nat) (z:IV),ys[j]?=some z→∃v,cs[j]?=some v∧kP W (fun _=>True) z v) →
  cM W pL Hp.none (fun _=>True) (ys.map IV.gK) cs
 |[],[],_,_,_=>by simp[cM]
 |[],v::cs,h,_,_=>by simp at h
 |y::ys,[],h,_,_=>by simp at h
 |y::ys,v::cs,h,hf,hg=>by
  obtain⟨v',h1,h2⟩:=hg 0 y (by simp);simp at h1;subst h1;refine⟨v,cs,rfl,?_,Ny ys cs (by simpa using h) (fun z hz=>hf z (by simp[hz])) (fun j z hz=>by simpa using hg (j+1) z (by simpa using hz))⟩;cases y with
  |agg q=>exact absurd rfl (hf _ (by simp) q)
  |_=>simpa[IV.gK,RV,kP] using h2
def V0 (B:Bk H) {T:List TypeId} (hT:∀t∈T,VX P T t=true) {W:World} {t:TypeId} (ht:t∈T) {v:Value} {d:DataW H} {ps:List MemPlace} {r:Reach}
  {b0:Nat} (ka:Value.okWide P W r b0 t v) (h:DataW.Trod enc P W 0 (fun _=>true) true t v d ps) :
  ∃y:IV,Sh P t y∧y.wt≤B.bk d∧RV W pL Hp.none (fun _=>True) y.av v:=by
 obtain⟨fuel,h⟩:=h;obtain⟨y,h1,h2,h3,h4⟩:=read B hT fuel t _ d ps ht h;refine⟨y,h1,h2,?_⟩;have one:∀u:TypeDesc,P.underlying t=some u→(∀fs,u≠ .struct fs)→(∀n e,u≠ .array n e)→(∀cs,y≠ .agg cs)→RV W pL Hp.none (fun _=>True) y.av v:=by
  intro u hu hs ha hy;have hc:y.cells=[y]:=by cases y<;>first|rfl|exact absurd rfl (hy _)
  have hv:v.cells=#[v]:=by
   cases v with
   |agg cs=>
    unfold Value.okWide at ka;rw[hu] at ka;cases u<;>simp_all[Cell.okWide,Cell.ok]
   |_=>rfl
  rw[hc,hv] at h4;obtain⟨v',e1,e2⟩:=h4 0 y rfl;simp at e1;subst e1;cases y<;>first|(simpa[IV.av,IV.gK,RV,kP] using e2)|exact absurd rfl (hy _)
 cases h1 with
 |b hu=>exact one _ hu (by simp) (by simp) (by simp)
 |i hu _=>exact one _ hu (by simp) (by simp) (by simp)
 |s hu=>exact one _ hu (by simp) (by simp) (by simp)
 |l hu _=>exact one _ hu (by simp) (by simp) (by simp)
 |@g _ fs ys hu hl hf=>
 have u7:=hT t ht;unfold VX at u7;rw[hu] at u7;simp only[ady,adM,aeg] at u7;unfold Value.okWide at ka;rw[hu] at ka;obtain⟨cs,rfl,pC,_⟩:=ka;simp only[IV.av,RV];refine⟨cs.toList,by simp,Ny ys _ (by simpa[IV.cells,Value.cells] using h3) ?_ (fun j z hz=>by simpa[Value.cells] using h4 j z (by simpa[IV.cells] using hz))⟩;intro z hz q e;obtain⟨j,hj⟩:=aeh hz;have wu:j<fs.size:=by rw[←hl];exact(ag6.1 hj).1
 obtain⟨f,hfj⟩:∃f,fs[j]?=some f:=⟨_,aeM wu⟩;have h5:=hf j f z hfj hj;have h6:=u7.2 j (by simpa using wu);rw[hfj] at h6;simp only[ady] at h6;have h7:=h6.1.1.2;subst e;cases h5 with
 |g ZA _ _=>unfold Nv at h7;rw[ZA] at h7;simp at h7
inductive ZB (P:Program):List TypeId→List IV→Prop
 |nil:ZB P [] []
 |cons {t:TypeId} {y:IV} {ts:List TypeId} {ys:List IV}:Sh P t y→ZB P ts ys→ZB P (t::ts) (y::ys)
theorem I9 (B:Bk H) {T:List TypeId} (hT:∀t∈T,VX P T t=true) {W:World} {r:Reach} {b0:Nat}:∀{ts:List TypeId} {vs:List Value} {ds:List (DataW H)} {ps:List MemPlace},(∀t∈ts,t∈T) →
  (∀(j:Nat) (t:TypeId) (v:Value),ts[j]?=some t→vs[j]?=some v→Value.okWide P W r b0 t v)→DataW.TrodAll enc P W 0 (fun _=>true) true ts vs ds ps →
  ∃ys:List IV,ZB P ts ys∧rI ys≤(ds.map B.bk).sum∧cM W pL Hp.none (fun _=>True) (ys.map IV.av) vs
 |[],vs,ds,ps,_,_,h=>by
  obtain⟨rfl,rfl,rfl⟩:=trodAll_nil h;exact⟨[],.nil,by simp[rI],by simp[cM]⟩
 |t::ts,vs,ds,ps,ht,hv,h=>by
  obtain⟨v,vs,d,ds,p,q,rfl,rfl,rfl,h1,h2⟩:=trodAll_cons h;obtain⟨y,k1,k2,k3⟩:=V0 B hT (ht t (by simp)) (hv 0 t v rfl rfl) h1;obtain⟨ys,q1,q2,q3⟩:=I9 B hT (fun t' h'=>ht t' (by simp[h'])) (fun j t' v' a b=>hv (j+1) t' v' (by simpa using a) (by simpa using b)) h2;exact⟨y::ys,.cons k1 q1,by simp only[rI,ad5,afU];omega,by simp only[ad5,cM];exact⟨v,vs,rfl,k3,q3⟩⟩
theorem yB {W:World} {b0:Nat} {sp:Nat→Bool} {hd:Bool}:∀{ts:List TypeId} {vs:List Value} {ds:List (DataW H)} {ps:List MemPlace},DataW.TrodAll enc P W b0 sp hd ts vs ds ps→ds.length=ts.length
 |[],vs,ds,ps,h=>by
  obtain⟨_,rfl,_⟩:=trodAll_nil h;rfl
 |t::ts,vs,ds,ps,h=>by
  obtain⟨v,vs,d,ds,p,q,rfl,rfl,rfl,_,h2⟩:=trodAll_cons h;simp[yB h2]
end
end Go.Am

namespace Go.Am
open Go Go.RowKit
def qc:List (Nat×AV)→Env
 |[]=>Env.any
 |(n,x)::r=>put (qc r) n x
def RP:qc []=Env.any:=rfl
def EY (n:Nat) (x:AV) (r:List (Nat×AV)):qc ((n,x)::r)=put (qc r) n x:=rfl
def kv (ρ:Lb→Lb) (env:Env):List (Nat×AV)→Prop
 |[]=>True
 |(n,x)::r=>env n=e7 ρ x∧kv ρ env r
def GL (env:Env):List (Nat×AV)→Prop
 |[]=>True
 |(n,x)::r=>env n=x∧GL env r
theorem kv.we {ρ:Lb→Lb} {env:Env}:∀{ps:List (Nat×AV)},kv ρ env ps→∀n,qc ps n= .any∨env n=e7 ρ (qc ps n)
 |[],_=>mn ρ env
 |(n,x)::r,h=>cJ h.1 (kv.we h.2)
theorem GL.eql {env:Env}:∀{ps:List (Nat×AV)},GL env ps→kv id env ps
 |[],_=>trivial
 |(n,x)::r,h=>⟨by rw[DA];exact h.1,GL.eql h.2⟩
theorem vO {H:Hp}:∀{ps:List (Nat×AV)},(∀l∈ah (ps.map Prod.snd),H l≠ .unused)→∀n,∀l∈(qc ps n).aB,H l≠ .unused
 |[],_=>mo H
 |(n,x)::r,h=>cL (fun l hl=>h l (by simp[ah,hl])) (vO fun l hl=>h l (by simp only[ad5,ah,adD];exact .inr hl))
def NF (H:Hp):Prop:=∀l:Lb,l.fresh=false→H l= .unused
def RQ:NF Hp.none=True:=by simp[NF,Hp.none]
def V1 (H:Hp) (n:Nat) (s:Slot):NF (bF H (.loc n) s)=NF H:=by
 apply propext;constructor
 ·intro h l hl;have:=h l hl;have ff:l≠ .loc n:=by rintro rfl;simp[Lb.fresh] at hl
  rwa[ax _ _ ff] at this
 exact nc
def tf {σ:Type} (S:St) (Q:oW) (k:List It) (W:Env→Hp→σ→Prop) (μ:σ→Nat) (n:Nat):oW:=fun e env H=>
 match e with
 | .normal=>∃s,μ s<n∧W env H s
 | .exit id=>match jS id k with
  |some k'=>go S Q k' env H
  |none=>Q (.exit id) env H
 | .ret=>Q .ret env H
 |_=>False
def re {σ:Type} {S:St} {Q:oW} {c:AC} {k:List It} {env:Env} {H:Hp} (E:σ→Env) (HH:σ→Hp) (W:Env→Hp→σ→Prop) (hW:∀env H s,W env H s→∃ρ,Wk ρ env H (E s) (HH s))
  (μ:σ→Nat) (s0:σ) (h0:W env H s0) (round:∀s,go S (tf S Q k W μ (μ s)) [.code c] (E s) (HH s)):vk S Q c k env H:=by
 intro K Zp hS c0 ck hc fX β a w hr;subst Zp;simp only[PH,Exit.then];obtain⟨ρ,h0⟩:=hW _ _ _ h0;refine wp_loop_ghost (fun n a w=>∃s β,μ s=n∧bu K β (E s) (HH s) a w) (μ s0) ⟨s0,_,rfl,h0.rel hS hr⟩ ?_;rintro n a w ⟨s,β,rfl,hr⟩;have hs:=go_sound (K:=K) hS _ (yy [.code c]) [.code c] [.code c0] (adw _) (.cons (.code hc) .nil) (E s) (HH s) (round s) β a w hr;simp only[PH,Exit.then] at hs;refine wp_mono hs ?_;rintro e a' w' ⟨env',H',β',hq,sY⟩;cases e with
 |normal=>
  obtain⟨s',bO,hw⟩:=hq;obtain⟨ρ',hw⟩:=hW _ _ _ hw;exact⟨μ s',bO,s',_,rfl,hw.rel hS sY⟩
 |exit id=>
  have hp:=rb (P:=K.P) (G:=K.G) (lift K Q) (id:=id) ck k fX;simp only[tf] at hq;show PH K.P (lift K Q) ck (.exit id) a' w';cases vL:jS id k with
  |some k'=>
   rw[vL] at hp hq;obtain⟨Mu,e1,e2⟩:=hp;exact e2 a' w' (go_sound (K:=K) hS Q (yy k') k' Mu (adw _) e1 env' H' hq β' a' w' sY)
  |none=>
  rw[vL] at hp hq;exact hp a' w' ⟨env',H',β',hq,sY⟩
 |ret=>exact Ae _ _ _ _ _ ⟨env',H',β',hq,sY⟩
 |goto l=>exact hq.elim
 |panic ch=>exact hq.elim
 |outgrown=>exact hq.elim
mutual
theorem rf (ρ:Lb→Lb):∀x:AV,x.aB=[]→e7 ρ x=x
 | .sl ..,h| .slk ..,h| .ptr ..,h=>by simp[AV.aB] at h
 | .any,_| .un,_| .bool _,_| .int ..,_| .str _,_| .list _,_| .nil0,_| .nD,_| .mH,_| .lptr _,_=>by simp[e7]
 | .agg cs,h=>by simp only[AV.aB] at h;simp[e7,lF ρ cs h]
 | .dM cs,h=>by simp only[AV.aB] at h;simp[e7,lF ρ cs h]
 | .fn f fs cs,h=>by simp only[AV.aB,afy] at h;simp[e7,lF ρ fs h.1,lF ρ cs h.2]
 | .ifc t x,h=>by simp only[AV.aB] at h;simp[e7,rf ρ x h]
theorem lF (ρ:Lb→Lb):∀xs:List AV,ah xs=[]→aY ρ xs=xs
 |[],_=>by simp[aY]
 |x::r,h=>by simp only[ah,afy] at h;simp[aY,rf ρ x h.1,lF ρ r h.2]
end
def WD {σ:Type} (ps:σ→List (Nat×AV)) (env:Env) (H:Hp) (s:σ):Prop:=NF H∧GL env (ps s)
def mK {σ:Type} {S:St} {Q:oW} {c:AC} {k:List It} {env:Env} {H:Hp} (ps:σ→List (Nat×AV)) (μ:σ→Nat) (s0:σ) (hl:∀s,ah ((ps s).map Prod.snd)=[]) (h0:WD ps env H s0)
  (round:∀s,go S (tf S Q k (WD ps) μ (μ s)) [.code c] (qc (ps s)) Hp.none):vk S Q c k env H:=
 re (fun s=>qc (ps s)) (fun _=>Hp.none) (WD ps) (fun env H s ⟨h1,h2⟩=>⟨id,h2.eql.we,fun l r h=>by simp[Hp.none] at h,fun _ _ ⟨r,h⟩=>by simp[Hp.none] at h,vO (by rw[hl];simp),fun l r h=>by simp[Hp.none] at h,
  fun l hl=>⟨fun h=>absurd (h1 l (Lb.oq hl)) h,fun _=>rfl⟩,fun l ⟨r,h⟩=>by simp[Hp.none] at h⟩) μ s0 h0 round
def WR {σ:Type} (d sz:Nat) (ps:σ→List (Nat×AV)) (xs:σ→List IV) (env:Env) (H:Hp) (s:σ):Prop:=
 NF H∧GL env (ps s)∧∃n els,env d= .sl (.loc n) sz 0 (xs s).length∧H (.loc n)= .live ⟨sz,els⟩∧els=ar (xs s)
def Nz {σ:Type} {S:St} {Q:oW} {c:AC} {k:List It} {env:Env} {H:Hp} (d sz:Nat) (ps:σ→List (Nat×AV)) (xs:σ→List IV) (μ:σ→Nat) (s0:σ) (hl:∀s,ah ((ps s).map Prod.snd)=[]) (h0:WR d sz ps xs env H s0)
  (round:∀s,go S (tf S Q k (WR d sz ps xs) μ (μ s)) [.code c] (qc ((d,.sl (.loc d) sz 0 (xs s).length)::ps s)) (bF Hp.none (.loc d) (.live ⟨sz,ar (xs s)⟩))):vk S Q c k env H:=by
 refine re (fun s=>qc ((d,.sl (.loc d) sz 0 (xs s).length)::ps s)) (fun s=>bF Hp.none (.loc d) (.live ⟨sz,ar (xs s)⟩)) (WR d sz ps xs) ?_ μ s0 h0 round;rintro env H s ⟨h1,h2,n,els,h3,h4,rfl⟩;have key:∀{r:List (Nat×AV)},GL env r→ah (r.map Prod.snd)=[]→kv (fun _=> .loc n) env r:=by
  intro r;induction r with
  |nil=>exact fun _ _=>trivial
  |cons p r ih=>
  obtain⟨m,x⟩:=p;intro h mT;simp only[ad5,ah,afy] at mT;refine⟨?_,ih h.2 mT.2⟩;rw[h.1];exact(rf _ x mT.1).symm
 refine⟨fun _=> .loc n,Wk.one (kv.we (ps:=(d,.sl (.loc d) sz 0 (xs s).length)::ps s) ⟨h3,key h2 (hl s)⟩) (vO ?_) h4 rfl rfl h1⟩;simp[ah,AV.aB,hl s]
def kx:List (Lb×Row)→Hp
 |[]=>Hp.none
 |(l,r)::t=>bF (kx t) l (.live r)
def bZ:List (Lb×Lb)→Lb→Lb
 |[],l=>l
 |(a,b)::t,l=>if l=a then b else bZ t l
def qe (ρ:Lb→Lb) (H:Hp):List (Lb×Row)→Prop
 |[]=>True
 |(l,r)::t=>H (ρ l)= .live (cV ρ r)∧qe ρ H t
def V2 (H:Hp) (ls:List Lb):Prop:=∀l:Lb,l.fresh=false→H l≠ .unused→l∈ls
def ox (ls:List Lb):V2 Hp.none ls=True:=by simp[V2,Hp.none]
def qo (H:Hp) (n:Nat) (s:Slot) (ls:List Lb):V2 (bF H (.loc n) s) ls=V2 H ls:=by
 apply propext;constructor
 ·intro h l hl hu;have ff:l≠ .loc n:=by rintro rfl;simp[Lb.fresh] at hl
  exact h l hl (by rwa[ax _ _ ff])
 intro h l hl hu;have ff:l≠ .loc n:=by rintro rfl;simp[Lb.fresh] at hl
 rw[ax _ _ ff] at hu;exact h l hl hu
structure WRs (ls:List Lb) (ps:List (Nat×AV)) (rs:List (Lb×Row)) (env:Env) (H:Hp) (m:List (Lb×Lb)):Prop where
 nf:V2 H ls
 e:kv (bZ m) env ps
 r:qe (bZ m) H rs
 inj:(ls.map (bZ m)).Nodup
 fr:∀l∈ls,(l.fresh=true→(bZ m l).fresh=true)∧(l.fresh=false→bZ m l=l)
def kq {rs:List (Lb×Row)}:∀{l:Lb} {r:Row},kx rs l= .live r→(l,r)∈rs:=by
 induction rs with
 |nil=>intro l r h;simp[kx,Hp.none] at h
 |cons p t ih=>
 obtain⟨l0,r0⟩:=p;intro l r h;simp only[kx,bF] at h;split at h
 ·next e=>cases h;subst e;simp
 exact afT _ (ih h)
def wG {rs:List (Lb×Row)} {l:Lb} (h:l∈rs.map Prod.fst):kx rs l≠ .unused:=by
 induction rs with
 |nil=>simp at h
 |cons p t ih=>
 obtain⟨l0,r0⟩:=p;simp only[kx,bF];split
 ·simp
 next e=>exact ih (by simpa[e] using h)
theorem zw {ρ:Lb→Lb} {H:Hp}:∀{rs:List (Lb×Row)},qe ρ H rs→∀{l:Lb} {r:Row},(l,r)∈rs→H (ρ l)= .live (cV ρ r)
 |[],_,_,_,h=>by simp at h
 |(l0,r0)::t,h,l,r,hm=>by
  simp only[adz,adJ] at hm;rcases hm with⟨rfl,rfl⟩|hm
  ·exact h.1
  exact zw h.2 hm
theorem mb {α β:Type} [DecidableEq β] {f:α→β}:∀{l:List α},(l.map f).Nodup→∀a∈l,∀b∈l,f a=f b→a=b
 |[],_,_,h,_,_,_=>by simp at h
 |x::l,hd,a,ha,b,hb,e=>by
  simp only[ad5,agf,adY,not_exists,not_and] at hd;simp only[adz] at ha hb;rcases ha with rfl|ha<;>rcases hb with rfl|hb
  ·rfl
  ·exact absurd e.symm (hd.1 b hb)
  ·exact absurd e (hd.1 a ha)
  exact mb hd.2 a ha b hb e
def WRs.wk {ls:List Lb} {ps:List (Nat×AV)} {rs:List (Lb×Row)} {env:Env} {H:Hp} {m:List (Lb×Lb)} (h:WRs ls ps rs env H m) (rH:rs.map Prod.fst=ls) (hp:∀l∈ah (ps.map Prod.snd),l∈ls)
  (hr:∀q∈rs,∀cs∈q.2.els,∀l∈ah cs,l∈ls):Wk (bZ m) env H (qc ps) (kx rs):=by
 have Ah:∀l,live (kx rs) l→l∈ls:=fun l ⟨r,h⟩=>by rw[←rH];exact adY.2 ⟨_,kq h,rfl⟩
 refine⟨h.e.we,fun l r hl=>zw h.r (kq hl),fun l l' h1 h2 e=>mb h.inj l (Ah l h1) l' (Ah l' h2) e,vO fun l hl=>wG (by rw[rH];exact hp l hl),fun l r hl cs bS q hq=> ?_,fun l hf=>⟨fun hu=> ?_,fun hl=>(h.fr l (Ah l hl)).2 (Lb.oq hf)⟩,fun l hl hf=>(h.fr l (Ah l hl)).1 hf⟩
 ·exact wG (by rw[rH];exact hr _ (kq hl) cs bS q hq)
 exact wG (by rw[rH];exact h.nf l (Lb.oq hf) hu)
section
variable {σ:Type} {S:St} {Q:oW} {k:List It} {W:Env→Hp→σ→Prop} {μ:σ→Nat} {n:Nat} {env:Env} {H:Hp}
def abS:tf S Q k W μ n .normal env H=∃s,μ s<n∧W env H s:=rfl
theorem abT (id:Nat):tf S Q k W μ n (.exit id) env H=match jS id k with
 |some k'=>go S Q k' env H
 |none=>Q (.exit id) env H:=rfl
def abU:tf S Q k W μ n .ret env H=Q .ret env H:=rfl
def I_:GL env []=True:=rfl
def EZ (n:Nat) (x:AV) (r:List (Nat×AV)):GL env ((n,x)::r)=(env n=x∧GL env r):=rfl
end
def qG {b:Bool} {A B:Prop} {u:Tp A B} (h1:b=true→A) (h2:b=false→B):cK (.bool b) A B u:=by
 cases b
 ·exact h2 rfl
 exact h1 rfl
def ZC {b:Bool} {A B:Prop} {u:Tp A B} (h1:b=true→A) (h2:b=false→B):gB (.bool b) true A B u:=by
 cases b
 ·rw[Zs];exact h2 rfl
 rw[Zr];exact h1 rfl
def abV (env:Env) (n:Nat):ev env (.t n)=env n:=rfl
def abW (env:Env) (x:AV):ev env (.c x)=x:=rfl
def V3 (n:Nat) (h:n≤4000):(n≤maxLen)=True:=by simp[maxLen];omega

def V4 (b:Bool) (A B:Prop) (u:Tp A B):cK (.bool (!b)) A B u=cK (.bool b) B A .mk:=by cases b<;>simp[cK]
def V5 (b t:Bool) (A B:Prop) (u:Tp A B):gB (.bool (!b)) t A B u=gB (.bool b) (!t) A B .mk:=by cases b<;>cases t<;>simp[gB]
def Ja (args:List AV) (n:Nat):lE args n=args.getD n .un:=rfl
def Jb (l:Lb):Hp.none l= .unused:=rfl
def V6 (n:Nat):Env.any n= .any:=rfl
def ZD {σ:Type} (ps:σ→List (Nat×AV)) (env:Env) (H:Hp) (s:σ):WD ps env H s=(NF H∧GL env (ps s)):=rfl
def KP (cs:List IV):(IV.agg cs).cells=cs:=rfl
def ZE (b:Bool):(false ^^ b)=b:=by cases b<;>rfl
def ZF (b:Bool):(true ^^ b)= !b:=by cases b<;>rfl
def xI:=And.intro @List.getD_cons_zero.{0} (And.intro @List.getD_cons_succ.{0} (And.intro @List.length_map.{0,0} (And.intro @List.length_cons.{0} (And.intro @List.length_nil.{0} (And.intro @ae (And.intro @List.getElem?_cons_zero.{0} (And.intro @List.getElem?_cons_succ.{0} (And.intro @Option.bind_some.{0,0} (And.intro @Option.map_some.{0,0} (And.intro @List.map_cons.{0,0} (And.intro @List.map_nil.{0,0} (And.intro @adt (And.intro @ag9 (And.intro @List.all_cons.{0} (And.intro @List.all_nil.{0} (And.intro @List.take_succ_cons.{0} (And.intro @List.take_zero.{0} (And.intro @List.drop_succ_cons.{0} (And.intro @List.drop_zero.{0} (And.intro @List.cons_append.{0} (And.intro @List.nil_append.{0} (And.intro @List.append_nil.{0} (And.intro @List.set_cons_zero.{0} (And.intro @List.set_cons_succ.{0} (And.intro @List.take_nil.{0} (And.intro @List.drop_nil.{0} (And.intro @List.replicate_one.{0} (And.intro @List.flatten_cons.{0} (And.intro @List.flatten_nil.{0} (And.intro @Ja (And.intro @Jb (And.intro @V6 (And.intro @abV (And.intro @abW (And.intro @abS (And.intro @abT (And.intro @abU (And.intro @RP (And.intro @EY (And.intro @I_ (And.intro @EZ (And.intro @RQ (And.intro @V1 (And.intro @V4 (And.intro @V5 (And.intro @ZD (And.intro @KP (And.intro @ZE @ZF))))))))))))))))))))))))))))))))))))))))))))))))
def evl:=And.intro @afl (And.intro @adC (And.intro @agF (And.intro @adw (And.intro @V3 (And.intro @Bool.and_self (And.intro @agU (And.intro @afJ (And.intro @adL (And.intro @adI (And.intro @Bool.not_not (And.intro @adF (And.intro @agv (And.intro @adO (And.intro @implies_true.{1} (And.intro @false_implies (@List.mem_cons.{0}))))))))))))))))
def V7 (x:AV) (k:AV→Prop) (_:Tv k):Prop:=∃R,MV x=some R∧∀m,R m→m≤maxLen→k (.int .i64 (m:Int))
def exK (S:St) (f:Nat) (args:List AV) (H:Hp) (k:AV→Prop) (_:Tv k):Prop:=∃res,o7 S f args H res∧k res
section
variable {S:St} {Q:oW} {env:Env} {H:Hp}
def V8 (d:Option Nat) (x:O) (k:AV→Hp→Prop):cT S d (.cap x) env H k=V7 (ev env x) (fun y=>k y H) .mk:=rfl
def V9 (d:Option Nat) (s x:O) (sz:Nat) (k:AV→Hp→Prop):cT S d (.xu s x sz) env H k=pK (Dr sz (ev env s) (ev env x) H) k .mk:=rfl
def V' (d:Option Nat) (x:O) (sz:Nat) (z:List AV) (k:AV→Hp→Prop):cT S d (.Ek x sz z) env H k=hK (Ds sz z (ev env x) H) (fun H'=>k (.dM []) H') .mk:=rfl
def V_ (q:Nat) (n c:O) (sz b:Nat) (z:List AV) (k:AV→Hp→Prop):cT S (some q) (.Ej n c sz b z) env H k=pK (z8 sz b q z (ev env n) (ev env c) H) k .mk:=by
 simp[cT,pK]
def NA (d:Option Nat) (f:Nat) (args:List O) (k:AV→Hp→Prop):cT S d (.o3 f args) env H k=exK S f (args.map (ev env)) H (fun y=>k y H) .mk:=rfl
def RR d x n sz (k:AV→Hp→Prop):cT S d (.zN x n sz) env H k=ga (aj (.zN x n sz) env) (fun x=>k x H) .mk:=rfl
def RS d s x sz b (k:AV→Hp→Prop):cT S d (.xw s x sz b) env H k=ga (aj (.xw s x sz b) env) (fun x=>k x H) .mk:=rfl
def NB d x n sz (k:AV→Hp→Prop):a_ S .no d (.zN x n sz) env H k=ga (aj (.zN x n sz) env) (fun x=>k x H) .mk:=by simp only[a_,Quiet,ga,adO]
def ND d s x sz b (k:AV→Hp→Prop):a_ S .no d (.xw s x sz b) env H k=ga (aj (.xw s x sz b) env) (fun x=>k x H) .mk:=by simp only[a_,Quiet,ga,adO]
def Wa (R W:List Lb) (d:Option Nat) (s x:O) (sz:Nat) (k:AV→Hp→Prop):a_ S (.rw R W) d (.xu s x sz) env H k =
  pK (Dr sz (ev env s) (ev env x) H) (fun y H'=>(∀l∈j4 (ev env x),l.kQ∈R∨l.kQ∈W)∧(∀l∈j4 (ev env s),l.kQ∈W)∧k y H') .mk:=by
 simp only[a_,iK,fY,bc,pK]
def Wb (R W:List Lb) (d:Option Nat) (x:O) (sz:Nat) (z:List AV) (k:AV→Hp→Prop):a_ S (.rw R W) d (.Ek x sz z) env H k =
  hK (Ds sz z (ev env x) H) (fun H'=>(∀l∈j4 (ev env x),l.kQ∈W)∧k (.dM []) H') .mk:=by
 apply propext;simp only[a_,iK,fY,bc,hK];constructor
 ·rintro⟨x1,H',h1,_,h2,h3⟩;obtain⟨H2,h5,h4⟩:=ag4.1 h1;simp only[adJ] at h4;obtain⟨rfl,rfl⟩:=h4;exact⟨H2,h5,h2,h3⟩
 rintro⟨H2,h1,h2,h3⟩;exact⟨.dM [],H2,by rw[h1];rfl,by simp,h2,h3⟩
def RT (q:Nat) (s n:O) (sz b:Nat) (z:List AV) (k:AV→Hp→Prop):cT S (some q) (.zO s n sz b z) env H k=pK (B9 sz b q z (ev env s) (ev env n) H) k .mk:=by
 simp[cT,pK]
def NG (q:Nat) (sz:Nat) (z:List AV) (ps:List (Nat×O)) (k:AV→Hp→Prop):cT S (some q) (.ou sz z ps) env H k=pK (Dt sz q z (ps.map fun p=>(p.1,ev env p.2)) H) k .mk:=by
 simp[cT,pK]
def NH (R W:List Lb) (q:Nat) (sz:Nat) (z:List AV) (ps:List (Nat×O)) (k:AV→Hp→Prop):a_ S (.rw R W) (some q) (.ou sz z ps) env H k =
  pK (Dt sz q z (ps.map fun p=>(p.1,ev env p.2)) H) (fun y H'=>Lb.loc q∈W∧k y H') .mk:=by
 simp[a_,iK,fY,bc,pK,Lb.kQ]
def Wc d f qs cs (k:AV→Hp→Prop):cT S d (.Qp f qs cs) env H k=ga (aj (.Qp f qs cs) env) (fun x=>k x H) .mk:=rfl
def RU d f qs cs (k:AV→Hp→Prop):a_ S .no d (.Qp f qs cs) env H k=ga (aj (.Qp f qs cs) env) (fun x=>k x H) .mk:=by simp only[a_,Quiet,ga,adO]
def RW {sz d:Nat} {z:List AV} {ps:List (Nat×AV)} {cs:List AV} (h1:lO z (ps.map fun p=>(p.1*sz,sz,p.2))=some cs) (h2:H (.loc d)= .unused) (h3:cs.length=sz) (h4:0<sz) :
  Dt sz d z ps H=some (.sl (.loc d) sz 0 1,bF H (.loc d) (.live ⟨sz,[cs]⟩)):=by
 unfold Dt;rw[h1,adA,adv ⟨h2,h3,h4⟩]
def Wd (d:Option Nat) (i:eF) (k:AV→Hp→Prop):a_ S .all d i env H k=cT S d i env H k:=rfl
def NI (S:St) (F:List Lb) (f:Nat) (args:List AV) (H:Hp) (k:AV→Hp→Prop) (_:Tw k):Prop:=Zl S F f args H k
def We (F:List Lb) (d:Option Nat) (f:Nat) (args:List O) (k:AV→Hp→Prop):a_ S (.vj F) d (.call f args) env H k=NI S F f (args.map (ev env)) H k .mk:=rfl
def NJ {F:List Lb} {f:Nat} {args dG:List AV} {res:AV} {k:AV→Hp→Prop} (h:aw S.P S.G f dG res) (ha:gT (Du H) args dG) (hs:res.scalar=true) (hk:k res H) {u:Tw k}:NI S F f args H k u:=
 ⟨fun x H'=>x=res∧H'=H,.inr (.inl ⟨dG,res,ha,h,hs,rfl,rfl⟩),⟨res,H,rfl,rfl⟩,fun x H' ⟨e1,e2⟩=>by subst e1;subst e2;exact⟨fun _ _=>rfl,hk⟩⟩
def Ai {f:Nat} {args:List AV} {res:AV} {k:AV→Prop} (h:o7 S f args H res) (hk:k res) {u:Tv k}:exK S f args H k u:=⟨res,h,hk⟩
def E0 (l:Lb) (sz i n c:Nat) (k:AV→Prop) (u:Tv k):V7 (.slk l sz i n c) k u=(c≤maxLen→k (.int .i64 (c:Int))):=by
 simp only[V7,MV,jl];apply propext;constructor
 ·rintro⟨R,rfl,h⟩ hc;exact h c rfl hc
 intro h;exact⟨_,rfl,fun m hm hc=>by subst hm;exact h hc⟩
end
def evx:=And.intro @RT<|And.intro @NG<|And.intro @NH<|And.intro @Wc<|And.intro @RU<|And.intro @V8 (And.intro @V9 (And.intro @V' (And.intro @V_ (And.intro @NA (And.intro @RR (And.intro @RS (And.intro @NB (And.intro @ND (And.intro @Wa (And.intro @Wb<|And.intro @We @Wd))))))))))
def aX:=And.intro kM<|And.intro evx<|And.intro aS<|And.intro aT<|And.intro @ba<|And.intro @aU<|And.intro @bJ<|And.intro @bH @bI
def mP:=And.intro Lb.loc.injEq<|And.intro Lb.par.injEq<|And.intro Lb.gen.injEq<|And.intro @IL<|And.intro @Df<|And.intro @IM<|And.intro @Ew<|And.intro adQ<|And.intro Int.le_refl Int.toNat_zero
def mX:=And.intro evp (And.intro xI (And.intro evl (And.intro mP (And.intro @KL.eq_1 (And.intro @aj.eq_1 (And.intro @aj.eq_2 (And.intro @aj.eq_3 (And.intro @aj.eq_4 (And.intro @aj.eq_5 (And.intro @aj.eq_6 (And.intro @aj.eq_7 (And.intro @aj.eq_8 (And.intro @aj.eq_9 (And.intro @aj.eq_10 (And.intro @aj.eq_11 (And.intro @aj.eq_12 (And.intro @aj.eq_13 (And.intro @aj.eq_14 (And.intro @aj.eq_15 (And.intro @aj.eq_16 (And.intro @aj.eq_17 (And.intro @aj.eq_18 (And.intro @aj.eq_19 (And.intro @aj.eq_20 (And.intro @aj.eq_21 (And.intro @aj.eq_22 (And.intro @aj.eq_23 (And.intro @aj.eq_24 (And.intro @aj.eq_25 (And.intro @aj.eq_26 (And.intro @aj.eq_27 (And.intro @aj.eq_28 (And.intro @aj.eq_29 (And.intro @aj.eq_30 (And.intro @aj.eq_31 (And.intro @aj.eq_32 (And.intro @aj.eq_33 (And.intro @aj.eq_34 (And.intro @aj.eq_35 (And.intro @aj.eq_36 (And.intro @ja.eq_1 (And.intro @ja.eq_2 (And.intro @ja.eq_3 (And.intro @ja.eq_4 (And.intro @ja.eq_5 (And.intro @ja.eq_6 (And.intro @ja.eq_7 (And.intro @ja.eq_8 (And.intro @ja.eq_9 (And.intro @ja.eq_10 (And.intro @ja.eq_11 (And.intro @ja.eq_12 (And.intro @ja.eq_13 (And.intro @ja.eq_14 (And.intro @ja.eq_15 (And.intro @ja.eq_16 (And.intro @ja.eq_17 (And.intro @ja.eq_18 (And.intro @ja.eq_19 (And.intro @ja.eq_20 (And.intro @ja.eq_21 (And.intro @ja.eq_22 (And.intro @jR.eq_1 (And.intro @jR.eq_2 (And.intro @pE.eq_1 (And.intro @pE.eq_2 (And.intro @TS.eq_1 (And.intro @TS.eq_2 (And.intro @TS.eq_3 (And.intro @j4.eq_1 (And.intro @j4.eq_2 (And.intro @j4.eq_3 (And.intro @j4.eq_4 (And.intro @Ag.eq_1 (And.intro @Ag.eq_2 (And.intro @Ag.eq_3 (And.intro @lO.eq_1 (And.intro @lO.eq_2 (And.intro @chunks.eq_1 (And.intro @chunks.eq_2 (And.intro @Ex.eq_1 (And.intro @Ex.eq_2 (And.intro @QF.eq_1 (And.intro @QF.eq_2 (And.intro @AV.cells.eq_1 (And.intro @AV.cells.eq_2 (And.intro @AV.GF.eq_1 (And.intro @AV.GF.eq_2 (And.intro @AV.one.eq_1 (And.intro @AV.one.eq_2 (And.intro @AV.one.eq_3 (And.intro @AV.one.eq_4 (And.intro @AV.one.eq_5 (And.intro @IV.gK.eq_1 (And.intro @IV.gK.eq_2 (And.intro @IV.gK.eq_3 (And.intro @IV.gK.eq_4 (And.intro @IV.gK.eq_5 (And.intro @Lb.app.eq_1 (And.intro @Lb.fresh.eq_1 (And.intro @Lb.fresh.eq_2 (And.intro @Lb.fresh.eq_3 (And.intro @AV.iv.eq_1 (And.intro @AV.iv.eq_2 (And.intro @AV.iv.eq_3 (And.intro @AV.iv.eq_4 (And.intro @AV.iv.eq_5 (And.intro @AV.iv.eq_6 (And.intro @if_true.{1} (And.intro @if_false.{1} (And.intro @List.not_mem_nil.{0} (And.intro @forall_eq.{1} (And.intro @beq_self_eq_true.{0} @List.isEmpty_nil.{0})))))))))))))))))))))))))))))))))))))))))))))))))))))))))))))))))))))))))))))))))))))))))))))))))))))))))))))))))
def lX:=And.intro @ev.eq_1 (And.intro @ev.eq_2 (And.intro @Ja (And.intro @List.getD_cons_zero.{0} (And.intro @List.getD_cons_succ.{0} (And.intro @adF (And.intro @agv (And.intro @List.length_map.{0,0} (And.intro @List.length_cons.{0} (And.intro @List.length_nil.{0} (And.intro @ae (And.intro @Lb.loc.injEq (And.intro @List.getElem?_cons_zero.{0} (And.intro @List.getElem?_cons_succ.{0} (And.intro @Option.bind_some.{0,0} (And.intro @Option.map_some.{0,0} (And.intro @List.map_cons.{0,0} (And.intro @List.map_nil.{0,0} (And.intro @adt (And.intro @ag9 (And.intro @List.all_cons.{0} (And.intro @List.all_nil.{0} (And.intro @Bool.and_self (And.intro @agU (And.intro @afJ (And.intro @List.take_succ_cons.{0} (And.intro @List.take_zero.{0} (And.intro @List.drop_succ_cons.{0} (And.intro @List.drop_zero.{0} (And.intro @List.cons_append.{0} (And.intro @List.nil_append.{0} (And.intro @List.append_nil.{0} (And.intro @List.set_cons_zero.{0} (And.intro @IL (And.intro @Df (And.intro @IM (And.intro @Ew (And.intro @adQ (And.intro @List.mem_cons.{0} (And.intro @adO (And.intro @false_implies (And.intro @implies_true.{1} (And.intro @Jb (And.intro @adw (And.intro @List.set_cons_succ.{0} (And.intro @List.replicate_one.{0} (And.intro @List.flatten_cons.{0} (And.intro @List.flatten_nil.{0} (And.intro @afl (And.intro @adC @agF)))))))))))))))))))))))))))))))))))))))))))))))))
def lK:=And.intro evp (And.intro @KL.eq_1 (And.intro @aj.eq_1 (And.intro @aj.eq_2 (And.intro @aj.eq_3 (And.intro @aj.eq_4 (And.intro @aj.eq_5 (And.intro @aj.eq_6 (And.intro @aj.eq_7 (And.intro @aj.eq_8 (And.intro @aj.eq_9 (And.intro @aj.eq_10 (And.intro @aj.eq_11 (And.intro @aj.eq_12 (And.intro @aj.eq_13 (And.intro @aj.eq_14 (And.intro @aj.eq_15 (And.intro @aj.eq_16 (And.intro @aj.eq_17 (And.intro @aj.eq_18 (And.intro @aj.eq_19 (And.intro @aj.eq_20 (And.intro @aj.eq_21 (And.intro @aj.eq_22 (And.intro @aj.eq_23 (And.intro @aj.eq_24 (And.intro @aj.eq_25 (And.intro @aj.eq_26 (And.intro @aj.eq_27 (And.intro @aj.eq_28 (And.intro @aj.eq_29 (And.intro @aj.eq_30 (And.intro @aj.eq_31 (And.intro @aj.eq_32 (And.intro @aj.eq_33 (And.intro @aj.eq_34 (And.intro @aj.eq_35 (And.intro @aj.eq_36 (And.intro @ja.eq_1 (And.intro @ja.eq_2 (And.intro @ja.eq_3 (And.intro @ja.eq_4 (And.intro @ja.eq_5 (And.intro @ja.eq_6 (And.intro @ja.eq_7 (And.intro @ja.eq_8 (And.intro @ja.eq_9 (And.intro @ja.eq_10 (And.intro @ja.eq_11 (And.intro @ja.eq_12 (And.intro @ja.eq_13 (And.intro @ja.eq_14 (And.intro @ja.eq_15 (And.intro @ja.eq_16 (And.intro @ja.eq_17 (And.intro @ja.eq_18 (And.intro @ja.eq_19 (And.intro @ja.eq_20 (And.intro @ja.eq_21 (And.intro @ja.eq_22 (And.intro @jR.eq_1 (And.intro @jR.eq_2 (And.intro @pE.eq_1 (And.intro @pE.eq_2 (And.intro @TS.eq_1 (And.intro @TS.eq_2 (And.intro @TS.eq_3 (And.intro @j4.eq_1 (And.intro @j4.eq_2 (And.intro @j4.eq_3 (And.intro @j4.eq_4 (And.intro @Ag.eq_1 (And.intro @Ag.eq_2 (And.intro @Ag.eq_3 (And.intro @lO.eq_1 (And.intro @lO.eq_2 (And.intro @chunks.eq_1 (And.intro @chunks.eq_2 (And.intro @Ex.eq_1 (And.intro @Ex.eq_2 (And.intro @QF.eq_1 (And.intro @QF.eq_2 (And.intro @AV.cells.eq_1 (And.intro @AV.cells.eq_2 (And.intro @AV.GF.eq_1 (And.intro @AV.GF.eq_2 (And.intro @AV.one.eq_1 (And.intro @AV.one.eq_2 (And.intro @AV.one.eq_3 (And.intro @AV.one.eq_4 (And.intro @AV.one.eq_5 (And.intro @IV.gK.eq_1 (And.intro @IV.gK.eq_2 (And.intro @IV.gK.eq_3 (And.intro @IV.gK.eq_4 (And.intro @IV.gK.eq_5 (And.intro @Lb.app.eq_1 (And.intro @Lb.fresh.eq_1 (And.intro @Lb.fresh.eq_2 (And.intro @Lb.fresh.eq_3 (And.intro @AV.iv.eq_1 (And.intro @AV.iv.eq_2 (And.intro @AV.iv.eq_3 (And.intro @AV.iv.eq_4 (And.intro @AV.iv.eq_5 (And.intro @AV.iv.eq_6 (And.intro @if_true.{1} (And.intro @if_false.{1} (And.intro @List.not_mem_nil.{0} @forall_eq.{1}))))))))))))))))))))))))))))))))))))))))))))))))))))))))))))))))))))))))))))))))))))))))))))))))))))))))))))

open Classical in
noncomputable def gG (kp:Lb→Prop) (H:Hp):Hp:=fun l=>match H l with
 | .live r=>if kp l then .live r else .dead
 |s=>s
def eT {kp:Lb→Prop} {H:Hp} {l:Lb} {r:Row}:gG kp H l= .live r↔H l= .live r∧kp l:=by
 unfold gG;cases h:H l with
 |live r'=>
  by_cases hk:kp l
  ·simp[hk]
  simp[hk]
 |unused=>simp
 |dead=>simp
def kb {kp:Lb→Prop} {H:Hp} {l:Lb}:gG kp H l= .unused↔H l= .unused:=by
 unfold gG;cases h:H l with
 |live r'=>
  by_cases hk:kp l
  ·simp[hk]
  simp[hk]
 |unused=>simp
 |dead=>simp
section
variable {K:Kx} {β:Lb→Option Nat} {env:Env} {H:Hp} {a:Act} {w:World}
def bu.gG (hr:bu K β env H a w) (kp:Lb→Prop):bu K β env (Am.gG kp H) a w:=by
 have:=hr.xD id (env2:=env) (H2:=Am.gG kp H) (fun n=> .inr (DA _).symm) (fun l r h=>by rw[DB];exact(eT.1 h).1) (fun _ _ _ _ h=>h)
  (fun n l hl=>by rw[Ne,kb];exact hr.kL n l hl) (fun l r h cs bS q hq=>by rw[Ne,kb];exact hr.fk l r (eT.1 h).1 cs bS q hq)
  (fun l hl=>⟨by rw[Ne,kb];exact(hr.nF l hl).1,fun _=>rfl⟩) (fun _ _ h=>h)
 exact this
def NK {K:Kx} {β:Lb→Option Nat} {H:Hp} (kp:Lb→Prop) {k:Nat} (h:Im K β H k):Im K β (Am.gG kp H) k:=
 ⟨h.1,fun l ⟨r,hl⟩=>h.2 l ⟨r,(eT.1 hl).1⟩⟩
def RV.gG {w:World} {β:Lb→Option Nat} {H:Hp} {x:AV} {v:Value} (kp:Lb→Prop) (h:RV w β H (Im K β H) x v):RV w β (Am.gG kp H) (Im K β (Am.gG kp H)) x v:=
 RV.mono x v {im:=fun k hk hs=>⟨NK kp hk,hs,rfl⟩,lb:=fun l _ ⟨r,hl⟩=>⟨⟨r,(eT.1 hl).1⟩,rfl,fun _ _ _ h=>h⟩} h
end
def jb.ik {P:Program} {G:Nat→Option (List IV)} {f:Nat} {args:List AV} {H:Hp} {Q:AV→Hp→Prop} (h:jb P G f args H Q) (kp:Lb→Prop) :
  jb P G f args H fun x H'=>∃H1,Q x H1∧H'=gG kp H1:=by
 intro w A β vs hr hv;refine(h w A β vs hr hv).mono ?_;rintro e w' ⟨v,x,H1,β',rfl,hq,sY,hx,hm⟩;exact⟨v,x,gG kp H1,β',rfl,⟨H1,hq,rfl⟩,sY.gG kp,hx.gG kp,fun l hl=>by rw[Ne,kb];exact hm l hl⟩
def kY (cs:List AV):Hp:=bF Hp.none (.par 0) (.live ⟨cs.length,[cs]⟩)
def ez (P:Program) (G:Nat→Option (List IV)) (f:Nat) (args:List AV) (cs:List AV) (R:AV→List AV→Prop):Prop:=
 (∀l∈ah args,l= .par 0)∧ah cs=[]∧jb P G f args (kY cs) fun x H'=>∃jm,R x jm∧x.aB=[]∧ah jm=[]∧jm.length=cs.length∧H' (.par 0)= .live ⟨cs.length,[jm]⟩
def iH (l:Lb):Lb→Lb:=fun q=>if q= .par 0 then l else q
def a7 {S:St} {f:Nat} {args dG:List AV} {cs:List AV} {R:AV→List AV→Prop} {H:Hp} {k:AV→Hp→Prop} {u:Tw k} {l:Lb} (h:ez S.P S.G f dG cs R)
  (ha:args=aY (iH l) dG) (hl:H l= .live ⟨cs.length,[cs]⟩) (hk:∀x jm,R x jm→x.aB=[]→ah jm=[]→jm.length=cs.length→k x (bF H l (.live ⟨cs.length,[jm]⟩))):He S f args H k u:=by
 obtain⟨h1,h2,h3⟩:=h;have bo:∀q r,kY cs q= .live r→q= .par 0∧r=⟨cs.length,[cs]⟩:=by
  intro q r h;by_cases e:q= .par 0
  ·subst e;simp[kY] at h;exact⟨rfl,h.symm⟩
  rw[kY,ax _ _ e] at h;simp[Hp.none] at h
 refine .inr<| .inr ⟨⟨iH l,kY cs,dG,_,h3.ik (fun q=>q= .par 0),ha,?_,?_,?_,?_,?_,?_,?_⟩⟩
 ·intro q r h;obtain⟨rfl,rfl⟩:=bo q r h;simp only[iH,adH,hl,Slot.live.injEq,cV,Row.mk.injEq,ad5,aeW,adF,aeu,agv];exact(lF _ _ h2).symm
 ·intro q hq;by_cases e:q= .par 0
  ·subst e;exact⟨_,by simp[kY];rfl⟩
  rw[kY,ax _ _ e] at hq;simp[Hp.none] at hq
 ·rintro q q' ⟨r,h⟩ ⟨r',h'⟩ _;rw[(bo q r h).1,(bo q' r' h').1]
 ·intro q hq;rw[h1 q hq];simp[kY]
 ·rintro q ⟨r,h⟩;rw[(bo q r h).1];rfl
 ·intro q r h c hc z hz;obtain⟨rfl,rfl⟩:=bo q r h;simp only[adr] at hc;subst hc;rw[h2] at hz;simp at hz
 rintro x H' ⟨H1,⟨jm,e1,e2,e3,e4,e5⟩,rfl⟩;have hH:∀q r,gG (fun q=>q= .par 0) H1 q= .live r→q= .par 0∧r=⟨cs.length,[jm]⟩:=by
  intro q r h;obtain⟨g1,rfl⟩:=eT.1 h;rw[e5] at g1;cases g1;exact⟨rfl,rfl⟩
 have wH:gG (fun q=>q= .par 0) H1 (.par 0)= .live ⟨cs.length,[jm]⟩:=eT.2 ⟨e5,rfl⟩;refine⟨iH l,bF H l (.live ⟨cs.length,[jm]⟩),fun _ _ _=>rfl,?_,?_,?_,?_,?_,?_,?_,?_⟩
 ·intro q r h;by_cases e:q=l
  ·subst e;simp at h;refine .inr ⟨.par 0,_,wH,by simp[iH],?_⟩;rw[←h];simp only[cV,Row.mk.injEq,ad5,aeW,adF,aeu,agv];exact(lF _ _ e3).symm
  rw[ax _ _ e] at h;refine .inl ⟨h,?_⟩;rintro z ⟨r',hz⟩;rw[(bo z r' hz).1];simp only[iH,adH];exact aef e
 ·rintro q q' ⟨r,h⟩ ⟨r',h'⟩ _;rw[(hH q r h).1,(hH q' r' h').1]
 ·intro q hq;by_cases e:q=l
  ·subst e;simp
  rw[ax _ _ e];exact hq
 ·intro q hq;rw[e2] at hq;simp at hq
 ·intro q r h c hc z hz;obtain⟨rfl,rfl⟩:=hH q r h;simp only[adr] at hc;subst hc;rw[e3] at hz;simp at hz
 ·rintro q ⟨r,h⟩;obtain⟨rfl,rfl⟩:=hH q r h;exact .inl ⟨_,by simp[kY];rfl⟩
 ·rintro q (hq|⟨l1,r1,c,g1,g2,g3⟩) _
  ·rw[e2] at hq;simp at hq
  obtain⟨rfl,rfl⟩:=hH l1 r1 g1;simp only[adr] at g2;subst g2;rw[e3] at g3;simp at g3
 rw[rf _ _ e2];exact hk x jm e1 e2 e3 e4
def ft {P:Program} {G:Nat→Option (List IV)} {f:Nat} {n:Nat} {rs:List RO} {ac:AC} {args cs:List AV} {R:AV→List AV→Prop}
  (hF:an P G f=some (n,rs,ac.bare)) (hn:args.length≤n) (ha:∀l∈ah args,l= .par 0) (hc:ah cs=[])
  (hg:go ⟨P,G,n⟩ (kX rs fun x H'=>∃jm,R x jm∧x.aB=[]∧ah jm=[]∧jm.length=cs.length∧H' (.par 0)= .live ⟨cs.length,[jm]⟩) [.code ac] (lE args) (kY cs)):ez P G f args cs R:=by
 refine⟨ha,hc,jB hF hn ?_ ?_ hg⟩
 ·rintro l ⟨r,h⟩;by_cases e:l= .par 0
  ·subst e;rfl
  rw[kY,ax _ _ e] at h;simp[Hp.none] at h
 intro l hl;rw[ha l hl];simp[kY]
def ez.mono {P:Program} {G:Nat→Option (List IV)} {f:Nat} {args cs:List AV} {R R':AV→List AV→Prop} (h:ez P G f args cs R) (hq:∀x c,R x c→R' x c):ez P G f args cs R':=
 ⟨h.1,h.2.1,h.2.2.mono fun x H ⟨c,h1,h2⟩=>⟨c,hq _ _ h1,h2⟩⟩
end Go.Am

namespace Go.Am
open Go Go.RowKit
mutual
def norm:AV→AV
 | .nil0=> .list []
 | .agg cs=> .agg (dC cs)
 | .dM cs=> .dM (dC cs)
 |x=>x
def dC:List AV→List AV
 |[]=>[]
 |x::r=>norm x::dC r
end
mutual
theorem Aj:∀x:AV,(norm x).aB=x.aB
 | .nil0=>rfl
 | .agg cs=>by simp[norm,AV.aB,uv cs]
 | .dM cs=>by simp[norm,AV.aB,uv cs]
 | .sl ..| .slk ..| .ptr ..| .any| .un| .bool _| .int ..| .str _| .list _| .nD| .mH| .lptr _| .fn ..| .ifc ..=>rfl
theorem uv:∀xs:List AV,ah (dC xs)=ah xs
 |[]=>rfl
 |x::r=>by simp[dC,ah,Aj x,uv r]
end
mutual
theorem RV.norm {w:World} {β:Lb→Option Nat} {H:Hp} {I:Nat→Prop}:∀(x:AV) (v:Value),RV w β H I x v→RV w β H I (Am.norm x) v
 | .nil0,v,h=>by
  simp only[RV] at h;obtain⟨a,rfl⟩:=h;simp only[Am.norm,RV,kP];exact⟨a,0,rfl,adw _,by simp[maxLen],.inl rfl⟩
 | .agg cs,v,h=>by
  simp only[RV,Am.norm] at h ⊢;obtain⟨vs,h1,h2⟩:=h;exact⟨vs,h1,cM.norm cs vs h2⟩
 | .dM cs,v,h=>by
  simp only[RV,Am.norm] at h ⊢;obtain⟨vs,h1,h2⟩:=h;exact⟨vs,h1,cM.norm cs vs h2⟩
 | .sl ..,v,h| .slk ..,v,h| .ptr ..,v,h| .any,v,h| .un,v,h| .bool _,v,h| .int ..,v,h| .str _,v,h| .list _,v,h| .nD,v,h| .mH,v,h| .lptr _,v,h| .fn ..,v,h| .ifc ..,v,h=>h
theorem cM.norm {w:World} {β:Lb→Option Nat} {H:Hp} {I:Nat→Prop}:∀(xs:List AV) (vs:List Value),cM w β H I xs vs→cM w β H I (dC xs) vs
 |[],vs,h=>h
 |x::r,vs,h=>by
  simp only[cM,dC] at h ⊢;obtain⟨v,us,h1,h2,h3⟩:=h;exact⟨v,us,h1,RV.norm x v h2,cM.norm r us h3⟩
end
def jb.n {P:Program} {G:Nat→Option (List IV)} {f:Nat} {args:List AV} {H:Hp} {Q:AV→Hp→Prop} (h:jb P G f (dC args) H Q):jb P G f args H Q:=
 fun w A β vs hr hv=>h w A β vs hr (cM.norm _ _ hv)
def jb.res {P:Program} {G:Nat→Option (List IV)} {f:Nat} {args:List AV} {H:Hp} {Q:AV→Hp→Prop} (h:jb P G f args H Q):jb P G f args H fun x H'=>∃y,Q y H'∧x=norm y:=by
 intro w A β vs hr hv;refine(h w A β vs hr hv).mono ?_;rintro e w' ⟨v,x,H',β',rfl,h1,h2,h3,h4⟩;exact⟨v,norm x,H',β',rfl,⟨x,h1,rfl⟩,h2,RV.norm _ _ h3,by rw[Aj];exact h4⟩
def aw.n {P:Program} {G:Nat→Option (List IV)} {f:Nat} {args:List AV} {res:AV} (h:aw P G f (dC args) res):aw P G f args res:=
 ⟨by have:=h.1;rwa[uv] at this,h.2.1,h.2.2.n⟩
def aw.of {P:Program} {G:Nat→Option (List IV)} {f:Nat} {args vm:List AV} {res:AV} (h:aw P G f vm res) (e:dC args=vm):aw P G f args res:=aw.n (by rw[e];exact h)
def iC {P:Program} {G:Nat→Option (List IV)} {f:Nat} {n:Nat} {rs:List RO} {ac:AC} {args:List AV} {res:AV}
  (hF:an P G f=some (n,rs,ac.bare)) (hn:args.length≤n) (hl:ah args=[]) (EU:res.aB=[])
  (hg:go ⟨P,G,n⟩ (kX rs fun x _=>norm x=res) [.code ac] (lE args) Hp.none):aw P G f args res:=
 ⟨hl,EU,((jB hF hn (fun l ⟨r,h⟩=>by simp[Hp.none] at h) (by simp[hl]) hg).res).mono fun x H ⟨y,h1,h2⟩=>by rw[h2];exact h1⟩
def wI (xs:List IV) (i:Nat):(ar xs)[i]?=xs[i]?.map fun y=>y.cells.map IV.gK:=by simp[ar]
def dw (xs:List IV):(ar xs).length=xs.length:=by simp[ar]
def th (xs:List IV) (i:Nat) (y:IV):(ar xs).set i (y.cells.map IV.gK)=ar (xs.set i y):=by simp[ar,af2]
def iN (xs ys:List IV):ar (xs++ys)=ar xs++ar ys:=by simp[ar]
def TT {σ:Type} (d sz:Nat) (ps:σ→List (Nat×AV)) (xs:σ→List IV) (env:Env) (H:Hp) (s:σ) :
 WR d sz ps xs env H s=(NF H∧GL env (ps s)∧∃n els,env d= .sl (.loc n) sz 0 (xs s).length∧H (.loc n)= .live ⟨sz,els⟩∧els=ar (xs s)):=rfl
def DD {sz b d n:Nat} {l:Lb} {els:List (List AV)} {x:IV} {H:Hp} (hl:H l= .live ⟨sz,els⟩) (hn:els.length=n) (he:x.cells.length=sz) (hf:∀z∈x.cells,∀cs,z≠ .agg cs) (hb:(n+1)*b≤140737488355328) (h0:0<b)
  (hd:l≠l.app d) (hu:H (l.app d)= .unused) :
  nH sz b d (.sl l sz 0 n) (.list [x]) H=some (.sl (l.app d) sz 0 (n+1),bF (bF H l .dead) (l.app d) (.live ⟨sz,els++ar [x]⟩)):=by
 have:=Hg (xs:=[x]) hl (afm hn.symm) (by intro y hy;simp only[adr] at hy;subst hy;exact he) (by intro y hy;simp only[adr] at hy;subst hy;exact hf) (by simpa using hb) h0 hd hu;rw[this];simp only[adK,aek,adC,jl,adJ,adF];rw[ads (afm hn)]
def gU (sz b d k:Nat) (xs:List IV) (x:IV) {n:Nat} {H:Hp} (hl:H (.loc k)= .live ⟨sz,ar xs⟩) (hn:xs.length=n) (he:x.cells.length=sz) (hf:∀z∈x.cells,∀cs,z≠ .agg cs) (hb:(n+1)*b≤140737488355328) (h0:0<b)
  (hd:k≠d) (hu:H (.loc d)= .unused) :
  nH sz b d (.sl (.loc k) sz 0 n) (.list [x]) H=some (.sl (.loc d) sz 0 (n+1),bF (bF H (.loc k) .dead) (.loc d) (.live ⟨sz,ar (xs++[x])⟩)):=by
 have e:(Lb.loc k).app d= .loc d:=rfl;have:=DD (l:= .loc k) (d:=d) hl (by rw[dw];exact hn) he hf hb h0 (by rw[e];simpa using hd) (by rw[e];exact hu);rw[e] at this;rw[this,iN]

def TU (H:Hp):List (Lb×Row)→Prop
 |[]=>True
 |(l,r)::t=>H l= .live r∧TU H t
theorem TU.rw {H:Hp}:∀{rs:List (Lb×Row)},TU H rs→qe (bZ []) H rs
 |[],_=>trivial
 |(l,r)::t,h=>⟨by show H l= .live (cV id r);rw[DB];exact h.1,TU.rw h.2⟩
def WS {σ:Type} (ls:List Lb) (ps:σ→List (Nat×AV)) (rs:σ→List (Lb×Row)) (env:Env) (H:Hp) (s:σ):Prop:=V2 H ls∧GL env (ps s)∧TU H (rs s)
def eB {σ:Type} {S:St} {Q:oW} {c:AC} {k:List It} {env:Env} {H:Hp} (ls:List Lb) (ps:σ→List (Nat×AV)) (rs:σ→List (Lb×Row)) (μ:σ→Nat) (s0:σ)
  (rH:∀s,(rs s).map Prod.fst=ls) (Hi:ls.Nodup) (hp:∀s,∀l∈ah ((ps s).map Prod.snd),l∈ls) (hr:∀s,∀q∈rs s,∀cs∈q.2.els,∀l∈ah cs,l∈ls) (h0:WS ls ps rs env H s0)
  (round:∀s,go S (tf S Q k (WS ls ps rs) μ (μ s)) [.code c] (qc (ps s)) (kx (rs s))):vk S Q c k env H:=by
 refine re (fun s=>qc (ps s)) (fun s=>kx (rs s)) (WS ls ps rs) ?_ μ s0 h0 round;rintro env H s ⟨h1,h2,h3⟩;refine⟨bZ [],WRs.wk (m:=[]) ⟨h1,h2.eql,TU.rw h3,?_,fun l _=>⟨id,fun _=>rfl⟩⟩ (rH s) (hp s) (hr s)⟩;have:bZ []=id:=rfl;rw[this,List.map_id];exact Hi
def jI {σ:Type} {ls:List Lb} {ps:σ→List (Nat×AV)} {rs:σ→List (Lb×Row)} {env:Env} {H:Hp} {s:σ} (h1:V2 H ls) (h2:GL env (ps s)) (h3:TU H (rs s)):WS ls ps rs env H s:=⟨h1,h2,h3⟩
def ed:kx []=Hp.none:=rfl
def dk (l:Lb) (r:Row) (t:List (Lb×Row)):kx ((l,r)::t)=bF (kx t) l (.live r):=rfl

inductive Tb (k:Bool→Prop):Type
 |mk
def nK (o:Option (List Bool)) (k:Bool→Prop) (_:Tb k):Prop:=∃bs,o=some bs∧∀b∈bs,k b
def DE {S:St} {env:Env} {H:Hp} (d:Option Nat) (n:Bool) (x:O) (k:AV→Hp→Prop):cT S d (.Kk n x) env H k=nK (BL (ev env x)) (fun b=>k (.bool (n ^^ b)) H) .mk:=rfl
def zx {xs:List IV} {k:Bool→Prop} {u:Tb k} (h1:xs=[]→k true) (h2:k false):nK (BL (.list xs)) k u:=by
 cases xs with
 |nil=>exact⟨_,rfl,fun b _=>by cases b;exact h2;exact h1 rfl⟩
 |cons x r=>exact⟨_,rfl,fun b hb=>by simp only[adr] at hb;subst hb;exact h2⟩
def rh (sz b d:Nat) (xs:List IV) {H:Hp} (he:ko sz xs) (hf:Flat xs) (hb:xs.length*b≤140737488355328) (h0:0<b) (hu:H (.loc d)= .unused) :
 nH sz b d .nil0 (.list xs) H=some (.sl (.loc d) sz 0 xs.length,bF H (.loc d) (.live ⟨sz,ar xs⟩)):=RJ he hf hb h0 hu

abbrev Bs:=List UInt8
structure Attr where
 name:Bs
 val:Bs
inductive Tree where
 |mk (text:Bool) (s:Bs) (attrs:List Attr) (kids:List Tree)
def Tree.text:Tree→Bool| .mk t _ _ _=>t
def Tree.s:Tree→Bs| .mk _ s _ _=>s
def Tree.attrs:Tree→List Attr| .mk _ _ a _=>a
def Tree.kids:Tree→List Tree| .mk _ _ _ k=>k
def Attr.cs (a:Attr):List IV:=[.str a.name,.str a.val]
def Attr.iv (a:Attr):IV:= .agg a.cs
def dA (as:List Attr):List IV:=as.map Attr.iv
mutual
def Tree.iv:Tree→IV
 | .mk t s as ks=> .agg [.bool t,.str s,.list (dA as),.list (eR ks)]
def eR:List Tree→List IV
 |[]=>[]
 |x::r=>x.iv::eR r
end
def Tree.cs (x:Tree):List IV:=[.bool x.text,.str x.s,.list (dA x.attrs),.list (eR x.kids)]
def Tree.av (x:Tree):AV:= .agg [.bool x.text,.str x.s,.list (dA x.attrs),.list (eR x.kids)]
def Tree.Cl (x:Tree):x.iv= .agg x.cs:=by cases x;simp[Tree.iv,Tree.cs,Tree.text,Tree.s,Tree.attrs,Tree.kids]
def Tree.bw (x:Tree):x.iv.cells=x.cs:=by rw[Tree.Cl];rfl
def Attr.bw (x:Attr):x.iv.cells=x.cs:=rfl
theorem ob:∀xs:List Tree,eR xs=xs.map Tree.iv
 |[]=>by simp[eR]
 |x::r=>by simp[eR,ob r]
def bx (xs:List Tree):(eR xs).length=xs.length:=by simp[ob]
def bQ (xs:List Attr):(dA xs).length=xs.length:=by simp[dA]
def ml (xs:List Tree) (i:Nat):(eR xs)[i]?=xs[i]?.map Tree.iv:=by simp[ob]
def rU (xs:List Attr) (i:Nat):(dA xs)[i]?=xs[i]?.map Attr.iv:=by simp[dA]
def DF (xs ys:List Tree):eR (xs++ys)=eR xs++eR ys:=by simp[ob]
def tj (xs:List Tree):ko 4 (eR xs):=by
 intro x hx;rw[ob] at hx;obtain⟨a,_,rfl⟩:=adY.1 hx;rw[a.bw];rfl
def tk (xs:List Attr):ko 2 (dA xs):=by
 intro x hx;obtain⟨a,_,rfl⟩:=adY.1 hx;rfl
def Tree.uw (x:Tree):∀z∈x.cs,∀cs,z≠ .agg cs:=by
 intro z hz cs;simp only[Tree.cs,adz,adG,adO] at hz;rcases hz with rfl|rfl|rfl|rfl<;>simp
def Cm (xs:List Tree):Flat (eR xs):=by
 intro x hx;rw[ob] at hx;obtain⟨a,_,rfl⟩:=adY.1 hx;rw[a.bw];exact a.uw
def ri (xs:List Attr):Flat (dA xs):=by
 intro x hx;obtain⟨a,_,rfl⟩:=adY.1 hx;intro z hz cs;simp only[Attr.bw,Attr.cs,adz,adG,adO] at hz;rcases hz with rfl|rfl<;>simp
def Attr.wt (a:Attr):Nat:=1+a.name.length+a.val.length
def j0:List Attr→Nat
 |[]=>0
 |a::r=>a.wt+j0 r
mutual
def Tree.wt:Tree→Nat
 | .mk _ s as ks=>1+s.length+j0 as+er ks
def er:List Tree→Nat
 |[]=>0
 |x::r=>x.wt+er r
end
def Tree.kZ (x:Tree):x.wt=1+x.s.length+j0 x.attrs+er x.kids:=by cases x;simp[Tree.wt,Tree.s,Tree.attrs,Tree.kids]
theorem oc:∀xs:List Attr,xs.length≤j0 xs
 |[]=>by simp[j0]
 |a::r=>by have:=oc r;simp[j0,Attr.wt];omega
theorem jr:∀xs:List Tree,xs.length≤er xs
 |[]=>by simp[er]
 |a::r=>by have:=jr r;have:=a.kZ;simp[er];omega
theorem o8:∀(xs:List Tree) (i:Nat) (x:Tree),xs[i]?=some x→x.wt≤er xs
 |[],i,x,h=>by simp at h
 |a::r,0,x,h=>by simp at h;subst h;simp[er]
 |a::r,i+1,x,h=>by have:=o8 r i x (by simpa using h);simp[er];omega
theorem jL:∀xs ys:List Tree,er (xs++ys)=er xs+er ys
 |[],ys=>by simp[er]
 |a::r,ys=>by simp[er,jL r ys];omega
def B:Nat:=2^30
def le_max {n:Nat} (h:n≤100):n≤maxLen:=aeZ h (by decide)

open Classical in
noncomputable def GM {α:Type} (x y:α):Bool:=decide (x=y)
def ng {α:Type} (x:α):GM x x=true:=by simp[GM]
def vP {α:Type} {x y:α} (h:x≠y):GM x y=false:=by simp[GM,h]
def Jc {α:Type} {x y:α}:GM x y=true↔x=y:=by simp[GM]
def Attr.ext {x y:Attr} (h1:x.name=y.name) (h2:x.val=y.val):x=y:=by cases x;cases y;simp_all
def Tree.ext {x y:Tree} (h1:x.text=y.text) (h2:x.s=y.s) (h3:x.attrs=y.attrs) (h4:x.kids=y.kids):x=y:=by
 cases x;cases y;simp_all[Tree.text,Tree.s,Tree.attrs,Tree.kids]
end Go.Am
