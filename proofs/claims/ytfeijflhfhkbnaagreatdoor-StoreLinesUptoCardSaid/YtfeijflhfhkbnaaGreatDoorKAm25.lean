import Derived.Test.YtfeijflhfhkbnaaGreatDoorKAm17
import Derived.WalkKit
import Derived.ProofKit
import Derived.OpenShut
import Derived.Carry
import Derived.JoinedCond
import Derived.Deep.LoopGhost
set_option linter.all false
/- THE ABSTRACT MACHINE, part 25: what a reading of plain data gives. -/
namespace Go.Am
open Go Go.RowKit
inductive Sh (P:Program):TypeId->IV->Prop
 |b {t:TypeId} {x:Bool}:P.underlying t=some .bool->Sh P t (.bool x)
 |i {t:TypeId} {k:IntKind} {n:Int}:P.underlying t=some (.int k)->(Lit.int k n).wf=true->Sh P t (.int k n)
 |s {t:TypeId} {x:List UInt8}:P.underlying t=some .string->Sh P t (.str x)
 |l {t e:TypeId} {ys:List IV}:P.underlying t=some (.slice e)->(∀y∈ys,Sh P e y)->Sh P t (.list ys)
 |g {t:TypeId} {fs:Array Field} {ys:List IV}:P.underlying t=some (.struct fs)->ys.length=fs.size->(∀(j:Nat) (f:Field) (y:IV),fs[j]?=some f->ys[j]?=some y->Sh P f.type y)->Sh P t (.agg ys)
mutual
def IV.wt:IV->Nat
 | .bool _=>1
 | .int _ _=>1
 | .str s=>s.length+1
 | .list xs=>wtI xs+1
 | .agg cs=>wtI cs+1
 | .ifc _=>1
def wtI:List IV->Nat
 |[]=>0
 |x::r=>x.wt+wtI r
end
def xG (P:Program) (t:TypeId):Bool:=
 match P.underlying t with
 |some .bool|some (.int _)|some .string|some (.slice _)=>true
 |_=>false
def DF (P:Program) (T:List TypeId) (t:TypeId):Bool:=
 match P.underlying t with
 |some .bool|some (.int _)|some .string=>true
 |some (.slice e)=>T.contains e&&decide (0<P.cellsOf e)
 |some (.struct fs)=>decide (P.cellsOf t=fs.size)&&(List.range fs.size).all λj=>match fs[j]? with
  |some f=>T.contains f.type&&xG P f.type&&decide (f.offset=j)&&decide (P.cellsOf f.type=1)
  |none=>false
 |_=>false
section
variable {H:Type} {enc:TypeId×Value->H} {P:Program} {w:World} {base:Nat} {spare:Nat->Bool} {held:Bool}
theorem lO {α β:Type} {f:α->Option β}:∀{l:List α} {r:List β},l.mapM f=some r->r.length=l.length/\∀(i:Nat) (x:α),l[i]?=some x->∃y,r[i]?=some y/\f x=some y
 |[],r,h=>by
  simp at h;subst h;exact⟨rfl,tM⟩
 |a::l,r,h=>by
  rw[List.mapM_cons] at h;obtain⟨y,h1,h⟩:=yV.1 h;obtain⟨s,h2,h⟩:=yV.1 h;simp only[Option.pure_def,di] at h;subst h;obtain⟨e1,e2⟩:=lO h2;refine⟨by simp[e1],λi x hx=> ?_⟩;cases i with
  |zero=>simp at hx;subst hx;exact⟨y,tM,h1⟩
  |succ i=>obtain⟨z,q1,q2⟩:=e2 i x (by simpa using hx);exact⟨z,by simpa using q1,q2⟩
def vE {a:Addr} {n:Nat} {cs:List Value} (h:w.cells? base a n=some cs):cs.length=n/\∀i,i<n->∃v,cs[i]?=some v/\w.cell? (a.add i)=some v:=by
 unfold World.cells? at h;split at h
 ·obtain⟨h1,h2⟩:=lO h;refine⟨by simpa using h1,λi hi=> ?_⟩;obtain⟨v,e1,e2⟩:=h2 i i (by simp[hi]);exact⟨v,e1,e2⟩
 simp at h
def vF {a:Addr} {v:Value} (h:w.cell? a=some v):a.spot=none/\a.block<w.heap.size:=by
 unfold World.cell? at h;split at h
 ·rename_i c t f e;split at h
  ·simp at h
  rename_i hs;exact⟨by simpa using hs,(Rv.1 e).1⟩
 simp at h
structure Bk (H:Type) where
 bk:DataW H->Nat
 one:∀d,1<=bk d
 str:∀l,bk (.lit (.string l))=l.length+1
 sl:∀es sp,(es.map bk).sum+1<=bk (.slice es sp)
 ag:∀ps,(ps.map bk).sum+1<=bk (.agg ps)
theorem build {Q:Nat->IV->Prop}:∀(n:Nat),(∀i,i<n->∃y,Q i y)->∃ys:List IV,ys.length=n/\∀i y,ys[i]?=some y->Q i y
 |0,_=>⟨[],rfl,tM⟩
 |n+1,h=>by
  obtain⟨ys,h1,h2⟩:=build n (λi hi=>h i sf);obtain⟨y,hy⟩:=h n sf;refine⟨ys++[y],by simp[h1],λi z hz=> ?_⟩;by_cases hi:i<n
  ·rw[bB sf] at hz;exact h2 i z hz
  have:i=n:=by
   have:=(yY.1 hz).1;simp at this;omega
  subst this;rw[b_ sf,h1] at hz;simp at hz;subst hz;exact hy
theorem ab8 {α:Type} {g:α->Nat}:∀(ys:List IV) (xs:List α),ys.length=xs.length->(∀(i:Nat) (y:IV) (x:α),ys[i]?=some y->xs[i]?=some x->y.wt<=g x)->wtI ys<=(xs.map g).sum
 |[],[],_,_=>by simp[wtI]
 |y::ys,[],h,_=>by simp at h
 |[],x::xs,h,_=>by simp at h
 |y::ys,x::xs,h,hw=>by
  have h1:=hw 0 y x tM tM;have h2:=ab8 ys xs (by simpa using h) (λi y x hy hx=>hw (i+1) y x (by simpa using hy) (by simpa using hx));simp only[wtI,Rj,YQ];omega
def read (B:Bk H) {T:List TypeId} (hT:∀t∈T,DF P T t=true):∀(fuel:Nat) (t:TypeId) (cs:List Value) (d:DataW H) (ps:List MemPlace),t∈T->DataW.trod enc P w base spare held fuel t cs=some (d,ps) ->
  ∃y:IV,Sh P t y/\y.wt<=B.bk d/\y.cells.length=cs.length/\∀(j:Nat) (z:IV),y.cells[j]?=some z->∃v,cs[j]?=some v/\NN w (λ_=>True) z v:=by
 intro fuel;induction fuel with
 |zero=>intro t cs d ps _ h;simp[DataW.trod] at h
 |succ fuel ih=>
 intro t cs d ps ht h;have j4:=hT t ht;unfold DF at j4;unfold DataW.trod at h;cases hu:P.underlying t with
 |none=>rw[hu] at j4;simp at j4
 |some u=>
 rw[hu] at j4 h;cases u with
 |bool=>
  simp only at h;split at h<;>simp_all;rename_i b;obtain⟨rfl,rfl⟩:=h;exact⟨.bool b,.b hu,by simpa[IV.wt] using B.one _,aaw,λj z hz=>by
   cases j<;>simp[IV.cells] at hz;subst hz;simp[NN]⟩
 |int k=>
  simp only at h;split at h<;>simp_all;rename_i n _;obtain⟨⟨rfl,hw⟩,rfl,rfl⟩:=h;exact⟨.int _ n,.i hu hw,by simpa[IV.wt] using B.one _,aaw,λj z hz=>by
   cases j<;>simp[IV.cells] at hz;subst hz;simp[NN]⟩
 |string=>
  simp only at h;split at h<;>simp_all;rename_i x;obtain⟨hw,rfl,rfl⟩:=h;exact⟨.str x.data.toList,.s hu,by rw[B.str];simp[IV.wt],aaw,λj z hz=>by
   cases j<;>simp[IV.cells] at hz;subst hz;simp[NN]⟩
 |slice e=>
  simp only[QH,dj,Wn] at j4;obtain⟨oN,xg⟩:=j4;have F_:e∈T:=by simpa using oN
  simp only at h;split at h<;>simp_all
  ·obtain⟨rfl,rfl⟩:=h;exact⟨.list [],.l hu tM,by simpa[IV.wt,wtI] using B.one _,aaw,λj z hz=>by
    cases j<;>simp[IV.cells] at hz;subst hz;simp only[NN];exact⟨_,rfl,none,0,rfl,PW _,by simp[maxLen],.inl rfl⟩⟩
  rename_i _ _ e' a len cap _;obtain⟨⟨hb,Ie,qC⟩,h⟩:=h;obtain⟨elems,he,h⟩:=yV.1 h;obtain⟨rest,hr,h⟩:=jF.1 h;simp only[eS] at h;obtain⟨rfl,rfl⟩:=h;obtain⟨hlen,jY⟩:=lO he;have Ga:elems.length=len:=by simpa using hlen
  have dN:∀i,i<len->∃y:IV,Sh P e' y/\(∀x,elems[i]?=some x->y.wt<=B.bk x.1)/\y.cells.length=P.cellsOf e' /\
    ∀(j:Nat) (z:IV),y.cells[j]?=some z->∃v,w.cell? ((a.add (i*P.cellsOf e')).add j)=some v/\NN w (λ_=>True) z v:=by
   intro i hi;obtain⟨x,e1,e2⟩:=jY i i (by simp[hi]);obtain⟨cs,c1,c2⟩:=yV.1 e2;obtain⟨cl,cg⟩:=vE c1;obtain⟨y,y1,y2,y3,y4⟩:=ih e' cs x.1 x.2 F_ c2;refine⟨y,y1,λx' Gb=>by rw[e1] at Gb;cases Gb;exact y2,by rw[y3,cl],λj z hz=> ?_⟩;obtain⟨v,v1,v2⟩:=y4 j z hz;have hj:j<P.cellsOf e':=by
    have:=(yY.1 hz).1;omega
   obtain⟨v',u1,u2⟩:=cg j hj;rw[v1] at u1;cases u1;exact⟨v,u2,v2⟩
  obtain⟨ys,zl,o8⟩:=build len dN;refine⟨.list ys,.l hu (λy hy=> ?_),?_,aaw,λj z hz=> ?_⟩
  ·obtain⟨i,hi⟩:=Sw hy;exact(o8 i y hi).1
  ·have h1:=ab8 (g:=λx:DataW H×List MemPlace=>B.bk x.1) ys elems sf (λi y x hy hx=>(o8 i y hy).2.1 x hx);have h2:=B.sl (elems.map λx=>x.1) (rest.map λx=>x.1);simp only[WC] at h2;simp only[IV.wt];exact U' (se h1 1) h2
  cases j with
  |succ j=>simp[IV.cells] at hz
  |zero=>
  simp[IV.cells] at hz;subst hz;refine⟨_,rfl,?_⟩;simp only[NN];refine⟨some a,cap,by rw[zl],sf,qC,?_⟩;by_cases u7:len=0
  ·exact .inl sf
  right;have BY:∀i j,i<len->j<P.cellsOf e'->∃v,w.cell? ((a.add (i*P.cellsOf e')).add j)=some v:=by
   intro i j hi hj;obtain⟨y,hy⟩:∃y,ys[i]?=some y:=⟨_,rX sf⟩;obtain⟨_,_,q3,q4⟩:=o8 i y hy;obtain⟨v,v1,_⟩:=q4 j _ (rX sf);exact⟨v,v1⟩
  obtain⟨v0,Gc⟩:=BY 0 0 sf xg;obtain⟨s1,s2⟩:=vF Gc;obtain⟨ab,ao,Ml⟩:=a;simp only[Addr.add,V9,Rc] at s1 s2;subst s1;refine⟨ab,ao,P.cellsOf e',rfl,trivial,s2,xg,ajy _ _ _ (λk y hy=> ?_)⟩;obtain⟨_,_,q3,q4⟩:=o8 k y hy;rw[eH];refine⟨q3.symm,Xz _ _ _ (λj z hz=> ?_)⟩;obtain⟨v,v1,v2⟩:=q4 j z hz;rw[addr_add,addr_add] at v1;exact⟨v,v1,v2⟩
 |struct fs=>
  simp only[QH,dj] at j4;simp only at h;obtain⟨gm,j4⟩:=j4;rw[Rh] at j4;split at h
  ·rename_i qT;obtain⟨xs,hx,h⟩:=jF.1 h;simp only[eS] at h;obtain⟨rfl,rfl⟩:=h;obtain⟨hlen,jY⟩:=lO hx;have Ga:xs.length=fs.size:=(by simpa using hlen);have dN:∀i,i<fs.size->∃y:IV,(∀f,fs[i]?=some f->Sh P f.type y)/\(∀x,xs[i]?=some x->y.wt<=B.bk x.1)/\∃v,cs[i]?=some v/\NN w (λ_=>True) y v:=by
    intro i hi;have hf:=j4 i (by simpa using hi);obtain⟨f,uq⟩:∃f,fs[i]?=some f:=⟨_,ff hi⟩;rw[uq] at hf;simp only[QH,dj,Wn] at hf;obtain⟨⟨⟨f1,f2⟩,f3⟩,f4⟩:=hf;obtain⟨x,e1,e2⟩:=jY i f (by simpa using uq);rw[f3,f4] at e2;obtain⟨y,y1,y2,y3,y4⟩:=ih f.type _ x.1 x.2 (by simpa using f1) e2;have fw:y.cells=[y]:=by
     cases y1 with
     |g DG _ _=>unfold xG at f2;rw[DG] at f2;simp at f2
     |_=>rfl
    refine⟨y,λf' BQ=>by rw[uq] at BQ;cases BQ;exact y1,λx' Gb=>by rw[e1] at Gb;cases Gb;exact y2,?_⟩;obtain⟨v,v1,v2⟩:=y4 0 y (by rw[fw];rfl);refine⟨v,?_,v2⟩;rw[Rd] at v1;split at v1
    ·rw[Ba] at v1;simpa using v1
    simp at v1
   obtain⟨ys,zl,o8⟩:=build fs.size dN;refine⟨.agg ys,.g hu zl (λj f y hf hy=>(o8 j y hy).1 f hf),?_,by simp only[IV.cells];omega,λj z hz=>(o8 j z hz).2.2⟩;have h1:=ab8 (g:=λx:DataW H×List MemPlace=>B.bk x.1) ys xs sf (λi y x hy hx=>(o8 i y hy).2.1 x hx);have h2:=B.ag (xs.map λx=>x.1);simp only[WC] at h2;simp only[IV.wt];exact U' (se h1 1) h2
  simp at h
 |_=>simp at j4
end
end Go.Am

namespace Go.Am
open Go Go.RowKit Go.ChangeShapes
def Hx:Nat->Option (List IV):=λ_=>none
def iI:Lb->Option Nat:=λ_=>none
def xH (P:Program) (W:World):aH (b8 P Hx W (λ_=>True) iI Hp.none) iI Env.any Hp.none lB W:=
 { defers := rfl,size := rfl
   N8:=λn=>by simp[Env.any,RV]
   rows:=λl r h=>by simp[Hp.none] at h
   own:=λl g ⟨r,h⟩=>by simp[Hp.none] at h
   inj:=λl l' g ⟨r,h⟩=>by simp[Hp.none] at h
   eI:=λn=>by simp[Env.any,AV.an]
   cH:=λl r h=>by simp[Hp.none] at h
   frame:=⟨rfl,rfl,rfl,PW _,λ_ _ _=>rfl,λ_ _ h=>h⟩
   gA:=λl ⟨r,h⟩=>by simp[b8,Hp.none] at h
   fr:=λl g ⟨r,h⟩=>by simp[Hp.none] at h
   W5:=λg cs hg=>by simp[b8,Hx] at hg}
def run_pure {P:Program} {f:Nat} {args:List AV} {res:AV} {vs:List Value} {W:World} (hp:au P Hx f args res) (hv:br W iI Hp.none (λ_=>True) args vs) :
  Calls P f vs.toArray W λe W'=>∃v,e= .returned v/\Below W.heap.size W W'/\RV W' iI Hp.none (λ_=>True) res v:=by
 have hI:∀k,Im (b8 P Hx W (λ_=>True) iI Hp.none) iI Hp.none k:=λk=>⟨.inl trivial,λl ⟨r,h⟩=>by simp[Hp.none] at h⟩;refine(ml (xH P W) hp (br.mono _ _ ?_ hv) trivial).mono ?_
 ·exact {im:=λk _ hs=>⟨hI k,hs,rfl⟩,lb:=λl _ ⟨r,h⟩=>by simp[Hp.none] at h}
 rintro e W' ⟨v,rfl,h1,h2⟩;refine⟨v,rfl,h1,RV.mono _ _ ?_ h2⟩;exact {im:=λk _ hs=>⟨trivial,hs,rfl⟩,lb:=λl _ ⟨r,h⟩=>by simp[Hp.none] at h}
section
variable {H:Type} {enc:TypeId×Value->H} {P:Program}
def qf (P:Program) (t:TypeId):Bool:=P.readableRec t&&decide (t<P.types.size)
theorem kL (hl:laidOutB P=true) {W W':World} (hb:Below W.heap.size W W') {sp:Nat->Bool}:∀{ts:List TypeId} {vs:List Value} {ds:List (DataW H)} {ps:List MemPlace},ts.all (qf P)=true ->
  DataW.TrodAll enc P W 0 (λ_=>true) true ts vs ds ps->(∀x∈ps,x.block<W.heap.size)->(∀x∈ps,sp x.block=true)->DataW.TrodAll enc P W' 0 sp true ts vs ds ps
 |[],_,_,_,_,h,_,_=>by
  obtain⟨rfl,rfl,rfl⟩:=trodAll_nil h;rfl
 |t::ts,_,_,_,hr,h,bI,hs=>by
  obtain⟨v,Mm,d,Mn,a,b,rfl,rfl,rfl,h1,h2⟩:=trodAll_cons h;simp only[Xt,QH,qf,dj] at hr;refine⟨a,b,WideElems.Trod_stays hl hr.1.1 hr.1.2 h1 (λx hx=>hb.same (bI x (by simp[hx]))) (λx hx=>hs x (by simp[hx])),?_,rfl⟩;exact kL hl hb hr.2 h2 (λx hx=>bI x (by simp[hx])) (λx hx=>hs x (by simp[hx]))
def xI {f:Func} {s:ChangeSpec} {apart fresh handsOn again:Bool} {W W':World} {args:Array Value} {ds gs:List (DataW H)} {before:List MemPlace} {tb:TypeId} (hl:laidOutB P=true)
  (hr:f.params.toList.all (qf P)=true) (q_:f.resultTypes=#[tb]) (Hy:P.underlying tb=some .bool) (ar3:s.vars=[]) (hfn:s.fn H ds={results:=[.lit (.bool true)],args:=ds})
  (hW:DataW.Whole enc P f.params.toList s.vars apart W args.toList ds gs before) (hb:Below W.heap.size W W') :
  s.post enc P f apart fresh handsOn again W args (.bool true) W':=by
 have Hz:=hW;have bI:=hW.lt;obtain⟨p,q,hA,hV,rfl,hz,hn⟩:=hW;rw[ar3] at hV;obtain⟨rfl,rfl⟩:=trodVars_none hV;simp only[SU] at Hz bI hz hn;have DH:s.fn H (ds++[])={results:=[.lit (.bool true)],args:=ds}:=by rw[SU];exact hfn
 have uh:∀sp:Nat->Bool,(∀x∈p,sp x.block=true)->DataW.TrodAll enc P W' 0 sp true f.params.toList args.toList ds p:=λsp hs=>kL hl hb hr hA bI hs;have iS:∀(b:Nat) (sp:Nat->Bool) (hd:Bool),DataW.TrodAll enc P W' b sp hd f.resultTypes.toList ((Value.bool true).resultList f.resultTypes.size) [.lit (.bool true)] []:=by
  intro b sp hd;rw[q_];exact trodAll_cons_mk (shut_bool Hy _) trodAll_mk0
 have Gc:∀sp:Nat->Bool,DataW.TrodVars enc P W' sp s.vars (s.fn H (ds++[])).vars []:=by
  intro sp;rw[ar3,DH];rfl
 refine⟨ds,[],p,[],p,[],Hz,by rw[DH];exact iS _ _ _,by rw[DH];exact uh _ (λx hx=>by simpa using bI x hx),Gc _,hb.frame _,λ_=> ?_⟩;have Iz:DataW.TrodVars enc P W' (λ_=>true) s.vars [] []:=by rw[ar3];rfl
 refine⟨ok_one q_ rfl (okWide_bool_mk Hy _),_,_,([]++p)++[],⟨[]++p,[],trodAll_append (uh _ (λ_ _=>rfl)) (iS _ _ _),Iz,tM,?_,?_⟩,?_⟩
 ·intro b off hp;have BT:MemPlace.cell b off∈p:=by simpa using hp
  rw[hb.frozen (p:=⟨b,off,none⟩) (bI _ BT)];exact hz b off BT
 ·intro ha;simpa using hn ha
 intro x hx _;simpa using hx
end
end Go.Am

namespace Go.Am
open Go Go.RowKit Go.ChangeShapes
section
variable {H:Type} {enc:TypeId×Value->H} {P:Program}
theorem xJ {W:World}:∀(ys:List IV) (cs:List Value),ys.length=cs.length->(∀z∈ys,∀q,z≠ .agg q)->(∀(j:Nat) (z:IV),ys[j]?=some z->∃v,cs[j]?=some v/\NN W (λ_=>True) z v) ->
  br W iI Hp.none (λ_=>True) (ys.map IV.dQ) cs
 |[],[],_,_,_=>by simp[br]
 |[],v::cs,h,_,_=>by simp at h
 |y::ys,[],h,_,_=>by simp at h
 |y::ys,v::cs,h,hf,hg=>by
  obtain⟨v',h1,h2⟩:=hg 0 y tM;simp at h1;subst h1;refine⟨v,cs,rfl,?_,xJ ys cs (by simpa using h) (λz hz=>hf z (by simp[hz])) (λj z hz=>by simpa using hg (j+1) z (by simpa using hz))⟩;cases y with
  |agg q=>exact absurd rfl (hf _ tM q)
  |_=>simpa[IV.dQ,RV,NN] using h2
def DI (B:Bk H) {T:List TypeId} (hT:∀t∈T,DF P T t=true) {W:World} {t:TypeId} (ht:t∈T) {v:Value} {d:DataW H} {ps:List MemPlace} {r:Reach}
  {b0:Nat} (nU:Value.okWide P W r b0 t v) (h:DataW.Trod enc P W 0 (λ_=>true) true t v d ps) :
  ∃y:IV,Sh P t y/\y.wt<=B.bk d/\RV W iI Hp.none (λ_=>True) y.av v:=by
 obtain⟨fuel,h⟩:=h;obtain⟨y,h1,h2,h3,h4⟩:=read B hT fuel t _ d ps ht h;refine⟨y,h1,h2,?_⟩;have one:∀u:TypeDesc,P.underlying t=some u->(∀fs,u≠ .struct fs)->(∀n e,u≠ .array n e)->(∀cs,y≠ .agg cs)->RV W iI Hp.none (λ_=>True) y.av v:=by
  intro u hu hs ha hy;have hc:y.cells=[y]:=by cases y<;>first|rfl|exact absurd rfl (hy _)
  have hv:v.cells=#[v]:=by
   cases v with
   |agg cs=>
    unfold Value.okWide at nU;rw[hu] at nU;cases u<;>simp_all[Cell.okWide,Cell.ok]
   |_=>rfl
  rw[hc,hv] at h4;obtain⟨v',e1,e2⟩:=h4 0 y rfl;simp at e1;subst e1;cases y<;>first|(simpa[IV.av,IV.dQ,RV,NN] using e2)|exact absurd rfl (hy _)
 cases h1 with
 |b hu=>exact one _ hu tM tM tM
 |i hu _=>exact one _ hu tM tM tM
 |s hu=>exact one _ hu tM tM tM
 |l hu _=>exact one _ hu tM tM tM
 |@g _ fs ys hu hl hf=>
 have j4:=hT t ht;unfold DF at j4;rw[hu] at j4;simp only[QH,dj,Rh] at j4;unfold Value.okWide at nU;rw[hu] at nU;obtain⟨cs,rfl,gm,_⟩:=nU;simp only[IV.av,RV];refine⟨cs.toList,tM,xJ ys _ (by simpa[IV.cells,Value.cells] using h3) ?_ (λj z hz=>by simpa[Value.cells] using h4 j z (by simpa[IV.cells] using hz))⟩;intro z hz q e;obtain⟨j,hj⟩:=Sw hz;have zk:j<fs.size:=by rw[<-hl];exact(yY.1 hj).1
 obtain⟨f,Kb⟩:∃f,fs[j]?=some f:=⟨_,ff zk⟩;have h5:=hf j f z Kb hj;have h6:=j4.2 j (by simpa using zk);rw[Kb] at h6;simp only[QH] at h6;have h7:=h6.1.1.2;subst e;cases h5 with
 |g DG _ _=>unfold xG at h7;rw[DG] at h7;simp at h7
inductive Gd (P:Program):List TypeId->List IV->Prop
 |nil:Gd P [] []
 |cons {t:TypeId} {y:IV} {ts:List TypeId} {ys:List IV}:Sh P t y->Gd P ts ys->Gd P (t::ts) (y::ys)
theorem ur (B:Bk H) {T:List TypeId} (hT:∀t∈T,DF P T t=true) {W:World} {r:Reach} {b0:Nat}:∀{ts:List TypeId} {vs:List Value} {ds:List (DataW H)} {ps:List MemPlace},(∀t∈ts,t∈T) ->
  (∀(j:Nat) (t:TypeId) (v:Value),ts[j]?=some t->vs[j]?=some v->Value.okWide P W r b0 t v)->DataW.TrodAll enc P W 0 (λ_=>true) true ts vs ds ps ->
  ∃ys:List IV,Gd P ts ys/\wtI ys<=(ds.map B.bk).sum/\br W iI Hp.none (λ_=>True) (ys.map IV.av) vs
 |[],vs,ds,ps,_,_,h=>by
  obtain⟨rfl,rfl,rfl⟩:=trodAll_nil h;exact⟨[],.nil,by simp[wtI],abG⟩
 |t::ts,vs,ds,ps,ht,hv,h=>by
  obtain⟨v,vs,d,ds,p,q,rfl,rfl,rfl,h1,h2⟩:=trodAll_cons h;obtain⟨y,k1,k2,k3⟩:=DI B hT (ht t tM) (hv 0 t v rfl rfl) h1;obtain⟨ys,q1,q2,q3⟩:=ur B hT (λt' h'=>ht t' (by simp[h'])) (λj t' v' a b=>hv (j+1) t' v' (by simpa using a) (by simpa using b)) h2;exact⟨y::ys,.cons k1 q1,by simp only[wtI,Rj,YQ];omega,by simp only[Rj,br];exact⟨v,vs,rfl,k3,q3⟩⟩
theorem arV {W:World} {b0:Nat} {sp:Nat->Bool} {hd:Bool}:∀{ts:List TypeId} {vs:List Value} {ds:List (DataW H)} {ps:List MemPlace},DataW.TrodAll enc P W b0 sp hd ts vs ds ps->ds.length=ts.length
 |[],vs,ds,ps,h=>by
  obtain⟨_,rfl,_⟩:=trodAll_nil h;rfl
 |t::ts,vs,ds,ps,h=>by
  obtain⟨v,vs,d,ds,p,q,rfl,rfl,rfl,_,h2⟩:=trodAll_cons h;simp[arV h2]
end
end Go.Am

namespace Go.Am
open Go Go.RowKit
def o9:List (Nat×AV)->Env
 |[]=>Env.any
 |(n,x)::r=>put (o9 r) n x
def AR:o9 []=Env.any:=rfl
def xK (n:Nat) (x:AV) (r:List (Nat×AV)):o9 ((n,x)::r)=put (o9 r) n x:=rfl
def k_ (ρ:Lb->Lb) (env:Env):List (Nat×AV)->Prop
 |[]=>True
 |(n,x)::r=>env n=bJ ρ x/\k_ ρ env r
def sv (env:Env):List (Nat×AV)->Prop
 |[]=>True
 |(n,x)::r=>env n=x/\sv env r
theorem k_.we {ρ:Lb->Lb} {env:Env}:∀{ps:List (Nat×AV)},k_ ρ env ps->∀n,o9 ps n= .any\/env n=bJ ρ (o9 ps n)
 |[],_=>Wc ρ env
 |(n,x)::r,h=>aT h.1 (k_.we h.2)
theorem sv.eql {env:Env}:∀{ps:List (Nat×AV)},sv env ps->k_ id env ps
 |[],_=>trivial
 |(n,x)::r,h=>⟨by rw[qc];exact h.1,sv.eql h.2⟩
theorem mu {H:Hp}:∀{ps:List (Nat×AV)},(∀l∈ah (ps.map Prod.snd),H l≠ .unused)->∀n,∀l∈(o9 ps n).an,H l≠ .unused
 |[],_=>eB H
 |(n,x)::r,h=>aU (λl hl=>h l (by simp[ah,hl])) (mu λl hl=>h l (by simp only[Rj,ah,QL];exact .inr hl))
def NF (H:Hp):Prop:=∀l:Lb,l.fresh=false->H l= .unused
def AS:NF Hp.none=True:=by simp[NF,Hp.none]
def DJ (H:Hp) (n:Nat) (s:Slot):NF (bD H (.loc n) s)=NF H:=by
 apply propext;constructor
 ·intro h l hl;have:=h l hl;have Vi:l≠ .loc n:=by rintro rfl;simp[Lb.fresh] at hl
  rwa[aq _ _ Vi] at this
 exact dT
def kM {σ:Type} (S:St) (Q:gI) (k:List It) (W:Env->Hp->σ->Prop) (μ:σ->Nat) (n:Nat):gI:=λe env H=>
 match e with
 | .normal=>∃s,μ s<n/\W env H s
 | .exit id=>match dR id k with
  |some k'=>go S Q k' env H
  |none=>Q (.exit id) env H
 | .ret=>Q .ret env H
 |_=>False
def j7 {σ:Type} {S:St} {Q:gI} {c:AC} {k:List It} {env:Env} {H:Hp} (E:σ->Env) (HH:σ->Hp) (W:Env->Hp->σ->Prop) (hW:∀env H s,W env H s->∃ρ,Wk ρ env H (E s) (HH s))
  (μ:σ->Nat) (s0:σ) (h0:W env H s0) (round:∀s,go S (kM S Q k W μ (μ s)) [.code c] (E s) (HH s)):lI S Q c k env H:=by
 intro K IJ hS c0 ck hc dN β a w hr;subst IJ;simp only[PH,Exit.then];obtain⟨ρ,h0⟩:=hW _ _ _ h0;refine wp_loop_ghost (λn a w=>∃s β,μ s=n/\aH K β (E s) (HH s) a w) (μ s0) ⟨s0,_,rfl,h0.rel hS hr⟩ ?_;rintro n a w ⟨s,β,rfl,hr⟩;have hs:=go_sound (K:=K) hS _ (mo [.code c]) [.code c] [.code c0] (PW _) (.cons (.code hc) .nil) (E s) (HH s) (round s) β a w hr;simp only[PH,Exit.then] at hs;refine wp_mono hs ?_;rintro e a' w' ⟨env',H',β',hq,lz⟩;cases e with
 |normal=>
  obtain⟨s',bI,hw⟩:=hq;obtain⟨ρ',hw⟩:=hW _ _ _ hw;exact⟨μ s',bI,s',_,rfl,hw.rel hS lz⟩
 |exit id=>
  have hp:=ja (P:=K.P) (G:=K.G) (lift K Q) (id:=id) ck k dN;simp only[kM] at hq;show PH K.P (lift K Q) ck (.exit id) a' w';cases vy:dR id k with
  |some k'=>
   rw[vy] at hp hq;obtain⟨wz,e1,e2⟩:=hp;exact e2 a' w' (go_sound (K:=K) hS Q (mo k') k' wz (PW _) e1 env' H' hq β' a' w' lz)
  |none=>
  rw[vy] at hp hq;exact hp a' w' ⟨env',H',β',hq,lz⟩
 |ret=>exact nR _ _ _ _ _ ⟨env',H',β',hq,lz⟩
 |goto l=>exact hq.elim
 |panic ch=>exact hq.elim
 |outgrown=>exact hq.elim
mutual
theorem j8 (ρ:Lb->Lb):∀x:AV,x.an=[]->bJ ρ x=x
 | .sl ..,h| .slk ..,h| .ptr ..,h=>by simp[AV.an] at h
 | .any,_| .un,_| .bool _,_| .int ..,_| .str _,_| .list _,_| .nil0,_| .jK,_| .iT,_| .lptr _,_| .mis _,_=>by simp[bJ]
 | .agg cs,h=>by simp only[AV.an] at h;simp[bJ,fZ ρ cs h]
 | .gf cs,h=>by simp only[AV.an] at h;simp[bJ,fZ ρ cs h]
 | .fn f fs cs,h=>by simp only[AV.an,mb] at h;simp[bJ,fZ ρ fs h.1,fZ ρ cs h.2]
 | .ifc t x,h=>by simp only[AV.an] at h;simp[bJ,j8 ρ x h]
theorem fZ (ρ:Lb->Lb):∀xs:List AV,ah xs=[]->bu ρ xs=xs
 |[],_=>by simp[bu]
 |x::r,h=>by simp only[ah,mb] at h;simp[bu,j8 ρ x h.1,fZ ρ r h.2]
end
def WD {σ:Type} (ps:σ->List (Nat×AV)) (env:Env) (H:Hp) (s:σ):Prop:=NF H/\sv env (ps s)
def VR {σ:Type} {S:St} {Q:gI} {c:AC} {k:List It} {env:Env} {H:Hp} (ps:σ->List (Nat×AV)) (μ:σ->Nat) (s0:σ) (hl:∀s,ah ((ps s).map Prod.snd)=[]) (h0:WD ps env H s0)
  (round:∀s,go S (kM S Q k (WD ps) μ (μ s)) [.code c] (o9 (ps s)) Hp.none):lI S Q c k env H:=
 j7 (λs=>o9 (ps s)) (λ_=>Hp.none) (WD ps) (λenv H s ⟨h1,h2⟩=>⟨id,h2.eql.we,λl r h=>by simp[Hp.none] at h,λ_ _ ⟨r,h⟩=>by simp[Hp.none] at h,mu (by rw[hl];simp),λl r h=>by simp[Hp.none] at h,
  λl hl=>⟨λh=>absurd (h1 l (Lb.Og hl)) h,λ_=>rfl⟩,λl ⟨r,h⟩=>by simp[Hp.none] at h⟩) μ s0 h0 round
def WR {σ:Type} (d sz:Nat) (ps:σ->List (Nat×AV)) (xs:σ->List IV) (env:Env) (H:Hp) (s:σ):Prop:=
 NF H/\sv env (ps s)/\∃n els,env d= .sl (.loc n) sz 0 (xs s).length/\H (.loc n)= .live ⟨sz,els⟩/\els=aB (xs s)
def xL {σ:Type} {S:St} {Q:gI} {c:AC} {k:List It} {env:Env} {H:Hp} (d sz:Nat) (ps:σ->List (Nat×AV)) (xs:σ->List IV) (μ:σ->Nat) (s0:σ) (hl:∀s,ah ((ps s).map Prod.snd)=[]) (h0:WR d sz ps xs env H s0)
  (round:∀s,go S (kM S Q k (WR d sz ps xs) μ (μ s)) [.code c] (o9 ((d,.sl (.loc d) sz 0 (xs s).length)::ps s)) (bD Hp.none (.loc d) (.live ⟨sz,aB (xs s)⟩))):lI S Q c k env H:=by
 refine j7 (λs=>o9 ((d,.sl (.loc d) sz 0 (xs s).length)::ps s)) (λs=>bD Hp.none (.loc d) (.live ⟨sz,aB (xs s)⟩)) (WR d sz ps xs) ?_ μ s0 h0 round;rintro env H s ⟨h1,h2,n,els,h3,h4,rfl⟩;have key:∀{r:List (Nat×AV)},sv env r->ah (r.map Prod.snd)=[]->k_ (λ_=> .loc n) env r:=by
  intro r;induction r with
  |nil=>exactλ_ _=>trivial
  |cons p r ih=>
  obtain⟨m,x⟩:=p;intro h kR;simp only[Rj,ah,mb] at kR;refine⟨?_,ih h.2 kR.2⟩;rw[h.1];exact(j8 _ x kR.1).symm
 refine⟨λ_=> .loc n,Wk.one (k_.we (ps:=(d,.sl (.loc d) sz 0 (xs s).length)::ps s) ⟨h3,key h2 (hl s)⟩) (mu ?_) h4 rfl rfl h1⟩;simp[ah,AV.an,hl s]
def kl:List (Lb×Row)->Hp
 |[]=>Hp.none
 |(l,r)::t=>bD (kl t) l (.live r)
def aaZ {p:Prop} (h:p:=by simp[kl,ae]):p:=h
def dn:List (Lb×Lb)->Lb->Lb
 |[],l=>l
 |(a,b)::t,l=>if l=a then b else dn t l
def aar {p:Prop} (h:p:=by simp[dn]):p:=h
def aaY {p:Prop} (h:p:=by simp[dn,Lb.fresh,Lb.entry]):p:=h
def abo {p:Prop} (h:p:=by simp[dn,dO,bu,bJ,ae]):p:=h
def tc (ρ:Lb->Lb) (H:Hp):List (Lb×Row)->Prop
 |[]=>True
 |(l,r)::t=>H (ρ l)= .live (dO ρ r)/\tc ρ H t
def DK (H:Hp) (ls:List Lb):Prop:=∀l:Lb,l.fresh=false->H l≠ .unused->l∈ls
def rn (ls:List Lb):DK Hp.none ls=True:=by simp[DK,Hp.none]
def uu (H:Hp) (n:Nat) (s:Slot) (ls:List Lb):DK (bD H (.loc n) s) ls=DK H ls:=by
 apply propext;constructor
 ·intro h l hl hu;have Vi:l≠ .loc n:=by rintro rfl;simp[Lb.fresh] at hl
  exact h l hl (by rwa[aq _ _ Vi])
 intro h l hl hu;have Vi:l≠ .loc n:=by rintro rfl;simp[Lb.fresh] at hl
 rw[aq _ _ Vi] at hu;exact h l hl hu
def aa9 {p:Prop} (h:p:=by simp only[uu,rn]):p:=h
structure IU (ls:List Lb) (ps:List (Nat×AV)) (rs:List (Lb×Row)) (env:Env) (H:Hp) (m:List (Lb×Lb)):Prop where
 nf:DK H ls
 e:k_ (dn m) env ps
 r:tc (dn m) H rs
 inj:(ls.map (dn m)).Nodup
 fr:∀l∈ls,(l.fresh=true->(dn m l).fresh=true)/\(l.fresh=false->dn m l=l)
def fy {rs:List (Lb×Row)}:∀{l:Lb} {r:Row},kl rs l= .live r->(l,r)∈rs:=by
 induction rs with
 |nil=>intro l r h;simp[kl,Hp.none] at h
 |cons p t ih=>
 obtain⟨l0,r0⟩:=p;intro l r h;simp only[kl,bD] at h;split at h
 ·next e=>cases h;subst e;simp
 exact Nk _ (ih h)
def amE {rs:List (Lb×Row)} {l:Lb} (h:l∈rs.map Prod.fst):kl rs l≠ .unused:=by
 induction rs with
 |nil=>simp at h
 |cons p t ih=>
 obtain⟨l0,r0⟩:=p;simp only[kl,bD];split
 ·simp
 next e=>exact ih (by simpa[e] using h)
theorem nr {ρ:Lb->Lb} {H:Hp}:∀{rs:List (Lb×Row)},tc ρ H rs->∀{l:Lb} {r:Row},(l,r)∈rs->H (ρ l)= .live (dO ρ r)
 |[],_,_,_,h=>by simp at h
 |(l0,r0)::t,h,l,r,hm=>by
  simp only[PY,eS] at hm;rcases hm with⟨rfl,rfl⟩|hm
  ·exact h.1
  exact nr h.2 hm
theorem gi {α β:Type} [DecidableEq β] {f:α->β}:∀{l:List α},(l.map f).Nodup->∀a∈l,∀b∈l,f a=f b->a=b
 |[],_,_,h,_,_,_=>by simp at h
 |x::l,hd,a,ha,b,hb,e=>by
  simp only[Rj,WQ,pb,not_exists,not_and] at hd;simp only[PY] at ha hb;rcases ha with rfl|ha<;>rcases hb with rfl|hb
  ·rfl
  ·exact absurd e.symm (hd.1 b hb)
  ·exact absurd e (hd.1 a ha)
  exact gi hd.2 a ha b hb e
def IU.wk {ls:List Lb} {ps:List (Nat×AV)} {rs:List (Lb×Row)} {env:Env} {H:Hp} {m:List (Lb×Lb)} (h:IU ls ps rs env H m) (lr:rs.map Prod.fst=ls) (hp:∀l∈ah (ps.map Prod.snd),l∈ls)
  (hr:∀q∈rs,∀cs∈q.2.els,∀l∈ah cs,l∈ls):Wk (dn m) env H (o9 ps) (kl rs):=by
 have sw:∀l,live (kl rs) l->l∈ls:=λl ⟨r,h⟩=>by rw[<-lr];exact pb.2 ⟨_,fy h,rfl⟩
 refine⟨h.e.we,λl r hl=>nr h.r (fy hl),λl l' h1 h2 e=>gi h.inj l (sw l h1) l' (sw l' h2) e,mu λl hl=>amE (by rw[lr];exact hp l hl),λl r hl cs bV q hq=> ?_,λl hf=>⟨λhu=> ?_,λhl=>(h.fr l (sw l hl)).2 (Lb.Og hf)⟩,λl hl hf=>(h.fr l (sw l hl)).1 hf⟩
 ·exact amE (by rw[lr];exact hr _ (fy hl) cs bV q hq)
 exact amE (by rw[lr];exact h.nf l (Lb.Og hf) hu)
section
variable {σ:Type} {S:St} {Q:gI} {k:List It} {W:Env->Hp->σ->Prop} {μ:σ->Nat} {n:Nat} {env:Env} {H:Hp}
def IW:kM S Q k W μ n .normal env H=∃s,μ s<n/\W env H s:=rfl
theorem IX (id:Nat):kM S Q k W μ n (.exit id) env H=match dR id k with
 |some k'=>go S Q k' env H
 |none=>Q (.exit id) env H:=rfl
def IY:kM S Q k W μ n .ret env H=Q .ret env H:=rfl
def AT:sv env []=True:=rfl
def xM (n:Nat) (x:AV) (r:List (Nat×AV)):sv env ((n,x)::r)=(env n=x/\sv env r):=rfl
end
def AU {b:Bool} {A B:Prop} {u:Tp A B} (h1:b=true->A) (h2:b=false->B):cK (.bool b) A B u:=by
 cases b
 ·exact h2 rfl
 exact h1 rfl
def ahq {b:Bool} {A B:Prop} {u:Tp A B} (h1:b=true->A) (h2:b=false->B):gB (.bool b) true A B u:=by
 cases b
 ·rw[IL];exact h2 rfl
 rw[IK];exact h1 rfl
def IZ (env:Env) (n:Nat):ev env (.t n)=env n:=rfl
def I0 (env:Env) (x:AV):ev env (.c x)=x:=rfl
def DL (n:Nat) (h:n<=4000):(n<=maxLen)=True:=by simp[maxLen];omega

def DM (b:Bool) (A B:Prop) (u:Tp A B):cK (.bool (!b)) A B u=cK (.bool b) B A .mk:=by cases b<;>simp[cK]
def DN (b t:Bool) (A B:Prop) (u:Tp A B):gB (.bool (!b)) t A B u=gB (.bool b) (!t) A B .mk:=by cases b<;>cases t<;>simp[gB]
def uv (args:List AV) (n:Nat):jP args n=args.getD n .un:=rfl
def uw (l:Lb):Hp.none l= .unused:=rfl
def DO (n:Nat):Env.any n= .any:=rfl
def Ge {σ:Type} (ps:σ->List (Nat×AV)) (env:Env) (H:Hp) (s:σ):WD ps env H s=(NF H/\sv env (ps s)):=rfl
def vG (cs:List IV):(IV.agg cs).cells=cs:=rfl
def Gf (b:Bool):(false ^^ b)=b:=by cases b<;>rfl
def Gg (b:Bool):(true ^^ b)= !b:=by cases b<;>rfl
def Le:=And.intro @List.getD_cons_zero.{0} (And.intro @List.getD_cons_succ.{0} (And.intro @List.length_map.{0,0} (And.intro @List.length_cons.{0} (And.intro @List.length_nil.{0} (And.intro @ae (And.intro @List.getElem?_cons_zero.{0} (And.intro @List.getElem?_cons_succ.{0} (And.intro @Option.bind_some.{0,0} (And.intro @Option.map_some.{0,0} (And.intro @List.map_cons.{0,0} (And.intro @List.map_nil.{0,0} (And.intro @QJ (And.intro @Qj (And.intro @List.all_cons.{0} (And.intro @List.all_nil.{0} (And.intro @List.take_succ_cons.{0} (And.intro @List.take_zero.{0} (And.intro @List.drop_succ_cons.{0} (And.intro @List.drop_zero.{0} (And.intro @List.cons_append.{0} (And.intro @List.nil_append.{0} (And.intro @List.append_nil.{0} (And.intro @List.set_cons_zero.{0} (And.intro @List.set_cons_succ.{0} (And.intro @List.take_nil.{0} (And.intro @List.drop_nil.{0} (And.intro @List.replicate_one.{0} (And.intro @List.flatten_cons.{0} (And.intro @List.flatten_nil.{0} (And.intro @uv (And.intro @uw (And.intro @DO (And.intro @IZ (And.intro @I0 (And.intro @IW (And.intro @IX (And.intro @IY (And.intro @AR (And.intro @xK (And.intro @AT (And.intro @xM (And.intro @AS (And.intro @DJ (And.intro @DM (And.intro @DN (And.intro @Ge (And.intro @vG (And.intro @Gf @Gg))))))))))))))))))))))))))))))))))))))))))))))))
def Lf:=And.intro @V9 (And.intro @bM (And.intro @Zk (And.intro @PW (And.intro @DL (And.intro @ZA (And.intro @YX (And.intro @Vn (And.intro @QK (And.intro @QI (And.intro @Bool.not_not (And.intro @Su (And.intro @Za (And.intro @QV (And.intro @implies_true.{1} (And.intro @false_implies (@List.mem_cons.{0}))))))))))))))))
def I1 (x:AV) (k:AV->Prop) (_:Tv k):Prop:=∃R,zK x=some R/\∀m,R m->m<=maxLen->k (.int .i64 (m:Int))
def Kc (S:St) (f:Nat) (args:List AV) (H:Hp) (k:AV->Prop) (_:Tv k):Prop:=∃res,sZ S f args H res/\k res
section
variable {S:St} {Q:gI} {env:Env} {H:Hp}
def DP (d:Option Nat) (x:O) (k:AV->Hp->Prop):bg S d (.cap x) env H k=I1 (ev env x) (λy=>k y H) .mk:=rfl
def DQ (d:Option Nat) (s x:O) (sz:Nat) (k:AV->Hp->Prop):bg S d (.qL s x sz) env H k=pK (sW sz (ev env s) (ev env x) H) k .mk:=rfl
def DR (d:Option Nat) (x:O) (sz:Nat) (z:List AV) (k:AV->Hp->Prop):bg S d (.si x sz z) env H k=hK (sX sz z (ev env x) H) (λH'=>k (.gf []) H') .mk:=rfl
def DS (q:Nat) (n c:O) (sz b:Nat) (z:List AV) (k:AV->Hp->Prop):bg S (some q) (.tU n c sz b z) env H k=pK (vg sz b q z (ev env n) (ev env c) H) k .mk:=by
 simp[bg,pK]
def xN (d:Option Nat) (f:Nat) (args:List O) (k:AV->Hp->Prop):bg S d (.kE f args) env H k=Kc S f (args.map (ev env)) H (λy=>k y H) .mk:=rfl
def AW d x n sz (k:AV->Hp->Prop):bg S d (.oD x n sz) env H k=cw (c6 (.oD x n sz) env) (λx=>k x H) .mk:=rfl
def AX d s x sz b (k:AV->Hp->Prop):bg S d (.oE s x sz b) env H k=cw (c6 (.oE s x sz b) env) (λx=>k x H) .mk:=rfl
def xO d x n sz (k:AV->Hp->Prop):akH S .no d (.oD x n sz) env H k=cw (c6 (.oD x n sz) env) (λx=>k x H) .mk:=aam
def xP d s x sz b (k:AV->Hp->Prop):akH S .no d (.oE s x sz b) env H k=cw (c6 (.oE s x sz b) env) (λx=>k x H) .mk:=aam
def DT (R W:List Lb) (d:Option Nat) (s x:O) (sz:Nat) (k:AV->Hp->Prop):akH S (.rw R W) d (.qL s x sz) env H k =
  pK (sW sz (ev env s) (ev env x) H) (λy H'=>(∀l∈eP (ev env x),l.iQ∈R\/l.iQ∈W)/\(∀l∈eP (ev env s),l.iQ∈W)/\k y H') .mk:=by
 simp only[akH,dm,cx,aA,pK]
def DU (R W:List Lb) (d:Option Nat) (x:O) (sz:Nat) (z:List AV) (k:AV->Hp->Prop):akH S (.rw R W) d (.si x sz z) env H k =
  hK (sX sz z (ev env x) H) (λH'=>(∀l∈eP (ev env x),l.iQ∈W)/\k (.gf []) H') .mk:=by
 apply propext;simp only[akH,dm,cx,aA,hK];constructor
 ·rintro⟨x1,H',h1,_,h2,h3⟩;obtain⟨H2,h5,h4⟩:=jF.1 h1;simp only[eS] at h4;obtain⟨rfl,rfl⟩:=h4;exact⟨H2,h5,h2,h3⟩
 rintro⟨H2,h1,h2,h3⟩;exact⟨.gf [],H2,by rw[h1];rfl,tM,h2,h3⟩
def AY (q:Nat) (s n:O) (sz b:Nat) (z:List AV) (k:AV->Hp->Prop):bg S (some q) (.pP s n sz b z) env H k=pK (ud sz b q z (ev env s) (ev env n) H) k .mk:=by
 simp[bg,pK]
def xQ (q:Nat) (sz:Nat) (z:List AV) (ps:List (Nat×O)) (k:AV->Hp->Prop):bg S (some q) (.gG sz z ps) env H k=pK (sY sz q z (ps.map λp=>(p.1,ev env p.2)) H) k .mk:=by
 simp[bg,pK]
def xR (R W:List Lb) (q:Nat) (sz:Nat) (z:List AV) (ps:List (Nat×O)) (k:AV->Hp->Prop):akH S (.rw R W) (some q) (.gG sz z ps) env H k =
  pK (sY sz q z (ps.map λp=>(p.1,ev env p.2)) H) (λy H'=>Lb.loc q∈W/\k y H') .mk:=by
 simp[akH,dm,cx,aA,pK,Lb.iQ]
def AZ d es (k:AV->Hp->Prop):bg S d (.qM es) env H k=cw (c6 (.qM es) env) (λx=>k x H) .mk:=rfl
def A0 d x i (k:AV->Hp->Prop):bg S d (.sy x i) env H k=cw (c6 (.sy x i) env) (λx=>k x H) .mk:=rfl
def DV d f qs cs (k:AV->Hp->Prop):bg S d (.zh f qs cs) env H k=cw (c6 (.zh f qs cs) env) (λx=>k x H) .mk:=rfl
def A1 d f qs cs (k:AV->Hp->Prop):akH S .no d (.zh f qs cs) env H k=cw (c6 (.zh f qs cs) env) (λx=>k x H) .mk:=aam
def aaV {sz d:Nat} {z:List AV} {ps:List (Nat×AV)} {cs:List AV} (h1:fg z (ps.map λp=>(p.1*sz,sz,p.2))=some cs) (h2:H (.loc d)= .unused) (h3:cs.length=sz) (h4:0<sz) :
  sY sz d z ps H=some (.sl (.loc d) sz 0 1,bD H (.loc d) (.live ⟨sz,[cs]⟩)):=by
 unfold sY;rw[h1,EF,P8 ⟨h2,h3,h4⟩]
def DW (d:Option Nat) (i:U7) (k:AV->Hp->Prop):akH S .all d i env H k=bg S d i env H k:=rfl
def DX (S:St) (F:List Lb) (f:Nat) (args:List AV) (H:Hp) (k:AV->Hp->Prop) (_:Tw k):Prop:=FX S F f args H k
def DY (F:List Lb) (d:Option Nat) (f:Nat) (args:List O) (k:AV->Hp->Prop):akH S (.p_ F) d (.call f args) env H k=DX S F f (args.map (ev env)) H k .mk:=rfl
def DZ {f:Nat} {args:List AV} {res:AV} {k:AV->Prop} (h:sZ S f args H res) (hk:k res) {u:Tv k}:Kc S f args H k u:=⟨res,h,hk⟩
def ad6 (l:Lb) (sz i n c:Nat) (k:AV->Prop) (u:Tv k):I1 (.slk l sz i n c) k u=(c<=maxLen->k (.int .i64 (c:Int))):=by
 simp only[I1,zK,di];apply propext;constructor
 ·rintro⟨R,rfl,h⟩ hc;exact h c rfl hc
 intro h;exact⟨_,rfl,λm hm hc=>by subst hm;exact h hc⟩
end
def Lg:=And.intro @AZ<|And.intro @A0<|And.intro @AY<|And.intro @xQ<|And.intro @xR<|And.intro @DV<|And.intro @A1<|And.intro @DP (And.intro @DQ (And.intro @DR (And.intro @DS (And.intro @xN (And.intro @AW (And.intro @AX (And.intro @xO (And.intro @xP (And.intro @DT (And.intro @DU<|And.intro @DY @DW))))))))))
def aX:=And.intro dS<|And.intro Lg<|And.intro ai<|And.intro aj<|And.intro @ar<|And.intro @ak<|And.intro @aF<|And.intro @aD @aE
def mP:=And.intro Lb.loc.injEq<|And.intro Lb.par.injEq<|And.intro Lb.gen.injEq<|And.intro @aj'<|And.intro @pL<|And.intro @acG<|And.intro @qJ<|And.intro jy<|And.intro Int.le_refl Int.toNat_zero
def mX:=And.intro J_ (And.intro Le (And.intro Lf (And.intro mP (And.intro @vC.eq_1 (And.intro @c6.eq_1 (And.intro @c6.eq_2 (And.intro @c6.eq_3 (And.intro @c6.eq_4 (And.intro @c6.eq_5 (And.intro @c6.eq_6 (And.intro @c6.eq_7 (And.intro @c6.eq_8 (And.intro @c6.eq_9 (And.intro @c6.eq_10 (And.intro @c6.eq_11 (And.intro @c6.eq_12 (And.intro @c6.eq_13 (And.intro @c6.eq_14 (And.intro @c6.eq_15 (And.intro @c6.eq_16 (And.intro @c6.eq_17 (And.intro @c6.eq_18 (And.intro @c6.eq_19 (And.intro @c6.eq_20 (And.intro @c6.eq_21 (And.intro @c6.eq_22 (And.intro @c6.eq_23 (And.intro @c6.eq_24 (And.intro @c6.eq_25 (And.intro @c6.eq_26 (And.intro @c6.eq_27 (And.intro @c6.eq_28 (And.intro @c6.eq_29 (And.intro @c6.eq_30 (And.intro @c6.eq_31 (And.intro @c6.eq_32 (And.intro @c6.eq_33 (And.intro @c6.eq_34 (And.intro @c6.eq_35 (And.intro @c6.eq_36 (And.intro @c6.eq_37 (And.intro @c6.eq_38 (And.intro @dk.eq_1 (And.intro @dk.eq_2 (And.intro @dk.eq_3 (And.intro @dk.eq_4 (And.intro @dk.eq_5 (And.intro @dk.eq_6 (And.intro @dk.eq_7 (And.intro @dk.eq_8 (And.intro @dk.eq_9 (And.intro @dk.eq_10 (And.intro @dk.eq_11 (And.intro @dk.eq_12 (And.intro @dk.eq_13 (And.intro @dk.eq_14 (And.intro @dk.eq_15 (And.intro @dk.eq_16 (And.intro @dk.eq_17 (And.intro @dk.eq_18 (And.intro @dk.eq_19 (And.intro @dk.eq_20 (And.intro @dk.eq_21 (And.intro @dk.eq_22 (And.intro @Wl.eq_1 (And.intro @Wl.eq_2 (And.intro @gZ.eq_1 (And.intro @gZ.eq_2 (And.intro @B9.eq_1 (And.intro @B9.eq_2 (And.intro @B9.eq_3 (And.intro @eP.eq_1 (And.intro @eP.eq_2 (And.intro @eP.eq_3 (And.intro @eP.eq_4 (And.intro @qe.eq_1 (And.intro @qe.eq_2 (And.intro @qe.eq_3 (And.intro @fg.eq_1 (And.intro @fg.eq_2 (And.intro @chunks.eq_1 (And.intro @chunks.eq_2 (And.intro @qO.eq_1 (And.intro @qO.eq_2 (And.intro @zx.eq_1 (And.intro @zx.eq_2 (And.intro @AV.cells.eq_1 (And.intro @AV.cells.eq_2 (And.intro @AV.sI.eq_1 (And.intro @AV.sI.eq_2 (And.intro @AV.one.eq_1 (And.intro @AV.one.eq_2 (And.intro @AV.one.eq_3 (And.intro @AV.one.eq_4 (And.intro @AV.one.eq_5 (And.intro @IV.dQ.eq_1 (And.intro @IV.dQ.eq_2 (And.intro @IV.dQ.eq_3 (And.intro @IV.dQ.eq_4 (And.intro @IV.dQ.eq_5 (And.intro @Lb.app.eq_1 (And.intro @Lb.fresh.eq_1 (And.intro @Lb.fresh.eq_2 (And.intro @Lb.fresh.eq_3 (And.intro @AV.iv.eq_1 (And.intro @AV.iv.eq_2 (And.intro @AV.iv.eq_3 (And.intro @AV.iv.eq_4 (And.intro @AV.iv.eq_5 (And.intro @AV.iv.eq_6 (And.intro @if_true.{1} (And.intro @if_false.{1} (And.intro @List.not_mem_nil.{0} (And.intro @forall_eq.{1} (And.intro @beq_self_eq_true.{0} @List.isEmpty_nil.{0})))))))))))))))))))))))))))))))))))))))))))))))))))))))))))))))))))))))))))))))))))))))))))))))))))))))))))))))))))
def lX:=And.intro @ev.eq_1 (And.intro @ev.eq_2 (And.intro @uv (And.intro @List.getD_cons_zero.{0} (And.intro @List.getD_cons_succ.{0} (And.intro @Su (And.intro @Za (And.intro @List.length_map.{0,0} (And.intro @List.length_cons.{0} (And.intro @List.length_nil.{0} (And.intro @ae (And.intro @Lb.loc.injEq (And.intro @List.getElem?_cons_zero.{0} (And.intro @List.getElem?_cons_succ.{0} (And.intro @Option.bind_some.{0,0} (And.intro @Option.map_some.{0,0} (And.intro @List.map_cons.{0,0} (And.intro @List.map_nil.{0,0} (And.intro @QJ (And.intro @Qj (And.intro @List.all_cons.{0} (And.intro @List.all_nil.{0} (And.intro @ZA (And.intro @YX (And.intro @Vn (And.intro @List.take_succ_cons.{0} (And.intro @List.take_zero.{0} (And.intro @List.drop_succ_cons.{0} (And.intro @List.drop_zero.{0} (And.intro @List.cons_append.{0} (And.intro @List.nil_append.{0} (And.intro @List.append_nil.{0} (And.intro @List.set_cons_zero.{0} (And.intro @aj' (And.intro @pL (And.intro @acG (And.intro @qJ (And.intro @jy (And.intro @List.mem_cons.{0} (And.intro @QV (And.intro @false_implies (And.intro @implies_true.{1} (And.intro @uw (And.intro @PW (And.intro @List.set_cons_succ.{0} (And.intro @List.replicate_one.{0} (And.intro @List.flatten_cons.{0} (And.intro @List.flatten_nil.{0} (And.intro @V9 (And.intro @bM @Zk)))))))))))))))))))))))))))))))))))))))))))))))))
def lK:=And.intro J_ (And.intro @vC.eq_1 (And.intro @c6.eq_1 (And.intro @c6.eq_2 (And.intro @c6.eq_3 (And.intro @c6.eq_4 (And.intro @c6.eq_5 (And.intro @c6.eq_6 (And.intro @c6.eq_7 (And.intro @c6.eq_8 (And.intro @c6.eq_9 (And.intro @c6.eq_10 (And.intro @c6.eq_11 (And.intro @c6.eq_12 (And.intro @c6.eq_13 (And.intro @c6.eq_14 (And.intro @c6.eq_15 (And.intro @c6.eq_16 (And.intro @c6.eq_17 (And.intro @c6.eq_18 (And.intro @c6.eq_19 (And.intro @c6.eq_20 (And.intro @c6.eq_21 (And.intro @c6.eq_22 (And.intro @c6.eq_23 (And.intro @c6.eq_24 (And.intro @c6.eq_25 (And.intro @c6.eq_26 (And.intro @c6.eq_27 (And.intro @c6.eq_28 (And.intro @c6.eq_29 (And.intro @c6.eq_30 (And.intro @c6.eq_31 (And.intro @c6.eq_32 (And.intro @c6.eq_33 (And.intro @c6.eq_34 (And.intro @c6.eq_35 (And.intro @c6.eq_36 (And.intro @c6.eq_37 (And.intro @c6.eq_38 (And.intro @dk.eq_1 (And.intro @dk.eq_2 (And.intro @dk.eq_3 (And.intro @dk.eq_4 (And.intro @dk.eq_5 (And.intro @dk.eq_6 (And.intro @dk.eq_7 (And.intro @dk.eq_8 (And.intro @dk.eq_9 (And.intro @dk.eq_10 (And.intro @dk.eq_11 (And.intro @dk.eq_12 (And.intro @dk.eq_13 (And.intro @dk.eq_14 (And.intro @dk.eq_15 (And.intro @dk.eq_16 (And.intro @dk.eq_17 (And.intro @dk.eq_18 (And.intro @dk.eq_19 (And.intro @dk.eq_20 (And.intro @dk.eq_21 (And.intro @dk.eq_22 (And.intro @Wl.eq_1 (And.intro @Wl.eq_2 (And.intro @gZ.eq_1 (And.intro @gZ.eq_2 (And.intro @B9.eq_1 (And.intro @B9.eq_2 (And.intro @B9.eq_3 (And.intro @eP.eq_1 (And.intro @eP.eq_2 (And.intro @eP.eq_3 (And.intro @eP.eq_4 (And.intro @qe.eq_1 (And.intro @qe.eq_2 (And.intro @qe.eq_3 (And.intro @fg.eq_1 (And.intro @fg.eq_2 (And.intro @chunks.eq_1 (And.intro @chunks.eq_2 (And.intro @qO.eq_1 (And.intro @qO.eq_2 (And.intro @zx.eq_1 (And.intro @zx.eq_2 (And.intro @AV.cells.eq_1 (And.intro @AV.cells.eq_2 (And.intro @AV.sI.eq_1 (And.intro @AV.sI.eq_2 (And.intro @AV.one.eq_1 (And.intro @AV.one.eq_2 (And.intro @AV.one.eq_3 (And.intro @AV.one.eq_4 (And.intro @AV.one.eq_5 (And.intro @IV.dQ.eq_1 (And.intro @IV.dQ.eq_2 (And.intro @IV.dQ.eq_3 (And.intro @IV.dQ.eq_4 (And.intro @IV.dQ.eq_5 (And.intro @Lb.app.eq_1 (And.intro @Lb.fresh.eq_1 (And.intro @Lb.fresh.eq_2 (And.intro @Lb.fresh.eq_3 (And.intro @AV.iv.eq_1 (And.intro @AV.iv.eq_2 (And.intro @AV.iv.eq_3 (And.intro @AV.iv.eq_4 (And.intro @AV.iv.eq_5 (And.intro @AV.iv.eq_6 (And.intro @if_true.{1} (And.intro @if_false.{1} (And.intro @List.not_mem_nil.{0} @forall_eq.{1}))))))))))))))))))))))))))))))))))))))))))))))))))))))))))))))))))))))))))))))))))))))))))))))))))))))))))))))
def lP:=And.intro dS (And.intro @ai (And.intro @aj (And.intro @ar (And.intro @ak (And.intro @aF (And.intro @aD @aE))))))

open Classical in
noncomputable def asG (kp:Lb→Prop) (H:Hp):Hp:=fun l=>match H l with
 | .live r=>if kp l then .live r else .dead
 |s=>s
def dH {kp:Lb->Prop} {H:Hp} {l:Lb} {r:Row}:asG kp H l= .live r↔H l= .live r/\kp l:=by
 unfold asG;cases h:H l with
 |live r'=>
  by_cases hk:kp l
  ·simp[hk]
  simp[hk]
 |unused=>simp
 |dead=>simp
def N9 {kp:Lb->Prop} {H:Hp} {l:Lb}:asG kp H l= .unused↔H l= .unused:=by
 unfold asG;cases h:H l with
 |live r'=>
  by_cases hk:kp l
  ·simp[hk]
  simp[hk]
 |unused=>simp
 |dead=>simp
section
variable {K:Kx} {β:Lb->Option Nat} {env:Env} {H:Hp} {a:Act} {w:World}
def aH.asG (hr:aH K β env H a w) (kp:Lb->Prop):aH K β env (Am.asG kp H) a w:=by
 have:=hr.vk id (env2:=env) (H2:=Am.asG kp H) (λn=> .inr (qc _).symm) (λl r h=>by rw[qd];exact(dH.1 h).1) (λ_ _ _ _ h=>h)
  (λn l hl=>by rw[Ne,N9];exact hr.eI n l hl) (λl r h cs bV q hq=>by rw[Ne,N9];exact hr.cH l r (dH.1 h).1 cs bV q hq)
  (λl hl=>⟨by rw[Ne,N9];exact(hr.gA l hl).1,λ_=>rfl⟩) (λ_ _ h=>h)
 exact this
def xS {K:Kx} {β:Lb->Option Nat} {H:Hp} (kp:Lb->Prop) {k:Nat} (h:Im K β H k):Im K β (Am.asG kp H) k:=
 ⟨h.1,λl ⟨r,hl⟩=>h.2 l ⟨r,(dH.1 hl).1⟩⟩
def RV.asG {w:World} {β:Lb->Option Nat} {H:Hp} {x:AV} {v:Value} (kp:Lb->Prop) (h:RV w β H (Im K β H) x v):RV w β (Am.asG kp H) (Im K β (Am.asG kp H)) x v:=
 RV.mono x v {im:=λk hk hs=>⟨xS kp hk,hs,rfl⟩,lb:=λl _ ⟨r,hl⟩=>⟨⟨r,(dH.1 hl).1⟩,rfl,λ_ _ _ h=>h⟩} h
end
def ey.cX {P:Program} {G:Nat->Option (List IV)} {f:Nat} {args:List AV} {H:Hp} {Q:AV->Hp->Prop} (h:ey P G f args H Q) (kp:Lb->Prop) :
  ey P G f args H λx H'=>∃H1,Q x H1/\H'=asG kp H1:=by
 intro w A β vs hr hv;refine(h w A β vs hr hv).mono ?_;rintro e w' ⟨v,x,H1,β',rfl,hq,lz,hx,hm⟩;exact⟨v,x,asG kp H1,β',rfl,⟨H1,hq,rfl⟩,lz.asG kp,hx.asG kp,λl hl=>by rw[Ne,N9];exact hm l hl⟩
def Oj (cs:List AV):Hp:=bD Hp.none (.par 0) (.live ⟨cs.length,[cs]⟩)
def cR (P:Program) (G:Nat->Option (List IV)) (f:Nat) (args:List AV) (cs:List AV) (R:AV->List AV->Prop):Prop:=
 (∀l∈ah args,l= .par 0)/\ah cs=[]/\ey P G f args (Oj cs) λx H'=>∃dF,R x dF/\x.an=[]/\ah dF=[]/\dF.length=cs.length/\H' (.par 0)= .live ⟨cs.length,[dF]⟩
def ft (l:Lb):Lb->Lb:=λq=>if q= .par 0 then l else q
def aas {p:Prop} (h:p:=by simp[bu,bJ,ft]):p:=h
def bj {S:St} {f:Nat} {args U6:List AV} {cs:List AV} {R:AV->List AV->Prop} {H:Hp} {k:AV->Hp->Prop} {u:Tw k} {l:Lb} (h:cR S.P S.G f U6 cs R)
  (ha:args=bu (ft l) U6) (hl:H l= .live ⟨cs.length,[cs]⟩) (hk:∀x dF,R x dF->x.an=[]->ah dF=[]->dF.length=cs.length->k x (bD H l (.live ⟨cs.length,[dF]⟩))):C7 S f args H k u:=by
 obtain⟨h1,h2,h3⟩:=h;have aK:∀q r,Oj cs q= .live r->q= .par 0/\r=⟨cs.length,[cs]⟩:=by
  intro q r h;by_cases e:q= .par 0
  ·subst e;simp[Oj] at h;exact⟨rfl,h.symm⟩
  rw[Oj,aq _ _ e] at h;simp[Hp.none] at h
 refine .inr<| .inr ⟨⟨ft l,Oj cs,U6,_,h3.cX (λq=>q= .par 0),ha,?_,?_,?_,?_,?_,?_,?_⟩⟩
 ·intro q r h;obtain⟨rfl,rfl⟩:=aK q r h;simp only[ft,Rc,hl,Slot.live.injEq,dO,Row.mk.injEq,Rj,Ww,Su,Q5,Za];exact(fZ _ _ h2).symm
 ·intro q hq;by_cases e:q= .par 0
  ·subst e;exact⟨_,by simp[Oj];rfl⟩
  rw[Oj,aq _ _ e] at hq;simp[Hp.none] at hq
 ·rintro q q' ⟨r,h⟩ ⟨r',h'⟩ _;rw[(aK q r h).1,(aK q' r' h').1]
 ·intro q hq;rw[h1 q hq];simp[Oj]
 ·rintro q ⟨r,h⟩;rw[(aK q r h).1];rfl
 ·intro q r h c hc z hz;obtain⟨rfl,rfl⟩:=aK q r h;simp only[bY] at hc;subst hc;rw[h2] at hz;simp at hz
 rintro x H' ⟨H1,⟨dF,e1,e2,e3,e4,e5⟩,rfl⟩;have hH:∀q r,asG (λq=>q= .par 0) H1 q= .live r->q= .par 0/\r=⟨cs.length,[dF]⟩:=by
  intro q r h;obtain⟨g1,rfl⟩:=dH.1 h;rw[e5] at g1;cases g1;exact⟨rfl,rfl⟩
 have EY:asG (λq=>q= .par 0) H1 (.par 0)= .live ⟨cs.length,[dF]⟩:=dH.2 ⟨e5,rfl⟩;refine⟨ft l,bD H l (.live ⟨cs.length,[dF]⟩),λ_ _ _=>rfl,?_,?_,?_,?_,?_,?_,?_,?_⟩
 ·intro q r h;by_cases e:q=l
  ·subst e;simp at h;refine .inr ⟨.par 0,_,EY,by simp[ft],?_⟩;rw[<-h];simp only[dO,Row.mk.injEq,Rj,Ww,Su,Q5,Za];exact(fZ _ _ e3).symm
  rw[aq _ _ e] at h;refine .inl ⟨h,?_⟩;rintro z ⟨r',hz⟩;rw[(aK z r' hz).1];simp only[ft,Rc];exact Ss e
 ·rintro q q' ⟨r,h⟩ ⟨r',h'⟩ _;rw[(hH q r h).1,(hH q' r' h').1]
 ·intro q hq;by_cases e:q=l
  ·subst e;simp
  rw[aq _ _ e];exact hq
 ·intro q hq;rw[e2] at hq;simp at hq
 ·intro q r h c hc z hz;obtain⟨rfl,rfl⟩:=hH q r h;simp only[bY] at hc;subst hc;rw[e3] at hz;simp at hz
 ·rintro q ⟨r,h⟩;obtain⟨rfl,rfl⟩:=hH q r h;exact .inl ⟨_,by simp[Oj];rfl⟩
 ·rintro q (hq|⟨l1,r1,c,g1,g2,g3⟩) _
  ·rw[e2] at hq;simp at hq
  obtain⟨rfl,rfl⟩:=hH l1 r1 g1;simp only[bY] at g2;subst g2;rw[e3] at g3;simp at g3
 rw[j8 _ _ e2];exact hk x dF e1 e2 e3 e4
def dw {P:Program} {G:Nat->Option (List IV)} {f:Nat} {n:Nat} {rs:List RO} {ac:AC} {args cs:List AV} {R:AV->List AV->Prop}
  (hF:aw P G f=some (n,rs,ac.bare)) (hn:args.length<=n) (ha:∀l∈ah args,l= .par 0) (hc:ah cs=[])
  (hg:go ⟨P,G,n⟩ (fX rs λx H'=>∃dF,R x dF/\x.an=[]/\ah dF=[]/\dF.length=cs.length/\H' (.par 0)= .live ⟨cs.length,[dF]⟩) [.code ac] (jP args) (Oj cs)):cR P G f args cs R:=by
 refine⟨ha,hc,WY hF hn ?_ ?_ hg⟩
 ·rintro l ⟨r,h⟩;by_cases e:l= .par 0
  ·subst e;rfl
  rw[Oj,aq _ _ e] at h;simp[Hp.none] at h
 intro l hl;rw[ha l hl];simp[Oj]
def cR.mono {P:Program} {G:Nat->Option (List IV)} {f:Nat} {args cs:List AV} {R R':AV->List AV->Prop} (h:cR P G f args cs R) (hq:∀x c,R x c->R' x c):cR P G f args cs R':=
 ⟨h.1,h.2.1,h.2.2.mono λx H ⟨c,h1,h2⟩=>⟨c,hq _ _ h1,h2⟩⟩
end Go.Am

namespace Go.Am
open Go Go.RowKit
mutual
def norm:AV->AV
 | .nil0=> .list []
 | .agg cs=> .agg (fi cs)
 | .gf cs=> .gf (fi cs)
 |x=>x
def fi:List AV->List AV
 |[]=>[]
 |x::r=>norm x::fi r
end
mutual
theorem nV:∀x:AV,(norm x).an=x.an
 | .nil0=>rfl
 | .agg cs=>by simp[norm,AV.an,atd cs]
 | .gf cs=>by simp[norm,AV.an,atd cs]
 | .sl ..| .slk ..| .ptr ..| .any| .un| .bool _| .int ..| .str _| .list _| .jK| .iT| .lptr _| .fn ..| .ifc ..| .mis _=>rfl
theorem atd:∀xs:List AV,ah (fi xs)=ah xs
 |[]=>rfl
 |x::r=>by simp[fi,ah,nV x,atd r]
end
mutual
theorem RV.norm {w:World} {β:Lb->Option Nat} {H:Hp} {I:Nat->Prop}:∀(x:AV) (v:Value),RV w β H I x v->RV w β H I (Am.norm x) v
 | .nil0,v,h=>by
  simp only[RV] at h;obtain⟨a,rfl⟩:=h;simp only[Am.norm,RV,NN];exact⟨a,0,rfl,PW _,by simp[maxLen],.inl rfl⟩
 | .agg cs,v,h=>by
  simp only[RV,Am.norm] at h ⊢;obtain⟨vs,h1,h2⟩:=h;exact⟨vs,h1,br.norm cs vs h2⟩
 | .gf cs,v,h=>by
  simp only[RV,Am.norm] at h ⊢;obtain⟨vs,h1,h2⟩:=h;exact⟨vs,h1,br.norm cs vs h2⟩
 | .sl ..,v,h| .slk ..,v,h| .ptr ..,v,h| .any,v,h| .un,v,h| .bool _,v,h| .int ..,v,h| .str _,v,h| .list _,v,h| .jK,v,h| .iT,v,h| .lptr _,v,h| .fn ..,v,h| .ifc ..,v,h| .mis _,v,h=>h
theorem br.norm {w:World} {β:Lb->Option Nat} {H:Hp} {I:Nat->Prop}:∀(xs:List AV) (vs:List Value),br w β H I xs vs->br w β H I (fi xs) vs
 |[],vs,h=>h
 |x::r,vs,h=>by
  simp only[br,fi] at h ⊢;obtain⟨v,us,h1,h2,h3⟩:=h;exact⟨v,us,h1,RV.norm x v h2,br.norm r us h3⟩
end
def ey.n {P:Program} {G:Nat->Option (List IV)} {f:Nat} {args:List AV} {H:Hp} {Q:AV->Hp->Prop} (h:ey P G f (fi args) H Q):ey P G f args H Q:=
 λw A β vs hr hv=>h w A β vs hr (br.norm _ _ hv)
def ey.res {P:Program} {G:Nat->Option (List IV)} {f:Nat} {args:List AV} {H:Hp} {Q:AV->Hp->Prop} (h:ey P G f args H Q):ey P G f args H λx H'=>∃y,Q y H'/\x=norm y:=by
 intro w A β vs hr hv;refine(h w A β vs hr hv).mono ?_;rintro e w' ⟨v,x,H',β',rfl,h1,h2,h3,h4⟩;exact⟨v,norm x,H',β',rfl,⟨x,h1,rfl⟩,h2,RV.norm _ _ h3,by rw[nV];exact h4⟩
def au.n {P:Program} {G:Nat->Option (List IV)} {f:Nat} {args:List AV} {res:AV} (h:au P G f (fi args) res):au P G f args res:=
 ⟨by have:=h.1;rwa[atd] at this,h.2.1,h.2.2.n⟩
def au.of {P:Program} {G:Nat->Option (List IV)} {f:Nat} {args Ca:List AV} {res:AV} (h:au P G f Ca res) (e:fi args=Ca):au P G f args res:=au.n (by rw[e];exact h)
def Ws {P:Program} {G:Nat->Option (List IV)} {f:Nat} {n:Nat} {rs:List RO} {ac:AC} {args:List AV} {res:AV}
  (hF:aw P G f=some (n,rs,ac.bare)) (hn:args.length<=n) (hl:ah args=[]) (II:res.an=[])
  (hg:go ⟨P,G,n⟩ (fX rs λx _=>norm x=res) [.code ac] (jP args) Hp.none):au P G f args res:=
 ⟨hl,II,((WY hF hn (λl ⟨r,h⟩=>by simp[Hp.none] at h) (by simp[hl]) hg).res).mono λx H ⟨y,h1,h2⟩=>by rw[h2];exact h1⟩
def xT (xs:List IV) (i:Nat):(aB xs)[i]?=xs[i]?.map λy=>y.cells.map IV.dQ:=abk
def lQ (xs:List IV):(aB xs).length=xs.length:=abk
def xU (xs:List IV) (i:Nat) (y:IV):(aB xs).set i (y.cells.map IV.dQ)=aB (xs.set i y):=by simp[aB,Zb]
def lR (xs ys:List IV):aB (xs++ys)=aB xs++aB ys:=abk
def Gi {σ:Type} (d sz:Nat) (ps:σ->List (Nat×AV)) (xs:σ->List IV) (env:Env) (H:Hp) (s:σ) :
 WR d sz ps xs env H s=(NF H/\sv env (ps s)/\∃n els,env d= .sl (.loc n) sz 0 (xs s).length/\H (.loc n)= .live ⟨sz,els⟩/\els=aB (xs s)):=rfl
def Gj {σ:Type} {d sz:Nat} {ps:σ->List (Nat×AV)} {xs:σ->List IV} {env:Env} {H:Hp} {s:σ} (n:Nat) (h1:NF H) (h2:sv env (ps s)) (h3:env d= .sl (.loc n) sz 0 (xs s).length)
 (h4:H (.loc n)= .live ⟨sz,aB (xs s)⟩):WR d sz ps xs env H s:=⟨h1,h2,n,_,h3,h4,rfl⟩
def ux {sz b d n:Nat} {l:Lb} {els:List (List AV)} {x:IV} {H:Hp} (hl:H l= .live ⟨sz,els⟩) (hn:els.length=n) (he:x.cells.length=sz) (hf:∀z∈x.cells,∀cs,z≠ .agg cs) (hb:(n+1)*b<=140737488355328) (h0:0<b)
  (hd:l≠l.app d) (hu:H (l.app d)= .unused) :
  jN sz b d (.sl l sz 0 n) (.list [x]) H=some (.sl (l.app d) sz 0 (n+1),bD (bD H l .dead) (l.app d) (.live ⟨sz,els++aB [x]⟩)):=by
 have:=s_ (xs:=[x]) hl (Y' hn.symm) (by intro y hy;simp only[bY] at hy;subst hy;exact he) (by intro y hy;simp only[bY] at hy;subst hy;exact hf) (by simpa using hb) h0 hd hu;rw[this];simp only[gL,Rm,bM,di,eS,Su];rw[P5 (Y' hn)]
def qg (sz b d k:Nat) (xs:List IV) (x:IV) {n:Nat} {H:Hp} (hl:H (.loc k)= .live ⟨sz,aB xs⟩) (hn:xs.length=n) (he:x.cells.length=sz) (hf:∀z∈x.cells,∀cs,z≠ .agg cs) (hb:(n+1)*b<=140737488355328) (h0:0<b)
  (hd:k≠d) (hu:H (.loc d)= .unused) :
  jN sz b d (.sl (.loc k) sz 0 n) (.list [x]) H=some (.sl (.loc d) sz 0 (n+1),bD (bD H (.loc k) .dead) (.loc d) (.live ⟨sz,aB (xs++[x])⟩)):=by
 have e:(Lb.loc k).app d= .loc d:=rfl;have:=ux (l:= .loc k) (d:=d) hl (by rw[lQ];exact hn) he hf hb h0 (by rw[e];simpa using hd) (by rw[e];exact hu);rw[e] at this;rw[this,lR]

def Cb (H:Hp):List (Lb×Row)->Prop
 |[]=>True
 |(l,r)::t=>H l= .live r/\Cb H t
theorem Cb.rw {H:Hp}:∀{rs:List (Lb×Row)},Cb H rs->tc (dn []) H rs
 |[],_=>trivial
 |(l,r)::t,h=>⟨by show H l= .live (dO id r);rw[qd];exact h.1,Cb.rw h.2⟩
def WS {σ:Type} (ls:List Lb) (ps:σ->List (Nat×AV)) (rs:σ->List (Lb×Row)) (env:Env) (H:Hp) (s:σ):Prop:=DK H ls/\sv env (ps s)/\Cb H (rs s)
def ca {σ:Type} {S:St} {Q:gI} {c:AC} {k:List It} {env:Env} {H:Hp} (ls:List Lb) (ps:σ->List (Nat×AV)) (rs:σ->List (Lb×Row)) (μ:σ->Nat) (s0:σ)
  (lr:∀s,(rs s).map Prod.fst=ls) (F2:ls.Nodup) (hp:∀s,∀l∈ah ((ps s).map Prod.snd),l∈ls) (hr:∀s,∀q∈rs s,∀cs∈q.2.els,∀l∈ah cs,l∈ls) (h0:WS ls ps rs env H s0)
  (round:∀s,go S (kM S Q k (WS ls ps rs) μ (μ s)) [.code c] (o9 (ps s)) (kl (rs s))):lI S Q c k env H:=by
 refine j7 (λs=>o9 (ps s)) (λs=>kl (rs s)) (WS ls ps rs) ?_ μ s0 h0 round;rintro env H s ⟨h1,h2,h3⟩;refine⟨dn [],IU.wk (m:=[]) ⟨h1,h2.eql,Cb.rw h3,?_,λl _=>⟨id,λ_=>rfl⟩⟩ (lr s) (hp s) (hr s)⟩;have:dn []=id:=rfl;rw[this,List.map_id];exact F2
def eL {σ:Type} {ls:List Lb} {ps:σ->List (Nat×AV)} {rs:σ->List (Lb×Row)} {env:Env} {H:Hp} {s:σ} (h1:DK H ls) (h2:sv env (ps s)) (h3:Cb H (rs s)):WS ls ps rs env H s:=⟨h1,h2,h3⟩
def cF:kl []=Hp.none:=rfl
def bW (l:Lb) (r:Row) (t:List (Lb×Row)):kl ((l,r)::t)=bD (kl t) l (.live r):=rfl

inductive Tb (k:Bool->Prop):Type
 |mk
def nK (o:Option (List Bool)) (k:Bool->Prop) (_:Tb k):Prop:=∃bs,o=some bs/\∀b∈bs,k b
def ab9 {S:St} {env:Env} {H:Hp} (d:Option Nat) (n:Bool) (x:O) (k:AV->Hp->Prop):bg S d (.BJ n x) env H k=nK (qY (ev env x)) (λb=>k (.bool (n ^^ b)) H) .mk:=rfl
def aaW {xs:List IV} {k:Bool->Prop} {u:Tb k} (h1:xs=[]->k true) (h2:k false):nK (qY (.list xs)) k u:=by
 cases xs with
 |nil=>exact⟨_,rfl,λb _=>by cases b;exact h2;exact h1 rfl⟩
 |cons x r=>exact⟨_,rfl,λb hb=>by simp only[bY] at hb;subst hb;exact h2⟩
def Xp (sz b d:Nat) (xs:List IV) {H:Hp} (he:jV sz xs) (hf:Flat xs) (hb:xs.length*b<=140737488355328) (h0:0<b) (hu:H (.loc d)= .unused) :
 jN sz b d .nil0 (.list xs) H=some (.sl (.loc d) sz 0 xs.length,bD H (.loc d) (.live ⟨sz,aB xs⟩)):=AN he hf hb h0 hu

abbrev Bs:=List UInt8
structure Attr where
 name:Bs
 val:Bs
inductive Tree where
 |mk (text:Bool) (s:Bs) (attrs:List Attr) (kids:List Tree)
def Tree.text:Tree->Bool| .mk t _ _ _=>t
def Tree.s:Tree->Bs| .mk _ s _ _=>s
def Tree.attrs:Tree->List Attr| .mk _ _ a _=>a
def Tree.kids:Tree->List Tree| .mk _ _ _ k=>k
def Attr.cs (a:Attr):List IV:=[.str a.name,.str a.val]
def Attr.iv (a:Attr):IV:= .agg a.cs
def cD (az:List Attr):List IV:=az.map Attr.iv
mutual
def Tree.iv:Tree->IV
 | .mk t s az ks=> .agg [.bool t,.str s,.list (cD az),.list (dq ks)]
def dq:List Tree->List IV
 |[]=>[]
 |x::r=>x.iv::dq r
end
def Tree.cs (x:Tree):List IV:=[.bool x.text,.str x.s,.list (cD x.attrs),.list (dq x.kids)]
def Tree.av (x:Tree):AV:= .agg [.bool x.text,.str x.s,.list (cD x.attrs),.list (dq x.kids)]
def aaJ {p:Prop} (h:p:=by simp[ah,AV.an,Tree.av]):p:=h
def Tree.o_ (x:Tree):x.iv= .agg x.cs:=by cases x;simp[Tree.iv,Tree.cs,Tree.text,Tree.s,Tree.attrs,Tree.kids]
def Tree.cJ (x:Tree):x.iv.cells=x.cs:=by rw[Tree.o_];rfl
def Attr.cJ (x:Attr):x.iv.cells=x.cs:=rfl
theorem ix:∀xs:List Tree,dq xs=xs.map Tree.iv
 |[]=>by simp[dq]
 |x::r=>by simp[dq,ix r]
def bF (xs:List Tree):(dq xs).length=xs.length:=by simp[ix]
def bp (xs:List Attr):(cD xs).length=xs.length:=by simp[cD]
def iy (xs:List Tree) (i:Nat):(dq xs)[i]?=xs[i]?.map Tree.iv:=by simp[ix]
def lS (xs:List Attr) (i:Nat):(cD xs)[i]?=xs[i]?.map Attr.iv:=by simp[cD]
def qh (xs ys:List Tree):dq (xs++ys)=dq xs++dq ys:=by simp[ix]
def lT (xs:List Tree):jV 4 (dq xs):=by
 intro x hx;rw[ix] at hx;obtain⟨a,_,rfl⟩:=pb.1 hx;rw[a.cJ];rfl
def rq (xs:List Attr):jV 2 (cD xs):=by
 intro x hx;obtain⟨a,_,rfl⟩:=pb.1 hx;rfl
def Tree.uy (x:Tree):∀z∈x.cs,∀cs,z≠ .agg cs:=by
 intro z hz cs;simp only[Tree.cs,PY,QN,QV] at hz;rcases hz with rfl|rfl|rfl|rfl<;>simp
def pa (xs:List Tree):Flat (dq xs):=by
 intro x hx;rw[ix] at hx;obtain⟨a,_,rfl⟩:=pb.1 hx;rw[a.cJ];exact a.uy
def nW (xs:List Attr):Flat (cD xs):=by
 intro x hx;obtain⟨a,_,rfl⟩:=pb.1 hx;intro z hz cs;simp only[Attr.cJ,Attr.cs,PY,QN,QV] at hz;rcases hz with rfl|rfl<;>simp
def Attr.wt (a:Attr):Nat:=1+a.name.length+a.val.length
def dX:List Attr->Nat
 |[]=>0
 |a::r=>a.wt+dX r
mutual
def Tree.wt:Tree->Nat
 | .mk _ s az ks=>1+s.length+dX az+dE ks
def dE:List Tree->Nat
 |[]=>0
 |x::r=>x.wt+dE r
end
def abB {p:Prop} (h:p:=by simp[dE]):p:=h
def Tree.gx (x:Tree):x.wt=1+x.s.length+dX x.attrs+dE x.kids:=by cases x;simp[Tree.wt,Tree.s,Tree.attrs,Tree.kids]
theorem iz:∀xs:List Attr,xs.length<=dX xs
 |[]=>by simp[dX]
 |a::r=>by have:=iz r;simp[dX,Attr.wt];omega
theorem eZ:∀xs:List Tree,xs.length<=dE xs
 |[]=>by simp[dE]
 |a::r=>by have:=eZ r;have:=a.gx;simp[dE];omega
theorem jx:∀(xs:List Tree) (i:Nat) (x:Tree),xs[i]?=some x->x.wt<=dE xs
 |[],i,x,h=>by simp at h
 |a::r,0,x,h=>by simp at h;subst h;simp[dE]
 |a::r,i+1,x,h=>by have:=jx r i x (by simpa using h);simp[dE];omega
theorem kn:∀xs ys:List Tree,dE (xs++ys)=dE xs+dE ys
 |[],ys=>by simp[dE]
 |a::r,ys=>by simp[dE,kn r ys];omega
def B:Nat:=2^30
def le_max {n:Nat} (h:n<=100):n<=maxLen:=U' h M3

open Classical in
noncomputable def P2 {α:Type} (x y:α):Bool:=decide (x=y)
def Oh {α:Type} (x:α):P2 x x=true:=by simp[P2]
def NJ {α:Type} {x y:α} (h:x≠y):P2 x y=false:=by simp[P2,h]
def Attr.ext {x y:Attr} (h1:x.name=y.name) (h2:x.val=y.val):x=y:=by cases x;cases y;simp_all
def Tree.ext {x y:Tree} (h1:x.text=y.text) (h2:x.s=y.s) (h3:x.attrs=y.attrs) (h4:x.kids=y.kids):x=y:=by
 cases x;cases y;simp_all[Tree.text,Tree.s,Tree.attrs,Tree.kids]
def OA:AC:=
(.seq
 (.cq [
  jM 4 false])
(.seq
 (.seq
  (.cq [
   MR 6 0,
   oy 7 6,
   MR 8 1,
   oy 9 8,
   et 10 .neq 7 9])
 (.cond (.t 10)
  (.seq
   (.cq [
    jM 4 false])
  .ret)
  .skip))
(.seq
 (.seq
  (.cq [
   MR 11 0,
   oy 12 11,
   gH 13 0])
 (.block 0
  (.loop
   (.seq
    (.cq [
     et 14 .lss 13 12])
   (.seq
    (.cond (.t 14)
     .skip
     (.exit 0))
   (.seq
    (.block 1
     (.seq
      (.cq [
       MR 15 13,
       MR 5 15])
     (.seq
      (.VL [
       MR 16 0,
       MR 17 5,
       jL 18 16 17 2,
       gz 19 2 18,
       MR 20 1,
       MR 21 5,
       jL 22 20 21 2,
       gz 23 2 22,
       aQ 24 (.pM true [.s,.s] (.t 19) (.t 23))]
       [[],[],[0,1],[2],[],[],[4,5],[6],[3,7]]
       [.no,.no,.no,.no,.no,.no,.no,.no,.no])
     (.cond (.t 24)
      (.seq
       (.cq [
        jM 4 false])
      .ret)
      .skip))))
   (.cq [
    eY 25 .add 13 1,
    MR 13 25])))))))
(.seq
 (.cq [
  jM 4 true])
.ret))))
def N_ (g:Nat):AC:=
(.seq
 (.cq [
  jM 4 false])
(.seq
 (.seq
  (.cq [
   MR 6 0,
   oy 7 6,
   MR 8 1,
   oy 9 8,
   et 10 .neq 7 9])
 (.cond (.t 10)
  (.seq
   (.cq [
    jM 4 false])
  .ret)
  .skip))
(.seq
 (.seq
  (.cq [
   MR 11 0,
   oy 12 11,
   gH 13 0])
 (.block 0
  (.loop
   (.seq
    (.cq [
     et 14 .lss 13 12])
   (.seq
    (.cond (.t 14)
     .skip
     (.exit 0))
   (.seq
    (.block 1
     (.seq
      (.cq [
       MR 15 13,
       MR 5 15])
     (.seq
      (.VL [
       MR 16 0,
       MR 17 5,
       jL 18 16 17 4,
       gz 19 4 18,
       MR 20 1,
       MR 21 5,
       jL 22 20 21 4,
       gz 23 4 22,
       aQ 24 (.call g [(.t 19),(.t 23)]),
       sB 25 24]
       [[],[],[0,1],[2],[],[],[4,5],[6],[3,7],[8]]
       [.no,.no,.no,.no,.no,.no,.no,.no,.no,.no])
     (.cond (.t 25)
      (.seq
       (.cq [
        jM 4 false])
      .ret)
      .skip))))
   (.cq [
    eY 26 .add 13 1,
    MR 13 26])))))))
(.seq
 (.cq [
  jM 4 true])
.ret))))
def Ql (xs ys:List IV) (i:Nat):Env:=
 put (put (put (put Env.any 0 (.list xs)) 1 (.list ys)) 12 (.int .i64 xs.length)) 13 (.int .i64 i)
def Pv {P:Program} {G:Nat->Option (List IV)} {f:Nat} (hF:aw P G f=some (26,[(none,4)],OA.bare)) (xs ys:List Attr) (hx:xs.length<=B) :
  au P G f [.list (cD xs),.list (cD ys)] (.bool (P2 xs ys)):=by
 refine aR hF tM aae aad ?_;unfold OA;simp only[↓lP,lK,lX,List.take,List.drop,seval,bp];by_cases hl:xs.length=ys.length
 ·rw[show((xs.length:Int) !=(ys.length:Int))=false by simp[hl]];simp only[↓lP,lK,lX,List.take,List.drop,seval,bp];refine fY (σ:={i:Nat // i<=xs.length/\∀j,j<i->xs[j]?=ys[j]?}) (λs=>Ql (cD xs) (cD ys) s.1) (λ_=>Hp.none) (λs=>xs.length - s.1) ⟨0,tM⟩ id ?_ ?_
  ·refine .none ?_ ?_
   ·exact aT rfl (aT (by simp[s9,bp,bJ]) (aT rfl (aT rfl (Wc _ _))))
   exact aU aad (aU aad (aU aad (aU aad (eB _))))
  rintro⟨i,hi,hs⟩;simp only[↓lP,lK,lX,List.take,List.drop,seval,Ql,bp];by_cases bI:i<xs.length
  ·rw[show decide ((i:Int)<(xs.length:Int))=true by simpa using bI];obtain⟨x,D1⟩:∃x,xs[i]?=some x:=⟨_,rX bI⟩;obtain⟨y,zl⟩:∃y,ys[i]?=some y:=⟨_,rX (hl▸bI)⟩;simp only[↓lP,lK,lX,List.take,List.drop,seval,lS,D1,zl,rq,Attr.cJ,Attr.cs,eqs,JP];refine⟨rfl,?_⟩;by_cases KW:x=y
   ·subst KW;have hw:IntKind.i64.wrap ((i:Int)+1)=((i+1:Nat):Int):=wrap64 sf (by unfold B at hx;omega);rw[show(true ^^ (x.name==x.name&&x.val==x.val))=false by simp];simp only[↓lP,lK,lX,List.take,List.drop,seval,hw];refine⟨⟨i+1,bI,λj hj=> ?_⟩,aac,id,.none ?_ ?_⟩
    ·by_cases e:j=i
     ·rw[e,D1,zl]
     exact hs j sf
    ·exact aT rfl (aT (by simp[s9,bp,bJ]) (aT rfl (aT rfl (Wc _ _))))
    exact aU aad (aU aad (aU aad (aU aad (eB _))))
   have Vi:xs≠ys:=λe=>KW (by rw[e,zl] at D1;cases D1;rfl);have Ry:(true ^^ (x.name==y.name&&x.val==y.val))=true:=by
    simp only[Bool.true_xor,Ve,X9,SV];by_cases e1:x.name=y.name
    ·exact .inr λe2=>KW (Attr.ext e1 e2)
    exact .inl e1
   rw[Ry];simp only[↓lP,lK,lX,List.take,List.drop,seval,NJ Vi]
  rw[show decide ((i:Int)<(xs.length:Int))=false by simpa using bI];simp only[↓lP,lK,lX,List.take,List.drop,seval];have:xs=ys:=fe λj=>by
   by_cases hj:j<i
   ·exact hs j hj
   rw[dV sf,dV sf]
  rw[this,Oh]
 rw[show((xs.length:Int) !=(ys.length:Int))=true by simp;omega];have:xs≠ys:=λe=>hl (by rw[e]);simp only[↓lP,lK,lX,List.take,List.drop,seval,NJ this]
def OY {P:Program} {G:Nat->Option (List IV)} {f g:Nat} (hF:aw P G f=some (27,[(none,4)],(N_ g).bare)) (xs ys:List Tree) (hx:xs.length<=B)
  (hg:∀x∈xs,∀y∈ys,au P G g [x.av,y.av] (.bool (P2 x y))):au P G f [.list (dq xs),.list (dq ys)] (.bool (P2 xs ys)):=by
 refine aR hF tM aae aad ?_;unfold N_;simp only[↓lP,lK,lX,List.take,List.drop,seval,bF];by_cases hl:xs.length=ys.length
 ·rw[show((xs.length:Int) !=(ys.length:Int))=false by simp[hl]];simp only[↓lP,lK,lX,List.take,List.drop,seval,bF];refine fY (σ:={i:Nat // i<=xs.length/\∀j,j<i->xs[j]?=ys[j]?}) (λs=>Ql (dq xs) (dq ys) s.1) (λ_=>Hp.none) (λs=>xs.length - s.1) ⟨0,tM⟩ id ?_ ?_
  ·refine .none ?_ ?_
   ·exact aT rfl (aT (by simp[s9,bF,bJ]) (aT rfl (aT rfl (Wc _ _))))
   exact aU aad (aU aad (aU aad (aU aad (eB _))))
  rintro⟨i,hi,hs⟩;simp only[↓lP,lK,lX,List.take,List.drop,seval,Ql,bF];by_cases bI:i<xs.length
  ·rw[show decide ((i:Int)<(xs.length:Int))=true by simpa using bI];obtain⟨x,D1⟩:∃x,xs[i]?=some x:=⟨_,rX bI⟩;obtain⟨y,zl⟩:∃y,ys[i]?=some y:=⟨_,rX (hl▸bI)⟩;simp only[↓lP,lK,lX,List.take,List.drop,seval,iy,D1,zl,lT,Tree.cJ,Tree.cs];refine⟨rfl,jw (hg x (PX D1) y (PX zl)) ?_⟩;by_cases KW:x=y
   ·subst KW;have hw:IntKind.i64.wrap ((i:Int)+1)=((i+1:Nat):Int):=wrap64 sf (by unfold B at hx;omega);simp only[↓lP,lK,lX,List.take,List.drop,seval,hw,Oh,QK];refine⟨⟨i+1,bI,λj hj=> ?_⟩,aac,id,.none ?_ ?_⟩
    ·by_cases e:j=i
     ·rw[e,D1,zl]
     exact hs j sf
    ·exact aT rfl (aT (by simp[s9,bF,bJ]) (aT rfl (aT rfl (Wc _ _))))
    exact aU aad (aU aad (aU aad (aU aad (eB _))))
   have Vi:xs≠ys:=λe=>KW (by rw[e,zl] at D1;cases D1;rfl);simp only[↓lP,lK,lX,List.take,List.drop,seval,NJ Vi,NJ KW,QI]
  rw[show decide ((i:Int)<(xs.length:Int))=false by simpa using bI];simp only[↓lP,lK,lX,List.take,List.drop,seval];have:xs=ys:=fe λj=>by
   by_cases hj:j<i
   ·exact hs j hj
   rw[dV sf,dV sf]
  rw[this,Oh]
 rw[show((xs.length:Int) !=(ys.length:Int))=true by simp;omega];have:xs≠ys:=λe=>hl (by rw[e]);simp only[↓lP,lK,lX,List.take,List.drop,seval,NJ this]
def OQ (S7 D0:Nat):AC:=
(.seq
 (.cq [
  zzX 2 0,
  zzX 3 1,
  jM 4 false])
(.seq
 (.cq [
  ep 5 2 0,
  fm 6 5,
  ep 7 3 0,
  fm 8 7,
  aQ 9 (.eqb false (.t 6) (.t 8)),
  MR 10 9,
  Wb 11 10 2 1,
  jm 12 10 11,
  Wb 13 10 3 1,
  jm 14 10 13,
  dW 15 10 (.bin .eql (.t 12) (.t 14)),
  jT 16 10 15,
  MR 17 16,
  Wb 18 17 2 2,
  jm 19 17 18,
  Wb 20 17 3 2,
  jm 21 17 20,
  dW 22 17 (.call S7 [(.t 19),(.t 21)]),
  jT 23 17 22,
  MR 24 23,
  Wb 25 24 2 3,
  jm 26 24 25,
  Wb 27 24 3 3,
  jm 28 24 27,
  dW 29 24 (.call D0 [(.t 26),(.t 28)]),
  jT 30 24 29,
  MR 4 30])
.ret))
def P3 {P:Program} {G:Nat->Option (List IV)} {f g h:Nat} (hF:aw P G f=some (31,[(none,4)],(OQ g h).bare)) (x y:Tree)
  (hg:au P G g [.list (cD x.attrs),.list (cD y.attrs)] (.bool (P2 x.attrs y.attrs))) (hh:au P G h [.list (dq x.kids),.list (dq y.kids)] (.bool (P2 x.kids y.kids))) :
  au P G f [x.av,y.av] (.bool (P2 x y)):=by
 refine aR hF tM aaJ aad ?_;unfold OQ;simp only[↓lP,lK,lX,List.take,List.drop,seval,Tree.av];refine⟨le_max M3,le_max M3,?_⟩;by_cases h1:x.text=y.text
 ·rw[h1,show(false ^^ (y.text==y.text))=true by simp];by_cases h2:x.s=y.s
  ·simp only[↓lP,lK,lX,List.take,List.drop,seval,h2,Xh];refine ay hg ?_;by_cases h3:x.attrs=y.attrs
   ·simp only[↓lP,lK,lX,List.take,List.drop,seval,h3,Oh];refine ay hh ?_;by_cases h4:x.kids=y.kids
    ·have:x=y:=Tree.ext h1 h2 h3 h4;subst this;simp only[↓lP,lK,lX,List.take,List.drop,seval,Oh]
    have:x≠y:=λe=>h4 (by rw[e]);simp only[↓lP,lK,lX,List.take,List.drop,seval,NJ h4,NJ this]
   have:x≠y:=λe=>h3 (by rw[e]);simp only[↓lP,lK,lX,List.take,List.drop,seval,NJ h3,NJ this]
  have:x≠y:=λe=>h2 (by rw[e]);simp only[↓lP,lK,lX,List.take,List.drop,seval,NJ this,beq_false_of_ne h2]
 have:x≠y:=λe=>h1 (by rw[e]);rw[show(false ^^ (x.text==y.text))=false by simpa using h1];simp only[↓lP,lK,lX,List.take,List.drop,seval,NJ this]
def TE {P:Program} {G:Nat->Option (List IV)} {fA fT I2:Nat} (hA:aw P G fA=some (26,[(none,4)],OA.bare)) (hT:aw P G fT=some (31,[(none,4)],(OQ fA I2).bare))
  (Ke:aw P G I2=some (27,[(none,4)],(N_ fT).bare)):∀(n:Nat) (xs ys:List Tree),dE xs<=n->dE xs<=B->au P G I2 [.list (dq xs),.list (dq ys)] (.bool (P2 xs ys)):=by
 intro n;induction n with
 |zero=>
  intro xs ys hn hB;refine OY Ke xs ys (U' (eZ xs) hB) λx hx y hy=> ?_;obtain⟨i,hi⟩:=Sw hx;have:=jx xs i x hi;have:=x.gx;omega
 |succ n ih=>
 intro xs ys hn hB;refine OY Ke xs ys (U' (eZ xs) hB) λx hx y hy=> ?_;obtain⟨i,hi⟩:=Sw hx;have h1:=jx xs i x hi;have h2:=x.gx;have h3:=iz x.attrs;exact P3 hT x y (Pv hA _ _ sf) (ih _ _ sf sf)
end Go.Am

namespace Go.Am
open Go Go.RowKit
def dI (c:UInt8):Bool:= !((((c.toNat:Int) !=10))&&(decide ((c.toNat:Int)<32)||decide ((c.toNat:Int)>126)))
def plain (s:Bs):Bool:=s.all dI&&decide ((s.length:Int)<=40)
def nZ:AC:=
(.seq
 (.cq [
  jM 2 false])
(.seq
 (.seq
  (.cq [
   MR 4 0,
   oF 5 4,
   gH 6 0])
 (.block 0
  (.loop
   (.seq
    (.cq [
     et 7 .lss 6 5])
   (.seq
    (.cond (.t 7)
     .skip
     (.exit 0))
   (.seq
    (.block 1
     (.seq
      (.cq [
       MR 8 6,
       MR 3 8])
     (.seq
      (.cq [
       MR 9 0,
       MR 10 3,
       aQ 11 (.lj (.t 9) (.t 10)),
       aQ 12 (.bin .neq (.t 11) (.c (.int .u8 10))),
       MR 13 12,
       cU 14 13 0,
       cU 15 13 3,
       dW 16 13 (.lj (.t 14) (.t 15)),
       dW 17 13 (.bin .lss (.t 16) (.c (.int .u8 32))),
       cU 18 13 17,
       gV 19 18 0,
       gV 20 18 3,
       iR 21 18 (.lj (.t 19) (.t 20)),
       iR 22 18 (.bin .gtr (.t 21) (.c (.int .u8 126))),
       dW 23 13 (.pick (.t 18) (me true) (.t 22)),
       jT 24 13 23])
     (.cond (.t 24)
      (.seq
       (.cq [
        jM 2 false])
      .ret)
      .skip))))
   (.cq [
    eY 25 .add 6 1,
    MR 6 25])))))))
(.seq
 (.cq [
  MR 26 0,
  oF 27 26,
  eY 28 .leq 27 40,
  MR 2 28])
.ret)))
def qi (s:Bs) (i:Nat):Env:=put (put (put Env.any 0 (.str s)) 5 (.int .i64 s.length)) 6 (.int .i64 i)
def Pw {p:UInt8->Bool} {s:Bs} {i:Nat} {c:UInt8} (h:(s.take i).all p=true) (hc:s[i]?=some c) (hp:p c=true):(s.take (i+1)).all p=true:=by
 rw[Ro,hc];simp[h,hp]
def nt {p:UInt8->Bool} {s:Bs} {i:Nat} {c:UInt8} (hc:s[i]?=some c) (hp:p c=false):s.all p=false:=by
 cases h:s.all p with
 |false=>rfl
 |true=>
 have:=Rh.1 h c (PX hc);rw[hp] at this;exact this.symm
def qj {P:Program} {G:Nat->Option (List IV)} {f:Nat} (hF:aw P G f=some (29,[(none,2)],nZ.bare)) (s:Bs) (hx:s.length<=B) :
  au P G f [.str s] (.bool (plain s)):=by
 refine aR hF tM aae aad ?_;unfold nZ;simp only[↓lP,lK,lX,List.take,List.drop,seval];refine fY (σ:={i:Nat // i<=s.length/\(s.take i).all dI=true}) (λq=>qi s q.1) (λ_=>Hp.none) (λq=>s.length - q.1) ⟨0,tM⟩ id ?_ ?_
 ·refine .none ?_ ?_
  ·exact aT rfl (aT rfl (aT rfl (Wc _ _)))
  exact aU aad (aU aad (aU aad (eB _)))
 rintro⟨i,hi,hs⟩;simp only[↓lP,lK,lX,List.take,List.drop,seval,qi];by_cases bI:i<s.length
 ·rw[show decide ((i:Int)<(s.length:Int))=true by simpa using bI];obtain⟨c,hc⟩:∃c,s[i]?=some c:=⟨_,rX bI⟩;have hw:IntKind.i64.wrap ((i:Int)+1)=((i+1:Nat):Int):=wrap64 sf (by unfold B at hx;omega);have next:dI c=true->∃q:{i:Nat // i<=s.length/\(s.take i).all dI=true},q.1=i+1:=λhp=>⟨⟨i+1,bI,Pw hs hc hp⟩,rfl⟩
  simp only[↓lP,lK,lX,List.take,List.drop,seval,hc];cases h1:((c.toNat:Int) !=10) with
  |false=>
   obtain⟨q,hq⟩:=next (by simp[dI,h1])
   simp only[↓lP,lK,lX,List.take,List.drop,seval,hc,hw];refine⟨q,sf,id,.none ?_ ?_⟩
   ·rw[hq];exact aT rfl (aT rfl (aT rfl (Wc _ _)))
   exact aU aad (aU aad (aU aad (eB _)))
  |true=>
  simp only[↓lP,lK,lX,List.take,List.drop,seval,hc];cases h2:decide ((c.toNat:Int)<32) with
  |true=>
   simp only[↓lP,lK,lX,List.take,List.drop,seval,hc];rw[plain,nt hc (by simp[dI,h1,h2])];rfl
  |false=>
  simp only[↓lP,lK,lX,List.take,List.drop,seval,hc];cases h3:decide ((c.toNat:Int)>126) with
  |true=>
   simp only[↓lP,lK,lX,List.take,List.drop,seval,hc];rw[plain,nt hc (by simp[dI,h1,h2,h3])];rfl
  |false=>
  obtain⟨q,hq⟩:=next (by simp[dI,h1,h2,h3])
  simp only[↓lP,lK,lX,List.take,List.drop,seval,hc,hw];refine⟨q,sf,id,.none ?_ ?_⟩
  ·rw[hq];exact aT rfl (aT rfl (aT rfl (Wc _ _)))
  exact aU aad (aU aad (aU aad (eB _)))
 rw[show decide ((i:Int)<(s.length:Int))=false by simpa using bI];simp only[↓lP,lK,lX,List.take,List.drop,seval];have:s.take i=s:=P5 sf;rw[plain,<-this,hs,this];rfl
def Oq (c:UInt8):Bool:= !(decide ((c.toNat:Int)<97)||decide ((c.toNat:Int)>122))
def named (s:Bs):Bool:=s.all Oq&&(decide ((s.length:Int)>=1)&&decide ((s.length:Int)<=8))
def atk:AC:=
(.seq
 (.cq [
  jM 2 false])
(.seq
 (.seq
  (.cq [
   MR 4 0,
   oF 5 4,
   gH 6 0])
 (.block 0
  (.loop
   (.seq
    (.cq [
     et 7 .lss 6 5])
   (.seq
    (.cond (.t 7)
     .skip
     (.exit 0))
   (.seq
    (.block 1
     (.seq
      (.cq [
       MR 8 6,
       MR 3 8])
     (.seq
      (.cq [
       MR 9 0,
       MR 10 3,
       aQ 11 (.lj (.t 9) (.t 10)),
       aQ 12 (.bin .lss (.t 11) (.c (.int .u8 97))),
       MR 13 12,
       gV 14 13 0,
       gV 15 13 3,
       iR 16 13 (.lj (.t 14) (.t 15)),
       iR 17 13 (.bin .gtr (.t 16) (.c (.int .u8 122))),
       sj 18 13 17])
     (.cond (.t 18)
      (.seq
       (.cq [
        jM 2 false])
      .ret)
      .skip))))
   (.cq [
    eY 19 .add 6 1,
    MR 6 19])))))))
(.seq
 (.cq [
  MR 20 0,
  oF 21 20,
  eY 22 .geq 21 1,
  MR 23 22,
  cU 24 23 0,
  dW 25 23 (.lens (.t 24)),
  dW 26 23 (.bin .leq (.t 25) (jS 8)),
  jT 27 23 26,
  MR 2 27])
.ret)))
def qk {P:Program} {G:Nat->Option (List IV)} {f:Nat} (hF:aw P G f=some (28,[(none,2)],atk.bare)) (s:Bs) (hx:s.length<=B) :
  au P G f [.str s] (.bool (named s)):=by
 refine aR hF tM aae aad ?_;unfold atk;simp only[↓lP,lK,lX,List.take,List.drop,seval];refine fY (σ:={i:Nat // i<=s.length/\(s.take i).all Oq=true}) (λq=>qi s q.1) (λ_=>Hp.none) (λq=>s.length - q.1) ⟨0,tM⟩ id ?_ ?_
 ·refine .none ?_ ?_
  ·exact aT rfl (aT rfl (aT rfl (Wc _ _)))
  exact aU aad (aU aad (aU aad (eB _)))
 rintro⟨i,hi,hs⟩;simp only[↓lP,lK,lX,List.take,List.drop,seval,qi];by_cases bI:i<s.length
 ·rw[show decide ((i:Int)<(s.length:Int))=true by simpa using bI];obtain⟨c,hc⟩:∃c,s[i]?=some c:=⟨_,rX bI⟩;have hw:IntKind.i64.wrap ((i:Int)+1)=((i+1:Nat):Int):=wrap64 sf (by unfold B at hx;omega);have next:Oq c=true->∃q:{i:Nat // i<=s.length/\(s.take i).all Oq=true},q.1=i+1:=λhp=>⟨⟨i+1,bI,Pw hs hc hp⟩,rfl⟩
  simp only[↓lP,lK,lX,List.take,List.drop,seval,hc];cases h1:decide ((c.toNat:Int)<97) with
  |true=>
   simp only[↓lP,lK,lX,List.take,List.drop,seval,hc];rw[named,nt hc (by simp[Oq,h1])];rfl
  |false=>
  simp only[↓lP,lK,lX,List.take,List.drop,seval,hc];cases h2:decide ((c.toNat:Int)>122) with
  |true=>
   simp only[↓lP,lK,lX,List.take,List.drop,seval,hc];rw[named,nt hc (by simp[Oq,h1,h2])];rfl
  |false=>
  obtain⟨q,hq⟩:=next (by simp[Oq,h1,h2])
  simp only[↓lP,lK,lX,List.take,List.drop,seval,hc,hw];refine⟨q,sf,id,.none ?_ ?_⟩
  ·rw[hq];exact aT rfl (aT rfl (aT rfl (Wc _ _)))
  exact aU aad (aU aad (aU aad (eB _)))
 rw[show decide ((i:Int)<(s.length:Int))=false by simpa using bI];have dN:s.all Oq=true:=by
  have:s.take i=s:=P5 sf;rw[<-this,hs]
 simp only[↓lP,lK,lX,List.take,List.drop,seval];cases h1:decide ((s.length:Int)>=1) with
 |true=>
  simp only[↓lP,lK,lX,List.take,List.drop,seval];rw[named,dN,h1];rfl
 |false=>
 simp only[↓lP,lK,lX,List.take,List.drop,seval];rw[named,dN,h1];rfl

def dr (az:List Attr) (i:Nat):Bool:=
 match az[i]? with
 |some a=>named a.name&&(plain a.val&&(i==0||match az[i - 1]? with|some p=>Op.bytesLess p.name a.name|none=>true))
 |none=>true
def bP (az:List Attr):Bool:=(List.range az.length).all (dr az)&&decide ((az.length:Int)<=4)
def hZ (fN fP:Nat):AC:=
(.seq
 (.cq [
  jM 2 false])
(.seq
 (.seq
  (.cq [
   MR 5 0,
   oy 6 5,
   gH 7 0])
 (.block 0
  (.loop
   (.seq
    (.cq [
     et 8 .lss 7 6])
   (.seq
    (.cond (.t 8)
     .skip
     (.exit 0))
   (.seq
    (.block 1
     (.seq
      (.cq [
       MR 9 7,
       jL 10 5 7 2,
       gz 11 2 10,
       aQ 4 (.new [(.str []),(.str [])]),
       MR 3 9,
       gg (.store 2 (.t 4) (.t 11))])
     (.seq
      (.VL [
       ep 12 4 0,
       fm 13 12,
       aQ 14 (.call fN [(.t 13)]),
       sB 15 14,
       MR 16 15,
       oH 17 16 4 1,
       oG 18 16 17,
       iR 19 16 (.call fP [(.t 18)]),
       iR 20 16 (.not (.t 19)),
       sj 21 16 20,
       MR 22 21,
       gV 23 22 3,
       iR 24 22 (.bin .gtr (.t 23) (jS 0)),
       gV 25 22 24,
       cU 26 25 0,
       cU 27 25 3,
       dW 28 25 (.bin .sub (.t 27) (jS 1)),
       dW 29 25 (.Vc (.t 26) (.t 28) 2),
       Wb 30 25 29 0,
       jm 31 25 30,
       Wb 32 25 4 0,
       jm 33 25 32,
       dW 34 25 (.bin .geq (.t 31) (.t 33)),
       iR 35 22 (.pick (.t 25) (.t 34) (me false)),
       sj 36 22 35]
       [[],[0],[1],[2],[3,2],[4],[5,4],[6,4,4],[7,4],[4,8],[9,7],[10],[11,10],[12,10,10],[13],[13],[15,13],[14,16,13],[17,13],[18,13],[13],[20,13],[19,21,13],[13,22,10],[10,23]]
       [.no,.rw [.loc 4] [],.no,.no,.no,.no,.rw [.loc 4] [],.no,.no,.no,.no,.no,.no,.no,.no,.no,.no,.no,.no,.no,.no,.rw [.loc 4] [],.no,.no,.no])
     (.cond (.t 36)
      (.seq
       (.cq [
        jM 2 false])
      .ret)
      .skip))))
   (.cq [
    eY 37 .add 7 1,
    MR 7 37])))))))
(.seq
 (.cq [
  MR 38 0,
  oy 39 38,
  eY 40 .leq 39 4,
  MR 2 40])
.ret)))
def n5 (az:List Attr) (i:Nat):Env:=put (put (put (put Env.any 0 (.list (cD az))) 5 (.list (cD az))) 6 (.int .i64 az.length)) 7 (.int .i64 i)
def Wk.drop {env env2:Env} {H:Hp} (e:∀n,env2 n= .any\/env n=bJ id (env2 n)) (m:∀n,∀l∈(env2 n).an,Hp.none l≠ .unused) (hn:∀l:Lb,l.fresh=false->H l= .unused):Wk id env H env2 Hp.none:=
 ⟨e,λl r h=>by simp[Hp.none] at h,λ_ _ ⟨r,h⟩=>by simp[Hp.none] at h,m,λl r h=>by simp[Hp.none] at h,λl hl=>⟨λh=>absurd (hn l (Lb.Og hl)) h,λ_=>rfl⟩,λl ⟨r,h⟩=>by simp[Hp.none] at h⟩
def pc {p:Nat->Bool} {n i:Nat} (hi:i<n) (hp:p i=false):(List.range n).all p=false:=by
 cases h:(List.range n).all p with
 |false=>rfl
 |true=>
 have:=Rh.1 h i (by simpa using hi);rw[hp] at this;exact this.symm
def n6 {P:Program} {G:Nat->Option (List IV)} {f fN fP:Nat} (hF:aw P G f=some (41,[(none,2)],(hZ fN fP).bare)) (az:List Attr) (hx:az.length<=B)
  (hN:∀a∈az,au P G fN [.str a.name] (.bool (named a.name))) (hP:∀a∈az,au P G fP [.str a.val] (.bool (plain a.val))) :
  au P G f [.list (cD az)] (.bool (bP az)):=by
 refine aR hF tM aae aad ?_;unfold hZ;simp only[↓lP,lK,lX,List.take,List.drop,seval,bp];refine fY (σ:={i:Nat // i<=az.length/\∀j,j<i->dr az j=true}) (λq=>n5 az q.1) (λ_=>Hp.none) (λq=>az.length - q.1) ⟨0,tM⟩ id ?_ ?_
 ·refine .none ?_ ?_
  ·exact aT rfl (aT rfl (aT rfl (aT rfl (Wc _ _))))
  exact aU aad (aU aad (aU aad (aU aad (eB _))))
 rintro⟨i,hi,hs⟩;simp only[↓lP,lK,lX,List.take,List.drop,seval,n5,bp];by_cases bI:i<az.length
 ·rw[show decide ((i:Int)<(az.length:Int))=true by simpa using bI];obtain⟨a,ha⟩:∃a,az[i]?=some a:=⟨_,rX bI⟩;have hw:IntKind.i64.wrap ((i:Int)+1)=((i+1:Nat):Int):=wrap64 sf (by unfold B at hx;omega);simp only[↓lP,lK,lX,List.take,List.drop,seval,lS,ha,rq,Attr.cJ,Attr.cs];refine⟨le_max M3,rfl,jw (hN a (PX ha)) ?_⟩;have next:dr az i=true->∃q:{i:Nat // i<=az.length/\∀j,j<i->dr az j=true},q.1=i+1:=λhp=>⟨⟨i+1,bI,λj hj=>by
   by_cases e:j=i
   ·rw[e];exact hp
   exact hs j sf⟩,rfl⟩
  have stop:dr az i=false->bP az=false:=λhp=>by rw[bP,pc bI hp];rfl
  have j4:dr az i=(named a.name&&(plain a.val&&(i==0||match az[i - 1]? with|some p=>Op.bytesLess p.name a.name|none=>true))):=by unfold dr;rw[ha]
  cases h1:named a.name with
  |false=>
   simp only[↓lP,lK,lX,List.take,List.drop,seval,QI];rw[stop (by rw[j4,h1];rfl)]
  |true=>
  simp only[↓lP,lK,lX,List.take,List.drop,seval,QK];refine jw (hP a (PX ha)) ?_;cases h2:plain a.val with
  |false=>
   simp only[↓lP,lK,lX,List.take,List.drop,seval,QI];rw[stop (by rw[j4,h1,h2];rfl)]
  |true=>
  simp only[↓lP,lK,lX,List.take,List.drop,seval,QK];by_cases h3:i=0
  ·subst h3;rw[show decide (((0:Nat):Int)>0)=false by simp];obtain⟨q,hq⟩:=next (by rw[j4,h1,h2];rfl)
   simp only[↓lP,lK,lX,List.take,List.drop,seval,hw];refine⟨q,sf,id,.drop ?_ ?_ ?_⟩
   ·rw[hq];exact aT rfl (aT rfl (aT rfl (aT rfl (Wc _ _))))
   ·exact aU aad (aU aad (aU aad (aU aad (eB _))))
   exact dT (dT gJ)
  rw[show decide ((i:Int)>0)=true by simp;omega];obtain⟨p,hp⟩:∃p,az[i - 1]?=some p:=⟨_,rX sf⟩;have pU:IntKind.i64.wrap ((i:Int) - 1)=((i - 1:Nat):Int):=by rw[wrap64 sf (by unfold B at hx;omega)];omega
  simp only[↓lP,lK,lX,List.take,List.drop,seval,pU,lS,hp,rq,Attr.cJ,Attr.cs];cases h4:Op.bytesLess p.name a.name with
  |false=>
   simp only[↓lP,lK,lX,List.take,List.drop,seval,QI];rw[stop (by rw[j4,h1,h2,hp];simp[h3,h4])]
  |true=>
  obtain⟨q,hq⟩:=next (by rw[j4,h1,h2,hp];simp[h4])
  simp only[↓lP,lK,lX,List.take,List.drop,seval,QK,hw];refine⟨q,sf,id,.drop ?_ ?_ ?_⟩
  ·rw[hq];exact aT rfl (aT rfl (aT rfl (aT rfl (Wc _ _))))
  ·exact aU aad (aU aad (aU aad (aU aad (eB _))))
  exact dT (dT gJ)
 rw[show decide ((i:Int)<(az.length:Int))=false by simpa using bI];simp only[↓lP,lK,lX,List.take,List.drop,seval,bp];have:(List.range az.length).all (dr az)=true:=by
  rw[Rh];intro j hj;exact hs j (by simp at hj;omega)
 rw[bP,this];rfl

mutual
def Tree.dep:Tree->Nat
 | .mk _ _ _ ks=>fB ks+1
def fB:List Tree->Nat
 |[]=>0
 |x::r=>max x.dep (fB r)
end
mutual
def Tree.jz:Tree->Nat
 | .mk _ _ _ ks=>dP ks+1
def dP:List Tree->Nat
 |[]=>0
 |x::r=>x.jz+dP r
end
def Tree.n7 (x:Tree):x.dep=fB x.kids+1:=by cases x;simp[Tree.dep,Tree.kids]
def Tree.n8 (x:Tree):x.jz=dP x.kids+1:=by cases x;simp[Tree.jz,Tree.kids]
theorem n9:∀xs ys:List Tree,fB (xs++ys)=max (fB xs) (fB ys)
 |[],ys=>by simp[fB]
 |x::r,ys=>by simp only[List.cons_append,fB,n9 r ys];omega
theorem lU:∀xs ys:List Tree,dP (xs++ys)=dP xs+dP ys
 |[],ys=>by simp[dP]
 |x::r,ys=>by simp[dP,lU r ys];omega
mutual
theorem Tree.xV:∀x:Tree,x.dep<=x.wt
 | .mk _ _ _ ks=>by have:=nu ks;simp only[Tree.dep,Tree.wt];omega
theorem nu:∀xs:List Tree,fB xs<=dE xs
 |[]=>by simp[fB]
 |x::r=>by have:=x.xV;have:=nu r;simp only[fB,dE];omega
end
mutual
theorem Tree.td:∀x:Tree,x.jz<=x.wt
 | .mk _ _ _ ks=>by have:=ql ks;simp only[Tree.jz,Tree.wt];omega
theorem ql:∀xs:List Tree,dP xs<=dE xs
 |[]=>by simp[dP]
 |x::r=>by have:=x.td;have:=ql r;simp only[dP,dE];omega
end
def lV (xs:List Tree) (i:Nat):dE (xs.take i)<=dE xs:=by
 have:=kn (xs.take i) (xs.drop i);rw[tO] at this;omega
def h_ {env:Env} {H:Hp} (t u:Nat) (R:AV->Hp->Prop):fX [(none,t),(none,u)] R .ret env H=R (.gf [env t,env u]) H:=abb
def uz (fS:Nat):AC:=
(.seq
 (.cq [
  zzX 1 0,
  gH 2 0,
  gH 3 0])
(.seq
 (.cq [
  gH 4 0,
  gH 5 1])
(.seq
 (.seq
  (.cq [
   ep 10 1 3,
   fm 11 10,
   oy 12 11,
   gH 13 0])
 (.block 0
  (.loop
   (.seq
    (.cq [
     et 14 .lss 13 12])
   (.seq
    (.cond (.t 14)
     .skip
     (.exit 0))
   (.seq
    (.block 1
     (.seq
      (.cq [
       jL 15 11 13 4,
       gz 16 4 15,
       aQ 7 (.new [(.bool false),(.str []),.nil0,.nil0]),
       gg (.store 4 (.t 7) (.t 16))])
     (.seq
      (.cq [
       gz 18 4 7,
       aQ 19 (.call fS [(.t 18)]),
       MR 17 19,
       ox 20 17 0,
       ox 21 17 1,
       MR 8 20,
       MR 9 21])
     (.cq [
      MR 22 4,
      MR 23 8,
      aQ 24 (.max (.t 22) (.t 23)),
      MR 25 5,
      MR 26 9,
      et 27 .add 25 26,
      MR 4 24,
      MR 5 27]))))
   (.cq [
    eY 28 .add 13 1,
    MR 13 28])))))))
(.seq
 (.cq [
  MR 29 4,
  eY 30 .add 29 1,
  MR 31 5,
  MR 2 30,
  MR 3 31])
.ret))))
def anW (ks:List Tree) (i:Nat):Env:=put (put (put (put (put Env.any 4 (.int .i64 (fB (ks.take i)))) 5 (.int .i64 ((dP (ks.take i)+1:Nat):Int))) 11 (.list (dq ks))) 12 (.int .i64 ks.length)) 13 (.int .i64 i)
def Gm {P:Program} {G:Nat->Option (List IV)} {f g:Nat} (hF:aw P G f=some (32,[(none,2),(none,3)],(uz g).bare)) (x:Tree) (hx:x.wt<=B)
  (hS:∀k∈x.kids,au P G g [k.av] (.gf [.int .i64 k.dep,.int .i64 k.jz])) :
  au P G f [x.av] (.gf [.int .i64 x.dep,.int .i64 x.jz]):=by
 refine aR hF tM aaJ aao ?_;have hk:dE x.kids<=B:=by have:=x.gx;omega
 have hl:x.kids.length<=B:=U' (eZ _) hk;unfold uz;simp only[↓lP,lK,lX,List.take,List.drop,seval,Tree.av,bF];refine⟨le_max M3,?_⟩;refine fY (σ:={i:Nat // i<=x.kids.length}) (λq=>anW x.kids q.1) (λ_=>Hp.none) (λq=>x.kids.length - q.1) ⟨0,tM⟩ id ?_ ?_
 ·refine .drop ?_ ?_ (dT gJ)
  ·exact aT rfl (aT rfl (aT rfl (aT (by simp[s9,bJ,dP]) (aT (by simp[s9,bJ,fB]) (Wc _ _)))))
  exact aU aad (aU aad (aU aad (aU aad (aU aad (eB _)))))
 rintro⟨i,hi⟩;simp only[↓lP,lK,lX,List.take,List.drop,seval,anW,bF];by_cases bI:i<x.kids.length
 ·rw[show decide ((i:Int)<(x.kids.length:Int))=true by simpa using bI];obtain⟨k,HA⟩:∃k,x.kids[i]?=some k:=⟨_,rX bI⟩;have hw:IntKind.i64.wrap ((i:Int)+1)=((i+1:Nat):Int):=wrap64 sf (by unfold B at hl;omega);simp only[↓lP,lK,lX,List.take,List.drop,seval,iy,HA,lT,Tree.cJ,Tree.cs];refine⟨le_max M3,ay (hS k (PX HA)) ?_⟩;have h1:x.kids.take (i+1)=x.kids.take i++[k]:=by rw[Ro,HA];rfl
  have h2:=lV x.kids i;have h3:=ql (x.kids.take i);have h4:=nu (x.kids.take i);have h5:=jx _ _ _ HA;have h6:=k.td;have hc:IntKind.i64.wrap (((dP (x.kids.take i)+1:Nat):Int)+(k.jz:Int))=((dP (x.kids.take (i+1))+1:Nat):Int):=by
   rw[wrap64 sf (by unfold B at hk;omega),h1,lU];simp[dP];omega
  have hd:(if(k.dep:Int)>(fB (x.kids.take i):Int) then(k.dep:Int) else(fB (x.kids.take i):Int))=(fB (x.kids.take (i+1)):Int):=by
   rw[h1,n9];simp only[fB];split<;>omega
  simp only[↓lP,lK,lX,List.take,List.drop,seval,hw,hc,hd];refine⟨⟨i+1,bI⟩,aac,id,.drop ?_ ?_ (dT (dT gJ))⟩
  ·exact aT rfl (aT rfl (aT rfl (aT rfl (aT rfl (Wc _ _)))))
  exact aU aad (aU aad (aU aad (aU aad (aU aad (eB _)))))
 rw[show decide ((i:Int)<(x.kids.length:Int))=false by simpa using bI];have h1:x.kids.take i=x.kids:=P5 sf;have h4:=nu x.kids;have hd:IntKind.i64.wrap ((fB x.kids:Int)+1)=(x.dep:Int):=by rw[wrap64 sf (by unfold B at hk;omega),x.n7];omega
 simp only[↓lP,lK,lX,List.take,List.drop,seval,↓h_,h1,hd,x.n8]

mutual
def Tree.fu:Tree->Bool
 | .mk t s az ks=>if t then plain s&&(s !=[]&&(az.length==0&&ks.length==0)) else named s&&(bP az&&bQ none ks)
def bQ:Option Bool->List Tree->Bool
 |_,[]=>true
 |p,x::r=>x.fu&&(!(p==some true&&x.text)&&bQ (some x.text) r)
end
def rr (fP fN zm wA:Nat):AC:=
(.seq
 (.cq [
  zzX 1 0,
  jM 2 false])
(.seq
 (.seq
  (.cq [
   ep 3 1 0,
   fm 4 3])
 (.cond (.t 4)
  (.seq
   (.cq [
    ep 5 1 1,
    fm 6 5,
    aQ 7 (.call fP [(.t 6)]),
    MR 8 7,
    Wb 9 8 1 1,
    jm 10 8 9,
    dW 11 8 (.bin .neq (.t 10) (.c (.str []))),
    jT 12 8 11,
    MR 13 12,
    Wb 14 13 1 2,
    jm 15 13 14,
    dW 16 13 (.len (.t 15)),
    dW 17 13 (.bin .eql (.t 16) (jS 0)),
    jT 18 13 17,
    MR 19 18,
    Wb 20 19 1 3,
    jm 21 19 20,
    dW 22 19 (.len (.t 21)),
    dW 23 19 (.bin .eql (.t 22) (jS 0)),
    jT 24 19 23,
    MR 2 24])
  .ret)
  .skip))
(.seq
 (.cq [
  ep 25 1 1,
  fm 26 25,
  aQ 27 (.call fN [(.t 26)]),
  MR 28 27,
  Wb 29 28 1 2,
  jm 30 28 29,
  dW 31 28 (.call zm [(.t 30)]),
  jT 32 28 31,
  MR 33 32,
  Wb 34 33 1 3,
  jm 35 33 34,
  dW 36 33 (.call wA [(.t 35)]),
  jT 37 33 36,
  MR 2 37])
.ret)))
def n_ (fF:Nat):AC:=
(.seq
 (.cq [
  jM 2 false])
(.seq
 (.seq
  (.cq [
   MR 5 0,
   oy 6 5,
   gH 7 0])
 (.block 0
  (.loop
   (.seq
    (.cq [
     et 8 .lss 7 6])
   (.seq
    (.cond (.t 8)
     .skip
     (.exit 0))
   (.seq
    (.block 1
     (.seq
      (.cq [
       MR 9 7,
       jL 10 5 7 4,
       gz 11 4 10,
       aQ 4 (.new [(.bool false),(.str []),.nil0,.nil0]),
       MR 3 9,
       gg (.store 4 (.t 4) (.t 11))])
     (.seq
      (.cq [
       gz 12 4 4,
       aQ 13 (.call fF [(.t 12)]),
       sB 14 13,
       MR 15 14,
       gV 16 15 3,
       iR 17 15 (.bin .gtr (.t 16) (jS 0)),
       gV 18 15 17,
       Wb 19 18 4 0,
       jm 20 18 19,
       iR 21 15 (.pick (.t 18) (.t 20) (me false)),
       gV 22 15 21,
       cU 23 22 0,
       cU 24 22 3,
       dW 25 22 (.bin .sub (.t 24) (jS 1)),
       dW 26 22 (.Vc (.t 23) (.t 25) 4),
       Wb 27 22 26 0,
       jm 28 22 27,
       iR 29 15 (.pick (.t 22) (.t 28) (me false)),
       sj 30 15 29])
     (.cond (.t 30)
      (.seq
       (.cq [
        jM 2 false])
      .ret)
      .skip))))
   (.cq [
    eY 31 .add 7 1,
    MR 7 31])))))))
(.seq
 (.cq [
  jM 2 true])
.ret)))
def xW (fS fF:Nat):AC:=
(.seq
 (.cq [
  zzX 1 0,
  jM 2 false])
(.seq
 (.cq [
  gz 6 4 1,
  aQ 7 (.call fS [(.t 6)]),
  MR 5 7,
  ox 8 5 0,
  ox 9 5 1,
  MR 3 8,
  MR 4 9])
(.seq
 (.cq [
  ep 10 1 0,
  fm 11 10,
  sB 12 11,
  MR 13 12,
  cU 14 13 3,
  dW 15 13 (.bin .leq (.t 14) (jS 8)),
  jT 16 13 15,
  MR 17 16,
  cU 18 17 4,
  dW 19 17 (.bin .leq (.t 18) (jS 80)),
  jT 20 17 19,
  MR 21 20,
  dW 22 21 (.load (some 4) (.t 1)),
  dW 23 21 (.call fF [(.t 22)]),
  jT 24 21 23,
  MR 2 24])
.ret)))
def Tree.oa (x:Tree) (h:x.text=true):x.fu=(plain x.s&&(x.s !=[]&&(x.attrs.length==0&&x.kids.length==0))):=by
 cases x;simp only[Tree.text] at h;subst h;simp[Tree.fu,Tree.s,Tree.attrs,Tree.kids]
def Tree.Pa (x:Tree) (h:x.text=false):x.fu=(named x.s&&(bP x.attrs&&bQ none x.kids)):=by
 cases x;simp only[Tree.text] at h;subst h;simp[Tree.fu,Tree.s,Tree.attrs,Tree.kids]
def Cc {P:Program} {G:Nat->Option (List IV)} {f fP fN zm wA:Nat} (hF:aw P G f=some (38,[(none,2)],(rr fP fN zm wA).bare)) (x:Tree)
  (hP:au P G fP [.str x.s] (.bool (plain x.s))) (hN:au P G fN [.str x.s] (.bool (named x.s))) (hA:au P G zm [.list (cD x.attrs)] (.bool (bP x.attrs)))
  (Gn:au P G wA [.list (dq x.kids)] (.bool (bQ none x.kids))):au P G f [x.av] (.bool x.fu):=by
 refine aR hF tM aaJ aad ?_;unfold rr;simp only[↓lP,lK,lX,List.take,List.drop,seval,Tree.av];refine⟨le_max M3,?_⟩;cases h0:x.text with
 |true=>
  rw[x.oa h0];simp only[↓lP,lK,lX,List.take,List.drop,seval];refine ay hP ?_;cases h1:plain x.s with
  |false=>simp only[↓lP,lK,lX,List.take,List.drop,seval,VD]
  |true=>
  simp only[↓lP,lK,lX,List.take,List.drop,seval];cases h2:(!(x.s==[])) with
  |false=>
   simp only[↓lP,lK,lX,List.take,List.drop,seval];rw[show(x.s !=[])=false from h2];rfl
  |true=>
  simp only[↓lP,lK,lX,List.take,List.drop,seval,bp,bF];rw[show(x.s !=[])=true from h2];have e1:((x.attrs.length:Int)==0)=(x.attrs.length==0):=by
   rw[SZ];simp
  have e2:((x.kids.length:Int)==0)=(x.kids.length==0):=by
   rw[SZ];simp
  rw[e1];cases h3:(x.attrs.length==0) with
  |false=>simp only[↓lP,lK,lX,List.take,List.drop,seval,VD]
  |true=>simp only[↓lP,lK,lX,List.take,List.drop,seval,bF,e2]
 |false=>
 rw[x.Pa h0];simp only[↓lP,lK,lX,List.take,List.drop,seval];refine ay hN ?_;cases h1:named x.s with
 |false=>simp only[↓lP,lK,lX,List.take,List.drop,seval,VD]
 |true=>
 simp only[↓lP,lK,lX,List.take,List.drop,seval];refine ay hA ?_;cases h2:bP x.attrs with
 |false=>simp only[↓lP,lK,lX,List.take,List.drop,seval,VD]
 |true=>
 simp only[↓lP,lK,lX,List.take,List.drop,seval];refine ay Gn ?_;simp only[↓lP,lK,lX,List.take,List.drop,seval]
def YM (ks:List Tree) (i:Nat):Option Bool:=if i=0 then none else(ks[i - 1]?).map Tree.text
def te (ks:List Tree) (i:Nat):Env:=put (put (put (put Env.any 0 (.list (dq ks))) 5 (.list (dq ks))) 6 (.int .i64 ks.length)) 7 (.int .i64 i)
def D2 {P:Program} {G:Nat->Option (List IV)} {f fF:Nat} (hF:aw P G f=some (32,[(none,2)],(n_ fF).bare)) (ks:List Tree) (hx:ks.length<=B)
  (hK:∀k∈ks,au P G fF [k.av] (.bool k.fu)):au P G f [.list (dq ks)] (.bool (bQ none ks)):=by
 refine aR hF tM aae aad ?_;unfold n_;simp only[↓lP,lK,lX,List.take,List.drop,seval,bF];refine fY (σ:={i:Nat // i<=ks.length/\bQ none ks=bQ (YM ks i) (ks.drop i)}) (λq=>te ks q.1) (λ_=>Hp.none) (λq=>ks.length - q.1) ⟨0,by simp[YM]⟩ id ?_ ?_
 ·refine .none ?_ ?_
  ·exact aT rfl (aT rfl (aT rfl (aT rfl (Wc _ _))))
  exact aU aad (aU aad (aU aad (aU aad (eB _))))
 rintro⟨i,hi,hs⟩;simp only[↓lP,lK,lX,List.take,List.drop,seval,te,bF];by_cases bI:i<ks.length
 ·rw[show decide ((i:Int)<(ks.length:Int))=true by simpa using bI];obtain⟨k,hk⟩:∃k,ks[i]?=some k:=⟨_,rX bI⟩;have hw:IntKind.i64.wrap ((i:Int)+1)=((i+1:Nat):Int):=wrap64 sf (by unfold B at hx;omega);have hd:ks.drop i=k::ks.drop (i+1):=by
   rw[EK bI];rw[rX bI] at hk;cases hk;rfl
  have BT:YM ks (i+1)=some k.text:=by simp[YM,hk]
  have mV:bQ none ks=(k.fu&&(!(YM ks i==some true&&k.text)&&bQ (some k.text) (ks.drop (i+1)))):=by rw[hs,hd];simp only[bQ]
  have next:(k.fu&& !(YM ks i==some true&&k.text))=true->∃q:{i:Nat // i<=ks.length/\bQ none ks=bQ (YM ks i) (ks.drop i)},q.1=i+1:=λh=>by
   rw[QH] at h;exact⟨⟨i+1,bI,by rw[BT,mV,h.1,h.2];rfl⟩,rfl⟩
  simp only[↓lP,lK,lX,List.take,List.drop,seval,iy,hk,lT,Tree.cJ,Tree.cs];refine⟨le_max M3,ay (hK k (PX hk)) ?_⟩;cases h1:k.fu with
  |false=>
   simp only[↓lP,lK,lX,List.take,List.drop,seval,QI];rw[mV,h1];rfl
  |true=>
  simp only[↓lP,lK,lX,List.take,List.drop,seval,QK];by_cases h3:i=0
  ·subst h3;rw[show decide (((0:Nat):Int)>0)=false by simp];obtain⟨q,hq⟩:=next (by rw[h1];simp[YM])
   simp only[↓lP,lK,lX,List.take,List.drop,seval,hw];refine⟨q,sf,id,.drop ?_ ?_ ?_⟩
   ·rw[hq];exact aT rfl (aT rfl (aT rfl (aT rfl (Wc _ _))))
   ·exact aU aad (aU aad (aU aad (aU aad (eB _))))
   exact dT (dT gJ)
  rw[show decide ((i:Int)>0)=true by simp;omega];obtain⟨p,hp⟩:∃p,ks[i - 1]?=some p:=⟨_,rX sf⟩;have qG:YM ks i=some p.text:=by simp[YM,h3,hp]
  have pU:IntKind.i64.wrap ((i:Int) - 1)=((i - 1:Nat):Int):=by rw[wrap64 sf (by unfold B at hx;omega)];omega
  simp only[↓lP,lK,lX,List.take,List.drop,seval];cases h2:k.text with
  |false=>
   obtain⟨q,hq⟩:=next (by rw[h1,h2];simp)
   simp only[↓lP,lK,lX,List.take,List.drop,seval,hw];refine⟨q,sf,id,.drop ?_ ?_ ?_⟩
   ·rw[hq];exact aT rfl (aT rfl (aT rfl (aT rfl (Wc _ _))))
   ·exact aU aad (aU aad (aU aad (aU aad (eB _))))
   exact dT (dT gJ)
  |true=>
  simp only[↓lP,lK,lX,List.take,List.drop,seval,pU,iy,hp,lT,Tree.cJ,Tree.cs];cases h4:p.text with
  |true=>
   simp only[↓lP,lK,lX,List.take,List.drop,seval];rw[mV,qG,h1,h2,h4];rfl
  |false=>
  obtain⟨q,hq⟩:=next (by rw[h1,h2,qG,h4];rfl)
  simp only[↓lP,lK,lX,List.take,List.drop,seval,hw];refine⟨q,sf,id,.drop ?_ ?_ ?_⟩
  ·rw[hq];exact aT rfl (aT rfl (aT rfl (aT rfl (Wc _ _))))
  ·exact aU aad (aU aad (aU aad (aU aad (eB _))))
  exact dT (dT gJ)
 rw[show decide ((i:Int)<(ks.length:Int))=false by simpa using bI];simp only[↓lP,lK,lX,List.take,List.drop,seval,bF];rw[hs,W0 sf];rfl
def Tree.d_ (x:Tree):Bool:= !x.text&&(decide ((x.dep:Int)<=8)&&(decide ((x.jz:Int)<=80)&&x.fu))
def Gp {P:Program} {G:Nat->Option (List IV)} {f fS fF:Nat} (hF:aw P G f=some (25,[(none,2)],(xW fS fF).bare)) (x:Tree)
  (hS:au P G fS [x.av] (.gf [.int .i64 x.dep,.int .i64 x.jz])) (hK:au P G fF [x.av] (.bool x.fu)):au P G f [x.av] (.bool x.d_):=by
 refine aR hF tM aaJ aad ?_;unfold xW;simp only[↓lP,lK,lX,List.take,List.drop,seval,Tree.av];refine⟨le_max M3,ay hS ?_⟩;simp only[↓lP,lK,lX,List.take,List.drop,seval];cases h0:x.text with
 |true=>
  simp only[↓lP,lK,lX,List.take,List.drop,seval,QK];simp[Tree.d_,h0]
 |false=>
 simp only[↓lP,lK,lX,List.take,List.drop,seval,QI];cases h1:decide ((x.dep:Int)<=8) with
 |false=>
  simp only[↓lP,lK,lX,List.take,List.drop,seval];rw[Tree.d_,h0,h1];rfl
 |true=>
 simp only[↓lP,lK,lX,List.take,List.drop,seval];cases h2:decide ((x.jz:Int)<=80) with
 |false=>
  simp only[↓lP,lK,lX,List.take,List.drop,seval];rw[Tree.d_,h0,h1,h2];rfl
 |true=>
 simp only[↓lP,lK,lX,List.take,List.drop,seval];refine ay (by rw[<-h0];exact hK) ?_;simp only[↓lP,lK,lX,List.take,List.drop,seval];rw[Tree.d_,h0,h1,h2];rfl

structure Node where
 text:Bool
 s:Bs
 attrs:List Attr
 parent:Int
 kids:List Int
abbrev Doc:=List Node
def xX (n:Int):IV:= .int .i64 n
def Node.cs (x:Node):List IV:=[.bool x.text,.str x.s,.list (cD x.attrs),.int .i64 x.parent,.list (x.kids.map xX)]
def Node.iv (x:Node):IV:= .agg x.cs
def Node.av (x:Node):AV:= .agg [.bool x.text,.str x.s,.list (cD x.attrs),.int .i64 x.parent,.list (x.kids.map xX)]
def Node.cJ (x:Node):x.iv.cells=x.cs:=rfl
def ZO {α:Type} (f:α->IV) (n:Nat) (h:∀x,(f x).cells.length=n) (xs:List α):jV n (xs.map f):=by
 intro x hx;obtain⟨a,_,rfl⟩:=pb.1 hx;exact h a
def YY {α:Type} (f:α->IV) (h:∀x,∀z∈(f x).cells,∀cs,z≠ .agg cs) (xs:List α):Flat (xs.map f):=by
 intro x hx;obtain⟨a,_,rfl⟩:=pb.1 hx;exact h a
def YN (xs:List Int):jV 1 (xs.map xX):=ZO xX 1 (λ_=>rfl) xs
def XD (xs:List Int):Flat (xs.map xX):=YY _ (by intro x z hz cs;simp[xX,IV.cells] at hz;subst hz;simp) _
def Node.uy (x:Node):∀z∈x.cs,∀cs,z≠ .agg cs:=by
 intro z hz cs;simp only[Node.cs,PY,QN,QV] at hz;rcases hz with rfl|rfl|rfl|rfl|rfl<;>simp
def Xx (xs:List Node):jV 5 (xs.map Node.iv):=ZO Node.iv 5 (λ_=>rfl) xs
def acH (xs:List Node):Flat (xs.map Node.iv):=YY _ (λx=>x.uy) _
def Node.ext' {x y:Node} (h1:x.text=y.text) (h2:x.s=y.s) (h3:x.attrs=y.attrs) (h4:x.parent=y.parent) (h5:x.kids=y.kids):x=y:=by
 cases x;cases y;simp_all
def mw (off:Nat):List Tree->List Int
 |[]=>[]
 |k::r=>(off:Int)::mw (off+k.jz) r
mutual
def Tree.flat (off:Nat) (p:Int):Tree->List Node
 | .mk t s az ks=>⟨t,s,az,p,mw (off+1) ks⟩::akX (off+1) off ks
def akX (off:Nat) (p:Nat):List Tree->List Node
 |[]=>[]
 |k::r=>k.flat off p++akX (off+k.jz) p r
end
def Tree.node (off:Nat) (p:Int) (x:Tree):Node:=⟨x.text,x.s,x.attrs,p,mw (off+1) x.kids⟩
def Tree.qm (off:Nat) (p:Int) (x:Tree):x.flat off p=x.node off p::akX (off+1) off x.kids:=by
 cases x;simp[Tree.flat,Tree.node,Tree.text,Tree.s,Tree.attrs,Tree.kids]
mutual
theorem Tree.j9 (off:Nat) (p:Int):∀x:Tree,(x.flat off p).length=x.jz
 | .mk t s az ks=>by simp[Tree.flat,Tree.jz,my (off+1) off ks]
theorem my (off:Nat) (p:Nat):∀xs:List Tree,(akX off p xs).length=dP xs
 |[]=>by simp[akX,dP]
 |k::r=>by simp[akX,dP,k.j9,my _ p r]
end
theorem VS:∀(off:Nat) (xs:List Tree),(mw off xs).length=xs.length
 |_,[]=>rfl
 |off,k::r=>by simp[mw,VS _ r]
theorem pd:∀(off p:Nat) (xs ys:List Tree),akX off p (xs++ys)=akX off p xs++akX (off+dP xs) p ys
 |off,p,[],ys=>by simp[akX,dP]
 |off,p,k::r,ys=>by simp[akX,dP,pd _ p r ys,ze]
theorem WZ:∀(off:Nat) (xs ys:List Tree),mw off (xs++ys)=mw off xs++mw (off+dP xs) ys
 |off,[],ys=>by simp[mw,dP]
 |off,k::r,ys=>by simp[mw,dP,WZ _ r ys,ze]
def lW (x:Tree):Doc:=x.flat 0 (-1)
def aa' {p:Prop} (h:p:=by simp[lW]):p:=h
def Tree.uE (x:Tree):0<x.jz:=by rw[x.n8];omega

def U8:AC:=
(aM [zi 2] (.seq (aM [MR 3 0,aQ 4 (.BJ false (.t 3))] (.cond (.t 4) (aM [zi 2] .ret) .skip)) (aM [aQ 5 (.lits 0 2 [(.str []),(.str [])] []),MR 6 0,aQ 7 (.app (.t 5) (.t 6) 2 32),MR 2 7] (.gh (.zS (.loc 7) 2) .ret))))
def Wd:AC:=
(aM [zi 2] (.seq (aM [MR 3 0,aQ 4 (.BJ false (.t 3))] (.cond (.t 4) (aM [zi 2] .ret) .skip)) (aM [aQ 5 (.lits 0 1 [(.int .i64 0)] []),MR 6 0,aQ 7 (.app (.t 5) (.t 6) 1 8),MR 2 7] (.gh (.zS (.loc 7) 2) .ret))))
def acI {P:Program} {G:Nat->Option (List IV)} {iJ:Nat} (hF:aw P G iJ=some (8,[(none,2)],U8.bare)) (xs:List Attr) (hx:xs.length<=B):au P G iJ [.list (cD xs)] (.list (cD xs)):=by
 refine Ws hF tM aae aad ?_;unfold U8;simp only[↓aX,mX,seval,ab9];refine aaW (λh=> ?_) ?_
 ·simp only[↓aX,mX,seval,norm,h]
 simp only[↓aX,mX,seval,norm];rw[Xp 2 32 7 (cD xs) (rq _) (nW _) (by rw[bp];unfold B at hx;omega) M3 rfl];simp only[↓aX,mX,seval,norm];exact⟨2,cD xs,0,_,rfl,rfl,tM,nW _,tM⟩
def aoE {P:Program} {G:Nat->Option (List IV)} {l4:Nat} (hF:aw P G l4=some (8,[(none,2)],Wd.bare)) (xs:List Int) (hx:xs.length<=B):au P G l4 [.list (xs.map xX)] (.list (xs.map xX)):=by
 refine Ws hF tM aae aad ?_;unfold Wd;simp only[↓aX,mX,seval,ab9];refine aaW (λh=> ?_) ?_
 ·simp only[↓aX,mX,seval,norm,h]
 simp only[↓aX,mX,seval,norm];rw[Xp 1 8 7 (xs.map xX) (YN _) (XD _) (by rw[G_];unfold B at hx;omega) M3 rfl];simp only[↓aX,mX,seval,norm];exact⟨1,xs.map xX,0,_,rfl,rfl,tM,XD _,by rw[tn,P5 tM]⟩
end Go.Am
