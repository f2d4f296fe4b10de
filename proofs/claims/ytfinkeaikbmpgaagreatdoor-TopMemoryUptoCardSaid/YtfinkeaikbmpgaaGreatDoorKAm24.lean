import Derived.Test.YtfinkeaikbmpgaaGreatDoorKAm56
import Derived.WalkKit
import Derived.ProofKit
import Derived.OpenShut
import Derived.Carry
import Derived.JoinedCond
import Derived.Deep.LoopGhost
set_option linter.unusedSimpArgs false
set_option linter.unusedVariables false
set_option linter.unnecessarySimpa false
set_option linter.defProp false
/- THE ABSTRACT MACHINE, part 24: lists that grow. -/
namespace Go.Am
open Go Go.RowKit
def Flat.one {xs:List IV} (h:Flat xs):∀cs∈aB xs,AV.oJ cs:=by
 intro cs bV y hy;simp only[aB,pb] at bV;obtain⟨z,hz,rfl⟩:=bV;obtain⟨c,hc,rfl⟩:=pb.1 hy;have:=h z hz c hc;cases c<;>simp[IV.dQ,AV.one];exact absurd rfl (this _)
def o7 {sz:Nat} {xs:List IV} {H:Hp} (h:jV sz xs):al_ sz (.list xs) H=some (aB xs):=by
 simp[al_,h,aB]
def AN {sz b d:Nat} {xs:List IV} {H:Hp} (he:jV sz xs) (hf:Flat xs) (hb:xs.length*b≤140737488355328) (h0:0<b) (hu:H (.loc d)= .unused) :
  jN sz b d .nil0 (.list xs) H=some (.sl (.loc d) sz 0 xs.length,bD H (.loc d) (.live ⟨sz,aB xs⟩)):=by
 unfold jN;rw[o7 he,eQ,cY (by simpa using hf.one)];have:(aB xs).length=xs.length:=Qt
 simp only;rw[eE ⟨by rw[this];exact hb,h0,hu⟩,this]
def s_ {sz b d n:Nat} {l:Lb} {els:List (List AV)} {xs:List IV} {H:Hp} (hl:H l= .live ⟨sz,els⟩) (hn:n≤els.length) (he:jV sz xs) (hf:Flat xs) (hb:(n+xs.length)*b≤140737488355328) (h0:0<b)
  (hd:l≠l.app d) (hu:H (l.app d)= .unused) :
  jN sz b d (.sl l sz 0 n) (.list xs) H=some (.sl (l.app d) sz 0 (n+xs.length),bD (bD H l .dead) (l.app d) (.live ⟨sz,els.take n++aB xs⟩)):=by
 unfold jN;rw[o7 he,eQ,cY (by simpa using hf.one)];have:(aB xs).length=xs.length:=Qt
 simp only[hl];rw[eE ⟨rfl,rfl,rfl,hn,by rw[this];exact hb,h0,hd,hu⟩,this]
def AP (ρ:Lb→Lb) (x:IV):bJ ρ x.dQ=x.dQ:=by cases x<;>simp[IV.dQ,bJ]
theorem nT (ρ:Lb→Lb):∀xs:List IV,bu ρ (xs.map IV.dQ)=xs.map IV.dQ
 |[]=>by simp[bu]
 |x::r=>by simp[bu,AP,nT ρ r]
def rk (ρ:Lb→Lb) (sz:Nat) (xs:List IV):dO ρ ⟨sz,aB xs⟩=⟨sz,aB xs⟩:=by
 simp[dO,aB,nT]
def AQ (x:IV):x.dQ.an=[]:=by cases x<;>simp[IV.dQ,AV.an]
theorem lN:∀xs:List IV,ah (xs.map IV.dQ)=[]
 |[]=>rfl
 |x::r=>by simp[ah,AQ,lN r]
def bU {xs:List IV} {cs:List AV} (h:cs∈aB xs):ah cs=[]:=by
 simp only[aB,pb] at h;obtain⟨y,_,rfl⟩:=h;exact lN _
def Wk.one {env env2:Env} {H:Hp} {l0 l1:Lb} {sz:Nat} {xs:List IV} (he:∀n,env2 n= .any∨env n=bJ (fun _=>l1) (env2 n)) (hm:∀n,∀l∈(env2 n).an,bD Hp.none l0 (.live ⟨sz,aB xs⟩) l≠ .unused)
  (h1:H l1= .live ⟨sz,aB xs⟩) (Ld:l0.fresh=true) (B7:l1.fresh=true) (hn:∀l,l.fresh=false→H l= .unused):Wk (fun _=>l1) env H env2 (bD Hp.none l0 (.live ⟨sz,aB xs⟩)):=by
 have hl:∀l r,bD Hp.none l0 (.live ⟨sz,aB xs⟩) l= .live r→l=l0∧r=⟨sz,aB xs⟩:=by
  intro l r h;by_cases e:l=l0
  ·subst e;simp at h;exact⟨rfl,h.symm⟩
  rw[aq _ _ e] at h;simp[Hp.none] at h
 refine⟨he,fun l r h=> ?_,fun l l' ⟨r,h⟩ ⟨r',h'⟩ _=>(hl l r h).1.trans (hl l' r' h').1.symm,hm,fun l r h cs bV q hq=> ?_,fun l hle=>⟨fun h=>absurd (hn l (Lb.Og hle)) h,fun⟨r,h⟩=> ?_⟩,fun _ _ _=>B7⟩
 ·obtain⟨rfl,rfl⟩:=hl l r h;rw[rk];exact h1
 ·obtain⟨rfl,rfl⟩:=hl l r h;rw[bU bV] at hq;simp at hq
 obtain⟨rfl,_⟩:=hl l r h;have Ka:=Lb.Og hle;rw[Ld] at Ka;simp at Ka
def gJ:∀l:Lb,l.fresh=false→Hp.none l= .unused:=fun _ _=>rfl
def dT {H:Hp} {n:Nat} {s:Slot} (h:∀l:Lb,l.fresh=false→H l= .unused):∀l:Lb,l.fresh=false→bD H (.loc n) s l= .unused:=by
 intro l hl;have:l≠ .loc n:=by rintro rfl;simp[Lb.fresh] at hl
 rw[aq _ _ this];exact h l hl
def ae (H:Hp) (l q:Lb) (s:Slot):bD H l s q=if q=l then s else H q:=rfl
def PE {p:Prop} (h:p:=by simp[ae]):p:=h
def PU {p:Prop} (h:p:=by simp[ae,Hp.none]):p:=h
def Qy {p:Prop} (h:p:=by simp[Lb.app,Lb.fresh,ae,Hp.none]):p:=h
section
variable {S:St} {env:Env} {H:Hp}
def ar (R W:List Lb) (d:Option Nat) (m:Option Nat) (a:O) (k:AV→Hp→Prop):akH S (.rw R W) d (.load m a) env H k=cw (Wl m (ev env a) H) (fun x=>(∀l∈eP (ev env a),l.iQ∈R∨l.iQ∈W)∧k x H) .mk:=by
 apply propext;simp only[akH,dm,cx,aA,cw];constructor
 ·rintro⟨x,H',h1,h2,_,h3⟩;simp only[bR,eS] at h1;obtain⟨y,h1,rfl,rfl⟩:=h1;exact⟨y,h1,h2,h3⟩
 rintro⟨x,h1,h2,h3⟩;exact⟨x,H,by simp[h1],h2,N7,h3⟩
def ak (R W:List Lb) (m:Nat) (a x:O) (k:AV→Hp→Prop):akH S (.rw R W) none (.store m a x) env H k=hK (gZ m (ev env a) (ev env x) H) (fun H'=>(∀l∈eP (ev env a),l.iQ∈W)∧k .un H') .mk:=by
 apply propext;simp only[akH,dm,cx,aA,hK,ku];constructor
 ·rintro⟨x,H',h1,_,h2,h3⟩;simp only[bR,eS] at h1;obtain⟨y,h1,rfl,rfl⟩:=h1;exact⟨_,h1,h2,h3⟩
 rintro⟨x,h1,h2,h3⟩;exact⟨.un,x,by simp[h1],N7,h2,h3⟩
def aD (R W:List Lb) (n:Nat) (cs:List AV) (k:AV→Hp→Prop):akH S (.rw R W) (some n) (.new cs) env H k=(H (.loc n)= .unused∧0<cs.length∧cs.length≤maxLen∧(Lb.loc n)∈W ∧
  k (.ptr (.loc n) cs.length 0 0) (bD H (.loc n) (.live ⟨cs.length,[cs]⟩))):=by
 apply propext;simp only[akH,dm,cx,aA,eQ];constructor
 ·rintro⟨x,H',h1,_,h2,h3⟩;split at h1
  ·rename_i hc;simp only[di,eS] at h1;obtain⟨rfl,rfl⟩:=h1;exact⟨hc.1,hc.2.1,hc.2.2,h2 (.loc n) N7,h3⟩
  simp at h1
 rintro⟨h1,h2,h3,h4,h5⟩;exact⟨_,_,by rw[eE ⟨h1,h2,h3⟩],N7,by simpa[Lb.iQ] using h4,h5⟩
def aE (R W:List Lb) (n:Nat) (x:O) (k:AV→Hp→Prop):akH S (.rw R W) (some n) (.box x) env H k=(Lb.loc n∈W∧vC (ev env x) n H k):=by
 apply propext;simp only[akH,dm,cx,aA,eQ,vC];constructor
 ·rintro⟨y,H',h1,_,h2,h3⟩;split at h1
  ·rename_i hc;simp only[di,eS] at h1;obtain⟨rfl,rfl⟩:=h1;exact⟨h2 (.loc n) N7,hc.1,hc.2.1,hc.2.2.1,hc.2.2.2,h3⟩
  simp at h1
 rintro⟨h4,h1,h2,h3,h6,h5⟩;exact⟨_,_,by rw[eE ⟨h1,h2,h3,h6⟩],N7,by simpa[Lb.iQ] using h4,h5⟩
def qe (n:Nat) (s:AV):List Lb:=
 match s with
 | .sl l _ _ _=>[l,l.app n]
 | .slk l _ _ _ _=>[l,.loc n]
 |_=>[.loc n]
def aF (R W:List Lb) (n:Nat) (s x:O) (sz b:Nat) (k:AV→Hp→Prop):akH S (.rw R W) (some n) (.app s x sz b) env H k =
  pK (jN sz b n (ev env s) (ev env x) H) (fun y H'=>(∀l∈eP (ev env x),l.iQ∈R∨l.iQ∈W)∧(∀l∈qe n (ev env s),l.iQ∈W)∧k y H') .mk:=by
 apply propext;have:aA (some n) (.app s x sz b) env=qe n (ev env s):=by
  simp only[aA,qe];cases ev env s<;>simp
 simp only[akH,dm,this,cx,eQ,pK]
end

inductive Sh (P:Program):TypeId→IV→Prop
 |b {t:TypeId} {x:Bool}:P.underlying t=some .bool→Sh P t (.bool x)
 |i {t:TypeId} {k:IntKind} {n:Int}:P.underlying t=some (.int k)→(Lit.int k n).wf=true→Sh P t (.int k n)
 |s {t:TypeId} {x:List UInt8}:P.underlying t=some .string→Sh P t (.str x)
 |l {t e:TypeId} {ys:List IV}:P.underlying t=some (.slice e)→(∀y∈ys,Sh P e y)→Sh P t (.list ys)
 |g {t:TypeId} {fs:Array Field} {ys:List IV}:P.underlying t=some (.struct fs)→ys.length=fs.size→(∀(j:Nat) (f:Field) (y:IV),fs[j]?=some f→ys[j]?=some y→Sh P f.type y)→Sh P t (.agg ys)
mutual
def IV.wt:IV→Nat
 | .bool _=>1
 | .int _ _=>1
 | .str s=>s.length+1
 | .list xs=>k9 xs+1
 | .agg cs=>k9 cs+1
 | .ifc _=>1
def k9:List IV→Nat
 |[]=>0
 |x::r=>x.wt+k9 r
end
def xG (P:Program) (t:TypeId):Bool:=
 match P.underlying t with
 |some .bool|some (.int _)|some .string|some (.slice _)=>true
 |_=>false
def DF (P:Program) (T:List TypeId) (t:TypeId):Bool:=
 match P.underlying t with
 |some .bool|some (.int _)|some .string=>true
 |some (.slice e)=>T.contains e&&decide (0<P.cellsOf e)
 |some (.struct fs)=>decide (P.cellsOf t=fs.size)&&(List.range fs.size).all fun j=>match fs[j]? with
  |some f=>T.contains f.type&&xG P f.type&&decide (f.offset=j)&&decide (P.cellsOf f.type=1)
  |none=>false
 |_=>false
section
variable {H:Type} {enc:TypeId×Value→H} {P:Program} {w:World} {base:Nat} {spare:Nat→Bool} {held:Bool}
theorem lO {α β:Type} {f:α→Option β}:∀{l:List α} {r:List β},l.mapM f=some r→r.length=l.length∧∀(i:Nat) (x:α),l[i]?=some x→∃y,r[i]?=some y∧f x=some y
 |[],r,h=>by
  simp at h;subst h;exact⟨rfl,N7⟩
 |a::l,r,h=>by
  rw[List.mapM_cons] at h;obtain⟨y,h1,h⟩:=dJ.1 h;obtain⟨s,h2,h⟩:=dJ.1 h;simp only[Option.pure_def,di] at h;subst h;obtain⟨e1,e2⟩:=lO h2;refine⟨by simp[e1],fun i x hx=> ?_⟩;cases i with
  |zero=>simp at hx;subst hx;exact⟨y,N7,h1⟩
  |succ i=>obtain⟨z,q1,q2⟩:=e2 i x (by simpa using hx);exact⟨z,by simpa using q1,q2⟩
def vE {a:Addr} {n:Nat} {cs:List Value} (h:w.cells? base a n=some cs):cs.length=n∧∀i,i<n→∃v,cs[i]?=some v∧w.cell? (a.add i)=some v:=by
 unfold World.cells? at h;split at h
 ·obtain⟨h1,h2⟩:=lO h;refine⟨by simpa using h1,fun i hi=> ?_⟩;obtain⟨v,e1,e2⟩:=h2 i i (by simp[hi]);exact⟨v,e1,e2⟩
 simp at h
def vF {a:Addr} {v:Value} (h:w.cell? a=some v):a.spot=none∧a.block<w.heap.size:=by
 unfold World.cell? at h;split at h
 ·rename_i c t f e;split at h
  ·simp at h
  rename_i hs;exact⟨by simpa using hs,(vN.1 e).1⟩
 simp at h
structure Bk (H:Type) where
 bk:DataW H→Nat
 one:∀d,1≤bk d
 str:∀l,bk (.lit (.string l))=l.length+1
 sl:∀es sp,(es.map bk).sum+1≤bk (.slice es sp)
 ag:∀ps,(ps.map bk).sum+1≤bk (.agg ps)
theorem build {Q:Nat→IV→Prop}:∀(n:Nat),(∀i,i<n→∃y,Q i y)→∃ys:List IV,ys.length=n∧∀i y,ys[i]?=some y→Q i y
 |0,_=>⟨[],rfl,N7⟩
 |n+1,h=>by
  obtain⟨ys,h1,h2⟩:=build n (fun i hi=>h i tM);obtain⟨y,hy⟩:=h n tM;refine⟨ys++[y],by simp[h1],fun i z hz=> ?_⟩;by_cases hi:i<n
  ·rw[bB tM] at hz;exact h2 i z hz
  have:i=n:=by
   have:=(bd.1 hz).1;simp at this;omega
  subst this;rw[b_ tM,h1] at hz;simp at hz;subst hz;exact hy
theorem ab8 {α:Type} {g:α→Nat}:∀(ys:List IV) (xs:List α),ys.length=xs.length→(∀(i:Nat) (y:IV) (x:α),ys[i]?=some y→xs[i]?=some x→y.wt≤g x)→k9 ys≤(xs.map g).sum
 |[],[],_,_=>by simp[k9]
 |y::ys,[],h,_=>by simp at h
 |[],x::xs,h,_=>by simp at h
 |y::ys,x::xs,h,hw=>by
  have h1:=hw 0 y x N7 N7;have h2:=ab8 ys xs (by simpa using h) (fun i y x hy hx=>hw (i+1) y x (by simpa using hy) (by simpa using hx));simp only[k9,o2,Nn];omega
def read (B:Bk H) {T:List TypeId} (hT:∀t∈T,DF P T t=true):∀(fuel:Nat) (t:TypeId) (cs:List Value) (d:DataW H) (ps:List MemPlace),t∈T→DataW.trod enc P w base spare held fuel t cs=some (d,ps) →
  ∃y:IV,Sh P t y∧y.wt≤B.bk d∧y.cells.length=cs.length∧∀(j:Nat) (z:IV),y.cells[j]?=some z→∃v,cs[j]?=some v∧NN w (fun _=>True) z v:=by
 intro fuel;induction fuel with
 |zero=>intro t cs d ps _ h;simp[DataW.trod] at h
 |succ fuel ih=>
 intro t cs d ps ht h;have j4:=hT t ht;unfold DF at j4;unfold DataW.trod at h;cases hu:P.underlying t with
 |none=>rw[hu] at j4;simp at j4
 |some u=>
 rw[hu] at j4 h;cases u with
 |bool=>
  simp only at h;split at h<;>simp_all;rename_i b;obtain⟨rfl,rfl⟩:=h;exact⟨.bool b,.b hu,by simpa[IV.wt] using B.one _,PX,fun j z hz=>by
   cases j<;>simp[IV.cells] at hz;subst hz;simp[NN]⟩
 |int k=>
  simp only at h;split at h<;>simp_all;rename_i n _;obtain⟨⟨rfl,hw⟩,rfl,rfl⟩:=h;exact⟨.int _ n,.i hu hw,by simpa[IV.wt] using B.one _,PX,fun j z hz=>by
   cases j<;>simp[IV.cells] at hz;subst hz;simp[NN]⟩
 |string=>
  simp only at h;split at h<;>simp_all;rename_i x;obtain⟨hw,rfl,rfl⟩:=h;exact⟨.str x.data.toList,.s hu,by rw[B.str];simp[IV.wt],PX,fun j z hz=>by
   cases j<;>simp[IV.cells] at hz;subst hz;simp[NN]⟩
 |slice e=>
  simp only[de,dj,I7] at j4;obtain⟨oN,xg⟩:=j4;have F_:e∈T:=by simpa using oN
  simp only at h;split at h<;>simp_all
  ·obtain⟨rfl,rfl⟩:=h;exact⟨.list [],.l hu N7,by simpa[IV.wt,k9] using B.one _,PX,fun j z hz=>by
    cases j<;>simp[IV.cells] at hz;subst hz;simp only[NN];exact⟨_,rfl,none,0,rfl,eM _,by simp[maxLen],.inl rfl⟩⟩
  rename_i _ _ e' a len cap _;obtain⟨⟨hb,Ie,qC⟩,h⟩:=h;obtain⟨elems,he,h⟩:=dJ.1 h;obtain⟨rest,hr,h⟩:=bR.1 h;simp only[eS] at h;obtain⟨rfl,rfl⟩:=h;obtain⟨hlen,jY⟩:=lO he;have Ga:elems.length=len:=by simpa using hlen
  have dN:∀i,i<len→∃y:IV,Sh P e' y∧(∀x,elems[i]?=some x→y.wt≤B.bk x.1)∧y.cells.length=P.cellsOf e' ∧
    ∀(j:Nat) (z:IV),y.cells[j]?=some z→∃v,w.cell? ((a.add (i*P.cellsOf e')).add j)=some v∧NN w (fun _=>True) z v:=by
   intro i hi;obtain⟨x,e1,e2⟩:=jY i i (by simp[hi]);obtain⟨cs,c1,c2⟩:=dJ.1 e2;obtain⟨cl,cg⟩:=vE c1;obtain⟨y,y1,y2,y3,y4⟩:=ih e' cs x.1 x.2 F_ c2;refine⟨y,y1,fun x' Gb=>by rw[e1] at Gb;cases Gb;exact y2,by rw[y3,cl],fun j z hz=> ?_⟩;obtain⟨v,v1,v2⟩:=y4 j z hz;have hj:j<P.cellsOf e':=by
    have:=(bd.1 hz).1;omega
   obtain⟨v',u1,u2⟩:=cg j hj;rw[v1] at u1;cases u1;exact⟨v,u2,v2⟩
  obtain⟨ys,zl,o8⟩:=build len dN;refine⟨.list ys,.l hu (fun y hy=> ?_),?_,PX,fun j z hz=> ?_⟩
  ·obtain⟨i,hi⟩:=yl hy;exact(o8 i y hi).1
  ·have h1:=ab8 (g:=fun x:DataW H×List MemPlace=>B.bk x.1) ys elems tM (fun i y x hy hx=>(o8 i y hy).2.1 x hx);have h2:=B.sl (elems.map fun x=>x.1) (rest.map fun x=>x.1);simp only[Nt] at h2;simp only[IV.wt];exact D' (se h1 1) h2
  cases j with
  |succ j=>simp[IV.cells] at hz
  |zero=>
  simp[IV.cells] at hz;subst hz;refine⟨_,rfl,?_⟩;simp only[NN];refine⟨some a,cap,by rw[zl],tM,qC,?_⟩;by_cases u7:len=0
  ·exact .inl tM
  right;have BY:∀i j,i<len→j<P.cellsOf e'→∃v,w.cell? ((a.add (i*P.cellsOf e')).add j)=some v:=by
   intro i j hi hj;obtain⟨y,hy⟩:∃y,ys[i]?=some y:=⟨_,bS tM⟩;obtain⟨_,_,q3,q4⟩:=o8 i y hy;obtain⟨v,v1,_⟩:=q4 j _ (bS tM);exact⟨v,v1⟩
  obtain⟨v0,Gc⟩:=BY 0 0 tM xg;obtain⟨s1,s2⟩:=vF Gc;obtain⟨ab,ao,Ml⟩:=a;simp only[Addr.add,I2,ku] at s1 s2;subst s1;refine⟨ab,ao,P.cellsOf e',rfl,trivial,s2,xg,ajy _ _ _ (fun k y hy=> ?_)⟩;obtain⟨_,_,q3,q4⟩:=o8 k y hy;rw[eH];refine⟨q3.symm,Xz _ _ _ (fun j z hz=> ?_)⟩;obtain⟨v,v1,v2⟩:=q4 j z hz;rw[addr_add,addr_add] at v1;exact⟨v,v1,v2⟩
 |struct fs=>
  simp only[de,dj] at j4;simp only at h;obtain⟨gm,j4⟩:=j4;rw[yq] at j4;split at h
  ·rename_i qT;obtain⟨xs,hx,h⟩:=bR.1 h;simp only[eS] at h;obtain⟨rfl,rfl⟩:=h;obtain⟨hlen,jY⟩:=lO hx;have Ga:xs.length=fs.size:=(by simpa using hlen);have dN:∀i,i<fs.size→∃y:IV,(∀f,fs[i]?=some f→Sh P f.type y)∧(∀x,xs[i]?=some x→y.wt≤B.bk x.1)∧∃v,cs[i]?=some v∧NN w (fun _=>True) y v:=by
    intro i hi;have hf:=j4 i (by simpa using hi);obtain⟨f,uq⟩:∃f,fs[i]?=some f:=⟨_,ff hi⟩;rw[uq] at hf;simp only[de,dj,I7] at hf;obtain⟨⟨⟨f1,f2⟩,f3⟩,f4⟩:=hf;obtain⟨x,e1,e2⟩:=jY i f (by simpa using uq);rw[f3,f4] at e2;obtain⟨y,y1,y2,y3,y4⟩:=ih f.type _ x.1 x.2 (by simpa using f1) e2;have fw:y.cells=[y]:=by
     cases y1 with
     |g DG _ _=>unfold xG at f2;rw[DG] at f2;simp at f2
     |_=>rfl
    refine⟨y,fun f' BQ=>by rw[uq] at BQ;cases BQ;exact y1,fun x' Gb=>by rw[e1] at Gb;cases Gb;exact y2,?_⟩;obtain⟨v,v1,v2⟩:=y4 0 y (by rw[fw];rfl);refine⟨v,?_,v2⟩;rw[oe] at v1;split at v1
    ·rw[Ba] at v1;simpa using v1
    simp at v1
   obtain⟨ys,zl,o8⟩:=build fs.size dN;refine⟨.agg ys,.g hu zl (fun j f y hf hy=>(o8 j y hy).1 f hf),?_,by simp only[IV.cells];omega,fun j z hz=>(o8 j z hz).2.2⟩;have h1:=ab8 (g:=fun x:DataW H×List MemPlace=>B.bk x.1) ys xs tM (fun i y x hy hx=>(o8 i y hy).2.1 x hx);have h2:=B.ag (xs.map fun x=>x.1);simp only[Nt] at h2;simp only[IV.wt];exact D' (se h1 1) h2
  simp at h
 |_=>simp at j4
end
end Go.Am

namespace Go.Am
open Go Go.RowKit Go.ChangeShapes
def Hx:Nat→Option (List IV):=fun _=>none
def iI:Lb→Option Nat:=fun _=>none
def xH (P:Program) (W:World):aH (b8 P Hx W (fun _=>True) iI Hp.none) iI Env.any Hp.none lB W:=
 { defers := rfl,size := rfl
   N8:=fun n=>by simp[Env.any,RV]
   rows:=fun l r h=>by simp[Hp.none] at h
   own:=fun l g ⟨r,h⟩=>by simp[Hp.none] at h
   inj:=fun l l' g ⟨r,h⟩=>by simp[Hp.none] at h
   eI:=fun n=>by simp[Env.any,AV.an]
   cH:=fun l r h=>by simp[Hp.none] at h
   frame:=⟨rfl,rfl,rfl,eM _,fun _ _ _=>rfl,fun _ _ h=>h⟩
   gA:=fun l ⟨r,h⟩=>by simp[b8,Hp.none] at h
   fr:=fun l g ⟨r,h⟩=>by simp[Hp.none] at h
   W5:=fun g cs hg=>by simp[b8,Hx] at hg}
def run_pure {P:Program} {f:Nat} {args:List AV} {res:AV} {vs:List Value} {W:World} (hp:au P Hx f args res) (hv:br W iI Hp.none (fun _=>True) args vs) :
  Calls P f vs.toArray W fun e W'=>∃v,e= .returned v∧Below W.heap.size W W'∧RV W' iI Hp.none (fun _=>True) res v:=by
 have hI:∀k,Im (b8 P Hx W (fun _=>True) iI Hp.none) iI Hp.none k:=fun k=>⟨.inl trivial,fun l ⟨r,h⟩=>by simp[Hp.none] at h⟩;refine(ml (xH P W) hp (br.mono _ _ ?_ hv) trivial).mono ?_
 ·exact {im:=fun k _ hs=>⟨hI k,hs,rfl⟩,lb:=fun l _ ⟨r,h⟩=>by simp[Hp.none] at h}
 rintro e W' ⟨v,rfl,h1,h2⟩;refine⟨v,rfl,h1,RV.mono _ _ ?_ h2⟩;exact {im:=fun k _ hs=>⟨trivial,hs,rfl⟩,lb:=fun l _ ⟨r,h⟩=>by simp[Hp.none] at h}
section
variable {H:Type} {enc:TypeId×Value→H} {P:Program}
def qf (P:Program) (t:TypeId):Bool:=P.readableRec t&&decide (t<P.types.size)
theorem kL (hl:laidOutB P=true) {W W':World} (hb:Below W.heap.size W W') {sp:Nat→Bool}:∀{ts:List TypeId} {vs:List Value} {ds:List (DataW H)} {ps:List MemPlace},ts.all (qf P)=true →
  DataW.TrodAll enc P W 0 (fun _=>true) true ts vs ds ps→(∀x∈ps,x.block<W.heap.size)→(∀x∈ps,sp x.block=true)→DataW.TrodAll enc P W' 0 sp true ts vs ds ps
 |[],_,_,_,_,h,_,_=>by
  obtain⟨rfl,rfl,rfl⟩:=trodAll_nil h;rfl
 |t::ts,_,_,_,hr,h,bI,hs=>by
  obtain⟨v,Mm,d,Mn,a,b,rfl,rfl,rfl,h1,h2⟩:=trodAll_cons h;simp only[List.all_cons,de,qf,dj] at hr;refine⟨a,b,WideElems.Trod_stays hl hr.1.1 hr.1.2 h1 (fun x hx=>hb.same (bI x (by simp[hx]))) (fun x hx=>hs x (by simp[hx])),?_,rfl⟩;exact kL hl hb hr.2 h2 (fun x hx=>bI x (by simp[hx])) (fun x hx=>hs x (by simp[hx]))
def xI {f:Func} {s:ChangeSpec} {apart fresh handsOn again:Bool} {W W':World} {args:Array Value} {ds gs:List (DataW H)} {before:List MemPlace} {tb:TypeId} (hl:laidOutB P=true)
  (hr:f.params.toList.all (qf P)=true) (q_:f.resultTypes=#[tb]) (Hy:P.underlying tb=some .bool) (ar3:s.vars=[]) (w5:s.fn H ds={results:=[.lit (.bool true)],args:=ds})
  (hW:DataW.Whole enc P f.params.toList s.vars apart W args.toList ds gs before) (hb:Below W.heap.size W W') :
  s.post enc P f apart fresh handsOn again W args (.bool true) W':=by
 have Hz:=hW;have bI:=hW.lt;obtain⟨p,q,hA,hV,rfl,hz,hn⟩:=hW;rw[ar3] at hV;obtain⟨rfl,rfl⟩:=trodVars_none hV;simp only[rI] at Hz bI hz hn;have DH:s.fn H (ds++[])={results:=[.lit (.bool true)],args:=ds}:=by rw[rI];exact w5
 have uh:∀sp:Nat→Bool,(∀x∈p,sp x.block=true)→DataW.TrodAll enc P W' 0 sp true f.params.toList args.toList ds p:=fun sp hs=>kL hl hb hr hA bI hs;have iS:∀(b:Nat) (sp:Nat→Bool) (hd:Bool),DataW.TrodAll enc P W' b sp hd f.resultTypes.toList ((Value.bool true).resultList f.resultTypes.size) [.lit (.bool true)] []:=by
  intro b sp hd;rw[q_];exact trodAll_cons_mk (shut_bool Hy _) trodAll_mk0
 have Gc:∀sp:Nat→Bool,DataW.TrodVars enc P W' sp s.vars (s.fn H (ds++[])).vars []:=by
  intro sp;rw[ar3,DH];rfl
 refine⟨ds,[],p,[],p,[],Hz,by rw[DH];exact iS _ _ _,by rw[DH];exact uh _ (fun x hx=>by simpa using bI x hx),Gc _,hb.frame _,fun _=> ?_⟩;have Iz:DataW.TrodVars enc P W' (fun _=>true) s.vars [] []:=by rw[ar3];rfl
 refine⟨ok_one q_ rfl (okWide_bool_mk Hy _),_,_,([]++p)++[],⟨[]++p,[],trodAll_append (uh _ (fun _ _=>rfl)) (iS _ _ _),Iz,N7,?_,?_⟩,?_⟩
 ·intro b off hp;have BT:MemPlace.cell b off∈p:=by simpa using hp
  rw[hb.frozen (p:=⟨b,off,none⟩) (bI _ BT)];exact hz b off BT
 ·intro ha;simpa using hn ha
 intro x hx _;simpa using hx
end
end Go.Am

namespace Go.Am
open Go Go.RowKit Go.ChangeShapes
section
variable {H:Type} {enc:TypeId×Value→H} {P:Program}
theorem xJ {W:World}:∀(ys:List IV) (cs:List Value),ys.length=cs.length→(∀z∈ys,∀q,z≠ .agg q)→(∀(j:Nat) (z:IV),ys[j]?=some z→∃v,cs[j]?=some v∧NN W (fun _=>True) z v) →
  br W iI Hp.none (fun _=>True) (ys.map IV.dQ) cs
 |[],[],_,_,_=>by simp[br]
 |[],v::cs,h,_,_=>by simp at h
 |y::ys,[],h,_,_=>by simp at h
 |y::ys,v::cs,h,hf,hg=>by
  obtain⟨v',h1,h2⟩:=hg 0 y N7;simp at h1;subst h1;refine⟨v,cs,rfl,?_,xJ ys cs (by simpa using h) (fun z hz=>hf z (by simp[hz])) (fun j z hz=>by simpa using hg (j+1) z (by simpa using hz))⟩;cases y with
  |agg q=>exact absurd rfl (hf _ N7 q)
  |_=>simpa[IV.dQ,RV,NN] using h2
def DI (B:Bk H) {T:List TypeId} (hT:∀t∈T,DF P T t=true) {W:World} {t:TypeId} (ht:t∈T) {v:Value} {d:DataW H} {ps:List MemPlace} {r:Reach}
  {b0:Nat} (nU:Value.okWide P W r b0 t v) (h:DataW.Trod enc P W 0 (fun _=>true) true t v d ps) :
  ∃y:IV,Sh P t y∧y.wt≤B.bk d∧RV W iI Hp.none (fun _=>True) y.av v:=by
 obtain⟨fuel,h⟩:=h;obtain⟨y,h1,h2,h3,h4⟩:=read B hT fuel t _ d ps ht h;refine⟨y,h1,h2,?_⟩;have one:∀u:TypeDesc,P.underlying t=some u→(∀fs,u≠ .struct fs)→(∀n e,u≠ .array n e)→(∀cs,y≠ .agg cs)→RV W iI Hp.none (fun _=>True) y.av v:=by
  intro u hu hs ha hy;have hc:y.cells=[y]:=by cases y<;>first|rfl|exact absurd rfl (hy _)
  have hv:v.cells=#[v]:=by
   cases v with
   |agg cs=>
    unfold Value.okWide at nU;rw[hu] at nU;cases u<;>simp_all[Cell.okWide,Cell.ok]
   |_=>rfl
  rw[hc,hv] at h4;obtain⟨v',e1,e2⟩:=h4 0 y rfl;simp at e1;subst e1;cases y<;>first|(simpa[IV.av,IV.dQ,RV,NN] using e2)|exact absurd rfl (hy _)
 cases h1 with
 |b hu=>exact one _ hu N7 N7 N7
 |i hu _=>exact one _ hu N7 N7 N7
 |s hu=>exact one _ hu N7 N7 N7
 |l hu _=>exact one _ hu N7 N7 N7
 |@g _ fs ys hu hl hf=>
 have j4:=hT t ht;unfold DF at j4;rw[hu] at j4;simp only[de,dj,yq] at j4;unfold Value.okWide at nU;rw[hu] at nU;obtain⟨cs,rfl,gm,_⟩:=nU;simp only[IV.av,RV];refine⟨cs.toList,N7,xJ ys _ (by simpa[IV.cells,Value.cells] using h3) ?_ (fun j z hz=>by simpa[Value.cells] using h4 j z (by simpa[IV.cells] using hz))⟩;intro z hz q e;obtain⟨j,hj⟩:=yl hz;have zk:j<fs.size:=by rw[←hl];exact(bd.1 hj).1
 obtain⟨f,Kb⟩:∃f,fs[j]?=some f:=⟨_,ff zk⟩;have h5:=hf j f z Kb hj;have h6:=j4.2 j (by simpa using zk);rw[Kb] at h6;simp only[de] at h6;have h7:=h6.1.1.2;subst e;cases h5 with
 |g DG _ _=>unfold xG at h7;rw[DG] at h7;simp at h7
inductive Gd (P:Program):List TypeId→List IV→Prop
 |nil:Gd P [] []
 |cons {t:TypeId} {y:IV} {ts:List TypeId} {ys:List IV}:Sh P t y→Gd P ts ys→Gd P (t::ts) (y::ys)
theorem ur (B:Bk H) {T:List TypeId} (hT:∀t∈T,DF P T t=true) {W:World} {r:Reach} {b0:Nat}:∀{ts:List TypeId} {vs:List Value} {ds:List (DataW H)} {ps:List MemPlace},(∀t∈ts,t∈T) →
  (∀(j:Nat) (t:TypeId) (v:Value),ts[j]?=some t→vs[j]?=some v→Value.okWide P W r b0 t v)→DataW.TrodAll enc P W 0 (fun _=>true) true ts vs ds ps →
  ∃ys:List IV,Gd P ts ys∧k9 ys≤(ds.map B.bk).sum∧br W iI Hp.none (fun _=>True) (ys.map IV.av) vs
 |[],vs,ds,ps,_,_,h=>by
  obtain⟨rfl,rfl,rfl⟩:=trodAll_nil h;exact⟨[],.nil,by simp[k9],QK⟩
 |t::ts,vs,ds,ps,ht,hv,h=>by
  obtain⟨v,vs,d,ds,p,q,rfl,rfl,rfl,h1,h2⟩:=trodAll_cons h;obtain⟨y,k1,k2,k3⟩:=DI B hT (ht t N7) (hv 0 t v rfl rfl) h1;obtain⟨ys,q1,q2,q3⟩:=ur B hT (fun t' h'=>ht t' (by simp[h'])) (fun j t' v' a b=>hv (j+1) t' v' (by simpa using a) (by simpa using b)) h2;exact⟨y::ys,.cons k1 q1,by simp only[k9,o2,Nn];omega,by simp only[o2,br];exact⟨v,vs,rfl,k3,q3⟩⟩
theorem arV {W:World} {b0:Nat} {sp:Nat→Bool} {hd:Bool}:∀{ts:List TypeId} {vs:List Value} {ds:List (DataW H)} {ps:List MemPlace},DataW.TrodAll enc P W b0 sp hd ts vs ds ps→ds.length=ts.length
 |[],vs,ds,ps,h=>by
  obtain⟨_,rfl,_⟩:=trodAll_nil h;rfl
 |t::ts,vs,ds,ps,h=>by
  obtain⟨v,vs,d,ds,p,q,rfl,rfl,rfl,_,h2⟩:=trodAll_cons h;simp[arV h2]
end
end Go.Am

namespace Go.Am
open Go Go.RowKit
def o9:List (Nat×AV)→Env
 |[]=>Env.any
 |(n,x)::r=>put (o9 r) n x
def AR:o9 []=Env.any:=rfl
def xK (n:Nat) (x:AV) (r:List (Nat×AV)):o9 ((n,x)::r)=put (o9 r) n x:=rfl
def k_ (ρ:Lb→Lb) (env:Env):List (Nat×AV)→Prop
 |[]=>True
 |(n,x)::r=>env n=bJ ρ x∧k_ ρ env r
def sv (env:Env):List (Nat×AV)→Prop
 |[]=>True
 |(n,x)::r=>env n=x∧sv env r
theorem k_.we {ρ:Lb→Lb} {env:Env}:∀{ps:List (Nat×AV)},k_ ρ env ps→∀n,o9 ps n= .any∨env n=bJ ρ (o9 ps n)
 |[],_=>Wc ρ env
 |(n,x)::r,h=>aT h.1 (k_.we h.2)
theorem sv.eql {env:Env}:∀{ps:List (Nat×AV)},sv env ps→k_ id env ps
 |[],_=>trivial
 |(n,x)::r,h=>⟨by rw[qc];exact h.1,sv.eql h.2⟩
theorem mu {H:Hp}:∀{ps:List (Nat×AV)},(∀l∈ah (ps.map Prod.snd),H l≠ .unused)→∀n,∀l∈(o9 ps n).an,H l≠ .unused
 |[],_=>eB H
 |(n,x)::r,h=>aU (fun l hl=>h l (by simp[ah,hl])) (mu fun l hl=>h l (by simp only[o2,ah,eR];exact .inr hl))
def NF (H:Hp):Prop:=∀l:Lb,l.fresh=false→H l= .unused
def AS:NF Hp.none=True:=by simp[NF,Hp.none]
def DJ (H:Hp) (n:Nat) (s:Slot):NF (bD H (.loc n) s)=NF H:=by
 apply propext;constructor
 ·intro h l hl;have:=h l hl;have Vi:l≠ .loc n:=by rintro rfl;simp[Lb.fresh] at hl
  rwa[aq _ _ Vi] at this
 exact dT
def kM {σ:Type} (S:St) (Q:gI) (k:List It) (W:Env→Hp→σ→Prop) (μ:σ→Nat) (n:Nat):gI:=fun e env H=>
 match e with
 | .normal=>∃s,μ s<n∧W env H s
 | .exit id=>match dR id k with
  |some k'=>go S Q k' env H
  |none=>Q (.exit id) env H
 | .ret=>Q .ret env H
 |_=>False
def j7 {σ:Type} {S:St} {Q:gI} {c:AC} {k:List It} {env:Env} {H:Hp} (E:σ→Env) (HH:σ→Hp) (W:Env→Hp→σ→Prop) (hW:∀env H s,W env H s→∃ρ,Wk ρ env H (E s) (HH s))
  (μ:σ→Nat) (s0:σ) (h0:W env H s0) (round:∀s,go S (kM S Q k W μ (μ s)) [.code c] (E s) (HH s)):lI S Q c k env H:=by
 intro K IJ hS c0 ck hc dN β a w hr;subst IJ;simp only[PH,Exit.then];obtain⟨ρ,h0⟩:=hW _ _ _ h0;refine wp_loop_ghost (fun n a w=>∃s β,μ s=n∧aH K β (E s) (HH s) a w) (μ s0) ⟨s0,_,rfl,h0.rel hS hr⟩ ?_;rintro n a w ⟨s,β,rfl,hr⟩;have hs:=go_sound (K:=K) hS _ (mo [.code c]) [.code c] [.code c0] (eM _) (.cons (.code hc) .nil) (E s) (HH s) (round s) β a w hr;simp only[PH,Exit.then] at hs;refine wp_mono hs ?_;rintro e a' w' ⟨env',H',β',hq,lz⟩;cases e with
 |normal=>
  obtain⟨s',bI,hw⟩:=hq;obtain⟨ρ',hw⟩:=hW _ _ _ hw;exact⟨μ s',bI,s',_,rfl,hw.rel hS lz⟩
 |exit id=>
  have hp:=ja (P:=K.P) (G:=K.G) (lift K Q) (id:=id) ck k dN;simp only[kM] at hq;show PH K.P (lift K Q) ck (.exit id) a' w';cases vy:dR id k with
  |some k'=>
   rw[vy] at hp hq;obtain⟨wz,e1,e2⟩:=hp;exact e2 a' w' (go_sound (K:=K) hS Q (mo k') k' wz (eM _) e1 env' H' hq β' a' w' lz)
  |none=>
  rw[vy] at hp hq;exact hp a' w' ⟨env',H',β',hq,lz⟩
 |ret=>exact nR _ _ _ _ _ ⟨env',H',β',hq,lz⟩
 |goto l=>exact hq.elim
 |panic ch=>exact hq.elim
 |outgrown=>exact hq.elim
mutual
theorem j8 (ρ:Lb→Lb):∀x:AV,x.an=[]→bJ ρ x=x
 | .sl ..,h| .slk ..,h| .ptr ..,h=>by simp[AV.an] at h
 | .any,_| .un,_| .bool _,_| .int ..,_| .str _,_| .list _,_| .nil0,_| .jK,_| .iT,_| .lptr _,_| .mis _,_=>by simp[bJ]
 | .agg cs,h=>by simp only[AV.an] at h;simp[bJ,fZ ρ cs h]
 | .gf cs,h=>by simp only[AV.an] at h;simp[bJ,fZ ρ cs h]
 | .fn f fs cs,h=>by simp only[AV.an,mb] at h;simp[bJ,fZ ρ fs h.1,fZ ρ cs h.2]
 | .ifc t x,h=>by simp only[AV.an] at h;simp[bJ,j8 ρ x h]
theorem fZ (ρ:Lb→Lb):∀xs:List AV,ah xs=[]→bu ρ xs=xs
 |[],_=>by simp[bu]
 |x::r,h=>by simp only[ah,mb] at h;simp[bu,j8 ρ x h.1,fZ ρ r h.2]
end
def WD {σ:Type} (ps:σ→List (Nat×AV)) (env:Env) (H:Hp) (s:σ):Prop:=NF H∧sv env (ps s)
def VR {σ:Type} {S:St} {Q:gI} {c:AC} {k:List It} {env:Env} {H:Hp} (ps:σ→List (Nat×AV)) (μ:σ→Nat) (s0:σ) (hl:∀s,ah ((ps s).map Prod.snd)=[]) (h0:WD ps env H s0)
  (round:∀s,go S (kM S Q k (WD ps) μ (μ s)) [.code c] (o9 (ps s)) Hp.none):lI S Q c k env H:=
 j7 (fun s=>o9 (ps s)) (fun _=>Hp.none) (WD ps) (fun env H s ⟨h1,h2⟩=>⟨id,h2.eql.we,fun l r h=>by simp[Hp.none] at h,fun _ _ ⟨r,h⟩=>by simp[Hp.none] at h,mu (by rw[hl];simp),fun l r h=>by simp[Hp.none] at h,
  fun l hl=>⟨fun h=>absurd (h1 l (Lb.Og hl)) h,fun _=>rfl⟩,fun l ⟨r,h⟩=>by simp[Hp.none] at h⟩) μ s0 h0 round
def WR {σ:Type} (d sz:Nat) (ps:σ→List (Nat×AV)) (xs:σ→List IV) (env:Env) (H:Hp) (s:σ):Prop:=
 NF H∧sv env (ps s)∧∃n els,env d= .sl (.loc n) sz 0 (xs s).length∧H (.loc n)= .live ⟨sz,els⟩∧els=aB (xs s)
def xL {σ:Type} {S:St} {Q:gI} {c:AC} {k:List It} {env:Env} {H:Hp} (d sz:Nat) (ps:σ→List (Nat×AV)) (xs:σ→List IV) (μ:σ→Nat) (s0:σ) (hl:∀s,ah ((ps s).map Prod.snd)=[]) (h0:WR d sz ps xs env H s0)
  (round:∀s,go S (kM S Q k (WR d sz ps xs) μ (μ s)) [.code c] (o9 ((d,.sl (.loc d) sz 0 (xs s).length)::ps s)) (bD Hp.none (.loc d) (.live ⟨sz,aB (xs s)⟩))):lI S Q c k env H:=by
 refine j7 (fun s=>o9 ((d,.sl (.loc d) sz 0 (xs s).length)::ps s)) (fun s=>bD Hp.none (.loc d) (.live ⟨sz,aB (xs s)⟩)) (WR d sz ps xs) ?_ μ s0 h0 round;rintro env H s ⟨h1,h2,n,els,h3,h4,rfl⟩;have key:∀{r:List (Nat×AV)},sv env r→ah (r.map Prod.snd)=[]→k_ (fun _=> .loc n) env r:=by
  intro r;induction r with
  |nil=>exact fun _ _=>trivial
  |cons p r ih=>
  obtain⟨m,x⟩:=p;intro h kR;simp only[o2,ah,mb] at kR;refine⟨?_,ih h.2 kR.2⟩;rw[h.1];exact(j8 _ x kR.1).symm
 refine⟨fun _=> .loc n,Wk.one (k_.we (ps:=(d,.sl (.loc d) sz 0 (xs s).length)::ps s) ⟨h3,key h2 (hl s)⟩) (mu ?_) h4 rfl rfl h1⟩;simp[ah,AV.an,hl s]
def kl:List (Lb×Row)→Hp
 |[]=>Hp.none
 |(l,r)::t=>bD (kl t) l (.live r)
def P8 {p:Prop} (h:p:=by simp[kl,ae]):p:=h
def dn:List (Lb×Lb)→Lb→Lb
 |[],l=>l
 |(a,b)::t,l=>if l=a then b else dn t l
def PN {p:Prop} (h:p:=by simp[dn]):p:=h
def PZ {p:Prop} (h:p:=by simp[dn,Lb.fresh,Lb.entry]):p:=h
def Qw {p:Prop} (h:p:=by simp[dn,dO,bu,bJ,ae]):p:=h
def tc (ρ:Lb→Lb) (H:Hp):List (Lb×Row)→Prop
 |[]=>True
 |(l,r)::t=>H (ρ l)= .live (dO ρ r)∧tc ρ H t
def DK (H:Hp) (ls:List Lb):Prop:=∀l:Lb,l.fresh=false→H l≠ .unused→l∈ls
def rn (ls:List Lb):DK Hp.none ls=True:=by simp[DK,Hp.none]
def uu (H:Hp) (n:Nat) (s:Slot) (ls:List Lb):DK (bD H (.loc n) s) ls=DK H ls:=by
 apply propext;constructor
 ·intro h l hl hu;have Vi:l≠ .loc n:=by rintro rfl;simp[Lb.fresh] at hl
  exact h l hl (by rwa[aq _ _ Vi])
 intro h l hl hu;have Vi:l≠ .loc n:=by rintro rfl;simp[Lb.fresh] at hl
 rw[aq _ _ Vi] at hu;exact h l hl hu
def Qf {p:Prop} (h:p:=by simp only[uu,rn]):p:=h
structure IU (ls:List Lb) (ps:List (Nat×AV)) (rs:List (Lb×Row)) (env:Env) (H:Hp) (m:List (Lb×Lb)):Prop where
 nf:DK H ls
 e:k_ (dn m) env ps
 r:tc (dn m) H rs
 inj:(ls.map (dn m)).Nodup
 fr:∀l∈ls,(l.fresh=true→(dn m l).fresh=true)∧(l.fresh=false→dn m l=l)
def fy {rs:List (Lb×Row)}:∀{l:Lb} {r:Row},kl rs l= .live r→(l,r)∈rs:=by
 induction rs with
 |nil=>intro l r h;simp[kl,Hp.none] at h
 |cons p t ih=>
 obtain⟨l0,r0⟩:=p;intro l r h;simp only[kl,bD] at h;split at h
 ·next e=>cases h;subst e;simp
 exact Nk _ (ih h)
def amE {rs:List (Lb×Row)} {l:Lb} (h:l∈rs.map Prod.fst):kl rs l≠ .unused:=by
 induction rs with
 |nil=>simp at h
 |cons p t ih=>
 obtain⟨l0,r0⟩:=p;simp only[kl,bD];split
 ·simp
 next e=>exact ih (by simpa[e] using h)
theorem nr {ρ:Lb→Lb} {H:Hp}:∀{rs:List (Lb×Row)},tc ρ H rs→∀{l:Lb} {r:Row},(l,r)∈rs→H (ρ l)= .live (dO ρ r)
 |[],_,_,_,h=>by simp at h
 |(l0,r0)::t,h,l,r,hm=>by
  simp only[dU,eS] at hm;rcases hm with⟨rfl,rfl⟩|hm
  ·exact h.1
  exact nr h.2 hm
theorem gi {α β:Type} [DecidableEq β] {f:α→β}:∀{l:List α},(l.map f).Nodup→∀a∈l,∀b∈l,f a=f b→a=b
 |[],_,_,h,_,_,_=>by simp at h
 |x::l,hd,a,ha,b,hb,e=>by
  simp only[o2,Jb,pb,not_exists,not_and] at hd;simp only[dU] at ha hb;rcases ha with rfl|ha<;>rcases hb with rfl|hb
  ·rfl
  ·exact absurd e.symm (hd.1 b hb)
  ·exact absurd e (hd.1 a ha)
  exact gi hd.2 a ha b hb e
def IU.wk {ls:List Lb} {ps:List (Nat×AV)} {rs:List (Lb×Row)} {env:Env} {H:Hp} {m:List (Lb×Lb)} (h:IU ls ps rs env H m) (lr:rs.map Prod.fst=ls) (hp:∀l∈ah (ps.map Prod.snd),l∈ls)
  (hr:∀q∈rs,∀cs∈q.2.els,∀l∈ah cs,l∈ls):Wk (dn m) env H (o9 ps) (kl rs):=by
 have sw:∀l,live (kl rs) l→l∈ls:=fun l ⟨r,h⟩=>by rw[←lr];exact pb.2 ⟨_,fy h,rfl⟩
 refine⟨h.e.we,fun l r hl=>nr h.r (fy hl),fun l l' h1 h2 e=>gi h.inj l (sw l h1) l' (sw l' h2) e,mu fun l hl=>amE (by rw[lr];exact hp l hl),fun l r hl cs bV q hq=> ?_,fun l hf=>⟨fun hu=> ?_,fun hl=>(h.fr l (sw l hl)).2 (Lb.Og hf)⟩,fun l hl hf=>(h.fr l (sw l hl)).1 hf⟩
 ·exact amE (by rw[lr];exact hr _ (fy hl) cs bV q hq)
 exact amE (by rw[lr];exact h.nf l (Lb.Og hf) hu)
section
variable {σ:Type} {S:St} {Q:gI} {k:List It} {W:Env→Hp→σ→Prop} {μ:σ→Nat} {n:Nat} {env:Env} {H:Hp}
def IW:kM S Q k W μ n .normal env H=∃s,μ s<n∧W env H s:=rfl
theorem IX (id:Nat):kM S Q k W μ n (.exit id) env H=match dR id k with
 |some k'=>go S Q k' env H
 |none=>Q (.exit id) env H:=rfl
def IY:kM S Q k W μ n .ret env H=Q .ret env H:=rfl
def AT:sv env []=True:=rfl
def xM (n:Nat) (x:AV) (r:List (Nat×AV)):sv env ((n,x)::r)=(env n=x∧sv env r):=rfl
end
def AU {b:Bool} {A B:Prop} {u:Tp A B} (h1:b=true→A) (h2:b=false→B):cK (.bool b) A B u:=by
 cases b
 ·exact h2 rfl
 exact h1 rfl
def ahq {b:Bool} {A B:Prop} {u:Tp A B} (h1:b=true→A) (h2:b=false→B):gB (.bool b) true A B u:=by
 cases b
 ·rw[IL];exact h2 rfl
 rw[IK];exact h1 rfl
def IZ (env:Env) (n:Nat):ev env (.t n)=env n:=rfl
def I0 (env:Env) (x:AV):ev env (.c x)=x:=rfl
def DL (n:Nat) (h:n≤4000):(n≤maxLen)=True:=by simp[maxLen];omega

def DM (b:Bool) (A B:Prop) (u:Tp A B):cK (.bool (!b)) A B u=cK (.bool b) B A .mk:=by cases b<;>simp[cK]
def DN (b t:Bool) (A B:Prop) (u:Tp A B):gB (.bool (!b)) t A B u=gB (.bool b) (!t) A B .mk:=by cases b<;>cases t<;>simp[gB]
def uv (args:List AV) (n:Nat):jP args n=args.getD n .un:=rfl
def uw (l:Lb):Hp.none l= .unused:=rfl
def DO (n:Nat):Env.any n= .any:=rfl
def Ge {σ:Type} (ps:σ→List (Nat×AV)) (env:Env) (H:Hp) (s:σ):WD ps env H s=(NF H∧sv env (ps s)):=rfl
def vG (cs:List IV):(IV.agg cs).cells=cs:=rfl
def Gf (b:Bool):(false ^^ b)=b:=by cases b<;>rfl
def Gg (b:Bool):(true ^^ b)= !b:=by cases b<;>rfl
def Le:=And.intro @List.getD_cons_zero.{0} (And.intro @List.getD_cons_succ.{0} (And.intro @List.length_map.{0,0} (And.intro @List.length_cons.{0} (And.intro @List.length_nil.{0} (And.intro @ae (And.intro @List.getElem?_cons_zero.{0} (And.intro @List.getElem?_cons_succ.{0} (And.intro @Option.bind_some.{0,0} (And.intro @Option.map_some.{0,0} (And.intro @List.map_cons.{0,0} (And.intro @List.map_nil.{0,0} (And.intro @eG (And.intro @bX (And.intro @List.all_cons.{0} (And.intro @List.all_nil.{0} (And.intro @List.take_succ_cons.{0} (And.intro @List.take_zero.{0} (And.intro @List.drop_succ_cons.{0} (And.intro @List.drop_zero.{0} (And.intro @List.cons_append.{0} (And.intro @List.nil_append.{0} (And.intro @List.append_nil.{0} (And.intro @List.set_cons_zero.{0} (And.intro @List.set_cons_succ.{0} (And.intro @List.take_nil.{0} (And.intro @List.drop_nil.{0} (And.intro @List.replicate_one.{0} (And.intro @List.flatten_cons.{0} (And.intro @List.flatten_nil.{0} (And.intro @uv (And.intro @uw (And.intro @DO (And.intro @IZ (And.intro @I0 (And.intro @IW (And.intro @IX (And.intro @IY (And.intro @AR (And.intro @xK (And.intro @AT (And.intro @xM (And.intro @AS (And.intro @DJ (And.intro @DM (And.intro @DN (And.intro @Ge (And.intro @vG (And.intro @Gf @Gg))))))))))))))))))))))))))))))))))))))))))))))))
def Lf:=And.intro @I2 (And.intro @bM (And.intro @OH (And.intro @eM (And.intro @DL (And.intro @Pk (And.intro @OU (And.intro @M4 (And.intro @ib (And.intro @fj (And.intro @Bool.not_not (And.intro @tk (And.intro @Oc (And.intro @kt (And.intro @implies_true.{1} (And.intro @false_implies (@List.mem_cons.{0}))))))))))))))))
def I1 (x:AV) (k:AV→Prop) (_:Tv k):Prop:=∃R,zK x=some R∧∀m,R m→m≤maxLen→k (.int .i64 (m:Int))
def Kc (S:St) (f:Nat) (args:List AV) (H:Hp) (k:AV→Prop) (_:Tv k):Prop:=∃res,sZ S f args H res∧k res
section
variable {S:St} {Q:gI} {env:Env} {H:Hp}
def DP (d:Option Nat) (x:O) (k:AV→Hp→Prop):bg S d (.cap x) env H k=I1 (ev env x) (fun y=>k y H) .mk:=rfl
def DQ (d:Option Nat) (s x:O) (sz:Nat) (k:AV→Hp→Prop):bg S d (.qL s x sz) env H k=pK (sW sz (ev env s) (ev env x) H) k .mk:=rfl
def DR (d:Option Nat) (x:O) (sz:Nat) (z:List AV) (k:AV→Hp→Prop):bg S d (.si x sz z) env H k=hK (sX sz z (ev env x) H) (fun H'=>k (.gf []) H') .mk:=rfl
def DS (q:Nat) (n c:O) (sz b:Nat) (z:List AV) (k:AV→Hp→Prop):bg S (some q) (.tU n c sz b z) env H k=pK (vg sz b q z (ev env n) (ev env c) H) k .mk:=by
 simp[bg,pK]
def xN (d:Option Nat) (f:Nat) (args:List O) (k:AV→Hp→Prop):bg S d (.kE f args) env H k=Kc S f (args.map (ev env)) H (fun y=>k y H) .mk:=rfl
def AW d x n sz (k:AV→Hp→Prop):bg S d (.oD x n sz) env H k=cw (af (.oD x n sz) env) (fun x=>k x H) .mk:=rfl
def AX d s x sz b (k:AV→Hp→Prop):bg S d (.oE s x sz b) env H k=cw (af (.oE s x sz b) env) (fun x=>k x H) .mk:=rfl
def xO d x n sz (k:AV→Hp→Prop):akH S .no d (.oD x n sz) env H k=cw (af (.oD x n sz) env) (fun x=>k x H) .mk:=PI
def xP d s x sz b (k:AV→Hp→Prop):akH S .no d (.oE s x sz b) env H k=cw (af (.oE s x sz b) env) (fun x=>k x H) .mk:=PI
def DT (R W:List Lb) (d:Option Nat) (s x:O) (sz:Nat) (k:AV→Hp→Prop):akH S (.rw R W) d (.qL s x sz) env H k =
  pK (sW sz (ev env s) (ev env x) H) (fun y H'=>(∀l∈eP (ev env x),l.iQ∈R∨l.iQ∈W)∧(∀l∈eP (ev env s),l.iQ∈W)∧k y H') .mk:=by
 simp only[akH,dm,cx,aA,pK]
def DU (R W:List Lb) (d:Option Nat) (x:O) (sz:Nat) (z:List AV) (k:AV→Hp→Prop):akH S (.rw R W) d (.si x sz z) env H k =
  hK (sX sz z (ev env x) H) (fun H'=>(∀l∈eP (ev env x),l.iQ∈W)∧k (.gf []) H') .mk:=by
 apply propext;simp only[akH,dm,cx,aA,hK];constructor
 ·rintro⟨x1,H',h1,_,h2,h3⟩;obtain⟨H2,h5,h4⟩:=bR.1 h1;simp only[eS] at h4;obtain⟨rfl,rfl⟩:=h4;exact⟨H2,h5,h2,h3⟩
 rintro⟨H2,h1,h2,h3⟩;exact⟨.gf [],H2,by rw[h1];rfl,N7,h2,h3⟩
def AY (q:Nat) (s n:O) (sz b:Nat) (z:List AV) (k:AV→Hp→Prop):bg S (some q) (.pP s n sz b z) env H k=pK (ud sz b q z (ev env s) (ev env n) H) k .mk:=by
 simp[bg,pK]
def xQ (q:Nat) (sz:Nat) (z:List AV) (ps:List (Nat×O)) (k:AV→Hp→Prop):bg S (some q) (.gG sz z ps) env H k=pK (sY sz q z (ps.map fun p=>(p.1,ev env p.2)) H) k .mk:=by
 simp[bg,pK]
def xR (R W:List Lb) (q:Nat) (sz:Nat) (z:List AV) (ps:List (Nat×O)) (k:AV→Hp→Prop):akH S (.rw R W) (some q) (.gG sz z ps) env H k =
  pK (sY sz q z (ps.map fun p=>(p.1,ev env p.2)) H) (fun y H'=>Lb.loc q∈W∧k y H') .mk:=by
 simp[akH,dm,cx,aA,pK,Lb.iQ]
def AZ d es (k:AV→Hp→Prop):bg S d (.qM es) env H k=cw (af (.qM es) env) (fun x=>k x H) .mk:=rfl
def A0 d x i (k:AV→Hp→Prop):bg S d (.sy x i) env H k=cw (af (.sy x i) env) (fun x=>k x H) .mk:=rfl
def DV d f qs cs (k:AV→Hp→Prop):bg S d (.zh f qs cs) env H k=cw (af (.zh f qs cs) env) (fun x=>k x H) .mk:=rfl
def A1 d f qs cs (k:AV→Hp→Prop):akH S .no d (.zh f qs cs) env H k=cw (af (.zh f qs cs) env) (fun x=>k x H) .mk:=PI
def aaV {sz d:Nat} {z:List AV} {ps:List (Nat×AV)} {cs:List AV} (h1:fg z (ps.map fun p=>(p.1*sz,sz,p.2))=some cs) (h2:H (.loc d)= .unused) (h3:cs.length=sz) (h4:0<sz) :
  sY sz d z ps H=some (.sl (.loc d) sz 0 1,bD H (.loc d) (.live ⟨sz,[cs]⟩)):=by
 unfold sY;rw[h1,eQ,eE ⟨h2,h3,h4⟩]
def DW (d:Option Nat) (i:U7) (k:AV→Hp→Prop):akH S .all d i env H k=bg S d i env H k:=rfl
def DX (S:St) (F:List Lb) (f:Nat) (args:List AV) (H:Hp) (k:AV→Hp→Prop) (_:Tw k):Prop:=FX S F f args H k
def DY (F:List Lb) (d:Option Nat) (f:Nat) (args:List O) (k:AV→Hp→Prop):akH S (.p_ F) d (.call f args) env H k=DX S F f (args.map (ev env)) H k .mk:=rfl
def ad5 {F:List Lb} {f:Nat} {args U6:List AV} {res:AV} {k:AV→Hp→Prop} (h:au S.P S.G f U6 res) (ha:iF (wV H) args U6) (hs:res.scalar=true) (hk:k res H) {u:Tw k}:DX S F f args H k u:=
 ⟨fun x H'=>x=res∧H'=H,.inr (.inl ⟨U6,res,ha,h,hs,rfl,rfl⟩),⟨res,H,rfl,rfl⟩,fun x H' ⟨e1,e2⟩=>by subst e1;subst e2;exact⟨fun _ _=>rfl,hk⟩⟩
def DZ {f:Nat} {args:List AV} {res:AV} {k:AV→Prop} (h:sZ S f args H res) (hk:k res) {u:Tv k}:Kc S f args H k u:=⟨res,h,hk⟩
def ad6 (l:Lb) (sz i n c:Nat) (k:AV→Prop) (u:Tv k):I1 (.slk l sz i n c) k u=(c≤maxLen→k (.int .i64 (c:Int))):=by
 simp only[I1,zK,di];apply propext;constructor
 ·rintro⟨R,rfl,h⟩ hc;exact h c rfl hc
 intro h;exact⟨_,rfl,fun m hm hc=>by subst hm;exact h hc⟩
end
def Lg:=And.intro @AZ<|And.intro @A0<|And.intro @AY<|And.intro @xQ<|And.intro @xR<|And.intro @DV<|And.intro @A1<|And.intro @DP (And.intro @DQ (And.intro @DR (And.intro @DS (And.intro @xN (And.intro @AW (And.intro @AX (And.intro @xO (And.intro @xP (And.intro @DT (And.intro @DU<|And.intro @DY @DW))))))))))
def aX:=And.intro dS<|And.intro Lg<|And.intro ai<|And.intro aj<|And.intro @ar<|And.intro @ak<|And.intro @aF<|And.intro @aD @aE
def mP:=And.intro Lb.loc.injEq<|And.intro Lb.par.injEq<|And.intro Lb.gen.injEq<|And.intro @aj'<|And.intro @pL<|And.intro @acG<|And.intro @qJ<|And.intro jy<|And.intro O2 Int.toNat_zero
def mX:=And.intro J_ (And.intro Le (And.intro Lf (And.intro mP (And.intro @vC.eq_1 (And.intro @af.eq_1 (And.intro @af.eq_2 (And.intro @af.eq_3 (And.intro @af.eq_4 (And.intro @af.eq_5 (And.intro @af.eq_6 (And.intro @af.eq_7 (And.intro @af.eq_8 (And.intro @af.eq_9 (And.intro @af.eq_10 (And.intro @af.eq_11 (And.intro @af.eq_12 (And.intro @af.eq_13 (And.intro @af.eq_14 (And.intro @af.eq_15 (And.intro @af.eq_16 (And.intro @af.eq_17 (And.intro @af.eq_18 (And.intro @af.eq_19 (And.intro @af.eq_20 (And.intro @af.eq_21 (And.intro @af.eq_22 (And.intro @af.eq_23 (And.intro @af.eq_24 (And.intro @af.eq_25 (And.intro @af.eq_26 (And.intro @af.eq_27 (And.intro @af.eq_28 (And.intro @af.eq_29 (And.intro @af.eq_30 (And.intro @af.eq_31 (And.intro @af.eq_32 (And.intro @af.eq_33 (And.intro @af.eq_34 (And.intro @af.eq_35 (And.intro @af.eq_36 (And.intro @af.eq_37 (And.intro @af.eq_38 (And.intro @dk.eq_1 (And.intro @dk.eq_2 (And.intro @dk.eq_3 (And.intro @dk.eq_4 (And.intro @dk.eq_5 (And.intro @dk.eq_6 (And.intro @dk.eq_7 (And.intro @dk.eq_8 (And.intro @dk.eq_9 (And.intro @dk.eq_10 (And.intro @dk.eq_11 (And.intro @dk.eq_12 (And.intro @dk.eq_13 (And.intro @dk.eq_14 (And.intro @dk.eq_15 (And.intro @dk.eq_16 (And.intro @dk.eq_17 (And.intro @dk.eq_18 (And.intro @dk.eq_19 (And.intro @dk.eq_20 (And.intro @dk.eq_21 (And.intro @dk.eq_22 (And.intro @Wl.eq_1 (And.intro @Wl.eq_2 (And.intro @gZ.eq_1 (And.intro @gZ.eq_2 (And.intro @B9.eq_1 (And.intro @B9.eq_2 (And.intro @B9.eq_3 (And.intro @eP.eq_1 (And.intro @eP.eq_2 (And.intro @eP.eq_3 (And.intro @eP.eq_4 (And.intro @qe.eq_1 (And.intro @qe.eq_2 (And.intro @qe.eq_3 (And.intro @fg.eq_1 (And.intro @fg.eq_2 (And.intro @chunks.eq_1 (And.intro @chunks.eq_2 (And.intro @qO.eq_1 (And.intro @qO.eq_2 (And.intro @zx.eq_1 (And.intro @zx.eq_2 (And.intro @AV.cells.eq_1 (And.intro @AV.cells.eq_2 (And.intro @AV.sI.eq_1 (And.intro @AV.sI.eq_2 (And.intro @AV.one.eq_1 (And.intro @AV.one.eq_2 (And.intro @AV.one.eq_3 (And.intro @AV.one.eq_4 (And.intro @AV.one.eq_5 (And.intro @IV.dQ.eq_1 (And.intro @IV.dQ.eq_2 (And.intro @IV.dQ.eq_3 (And.intro @IV.dQ.eq_4 (And.intro @IV.dQ.eq_5 (And.intro @Lb.app.eq_1 (And.intro @Lb.fresh.eq_1 (And.intro @Lb.fresh.eq_2 (And.intro @Lb.fresh.eq_3 (And.intro @AV.iv.eq_1 (And.intro @AV.iv.eq_2 (And.intro @AV.iv.eq_3 (And.intro @AV.iv.eq_4 (And.intro @AV.iv.eq_5 (And.intro @AV.iv.eq_6 (And.intro @if_true.{1} (And.intro @if_false.{1} (And.intro @List.not_mem_nil.{0} (And.intro @forall_eq.{1} (And.intro @beq_self_eq_true.{0} @List.isEmpty_nil.{0})))))))))))))))))))))))))))))))))))))))))))))))))))))))))))))))))))))))))))))))))))))))))))))))))))))))))))))))))))
def lX:=And.intro @ev.eq_1 (And.intro @ev.eq_2 (And.intro @uv (And.intro @List.getD_cons_zero.{0} (And.intro @List.getD_cons_succ.{0} (And.intro @tk (And.intro @Oc (And.intro @List.length_map.{0,0} (And.intro @List.length_cons.{0} (And.intro @List.length_nil.{0} (And.intro @ae (And.intro @Lb.loc.injEq (And.intro @List.getElem?_cons_zero.{0} (And.intro @List.getElem?_cons_succ.{0} (And.intro @Option.bind_some.{0,0} (And.intro @Option.map_some.{0,0} (And.intro @List.map_cons.{0,0} (And.intro @List.map_nil.{0,0} (And.intro @eG (And.intro @bX (And.intro @List.all_cons.{0} (And.intro @List.all_nil.{0} (And.intro @Pk (And.intro @OU (And.intro @M4 (And.intro @List.take_succ_cons.{0} (And.intro @List.take_zero.{0} (And.intro @List.drop_succ_cons.{0} (And.intro @List.drop_zero.{0} (And.intro @List.cons_append.{0} (And.intro @List.nil_append.{0} (And.intro @List.append_nil.{0} (And.intro @List.set_cons_zero.{0} (And.intro @aj' (And.intro @pL (And.intro @acG (And.intro @qJ (And.intro @jy (And.intro @List.mem_cons.{0} (And.intro @kt (And.intro @false_implies (And.intro @implies_true.{1} (And.intro @uw (And.intro @eM (And.intro @List.set_cons_succ.{0} (And.intro @List.replicate_one.{0} (And.intro @List.flatten_cons.{0} (And.intro @List.flatten_nil.{0} (And.intro @I2 (And.intro @bM @OH)))))))))))))))))))))))))))))))))))))))))))))))))
def lK:=And.intro J_ (And.intro @vC.eq_1 (And.intro @af.eq_1 (And.intro @af.eq_2 (And.intro @af.eq_3 (And.intro @af.eq_4 (And.intro @af.eq_5 (And.intro @af.eq_6 (And.intro @af.eq_7 (And.intro @af.eq_8 (And.intro @af.eq_9 (And.intro @af.eq_10 (And.intro @af.eq_11 (And.intro @af.eq_12 (And.intro @af.eq_13 (And.intro @af.eq_14 (And.intro @af.eq_15 (And.intro @af.eq_16 (And.intro @af.eq_17 (And.intro @af.eq_18 (And.intro @af.eq_19 (And.intro @af.eq_20 (And.intro @af.eq_21 (And.intro @af.eq_22 (And.intro @af.eq_23 (And.intro @af.eq_24 (And.intro @af.eq_25 (And.intro @af.eq_26 (And.intro @af.eq_27 (And.intro @af.eq_28 (And.intro @af.eq_29 (And.intro @af.eq_30 (And.intro @af.eq_31 (And.intro @af.eq_32 (And.intro @af.eq_33 (And.intro @af.eq_34 (And.intro @af.eq_35 (And.intro @af.eq_36 (And.intro @af.eq_37 (And.intro @af.eq_38 (And.intro @dk.eq_1 (And.intro @dk.eq_2 (And.intro @dk.eq_3 (And.intro @dk.eq_4 (And.intro @dk.eq_5 (And.intro @dk.eq_6 (And.intro @dk.eq_7 (And.intro @dk.eq_8 (And.intro @dk.eq_9 (And.intro @dk.eq_10 (And.intro @dk.eq_11 (And.intro @dk.eq_12 (And.intro @dk.eq_13 (And.intro @dk.eq_14 (And.intro @dk.eq_15 (And.intro @dk.eq_16 (And.intro @dk.eq_17 (And.intro @dk.eq_18 (And.intro @dk.eq_19 (And.intro @dk.eq_20 (And.intro @dk.eq_21 (And.intro @dk.eq_22 (And.intro @Wl.eq_1 (And.intro @Wl.eq_2 (And.intro @gZ.eq_1 (And.intro @gZ.eq_2 (And.intro @B9.eq_1 (And.intro @B9.eq_2 (And.intro @B9.eq_3 (And.intro @eP.eq_1 (And.intro @eP.eq_2 (And.intro @eP.eq_3 (And.intro @eP.eq_4 (And.intro @qe.eq_1 (And.intro @qe.eq_2 (And.intro @qe.eq_3 (And.intro @fg.eq_1 (And.intro @fg.eq_2 (And.intro @chunks.eq_1 (And.intro @chunks.eq_2 (And.intro @qO.eq_1 (And.intro @qO.eq_2 (And.intro @zx.eq_1 (And.intro @zx.eq_2 (And.intro @AV.cells.eq_1 (And.intro @AV.cells.eq_2 (And.intro @AV.sI.eq_1 (And.intro @AV.sI.eq_2 (And.intro @AV.one.eq_1 (And.intro @AV.one.eq_2 (And.intro @AV.one.eq_3 (And.intro @AV.one.eq_4 (And.intro @AV.one.eq_5 (And.intro @IV.dQ.eq_1 (And.intro @IV.dQ.eq_2 (And.intro @IV.dQ.eq_3 (And.intro @IV.dQ.eq_4 (And.intro @IV.dQ.eq_5 (And.intro @Lb.app.eq_1 (And.intro @Lb.fresh.eq_1 (And.intro @Lb.fresh.eq_2 (And.intro @Lb.fresh.eq_3 (And.intro @AV.iv.eq_1 (And.intro @AV.iv.eq_2 (And.intro @AV.iv.eq_3 (And.intro @AV.iv.eq_4 (And.intro @AV.iv.eq_5 (And.intro @AV.iv.eq_6 (And.intro @if_true.{1} (And.intro @if_false.{1} (And.intro @List.not_mem_nil.{0} @forall_eq.{1}))))))))))))))))))))))))))))))))))))))))))))))))))))))))))))))))))))))))))))))))))))))))))))))))))))))))))))))
def lP:=And.intro dS (And.intro @ai (And.intro @aj (And.intro @ar (And.intro @ak (And.intro @aF (And.intro @aD @aE))))))

open Classical in
noncomputable def eg (kp:Lb→Prop) (H:Hp):Hp:=fun l=>match H l with
 | .live r=>if kp l then .live r else .dead
 |s=>s
def dH {kp:Lb→Prop} {H:Hp} {l:Lb} {r:Row}:eg kp H l= .live r↔H l= .live r∧kp l:=by
 unfold eg;cases h:H l with
 |live r'=>
  by_cases hk:kp l
  ·simp[hk]
  simp[hk]
 |unused=>simp
 |dead=>simp
def N9 {kp:Lb→Prop} {H:Hp} {l:Lb}:eg kp H l= .unused↔H l= .unused:=by
 unfold eg;cases h:H l with
 |live r'=>
  by_cases hk:kp l
  ·simp[hk]
  simp[hk]
 |unused=>simp
 |dead=>simp
section
variable {K:Kx} {β:Lb→Option Nat} {env:Env} {H:Hp} {a:Act} {w:World}
def aH.eg (hr:aH K β env H a w) (kp:Lb→Prop):aH K β env (Am.eg kp H) a w:=by
 have:=hr.vk id (env2:=env) (H2:=Am.eg kp H) (fun n=> .inr (qc _).symm) (fun l r h=>by rw[qd];exact(dH.1 h).1) (fun _ _ _ _ h=>h)
  (fun n l hl=>by rw[Ne,N9];exact hr.eI n l hl) (fun l r h cs bV q hq=>by rw[Ne,N9];exact hr.cH l r (dH.1 h).1 cs bV q hq)
  (fun l hl=>⟨by rw[Ne,N9];exact(hr.gA l hl).1,fun _=>rfl⟩) (fun _ _ h=>h)
 exact this
def xS {K:Kx} {β:Lb→Option Nat} {H:Hp} (kp:Lb→Prop) {k:Nat} (h:Im K β H k):Im K β (Am.eg kp H) k:=
 ⟨h.1,fun l ⟨r,hl⟩=>h.2 l ⟨r,(dH.1 hl).1⟩⟩
def RV.eg {w:World} {β:Lb→Option Nat} {H:Hp} {x:AV} {v:Value} (kp:Lb→Prop) (h:RV w β H (Im K β H) x v):RV w β (Am.eg kp H) (Im K β (Am.eg kp H)) x v:=
 RV.mono x v {im:=fun k hk hs=>⟨xS kp hk,hs,rfl⟩,lb:=fun l _ ⟨r,hl⟩=>⟨⟨r,(dH.1 hl).1⟩,rfl,fun _ _ _ h=>h⟩} h
end
def ey.cX {P:Program} {G:Nat→Option (List IV)} {f:Nat} {args:List AV} {H:Hp} {Q:AV→Hp→Prop} (h:ey P G f args H Q) (kp:Lb→Prop) :
  ey P G f args H fun x H'=>∃H1,Q x H1∧H'=eg kp H1:=by
 intro w A β vs hr hv;refine(h w A β vs hr hv).mono ?_;rintro e w' ⟨v,x,H1,β',rfl,hq,lz,hx,hm⟩;exact⟨v,x,eg kp H1,β',rfl,⟨H1,hq,rfl⟩,lz.eg kp,hx.eg kp,fun l hl=>by rw[Ne,N9];exact hm l hl⟩
def Oj (cs:List AV):Hp:=bD Hp.none (.par 0) (.live ⟨cs.length,[cs]⟩)
def cR (P:Program) (G:Nat→Option (List IV)) (f:Nat) (args:List AV) (cs:List AV) (R:AV→List AV→Prop):Prop:=
 (∀l∈ah args,l= .par 0)∧ah cs=[]∧ey P G f args (Oj cs) fun x H'=>∃dF,R x dF∧x.an=[]∧ah dF=[]∧dF.length=cs.length∧H' (.par 0)= .live ⟨cs.length,[dF]⟩
def ft (l:Lb):Lb→Lb:=fun q=>if q= .par 0 then l else q
def PL {p:Prop} (h:p:=by simp[bu,bJ,ft]):p:=h
def bj {S:St} {f:Nat} {args U6:List AV} {cs:List AV} {R:AV→List AV→Prop} {H:Hp} {k:AV→Hp→Prop} {u:Tw k} {l:Lb} (h:cR S.P S.G f U6 cs R)
  (ha:args=bu (ft l) U6) (hl:H l= .live ⟨cs.length,[cs]⟩) (hk:∀x dF,R x dF→x.an=[]→ah dF=[]→dF.length=cs.length→k x (bD H l (.live ⟨cs.length,[dF]⟩))):C7 S f args H k u:=by
 obtain⟨h1,h2,h3⟩:=h;have aK:∀q r,Oj cs q= .live r→q= .par 0∧r=⟨cs.length,[cs]⟩:=by
  intro q r h;by_cases e:q= .par 0
  ·subst e;simp[Oj] at h;exact⟨rfl,h.symm⟩
  rw[Oj,aq _ _ e] at h;simp[Hp.none] at h
 refine .inr<| .inr ⟨⟨ft l,Oj cs,U6,_,h3.cX (fun q=>q= .par 0),ha,?_,?_,?_,?_,?_,?_,?_⟩⟩
 ·intro q r h;obtain⟨rfl,rfl⟩:=aK q r h;simp only[ft,ku,hl,Slot.live.injEq,dO,Row.mk.injEq,o2,D7,tk,yn,Oc];exact(fZ _ _ h2).symm
 ·intro q hq;by_cases e:q= .par 0
  ·subst e;exact⟨_,by simp[Oj];rfl⟩
  rw[Oj,aq _ _ e] at hq;simp[Hp.none] at hq
 ·rintro q q' ⟨r,h⟩ ⟨r',h'⟩ _;rw[(aK q r h).1,(aK q' r' h').1]
 ·intro q hq;rw[h1 q hq];simp[Oj]
 ·rintro q ⟨r,h⟩;rw[(aK q r h).1];rfl
 ·intro q r h c hc z hz;obtain⟨rfl,rfl⟩:=aK q r h;simp only[bY] at hc;subst hc;rw[h2] at hz;simp at hz
 rintro x H' ⟨H1,⟨dF,e1,e2,e3,e4,e5⟩,rfl⟩;have hH:∀q r,eg (fun q=>q= .par 0) H1 q= .live r→q= .par 0∧r=⟨cs.length,[dF]⟩:=by
  intro q r h;obtain⟨g1,rfl⟩:=dH.1 h;rw[e5] at g1;cases g1;exact⟨rfl,rfl⟩
 have EY:eg (fun q=>q= .par 0) H1 (.par 0)= .live ⟨cs.length,[dF]⟩:=dH.2 ⟨e5,rfl⟩;refine⟨ft l,bD H l (.live ⟨cs.length,[dF]⟩),fun _ _ _=>rfl,?_,?_,?_,?_,?_,?_,?_,?_⟩
 ·intro q r h;by_cases e:q=l
  ·subst e;simp at h;refine .inr ⟨.par 0,_,EY,by simp[ft],?_⟩;rw[←h];simp only[dO,Row.mk.injEq,o2,D7,tk,yn,Oc];exact(fZ _ _ e3).symm
  rw[aq _ _ e] at h;refine .inl ⟨h,?_⟩;rintro z ⟨r',hz⟩;rw[(aK z r' hz).1];simp only[ft,ku];exact yd e
 ·rintro q q' ⟨r,h⟩ ⟨r',h'⟩ _;rw[(hH q r h).1,(hH q' r' h').1]
 ·intro q hq;by_cases e:q=l
  ·subst e;simp
  rw[aq _ _ e];exact hq
 ·intro q hq;rw[e2] at hq;simp at hq
 ·intro q r h c hc z hz;obtain⟨rfl,rfl⟩:=hH q r h;simp only[bY] at hc;subst hc;rw[e3] at hz;simp at hz
 ·rintro q ⟨r,h⟩;obtain⟨rfl,rfl⟩:=hH q r h;exact .inl ⟨_,by simp[Oj];rfl⟩
 ·rintro q (hq|⟨l1,r1,c,g1,g2,g3⟩) _
  ·rw[e2] at hq;simp at hq
  obtain⟨rfl,rfl⟩:=hH l1 r1 g1;simp only[bY] at g2;subst g2;rw[e3] at g3;simp at g3
 rw[j8 _ _ e2];exact hk x dF e1 e2 e3 e4
def dw {P:Program} {G:Nat→Option (List IV)} {f:Nat} {n:Nat} {rs:List RO} {ac:AC} {args cs:List AV} {R:AV→List AV→Prop}
  (hF:aw P G f=some (n,rs,ac.bare)) (hn:args.length≤n) (ha:∀l∈ah args,l= .par 0) (hc:ah cs=[])
  (hg:go ⟨P,G,n⟩ (fX rs fun x H'=>∃dF,R x dF∧x.an=[]∧ah dF=[]∧dF.length=cs.length∧H' (.par 0)= .live ⟨cs.length,[dF]⟩) [.code ac] (jP args) (Oj cs)):cR P G f args cs R:=by
 refine⟨ha,hc,WY hF hn ?_ ?_ hg⟩
 ·rintro l ⟨r,h⟩;by_cases e:l= .par 0
  ·subst e;rfl
  rw[Oj,aq _ _ e] at h;simp[Hp.none] at h
 intro l hl;rw[ha l hl];simp[Oj]
def cR.mono {P:Program} {G:Nat→Option (List IV)} {f:Nat} {args cs:List AV} {R R':AV→List AV→Prop} (h:cR P G f args cs R) (hq:∀x c,R x c→R' x c):cR P G f args cs R':=
 ⟨h.1,h.2.1,h.2.2.mono fun x H ⟨c,h1,h2⟩=>⟨c,hq _ _ h1,h2⟩⟩
end Go.Am

namespace Go.Am
open Go Go.RowKit
mutual
def norm:AV→AV
 | .nil0=> .list []
 | .agg cs=> .agg (fi cs)
 | .gf cs=> .gf (fi cs)
 |x=>x
def fi:List AV→List AV
 |[]=>[]
 |x::r=>norm x::fi r
end
mutual
theorem nV:∀x:AV,(norm x).an=x.an
 | .nil0=>rfl
 | .agg cs=>by simp[norm,AV.an,km cs]
 | .gf cs=>by simp[norm,AV.an,km cs]
 | .sl ..| .slk ..| .ptr ..| .any| .un| .bool _| .int ..| .str _| .list _| .jK| .iT| .lptr _| .fn ..| .ifc ..| .mis _=>rfl
theorem km:∀xs:List AV,ah (fi xs)=ah xs
 |[]=>rfl
 |x::r=>by simp[fi,ah,nV x,km r]
end
mutual
theorem RV.norm {w:World} {β:Lb→Option Nat} {H:Hp} {I:Nat→Prop}:∀(x:AV) (v:Value),RV w β H I x v→RV w β H I (Am.norm x) v
 | .nil0,v,h=>by
  simp only[RV] at h;obtain⟨a,rfl⟩:=h;simp only[Am.norm,RV,NN];exact⟨a,0,rfl,eM _,by simp[maxLen],.inl rfl⟩
 | .agg cs,v,h=>by
  simp only[RV,Am.norm] at h ⊢;obtain⟨vs,h1,h2⟩:=h;exact⟨vs,h1,br.norm cs vs h2⟩
 | .gf cs,v,h=>by
  simp only[RV,Am.norm] at h ⊢;obtain⟨vs,h1,h2⟩:=h;exact⟨vs,h1,br.norm cs vs h2⟩
 | .sl ..,v,h| .slk ..,v,h| .ptr ..,v,h| .any,v,h| .un,v,h| .bool _,v,h| .int ..,v,h| .str _,v,h| .list _,v,h| .jK,v,h| .iT,v,h| .lptr _,v,h| .fn ..,v,h| .ifc ..,v,h| .mis _,v,h=>h
theorem br.norm {w:World} {β:Lb→Option Nat} {H:Hp} {I:Nat→Prop}:∀(xs:List AV) (vs:List Value),br w β H I xs vs→br w β H I (fi xs) vs
 |[],vs,h=>h
 |x::r,vs,h=>by
  simp only[br,fi] at h ⊢;obtain⟨v,us,h1,h2,h3⟩:=h;exact⟨v,us,h1,RV.norm x v h2,br.norm r us h3⟩
end
def ey.n {P:Program} {G:Nat→Option (List IV)} {f:Nat} {args:List AV} {H:Hp} {Q:AV→Hp→Prop} (h:ey P G f (fi args) H Q):ey P G f args H Q:=
 fun w A β vs hr hv=>h w A β vs hr (br.norm _ _ hv)
def ey.res {P:Program} {G:Nat→Option (List IV)} {f:Nat} {args:List AV} {H:Hp} {Q:AV→Hp→Prop} (h:ey P G f args H Q):ey P G f args H fun x H'=>∃y,Q y H'∧x=norm y:=by
 intro w A β vs hr hv;refine(h w A β vs hr hv).mono ?_;rintro e w' ⟨v,x,H',β',rfl,h1,h2,h3,h4⟩;exact⟨v,norm x,H',β',rfl,⟨x,h1,rfl⟩,h2,RV.norm _ _ h3,by rw[nV];exact h4⟩
def au.n {P:Program} {G:Nat→Option (List IV)} {f:Nat} {args:List AV} {res:AV} (h:au P G f (fi args) res):au P G f args res:=
 ⟨by have:=h.1;rwa[km] at this,h.2.1,h.2.2.n⟩
def au.of {P:Program} {G:Nat→Option (List IV)} {f:Nat} {args Ca:List AV} {res:AV} (h:au P G f Ca res) (e:fi args=Ca):au P G f args res:=au.n (by rw[e];exact h)
def Ws {P:Program} {G:Nat→Option (List IV)} {f:Nat} {n:Nat} {rs:List RO} {ac:AC} {args:List AV} {res:AV}
  (hF:aw P G f=some (n,rs,ac.bare)) (hn:args.length≤n) (hl:ah args=[]) (II:res.an=[])
  (hg:go ⟨P,G,n⟩ (fX rs fun x _=>norm x=res) [.code ac] (jP args) Hp.none):au P G f args res:=
 ⟨hl,II,((WY hF hn (fun l ⟨r,h⟩=>by simp[Hp.none] at h) (by simp[hl]) hg).res).mono fun x H ⟨y,h1,h2⟩=>by rw[h2];exact h1⟩
def xT (xs:List IV) (i:Nat):(aB xs)[i]?=xs[i]?.map fun y=>y.cells.map IV.dQ:=Qt
def lQ (xs:List IV):(aB xs).length=xs.length:=Qt
def xU (xs:List IV) (i:Nat) (y:IV):(aB xs).set i (y.cells.map IV.dQ)=aB (xs.set i y):=by simp[aB,Nh]
def lR (xs ys:List IV):aB (xs++ys)=aB xs++aB ys:=Qt
def Gi {σ:Type} (d sz:Nat) (ps:σ→List (Nat×AV)) (xs:σ→List IV) (env:Env) (H:Hp) (s:σ) :
 WR d sz ps xs env H s=(NF H∧sv env (ps s)∧∃n els,env d= .sl (.loc n) sz 0 (xs s).length∧H (.loc n)= .live ⟨sz,els⟩∧els=aB (xs s)):=rfl
def ux {sz b d n:Nat} {l:Lb} {els:List (List AV)} {x:IV} {H:Hp} (hl:H l= .live ⟨sz,els⟩) (hn:els.length=n) (he:x.cells.length=sz) (hf:∀z∈x.cells,∀cs,z≠ .agg cs) (hb:(n+1)*b≤140737488355328) (h0:0<b)
  (hd:l≠l.app d) (hu:H (l.app d)= .unused) :
  jN sz b d (.sl l sz 0 n) (.list [x]) H=some (.sl (l.app d) sz 0 (n+1),bD (bD H l .dead) (l.app d) (.live ⟨sz,els++aB [x]⟩)):=by
 have:=s_ (xs:=[x]) hl (N_ hn.symm) (by intro y hy;simp only[bY] at hy;subst hy;exact he) (by intro y hy;simp only[bY] at hy;subst hy;exact hf) (by simpa using hb) h0 hd hu;rw[this];simp only[gL,yg,bM,di,eS,tk];rw[eN (N_ hn)]
def qg (sz b d k:Nat) (xs:List IV) (x:IV) {n:Nat} {H:Hp} (hl:H (.loc k)= .live ⟨sz,aB xs⟩) (hn:xs.length=n) (he:x.cells.length=sz) (hf:∀z∈x.cells,∀cs,z≠ .agg cs) (hb:(n+1)*b≤140737488355328) (h0:0<b)
  (hd:k≠d) (hu:H (.loc d)= .unused) :
  jN sz b d (.sl (.loc k) sz 0 n) (.list [x]) H=some (.sl (.loc d) sz 0 (n+1),bD (bD H (.loc k) .dead) (.loc d) (.live ⟨sz,aB (xs++[x])⟩)):=by
 have e:(Lb.loc k).app d= .loc d:=rfl;have:=ux (l:= .loc k) (d:=d) hl (by rw[lQ];exact hn) he hf hb h0 (by rw[e];simpa using hd) (by rw[e];exact hu);rw[e] at this;rw[this,lR]

def Cb (H:Hp):List (Lb×Row)→Prop
 |[]=>True
 |(l,r)::t=>H l= .live r∧Cb H t
theorem Cb.rw {H:Hp}:∀{rs:List (Lb×Row)},Cb H rs→tc (dn []) H rs
 |[],_=>trivial
 |(l,r)::t,h=>⟨by show H l= .live (dO id r);rw[qd];exact h.1,Cb.rw h.2⟩
def WS {σ:Type} (ls:List Lb) (ps:σ→List (Nat×AV)) (rs:σ→List (Lb×Row)) (env:Env) (H:Hp) (s:σ):Prop:=DK H ls∧sv env (ps s)∧Cb H (rs s)
def ca {σ:Type} {S:St} {Q:gI} {c:AC} {k:List It} {env:Env} {H:Hp} (ls:List Lb) (ps:σ→List (Nat×AV)) (rs:σ→List (Lb×Row)) (μ:σ→Nat) (s0:σ)
  (lr:∀s,(rs s).map Prod.fst=ls) (F2:ls.Nodup) (hp:∀s,∀l∈ah ((ps s).map Prod.snd),l∈ls) (hr:∀s,∀q∈rs s,∀cs∈q.2.els,∀l∈ah cs,l∈ls) (h0:WS ls ps rs env H s0)
  (round:∀s,go S (kM S Q k (WS ls ps rs) μ (μ s)) [.code c] (o9 (ps s)) (kl (rs s))):lI S Q c k env H:=by
 refine j7 (fun s=>o9 (ps s)) (fun s=>kl (rs s)) (WS ls ps rs) ?_ μ s0 h0 round;rintro env H s ⟨h1,h2,h3⟩;refine⟨dn [],IU.wk (m:=[]) ⟨h1,h2.eql,Cb.rw h3,?_,fun l _=>⟨id,fun _=>rfl⟩⟩ (lr s) (hp s) (hr s)⟩;have:dn []=id:=rfl;rw[this,List.map_id];exact F2
def eL {σ:Type} {ls:List Lb} {ps:σ→List (Nat×AV)} {rs:σ→List (Lb×Row)} {env:Env} {H:Hp} {s:σ} (h1:DK H ls) (h2:sv env (ps s)) (h3:Cb H (rs s)):WS ls ps rs env H s:=⟨h1,h2,h3⟩
def cF:kl []=Hp.none:=rfl
def bW (l:Lb) (r:Row) (t:List (Lb×Row)):kl ((l,r)::t)=bD (kl t) l (.live r):=rfl
end Go.Am
