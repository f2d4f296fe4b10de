import Derived.Test.YtfinkeaikbmpgaaGreatDoorKAm15
import Derived.WalkKit
import Derived.ProofKit
import Derived.OpenShut
import Derived.Carry
import Derived.JoinedCond
import Derived.Deep.LoopGhost
set_option linter.unusedSimpArgs false
set_option linter.unusedVariables false
set_option linter.unnecessarySimpa false
set_option linter.defProp false
/- THE ABSTRACT MACHINE, part 25: what a reading of plain data gives. -/
namespace Go.Am
open Go Go.RowKit
inductive Sh (P:Program):TypeId→IV→Prop
 |b {t:TypeId} {x:Bool}:P.underlying t=some .bool→Sh P t (.bool x)
 |i {t:TypeId} {k:IntKind} {n:Int}:P.underlying t=some (.int k)→(Lit.int k n).wf=true→Sh P t (.int k n)
 |s {t:TypeId} {x:List UInt8}:P.underlying t=some .string→Sh P t (.str x)
 |l {t e:TypeId} {ys:List IV}:P.underlying t=some (.slice e)→(∀y∈ys,Sh P e y)→Sh P t (.list ys)
 |g {t:TypeId} {fs:Array Field} {ys:List IV}:P.underlying t=some (.struct fs)→ys.length=fs.size→(∀(j:Nat) (f:Field) (y:IV),fs[j]?=some f→ys[j]?=some y→Sh P f.type y)→Sh P t (.agg ys)
mutual
def IV.wt:IV→Nat
 | .bool _=>1
 | .int _ _=>1
 | .str s=>s.length+1
 | .list xs=>jE xs+1
 | .agg cs=>jE cs+1
 | .ifc _=>1
def jE:List IV→Nat
 |[]=>0
 |x::r=>x.wt+jE r
end
def yi (P:Program) (t:TypeId):Bool:=
 match P.underlying t with
 |some .bool|some (.int _)|some .string|some (.slice _)=>true
 |_=>false
def DR (P:Program) (T:List TypeId) (t:TypeId):Bool:=
 match P.underlying t with
 |some .bool|some (.int _)|some .string=>true
 |some (.slice e)=>T.contains e&&decide (0<P.cellsOf e)
 |some (.struct fs)=>decide (P.cellsOf t=fs.size)&&(List.range fs.size).all fun j=>match fs[j]? with
  |some f=>T.contains f.type&&yi P f.type&&decide (f.offset=j)&&decide (P.cellsOf f.type=1)
  |none=>false
 |_=>false
section
variable {H:Type} {enc:TypeId×Value→H} {P:Program} {w:World} {base:Nat} {spare:Nat→Bool} {held:Bool}
theorem lS {α β:Type} {f:α→Option β}:∀{l:List α} {r:List β},l.mapM f=some r→r.length=l.length∧∀(i:Nat) (x:α),l[i]?=some x→∃y,r[i]?=some y∧f x=some y
 |[],r,h=>by
  simp at h;subst h;exact⟨rfl,by simp⟩
 |a::l,r,h=>by
  rw[List.mapM_cons] at h;obtain⟨y,h1,h⟩:=Option.bind_eq_some_iff.1 h;obtain⟨s,h2,h⟩:=Option.bind_eq_some_iff.1 h;simp only[Option.pure_def,Option.some.injEq] at h;subst h;obtain⟨e1,e2⟩:=lS h2;refine⟨by simp[e1],fun i x hx=> ?_⟩;cases i with
  |zero=>simp at hx;subst hx;exact⟨y,by simp,h1⟩
  |succ i=>obtain⟨z,q1,q2⟩:=e2 i x (by simpa using hx);exact⟨z,by simpa using q1,q2⟩
theorem wo {a:Addr} {n:Nat} {cs:List Value} (h:w.cells? base a n=some cs):cs.length=n∧∀i,i<n→∃v,cs[i]?=some v∧w.cell? (a.add i)=some v:=by
 unfold World.cells? at h;split at h
 ·obtain⟨h1,h2⟩:=lS h;refine⟨by simpa using h1,fun i hi=> ?_⟩;obtain⟨v,e1,e2⟩:=h2 i i (by simp[hi]);exact⟨v,e1,e2⟩
 ·simp at h
theorem wq {a:Addr} {v:Value} (h:w.cell? a=some v):a.spot=none∧a.block<w.heap.size:=by
 unfold World.cell? at h;split at h
 ·rename_i c t f e;split at h
  ·simp at h
  ·rename_i hs;exact⟨by simpa using hs,(Array.getElem?_eq_some_iff.1 e).1⟩
 ·simp at h
structure Bk (H:Type) where
 bk:DataW H→Nat
 one:∀d,1≤bk d
 str:∀l,bk (.lit (.string l))=l.length+1
 sl:∀es sp,(es.map bk).sum+1≤bk (.slice es sp)
 ag:∀ps,(ps.map bk).sum+1≤bk (.agg ps)
theorem build {Q:Nat→IV→Prop}:∀(n:Nat),(∀i,i<n→∃y,Q i y)→∃ys:List IV,ys.length=n∧∀i y,ys[i]?=some y→Q i y
 |0,_=>⟨[],rfl,by simp⟩
 |n+1,h=>by
   obtain⟨ys,h1,h2⟩:=build n (fun i hi=>h i (by omega))
   obtain⟨y,hy⟩:=h n (by omega)
   refine⟨ys++[y],by simp[h1],fun i z hz=> ?_⟩
   by_cases hi:i<n
   · rw[List.getElem?_append_left (by omega)] at hz;exact h2 i z hz
   · have:i=n:=by
       have:=(List.getElem?_eq_some_iff.1 hz).1
       simp at this;omega
     subst this
     rw[List.getElem?_append_right (by omega),h1] at hz
     simp at hz;subst hz;exact hy
theorem tJ {α:Type} {g:α→Nat}:∀(ys:List IV) (xs:List α),ys.length=xs.length→(∀(i:Nat) (y:IV) (x:α),ys[i]?=some y→xs[i]?=some x→y.wt≤g x)→jE ys≤(xs.map g).sum
 |[],[],_,_=>by simp[jE]
 |y::ys,[],h,_=>by simp at h
 |[],x::xs,h,_=>by simp at h
 |y::ys,x::xs,h,hw=>by
  have h1:=hw 0 y x (by simp) (by simp);have h2:=tJ ys xs (by simpa using h) (fun i y x hy hx=>hw (i+1) y x (by simpa using hy) (by simpa using hx));simp only[jE,List.map_cons,List.sum_cons];omega
theorem read (B : Bk H) {T : List TypeId} (hT : ∀ t ∈ T,DR P T t = true) : ∀ (fuel : Nat) (t : TypeId) (cs : List Value) (d : DataW H) (ps : List MemPlace),t ∈ T → DataW.trod enc P w base spare held fuel t cs = some (d,ps) →
   ∃y:IV,Sh P t y∧y.wt≤B.bk d∧y.cells.length=cs.length∧∀(j:Nat) (z:IV),y.cells[j]?=some z→∃v,cs[j]?=some v∧eT w (fun _=>True) z v:=by
 intro fuel
 induction fuel with
 |zero=>intro t cs d ps _ h;simp[DataW.trod] at h
 |succ fuel ih=>
   intro t cs d ps ht h
   have kU:=hT t ht
   unfold DR at kU
   unfold DataW.trod at h
   cases hu:P.underlying t with
   |none=>rw[hu] at kU;simp at kU
   |some u=>
     rw[hu] at kU h
     cases u with
     |bool=>
       simp only at h
       split at h<;>simp_all
       rename_i b
       obtain⟨rfl,rfl⟩:=h
       exact⟨.bool b,.b hu,by simpa[IV.wt] using B.one _,by simp[IV.cells],fun j z hz=>by
         cases j<;>simp[IV.cells] at hz
         subst hz;simp[eT]⟩
     |int k=>
       simp only at h
       split at h<;>simp_all
       rename_i n _
       obtain⟨⟨rfl,hw⟩,rfl,rfl⟩:=h
       exact⟨.int _ n,.i hu hw,by simpa[IV.wt] using B.one _,by simp[IV.cells],fun j z hz=>by
         cases j<;>simp[IV.cells] at hz
         subst hz;simp[eT]⟩
     |string=>
       simp only at h
       split at h<;>simp_all
       rename_i x
       obtain⟨hw,rfl,rfl⟩:=h
       exact⟨.str x.data.toList,.s hu,by rw[B.str];simp[IV.wt],by simp[IV.cells],fun j z hz=>by
         cases j<;>simp[IV.cells] at hz
         subst hz;simp[eT]⟩
     |slice e=>
       simp only[Bool.and_eq_true,decide_eq_true_eq,List.contains_eq_mem] at kU
       obtain⟨xP,xS⟩:=kU
       have F_:e∈T:=by simpa using xP
       simp only at h
       split at h<;>simp_all
       · obtain⟨rfl,rfl⟩:=h
         exact⟨.list [],.l hu (by simp),by simpa[IV.wt,jE] using B.one _,by simp[IV.cells],fun j z hz=>by
           cases j<;>simp[IV.cells] at hz
           subst hz
           simp only[eT]
           exact⟨_,rfl,none,0,rfl,Nat.le_refl _,by simp[maxLen],.inl rfl⟩⟩
       · rename_i _ _ e' a len cap _
         obtain⟨⟨hb,HR,rb⟩,h⟩:=h
         obtain⟨elems,he,h⟩:=Option.bind_eq_some_iff.1 h
         obtain⟨rest,hr,h⟩:=Option.map_eq_some_iff.1 h
         simp only[Prod.mk.injEq] at h
         obtain⟨rfl,rfl⟩:=h
         obtain⟨hlen,jz⟩:=lS he
         have Ga:elems.length=len:=by simpa using hlen
         have dN:∀i,i<len→∃y:IV,Sh P e' y∧(∀x,elems[i]?=some x→y.wt≤B.bk x.1)∧y.cells.length=P.cellsOf e' ∧
             ∀(j:Nat) (z:IV),y.cells[j]?=some z→∃v,w.cell? ((a.add (i*P.cellsOf e')).add j)=some v∧eT w (fun _=>True) z v:=by
           intro i hi
           obtain⟨x,e1,e2⟩:=jz i i (by simp[hi])
           obtain⟨cs,c1,c2⟩:=Option.bind_eq_some_iff.1 e2
           obtain⟨cl,cg⟩:=wo c1
           obtain⟨y,y1,y2,y3,y4⟩:=ih e' cs x.1 x.2 F_ c2
           refine⟨y,y1,fun x' Gb=>by rw[e1] at Gb;cases Gb;exact y2,by rw[y3,cl],fun j z hz=> ?_⟩
           obtain⟨v,v1,v2⟩:=y4 j z hz
           have hj:j<P.cellsOf e':=by
             have:=(List.getElem?_eq_some_iff.1 hz).1;omega
           obtain⟨v',u1,u2⟩:=cg j hj
           rw[v1] at u1;cases u1
           exact⟨v,u2,v2⟩
         obtain⟨ys,s7,Cs⟩:=build len dN
         refine⟨.list ys,.l hu (fun y hy=> ?_),?_,by simp[IV.cells],fun j z hz=> ?_⟩
         · obtain⟨i,hi⟩:=List.getElem?_of_mem hy
           exact(Cs i y hi).1
         · have h1:=tJ (g:=fun x:DataW H×List MemPlace=>B.bk x.1) ys elems (by omega) (fun i y x hy hx=>(Cs i y hy).2.1 x hx)
           have h2:=B.sl (elems.map fun x=>x.1) (rest.map fun x=>x.1)
           simp only[List.map_map] at h2
           simp only[IV.wt]
           exact Nat.le_trans (Nat.add_le_add_right h1 1) h2
         · cases j with
           |succ j=>simp[IV.cells] at hz
           |zero=>
             simp[IV.cells] at hz
             subst hz
             refine⟨_,rfl,?_⟩
             simp only[eT]
             refine⟨some a,cap,by rw[s7],by omega,rb,?_⟩
             by_cases EW:len=0
             · exact .inl (by omega)
             · right
               have xe:∀i j,i<len→j<P.cellsOf e'→∃v,w.cell? ((a.add (i*P.cellsOf e')).add j)=some v:=by
                 intro i j hi hj
                 obtain⟨y,hy⟩:∃y,ys[i]?=some y:=⟨_,List.getElem?_eq_getElem (by omega)⟩
                 obtain⟨_,_,q3,q4⟩:=Cs i y hy
                 obtain⟨v,v1,_⟩:=q4 j _ (List.getElem?_eq_getElem (by omega))
                 exact⟨v,v1⟩
               obtain⟨v0,Iu⟩:=xe 0 0 (by omega) xS
               obtain⟨s1,s2⟩:=wq Iu
               obtain⟨ab,ao,LX⟩:=a
               simp only[Addr.add,Nat.zero_mul,if_true] at s1 s2
               subst s1
               refine⟨ab,ao,P.cellsOf e',rfl,trivial,s2,xS,jc _ _ _ (fun k y hy=> ?_)⟩
               obtain⟨_,_,q3,q4⟩:=Cs k y hy
               rw[fB]
               refine⟨q3.symm,jb _ _ _ (fun j z hz=> ?_)⟩
               obtain⟨v,v1,v2⟩:=q4 j z hz
               rw[addr_add,addr_add] at v1
               exact⟨v,v1,v2⟩
     |struct fs=>
       simp only[Bool.and_eq_true,decide_eq_true_eq] at kU
       simp only at h
       obtain⟨iO,kU⟩:=kU
       rw[List.all_eq_true] at kU
       split at h
       · rename_i qo
         obtain⟨xs,hx,h⟩:=Option.map_eq_some_iff.1 h
         simp only[Prod.mk.injEq] at h
         obtain⟨rfl,rfl⟩:=h
         obtain⟨hlen,jz⟩:=lS hx
         have Ga:xs.length=fs.size:=by simpa using hlen
         have dN:∀i,i<fs.size→∃y:IV,(∀f,fs[i]?=some f→Sh P f.type y)∧(∀x,xs[i]?=some x→y.wt≤B.bk x.1)∧∃v,cs[i]?=some v∧eT w (fun _=>True) y v:=by
           intro i hi
           have hf:=kU i (by simpa using hi)
           obtain⟨f,ve⟩:∃f,fs[i]?=some f:=⟨_,Array.getElem?_eq_getElem hi⟩
           rw[ve] at hf
           simp only[Bool.and_eq_true,decide_eq_true_eq,List.contains_eq_mem] at hf
           obtain⟨⟨⟨f1,f2⟩,f3⟩,f4⟩:=hf
           obtain⟨x,e1,e2⟩:=jz i f (by simpa using ve)
           rw[f3,f4] at e2
           obtain⟨y,y1,y2,y3,y4⟩:=ih f.type _ x.1 x.2 (by simpa using f1) e2
           have fm:y.cells=[y]:=by
             cases y1 with
             |g Gc _ _=>unfold yi at f2;rw[Gc] at f2;simp at f2
             |_=>rfl
           refine⟨y,fun f' zT=>by rw[ve] at zT;cases zT;exact y1,fun x' Gb=>by rw[e1] at Gb;cases Gb;exact y2,?_⟩
           obtain⟨v,v1,v2⟩:=y4 0 y (by rw[fm];rfl)
           refine⟨v,?_,v2⟩
           rw[List.getElem?_take] at v1
           split at v1
           · rw[List.getElem?_drop] at v1;simpa using v1
           · simp at v1
         obtain⟨ys,s7,Cs⟩:=build fs.size dN
         refine⟨.agg ys,.g hu s7 (fun j f y hf hy=>(Cs j y hy).1 f hf),?_,by simp only[IV.cells];omega,fun j z hz=>(Cs j z hz).2.2⟩
         have h1:=tJ (g:=fun x:DataW H×List MemPlace=>B.bk x.1) ys xs (by omega) (fun i y x hy hx=>(Cs i y hy).2.1 x hx)
         have h2:=B.ag (xs.map fun x=>x.1)
         simp only[List.map_map] at h2
         simp only[IV.wt]
         exact Nat.le_trans (Nat.add_le_add_right h1 1) h2
       · simp at h
     |_=>simp at kU
end
end Go.Am

/- THE ABSTRACT MACHINE, part 26: how a law's contract closes its row. -/
namespace Go.Am
open Go Go.RowKit Go.ChangeShapes
def Ho:Nat→Option (List IV):=fun _=>none
def il:Lb→Option Nat:=fun _=>none
theorem yj (P:Program) (W:World):aM (cV P Ho W (fun _=>True) il Hp.none) il Env.any Hp.none mW W:=
 { defers := rfl,size := rfl
   gg:=fun n=>by simp[Env.any,RV]
   rows:=fun l r h=>by simp[Hp.none] at h
   own:=fun l g ⟨r,h⟩=>by simp[Hp.none] at h
   inj:=fun l l' g ⟨r,h⟩=>by simp[Hp.none] at h
   eB:=fun n=>by simp[Env.any,AV.ar]
   cB:=fun l r h=>by simp[Hp.none] at h
   frame:=⟨rfl,rfl,rfl,Nat.le_refl _,fun _ _ _=>rfl,fun _ _ h=>h⟩
   fX:=fun l ⟨r,h⟩=>by simp[cV,Hp.none] at h
   fr:=fun l g ⟨r,h⟩=>by simp[Hp.none] at h
   fI:=fun g cs hg=>by simp[cV,Ho] at hg}
theorem run_pure {P:Program} {f:Nat} {args:List AV} {res:AV} {vs:List Value} {W:World} (hp:ai P Ho f args res) (hv:bo W il Hp.none (fun _=>True) args vs) :
  Calls P f vs.toArray W fun e W'=>∃v,e= .returned v∧Below W.heap.size W W'∧RV W' il Hp.none (fun _=>True) res v:=by
 have hI:∀k,Im (cV P Ho W (fun _=>True) il Hp.none) il Hp.none k:=fun k=>⟨.inl trivial,fun l ⟨r,h⟩=>by simp[Hp.none] at h⟩
 refine(mA (yj P W) hp (bo.mono _ _ ?_ hv) trivial).mono ?_
 ·exact {im:=fun k _ hs=>⟨hI k,hs,rfl⟩,lb:=fun l _ ⟨r,h⟩=>by simp[Hp.none] at h}
 ·rintro e W' ⟨v,rfl,h1,h2⟩;refine⟨v,rfl,h1,RV.mono _ _ ?_ h2⟩;exact {im:=fun k _ hs=>⟨trivial,hs,rfl⟩,lb:=fun l _ ⟨r,h⟩=>by simp[Hp.none] at h}
section
variable {H:Type} {enc:TypeId×Value→H} {P:Program}
def qA (P:Program) (t:TypeId):Bool:=P.readableRec t&&decide (t<P.types.size)
theorem kV (hl:laidOutB P=true) {W W':World} (hb:Below W.heap.size W W') {sp:Nat→Bool}:∀{ts:List TypeId} {vs:List Value} {ds:List (DataW H)} {ps:List MemPlace},ts.all (qA P)=true →
  DataW.TrodAll enc P W 0 (fun _=>true) true ts vs ds ps→(∀x∈ps,x.block<W.heap.size)→(∀x∈ps,sp x.block=true)→DataW.TrodAll enc P W' 0 sp true ts vs ds ps
 |[],_,_,_,_,h,_,_=>by
  obtain⟨rfl,rfl,rfl⟩:=trodAll_nil h;rfl
 |t::ts,_,_,_,hr,h,bz,hs=>by
  obtain⟨v,LY,d,LZ,a,b,rfl,rfl,rfl,h1,h2⟩:=trodAll_cons h;simp only[List.all_cons,Bool.and_eq_true,qA,decide_eq_true_eq] at hr;refine⟨a,b,WideElems.Trod_stays hl hr.1.1 hr.1.2 h1 (fun x hx=>hb.same (bz x (by simp[hx]))) (fun x hx=>hs x (by simp[hx])),?_,rfl⟩;exact kV hl hb hr.2 h2 (fun x hx=>bz x (by simp[hx])) (fun x hx=>hs x (by simp[hx]))
theorem yk {f:Func} {s:ChangeSpec} {apart fresh handsOn again:Bool} {W W':World} {args:Array Value} {ds gs:List (DataW H)} {before:List MemPlace} {tb:TypeId} (hl:laidOutB P=true)
  (hr:f.params.toList.all (qA P)=true) (rG:f.resultTypes=#[tb]) (Hq:P.underlying tb=some .bool) (rS:s.vars=[]) (xK:s.fn H ds={results:=[.lit (.bool true)],args:=ds})
  (hW:DataW.Whole enc P f.params.toList s.vars apart W args.toList ds gs before) (hb:Below W.heap.size W W') :
  s.post enc P f apart fresh handsOn again W args (.bool true) W':=by
 have Hr:=hW;have bz:=hW.lt;obtain⟨p,q,hA,hV,rfl,hz,hn⟩:=hW;rw[rS] at hV;obtain⟨rfl,rfl⟩:=trodVars_none hV;simp only[List.append_nil] at Hr bz hz hn;have DS:s.fn H (ds++[])={results:=[.lit (.bool true)],args:=ds}:=by rw[List.append_nil];exact xK
 have u_:∀sp:Nat→Bool,(∀x∈p,sp x.block=true)→DataW.TrodAll enc P W' 0 sp true f.params.toList args.toList ds p:=fun sp hs=>kV hl hb hr hA bz hs
 have mw:∀(b:Nat) (sp:Nat→Bool) (hd:Bool),DataW.TrodAll enc P W' b sp hd f.resultTypes.toList ((Value.bool true).resultList f.resultTypes.size) [.lit (.bool true)] []:=by
  intro b sp hd;rw[rG];exact trodAll_cons_mk (shut_bool Hq _) trodAll_mk0
 have Iu:∀sp:Nat→Bool,DataW.TrodVars enc P W' sp s.vars (s.fn H (ds++[])).vars []:=by
  intro sp;rw[rS,DS];rfl
 refine⟨ds,[],p,[],p,[],Hr,by rw[DS];exact mw _ _ _,by rw[DS];exact u_ _ (fun x hx=>by simpa using bz x hx),Iu _,hb.frame _,fun _=> ?_⟩;have KH:DataW.TrodVars enc P W' (fun _=>true) s.vars [] []:=by rw[rS];rfl
 refine⟨ok_one rG rfl (okWide_bool_mk Hq _),_,_,([]++p)++[],⟨[]++p,[],trodAll_append (u_ _ (fun _ _=>rfl)) (mw _ _ _),KH,by simp,?_,?_⟩,?_⟩
 ·intro b off hp;have xr:MemPlace.cell b off∈p:=by simpa using hp
  rw[hb.frozen (p:=⟨b,off,none⟩) (bz _ xr)];exact hz b off xr
 ·intro ha;simpa using hn ha
 ·intro x hx _;simpa using hx
end
end Go.Am

/- THE ABSTRACT MACHINE, part 29: arguments that are read; a law's contract. -/
namespace Go.Am
open Go Go.RowKit Go.ChangeShapes
section
variable {H:Type} {enc:TypeId×Value→H} {P:Program}
theorem yl {W:World}:∀(ys:List IV) (cs:List Value),ys.length=cs.length→(∀z∈ys,∀q,z≠ .agg q)→(∀(j:Nat) (z:IV),ys[j]?=some z→∃v,cs[j]?=some v∧eT W (fun _=>True) z v) →
  bo W il Hp.none (fun _=>True) (ys.map IV.b7) cs
 |[],[],_,_,_=>by simp[bo]
 |[],v::cs,h,_,_=>by simp at h
 |y::ys,[],h,_,_=>by simp at h
 |y::ys,v::cs,h,hf,hg=>by
  obtain⟨v',h1,h2⟩:=hg 0 y (by simp);simp at h1;subst h1;refine⟨v,cs,rfl,?_,yl ys cs (by simpa using h) (fun z hz=>hf z (by simp[hz])) (fun j z hz=>by simpa using hg (j+1) z (by simpa using hz))⟩;cases y with
  |agg q=>exact absurd rfl (hf _ (by simp) q)
  |_=>simpa[IV.b7,RV,eT] using h2
theorem DT (B:Bk H) {T:List TypeId} (hT:∀t∈T,DR P T t=true) {W:World} {t:TypeId} (ht:t∈T) {v:Value} {d:DataW H} {ps:List MemPlace} {r:Reach}
  {b0:Nat} (od:Value.okWide P W r b0 t v) (h:DataW.Trod enc P W 0 (fun _=>true) true t v d ps) :
  ∃y:IV,Sh P t y∧y.wt≤B.bk d∧RV W il Hp.none (fun _=>True) y.av v:=by
 obtain⟨fuel,h⟩:=h;obtain⟨y,h1,h2,h3,h4⟩:=read B hT fuel t _ d ps ht h;refine⟨y,h1,h2,?_⟩
 have one:∀u:TypeDesc,P.underlying t=some u→(∀fs,u≠ .struct fs)→(∀n e,u≠ .array n e)→(∀cs,y≠ .agg cs)→RV W il Hp.none (fun _=>True) y.av v:=by
  intro u hu hs ha hy;have hc:y.cells=[y]:=by cases y<;>first|rfl|exact absurd rfl (hy _)
  have hv:v.cells=#[v]:=by
   cases v with
   |agg cs=>
    unfold Value.okWide at od;rw[hu] at od;cases u<;>simp_all[Cell.okWide,Cell.ok]
   |_=>rfl
  rw[hc,hv] at h4;obtain⟨v',e1,e2⟩:=h4 0 y rfl;simp at e1;subst e1;cases y<;>first|(simpa[IV.av,IV.b7,RV,eT] using e2)|exact absurd rfl (hy _)
 cases h1 with
 |b hu=>exact one _ hu (by simp) (by simp) (by simp)
 |i hu _=>exact one _ hu (by simp) (by simp) (by simp)
 |s hu=>exact one _ hu (by simp) (by simp) (by simp)
 |l hu _=>exact one _ hu (by simp) (by simp) (by simp)
 |@g _ fs ys hu hl hf=>
  have kU:=hT t ht;unfold DR at kU;rw[hu] at kU;simp only[Bool.and_eq_true,decide_eq_true_eq,List.all_eq_true] at kU;unfold Value.okWide at od;rw[hu] at od;obtain⟨cs,rfl,iO,_⟩:=od;simp only[IV.av,RV];refine⟨cs.toList,by simp,yl ys _ (by simpa[IV.cells,Value.cells] using h3) ?_ (fun j z hz=>by simpa[Value.cells] using h4 j z (by simpa[IV.cells] using hz))⟩;intro z hz q e
  obtain⟨j,hj⟩:=List.getElem?_of_mem hz;have re:j<fs.size:=by rw[←hl];exact(List.getElem?_eq_some_iff.1 hj).1
  obtain⟨f,JH⟩:∃f,fs[j]?=some f:=⟨_,Array.getElem?_eq_getElem re⟩;have h5:=hf j f z JH hj;have h6:=kU.2 j (by simpa using re);rw[JH] at h6;simp only[Bool.and_eq_true] at h6;have h7:=h6.1.1.2;subst e;cases h5 with
  |g Gc _ _=>unfold yi at h7;rw[Gc] at h7;simp at h7
inductive Gd (P:Program):List TypeId→List IV→Prop
 |nil:Gd P [] []
 |cons {t:TypeId} {y:IV} {ts:List TypeId} {ys:List IV}:Sh P t y→Gd P ts ys→Gd P (t::ts) (y::ys)
theorem vf (B:Bk H) {T:List TypeId} (hT:∀t∈T,DR P T t=true) {W:World} {r:Reach} {b0:Nat}:∀{ts:List TypeId} {vs:List Value} {ds:List (DataW H)} {ps:List MemPlace},(∀t∈ts,t∈T) →
  (∀(j:Nat) (t:TypeId) (v:Value),ts[j]?=some t→vs[j]?=some v→Value.okWide P W r b0 t v)→DataW.TrodAll enc P W 0 (fun _=>true) true ts vs ds ps →
  ∃ys:List IV,Gd P ts ys∧jE ys≤(ds.map B.bk).sum∧bo W il Hp.none (fun _=>True) (ys.map IV.av) vs
 |[],vs,ds,ps,_,_,h=>by
  obtain⟨rfl,rfl,rfl⟩:=trodAll_nil h;exact⟨[],.nil,by simp[jE],by simp[bo]⟩
 |t::ts,vs,ds,ps,ht,hv,h=>by
  obtain⟨v,vs,d,ds,p,q,rfl,rfl,rfl,h1,h2⟩:=trodAll_cons h;obtain⟨y,k1,k2,k3⟩:=DT B hT (ht t (by simp)) (hv 0 t v rfl rfl) h1;obtain⟨ys,q1,q2,q3⟩:=vf B hT (fun t' h'=>ht t' (by simp[h'])) (fun j t' v' a b=>hv (j+1) t' v' (by simpa using a) (by simpa using b)) h2;exact⟨y::ys,.cons k1 q1,by simp only[jE,List.map_cons,List.sum_cons];omega,by simp only[List.map_cons,bo];exact⟨v,vs,rfl,k3,q3⟩⟩
theorem nb {W:World} {b0:Nat} {sp:Nat→Bool} {hd:Bool}:∀{ts:List TypeId} {vs:List Value} {ds:List (DataW H)} {ps:List MemPlace},DataW.TrodAll enc P W b0 sp hd ts vs ds ps→ds.length=ts.length
 |[],vs,ds,ps,h=>by
  obtain⟨_,rfl,_⟩:=trodAll_nil h;rfl
 |t::ts,vs,ds,ps,h=>by
  obtain⟨v,vs,d,ds,p,q,rfl,rfl,rfl,_,h2⟩:=trodAll_cons h;simp[nb h2]
end
end Go.Am

/- THE ABSTRACT MACHINE, part 27: loops by lists of slots; forks by their sides. -/
namespace Go.Am
open Go Go.RowKit
def rk:List (Nat×AV)→Env
 |[]=>Env.any
 |(n,x)::r=>put (rk r) n x
theorem Br:rk []=Env.any:=rfl
theorem ym (n:Nat) (x:AV) (r:List (Nat×AV)):rk ((n,x)::r)=put (rk r) n x:=rfl
def iq (ρ:Lb→Lb) (env:Env):List (Nat×AV)→Prop
 |[]=>True
 |(n,x)::r=>env n=bQ ρ x∧iq ρ env r
def tK (env:Env):List (Nat×AV)→Prop
 |[]=>True
 |(n,x)::r=>env n=x∧tK env r
theorem iq.we {ρ:Lb→Lb} {env:Env}:∀{ps:List (Nat×AV)},iq ρ env ps→∀n,rk ps n= .any∨env n=bQ ρ (rk ps n)
 |[],_=>eF ρ env
 |(n,x)::r,h=>aZ h.1 (iq.we h.2)
theorem tK.eql {env:Env}:∀{ps:List (Nat×AV)},tK env ps→iq id env ps
 |[],_=>trivial
 |(n,x)::r,h=>⟨by rw[qy];exact h.1,tK.eql h.2⟩
theorem oe {H:Hp}:∀{ps:List (Nat×AV)},(∀l∈ah (ps.map Prod.snd),H l≠ .unused)→∀n,∀l∈(rk ps n).ar,H l≠ .unused
 |[],_=>eG H
 |(n,x)::r,h=>a6 (fun l hl=>h l (by simp[ah,hl])) (oe fun l hl=>h l (by simp only[List.map_cons,ah,List.mem_append];exact .inr hl))
def NF (H:Hp):Prop:=∀l:Lb,l.fresh=false→H l= .unused
theorem Bt:NF Hp.none=True:=by simp[NF,Hp.none]
theorem DU (H:Hp) (n:Nat) (s:Slot):NF (bL H (.loc n) s)=NF H:=by
 apply propext;constructor
 ·intro h l hl;have:=h l hl;have eg:l≠ .loc n:=by rintro rfl;simp[Lb.fresh] at hl
  rwa[aA _ _ eg] at this
 ·exact fJ
def lT {σ:Type} (S:St) (Q:iC) (k:List It) (W:Env→Hp→σ→Prop) (μ:σ→Nat) (n:Nat):iC:=fun e env H=>
 match e with
 | .normal=>∃s,μ s<n∧W env H s
 | .exit id=>match dS id k with
  |some k'=>go S Q k' env H
  |none=>Q (.exit id) env H
 | .ret=>Q .ret env H
 |_=>False
theorem lU {σ:Type} {S:St} {Q:iC} {c:AC} {k:List It} {env:Env} {H:Hp} (E:σ→Env) (HH:σ→Hp) (W:Env→Hp→σ→Prop) (hW:∀env H s,W env H s→∃ρ,Wk ρ env H (E s) (HH s))
  (μ:σ→Nat) (s0:σ) (h0:W env H s0) (round:∀s,go S (lT S Q k W μ (μ s)) [.code c] (E s) (HH s)):m_ S Q c k env H:=by
 intro K Hm hS c0 ck hc dN β a w hr;subst Hm;simp only[PH,Exit.then];obtain⟨ρ,h0⟩:=hW _ _ _ h0;refine wp_loop_ghost (fun n a w=>∃s β,μ s=n∧aM K β (E s) (HH s) a w) (μ s0) ⟨s0,_,rfl,h0.rel hS hr⟩ ?_;rintro n a w ⟨s,β,rfl,hr⟩;have hs:=go_sound (K:=K) hS _ (mZ [.code c]) [.code c] [.code c0] (Nat.le_refl _) (.cons (.code hc) .nil) (E s) (HH s) (round s) β a w hr;simp only[PH,Exit.then] at hs
 refine wp_mono hs ?_;rintro e a' w' ⟨env',H',β',hq,nD⟩;cases e with
 |normal=>
  obtain⟨s',bz,hw⟩:=hq;obtain⟨ρ',hw⟩:=hW _ _ _ hw;exact⟨μ s',bz,s',_,rfl,hw.rel hS nD⟩
 |exit id=>
  have hp:=jg (P:=K.P) (G:=K.G) (lift K Q) (id:=id) ck k dN;simp only[lT] at hq;show PH K.P (lift K Q) ck (.exit id) a' w';cases wg:dS id k with
  |some k'=>
   rw[wg] at hp hq;obtain⟨xg,e1,e2⟩:=hp;exact e2 a' w' (go_sound (K:=K) hS Q (mZ k') k' xg (Nat.le_refl _) e1 env' H' hq β' a' w' nD)
  |none=>
   rw[wg] at hp hq;exact hp a' w' ⟨env',H',β',hq,nD⟩
 |ret=>exact oa _ _ _ _ _ ⟨env',H',β',hq,nD⟩
 |goto l=>exact hq.elim
 |panic ch=>exact hq.elim
 |outgrown=>exact hq.elim
mutual
theorem kb (ρ:Lb→Lb):∀x:AV,x.ar=[]→bQ ρ x=x
 | .sl ..,h| .slk ..,h| .ptr ..,h=>by simp[AV.ar] at h
 | .any,_| .un,_| .bool _,_| .int ..,_| .str _,_| .list _,_| .nil0,_| .iN,_| .fy,_| .lptr _,_=>by simp[bQ]
 | .agg cs,h=>by simp only[AV.ar] at h;simp[bQ,gl ρ cs h]
 | .ei cs,h=>by simp only[AV.ar] at h;simp[bQ,gl ρ cs h]
 | .fn f fs cs,h=>by simp only[AV.ar,List.append_eq_nil_iff] at h;simp[bQ,gl ρ fs h.1,gl ρ cs h.2]
 | .ifc t x,h=>by simp only[AV.ar] at h;simp[bQ,kb ρ x h]
theorem gl (ρ:Lb→Lb):∀xs:List AV,ah xs=[]→bT ρ xs=xs
 |[],_=>by simp[bT]
 |x::r,h=>by simp only[ah,List.append_eq_nil_iff] at h;simp[bT,kb ρ x h.1,gl ρ r h.2]
end
def WD {σ:Type} (ps:σ→List (Nat×AV)) (env:Env) (H:Hp) (s:σ):Prop:=NF H∧tK env (ps s)
theorem gm {σ:Type} {S:St} {Q:iC} {c:AC} {k:List It} {env:Env} {H:Hp} (ps:σ→List (Nat×AV)) (μ:σ→Nat) (s0:σ) (hl:∀s,ah ((ps s).map Prod.snd)=[]) (h0:WD ps env H s0)
  (round:∀s,go S (lT S Q k (WD ps) μ (μ s)) [.code c] (rk (ps s)) Hp.none):m_ S Q c k env H:=
 lU (fun s=>rk (ps s)) (fun _=>Hp.none) (WD ps) (fun env H s ⟨h1,h2⟩=>⟨id,h2.eql.we,fun l r h=>by simp[Hp.none] at h,fun _ _ ⟨r,h⟩=>by simp[Hp.none] at h,oe (by rw[hl];simp),fun l r h=>by simp[Hp.none] at h,
  fun l hl=>⟨fun h=>absurd (h1 l (Lb.gD hl)) h,fun _=>rfl⟩,fun l ⟨r,h⟩=>by simp[Hp.none] at h⟩) μ s0 h0 round
def WR {σ:Type} (d sz:Nat) (ps:σ→List (Nat×AV)) (xs:σ→List IV) (env:Env) (H:Hp) (s:σ):Prop:=
 NF H∧tK env (ps s)∧∃n els,env d= .sl (.loc n) sz 0 (xs s).length∧H (.loc n)= .live ⟨sz,els⟩∧els=aG (xs s)
theorem yn {σ:Type} {S:St} {Q:iC} {c:AC} {k:List It} {env:Env} {H:Hp} (d sz:Nat) (ps:σ→List (Nat×AV)) (xs:σ→List IV) (μ:σ→Nat) (s0:σ) (hl:∀s,ah ((ps s).map Prod.snd)=[]) (h0:WR d sz ps xs env H s0)
  (round:∀s,go S (lT S Q k (WR d sz ps xs) μ (μ s)) [.code c] (rk ((d,.sl (.loc d) sz 0 (xs s).length)::ps s)) (bL Hp.none (.loc d) (.live ⟨sz,aG (xs s)⟩))):m_ S Q c k env H:=by
 refine lU (fun s=>rk ((d,.sl (.loc d) sz 0 (xs s).length)::ps s)) (fun s=>bL Hp.none (.loc d) (.live ⟨sz,aG (xs s)⟩)) (WR d sz ps xs) ?_ μ s0 h0 round;rintro env H s ⟨h1,h2,n,els,h3,h4,rfl⟩
 have key:∀{r:List (Nat×AV)},tK env r→ah (r.map Prod.snd)=[]→iq (fun _=> .loc n) env r:=by
  intro r
  induction r with
  |nil=>exact fun _ _=>trivial
  |cons p r ih=>
   obtain⟨m,x⟩:=p;intro h jY;simp only[List.map_cons,ah,List.append_eq_nil_iff] at jY;refine⟨?_,ih h.2 jY.2⟩;rw[h.1];exact(kb _ x jY.1).symm
 refine⟨fun _=> .loc n,Wk.one (iq.we (ps:=(d,.sl (.loc d) sz 0 (xs s).length)::ps s) ⟨h3,key h2 (hl s)⟩) (oe ?_) h4 rfl rfl h1⟩;simp[ah,AV.ar,hl s]
def gU:List (Lb×Row)→Hp
 |[]=>Hp.none
 |(l,r)::t=>bL (gU t) l (.live r)
def bq:List (Lb×Lb)→Lb→Lb
 |[],l=>l
 |(a,b)::t,l=>if l=a then b else bq t l
def jW (ρ:Lb→Lb) (H:Hp):List (Lb×Row)→Prop
 |[]=>True
 |(l,r)::t=>H (ρ l)= .live (bX ρ r)∧jW ρ H t
def DV (H:Hp) (ls:List Lb):Prop:=∀l:Lb,l.fresh=false→H l≠ .unused→l∈ls
theorem ji (ls:List Lb):DV Hp.none ls=True:=by simp[DV,Hp.none]
theorem kz (H:Hp) (n:Nat) (s:Slot) (ls:List Lb):DV (bL H (.loc n) s) ls=DV H ls:=by
 apply propext;constructor
 ·intro h l hl hu;have eg:l≠ .loc n:=by rintro rfl;simp[Lb.fresh] at hl
  exact h l hl (by rwa[aA _ _ eg])
 ·intro h l hl hu;have eg:l≠ .loc n:=by rintro rfl;simp[Lb.fresh] at hl
  rw[aA _ _ eg] at hu;exact h l hl hu
structure Iv (ls:List Lb) (ps:List (Nat×AV)) (rs:List (Lb×Row)) (env:Env) (H:Hp) (m:List (Lb×Lb)):Prop where
 nf:DV H ls
 e:iq (bq m) env ps
 r:jW (bq m) H rs
 inj:(ls.map (bq m)).Nodup
 fr:∀l∈ls,(l.fresh=true→(bq m l).fresh=true)∧(l.fresh=false→bq m l=l)
theorem gH {rs:List (Lb×Row)}:∀{l:Lb} {r:Row},gU rs l= .live r→(l,r)∈rs:=by
 induction rs with
 |nil=>intro l r h;simp[gU,Hp.none] at h
 |cons p t ih=>
  obtain⟨l0,r0⟩:=p;intro l r h;simp only[gU,bL] at h;split at h
  ·next e=>cases h;subst e;simp
  ·exact List.mem_cons_of_mem _ (ih h)
theorem kc {rs:List (Lb×Row)} {l:Lb} (h:l∈rs.map Prod.fst):gU rs l≠ .unused:=by
 induction rs with
 |nil=>simp at h
 |cons p t ih=>
  obtain⟨l0,r0⟩:=p;simp only[gU,bL];split
  ·simp
  ·next e=>exact ih (by simpa[e] using h)
theorem qB {ρ:Lb→Lb} {H:Hp}:∀{rs:List (Lb×Row)},jW ρ H rs→∀{l:Lb} {r:Row},(l,r)∈rs→H (ρ l)= .live (bX ρ r)
 |[],_,_,_,h=>by simp at h
 |(l0,r0)::t,h,l,r,hm=>by
  simp only[List.mem_cons,Prod.mk.injEq] at hm;rcases hm with⟨rfl,rfl⟩|hm
  ·exact h.1
  ·exact qB h.2 hm
theorem iS {α β:Type} [DecidableEq β] {f:α→β}:∀{l:List α},(l.map f).Nodup→∀a∈l,∀b∈l,f a=f b→a=b
 |[],_,_,h,_,_,_=>by simp at h
 |x::l,hd,a,ha,b,hb,e=>by
  simp only[List.map_cons,List.nodup_cons,List.mem_map,not_exists,not_and] at hd;simp only[List.mem_cons] at ha hb;rcases ha with rfl|ha<;>rcases hb with rfl|hb
  ·rfl
  ·exact absurd e.symm (hd.1 b hb)
  ·exact absurd e (hd.1 a ha)
  ·exact iS hd.2 a ha b hb e
theorem Iv.wk {ls:List Lb} {ps:List (Nat×AV)} {rs:List (Lb×Row)} {env:Env} {H:Hp} {m:List (Lb×Lb)} (h:Iv ls ps rs env H m) (pe:rs.map Prod.fst=ls) (hp:∀l∈ah (ps.map Prod.snd),l∈ls)
  (hr:∀q∈rs,∀cs∈q.2.els,∀l∈ah cs,l∈ls):Wk (bq m) env H (rk ps) (gU rs):=by
 have Bu:∀l,live (gU rs) l→l∈ls:=fun l ⟨r,h⟩=>by rw[←pe];exact List.mem_map.2 ⟨_,gH h,rfl⟩
 refine⟨h.e.we,fun l r hl=>qB h.r (gH hl),fun l l' h1 h2 e=>iS h.inj l (Bu l h1) l' (Bu l' h2) e,oe fun l hl=>kc (by rw[pe];exact hp l hl),fun l r hl cs bx q hq=> ?_,fun l hf=>⟨fun hu=> ?_,fun hl=>(h.fr l (Bu l hl)).2 (Lb.gD hf)⟩,fun l hl hf=>(h.fr l (Bu l hl)).1 hf⟩
 ·exact kc (by rw[pe];exact hr _ (gH hl) cs bx q hq)
 ·exact kc (by rw[pe];exact h.nf l (Lb.gD hf) hu)
section
variable {σ:Type} {S:St} {Q:iC} {k:List It} {W:Env→Hp→σ→Prop} {μ:σ→Nat} {n:Nat} {env:Env} {H:Hp}
theorem Iw:lT S Q k W μ n .normal env H=∃s,μ s<n∧W env H s:=rfl
theorem Ix (id:Nat):lT S Q k W μ n (.exit id) env H=match dS id k with
 |some k'=>go S Q k' env H
 |none=>Q (.exit id) env H:=rfl
theorem Iy:lT S Q k W μ n .ret env H=Q .ret env H:=rfl
theorem Bv:tK env []=True:=rfl
theorem yo (n:Nat) (x:AV) (r:List (Nat×AV)):tK env ((n,x)::r)=(env n=x∧tK env r):=rfl
end
theorem Iz (env:Env) (n:Nat):ev env (.t n)=env n:=rfl
theorem IA (env:Env) (x:AV):ev env (.c x)=x:=rfl
theorem DW (n:Nat) (h:n≤4000):(n≤maxLen)=True:=by simp[maxLen];omega
end Go.Am

/- THE ABSTRACT MACHINE, part 28: the walk's equations, in few words. -/
namespace Go.Am
open Go Go.RowKit
theorem DX (b:Bool) (A B:Prop) (u:Tp A B):cK (.bool (!b)) A B u=cK (.bool b) B A .mk:=by cases b<;>simp[cK]
theorem DY (b t:Bool) (A B:Prop) (u:Tp A B):gB (.bool (!b)) t A B u=gB (.bool b) (!t) A B .mk:=by cases b<;>cases t<;>simp[gB]
theorem vg (args:List AV) (n:Nat):bE args n=args.getD n .un:=rfl
theorem vh (l:Lb):Hp.none l= .unused:=rfl
theorem DZ (n:Nat):Env.any n= .any:=rfl
theorem Ge {σ:Type} (ps:σ→List (Nat×AV)) (env:Env) (H:Hp) (s:σ):WD ps env H s=(NF H∧tK env (ps s)):=rfl
theorem wu (cs:List IV):(IV.agg cs).cells=cs:=rfl
theorem Gf (b:Bool):(false ^^ b)=b:=by cases b<;>rfl
theorem Gg (b:Bool):(true ^^ b)= !b:=by cases b<;>rfl
def D0:=And.intro @List.getD_cons_zero.{0} (And.intro @List.getD_cons_succ.{0} (And.intro @List.length_map.{0,0} (And.intro @List.length_cons.{0} (And.intro @List.length_nil.{0} (And.intro @ae (And.intro @List.getElem?_cons_zero.{0} (And.intro @List.getElem?_cons_succ.{0} (And.intro @Option.bind_some.{0,0} (And.intro @Option.map_some.{0,0} (And.intro @List.map_cons.{0,0} (And.intro @List.map_nil.{0,0} (And.intro @Int.natCast_nonneg (And.intro @Int.toNat_natCast (And.intro @List.all_cons.{0} (And.intro @List.all_nil.{0} (And.intro @List.take_succ_cons.{0} (And.intro @List.take_zero.{0} (And.intro @List.drop_succ_cons.{0} (And.intro @List.drop_zero.{0} (And.intro @List.cons_append.{0} (And.intro @List.nil_append.{0} (And.intro @List.append_nil.{0} (And.intro @List.set_cons_zero.{0} (And.intro @List.set_cons_succ.{0} (And.intro @List.take_nil.{0} (And.intro @List.drop_nil.{0} (And.intro @List.replicate_one.{0} (And.intro @List.flatten_cons.{0} (And.intro @List.flatten_nil.{0} (And.intro @vg (And.intro @vh (And.intro @DZ (And.intro @Iz (And.intro @IA (And.intro @Iw (And.intro @Ix (And.intro @Iy (And.intro @Br (And.intro @ym (And.intro @Bv (And.intro @yo (And.intro @Bt (And.intro @DU (And.intro @DX (And.intro @DY (And.intro @Ge (And.intro @wu (And.intro @Gf @Gg))))))))))))))))))))))))))))))))))))))))))))))))
def KI:=And.intro @Nat.zero_mul (And.intro @Nat.zero_add (And.intro @Nat.mul_one (And.intro @Nat.le_refl (And.intro @DW (And.intro @Bool.and_self (And.intro @Bool.and_true (And.intro @Bool.true_and (And.intro @Bool.not_true (And.intro @Bool.not_false (And.intro @Bool.not_not (And.intro @true_and (And.intro @and_true (And.intro @or_false (And.intro @implies_true.{1} (And.intro @false_implies (@List.mem_cons.{0}))))))))))))))))
def IB (x:AV) (k:AV→Prop) (_:Tv k):Prop:=∃R,Ar x=some R∧∀m,R m→m≤maxLen→k (.int .i64 (m:Int))
def JI (S:St) (f:Nat) (args:List AV) (H:Hp) (k:AV→Prop) (_:Tv k):Prop:=∃res,ph S f args H res∧k res
section
variable {S:St} {Q:iC} {env:Env} {H:Hp}
theorem D1 (d:Option Nat) (x:O) (k:AV→Hp→Prop):bt S d (.cap x) env H k=IB (ev env x) (fun y=>k y H) .mk:=rfl
theorem D2 (d:Option Nat) (s x:O) (sz:Nat) (k:AV→Hp→Prop):bt S d (.rq s x sz) env H k=pK (tv sz (ev env s) (ev env x) H) k .mk:=rfl
theorem D3 (d:Option Nat) (x:O) (sz:Nat) (z:List AV) (k:AV→Hp→Prop):bt S d (.s4 x sz z) env H k=hK (tw sz z (ev env x) H) (fun H'=>k (.ei []) H') .mk:=rfl
theorem D4 (q:Nat) (n c:O) (sz b:Nat) (z:List AV) (k:AV→Hp→Prop):bt S (some q) (.s9 n c sz b z) env H k=pK (rD sz b q z (ev env n) (ev env c) H) k .mk:=by
 simp[bt,pK]
theorem yp (d:Option Nat) (f:Nat) (args:List O) (k:AV→Hp→Prop):bt S d (.iY f args) env H k=JI S f (args.map (ev env)) H (fun y=>k y H) .mk:=rfl
theorem Bw d x n sz (k:AV→Hp→Prop):bt S d (.qi x n sz) env H k=cD (aa (.qi x n sz) env) (fun x=>k x H) .mk:=rfl
theorem Bx d s x sz b (k:AV→Hp→Prop):bt S d (.nU s x sz b) env H k=cD (aa (.nU s x sz b) env) (fun x=>k x H) .mk:=rfl
theorem yq d x n sz (k:AV→Hp→Prop):aD S .no d (.qi x n sz) env H k=cD (aa (.qi x n sz) env) (fun x=>k x H) .mk:=by simp only[aD,Quiet,cD,or_false]
theorem yr d s x sz b (k:AV→Hp→Prop):aD S .no d (.nU s x sz b) env H k=cD (aa (.nU s x sz b) env) (fun x=>k x H) .mk:=by simp only[aD,Quiet,cD,or_false]
theorem D5 (R W:List Lb) (d:Option Nat) (s x:O) (sz:Nat) (k:AV→Hp→Prop):aD S (.rw R W) d (.rq s x sz) env H k =
  pK (tv sz (ev env s) (ev env x) H) (fun y H'=>(∀l∈bp (ev env x),l.iM∈R∨l.iM∈W)∧(∀l∈bp (ev env s),l.iM∈W)∧k y H') .mk:=by
 simp only[aD,dw,cC,aF,pK]
theorem D6 (R W:List Lb) (d:Option Nat) (x:O) (sz:Nat) (z:List AV) (k:AV→Hp→Prop):aD S (.rw R W) d (.s4 x sz z) env H k =
  hK (tw sz z (ev env x) H) (fun H'=>(∀l∈bp (ev env x),l.iM∈W)∧k (.ei []) H') .mk:=by
 apply propext;simp only[aD,dw,cC,aF,hK];constructor
 ·rintro⟨x1,H',h1,_,h2,h3⟩;obtain⟨H2,h5,h4⟩:=Option.map_eq_some_iff.1 h1;simp only[Prod.mk.injEq] at h4;obtain⟨rfl,rfl⟩:=h4;exact⟨H2,h5,h2,h3⟩
 ·rintro⟨H2,h1,h2,h3⟩;exact⟨.ei [],H2,by rw[h1];rfl,by simp,h2,h3⟩
theorem By (q:Nat) (s n:O) (sz b:Nat) (z:List AV) (k:AV→Hp→Prop):bt S (some q) (.qj s n sz b z) env H k=pK (u5 sz b q z (ev env s) (ev env n) H) k .mk:=by
 simp[bt,pK]
theorem yt (q:Nat) (sz:Nat) (z:List AV) (ps:List (Nat×O)) (k:AV→Hp→Prop):bt S (some q) (.ga sz z ps) env H k=pK (qq sz q z (ps.map fun p=>(p.1,ev env p.2)) H) k .mk:=by
 simp[bt,pK]
theorem yu (R W:List Lb) (q:Nat) (sz:Nat) (z:List AV) (ps:List (Nat×O)) (k:AV→Hp→Prop):aD S (.rw R W) (some q) (.ga sz z ps) env H k =
  pK (qq sz q z (ps.map fun p=>(p.1,ev env p.2)) H) (fun y H'=>Lb.loc q∈W∧k y H') .mk:=by
 simp[aD,dw,cC,aF,pK,Lb.iM]
theorem D7 d f qs cs (k:AV→Hp→Prop):bt S d (.Aa f qs cs) env H k=cD (aa (.Aa f qs cs) env) (fun x=>k x H) .mk:=rfl
theorem Bz d f qs cs (k:AV→Hp→Prop):aD S .no d (.Aa f qs cs) env H k=cD (aa (.Aa f qs cs) env) (fun x=>k x H) .mk:=by simp only[aD,Quiet,cD,or_false]
theorem vi {sz d:Nat} {z:List AV} {ps:List (Nat×AV)} {cs:List AV} (h1:aQ z (ps.map fun p=>(p.1*sz,sz,p.2))=some cs) (h2:H (.loc d)= .unused) (h3:cs.length=sz) (h4:0<sz) :
  qq sz d z ps H=some (.sl (.loc d) sz 0 1,bL H (.loc d) (.live ⟨sz,[cs]⟩)):=by
 unfold qq;rw[h1,Option.bind_some,if_pos ⟨h2,h3,h4⟩]
theorem D8 (d:Option Nat) (i:b6) (k:AV→Hp→Prop):aD S .all d i env H k=bt S d i env H k:=rfl
def Gi (S:St) (F:List Lb) (f:Nat) (args:List AV) (H:Hp) (k:AV→Hp→Prop) (_:Tw k):Prop:=F4 S F f args H k
theorem D9 (F:List Lb) (d:Option Nat) (f:Nat) (args:List O) (k:AV→Hp→Prop):aD S (.ri F) d (.call f args) env H k=Gi S F f (args.map (ev env)) H k .mk:=rfl
theorem yv {f:Nat} {args:List AV} {res:AV} {k:AV→Prop} (h:ph S f args H res) (hk:k res) {u:Tv k}:JI S f args H k u:=⟨res,h,hk⟩
end
def KJ:=And.intro @By<|And.intro @yt<|And.intro @yu<|And.intro @D7<|And.intro @Bz<|And.intro @D1 (And.intro @D2 (And.intro @D3 (And.intro @D4 (And.intro @yp (And.intro @Bw (And.intro @Bx (And.intro @yq (And.intro @yr (And.intro @D5 (And.intro @D6<|And.intro @D9 @D8))))))))))
def aX:=And.intro dY<|And.intro KJ<|And.intro al<|And.intro an<|And.intro @az<|And.intro @aq<|And.intro @aK<|And.intro @aI @aJ
def mP:=And.intro Lb.loc.injEq<|And.intro Lb.par.injEq<|And.intro Lb.gen.injEq<|And.intro @aw<|And.intro @ax<|And.intro @ay<|And.intro @ak<|And.intro Bool.false_eq_true<|And.intro Int.le_refl Int.toNat_zero
def mX:=And.intro dZ (And.intro D0 (And.intro KI (And.intro mP (And.intro @bK.eq_1 (And.intro @aa.eq_1 (And.intro @aa.eq_2 (And.intro @aa.eq_3 (And.intro @aa.eq_4 (And.intro @aa.eq_5 (And.intro @aa.eq_6 (And.intro @aa.eq_7 (And.intro @aa.eq_8 (And.intro @aa.eq_9 (And.intro @aa.eq_10 (And.intro @aa.eq_11 (And.intro @aa.eq_12 (And.intro @aa.eq_13 (And.intro @aa.eq_14 (And.intro @aa.eq_15 (And.intro @aa.eq_16 (And.intro @aa.eq_17 (And.intro @aa.eq_18 (And.intro @aa.eq_19 (And.intro @aa.eq_20 (And.intro @aa.eq_21 (And.intro @aa.eq_22 (And.intro @aa.eq_23 (And.intro @aa.eq_24 (And.intro @aa.eq_25 (And.intro @aa.eq_26 (And.intro @aa.eq_27 (And.intro @aa.eq_28 (And.intro @aa.eq_29 (And.intro @aa.eq_30 (And.intro @aa.eq_31 (And.intro @aa.eq_32 (And.intro @aa.eq_33 (And.intro @aa.eq_34 (And.intro @aa.eq_35 (And.intro @aa.eq_36 (And.intro @br.eq_1 (And.intro @br.eq_2 (And.intro @br.eq_3 (And.intro @br.eq_4 (And.intro @br.eq_5 (And.intro @br.eq_6 (And.intro @br.eq_7 (And.intro @br.eq_8 (And.intro @br.eq_9 (And.intro @br.eq_10 (And.intro @br.eq_11 (And.intro @br.eq_12 (And.intro @br.eq_13 (And.intro @br.eq_14 (And.intro @br.eq_15 (And.intro @br.eq_16 (And.intro @br.eq_17 (And.intro @br.eq_18 (And.intro @br.eq_19 (And.intro @br.eq_20 (And.intro @br.eq_21 (And.intro @br.eq_22 (And.intro @aN.eq_1 (And.intro @aN.eq_2 (And.intro @aE.eq_1 (And.intro @aE.eq_2 (And.intro @dO.eq_1 (And.intro @dO.eq_2 (And.intro @dO.eq_3 (And.intro @bp.eq_1 (And.intro @bp.eq_2 (And.intro @bp.eq_3 (And.intro @bp.eq_4 (And.intro @bJ.eq_1 (And.intro @bJ.eq_2 (And.intro @bJ.eq_3 (And.intro @aQ.eq_1 (And.intro @aQ.eq_2 (And.intro @chunks.eq_1 (And.intro @chunks.eq_2 (And.intro @dj.eq_1 (And.intro @dj.eq_2 (And.intro @dF.eq_1 (And.intro @dF.eq_2 (And.intro @AV.cells.eq_1 (And.intro @AV.cells.eq_2 (And.intro @AV.dk.eq_1 (And.intro @AV.dk.eq_2 (And.intro @AV.one.eq_1 (And.intro @AV.one.eq_2 (And.intro @AV.one.eq_3 (And.intro @AV.one.eq_4 (And.intro @AV.one.eq_5 (And.intro @IV.b7.eq_1 (And.intro @IV.b7.eq_2 (And.intro @IV.b7.eq_3 (And.intro @IV.b7.eq_4 (And.intro @IV.b7.eq_5 (And.intro @Lb.app.eq_1 (And.intro @Lb.fresh.eq_1 (And.intro @Lb.fresh.eq_2 (And.intro @Lb.fresh.eq_3 (And.intro @AV.iv.eq_1 (And.intro @AV.iv.eq_2 (And.intro @AV.iv.eq_3 (And.intro @AV.iv.eq_4 (And.intro @AV.iv.eq_5 (And.intro @AV.iv.eq_6 (And.intro @if_true.{1} (And.intro @if_false.{1} (And.intro @List.not_mem_nil.{0} (And.intro @forall_eq.{1} (And.intro @beq_self_eq_true.{0} @List.isEmpty_nil.{0})))))))))))))))))))))))))))))))))))))))))))))))))))))))))))))))))))))))))))))))))))))))))))))))))))))))))))))))))
def lX:=And.intro @ev.eq_1 (And.intro @ev.eq_2 (And.intro @vg (And.intro @List.getD_cons_zero.{0} (And.intro @List.getD_cons_succ.{0} (And.intro @true_and (And.intro @and_true (And.intro @List.length_map.{0,0} (And.intro @List.length_cons.{0} (And.intro @List.length_nil.{0} (And.intro @ae (And.intro @Lb.loc.injEq (And.intro @List.getElem?_cons_zero.{0} (And.intro @List.getElem?_cons_succ.{0} (And.intro @Option.bind_some.{0,0} (And.intro @Option.map_some.{0,0} (And.intro @List.map_cons.{0,0} (And.intro @List.map_nil.{0,0} (And.intro @Int.natCast_nonneg (And.intro @Int.toNat_natCast (And.intro @List.all_cons.{0} (And.intro @List.all_nil.{0} (And.intro @Bool.and_self (And.intro @Bool.and_true (And.intro @Bool.true_and (And.intro @List.take_succ_cons.{0} (And.intro @List.take_zero.{0} (And.intro @List.drop_succ_cons.{0} (And.intro @List.drop_zero.{0} (And.intro @List.cons_append.{0} (And.intro @List.nil_append.{0} (And.intro @List.append_nil.{0} (And.intro @List.set_cons_zero.{0} (And.intro @aw (And.intro @ax (And.intro @ay (And.intro @ak (And.intro @Bool.false_eq_true (And.intro @List.mem_cons.{0} (And.intro @or_false (And.intro @false_implies (And.intro @implies_true.{1} (And.intro @vh (And.intro @Nat.le_refl (And.intro @List.set_cons_succ.{0} (And.intro @List.replicate_one.{0} (And.intro @List.flatten_cons.{0} (And.intro @List.flatten_nil.{0} (And.intro @Nat.zero_mul (And.intro @Nat.zero_add @Nat.mul_one)))))))))))))))))))))))))))))))))))))))))))))))))
end Go.Am

/- THE ABSTRACT MACHINE, part 30: functions that are handed one row of data by a pointer. -/
namespace Go.Am
open Go Go.RowKit
open Classical in
noncomputable def fK (kp:Lb→Prop) (H:Hp):Hp:=fun l=>match H l with
 | .live r=>if kp l then .live r else .dead
 |s=>s
theorem eH {kp:Lb→Prop} {H:Hp} {l:Lb} {r:Row}:fK kp H l= .live r↔H l= .live r∧kp l:=by
 unfold fK;cases h:H l with
 |live r'=>
  by_cases hk:kp l
  ·simp[hk]
  ·simp[hk]
 |unused=>simp
 |dead=>simp
theorem gY {kp:Lb→Prop} {H:Hp} {l:Lb}:fK kp H l= .unused↔H l= .unused:=by
 unfold fK;cases h:H l with
 |live r'=>
  by_cases hk:kp l
  ·simp[hk]
  ·simp[hk]
 |unused=>simp
 |dead=>simp
section
variable {K:Kx} {β:Lb→Option Nat} {env:Env} {H:Hp} {a:Act} {w:World}
theorem aM.fK (hr:aM K β env H a w) (kp:Lb→Prop):aM K β env (Am.fK kp H) a w:=by
 have:=hr.nF id (env2:=env) (H2:=Am.fK kp H) (fun n=> .inr (qy _).symm) (fun l r h=>by rw[qz];exact(eH.1 h).1) (fun _ _ _ _ h=>h)
  (fun n l hl=>by rw[Ne,gY];exact hr.eB n l hl) (fun l r h cs bx q hq=>by rw[Ne,gY];exact hr.cB l r (eH.1 h).1 cs bx q hq)
  (fun l hl=>⟨by rw[Ne,gY];exact(hr.fX l hl).1,fun _=>rfl⟩) (fun _ _ h=>h)
 exact this
theorem yw {K:Kx} {β:Lb→Option Nat} {H:Hp} (kp:Lb→Prop) {k:Nat} (h:Im K β H k):Im K β (Am.fK kp H) k:=
 ⟨h.1,fun l ⟨r,hl⟩=>h.2 l ⟨r,(eH.1 hl).1⟩⟩
theorem RV.fK {w:World} {β:Lb→Option Nat} {H:Hp} {x:AV} {v:Value} (kp:Lb→Prop) (h:RV w β H (Im K β H) x v):RV w β (Am.fK kp H) (Im K β (Am.fK kp H)) x v:=
 RV.mono x v {im:=fun k hk hs=>⟨yw kp hk,hs,rfl⟩,lb:=fun l _ ⟨r,hl⟩=>⟨⟨r,(eH.1 hl).1⟩,rfl,fun _ _ _ h=>h⟩} h
end
theorem gd.dc {P:Program} {G:Nat→Option (List IV)} {f:Nat} {args:List AV} {H:Hp} {Q:AV→Hp→Prop} (h:gd P G f args H Q) (kp:Lb→Prop) :
  gd P G f args H fun x H'=>∃H1,Q x H1∧H'=fK kp H1:=by
 intro w A β vs hr hv;refine(h w A β vs hr hv).mono ?_;rintro e w' ⟨v,x,H1,β',rfl,hq,nD,hx,hm⟩;exact⟨v,x,fK kp H1,β',rfl,⟨H1,hq,rfl⟩,nD.fK kp,hx.fK kp,fun l hl=>by rw[Ne,gY];exact hm l hl⟩
def ke (cs:List AV):Hp:=bL Hp.none (.par 0) (.live ⟨cs.length,[cs]⟩)
def lV (P:Program) (G:Nat→Option (List IV)) (f:Nat) (args:List AV) (cs:List AV) (R:AV→List AV→Prop):Prop:=
 (∀l∈ah args,l= .par 0)∧ah cs=[]∧gd P G f args (ke cs) fun x H'=>∃kK,R x kK∧x.ar=[]∧ah kK=[]∧kK.length=cs.length∧H' (.par 0)= .live ⟨cs.length,[kK]⟩
def tL (l:Lb):Lb→Lb:=fun q=>if q= .par 0 then l else q
theorem hY {S:St} {f:Nat} {args cQ:List AV} {cs:List AV} {R:AV→List AV→Prop} {H:Hp} {k:AV→Hp→Prop} {u:Tw k} {l:Lb} (h:lV S.P S.G f cQ cs R)
  (ha:args=bT (tL l) cQ) (hl:H l= .live ⟨cs.length,[cs]⟩) (hk:∀x kK,R x kK→x.ar=[]→ah kK=[]→kK.length=cs.length→k x (bL H l (.live ⟨cs.length,[kK]⟩))):Hn S f args H k u:=by
 obtain⟨h1,h2,h3⟩:=h
 have a8:∀q r,ke cs q= .live r→q= .par 0∧r=⟨cs.length,[cs]⟩:=by
  intro q r h;by_cases e:q= .par 0
  ·subst e;simp[ke] at h;exact⟨rfl,h.symm⟩
  ·rw[ke,aA _ _ e] at h;simp[Hp.none] at h
 refine .inr<| .inr ⟨⟨tL l,ke cs,cQ,_,h3.dc (fun q=>q= .par 0),ha,?_,?_,?_,?_,?_,?_,?_⟩⟩
 ·intro q r h;obtain⟨rfl,rfl⟩:=a8 q r h;simp only[tL,if_true,hl,Slot.live.injEq,bX,Row.mk.injEq,List.map_cons,List.map_nil,true_and,List.cons.injEq,and_true];exact(gl _ _ h2).symm
 ·intro q hq;by_cases e:q= .par 0
  ·subst e;exact⟨_,by simp[ke];rfl⟩
  ·rw[ke,aA _ _ e] at hq;simp[Hp.none] at hq
 ·rintro q q' ⟨r,h⟩ ⟨r',h'⟩ _;rw[(a8 q r h).1,(a8 q' r' h').1]
 ·intro q hq;rw[h1 q hq];simp[ke]
 ·rintro q ⟨r,h⟩;rw[(a8 q r h).1];rfl
 ·intro q r h c hc z hz;obtain⟨rfl,rfl⟩:=a8 q r h;simp only[List.mem_singleton] at hc;subst hc;rw[h2] at hz;simp at hz
 ·rintro x H' ⟨H1,⟨kK,e1,e2,e3,e4,e5⟩,rfl⟩
  have hH:∀q r,fK (fun q=>q= .par 0) H1 q= .live r→q= .par 0∧r=⟨cs.length,[kK]⟩:=by
   intro q r h;obtain⟨g1,rfl⟩:=eH.1 h;rw[e5] at g1;cases g1;exact⟨rfl,rfl⟩
  have IC:fK (fun q=>q= .par 0) H1 (.par 0)= .live ⟨cs.length,[kK]⟩:=eH.2 ⟨e5,rfl⟩;refine⟨tL l,bL H l (.live ⟨cs.length,[kK]⟩),fun _ _ _=>rfl,?_,?_,?_,?_,?_,?_,?_,?_⟩
  ·intro q r h;by_cases e:q=l
   ·subst e;simp at h;refine .inr ⟨.par 0,_,IC,by simp[tL],?_⟩;rw[←h];simp only[bX,Row.mk.injEq,List.map_cons,List.map_nil,true_and,List.cons.injEq,and_true];exact(gl _ _ e3).symm
   ·rw[aA _ _ e] at h;refine .inl ⟨h,?_⟩;rintro z ⟨r',hz⟩;rw[(a8 z r' hz).1];simp only[tL,if_true];exact Ne.symm e
  ·rintro q q' ⟨r,h⟩ ⟨r',h'⟩ _;rw[(hH q r h).1,(hH q' r' h').1]
  ·intro q hq;by_cases e:q=l
   ·subst e;simp
   ·rw[aA _ _ e];exact hq
  ·intro q hq;rw[e2] at hq;simp at hq
  ·intro q r h c hc z hz;obtain⟨rfl,rfl⟩:=hH q r h;simp only[List.mem_singleton] at hc;subst hc;rw[e3] at hz;simp at hz
  ·rintro q ⟨r,h⟩;obtain⟨rfl,rfl⟩:=hH q r h;exact .inl ⟨_,by simp[ke];rfl⟩
  ·rintro q (hq|⟨l1,r1,c,g1,g2,g3⟩) _
   ·rw[e2] at hq;simp at hq
   ·obtain⟨rfl,rfl⟩:=hH l1 r1 g1;simp only[List.mem_singleton] at g2;subst g2;rw[e3] at g3;simp at g3
  ·rw[kb _ _ e2];exact hk x kK e1 e2 e3 e4
theorem jj {P:Program} {G:Nat→Option (List IV)} {f:Nat} {n:Nat} {rs:List RO} {ac:AC} {args cs:List AV} {R:AV→List AV→Prop}
  (hF:aB P G f=some (n,rs,ac.bare)) (hn:args.length≤n) (ha:∀l∈ah args,l= .par 0) (hc:ah cs=[])
  (hg:go ⟨P,G,n⟩ (ij rs fun x H'=>∃kK,R x kK∧x.ar=[]∧ah kK=[]∧kK.length=cs.length∧H' (.par 0)= .live ⟨cs.length,[kK]⟩) [.code ac] (bE args) (ke cs)):lV P G f args cs R:=by
 refine⟨ha,hc,jC hF hn ?_ ?_ hg⟩
 ·rintro l ⟨r,h⟩;by_cases e:l= .par 0
  ·subst e;rfl
  ·rw[ke,aA _ _ e] at h;simp[Hp.none] at h
 ·intro l hl;rw[ha l hl];simp[ke]
theorem lV.mono {P:Program} {G:Nat→Option (List IV)} {f:Nat} {args cs:List AV} {R R':AV→List AV→Prop} (h:lV P G f args cs R) (hq:∀x c,R x c→R' x c):lV P G f args cs R':=
 ⟨h.1,h.2.1,h.2.2.mono fun x H ⟨c,h1,h2⟩=>⟨c,hq _ _ h1,h2⟩⟩
end Go.Am

/- THE ABSTRACT MACHINE, part 31: nil slices are empty lists. -/
namespace Go.Am
open Go Go.RowKit
mutual
def norm:AV→AV
 | .nil0=> .list []
 | .agg cs=> .agg (jP cs)
 | .ei cs=> .ei (jP cs)
 |x=>x
def jP:List AV→List AV
 |[]=>[]
 |x::r=>norm x::jP r
end
mutual
theorem og:∀x:AV,(norm x).ar=x.ar
 | .nil0=>rfl
 | .agg cs=>by simp[norm,AV.ar,kA cs]
 | .ei cs=>by simp[norm,AV.ar,kA cs]
 | .sl ..| .slk ..| .ptr ..| .any| .un| .bool _| .int ..| .str _| .list _| .iN| .fy| .lptr _| .fn ..| .ifc ..=>rfl
theorem kA:∀xs:List AV,ah (jP xs)=ah xs
 |[]=>rfl
 |x::r=>by simp[jP,ah,og x,kA r]
end
mutual
theorem RV.norm {w:World} {β:Lb→Option Nat} {H:Hp} {I:Nat→Prop}:∀(x:AV) (v:Value),RV w β H I x v→RV w β H I (Am.norm x) v
 | .nil0,v,h=>by
  simp only[RV] at h;obtain⟨a,rfl⟩:=h;simp only[Am.norm,RV,eT];exact⟨a,0,rfl,Nat.le_refl _,by simp[maxLen],.inl rfl⟩
 | .agg cs,v,h=>by
  simp only[RV,Am.norm] at h ⊢;obtain⟨vs,h1,h2⟩:=h;exact⟨vs,h1,bo.norm cs vs h2⟩
 | .ei cs,v,h=>by
  simp only[RV,Am.norm] at h ⊢;obtain⟨vs,h1,h2⟩:=h;exact⟨vs,h1,bo.norm cs vs h2⟩
 | .sl ..,v,h| .slk ..,v,h| .ptr ..,v,h| .any,v,h| .un,v,h| .bool _,v,h| .int ..,v,h| .str _,v,h| .list _,v,h| .iN,v,h| .fy,v,h| .lptr _,v,h| .fn ..,v,h| .ifc ..,v,h=>h
theorem bo.norm {w:World} {β:Lb→Option Nat} {H:Hp} {I:Nat→Prop}:∀(xs:List AV) (vs:List Value),bo w β H I xs vs→bo w β H I (jP xs) vs
 |[],vs,h=>h
 |x::r,vs,h=>by
  simp only[bo,jP] at h ⊢;obtain⟨v,us,h1,h2,h3⟩:=h;exact⟨v,us,h1,RV.norm x v h2,bo.norm r us h3⟩
end
theorem gd.n {P:Program} {G:Nat→Option (List IV)} {f:Nat} {args:List AV} {H:Hp} {Q:AV→Hp→Prop} (h:gd P G f (jP args) H Q):gd P G f args H Q:=
 fun w A β vs hr hv=>h w A β vs hr (bo.norm _ _ hv)
theorem gd.res {P:Program} {G:Nat→Option (List IV)} {f:Nat} {args:List AV} {H:Hp} {Q:AV→Hp→Prop} (h:gd P G f args H Q):gd P G f args H fun x H'=>∃y,Q y H'∧x=norm y:=by
 intro w A β vs hr hv;refine(h w A β vs hr hv).mono ?_;rintro e w' ⟨v,x,H',β',rfl,h1,h2,h3,h4⟩;exact⟨v,norm x,H',β',rfl,⟨x,h1,rfl⟩,h2,RV.norm _ _ h3,by rw[og];exact h4⟩
theorem ai.n {P:Program} {G:Nat→Option (List IV)} {f:Nat} {args:List AV} {res:AV} (h:ai P G f (jP args) res):ai P G f args res:=
 ⟨by have:=h.1;rwa[kA] at this,h.2.1,h.2.2.n⟩
theorem ai.of {P:Program} {G:Nat→Option (List IV)} {f:Nat} {args pH:List AV} {res:AV} (h:ai P G f pH res) (e:jP args=pH):ai P G f args res:=ai.n (by rw[e];exact h)
theorem gI {P:Program} {G:Nat→Option (List IV)} {f:Nat} {n:Nat} {rs:List RO} {ac:AC} {args:List AV} {res:AV}
  (hF:aB P G f=some (n,rs,ac.bare)) (hn:args.length≤n) (hl:ah args=[]) (qx:res.ar=[])
  (hg:go ⟨P,G,n⟩ (ij rs fun x _=>norm x=res) [.code ac] (bE args) Hp.none):ai P G f args res:=
 ⟨hl,qx,((jC hF hn (fun l ⟨r,h⟩=>by simp[Hp.none] at h) (by simp[hl]) hg).res).mono fun x H ⟨y,h1,h2⟩=>by rw[h2];exact h1⟩
theorem yx (xs:List IV) (i:Nat):(aG xs)[i]?=xs[i]?.map fun y=>y.cells.map IV.b7:=by simp[aG]
theorem oh (xs:List IV):(aG xs).length=xs.length:=by simp[aG]
theorem kf (xs ys:List IV):aG (xs++ys)=aG xs++aG ys:=by simp[aG]
theorem Gj {σ:Type} (d sz:Nat) (ps:σ→List (Nat×AV)) (xs:σ→List IV) (env:Env) (H:Hp) (s:σ) :
 WR d sz ps xs env H s=(NF H∧tK env (ps s)∧∃n els,env d= .sl (.loc n) sz 0 (xs s).length∧H (.loc n)= .live ⟨sz,els⟩∧els=aG (xs s)):=rfl
theorem Gk {σ:Type} {d sz:Nat} {ps:σ→List (Nat×AV)} {xs:σ→List IV} {env:Env} {H:Hp} {s:σ} (n:Nat) (h1:NF H) (h2:tK env (ps s)) (h3:env d= .sl (.loc n) sz 0 (xs s).length)
 (h4:H (.loc n)= .live ⟨sz,aG (xs s)⟩):WR d sz ps xs env H s:=⟨h1,h2,n,_,h3,h4,rfl⟩
theorem vj {sz b d n:Nat} {l:Lb} {els:List (List AV)} {x:IV} {H:Hp} (hl:H l= .live ⟨sz,els⟩) (hn:els.length=n) (he:x.cells.length=sz) (hf:∀z∈x.cells,∀cs,z≠ .agg cs) (hb:(n+1)*b≤140737488355328) (h0:0<b)
  (hd:l≠l.app d) (hu:H (l.app d)= .unused) :
  jA sz b d (.sl l sz 0 n) (.list [x]) H=some (.sl (l.app d) sz 0 (n+1),bL (bL H l .dead) (l.app d) (.live ⟨sz,els++aG [x]⟩)):=by
 have:=yh (xs:=[x]) hl (Nat.le_of_eq hn.symm) (by intro y hy;simp only[List.mem_singleton] at hy;subst hy;exact he) (by intro y hy;simp only[List.mem_singleton] at hy;subst hy;exact hf) (by simpa using hb) h0 hd hu;rw[this];simp only[List.length_cons,List.length_nil,Nat.zero_add,Option.some.injEq,Prod.mk.injEq,true_and];rw[List.take_of_length_le (Nat.le_of_eq hn)]
theorem eX (sz b d k:Nat) (xs:List IV) (x:IV) {n:Nat} {H:Hp} (hl:H (.loc k)= .live ⟨sz,aG xs⟩) (hn:xs.length=n) (he:x.cells.length=sz) (hf:∀z∈x.cells,∀cs,z≠ .agg cs) (hb:(n+1)*b≤140737488355328) (h0:0<b)
  (hd:k≠d) (hu:H (.loc d)= .unused) :
  jA sz b d (.sl (.loc k) sz 0 n) (.list [x]) H=some (.sl (.loc d) sz 0 (n+1),bL (bL H (.loc k) .dead) (.loc d) (.live ⟨sz,aG (xs++[x])⟩)):=by
 have e:(Lb.loc k).app d= .loc d:=rfl;have:=vj (l:= .loc k) (d:=d) hl (by rw[oh];exact hn) he hf hb h0 (by rw[e];simpa using hd) (by rw[e];exact hu);rw[e] at this;rw[this,kf]
end Go.Am

/- THE ABSTRACT MACHINE, part 32: loops whose rows stay where they are. -/
namespace Go.Am
open Go Go.RowKit
def D' (H:Hp):List (Lb×Row)→Prop
 |[]=>True
 |(l,r)::t=>H l= .live r∧D' H t
theorem D'.rw {H:Hp}:∀{rs:List (Lb×Row)},D' H rs→jW (bq []) H rs
 |[],_=>trivial
 |(l,r)::t,h=>⟨by show H l= .live (bX id r);rw[qz];exact h.1,D'.rw h.2⟩
def WS {σ:Type} (ls:List Lb) (ps:σ→List (Nat×AV)) (rs:σ→List (Lb×Row)) (env:Env) (H:Hp) (s:σ):Prop:=DV H ls∧tK env (ps s)∧D' H (rs s)
theorem eo {σ:Type} {S:St} {Q:iC} {c:AC} {k:List It} {env:Env} {H:Hp} (ls:List Lb) (ps:σ→List (Nat×AV)) (rs:σ→List (Lb×Row)) (μ:σ→Nat) (s0:σ)
  (pe:∀s,(rs s).map Prod.fst=ls) (Hs:ls.Nodup) (hp:∀s,∀l∈ah ((ps s).map Prod.snd),l∈ls) (hr:∀s,∀q∈rs s,∀cs∈q.2.els,∀l∈ah cs,l∈ls) (h0:WS ls ps rs env H s0)
  (round:∀s,go S (lT S Q k (WS ls ps rs) μ (μ s)) [.code c] (rk (ps s)) (gU (rs s))):m_ S Q c k env H:=by
 refine lU (fun s=>rk (ps s)) (fun s=>gU (rs s)) (WS ls ps rs) ?_ μ s0 h0 round;rintro env H s ⟨h1,h2,h3⟩;refine⟨bq [],Iv.wk (m:=[]) ⟨h1,h2.eql,D'.rw h3,?_,fun l _=>⟨id,fun _=>rfl⟩⟩ (pe s) (hp s) (hr s)⟩;have:bq []=id:=rfl;rw[this,List.map_id];exact Hs
theorem dT {σ:Type} {ls:List Lb} {ps:σ→List (Nat×AV)} {rs:σ→List (Lb×Row)} {env:Env} {H:Hp} {s:σ} (h1:DV H ls) (h2:tK env (ps s)) (h3:D' H (rs s)):WS ls ps rs env H s:=⟨h1,h2,h3⟩
theorem cb:gU []=Hp.none:=rfl
theorem bO (l:Lb) (r:Row) (t:List (Lb×Row)):gU ((l,r)::t)=bL (gU t) l (.live r):=rfl
end Go.Am

/- THE ABSTRACT MACHINE, part 33: slices held against nil; loops of calls with pointers. -/
namespace Go.Am
open Go Go.RowKit
inductive Tb (k:Bool→Prop):Type
 |mk
def nK (o:Option (List Bool)) (k:Bool→Prop) (_:Tb k):Prop:=∃bs,o=some bs∧∀b∈bs,k b
theorem D_ {S:St} {env:Env} {H:Hp} (d:Option Nat) (n:Bool) (x:O) (k:AV→Hp→Prop):bt S d (.zR n x) env H k=nK (pg (ev env x)) (fun b=>k (.bool (n ^^ b)) H) .mk:=rfl
theorem BA {xs:List IV} {k:Bool→Prop} {u:Tb k} (h1:xs=[]→k true) (h2:k false):nK (pg (.list xs)) k u:=by
 cases xs with
 |nil=>exact⟨_,rfl,fun b _=>by cases b;exact h2;exact h1 rfl⟩
 |cons x r=>exact⟨_,rfl,fun b hb=>by simp only[List.mem_singleton] at hb;subst hb;exact h2⟩
theorem jk (sz b d:Nat) (xs:List IV) {H:Hp} (he:ia sz xs) (hf:Flat xs) (hb:xs.length*b≤140737488355328) (h0:0<b) (hu:H (.loc d)= .unused) :
 jA sz b d .nil0 (.list xs) H=some (.sl (.loc d) sz 0 xs.length,bL H (.loc d) (.live ⟨sz,aG xs⟩)):=Bo he hf hb h0 hu
end Go.Am

/- Trees: their values, their sizes; copies. -/
namespace Go.Am
open Go Go.RowKit
abbrev Bs:=List UInt8
structure Attr where
 name:Bs
 val:Bs
inductive Tree where
 |mk (text:Bool) (s:Bs) (attrs:List Attr) (kids:List Tree)
def Tree.text:Tree→Bool| .mk t _ _ _=>t
def Tree.s:Tree→Bs| .mk _ s _ _=>s
def Tree.attrs:Tree→List Attr| .mk _ _ a _=>a
def Tree.kids:Tree→List Tree| .mk _ _ _ k=>k
def Attr.cs (a:Attr):List IV:=[.str a.name,.str a.val]
def Attr.iv (a:Attr):IV:= .agg a.cs
def eh (as:List Attr):List IV:=as.map Attr.iv
mutual
def Tree.iv:Tree→IV
 | .mk t s as ks=> .agg [.bool t,.str s,.list (eh as),.list (eY ks)]
def eY:List Tree→List IV
 |[]=>[]
 |x::r=>x.iv::eY r
end
def Tree.cs (x:Tree):List IV:=[.bool x.text,.str x.s,.list (eh x.attrs),.list (eY x.kids)]
def Tree.av (x:Tree):AV:= .agg [.bool x.text,.str x.s,.list (eh x.attrs),.list (eY x.kids)]
theorem Tree.rT (x:Tree):x.iv= .agg x.cs:=by cases x;simp[Tree.iv,Tree.cs,Tree.text,Tree.s,Tree.attrs,Tree.kids]
theorem Tree.aU (x:Tree):x.iv.cells=x.cs:=by rw[Tree.rT];rfl
theorem Attr.aU (x:Attr):x.iv.cells=x.cs:=rfl
theorem kB:∀xs:List Tree,eY xs=xs.map Tree.iv
 |[]=>by simp[eY]
 |x::r=>by simp[eY,kB r]
theorem bG (xs:List Tree):(eY xs).length=xs.length:=by simp[kB]
theorem de (xs:List Attr):(eh xs).length=xs.length:=by simp[eh]
theorem iI (xs:List Tree) (i:Nat):(eY xs)[i]?=xs[i]?.map Tree.iv:=by simp[kB]
theorem nN (xs:List Attr) (i:Nat):(eh xs)[i]?=xs[i]?.map Attr.iv:=by simp[eh]
theorem nO (xs ys:List Tree):eY (xs++ys)=eY xs++eY ys:=by simp[kB]
theorem lW (xs:List Tree):ia 4 (eY xs):=by
 intro x hx;rw[kB] at hx;obtain⟨a,_,rfl⟩:=List.mem_map.1 hx;rw[a.aU];rfl
theorem nc (xs:List Attr):ia 2 (eh xs):=by
 intro x hx;obtain⟨a,_,rfl⟩:=List.mem_map.1 hx;rfl
theorem Tree.nP (x:Tree):∀z∈x.cs,∀cs,z≠ .agg cs:=by
 intro z hz cs;simp only[Tree.cs,List.mem_cons,List.not_mem_nil,or_false] at hz;rcases hz with rfl|rfl|rfl|rfl<;>simp
theorem vk (xs:List Tree):Flat (eY xs):=by
 intro x hx;rw[kB] at hx;obtain⟨a,_,rfl⟩:=List.mem_map.1 hx;rw[a.aU];exact a.nP
theorem oi (xs:List Attr):Flat (eh xs):=by
 intro x hx;obtain⟨a,_,rfl⟩:=List.mem_map.1 hx;intro z hz cs;simp only[Attr.aU,Attr.cs,List.mem_cons,List.not_mem_nil,or_false] at hz;rcases hz with rfl|rfl<;>simp
def Attr.wt (a:Attr):Nat:=1+a.name.length+a.val.length
def pI:List Attr→Nat
 |[]=>0
 |a::r=>a.wt+pI r
mutual
def Tree.wt:Tree→Nat
 | .mk _ s as ks=>1+s.length+pI as+fL ks
def fL:List Tree→Nat
 |[]=>0
 |x::r=>x.wt+fL r
end
theorem Tree.jQ (x:Tree):x.wt=1+x.s.length+pI x.attrs+fL x.kids:=by cases x;simp[Tree.wt,Tree.s,Tree.attrs,Tree.kids]
theorem g_:∀xs:List Attr,xs.length≤pI xs
 |[]=>by simp[pI]
 |a::r=>by have:=g_ r;simp[pI,Attr.wt];omega
theorem gy:∀xs:List Tree,xs.length≤fL xs
 |[]=>by simp[fL]
 |a::r=>by have:=gy r;have:=a.jQ;simp[fL];omega
theorem lY:∀(xs:List Tree) (i:Nat) (x:Tree),xs[i]?=some x→x.wt≤fL xs
 |[],i,x,h=>by simp at h
 |a::r,0,x,h=>by simp at h;subst h;simp[fL]
 |a::r,i+1,x,h=>by have:=lY r i x (by simpa using h);simp[fL];omega
theorem kC:∀xs ys:List Tree,fL (xs++ys)=fL xs+fL ys
 |[],ys=>by simp[fL]
 |a::r,ys=>by simp[fL,kC r ys];omega
def B:Nat:=2^30
theorem le_max {n:Nat} (h:n≤100):n≤maxLen:=Nat.le_trans h (by decide)
end Go.Am
