import Derived.Test.YtfinkeaikbmpgaaGreatDoorKAm15
import Derived.WalkKit
import Derived.ProofKit
import Derived.OpenShut
import Derived.Carry
import Derived.JoinedCond
import Derived.Deep.LoopGhost
set_option linter.unusedSimpArgs false
set_option linter.unusedVariables false
set_option linter.unnecessarySimpa false
set_option linter.defProp false
/- THE ABSTRACT MACHINE, part 25: what a reading of plain data gives. -/
namespace Go.Am
open Go Go.RowKit
inductive Sh (P:Program):TypeId→IV→Prop
 |b {t:TypeId} {x:Bool}:P.underlying t=some .bool→Sh P t (.bool x)
 |i {t:TypeId} {k:IntKind} {n:Int}:P.underlying t=some (.int k)→(Lit.int k n).wf=true→Sh P t (.int k n)
 |s {t:TypeId} {x:List UInt8}:P.underlying t=some .string→Sh P t (.str x)
 |l {t e:TypeId} {ys:List IV}:P.underlying t=some (.slice e)→(∀y∈ys,Sh P e y)→Sh P t (.list ys)
 |g {t:TypeId} {fs:Array Field} {ys:List IV}:P.underlying t=some (.struct fs)→ys.length=fs.size→(∀(j:Nat) (f:Field) (y:IV),fs[j]?=some f→ys[j]?=some y→Sh P f.type y)→Sh P t (.agg ys)
mutual
def IV.wt:IV→Nat
 | .bool _=>1
 | .int _ _=>1
 | .str s=>s.length+1
 | .list xs=>fm xs+1
 | .agg cs=>fm cs+1
 | .ifc _=>1
def fm:List IV→Nat
 |[]=>0
 |x::r=>x.wt+fm r
end
def lE (P:Program) (t:TypeId):Bool:=
 match P.underlying t with
 |some .bool|some (.int _)|some .string|some (.slice _)=>true
 |_=>false
def qj (P:Program) (T:List TypeId) (t:TypeId):Bool:=
 match P.underlying t with
 |some .bool|some (.int _)|some .string=>true
 |some (.slice e)=>T.contains e&&decide (0<P.cellsOf e)
 |some (.struct fs)=>decide (P.cellsOf t=fs.size)&&(List.range fs.size).all fun j=>match fs[j]? with
  |some f=>T.contains f.type&&lE P f.type&&decide (f.offset=j)&&decide (P.cellsOf f.type=1)
  |none=>false
 |_=>false
section
variable {H:Type} {enc:TypeId×Value→H} {P:Program} {w:World} {base:Nat} {spare:Nat→Bool} {held:Bool}
theorem en {α β:Type} {f:α→Option β}:∀{l:List α} {r:List β},l.mapM f=some r→r.length=l.length∧∀(i:Nat) (x:α),l[i]?=some x→∃y,r[i]?=some y∧f x=some y
 |[],r,h=>by
  simp at h;subst h;exact⟨rfl,by simp⟩
 |a::l,r,h=>by
  rw[List.mapM_cons] at h;obtain⟨y,h1,h⟩:=Option.bind_eq_some_iff.1 h;obtain⟨s,h2,h⟩:=Option.bind_eq_some_iff.1 h;simp only[Option.pure_def,Option.some.injEq] at h;subst h;obtain⟨e1,e2⟩:=en h2;refine⟨by simp[e1],fun i x hx=> ?_⟩;cases i with
  |zero=>simp at hx;subst hx;exact⟨y,by simp,h1⟩
  |succ i=>obtain⟨z,q1,q2⟩:=e2 i x (by simpa using hx);exact⟨z,by simpa using q1,q2⟩
theorem kb {a:Addr} {n:Nat} {cs:List Value} (h:w.cells? base a n=some cs):cs.length=n∧∀i,i<n→∃v,cs[i]?=some v∧w.cell? (a.add i)=some v:=by
 unfold World.cells? at h;split at h
 ·obtain⟨h1,h2⟩:=en h;refine⟨by simpa using h1,fun i hi=> ?_⟩;obtain⟨v,e1,e2⟩:=h2 i i (by simp[hi]);exact⟨v,e1,e2⟩
 ·simp at h
theorem kc {a:Addr} {v:Value} (h:w.cell? a=some v):a.spot=none∧a.block<w.heap.size:=by
 unfold World.cell? at h;split at h
 ·rename_i c t f e;split at h
  ·simp at h
  ·rename_i hs;exact⟨by simpa using hs,(Array.getElem?_eq_some_iff.1 e).1⟩
 ·simp at h
structure Bk (H:Type) where
 bk:DataW H→Nat
 one:∀d,1≤bk d
 str:∀l,bk (.lit (.string l))=l.length+1
 sl:∀es sp,(es.map bk).sum+1≤bk (.slice es sp)
 ag:∀ps,(ps.map bk).sum+1≤bk (.agg ps)
theorem build {Q:Nat→IV→Prop}:∀(n:Nat),(∀i,i<n→∃y,Q i y)→∃ys:List IV,ys.length=n∧∀i y,ys[i]?=some y→Q i y
 |0,_=>⟨[],rfl,by simp⟩
 |n+1,h=>by
   obtain⟨ys,h1,h2⟩:=build n (fun i hi=>h i (by omega))
   obtain⟨y,hy⟩:=h n (by omega)
   refine⟨ys++[y],by simp[h1],fun i z hz=> ?_⟩
   by_cases hi:i<n
   · rw[List.getElem?_append_left (by omega)] at hz;exact h2 i z hz
   · have:i=n:=by
       have:=(List.getElem?_eq_some_iff.1 hz).1
       simp at this;omega
     subst this
     rw[List.getElem?_append_right (by omega),h1] at hz
     simp at hz;subst hz;exact hy
theorem iW {α:Type} {g:α→Nat}:∀(ys:List IV) (xs:List α),ys.length=xs.length→(∀(i:Nat) (y:IV) (x:α),ys[i]?=some y→xs[i]?=some x→y.wt≤g x)→fm ys≤(xs.map g).sum
 |[],[],_,_=>by simp[fm]
 |y::ys,[],h,_=>by simp at h
 |[],x::xs,h,_=>by simp at h
 |y::ys,x::xs,h,hw=>by
  have h1:=hw 0 y x (by simp) (by simp);have h2:=iW ys xs (by simpa using h) (fun i y x hy hx=>hw (i+1) y x (by simpa using hy) (by simpa using hx));simp only[fm,List.map_cons,List.sum_cons];omega
theorem read (B : Bk H) {T : List TypeId} (hT : ∀ t ∈ T,qj P T t = true) : ∀ (fuel : Nat) (t : TypeId) (cs : List Value) (d : DataW H) (ps : List MemPlace),t ∈ T → DataW.trod enc P w base spare held fuel t cs = some (d,ps) →
   ∃y:IV,Sh P t y∧y.wt≤B.bk d∧y.cells.length=cs.length∧∀(j:Nat) (z:IV),y.cells[j]?=some z→∃v,cs[j]?=some v∧bA w (fun _=>True) z v:=by
 intro fuel
 induction fuel with
 |zero=>intro t cs d ps _ h;simp[DataW.trod] at h
 |succ fuel ih=>
   intro t cs d ps ht h
   have ib:=hT t ht
   unfold qj at ib
   unfold DataW.trod at h
   cases hu:P.underlying t with
   |none=>rw[hu] at ib;simp at ib
   |some u=>
     rw[hu] at ib h
     cases u with
     |bool=>
       simp only at h
       split at h<;>simp_all
       rename_i b
       obtain⟨rfl,rfl⟩:=h
       exact⟨.bool b,.b hu,by simpa[IV.wt] using B.one _,by simp[IV.cells],fun j z hz=>by
         cases j<;>simp[IV.cells] at hz
         subst hz;simp[bA]⟩
     |int k=>
       simp only at h
       split at h<;>simp_all
       rename_i n _
       obtain⟨⟨rfl,hw⟩,rfl,rfl⟩:=h
       exact⟨.int _ n,.i hu hw,by simpa[IV.wt] using B.one _,by simp[IV.cells],fun j z hz=>by
         cases j<;>simp[IV.cells] at hz
         subst hz;simp[bA]⟩
     |string=>
       simp only at h
       split at h<;>simp_all
       rename_i x
       obtain⟨hw,rfl,rfl⟩:=h
       exact⟨.str x.data.toList,.s hu,by rw[B.str];simp[IV.wt],by simp[IV.cells],fun j z hz=>by
         cases j<;>simp[IV.cells] at hz
         subst hz;simp[bA]⟩
     |slice e=>
       simp only[Bool.and_eq_true,decide_eq_true_eq,List.contains_eq_mem] at ib
       obtain⟨kQ,pq⟩:=ib
       have sj:e∈T:=by simpa using kQ
       simp only at h
       split at h<;>simp_all
       · obtain⟨rfl,rfl⟩:=h
         exact⟨.list [],.l hu (by simp),by simpa[IV.wt,fm] using B.one _,by simp[IV.cells],fun j z hz=>by
           cases j<;>simp[IV.cells] at hz
           subst hz
           simp only[bA]
           exact⟨_,rfl,none,0,rfl,Nat.le_refl _,by simp[maxLen],.inl rfl⟩⟩
       · rename_i _ _ e' a len cap _
         obtain⟨⟨hb,tv,gI⟩,h⟩:=h
         obtain⟨elems,he,h⟩:=Option.bind_eq_some_iff.1 h
         obtain⟨rest,hr,h⟩:=Option.map_eq_some_iff.1 h
         simp only[Prod.mk.injEq] at h
         obtain⟨rfl,rfl⟩:=h
         obtain⟨hlen,ec⟩:=en he
         have sk:elems.length=len:=by simpa using hlen
         have c6:∀i,i<len→∃y:IV,Sh P e' y∧(∀x,elems[i]?=some x→y.wt≤B.bk x.1)∧y.cells.length=P.cellsOf e' ∧
             ∀(j:Nat) (z:IV),y.cells[j]?=some z→∃v,w.cell? ((a.add (i*P.cellsOf e')).add j)=some v∧bA w (fun _=>True) z v:=by
           intro i hi
           obtain⟨x,e1,e2⟩:=ec i i (by simp[hi])
           obtain⟨cs,c1,c2⟩:=Option.bind_eq_some_iff.1 e2
           obtain⟨cl,cg⟩:=kb c1
           obtain⟨y,y1,y2,y3,y4⟩:=ih e' cs x.1 x.2 sj c2
           refine⟨y,y1,fun x' sn=>by rw[e1] at sn;cases sn;exact y2,by rw[y3,cl],fun j z hz=> ?_⟩
           obtain⟨v,v1,v2⟩:=y4 j z hz
           have hj:j<P.cellsOf e':=by
             have:=(List.getElem?_eq_some_iff.1 hz).1;omega
           obtain⟨v',u1,u2⟩:=cg j hj
           rw[v1] at u1;cases u1
           exact⟨v,u2,v2⟩
         obtain⟨ys,ur,ou⟩:=build len c6
         refine⟨.list ys,.l hu (fun y hy=> ?_),?_,by simp[IV.cells],fun j z hz=> ?_⟩
         · obtain⟨i,hi⟩:=List.getElem?_of_mem hy
           exact(ou i y hi).1
         · have h1:=iW (g:=fun x:DataW H×List MemPlace=>B.bk x.1) ys elems (by omega) (fun i y x hy hx=>(ou i y hy).2.1 x hx)
           have h2:=B.sl (elems.map fun x=>x.1) (rest.map fun x=>x.1)
           simp only[List.map_map] at h2
           simp only[IV.wt]
           exact Nat.le_trans (Nat.add_le_add_right h1 1) h2
         · cases j with
           |succ j=>simp[IV.cells] at hz
           |zero=>
             simp[IV.cells] at hz
             subst hz
             refine⟨_,rfl,?_⟩
             simp only[bA]
             refine⟨some a,cap,by rw[ur],by omega,gI,?_⟩
             by_cases qN:len=0
             · exact .inl (by omega)
             · right
               have o3:∀i j,i<len→j<P.cellsOf e'→∃v,w.cell? ((a.add (i*P.cellsOf e')).add j)=some v:=by
                 intro i j hi hj
                 obtain⟨y,hy⟩:∃y,ys[i]?=some y:=⟨_,List.getElem?_eq_getElem (by omega)⟩
                 obtain⟨_,_,q3,q4⟩:=ou i y hy
                 obtain⟨v,v1,_⟩:=q4 j _ (List.getElem?_eq_getElem (by omega))
                 exact⟨v,v1⟩
               obtain⟨v0,uu⟩:=o3 0 0 (by omega) pq
               obtain⟨s1,s2⟩:=kc uu
               obtain⟨ab,ao,xh⟩:=a
               simp only[Addr.add,Nat.zero_mul,if_true] at s1 s2
               subst s1
               refine⟨ab,ao,P.cellsOf e',rfl,trivial,s2,pq,cD _ _ _ (fun k y hy=> ?_)⟩
               obtain⟨_,_,q3,q4⟩:=ou k y hy
               rw[bx]
               refine⟨q3.symm,cC _ _ _ (fun j z hz=> ?_)⟩
               obtain⟨v,v1,v2⟩:=q4 j z hz
               rw[addr_add,addr_add] at v1
               exact⟨v,v1,v2⟩
     |struct fs=>
       simp only[Bool.and_eq_true,decide_eq_true_eq] at ib
       simp only at h
       obtain⟨cV,ib⟩:=ib
       rw[List.all_eq_true] at ib
       split at h
       · rename_i jj
         obtain⟨xs,hx,h⟩:=Option.map_eq_some_iff.1 h
         simp only[Prod.mk.injEq] at h
         obtain⟨rfl,rfl⟩:=h
         obtain⟨hlen,ec⟩:=en hx
         have sk:xs.length=fs.size:=by simpa using hlen
         have c6:∀i,i<fs.size→∃y:IV,(∀f,fs[i]?=some f→Sh P f.type y)∧(∀x,xs[i]?=some x→y.wt≤B.bk x.1)∧∃v,cs[i]?=some v∧bA w (fun _=>True) y v:=by
           intro i hi
           have hf:=ib i (by simpa using hi)
           obtain⟨f,uv⟩:∃f,fs[i]?=some f:=⟨_,Array.getElem?_eq_getElem hi⟩
           rw[uv] at hf
           simp only[Bool.and_eq_true,decide_eq_true_eq,List.contains_eq_mem] at hf
           obtain⟨⟨⟨f1,f2⟩,f3⟩,f4⟩:=hf
           obtain⟨x,e1,e2⟩:=ec i f (by simpa using uv)
           rw[f3,f4] at e2
           obtain⟨y,y1,y2,y3,y4⟩:=ih f.type _ x.1 x.2 (by simpa using f1) e2
           have bE:y.cells=[y]:=by
             cases y1 with
             |g so _ _=>unfold lE at f2;rw[so] at f2;simp at f2
             |_=>rfl
           refine⟨y,fun f' sM=>by rw[uv] at sM;cases sM;exact y1,fun x' sn=>by rw[e1] at sn;cases sn;exact y2,?_⟩
           obtain⟨v,v1,v2⟩:=y4 0 y (by rw[bE];rfl)
           refine⟨v,?_,v2⟩
           rw[List.getElem?_take] at v1
           split at v1
           · rw[List.getElem?_drop] at v1;simpa using v1
           · simp at v1
         obtain⟨ys,ur,ou⟩:=build fs.size c6
         refine⟨.agg ys,.g hu ur (fun j f y hf hy=>(ou j y hy).1 f hf),?_,by simp only[IV.cells];omega,fun j z hz=>(ou j z hz).2.2⟩
         have h1:=iW (g:=fun x:DataW H×List MemPlace=>B.bk x.1) ys xs (by omega) (fun i y x hy hx=>(ou i y hy).2.1 x hx)
         have h2:=B.ag (xs.map fun x=>x.1)
         simp only[List.map_map] at h2
         simp only[IV.wt]
         exact Nat.le_trans (Nat.add_le_add_right h1 1) h2
       · simp at h
     |_=>simp at ib
end
end Go.Am

/- THE ABSTRACT MACHINE, part 26: how a law's contract closes its row. -/
namespace Go.Am
open Go Go.RowKit Go.ChangeShapes
def l7:Nat→Option (List IV):=fun _=>none
def fJ:Lb→Option Nat:=fun _=>none
theorem lF (P:Program) (W:World):aj (bh P l7 W (fun _=>True) fJ Hp.none) fJ Env.any Hp.none fi W:=
 { defers := rfl,size := rfl
   cd:=fun n=>by simp[Env.any,RV]
   rows:=fun l r h=>by simp[Hp.none] at h
   own:=fun l g ⟨r,h⟩=>by simp[Hp.none] at h
   inj:=fun l l' g ⟨r,h⟩=>by simp[Hp.none] at h
   bB:=fun n=>by simp[Env.any,AV.aw]
   aK:=fun l r h=>by simp[Hp.none] at h
   frame:=⟨rfl,rfl,rfl,Nat.le_refl _,fun _ _ _=>rfl,fun _ _ h=>h⟩
   cx:=fun l ⟨r,h⟩=>by simp[bh,Hp.none] at h
   fr:=fun l g ⟨r,h⟩=>by simp[Hp.none] at h
   cf:=fun g cs hg=>by simp[bh,l7] at hg}
theorem run_pure {P:Program} {f:Nat} {args:List AV} {res:AV} {vs:List Value} {W:World} (hp:aW P l7 f args res) (hv:au W fJ Hp.none (fun _=>True) args vs) :
  Calls P f vs.toArray W fun e W'=>∃v,e= .returned v∧Below W.heap.size W W'∧RV W' fJ Hp.none (fun _=>True) res v:=by
 have hI:∀k,Im (bh P l7 W (fun _=>True) fJ Hp.none) fJ Hp.none k:=fun k=>⟨.inl trivial,fun l ⟨r,h⟩=>by simp[Hp.none] at h⟩
 refine(fU (lF P W) hp (au.mono _ _ ?_ hv) trivial).mono ?_
 ·exact {im:=fun k _ hs=>⟨hI k,hs,rfl⟩,lb:=fun l _ ⟨r,h⟩=>by simp[Hp.none] at h}
 ·rintro e W' ⟨v,rfl,h1,h2⟩;refine⟨v,rfl,h1,RV.mono _ _ ?_ h2⟩;exact {im:=fun k _ hs=>⟨trivial,hs,rfl⟩,lb:=fun l _ ⟨r,h⟩=>by simp[Hp.none] at h}
section
variable {H:Type} {enc:TypeId×Value→H} {P:Program}
def gE (P:Program) (t:TypeId):Bool:=P.readableRec t&&decide (t<P.types.size)
theorem dG (hl:laidOutB P=true) {W W':World} (hb:Below W.heap.size W W') {sp:Nat→Bool}:∀{ts:List TypeId} {vs:List Value} {ds:List (DataW H)} {ps:List MemPlace},ts.all (gE P)=true →
  DataW.TrodAll enc P W 0 (fun _=>true) true ts vs ds ps→(∀x∈ps,x.block<W.heap.size)→(∀x∈ps,sp x.block=true)→DataW.TrodAll enc P W' 0 sp true ts vs ds ps
 |[],_,_,_,_,h,_,_=>by
  obtain⟨rfl,rfl,rfl⟩:=trodAll_nil h;rfl
 |t::ts,_,_,_,hr,h,dI,hs=>by
  obtain⟨v,xi,d,xj,a,b,rfl,rfl,rfl,h1,h2⟩:=trodAll_cons h;simp only[List.all_cons,Bool.and_eq_true,gE,decide_eq_true_eq] at hr;refine⟨a,b,WideElems.Trod_stays hl hr.1.1 hr.1.2 h1 (fun x hx=>hb.same (dI x (by simp[hx]))) (fun x hx=>hs x (by simp[hx])),?_,rfl⟩;exact dG hl hb hr.2 h2 (fun x hx=>dI x (by simp[hx])) (fun x hx=>hs x (by simp[hx]))
theorem lG {f:Func} {s:ChangeSpec} {apart fresh handsOn again:Bool} {W W':World} {args:Array Value} {ds gs:List (DataW H)} {before:List MemPlace} {tb:TypeId} (hl:laidOutB P=true)
  (hr:f.params.toList.all (gE P)=true) (g_:f.resultTypes=#[tb]) (s8:P.underlying tb=some .bool) (ic:s.vars=[]) (kM:s.fn H ds={results:=[.lit (.bool true)],args:=ds})
  (hW:DataW.Whole enc P f.params.toList s.vars apart W args.toList ds gs before) (hb:Below W.heap.size W W') :
  s.post enc P f apart fresh handsOn again W args (.bool true) W':=by
 have s9:=hW;have dI:=hW.lt;obtain⟨p,q,hA,hV,rfl,hz,hn⟩:=hW;rw[ic] at hV;obtain⟨rfl,rfl⟩:=trodVars_none hV;simp only[List.append_nil] at s9 dI hz hn;have qk:s.fn H (ds++[])={results:=[.lit (.bool true)],args:=ds}:=by rw[List.append_nil];exact kM
 have jr:∀sp:Nat→Bool,(∀x∈p,sp x.block=true)→DataW.TrodAll enc P W' 0 sp true f.params.toList args.toList ds p:=fun sp hs=>dG hl hb hr hA dI hs
 have eT:∀(b:Nat) (sp:Nat→Bool) (hd:Bool),DataW.TrodAll enc P W' b sp hd f.resultTypes.toList ((Value.bool true).resultList f.resultTypes.size) [.lit (.bool true)] []:=by
  intro b sp hd;rw[g_];exact trodAll_cons_mk (shut_bool s8 _) trodAll_mk0
 have uu:∀sp:Nat→Bool,DataW.TrodVars enc P W' sp s.vars (s.fn H (ds++[])).vars []:=by
  intro sp;rw[ic,qk];rfl
 refine⟨ds,[],p,[],p,[],s9,by rw[qk];exact eT _ _ _,by rw[qk];exact jr _ (fun x hx=>by simpa using dI x hx),uu _,hb.frame _,fun _=> ?_⟩;have wG:DataW.TrodVars enc P W' (fun _=>true) s.vars [] []:=by rw[ic];rfl
 refine⟨ok_one g_ rfl (okWide_bool_mk s8 _),_,_,([]++p)++[],⟨[]++p,[],trodAll_append (jr _ (fun _ _=>rfl)) (eT _ _ _),wG,by simp,?_,?_⟩,?_⟩
 ·intro b off hp;have qO:MemPlace.cell b off∈p:=by simpa using hp
  rw[hb.frozen (p:=⟨b,off,none⟩) (dI _ qO)];exact hz b off qO
 ·intro ha;simpa using hn ha
 ·intro x hx _;simpa using hx
end
end Go.Am

/- THE ABSTRACT MACHINE, part 29: arguments that are read; a law's contract. -/
namespace Go.Am
open Go Go.RowKit Go.ChangeShapes
section
variable {H:Type} {enc:TypeId×Value→H} {P:Program}
theorem lH {W:World}:∀(ys:List IV) (cs:List Value),ys.length=cs.length→(∀z∈ys,∀q,z≠ .agg q)→(∀(j:Nat) (z:IV),ys[j]?=some z→∃v,cs[j]?=some v∧bA W (fun _=>True) z v) →
  au W fJ Hp.none (fun _=>True) (ys.map IV.bV) cs
 |[],[],_,_,_=>by simp[au]
 |[],v::cs,h,_,_=>by simp at h
 |y::ys,[],h,_,_=>by simp at h
 |y::ys,v::cs,h,hf,hg=>by
  obtain⟨v',h1,h2⟩:=hg 0 y (by simp);simp at h1;subst h1;refine⟨v,cs,rfl,?_,lH ys cs (by simpa using h) (fun z hz=>hf z (by simp[hz])) (fun j z hz=>by simpa using hg (j+1) z (by simpa using hz))⟩;cases y with
  |agg q=>exact absurd rfl (hf _ (by simp) q)
  |_=>simpa[IV.bV,RV,bA] using h2
theorem ql (B:Bk H) {T:List TypeId} (hT:∀t∈T,qj P T t=true) {W:World} {t:TypeId} (ht:t∈T) {v:Value} {d:DataW H} {ps:List MemPlace} {r:Reach}
  {b0:Nat} (fo:Value.okWide P W r b0 t v) (h:DataW.Trod enc P W 0 (fun _=>true) true t v d ps) :
  ∃y:IV,Sh P t y∧y.wt≤B.bk d∧RV W fJ Hp.none (fun _=>True) y.av v:=by
 obtain⟨fuel,h⟩:=h;obtain⟨y,h1,h2,h3,h4⟩:=read B hT fuel t _ d ps ht h;refine⟨y,h1,h2,?_⟩
 have one:∀u:TypeDesc,P.underlying t=some u→(∀fs,u≠ .struct fs)→(∀n e,u≠ .array n e)→(∀cs,y≠ .agg cs)→RV W fJ Hp.none (fun _=>True) y.av v:=by
  intro u hu hs ha hy;have hc:y.cells=[y]:=by cases y<;>first|rfl|exact absurd rfl (hy _)
  have hv:v.cells=#[v]:=by
   cases v with
   |agg cs=>
    unfold Value.okWide at fo;rw[hu] at fo;cases u<;>simp_all[Cell.okWide,Cell.ok]
   |_=>rfl
  rw[hc,hv] at h4;obtain⟨v',e1,e2⟩:=h4 0 y rfl;simp at e1;subst e1;cases y<;>first|(simpa[IV.av,IV.bV,RV,bA] using e2)|exact absurd rfl (hy _)
 cases h1 with
 |b hu=>exact one _ hu (by simp) (by simp) (by simp)
 |i hu _=>exact one _ hu (by simp) (by simp) (by simp)
 |s hu=>exact one _ hu (by simp) (by simp) (by simp)
 |l hu _=>exact one _ hu (by simp) (by simp) (by simp)
 |@g _ fs ys hu hl hf=>
  have ib:=hT t ht;unfold qj at ib;rw[hu] at ib;simp only[Bool.and_eq_true,decide_eq_true_eq,List.all_eq_true] at ib;unfold Value.okWide at fo;rw[hu] at fo;obtain⟨cs,rfl,cV,_⟩:=fo;simp only[IV.av,RV];refine⟨cs.toList,by simp,lH ys _ (by simpa[IV.cells,Value.cells] using h3) ?_ (fun j z hz=>by simpa[Value.cells] using h4 j z (by simpa[IV.cells] using hz))⟩;intro z hz q e
  obtain⟨j,hj⟩:=List.getElem?_of_mem hz;have n9:j<fs.size:=by rw[←hl];exact(List.getElem?_eq_some_iff.1 hj).1
  obtain⟨f,vo⟩:∃f,fs[j]?=some f:=⟨_,Array.getElem?_eq_getElem n9⟩;have h5:=hf j f z vo hj;have h6:=ib.2 j (by simpa using n9);rw[vo] at h6;simp only[Bool.and_eq_true] at h6;have h7:=h6.1.1.2;subst e;cases h5 with
  |g so _ _=>unfold lE at h7;rw[so] at h7;simp at h7
inductive sq (P:Program):List TypeId→List IV→Prop
 |nil:sq P [] []
 |cons {t:TypeId} {y:IV} {ts:List TypeId} {ys:List IV}:Sh P t y→sq P ts ys→sq P (t::ts) (y::ys)
theorem jx (B:Bk H) {T:List TypeId} (hT:∀t∈T,qj P T t=true) {W:World} {r:Reach} {b0:Nat}:∀{ts:List TypeId} {vs:List Value} {ds:List (DataW H)} {ps:List MemPlace},(∀t∈ts,t∈T) →
  (∀(j:Nat) (t:TypeId) (v:Value),ts[j]?=some t→vs[j]?=some v→Value.okWide P W r b0 t v)→DataW.TrodAll enc P W 0 (fun _=>true) true ts vs ds ps →
  ∃ys:List IV,sq P ts ys∧fm ys≤(ds.map B.bk).sum∧au W fJ Hp.none (fun _=>True) (ys.map IV.av) vs
 |[],vs,ds,ps,_,_,h=>by
  obtain⟨rfl,rfl,rfl⟩:=trodAll_nil h;exact⟨[],.nil,by simp[fm],by simp[au]⟩
 |t::ts,vs,ds,ps,ht,hv,h=>by
  obtain⟨v,vs,d,ds,p,q,rfl,rfl,rfl,h1,h2⟩:=trodAll_cons h;obtain⟨y,k1,k2,k3⟩:=ql B hT (ht t (by simp)) (hv 0 t v rfl rfl) h1;obtain⟨ys,q1,q2,q3⟩:=jx B hT (fun t' h'=>ht t' (by simp[h'])) (fun j t' v' a b=>hv (j+1) t' v' (by simpa using a) (by simpa using b)) h2;exact⟨y::ys,.cons k1 q1,by simp only[fm,List.map_cons,List.sum_cons];omega,by simp only[List.map_cons,au];exact⟨v,vs,rfl,k3,q3⟩⟩
theorem eM {W:World} {b0:Nat} {sp:Nat→Bool} {hd:Bool}:∀{ts:List TypeId} {vs:List Value} {ds:List (DataW H)} {ps:List MemPlace},DataW.TrodAll enc P W b0 sp hd ts vs ds ps→ds.length=ts.length
 |[],vs,ds,ps,h=>by
  obtain⟨_,rfl,_⟩:=trodAll_nil h;rfl
 |t::ts,vs,ds,ps,h=>by
  obtain⟨v,vs,d,ds,p,q,rfl,rfl,rfl,_,h2⟩:=trodAll_cons h;simp[eM h2]
theorem gF (B:Bk H) {T:List TypeId} (hT:∀t∈T,qj P T t=true) {f:Nat} {fn:Func} {s:ChangeSpec} {apart fresh handsOn again:Bool} {tb:TypeId} (hl:laidOutB P=true)
  (hp:∀t∈fn.params.toList,t∈T) (hr:fn.params.toList.all (gE P)=true) (g_:fn.resultTypes=#[tb]) (s8:P.underlying tb=some .bool) (ic:s.vars=[])
  (W:World) (base:Nat) (args:Array Value) (ds gs:List (DataW H)) (before:List MemPlace)
  (kM:∀ds:List (DataW H),ds.length=fn.params.toList.length→s.fn H ds={results:=[.lit (.bool true)],args:=ds})
  (fo:∀(j:Nat) t v,fn.params[j]?=some t→args[j]?=some v→Value.okWide P W .any base t v)
  (hW:DataW.Whole enc P fn.params.toList s.vars apart W args.toList ds gs before)
  (hg:∀ys,sq P fn.params.toList ys→fm ys≤(ds.map B.bk).sum→aW P l7 f (ys.map IV.av) (.bool true)) :
  Calls P f args W fun e W'=>∃v,e= .returned v∧s.post enc P fn apart fresh handsOn again W args v W':=by
 have s9:=hW;obtain⟨p,q,hA,hV,rfl,hz,hn⟩:=s9;obtain⟨ys,h1,h2,h3⟩:=jx B hT hp (fun j t v a b=>fo j t v (by simpa using a) (by simpa using b)) hA;have:=run_pure (hg ys h1 h2) h3;simp only[Array.toArray_toList] at this;refine this.mono ?_;rintro e W' ⟨v,rfl,hb,hv⟩;simp only[RV] at hv;subst hv;exact⟨_,rfl,lG hl hr g_ s8 ic (kM ds (eM hA)) hW hb⟩
end
end Go.Am

/- THE ABSTRACT MACHINE, part 27: loops by lists of slots; forks by their sides. -/
namespace Go.Am
open Go Go.RowKit
def s_:List (Nat×AV)→Env
 |[]=>Env.any
 |(n,x)::r=>put (s_ r) n x
theorem nS:s_ []=Env.any:=rfl
theorem lI (n:Nat) (x:AV) (r:List (Nat×AV)):s_ ((n,x)::r)=put (s_ r) n x:=rfl
def ta (ρ:Lb→Lb) (env:Env):List (Nat×AV)→Prop
 |[]=>True
 |(n,x)::r=>env n=ba ρ x∧ta ρ env r
def nT (env:Env):List (Nat×AV)→Prop
 |[]=>True
 |(n,x)::r=>env n=x∧nT env r
theorem nT.eql {env:Env}:∀{ps:List (Nat×AV)},nT env ps→ta id env ps
 |[],_=>trivial
 |(n,x)::r,h=>⟨by rw[gC];exact h.1,nT.eql h.2⟩
def NF (H:Hp):Prop:=∀l:Lb,l.fresh=false→H l= .unused
theorem nU:NF Hp.none=True:=by simp[NF,Hp.none]
theorem qm (H:Hp) (n:Nat) (s:Slot):NF (aD H (.loc n) s)=NF H:=by
 apply propext;constructor
 ·intro h l hl;have:=h l hl;have dm:l≠ .loc n:=by rintro rfl;simp[Lb.fresh] at hl
  rwa[ah _ _ dm] at this
 ·exact qf
def lJ {σ:Type} (S:St) (Q:dw) (k:List It) (W:Env→Hp→σ→Prop) (μ:σ→Nat) (n:Nat):dw:=fun e env H=>
 match e with
 | .normal=>∃s,μ s<n∧W env H s
 | .exit id=>match a_ id k with
  |some k'=>go S Q k' env H
  |none=>Q (.exit id) env H
 | .ret=>Q .ret env H
 |_=>False
def WD {σ:Type} (ps:σ→List (Nat×AV)) (env:Env) (H:Hp) (s:σ):Prop:=NF H∧nT env (ps s)
def ko:List (Lb×Lb)→Lb→Lb
 |[],l=>l
 |(a,b)::t,l=>if l=a then b else ko t l
def tc (ρ:Lb→Lb) (H:Hp):List (Lb×Row)→Prop
 |[]=>True
 |(l,r)::t=>H (ρ l)= .live (b9 ρ r)∧tc ρ H t
def wH (H:Hp) (ls:List Lb):Prop:=∀l:Lb,l.fresh=false→H l≠ .unused→l∈ls
structure xk (ls:List Lb) (ps:List (Nat×AV)) (rs:List (Lb×Row)) (env:Env) (H:Hp) (m:List (Lb×Lb)):Prop where
 nf:wH H ls
 e:ta (ko m) env ps
 r:tc (ko m) H rs
 inj:(ls.map (ko m)).Nodup
 fr:∀l∈ls,(l.fresh=true→(ko m l).fresh=true)∧(l.fresh=false→ko m l=l)
section
variable {σ:Type} {S:St} {Q:dw} {k:List It} {W:Env→Hp→σ→Prop} {μ:σ→Nat} {n:Nat} {env:Env} {H:Hp}
theorem uw:lJ S Q k W μ n .normal env H=∃s,μ s<n∧W env H s:=rfl
theorem ux (id:Nat):lJ S Q k W μ n (.exit id) env H=match a_ id k with
 |some k'=>go S Q k' env H
 |none=>Q (.exit id) env H:=rfl
theorem uy:lJ S Q k W μ n .ret env H=Q .ret env H:=rfl
theorem nV:nT env []=True:=rfl
theorem lK (n:Nat) (x:AV) (r:List (Nat×AV)):nT env ((n,x)::r)=(env n=x∧nT env r):=rfl
end
theorem uz (env:Env) (n:Nat):ev env (.t n)=env n:=rfl
theorem uE (env:Env) (x:AV):ev env (.c x)=x:=rfl
theorem qn (n:Nat) (h:n≤4000):(n≤maxLen)=True:=by simp[maxLen];omega
end Go.Am

/- THE ABSTRACT MACHINE, part 28: the walk's equations, in few words. -/
namespace Go.Am
open Go Go.RowKit
theorem qo (b:Bool) (A B:Prop) (u:Tp A B):cK (.bool (!b)) A B u=cK (.bool b) B A .mk:=by cases b<;>simp[cK]
theorem qp (b t:Bool) (A B:Prop) (u:Tp A B):gB (.bool (!b)) t A B u=gB (.bool b) (!t) A B .mk:=by cases b<;>cases t<;>simp[gB]
theorem jy (args:List AV) (n:Nat):hZ args n=args.getD n .un:=rfl
theorem jz (l:Lb):Hp.none l= .unused:=rfl
theorem qq (n:Nat):Env.any n= .any:=rfl
theorem sr {σ:Type} (ps:σ→List (Nat×AV)) (env:Env) (H:Hp) (s:σ):WD ps env H s=(NF H∧nT env (ps s)):=rfl
theorem ke (cs:List IV):(IV.agg cs).cells=cs:=rfl
theorem ss (b:Bool):(false ^^ b)=b:=by cases b<;>rfl
theorem su (b:Bool):(true ^^ b)= !b:=by cases b<;>rfl
def wI:=And.intro @List.getD_cons_zero.{0} (And.intro @List.getD_cons_succ.{0} (And.intro @List.length_map.{0,0} (And.intro @List.length_cons.{0} (And.intro @List.length_nil.{0} (And.intro @lC (And.intro @List.getElem?_cons_zero.{0} (And.intro @List.getElem?_cons_succ.{0} (And.intro @Option.bind_some.{0,0} (And.intro @Option.map_some.{0,0} (And.intro @List.map_cons.{0,0} (And.intro @List.map_nil.{0,0} (And.intro @Int.natCast_nonneg (And.intro @Int.toNat_natCast (And.intro @List.all_cons.{0} (And.intro @List.all_nil.{0} (And.intro @List.take_succ_cons.{0} (And.intro @List.take_zero.{0} (And.intro @List.drop_succ_cons.{0} (And.intro @List.drop_zero.{0} (And.intro @List.cons_append.{0} (And.intro @List.nil_append.{0} (And.intro @List.append_nil.{0} (And.intro @List.set_cons_zero.{0} (And.intro @List.set_cons_succ.{0} (And.intro @List.take_nil.{0} (And.intro @List.drop_nil.{0} (And.intro @List.replicate_one.{0} (And.intro @List.flatten_cons.{0} (And.intro @List.flatten_nil.{0} (And.intro @jy (And.intro @jz (And.intro @qq (And.intro @uz (And.intro @uE (And.intro @uw (And.intro @ux (And.intro @uy (And.intro @nS (And.intro @lI (And.intro @nV (And.intro @lK (And.intro @nU (And.intro @qm (And.intro @qo (And.intro @qp (And.intro @sr (And.intro @ke (And.intro @ss @su))))))))))))))))))))))))))))))))))))))))))))))))
def wJ:=And.intro @Nat.zero_mul (And.intro @Nat.zero_add (And.intro @Nat.mul_one (And.intro @Nat.le_refl (And.intro @qn (And.intro @Bool.and_self (And.intro @Bool.and_true (And.intro @Bool.true_and (And.intro @Bool.not_true (And.intro @Bool.not_false (And.intro @Bool.not_not (And.intro @true_and (And.intro @and_true (And.intro @or_false (And.intro @implies_true.{1} (And.intro @false_implies (@List.mem_cons.{0}))))))))))))))))
def uF (x:AV) (k:AV→Prop) (_:Tv k):Prop:=∃R,mG x=some R∧∀m,R m→m≤maxLen→k (.int .i64 (m:Int))
def wK (S:St) (f:Nat) (args:List AV) (H:Hp) (k:AV→Prop) (_:Tv k):Prop:=∃res,r7 S f args H res∧k res
section
variable {S:St} {Q:dw} {env:Env} {H:Hp}
theorem qt (d:Option Nat) (x:O) (k:AV→Hp→Prop):an S d (.cap x) env H k=uF (ev env x) (fun y=>k y H) .mk:=rfl
theorem qu (d:Option Nat) (s x:O) (sz:Nat) (k:AV→Hp→Prop):an S d (.gO s x sz) env H k=pK (iN sz (ev env s) (ev env x) H) k .mk:=rfl
theorem qv (d:Option Nat) (x:O) (sz:Nat) (z:List AV) (k:AV→Hp→Prop):an S d (.ir x sz z) env H k=hK (iO sz z (ev env x) H) (fun H'=>k (.eN []) H') .mk:=rfl
theorem qw (q:Nat) (n c:O) (sz b:Nat) (z:List AV) (k:AV→Hp→Prop):an S (some q) (.jc n c sz b z) env H k=pK (jR sz b q z (ev env n) (ev env c) H) k .mk:=by
 simp[an,pK]
theorem lL (d:Option Nat) (f:Nat) (args:List O) (k:AV→Hp→Prop):an S d (.dW f args) env H k=wK S f (args.map (ev env)) H (fun y=>k y H) .mk:=rfl
theorem nW d x n sz (k:AV→Hp→Prop):an S d (.gj x n sz) env H k=aG (aa (.gj x n sz) env) (fun x=>k x H) .mk:=rfl
theorem nX d s x sz b (k:AV→Hp→Prop):an S d (.fB s x sz b) env H k=aG (aa (.fB s x sz b) env) (fun x=>k x H) .mk:=rfl
theorem lM d x n sz (k:AV→Hp→Prop):ae S .no d (.gj x n sz) env H k=aG (aa (.gj x n sz) env) (fun x=>k x H) .mk:=by simp only[ae,Quiet,aG,or_false]
theorem lN d s x sz b (k:AV→Hp→Prop):ae S .no d (.fB s x sz b) env H k=aG (aa (.fB s x sz b) env) (fun x=>k x H) .mk:=by simp only[ae,Quiet,aG,or_false]
theorem qx (R W:List Lb) (d:Option Nat) (s x:O) (sz:Nat) (k:AV→Hp→Prop):ae S (.rw R W) d (.gO s x sz) env H k =
  pK (iN sz (ev env s) (ev env x) H) (fun y H'=>(∀l∈bU (ev env x),l.c8∈R∨l.c8∈W)∧(∀l∈bU (ev env s),l.c8∈W)∧k y H') .mk:=by
 simp only[ae,aP,aE,af,pK]
theorem qy (R W:List Lb) (d:Option Nat) (x:O) (sz:Nat) (z:List AV) (k:AV→Hp→Prop):ae S (.rw R W) d (.ir x sz z) env H k =
  hK (iO sz z (ev env x) H) (fun H'=>(∀l∈bU (ev env x),l.c8∈W)∧k (.eN []) H') .mk:=by
 apply propext;simp only[ae,aP,aE,af,hK];constructor
 ·rintro⟨x1,H',h1,_,h2,h3⟩;obtain⟨H2,h5,h4⟩:=Option.map_eq_some_iff.1 h1;simp only[Prod.mk.injEq] at h4;obtain⟨rfl,rfl⟩:=h4;exact⟨H2,h5,h2,h3⟩
 ·rintro⟨H2,h1,h2,h3⟩;exact⟨.eN [],H2,by rw[h1];rfl,by simp,h2,h3⟩
theorem nY (q:Nat) (s n:O) (sz b:Nat) (z:List AV) (k:AV→Hp→Prop):an S (some q) (.gk s n sz b z) env H k=pK (jm sz b q z (ev env s) (ev env n) H) k .mk:=by
 simp[an,pK]
theorem lO (q:Nat) (sz:Nat) (z:List AV) (ps:List (Nat×O)) (k:AV→Hp→Prop):an S (some q) (.bX sz z ps) env H k=pK (iP sz q z (ps.map fun p=>(p.1,ev env p.2)) H) k .mk:=by
 simp[an,pK]
theorem lP (R W:List Lb) (q:Nat) (sz:Nat) (z:List AV) (ps:List (Nat×O)) (k:AV→Hp→Prop):ae S (.rw R W) (some q) (.bX sz z ps) env H k =
  pK (iP sz q z (ps.map fun p=>(p.1,ev env p.2)) H) (fun y H'=>Lb.loc q∈W∧k y H') .mk:=by
 simp[ae,aP,aE,af,pK,Lb.c8]
theorem qz d f qs cs (k:AV→Hp→Prop):an S d (.ml f qs cs) env H k=aG (aa (.ml f qs cs) env) (fun x=>k x H) .mk:=rfl
theorem nZ d f qs cs (k:AV→Hp→Prop):ae S .no d (.ml f qs cs) env H k=aG (aa (.ml f qs cs) env) (fun x=>k x H) .mk:=by simp only[ae,Quiet,aG,or_false]
theorem qA (d:Option Nat) (i:az) (k:AV→Hp→Prop):ae S .all d i env H k=an S d i env H k:=rfl
def uG (S:St) (F:List Lb) (f:Nat) (args:List AV) (H:Hp) (k:AV→Hp→Prop) (_:Tw k):Prop:=sb S F f args H k
theorem qB (F:List Lb) (d:Option Nat) (f:Nat) (args:List O) (k:AV→Hp→Prop):ae S (.hM F) d (.call f args) env H k=uG S F f (args.map (ev env)) H k .mk:=rfl
end
def wL:=And.intro @nY<|And.intro @lO<|And.intro @lP<|And.intro @qz<|And.intro @nZ<|And.intro @qt (And.intro @qu (And.intro @qv (And.intro @qw (And.intro @lL (And.intro @nW (And.intro @nX (And.intro @lM (And.intro @lN (And.intro @qx (And.intro @qy<|And.intro @qB @qA))))))))))
def aX:=And.intro wD<|And.intro wL<|And.intro lu<|And.intro lv<|And.intro @nR<|And.intro @lD<|And.intro @qi<|And.intro @qg @qh
def mP:=And.intro Lb.loc.injEq<|And.intro Lb.par.injEq<|And.intro Lb.gen.injEq<|And.intro @iZ<|And.intro @i_<|And.intro @ja<|And.intro @gN<|And.intro Bool.false_eq_true<|And.intro Int.le_refl Int.toNat_zero
def mX:=And.intro wE (And.intro wI (And.intro wJ (And.intro mP (And.intro @k8.eq_1 (And.intro @aa.eq_1 (And.intro @aa.eq_2 (And.intro @aa.eq_3 (And.intro @aa.eq_4 (And.intro @aa.eq_5 (And.intro @aa.eq_6 (And.intro @aa.eq_7 (And.intro @aa.eq_8 (And.intro @aa.eq_9 (And.intro @aa.eq_10 (And.intro @aa.eq_11 (And.intro @aa.eq_12 (And.intro @aa.eq_13 (And.intro @aa.eq_14 (And.intro @aa.eq_15 (And.intro @aa.eq_16 (And.intro @aa.eq_17 (And.intro @aa.eq_18 (And.intro @aa.eq_19 (And.intro @aa.eq_20 (And.intro @aa.eq_21 (And.intro @aa.eq_22 (And.intro @aa.eq_23 (And.intro @aa.eq_24 (And.intro @aa.eq_25 (And.intro @aa.eq_26 (And.intro @aa.eq_27 (And.intro @aa.eq_28 (And.intro @aa.eq_29 (And.intro @aa.eq_30 (And.intro @aa.eq_31 (And.intro @aa.eq_32 (And.intro @aa.eq_33 (And.intro @aa.eq_34 (And.intro @aa.eq_35 (And.intro @aa.eq_36 (And.intro @bZ.eq_1 (And.intro @bZ.eq_2 (And.intro @bZ.eq_3 (And.intro @bZ.eq_4 (And.intro @bZ.eq_5 (And.intro @bZ.eq_6 (And.intro @bZ.eq_7 (And.intro @bZ.eq_8 (And.intro @bZ.eq_9 (And.intro @bZ.eq_10 (And.intro @bZ.eq_11 (And.intro @bZ.eq_12 (And.intro @bZ.eq_13 (And.intro @bZ.eq_14 (And.intro @bZ.eq_15 (And.intro @bZ.eq_16 (And.intro @bZ.eq_17 (And.intro @bZ.eq_18 (And.intro @bZ.eq_19 (And.intro @bZ.eq_20 (And.intro @bZ.eq_21 (And.intro @bZ.eq_22 (And.intro @bt.eq_1 (And.intro @bt.eq_2 (And.intro @cM.eq_1 (And.intro @cM.eq_2 (And.intro @sh.eq_1 (And.intro @sh.eq_2 (And.intro @sh.eq_3 (And.intro @bU.eq_1 (And.intro @bU.eq_2 (And.intro @bU.eq_3 (And.intro @bU.eq_4 (And.intro @ka.eq_1 (And.intro @ka.eq_2 (And.intro @ka.eq_3 (And.intro @bI.eq_1 (And.intro @bI.eq_2 (And.intro @chunks.eq_1 (And.intro @chunks.eq_2 (And.intro @iy.eq_1 (And.intro @iy.eq_2 (And.intro @oC.eq_1 (And.intro @oC.eq_2 (And.intro @AV.cells.eq_1 (And.intro @AV.cells.eq_2 (And.intro @AV.jH.eq_1 (And.intro @AV.jH.eq_2 (And.intro @AV.one.eq_1 (And.intro @AV.one.eq_2 (And.intro @AV.one.eq_3 (And.intro @AV.one.eq_4 (And.intro @AV.one.eq_5 (And.intro @IV.bV.eq_1 (And.intro @IV.bV.eq_2 (And.intro @IV.bV.eq_3 (And.intro @IV.bV.eq_4 (And.intro @IV.bV.eq_5 (And.intro @Lb.app.eq_1 (And.intro @Lb.fresh.eq_1 (And.intro @Lb.fresh.eq_2 (And.intro @Lb.fresh.eq_3 (And.intro @AV.iv.eq_1 (And.intro @AV.iv.eq_2 (And.intro @AV.iv.eq_3 (And.intro @AV.iv.eq_4 (And.intro @AV.iv.eq_5 (And.intro @AV.iv.eq_6 (And.intro @if_true.{1} (And.intro @if_false.{1} (And.intro @List.not_mem_nil.{0} (And.intro @forall_eq.{1} (And.intro @beq_self_eq_true.{0} @List.isEmpty_nil.{0})))))))))))))))))))))))))))))))))))))))))))))))))))))))))))))))))))))))))))))))))))))))))))))))))))))))))))))))))
def lX:=And.intro @ev.eq_1 (And.intro @ev.eq_2 (And.intro @jy (And.intro @List.getD_cons_zero.{0} (And.intro @List.getD_cons_succ.{0} (And.intro @true_and (And.intro @and_true (And.intro @List.length_map.{0,0} (And.intro @List.length_cons.{0} (And.intro @List.length_nil.{0} (And.intro @lC (And.intro @Lb.loc.injEq (And.intro @List.getElem?_cons_zero.{0} (And.intro @List.getElem?_cons_succ.{0} (And.intro @Option.bind_some.{0,0} (And.intro @Option.map_some.{0,0} (And.intro @List.map_cons.{0,0} (And.intro @List.map_nil.{0,0} (And.intro @Int.natCast_nonneg (And.intro @Int.toNat_natCast (And.intro @List.all_cons.{0} (And.intro @List.all_nil.{0} (And.intro @Bool.and_self (And.intro @Bool.and_true (And.intro @Bool.true_and (And.intro @List.take_succ_cons.{0} (And.intro @List.take_zero.{0} (And.intro @List.drop_succ_cons.{0} (And.intro @List.drop_zero.{0} (And.intro @List.cons_append.{0} (And.intro @List.nil_append.{0} (And.intro @List.append_nil.{0} (And.intro @List.set_cons_zero.{0} (And.intro @iZ (And.intro @i_ (And.intro @ja (And.intro @gN (And.intro @Bool.false_eq_true (And.intro @List.mem_cons.{0} (And.intro @or_false (And.intro @false_implies (And.intro @implies_true.{1} (And.intro @jz (And.intro @Nat.le_refl (And.intro @List.set_cons_succ.{0} (And.intro @List.replicate_one.{0} (And.intro @List.flatten_cons.{0} (And.intro @List.flatten_nil.{0} (And.intro @Nat.zero_mul (And.intro @Nat.zero_add @Nat.mul_one)))))))))))))))))))))))))))))))))))))))))))))))))
end Go.Am

/- THE ABSTRACT MACHINE, part 30: functions that are handed one row of data by a pointer. -/
namespace Go.Am
open Go Go.RowKit
open Classical in
noncomputable def cb (kp:Lb→Prop) (H:Hp):Hp:=fun l=>match H l with
 | .live r=>if kp l then .live r else .dead
 |s=>s
theorem cP {kp:Lb→Prop} {H:Hp} {l:Lb} {r:Row}:cb kp H l= .live r↔H l= .live r∧kp l:=by
 unfold cb;cases h:H l with
 |live r'=>
  by_cases hk:kp l
  ·simp[hk]
  ·simp[hk]
 |unused=>simp
 |dead=>simp
theorem b4 {kp:Lb→Prop} {H:Hp} {l:Lb}:cb kp H l= .unused↔H l= .unused:=by
 unfold cb;cases h:H l with
 |live r'=>
  by_cases hk:kp l
  ·simp[hk]
  ·simp[hk]
 |unused=>simp
 |dead=>simp
section
variable {K:Kx} {β:Lb→Option Nat} {env:Env} {H:Hp} {a:Act} {w:World}
theorem aj.cb (hr:aj K β env H a w) (kp:Lb→Prop):aj K β env (Am.cb kp H) a w:=by
 have:=hr.mI id (env2:=env) (H2:=Am.cb kp H) (fun n=> .inr (gC _).symm) (fun l r h=>by rw[gD];exact(cP.1 h).1) (fun _ _ _ _ h=>h)
  (fun n l hl=>by rw[Ne,b4];exact hr.bB n l hl) (fun l r h cs aN q hq=>by rw[Ne,b4];exact hr.aK l r (cP.1 h).1 cs aN q hq)
  (fun l hl=>⟨by rw[Ne,b4];exact(hr.cx l hl).1,fun _=>rfl⟩) (fun _ _ h=>h)
 exact this
theorem lQ {K:Kx} {β:Lb→Option Nat} {H:Hp} (kp:Lb→Prop) {k:Nat} (h:Im K β H k):Im K β (Am.cb kp H) k:=
 ⟨h.1,fun l ⟨r,hl⟩=>h.2 l ⟨r,(cP.1 hl).1⟩⟩
theorem RV.cb {w:World} {β:Lb→Option Nat} {H:Hp} {x:AV} {v:Value} (kp:Lb→Prop) (h:RV w β H (Im K β H) x v):RV w β (Am.cb kp H) (Im K β (Am.cb kp H)) x v:=
 RV.mono x v {im:=fun k hk hs=>⟨lQ kp hk,hs,rfl⟩,lb:=fun l _ ⟨r,hl⟩=>⟨⟨r,(cP.1 hl).1⟩,rfl,fun _ _ _ h=>h⟩} h
end
theorem bQ.aT {P:Program} {G:Nat→Option (List IV)} {f:Nat} {args:List AV} {H:Hp} {Q:AV→Hp→Prop} (h:bQ P G f args H Q) (kp:Lb→Prop) :
  bQ P G f args H fun x H'=>∃H1,Q x H1∧H'=cb kp H1:=by
 intro w A β vs hr hv;refine(h w A β vs hr hv).mono ?_;rintro e w' ⟨v,x,H1,β',rfl,hq,jK,hx,hm⟩;exact⟨v,x,cb kp H1,β',rfl,⟨H1,hq,rfl⟩,jK.cb kp,hx.cb kp,fun l hl=>by rw[Ne,b4];exact hm l hl⟩
def uH (cs:List AV):Hp:=aD Hp.none (.par 0) (.live ⟨cs.length,[cs]⟩)
def qC (P:Program) (G:Nat→Option (List IV)) (f:Nat) (args:List AV) (cs:List AV) (R:AV→List AV→Prop):Prop:=
 (∀l∈ak args,l= .par 0)∧ak cs=[]∧bQ P G f args (uH cs) fun x H'=>∃kl,R x kl∧x.aw=[]∧ak kl=[]∧kl.length=cs.length∧H' (.par 0)= .live ⟨cs.length,[kl]⟩
theorem qC.mono {P:Program} {G:Nat→Option (List IV)} {f:Nat} {args cs:List AV} {R R':AV→List AV→Prop} (h:qC P G f args cs R) (hq:∀x c,R x c→R' x c):qC P G f args cs R':=
 ⟨h.1,h.2.1,h.2.2.mono fun x H ⟨c,h1,h2⟩=>⟨c,hq _ _ h1,h2⟩⟩
end Go.Am

/- THE ABSTRACT MACHINE, part 31: nil slices are empty lists. -/
namespace Go.Am
open Go Go.RowKit
mutual
def norm:AV→AV
 | .nil0=> .list []
 | .agg cs=> .agg (dH cs)
 | .eN cs=> .eN (dH cs)
 |x=>x
def dH:List AV→List AV
 |[]=>[]
 |x::r=>norm x::dH r
end
mutual
theorem ie:∀x:AV,(norm x).aw=x.aw
 | .nil0=>rfl
 | .agg cs=>by simp[norm,AV.aw,dq cs]
 | .eN cs=>by simp[norm,AV.aw,dq cs]
 | .sl ..| .slk ..| .ptr ..| .any| .un| .bool _| .int ..| .str _| .list _| .bY| .cT| .lptr _| .fn ..| .ifc ..=>rfl
theorem dq:∀xs:List AV,ak (dH xs)=ak xs
 |[]=>rfl
 |x::r=>by simp[dH,ak,ie x,dq r]
end
mutual
theorem RV.norm {w:World} {β:Lb→Option Nat} {H:Hp} {I:Nat→Prop}:∀(x:AV) (v:Value),RV w β H I x v→RV w β H I (Am.norm x) v
 | .nil0,v,h=>by
  simp only[RV] at h;obtain⟨a,rfl⟩:=h;simp only[Am.norm,RV,bA];exact⟨a,0,rfl,Nat.le_refl _,by simp[maxLen],.inl rfl⟩
 | .agg cs,v,h=>by
  simp only[RV,Am.norm] at h ⊢;obtain⟨vs,h1,h2⟩:=h;exact⟨vs,h1,au.norm cs vs h2⟩
 | .eN cs,v,h=>by
  simp only[RV,Am.norm] at h ⊢;obtain⟨vs,h1,h2⟩:=h;exact⟨vs,h1,au.norm cs vs h2⟩
 | .sl ..,v,h| .slk ..,v,h| .ptr ..,v,h| .any,v,h| .un,v,h| .bool _,v,h| .int ..,v,h| .str _,v,h| .list _,v,h| .bY,v,h| .cT,v,h| .lptr _,v,h| .fn ..,v,h| .ifc ..,v,h=>h
theorem au.norm {w:World} {β:Lb→Option Nat} {H:Hp} {I:Nat→Prop}:∀(xs:List AV) (vs:List Value),au w β H I xs vs→au w β H I (dH xs) vs
 |[],vs,h=>h
 |x::r,vs,h=>by
  simp only[au,dH] at h ⊢;obtain⟨v,us,h1,h2,h3⟩:=h;exact⟨v,us,h1,RV.norm x v h2,au.norm r us h3⟩
end
theorem bQ.n {P:Program} {G:Nat→Option (List IV)} {f:Nat} {args:List AV} {H:Hp} {Q:AV→Hp→Prop} (h:bQ P G f (dH args) H Q):bQ P G f args H Q:=
 fun w A β vs hr hv=>h w A β vs hr (au.norm _ _ hv)
theorem bQ.res {P:Program} {G:Nat→Option (List IV)} {f:Nat} {args:List AV} {H:Hp} {Q:AV→Hp→Prop} (h:bQ P G f args H Q):bQ P G f args H fun x H'=>∃y,Q y H'∧x=norm y:=by
 intro w A β vs hr hv;refine(h w A β vs hr hv).mono ?_;rintro e w' ⟨v,x,H',β',rfl,h1,h2,h3,h4⟩;exact⟨v,norm x,H',β',rfl,⟨x,h1,rfl⟩,h2,RV.norm _ _ h3,by rw[ie];exact h4⟩
theorem aW.n {P:Program} {G:Nat→Option (List IV)} {f:Nat} {args:List AV} {res:AV} (h:aW P G f (dH args) res):aW P G f args res:=
 ⟨by have:=h.1;rwa[dq] at this,h.2.1,h.2.2.n⟩
theorem aW.of {P:Program} {G:Nat→Option (List IV)} {f:Nat} {args ov:List AV} {res:AV} (h:aW P G f ov res) (e:dH args=ov):aW P G f args res:=aW.n (by rw[e];exact h)
end Go.Am

/- THE ABSTRACT MACHINE, part 32: loops whose rows stay where they are. -/
namespace Go.Am
open Go Go.RowKit
def td (H:Hp):List (Lb×Row)→Prop
 |[]=>True
 |(l,r)::t=>H l= .live r∧td H t
theorem td.rw {H:Hp}:∀{rs:List (Lb×Row)},td H rs→tc (ko []) H rs
 |[],_=>trivial
 |(l,r)::t,h=>⟨by show H l= .live (b9 id r);rw[gD];exact h.1,td.rw h.2⟩
end Go.Am

/- THE ABSTRACT MACHINE, part 33: slices held against nil; loops of calls with pointers. -/
namespace Go.Am
open Go Go.RowKit
inductive Tb (k:Bool→Prop):Type
 |mk
end Go.Am

/- Trees: their values, their sizes; copies. -/
namespace Go.Am
open Go Go.RowKit
abbrev Bs:=List UInt8
structure Attr where
 name:Bs
 val:Bs
inductive Tree where
 |mk (text:Bool) (s:Bs) (attrs:List Attr) (kids:List Tree)
def Tree.text:Tree→Bool| .mk t _ _ _=>t
def Tree.s:Tree→Bs| .mk _ s _ _=>s
def Tree.attrs:Tree→List Attr| .mk _ _ a _=>a
def Tree.kids:Tree→List Tree| .mk _ _ _ k=>k
def Attr.cs (a:Attr):List IV:=[.str a.name,.str a.val]
def Attr.iv (a:Attr):IV:= .agg a.cs
def qZ (as:List Attr):List IV:=as.map Attr.iv
mutual
def Tree.iv:Tree→IV
 | .mk t s as ks=> .agg [.bool t,.str s,.list (qZ as),.list (te ks)]
def te:List Tree→List IV
 |[]=>[]
 |x::r=>x.iv::te r
end
def Tree.cs (x:Tree):List IV:=[.bool x.text,.str x.s,.list (qZ x.attrs),.list (te x.kids)]
def Tree.av (x:Tree):AV:= .agg [.bool x.text,.str x.s,.list (qZ x.attrs),.list (te x.kids)]
def Attr.wt (a:Attr):Nat:=1+a.name.length+a.val.length
def q_:List Attr→Nat
 |[]=>0
 |a::r=>a.wt+q_ r
mutual
def Tree.wt:Tree→Nat
 | .mk _ s as ks=>1+s.length+q_ as+sv ks
def sv:List Tree→Nat
 |[]=>0
 |x::r=>x.wt+sv r
end
def B:Nat:=2^30
end Go.Am

/- Trees: are they the same? -/
namespace Go.Am
open Go Go.RowKit
theorem Attr.ext {x y:Attr} (h1:x.name=y.name) (h2:x.val=y.val):x=y:=by cases x;cases y;simp_all
theorem Tree.ext {x y:Tree} (h1:x.text=y.text) (h2:x.s=y.s) (h3:x.attrs=y.attrs) (h4:x.kids=y.kids):x=y:=by
 cases x;cases y;simp_all[Tree.text,Tree.s,Tree.attrs,Tree.kids]
end Go.Am

/- Texts and names that are good. -/
namespace Go.Am
open Go Go.RowKit
def qD (c:UInt8):Bool:= !((((c.toNat:Int) !=10))&&(decide ((c.toNat:Int)<32)||decide ((c.toNat:Int)>126)))
def plain (s:Bs):Bool:=s.all qD&&decide ((s.length:Int)≤40)
def sw (c:UInt8):Bool:= !(decide ((c.toNat:Int)<97)||decide ((c.toNat:Int)>122))
def named (s:Bs):Bool:=s.all sw&&(decide ((s.length:Int)≥1)&&decide ((s.length:Int)≤8))
end Go.Am

/- Attributes that are good. -/
namespace Go.Am
open Go Go.RowKit
def qE (as:List Attr) (i:Nat):Bool:=
 match as[i]? with
 |some a=>named a.name&&(plain a.val&&(i==0||match as[i - 1]? with|some p=>Op.bytesLess p.name a.name|none=>true))
 |none=>true
def ga (as:List Attr):Bool:=(List.range as.length).all (qE as)&&decide ((as.length:Int)≤4)
theorem Wk.drop {env env2:Env} {H:Hp} (e:∀n,env2 n= .any∨env n=ba id (env2 n)) (m:∀n,∀l∈(env2 n).aw,Hp.none l≠ .unused) (hn:∀l:Lb,l.fresh=false→H l= .unused):Wk id env H env2 Hp.none:=
 ⟨e,fun l r h=>by simp[Hp.none] at h,fun _ _ ⟨r,h⟩=>by simp[Hp.none] at h,m,fun l r h=>by simp[Hp.none] at h,fun l hl=>⟨fun h=>absurd (hn l (Lb.eY hl)) h,fun _=>rfl⟩,fun l ⟨r,h⟩=>by simp[Hp.none] at h⟩
end Go.Am

/- The size of a tree. -/
namespace Go.Am
open Go Go.RowKit
mutual
def Tree.dep:Tree→Nat
 | .mk _ _ _ ks=>sx ks+1
def sx:List Tree→Nat
 |[]=>0
 |x::r=>max x.dep (sx r)
end
mutual
def Tree.gM:Tree→Nat
 | .mk _ _ _ ks=>cQ ks+1
def cQ:List Tree→Nat
 |[]=>0
 |x::r=>x.gM+cQ r
end
theorem Tree.lR (x:Tree):x.gM=cQ x.kids+1:=by cases x;simp[Tree.gM,Tree.kids]
theorem ig:∀xs ys:List Tree,cQ (xs++ys)=cQ xs+cQ ys
 |[],ys=>by simp[cQ]
 |x::r,ys=>by simp[cQ,ig r ys];omega
end Go.Am

/- Trees that are good. -/
namespace Go.Am
open Go Go.RowKit
mutual
def Tree.eU:Tree→Bool
 | .mk t s as ks=>if t then plain s&&(s !=[]&&(as.length==0&&ks.length==0)) else named s&&(ga as&&gb none ks)
def gb:Option Bool→List Tree→Bool
 |_,[]=>true
 |p,x::r=>x.eU&&(!(p==some true&&x.text)&&gb (some x.text) r)
end
theorem Tree.qF (x:Tree) (h:x.text=true):x.eU=(plain x.s&&(x.s !=[]&&(x.attrs.length==0&&x.kids.length==0))):=by
 cases x;simp only[Tree.text] at h;subst h;simp[Tree.eU,Tree.s,Tree.attrs,Tree.kids]
theorem Tree.qG (x:Tree) (h:x.text=false):x.eU=(named x.s&&(ga x.attrs&&gb none x.kids)):=by
 cases x;simp only[Tree.text] at h;subst h;simp[Tree.eU,Tree.s,Tree.attrs,Tree.kids]
def Tree.qH (x:Tree):Bool:= !x.text&&(decide ((x.dep:Int)≤8)&&(decide ((x.gM:Int)≤80)&&x.eU))
end Go.Am

/- Documents: their values; how a tree lies in one. -/
namespace Go.Am
open Go Go.RowKit
structure Node where
 text:Bool
 s:Bs
 attrs:List Attr
 parent:Int
 kids:List Int
abbrev Doc:=List Node
def lS (n:Int):IV:= .int .i64 n
def Node.cs (x:Node):List IV:=[.bool x.text,.str x.s,.list (qZ x.attrs),.int .i64 x.parent,.list (x.kids.map lS)]
def Node.iv (x:Node):IV:= .agg x.cs
def Node.av (x:Node):AV:= .agg [.bool x.text,.str x.s,.list (qZ x.attrs),.int .i64 x.parent,.list (x.kids.map lS)]
def iX (off:Nat):List Tree→List Int
 |[]=>[]
 |k::r=>(off:Int)::iX (off+k.gM) r
mutual
def Tree.flat (off:Nat) (p:Int):Tree→List Node
 | .mk t s as ks=>⟨t,s,as,p,iX (off+1) ks⟩::bS (off+1) off ks
def bS (off:Nat) (p:Nat):List Tree→List Node
 |[]=>[]
 |k::r=>k.flat off p++bS (off+k.gM) p r
end
def Tree.node (off:Nat) (p:Int) (x:Tree):Node:=⟨x.text,x.s,x.attrs,p,iX (off+1) x.kids⟩
theorem Tree.jA (off:Nat) (p:Int) (x:Tree):x.flat off p=x.node off p::bS (off+1) off x.kids:=by
 cases x;simp[Tree.flat,Tree.node,Tree.text,Tree.s,Tree.attrs,Tree.kids]
mutual
theorem Tree.ft (off:Nat) (p:Int):∀x:Tree,(x.flat off p).length=x.gM
 | .mk t s as ks=>by simp[Tree.flat,Tree.gM,eF (off+1) off ks]
theorem eF (off:Nat) (p:Nat):∀xs:List Tree,(bS off p xs).length=cQ xs
 |[]=>by simp[bS,cQ]
 |k::r=>by simp[bS,cQ,k.ft,eF _ p r]
end
theorem gd:∀(off p:Nat) (xs ys:List Tree),bS off p (xs++ys)=bS off p xs++bS (off+cQ xs) p ys
 |off,p,[],ys=>by simp[bS,cQ]
 |off,p,k::r,ys=>by simp[bS,cQ,gd _ p r ys,Nat.add_assoc]
def ow (x:Tree):Doc:=x.flat 0 (-1)
theorem Tree.jB (x:Tree):0<x.gM:=by rw[x.lR];omega
end Go.Am

/- THE ABSTRACT MACHINE, part 34: a list of structs behind a pointer. -/
namespace Go.Am
open Go Go.RowKit
structure WU (ls:List Lb) (u:Lb→Bool) (ps:List (Nat×AV)) (rs:List (Lb×Row)) (env:Env) (H:Hp) (m:List (Lb×Lb)):Prop where
 nf:∀l:Lb,l.fresh=false→H l≠ .unused→l∈ls∨u l=true
 e:ta (ko m) env ps
 r:tc (ko m) H rs
 inj:(ls.map (ko m)).Nodup
 fr:∀l∈ls,(l.fresh=true→(ko m l).fresh=true)∧(l.fresh=false→ko m l=l)
end Go.Am

/- Documents: which lists of nodes are some. -/
namespace Go.Am
open Go Go.RowKit
theorem ij {α:Type} {l:List α} {n:Nat} {x:α} {r:List α} (h:l.drop n=x::r):l[n]?=some x∧l.drop (n+1)=r:=by
 have h1:(l.drop n)[0]?=some x:=by rw[h];rfl
 refine⟨by simpa[List.getElem?_drop] using h1,?_⟩;have:(l.drop n).drop 1=r:=by rw[h];rfl
 rwa[List.drop_drop] at this
theorem kf (x:Tree):(ow x).length=x.gM:=x.ft 0 (-1)
def ox (d:Doc):Prop:=∃x:Tree,x.qH=true∧d=ow x
theorem lT (x:Tree):x.qH=true↔x.text=false∧x.dep≤8∧x.gM≤80∧x.eU=true:=by
 simp only[Tree.qH,Bool.and_eq_true,Bool.not_eq_true',decide_eq_true_eq];constructor
 ·rintro⟨h1,h2,h3,h4⟩;exact⟨h1,by omega,by omega,h4⟩
 ·rintro⟨h1,h2,h3,h4⟩;exact⟨h1,by omega,by omega,h4⟩
end Go.Am

/- Trees that are joined. -/
namespace Go.Am
open Go Go.RowKit
def Tree.sy (x:Tree) (s:Bs):Tree:= .mk x.text s x.attrs x.kids
def oy (p:Bool):List Tree→Bool
 |[]=>p
 |x::r=>oy x.text r
def grow (s:Bs):List Tree→List Tree
 |[]=>[]
 |[x]=>[x.sy (x.s++s)]
 |x::y::r=>x::grow s (y::r)
def push (out:List Tree) (x:Tree):List Tree:=
 if x.text&&x.s==[] then out else if x.text&&oy false out then grow x.s out else out++[x]
end Go.Am

/- A tree is put behind a document's nodes. -/
namespace Go.Am
open Go Go.RowKit
structure wM (x:Tree) where
 i:Nat
 L:Lb
 u:Lb→Bool
 hi:i≤x.kids.length
 l0:L≠ .par 0
 l8:L≠ .loc 8
 l10:L≠ .loc 10
 xl:L≠ .loc 47
 lg:∀j,i≤j→L≠ .gen (1000+j)
 xm:u (.loc 10)=false
 xn:u (.loc 47)=false
 ug:∀j,i≤j→u (.gen (1000+j))=false
end Go.Am

/- Documents: what lies where. -/
namespace Go.Am
open Go Go.RowKit
inductive Sub:Nat→Int→Tree→Nat→Int→Tree→Prop
 |self (off:Nat) (p:Int) (t:Tree):Sub off p t off p t
 |oz {off:Nat} {p:Int} {t:Tree} {n:Nat} {q:Int} {y:Tree} (a b:List Tree) (k:Tree):t.kids=a++k::b→Sub (off+1+cQ a) off k n q y→Sub off p t n q y
def fu (d:Doc) (n:Nat) (q:Int) (y:Tree):Prop:=∃post,d.drop n=y.flat n q++post
theorem lU {α:Type} {a b c:List α} {n:Nat} (h:a.length=n):(a++b).drop n=b:=by subst h;simp
theorem Sub.uJ {off:Nat} {p:Int} {t:Tree} {n:Nat} {q:Int} {y:Tree} (h:Sub off p t n q y):∀d:Doc,fu d off p t→fu d n q y:=by
 induction h with
 |self=>exact fun _ h=>h
 |@oz off p t n q y a b k hk _ ih=>
  rintro d ⟨post,h⟩;refine ih d ⟨bS (off+1+cQ a+k.gM) off b++post,?_⟩;rw[t.jA,hk] at h;have h2:=(ij h).2;rw[gd] at h2;have h3:d.drop (off+1)=bS (off+1) off a++(bS (off+1+cQ a) off (k::b)++post):=by rw[h2];exact List.append_assoc _ _ _
  rw[←List.drop_drop,h3,lU (c:=[]) (eF _ _ _)];simp[bS]
theorem Sub.parent {off:Nat} {p:Int} {t:Tree} {n:Nat} {q:Int} {y:Tree} (h:Sub off p t n q y) :
  (n=off∧q=p∧y=t)∨∃(m:Nat) (z:Tree) (r:Int),q=(m:Int)∧Sub off p t m r z∧m<n∧n+y.gM≤m+z.gM∧y∈z.kids∧off≤m:=by
 induction h with
 |self=>exact .inl ⟨rfl,rfl,rfl⟩
 |@oz off p t n q y a b k hk hs ih=>
  right;rcases ih with⟨rfl,rfl,rfl⟩|⟨m,z,r,e1,e2,e3,e4,e5,e6⟩
  ·have h1:=t.lR;rw[hk,ig] at h1;simp only[cQ] at h1;exact⟨off,t,p,rfl,.self _ _ _,by omega,by omega,by rw[hk];simp,Nat.le_refl _⟩
  ·exact⟨m,z,r,e1,.oz a b k hk e2,e3,e4,e5,by omega⟩
theorem Sub.trans {off:Nat} {p:Int} {t:Tree} {n:Nat} {q:Int} {y:Tree} (h:Sub off p t n q y) {m:Nat} {r:Int} {z:Tree} (h2:Sub n q y m r z):Sub off p t m r z:=by
 induction h with
 |self=>exact h2
 |oz a b k hk _ ih=>exact .oz a b k hk (ih h2)
theorem fu.node {d:Doc} {n:Nat} {q:Int} {y:Tree} (h:fu d n q y):d[n]?=some (y.node n q):=by
 obtain⟨post,h⟩:=h;rw[y.jA] at h;exact(ij h).1
theorem fu.len {d:Doc} {n:Nat} {q:Int} {y:Tree} (h:fu d n q y):n+y.gM≤d.length:=by
 obtain⟨post,h⟩:=h;have:=congrArg List.length h;rw[List.length_drop,List.length_append,y.ft] at this;have:=y.jB;omega
theorem fu.oz {d:Doc} {n:Nat} {q:Int} {y:Tree} (h:fu d n q y) (a b:List Tree) (k:Tree) (hk:y.kids=a++k::b):fu d (n+1+cQ a) n k:=
 (Sub.oz (off:=n) (p:=q) a b k hk (.self _ _ _)).uJ d h
theorem gf:∀{p:Option Bool} {l:List Tree},gb p l=true→∀x∈l,x.eU=true
 |_,[],_,x,hx=>by simp at hx
 |p,y::r,h,x,hx=>by
  simp only[gb,Bool.and_eq_true] at h;simp only[List.mem_cons] at hx;rcases hx with rfl|hx
  ·exact h.1
  ·exact gf h.2.2 x hx
theorem Tree.kg {x:Tree} (h:x.eU=true):gb none x.kids=true:=by
 cases ht:x.text with
 |true=>
  rw[x.qF ht] at h;simp only[Bool.and_eq_true,beq_iff_eq,List.length_eq_zero_iff] at h;rw[h.2.2.2];rfl
 |false=>
  rw[x.qG ht] at h;simp only[Bool.and_eq_true] at h;exact h.2.2
theorem Sub.eU {off:Nat} {p:Int} {t:Tree} {n:Nat} {q:Int} {y:Tree} (h:Sub off p t n q y):t.eU=true→y.eU=true:=by
 induction h with
 |self=>exact id
 |oz a b k hk _ ih=>exact fun h=>ih (gf (Tree.kg h) k (by rw[hk];simp))
end Go.Am

/- Trees, level by level; how a document is made by a stack. -/
namespace Go.Am
open Go Go.RowKit
def lV:Nat→List (Tree×Int)→List (Nat×Int)
 |_,[]=>[]
 |n,(t,p)::r=>(n,p)::lV (n+t.gM) r
def qI (j:Int) (ps:List (Nat×Int)):List Int:=(ps.filter fun x=>x.2==j).map fun x=>(x.1:Int)
def lW:Nat→List (Tree×Int)→List Node
 |_,[]=>[]
 |n,(t,p)::r=>t.flat n p++lW (n+t.gM) r
def fill (ps:List (Nat×Int)):Nat→List Node→List Node
 |_,[]=>[]
 |j,x::r=>{x with kids:=x.kids++qI j ps}::fill ps (j+1) r
def whole (d:List Node) (l:List (Tree×Int)):List Node:=fill (lV d.length l) 0 d++lW d.length l
end Go.Am

/- Documents: made; walked; the trees in them. -/
namespace Go.Am
open Go Go.RowKit
def Doc.av (d:Doc):AV:= .agg [.list (d.map Node.iv)]
section
variable {P:Program} {G:Nat→Option (List IV)}
end
end Go.Am

/- Documents: which are good; what is told of them. -/
namespace Go.Am
open Go Go.RowKit
def Node.wt (x:Node):Nat:=1+x.s.length+q_ x.attrs+x.kids.length
def l9:Doc→Nat
 |[]=>0
 |x::r=>x.wt+l9 r
theorem eX:∀a b:Doc,l9 (a++b)=l9 a+l9 b
 |[],b=>by simp[l9]
 |x::r,b=>by simp[l9,eX r b,Nat.add_assoc]
mutual
theorem Tree.jC (off:Nat) (p:Int):∀x:Tree,x.wt≤l9 (x.flat off p)
 | .mk t s as ks=>by
  have:=ik (off+1) off ks;simp only[Tree.flat,l9,Node.wt,Tree.wt];omega
theorem ik (off p:Nat):∀xs:List Tree,sv xs≤l9 (bS off p xs)
 |[]=>by simp[sv]
 |k::r=>by
  have:=k.jC off p;have:=ik (off+k.gM) p r;simp only[bS,eX,sv];omega
end
theorem fu.wt {d:Doc} {n:Nat} {q:Int} {y:Tree} (h:fu d n q y):y.wt≤l9 d:=by
 obtain⟨post,h⟩:=h;have h1:=y.jC n q;have h2:=eX (d.take n) (d.drop n);rw[List.take_append_drop,h,eX] at h2;omega
section
variable {P:Program} {G:Nat→Option (List IV)}
end
theorem ox.len {d:Doc} (h:ox d):1≤d.length∧d.length≤80:=by
 obtain⟨x,hx,rfl⟩:=h;have:=(lT x).1 hx;have:=x.jB;rw[kf];omega
end Go.Am

/- Trees: out of readings. -/
namespace Go.Am
open Go Go.RowKit
section
variable {P:Program}
theorem Sh.sB {t:TypeId} {y:IV} (h:Sh P t y) (hu:P.underlying t=some .bool):∃x,y= .bool x:=by
 cases h<;>simp_all
theorem Sh.jD {t:TypeId} {y:IV} {k:IntKind} (h:Sh P t y) (hu:P.underlying t=some (.int k)):∃n,y= .int k n∧(Lit.int k n).wf=true:=by
 cases h<;>simp_all
theorem Sh.il {t:TypeId} {y:IV} (h:Sh P t y) (hu:P.underlying t=some .string):∃x,y= .str x:=by
 cases h<;>simp_all
theorem Sh.lY {t e:TypeId} {y:IV} (h:Sh P t y) (hu:P.underlying t=some (.slice e)):∃ys,y= .list ys∧∀y∈ys,Sh P e y:=by
 cases h<;>simp_all
theorem Sh.jE {t:TypeId} {fs:Array Field} {y:IV} (h:Sh P t y) (hu:P.underlying t=some (.struct fs)) :
  ∃ys,y= .agg ys∧ys.length=fs.size∧∀(j:Nat) (f:Field) (y:IV),fs[j]?=some f→ys[j]?=some y→Sh P f.type y:=by
 cases h with
 |g so h1 h2=>
  rw[so] at hu;cases hu;exact⟨_,rfl,h1,h2⟩
 |_=>simp_all
structure kq (P:Program) where
 tB:TypeId
 tS:TypeId
 tA:TypeId
 sE:TypeId
 tT:TypeId
 uK:TypeId
 fA:Array Field
 fT:Array Field
 uB:P.underlying tB=some .bool
 uS:P.underlying tS=some .string
 vp:P.underlying sE=some (.slice tA)
 wN:P.underlying uK=some (.slice tT)
 uA:P.underlying tA=some (.struct fA)
 uT:P.underlying tT=some (.struct fT)
 sA:fA.toList.map (·.type)=[tS,tS]
 sT:fT.toList.map (·.type)=[tB,tS,sE,uK]
theorem bl {fs:Array Field} {ts:List TypeId} (h:fs.toList.map (·.type)=ts) (j:Nat) (t:TypeId) (ht:ts[j]?=some t):∃f,fs[j]?=some f∧f.type=t:=by
 subst h;rw[List.getElem?_map] at ht;obtain⟨f,h1,rfl⟩:=Option.map_eq_some_iff.1 ht;exact⟨f,by simpa using h1,rfl⟩
theorem Sh.attr (T:kq P) {y:IV} (h:Sh P T.tA y):∃a:Attr,y=a.iv∧a.wt≤y.wt:=by
 obtain⟨ys,rfl,hl,hy⟩:=h.jE T.uA;have hs:T.fA.size=2:=by have:=congrArg List.length T.sA;simpa using this
 match ys,hl.trans hs,hy with
 |[y0,y1],_,hy=>
  obtain⟨f0,e0,t0⟩:=bl T.sA 0 T.tS rfl;obtain⟨f1,e1,t1⟩:=bl T.sA 1 T.tS rfl;have h0:=hy 0 f0 y0 e0 rfl;have h1:=hy 1 f1 y1 e1 rfl;rw[t0] at h0;rw[t1] at h1;obtain⟨x0,rfl⟩:=h0.il T.uS;obtain⟨x1,rfl⟩:=h1.il T.uS;exact⟨⟨x0,x1⟩,rfl,by simp[Attr.wt,IV.wt,fm];omega⟩
theorem Sh.attrs (T:kq P):∀(ys:List IV),(∀y∈ys,Sh P T.tA y)→∃as,ys=qZ as∧q_ as≤fm ys
 |[],_=>⟨[],rfl,by simp[q_,fm]⟩
 |y::r,h=>by
  obtain⟨a,rfl,h1⟩:=(h y (by simp)).attr T;obtain⟨as,rfl,h2⟩:=Sh.attrs T r (fun z hz=>h z (by simp[hz]));exact⟨a::as,rfl,by simp only[q_,fm];omega⟩
end
end Go.Am

/- Documents: out of readings. -/
namespace Go.Am
open Go Go.RowKit
section
variable {P:Program}
structure vq (P:Program) (T:kq P) where
 tI:TypeId
 uM:TypeId
 tN:TypeId
 vt:TypeId
 tD:TypeId
 fN:Array Field
 fD:Array Field
 uI:P.underlying tI=some (.int .i64)
 wO:P.underlying uM=some (.slice tI)
 uN:P.underlying tN=some (.struct fN)
 xo:P.underlying vt=some (.slice tN)
 uD:P.underlying tD=some (.struct fD)
 sN:fN.toList.map (·.type)=[T.tB,T.tS,T.sE,tI,uM]
 sD:fD.toList.map (·.type)=[vt]
theorem Sh.ints {T:kq P} (D:vq P T):∀(ys:List IV),(∀y∈ys,Sh P D.tI y)→∃xs:List Int,ys=xs.map lS∧xs.length≤fm ys
 |[],_=>⟨[],rfl,by simp[fm]⟩
 |y::r,h=>by
  obtain⟨n,rfl,_⟩:=(h y (by simp)).jD D.uI;obtain⟨xs,rfl,h2⟩:=Sh.ints D r (fun z hz=>h z (by simp[hz]));exact⟨n::xs,rfl,by simp only[List.length_cons,fm,IV.wt];omega⟩
theorem Sh.node {T:kq P} (D:vq P T) {y:IV} (h:Sh P D.tN y):∃x:Node,y=x.iv∧x.wt≤y.wt:=by
 obtain⟨ys,rfl,hl,fE⟩:=h.jE D.uN;have hs:D.fN.size=5:=by have:=congrArg List.length D.sN;simpa using this
 match ys,hl.trans hs,fE with
 |[y0,y1,y2,y3,y4],_,fE=>
  obtain⟨f0,e0,t0⟩:=bl D.sN 0 T.tB rfl;obtain⟨f1,e1,t1⟩:=bl D.sN 1 T.tS rfl;obtain⟨f2,e2,t2⟩:=bl D.sN 2 T.sE rfl;obtain⟨f3,e3,t3⟩:=bl D.sN 3 D.tI rfl;obtain⟨f4,e4,t4⟩:=bl D.sN 4 D.uM rfl;have h0:=fE 0 f0 y0 e0 rfl;have h1:=fE 1 f1 y1 e1 rfl;have h2:=fE 2 f2 y2 e2 rfl;have h3:=fE 3 f3 y3 e3 rfl;have h4:=fE 4 f4 y4 e4 rfl;rw[t0] at h0;rw[t1] at h1;rw[t2] at h2;rw[t3] at h3;rw[t4] at h4
  obtain⟨b,rfl⟩:=h0.sB T.uB;obtain⟨s,rfl⟩:=h1.il T.uS;obtain⟨z2,rfl,g2⟩:=h2.lY T.vp;obtain⟨p,rfl,_⟩:=h3.jD D.uI;obtain⟨z4,rfl,g4⟩:=h4.lY D.wO;obtain⟨as,rfl,w2⟩:=Sh.attrs T z2 g2;obtain⟨ks,rfl,w4⟩:=Sh.ints D z4 g4;exact⟨⟨b,s,as,p,ks⟩,rfl,by simp only[Node.wt,IV.wt,fm];omega⟩
end
end Go.Am

/- Paths: which nodes are meant. -/
namespace Go.Am
open Go Go.RowKit
structure Step where
 name:Bs
 n:Int
def Step.cs (x:Step):List IV:=[.str x.name,.int .i64 x.n]
def Step.iv (x:Step):IV:= .agg x.cs
def Step.av (x:Step):AV:= .agg [.str x.name,.int .i64 x.n]
end Go.Am

/- Paths: out of readings. -/
namespace Go.Am
open Go Go.RowKit
section
variable {P:Program}
structure wP (P:Program) (T:kq P) where
 tI:TypeId
 tP:TypeId
 wQ:TypeId
 fP:Array Field
 uI:P.underlying tI=some (.int .i64)
 uP:P.underlying tP=some (.struct fP)
 xp:P.underlying wQ=some (.slice tP)
 sP:fP.toList.map (·.type)=[T.tS,tI]
theorem Sh.step {T:kq P} (D:wP P T) {y:IV} (h:Sh P D.tP y):∃x:Step,y=x.iv∧1+x.name.length≤y.wt:=by
 obtain⟨ys,rfl,hl,fE⟩:=h.jE D.uP;have hs:D.fP.size=2:=by have:=congrArg List.length D.sP;simpa using this
 match ys,hl.trans hs,fE with
 |[y0,y1],_,fE=>
  obtain⟨f0,e0,t0⟩:=bl D.sP 0 T.tS rfl;obtain⟨f1,e1,t1⟩:=bl D.sP 1 D.tI rfl;have h0:=fE 0 f0 y0 e0 rfl;have h1:=fE 1 f1 y1 e1 rfl;rw[t0] at h0;rw[t1] at h1;obtain⟨s,rfl⟩:=h0.il T.uS;obtain⟨p,rfl,_⟩:=h1.jD D.uI;exact⟨⟨s,p⟩,rfl,by simp only[IV.wt,fm];omega⟩
end
end Go.Am
