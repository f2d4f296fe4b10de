import Derived.Test.YtfinkeaikbmpgaaKAm15
import Derived.WalkKit
import Derived.ProofKit
import Derived.OpenShut
import Derived.Carry
import Derived.JoinedCond
set_option linter.unusedSimpArgs false
set_option linter.unusedVariables false
set_option linter.unnecessarySimpa false
set_option linter.defProp false
/- THE ABSTRACT MACHINE, part 25: what a reading of plain data gives. -/
namespace Go.Am
open Go Go.RowKit
inductive Sh (P:Program):TypeId→IV→Prop
 |b {t:TypeId} {x:Bool}:P.underlying t=some .bool→Sh P t (.bool x)
 |i {t:TypeId} {k:IntKind} {n:Int}:P.underlying t=some (.int k)→(Lit.int k n).wf=true→Sh P t (.int k n)
 |s {t:TypeId} {x:List UInt8}:P.underlying t=some .string→Sh P t (.str x)
 |l {t e:TypeId} {ys:List IV}:P.underlying t=some (.slice e)→(∀y∈ys,Sh P e y)→Sh P t (.list ys)
 |g {t:TypeId} {fs:Array Field} {ys:List IV}:P.underlying t=some (.struct fs)→ys.length=fs.size→(∀(j:Nat) (f:Field) (y:IV),fs[j]?=some f→ys[j]?=some y→Sh P f.type y)→Sh P t (.agg ys)
mutual
def IV.wt:IV→Nat
 | .bool _=>1
 | .int _ _=>1
 | .str s=>s.length+1
 | .list xs=>lC xs+1
 | .agg cs=>lC cs+1
def lC:List IV→Nat
 |[]=>0
 |x::r=>x.wt+lC r
end
def Cg (P:Program) (t:TypeId):Bool:=
 match P.underlying t with
 |some .bool|some (.int _)|some .string|some (.slice _)=>true
 |_=>false
def I4 (P:Program) (T:List TypeId) (t:TypeId):Bool:=
 match P.underlying t with
 |some .bool|some (.int _)|some .string=>true
 |some (.slice e)=>T.contains e&&decide (0<P.cellsOf e)
 |some (.struct fs)=>decide (P.cellsOf t=fs.size)&&(List.range fs.size).all fun j=>match fs[j]? with
  |some f=>T.contains f.type&&Cg P f.type&&decide (f.offset=j)&&decide (P.cellsOf f.type=1)
  |none=>false
 |_=>false
section
variable {H:Type} {enc:TypeId×Value→H} {P:Program} {w:World} {base:Nat} {spare:Nat→Bool} {held:Bool}
theorem ov {α β:Type} {f:α→Option β}:∀{l:List α} {r:List β},l.mapM f=some r→r.length=l.length∧∀(i:Nat) (x:α),l[i]?=some x→∃y,r[i]?=some y∧f x=some y
 |[],r,h=>by
  simp at h;subst h;exact⟨rfl,by simp⟩
 |a::l,r,h=>by
  rw[List.mapM_cons] at h;obtain⟨y,h1,h⟩:=Option.bind_eq_some_iff.1 h;obtain⟨s,h2,h⟩:=Option.bind_eq_some_iff.1 h;simp only[Option.pure_def,Option.some.injEq] at h;subst h;obtain⟨e1,e2⟩:=ov h2;refine⟨by simp[e1],fun i x hx=> ?_⟩;cases i with
  |zero=>simp at hx;subst hx;exact⟨y,by simp,h1⟩
  |succ i=>obtain⟨z,q1,q2⟩:=e2 i x (by simpa using hx);exact⟨z,by simpa using q1,q2⟩
theorem Ax {a:Addr} {n:Nat} {cs:List Value} (h:w.cells? base a n=some cs):cs.length=n∧∀i,i<n→∃v,cs[i]?=some v∧w.cell? (a.add i)=some v:=by
 unfold World.cells? at h;split at h
 ·obtain⟨h1,h2⟩:=ov h;refine⟨by simpa using h1,fun i hi=> ?_⟩;obtain⟨v,e1,e2⟩:=h2 i i (by simp[hi]);exact⟨v,e1,e2⟩
 ·simp at h
theorem Ay {a:Addr} {v:Value} (h:w.cell? a=some v):a.spot=none∧a.block<w.heap.size:=by
 unfold World.cell? at h;split at h
 ·rename_i c t f e;split at h
  ·simp at h
  ·rename_i hs;exact⟨by simpa using hs,(Array.getElem?_eq_some_iff.1 e).1⟩
 ·simp at h
structure Bk (H:Type) where
 bk:DataW H→Nat
 one:∀d,1≤bk d
 str:∀l,bk (.lit (.string l))=l.length+1
 sl:∀es sp,(es.map bk).sum+1≤bk (.slice es sp)
 ag:∀ps,(ps.map bk).sum+1≤bk (.agg ps)
theorem build {Q:Nat→IV→Prop}:∀(n:Nat),(∀i,i<n→∃y,Q i y)→∃ys:List IV,ys.length=n∧∀i y,ys[i]?=some y→Q i y
 |0,_=>⟨[],rfl,by simp⟩
 |n+1,h=>by
   obtain⟨ys,h1,h2⟩:=build n (fun i hi=>h i (by omega))
   obtain⟨y,hy⟩:=h n (by omega)
   refine⟨ys++[y],by simp[h1],fun i z hz=> ?_⟩
   by_cases hi:i<n
   · rw[List.getElem?_append_left (by omega)] at hz;exact h2 i z hz
   · have:i=n:=by
       have:=(List.getElem?_eq_some_iff.1 hz).1
       simp at this;omega
     subst this
     rw[List.getElem?_append_right (by omega),h1] at hz
     simp at hz;subst hz;exact hy
theorem xL {α:Type} {g:α→Nat}:∀(ys:List IV) (xs:List α),ys.length=xs.length→(∀(i:Nat) (y:IV) (x:α),ys[i]?=some y→xs[i]?=some x→y.wt≤g x)→lC ys≤(xs.map g).sum
 |[],[],_,_=>by simp[lC]
 |y::ys,[],h,_=>by simp at h
 |[],x::xs,h,_=>by simp at h
 |y::ys,x::xs,h,hw=>by
  have h1:=hw 0 y x (by simp) (by simp);have h2:=xL ys xs (by simpa using h) (fun i y x hy hx=>hw (i+1) y x (by simpa using hy) (by simpa using hx));simp only[lC,List.map_cons,List.sum_cons];omega
theorem read (B : Bk H) {T : List TypeId} (hT : ∀ t ∈ T,I4 P T t = true) : ∀ (fuel : Nat) (t : TypeId) (cs : List Value) (d : DataW H) (ps : List MemPlace),t ∈ T → DataW.trod enc P w base spare held fuel t cs = some (d,ps) →
   ∃y:IV,Sh P t y∧y.wt≤B.bk d∧y.cells.length=cs.length∧∀(j:Nat) (z:IV),y.cells[j]?=some z→∃v,cs[j]?=some v∧ic w (fun _=>True) z v:=by
 intro fuel
 induction fuel with
 |zero=>intro t cs d ps _ h;simp[DataW.trod] at h
 |succ fuel ih=>
   intro t cs d ps ht h
   have n9:=hT t ht
   unfold I4 at n9
   unfold DataW.trod at h
   cases hu:P.underlying t with
   |none=>rw[hu] at n9;simp at n9
   |some u=>
     rw[hu] at n9 h
     cases u with
     |bool=>
       simp only at h
       split at h<;>simp_all
       rename_i b
       obtain⟨rfl,rfl⟩:=h
       exact⟨.bool b,.b hu,by simpa[IV.wt] using B.one _,by simp[IV.cells],fun j z hz=>by
         cases j<;>simp[IV.cells] at hz
         subst hz;simp[ic]⟩
     |int k=>
       simp only at h
       split at h<;>simp_all
       rename_i n _
       obtain⟨⟨rfl,hw⟩,rfl,rfl⟩:=h
       exact⟨.int _ n,.i hu hw,by simpa[IV.wt] using B.one _,by simp[IV.cells],fun j z hz=>by
         cases j<;>simp[IV.cells] at hz
         subst hz;simp[ic]⟩
     |string=>
       simp only at h
       split at h<;>simp_all
       rename_i x
       obtain⟨hw,rfl,rfl⟩:=h
       exact⟨.str x.data.toList,.s hu,by rw[B.str];simp[IV.wt],by simp[IV.cells],fun j z hz=>by
         cases j<;>simp[IV.cells] at hz
         subst hz;simp[ic]⟩
     |slice e=>
       simp only[Bool.and_eq_true,decide_eq_true_eq,List.contains_eq_mem] at n9
       obtain⟨ra,BU⟩:=n9
       have LC:e∈T:=by simpa using ra
       simp only at h
       split at h<;>simp_all
       · obtain⟨rfl,rfl⟩:=h
         exact⟨.list [],.l hu (by simp),by simpa[IV.wt,lC] using B.one _,by simp[IV.cells],fun j z hz=>by
           cases j<;>simp[IV.cells] at hz
           subst hz
           simp only[ic]
           exact⟨_,rfl,none,0,rfl,Nat.le_refl _,by simp[maxLen],.inl rfl⟩⟩
       · rename_i _ _ e' a len cap _
         obtain⟨⟨hb,NP,vm⟩,h⟩:=h
         obtain⟨elems,he,h⟩:=Option.bind_eq_some_iff.1 h
         obtain⟨rest,hr,h⟩:=Option.map_eq_some_iff.1 h
         simp only[Prod.mk.injEq] at h
         obtain⟨rfl,rfl⟩:=h
         obtain⟨hlen,cM⟩:=ov he
         have LD:elems.length=len:=by simpa using hlen
         have gf:∀i,i<len→∃y:IV,Sh P e' y∧(∀x,elems[i]?=some x→y.wt≤B.bk x.1)∧y.cells.length=P.cellsOf e' ∧
             ∀(j:Nat) (z:IV),y.cells[j]?=some z→∃v,w.cell? ((a.add (i*P.cellsOf e')).add j)=some v∧ic w (fun _=>True) z v:=by
           intro i hi
           obtain⟨x,e1,e2⟩:=cM i i (by simp[hi])
           obtain⟨cs,c1,c2⟩:=Option.bind_eq_some_iff.1 e2
           obtain⟨cl,cg⟩:=Ax c1
           obtain⟨y,y1,y2,y3,y4⟩:=ih e' cs x.1 x.2 LC c2
           refine⟨y,y1,fun x' LF=>by rw[e1] at LF;cases LF;exact y2,by rw[y3,cl],fun j z hz=> ?_⟩
           obtain⟨v,v1,v2⟩:=y4 j z hz
           have hj:j<P.cellsOf e':=by
             have:=(List.getElem?_eq_some_iff.1 hz).1;omega
           obtain⟨v',u1,u2⟩:=cg j hj
           rw[v1] at u1;cases u1
           exact⟨v,u2,v2⟩
         obtain⟨ys,vQ,G0⟩:=build len gf
         refine⟨.list ys,.l hu (fun y hy=> ?_),?_,by simp[IV.cells],fun j z hz=> ?_⟩
         · obtain⟨i,hi⟩:=List.getElem?_of_mem hy
           exact(G0 i y hi).1
         · have h1:=xL (g:=fun x:DataW H×List MemPlace=>B.bk x.1) ys elems (by omega) (fun i y x hy hx=>(G0 i y hy).2.1 x hx)
           have h2:=B.sl (elems.map fun x=>x.1) (rest.map fun x=>x.1)
           simp only[List.map_map] at h2
           simp only[IV.wt]
           exact Nat.le_trans (Nat.add_le_add_right h1 1) h2
         · cases j with
           |succ j=>simp[IV.cells] at hz
           |zero=>
             simp[IV.cells] at hz
             subst hz
             refine⟨_,rfl,?_⟩
             simp only[ic]
             refine⟨some a,cap,by rw[vQ],by omega,vm,?_⟩
             by_cases GH:len=0
             · exact .inl (by omega)
             · right
               have Es:∀i j,i<len→j<P.cellsOf e'→∃v,w.cell? ((a.add (i*P.cellsOf e')).add j)=some v:=by
                 intro i j hi hj
                 obtain⟨y,hy⟩:∃y,ys[i]?=some y:=⟨_,List.getElem?_eq_getElem (by omega)⟩
                 obtain⟨_,_,q3,q4⟩:=G0 i y hy
                 obtain⟨v,v1,_⟩:=q4 j _ (List.getElem?_eq_getElem (by omega))
                 exact⟨v,v1⟩
               obtain⟨v0,I5⟩:=Es 0 0 (by omega) BU
               obtain⟨s1,s2⟩:=Ay I5
               obtain⟨ab,ao,Sv⟩:=a
               simp only[Addr.add,Nat.zero_mul,if_true] at s1 s2
               subst s1
               refine⟨ab,ao,P.cellsOf e',rfl,trivial,s2,BU,lf _ _ _ (fun k y hy=> ?_)⟩
               obtain⟨_,_,q3,q4⟩:=G0 k y hy
               rw[gx]
               refine⟨q3.symm,jU _ _ _ (fun j z hz=> ?_)⟩
               obtain⟨v,v1,v2⟩:=q4 j z hz
               rw[c9,c9] at v1
               exact⟨v,v1,v2⟩
     |struct fs=>
       simp only[Bool.and_eq_true,decide_eq_true_eq] at n9
       simp only at h
       obtain⟨k8,n9⟩:=n9
       rw[List.all_eq_true] at n9
       split at h
       · rename_i xB
         obtain⟨xs,hx,h⟩:=Option.map_eq_some_iff.1 h
         simp only[Prod.mk.injEq] at h
         obtain⟨rfl,rfl⟩:=h
         obtain⟨hlen,cM⟩:=ov hx
         have LD:xs.length=fs.size:=by simpa using hlen
         have gf:∀i,i<fs.size→∃y:IV,(∀f,fs[i]?=some f→Sh P f.type y)∧(∀x,xs[i]?=some x→y.wt≤B.bk x.1)∧∃v,cs[i]?=some v∧ic w (fun _=>True) y v:=by
           intro i hi
           have hf:=n9 i (by simpa using hi)
           obtain⟨f,Ok⟩:∃f,fs[i]?=some f:=⟨_,Array.getElem?_eq_getElem hi⟩
           rw[Ok] at hf
           simp only[Bool.and_eq_true,decide_eq_true_eq,List.contains_eq_mem] at hf
           obtain⟨⟨⟨f1,f2⟩,f3⟩,f4⟩:=hf
           obtain⟨x,e1,e2⟩:=cM i f (by simpa using Ok)
           rw[f3,f4] at e2
           obtain⟨y,y1,y2,y3,y4⟩:=ih f.type _ x.1 x.2 (by simpa using f1) e2
           have ix:y.cells=[y]:=by
             cases y1 with
             |g LG _ _=>unfold Cg at f2;rw[LG] at f2;simp at f2
             |_=>rfl
           refine⟨y,fun f' Na=>by rw[Ok] at Na;cases Na;exact y1,fun x' LF=>by rw[e1] at LF;cases LF;exact y2,?_⟩
           obtain⟨v,v1,v2⟩:=y4 0 y (by rw[ix];rfl)
           refine⟨v,?_,v2⟩
           rw[List.getElem?_take] at v1
           split at v1
           · rw[List.getElem?_drop] at v1;simpa using v1
           · simp at v1
         obtain⟨ys,vQ,G0⟩:=build fs.size gf
         refine⟨.agg ys,.g hu vQ (fun j f y hf hy=>(G0 j y hy).1 f hf),?_,by simp only[IV.cells];omega,fun j z hz=>(G0 j z hz).2.2⟩
         have h1:=xL (g:=fun x:DataW H×List MemPlace=>B.bk x.1) ys xs (by omega) (fun i y x hy hx=>(G0 i y hy).2.1 x hx)
         have h2:=B.ag (xs.map fun x=>x.1)
         simp only[List.map_map] at h2
         simp only[IV.wt]
         exact Nat.le_trans (Nat.add_le_add_right h1 1) h2
       · simp at h
     |_=>simp at n9
end
end Go.Am

/- THE ABSTRACT MACHINE, part 26: how a law's contract closes its row. -/
namespace Go.Am
open Go Go.RowKit Go.ChangeShapes
def fV:Nat→Option (List IV):=fun _=>none
def sP:Lb→Option Nat:=fun _=>none
theorem Ch (P:Program) (W:World):bj (gi P fV W (fun _=>True) sP Hp.none) sP Env.any Hp.none qY W:=
 { defers := rfl,size := rfl
   jj:=fun n=>by simp[Env.any,RV]
   rows:=fun l r h=>by simp[Hp.none] at h
   own:=fun l g ⟨r,h⟩=>by simp[Hp.none] at h
   inj:=fun l l' g ⟨r,h⟩=>by simp[Hp.none] at h
   gO:=fun n=>by simp[Env.any,AV.aI]
   dA:=fun l r h=>by simp[Hp.none] at h
   frame:=⟨rfl,rfl,rfl,Nat.le_refl _,fun _ _ _=>rfl,fun _ _ h=>h⟩
   jJ:=fun l ⟨r,h⟩=>by simp[gi,Hp.none] at h
   fr:=fun l g ⟨r,h⟩=>by simp[Hp.none] at h
   jI:=fun g cs hg=>by simp[gi,fV] at hg}
theorem run_pure {P:Program} {f:Nat} {args:List AV} {res:AV} {vs:List Value} {W:World} (hp:az P fV f args res) (hv:b8 W sP Hp.none (fun _=>True) args vs) :
  Calls P f vs.toArray W fun e W'=>∃v,e= .returned v∧Below W.heap.size W W'∧RV W' sP Hp.none (fun _=>True) res v:=by
 have hI:∀k,Im (gi P fV W (fun _=>True) sP Hp.none) sP Hp.none k:=fun k=>⟨.inl trivial,fun l ⟨r,h⟩=>by simp[Hp.none] at h⟩
 refine(s8 (Ch P W) hp (b8.mono _ _ ?_ hv) trivial).mono ?_
 ·exact {im:=fun k _ hs=>⟨hI k,hs,rfl⟩,lb:=fun l _ ⟨r,h⟩=>by simp[Hp.none] at h}
 ·rintro e W' ⟨v,rfl,h1,h2⟩;refine⟨v,rfl,h1,RV.mono _ _ ?_ h2⟩;exact {im:=fun k _ hs=>⟨trivial,hs,rfl⟩,lb:=fun l _ ⟨r,h⟩=>by simp[Hp.none] at h}
section
variable {H:Type} {enc:TypeId×Value→H} {P:Program}
def uH (P:Program) (t:TypeId):Bool:=P.readableRec t&&decide (t<P.types.size)
theorem nC (hl:laidOutB P=true) {W W':World} (hb:Below W.heap.size W W') {sp:Nat→Bool}:∀{ts:List TypeId} {vs:List Value} {ds:List (DataW H)} {ps:List MemPlace},ts.all (uH P)=true →
  DataW.TrodAll enc P W 0 (fun _=>true) true ts vs ds ps→(∀x∈ps,x.block<W.heap.size)→(∀x∈ps,sp x.block=true)→DataW.TrodAll enc P W' 0 sp true ts vs ds ps
 |[],_,_,_,_,h,_,_=>by
  obtain⟨rfl,rfl,rfl⟩:=trodAll_nil h;rfl
 |t::ts,_,_,_,hr,h,cj,hs=>by
  obtain⟨v,Sw,d,Sx,a,b,rfl,rfl,rfl,h1,h2⟩:=trodAll_cons h;simp only[List.all_cons,Bool.and_eq_true,uH,decide_eq_true_eq] at hr;refine⟨a,b,WideElems.Trod_stays hl hr.1.1 hr.1.2 h1 (fun x hx=>hb.same (cj x (by simp[hx]))) (fun x hx=>hs x (by simp[hx])),?_,rfl⟩;exact nC hl hb hr.2 h2 (fun x hx=>cj x (by simp[hx])) (fun x hx=>hs x (by simp[hx]))
theorem Ci {f:Func} {s:ChangeSpec} {apart fresh handsOn again:Bool} {W W':World} {args:Array Value} {ds gs:List (DataW H)} {before:List MemPlace} {tb:TypeId} (hl:laidOutB P=true)
  (hr:f.params.toList.all (uH P)=true) (sK:f.resultTypes=#[tb]) (No:P.underlying tb=some .bool) (vR:s.vars=[]) (xm:s.fn H ds={results:=[.lit (.bool true)],args:=ds})
  (hW:DataW.Whole enc P f.params.toList s.vars apart W args.toList ds gs before) (hb:Below W.heap.size W W') :
  s.post enc P f apart fresh handsOn again W args (.bool true) W':=by
 have Np:=hW;have cj:=hW.lt;obtain⟨p,q,hA,hV,rfl,hz,hn⟩:=hW;rw[vR] at hV;obtain⟨rfl,rfl⟩:=trodVars_none hV;simp only[List.append_nil] at Np cj hz hn;have I6:s.fn H (ds++[])={results:=[.lit (.bool true)],args:=ds}:=by rw[List.append_nil];exact xm
 have yZ:∀sp:Nat→Bool,(∀x∈p,sp x.block=true)→DataW.TrodAll enc P W' 0 sp true f.params.toList args.toList ds p:=fun sp hs=>nC hl hb hr hA cj hs
 have nP:∀(b:Nat) (sp:Nat→Bool) (hd:Bool),DataW.TrodAll enc P W' b sp hd f.resultTypes.toList ((Value.bool true).resultList f.resultTypes.size) [.lit (.bool true)] []:=by
  intro b sp hd;rw[sK];exact trodAll_cons_mk (shut_bool No _) trodAll_mk0
 have I5:∀sp:Nat→Bool,DataW.TrodVars enc P W' sp s.vars (s.fn H (ds++[])).vars []:=by
  intro sp;rw[vR,I6];rfl
 refine⟨ds,[],p,[],p,[],Np,by rw[I6];exact nP _ _ _,by rw[I6];exact yZ _ (fun x hx=>by simpa using cj x hx),I5 _,hb.frame _,fun _=> ?_⟩;have LH:DataW.TrodVars enc P W' (fun _=>true) s.vars [] []:=by rw[vR];rfl
 refine⟨ok_one sK rfl (okWide_bool_mk No _),_,_,([]++p)++[],⟨[]++p,[],trodAll_append (yZ _ (fun _ _=>rfl)) (nP _ _ _),LH,by simp,?_,?_⟩,?_⟩
 ·intro b off hp;have ed:MemPlace.cell b off∈p:=by simpa using hp
  rw[hb.frozen (p:=⟨b,off,none⟩) (cj _ ed)];exact hz b off ed
 ·intro ha;simpa using hn ha
 ·intro x hx _;simpa using hx
end
end Go.Am

/- THE ABSTRACT MACHINE, part 29: arguments that are read; a law's contract. -/
namespace Go.Am
open Go Go.RowKit Go.ChangeShapes
section
variable {H:Type} {enc:TypeId×Value→H} {P:Program}
theorem Cj {W:World}:∀(ys:List IV) (cs:List Value),ys.length=cs.length→(∀z∈ys,∀q,z≠ .agg q)→(∀(j:Nat) (z:IV),ys[j]?=some z→∃v,cs[j]?=some v∧ic W (fun _=>True) z v) →
  b8 W sP Hp.none (fun _=>True) (ys.map IV.cW) cs
 |[],[],_,_,_=>by simp[b8]
 |[],v::cs,h,_,_=>by simp at h
 |y::ys,[],h,_,_=>by simp at h
 |y::ys,v::cs,h,hf,hg=>by
  obtain⟨v',h1,h2⟩:=hg 0 y (by simp);simp at h1;subst h1;refine⟨v,cs,rfl,?_,Cj ys cs (by simpa using h) (fun z hz=>hf z (by simp[hz])) (fun j z hz=>by simpa using hg (j+1) z (by simpa using hz))⟩;cases y with
  |agg q=>exact absurd rfl (hf _ (by simp) q)
  |_=>simpa[IV.cW,RV,ic] using h2
theorem I7 (B:Bk H) {T:List TypeId} (hT:∀t∈T,I4 P T t=true) {W:World} {t:TypeId} (ht:t∈T) {v:Value} {d:DataW H} {ps:List MemPlace} {r:Reach}
  {b0:Nat} (rf:Value.okWide P W r b0 t v) (h:DataW.Trod enc P W 0 (fun _=>true) true t v d ps) :
  ∃y:IV,Sh P t y∧y.wt≤B.bk d∧RV W sP Hp.none (fun _=>True) y.av v:=by
 obtain⟨fuel,h⟩:=h;obtain⟨y,h1,h2,h3,h4⟩:=read B hT fuel t _ d ps ht h;refine⟨y,h1,h2,?_⟩
 have one:∀u:TypeDesc,P.underlying t=some u→(∀fs,u≠ .struct fs)→(∀n e,u≠ .array n e)→(∀cs,y≠ .agg cs)→RV W sP Hp.none (fun _=>True) y.av v:=by
  intro u hu hs ha hy;have hc:y.cells=[y]:=by cases y<;>first|rfl|exact absurd rfl (hy _)
  have hv:v.cells=#[v]:=by
   cases v with
   |agg cs=>
    unfold Value.okWide at rf;rw[hu] at rf;cases u<;>simp_all[Cell.okWide,Cell.ok]
   |_=>rfl
  rw[hc,hv] at h4;obtain⟨v',e1,e2⟩:=h4 0 y rfl;simp at e1;subst e1;cases y<;>first|(simpa[IV.av,IV.cW,RV,ic] using e2)|exact absurd rfl (hy _)
 cases h1 with
 |b hu=>exact one _ hu (by simp) (by simp) (by simp)
 |i hu _=>exact one _ hu (by simp) (by simp) (by simp)
 |s hu=>exact one _ hu (by simp) (by simp) (by simp)
 |l hu _=>exact one _ hu (by simp) (by simp) (by simp)
 |@g _ fs ys hu hl hf=>
  have n9:=hT t ht;unfold I4 at n9;rw[hu] at n9;simp only[Bool.and_eq_true,decide_eq_true_eq,List.all_eq_true] at n9;unfold Value.okWide at rf;rw[hu] at rf;obtain⟨cs,rfl,k8,_⟩:=rf;simp only[IV.av,RV];refine⟨cs.toList,by simp,Cj ys _ (by simpa[IV.cells,Value.cells] using h3) ?_ (fun j z hz=>by simpa[Value.cells] using h4 j z (by simpa[IV.cells] using hz))⟩;intro z hz q e
  obtain⟨j,hj⟩:=List.getElem?_of_mem hz;have yR:j<fs.size:=by rw[←hl];exact(List.getElem?_eq_some_iff.1 hj).1
  obtain⟨f,P0⟩:∃f,fs[j]?=some f:=⟨_,Array.getElem?_eq_getElem yR⟩;have h5:=hf j f z P0 hj;have h6:=n9.2 j (by simpa using yR);rw[P0] at h6;simp only[Bool.and_eq_true] at h6;have h7:=h6.1.1.2;subst e;cases h5 with
  |g LG _ _=>unfold Cg at h7;rw[LG] at h7;simp at h7
inductive LI (P:Program):List TypeId→List IV→Prop
 |nil:LI P [] []
 |cons {t:TypeId} {y:IV} {ts:List TypeId} {ys:List IV}:Sh P t y→LI P ts ys→LI P (t::ts) (y::ys)
theorem y9 (B:Bk H) {T:List TypeId} (hT:∀t∈T,I4 P T t=true) {W:World} {r:Reach} {b0:Nat}:∀{ts:List TypeId} {vs:List Value} {ds:List (DataW H)} {ps:List MemPlace},(∀t∈ts,t∈T) →
  (∀(j:Nat) (t:TypeId) (v:Value),ts[j]?=some t→vs[j]?=some v→Value.okWide P W r b0 t v)→DataW.TrodAll enc P W 0 (fun _=>true) true ts vs ds ps →
  ∃ys:List IV,LI P ts ys∧lC ys≤(ds.map B.bk).sum∧b8 W sP Hp.none (fun _=>True) (ys.map IV.av) vs
 |[],vs,ds,ps,_,_,h=>by
  obtain⟨rfl,rfl,rfl⟩:=trodAll_nil h;exact⟨[],.nil,by simp[lC],by simp[b8]⟩
 |t::ts,vs,ds,ps,ht,hv,h=>by
  obtain⟨v,vs,d,ds,p,q,rfl,rfl,rfl,h1,h2⟩:=trodAll_cons h;obtain⟨y,k1,k2,k3⟩:=I7 B hT (ht t (by simp)) (hv 0 t v rfl rfl) h1;obtain⟨ys,q1,q2,q3⟩:=y9 B hT (fun t' h'=>ht t' (by simp[h'])) (fun j t' v' a b=>hv (j+1) t' v' (by simpa using a) (by simpa using b)) h2;exact⟨y::ys,.cons k1 q1,by simp only[lC,List.map_cons,List.sum_cons];omega,by simp only[List.map_cons,b8];exact⟨v,vs,rfl,k3,q3⟩⟩
theorem pT {W:World} {b0:Nat} {sp:Nat→Bool} {hd:Bool}:∀{ts:List TypeId} {vs:List Value} {ds:List (DataW H)} {ps:List MemPlace},DataW.TrodAll enc P W b0 sp hd ts vs ds ps→ds.length=ts.length
 |[],vs,ds,ps,h=>by
  obtain⟨_,rfl,_⟩:=trodAll_nil h;rfl
 |t::ts,vs,ds,ps,h=>by
  obtain⟨v,vs,d,ds,p,q,rfl,rfl,rfl,_,h2⟩:=trodAll_cons h;simp[pT h2]
theorem uJ (B:Bk H) {T:List TypeId} (hT:∀t∈T,I4 P T t=true) {f:Nat} {fn:Func} {s:ChangeSpec} {apart fresh handsOn again:Bool} {tb:TypeId} (hl:laidOutB P=true)
  (hp:∀t∈fn.params.toList,t∈T) (hr:fn.params.toList.all (uH P)=true) (sK:fn.resultTypes=#[tb]) (No:P.underlying tb=some .bool) (vR:s.vars=[])
  (W:World) (base:Nat) (args:Array Value) (ds gs:List (DataW H)) (before:List MemPlace)
  (xm:∀ds:List (DataW H),ds.length=fn.params.toList.length→s.fn H ds={results:=[.lit (.bool true)],args:=ds})
  (rf:∀(j:Nat) t v,fn.params[j]?=some t→args[j]?=some v→Value.okWide P W .any base t v)
  (hW:DataW.Whole enc P fn.params.toList s.vars apart W args.toList ds gs before)
  (hg:∀ys,LI P fn.params.toList ys→lC ys≤(ds.map B.bk).sum→az P fV f (ys.map IV.av) (.bool true)) :
  Calls P f args W fun e W'=>∃v,e= .returned v∧s.post enc P fn apart fresh handsOn again W args v W':=by
 have Np:=hW;obtain⟨p,q,hA,hV,rfl,hz,hn⟩:=Np;obtain⟨ys,h1,h2,h3⟩:=y9 B hT hp (fun j t v a b=>rf j t v (by simpa using a) (by simpa using b)) hA;have:=run_pure (hg ys h1 h2) h3;simp only[Array.toArray_toList] at this;refine this.mono ?_;rintro e W' ⟨v,rfl,hb,hv⟩;simp only[RV] at hv;subst hv;exact⟨_,rfl,Ci hl hr sK No vR (xm ds (pT hA)) hW hb⟩
end
end Go.Am

/- Trees: their values, their sizes; copies. -/
namespace Go.Am
open Go Go.RowKit
abbrev Bs:=List UInt8
structure Attr where
 name:Bs
 val:Bs
inductive Tree where
 |mk (text:Bool) (s:Bs) (attrs:List Attr) (kids:List Tree)
def Tree.text:Tree→Bool| .mk t _ _ _=>t
def Tree.s:Tree→Bs| .mk _ s _ _=>s
def Tree.attrs:Tree→List Attr| .mk _ _ a _=>a
def Tree.kids:Tree→List Tree| .mk _ _ _ k=>k
def Attr.cs (a:Attr):List IV:=[.str a.name,.str a.val]
def Attr.iv (a:Attr):IV:= .agg a.cs
def dY (as:List Attr):List IV:=as.map Attr.iv
mutual
def Tree.iv:Tree→IV
 | .mk t s as ks=> .agg [.bool t,.str s,.list (dY as),.list (dc ks)]
def dc:List Tree→List IV
 |[]=>[]
 |x::r=>x.iv::dc r
end
def Tree.cs (x:Tree):List IV:=[.bool x.text,.str x.s,.list (dY x.attrs),.list (dc x.kids)]
def Tree.av (x:Tree):AV:= .agg [.bool x.text,.str x.s,.list (dY x.attrs),.list (dc x.kids)]
theorem Tree.y_ (x:Tree):x.iv= .agg x.cs:=by cases x;simp[Tree.iv,Tree.cs,Tree.text,Tree.s,Tree.attrs,Tree.kids]
theorem Tree.bL (x:Tree):x.iv.cells=x.cs:=by rw[Tree.y_];rfl
theorem Attr.bL (x:Attr):x.iv.cells=x.cs:=rfl
theorem kE:∀xs:List Tree,dc xs=xs.map Tree.iv
 |[]=>by simp[dc]
 |x::r=>by simp[dc,kE r]
theorem bb (xs:List Tree):(dc xs).length=xs.length:=by simp[kE]
theorem cX (xs:List Attr):(dY xs).length=xs.length:=by simp[dY]
theorem gC (xs:List Tree) (i:Nat):(dc xs)[i]?=xs[i]?.map Tree.iv:=by simp[kE]
theorem mY (xs:List Attr) (i:Nat):(dY xs)[i]?=xs[i]?.map Attr.iv:=by simp[dY]
theorem uL (xs ys:List Tree):dc (xs++ys)=dc xs++dc ys:=by simp[kE]
theorem l9 (xs:List Tree):iw 4 (dc xs):=by
 intro x hx;rw[kE] at hx;obtain⟨a,_,rfl⟩:=List.mem_map.1 hx;rw[a.bL];rfl
theorem mA (xs:List Attr):iw 2 (dY xs):=by
 intro x hx;obtain⟨a,_,rfl⟩:=List.mem_map.1 hx;rfl
theorem Tree.ow (x:Tree):∀z∈x.cs,∀cs,z≠ .agg cs:=by
 intro z hz cs;simp only[Tree.cs,List.mem_cons,List.not_mem_nil,or_false] at hz;rcases hz with rfl|rfl|rfl|rfl<;>simp
theorem Ck (xs:List Tree):Flat (dc xs):=by
 intro x hx;rw[kE] at hx;obtain⟨a,_,rfl⟩:=List.mem_map.1 hx;rw[a.bL];exact a.ow
theorem pU (xs:List Attr):Flat (dY xs):=by
 intro x hx;obtain⟨a,_,rfl⟩:=List.mem_map.1 hx;intro z hz cs;simp only[Attr.bL,Attr.cs,List.mem_cons,List.not_mem_nil,or_false] at hz;rcases hz with rfl|rfl<;>simp
def Attr.wt (a:Attr):Nat:=1+a.name.length+a.val.length
def l_:List Attr→Nat
 |[]=>0
 |a::r=>a.wt+l_ r
mutual
def Tree.wt:Tree→Nat
 | .mk _ s as ks=>1+s.length+l_ as+di ks
def di:List Tree→Nat
 |[]=>0
 |x::r=>x.wt+di r
end
theorem Tree.iB (x:Tree):x.wt=1+x.s.length+l_ x.attrs+di x.kids:=by cases x;simp[Tree.wt,Tree.s,Tree.attrs,Tree.kids]
theorem jM:∀xs:List Attr,xs.length≤l_ xs
 |[]=>by simp[l_]
 |a::r=>by have:=jM r;simp[l_,Attr.wt];omega
theorem fu:∀xs:List Tree,xs.length≤di xs
 |[]=>by simp[di]
 |a::r=>by have:=fu r;have:=a.iB;simp[di];omega
theorem jN:∀(xs:List Tree) (i:Nat) (x:Tree),xs[i]?=some x→x.wt≤di xs
 |[],i,x,h=>by simp at h
 |a::r,0,x,h=>by simp at h;subst h;simp[di]
 |a::r,i+1,x,h=>by have:=jN r i x (by simpa using h);simp[di];omega
theorem fW:∀xs ys:List Tree,di (xs++ys)=di xs+di ys
 |[],ys=>by simp[di]
 |a::r,ys=>by simp[di,fW r ys];omega
def B:Nat:=2^30
theorem le_max {n:Nat} (h:n≤100):n≤maxLen:=Nat.le_trans h (by decide)
end Go.Am

/- Trees: are they the same? -/
namespace Go.Am
open Go Go.RowKit
open Classical in
noncomputable def vp {α:Type} (x y:α):Bool:=decide (x=y)
theorem jq {α:Type} (x:α):vp x x=true:=by simp[vp]
theorem iC {α:Type} {x y:α} (h:x≠y):vp x y=false:=by simp[vp,h]
theorem Attr.ext {x y:Attr} (h1:x.name=y.name) (h2:x.val=y.val):x=y:=by cases x;cases y;simp_all
theorem Tree.ext {x y:Tree} (h1:x.text=y.text) (h2:x.s=y.s) (h3:x.attrs=y.attrs) (h4:x.kids=y.kids):x=y:=by
 cases x;cases y;simp_all[Tree.text,Tree.s,Tree.attrs,Tree.kids]
def lK (g:Nat):AC:=
(.seq
 (.aM [
  ⟨some 4,none,.ak (.c (.bool false))⟩])
(.seq
 (.seq
  (.aM [
   ⟨some 6,none,.ak (.t 0)⟩,
   ⟨some 7,none,.len (.t 6)⟩,
   ⟨some 8,none,.ak (.t 1)⟩,
   ⟨some 9,none,.len (.t 8)⟩,
   ⟨some 10,none,.bin .neq (.t 7) (.t 9)⟩])
 (.cond (.t 10)
  (.seq
   (.aM [
    ⟨some 4,none,.ak (.c (.bool false))⟩])
  .ret)
  .skip))
(.seq
 (.seq
  (.aM [
   ⟨some 11,none,.ak (.t 0)⟩,
   ⟨some 12,none,.len (.t 11)⟩,
   ⟨some 13,none,.ak (.c (.int .i64 0))⟩])
 (.block 0
  (.loop
   (.seq
    (.aM [
     ⟨some 14,none,.bin .lss (.t 13) (.t 12)⟩])
   (.seq
    (.cond (.t 14)
     .skip
     (.exit 0))
   (.seq
    (.block 1
     (.seq
      (.aM [
       ⟨some 15,none,.ak (.t 13)⟩,
       ⟨some 5,none,.ak (.t 15)⟩])
     (.seq
      (.eY [
       ⟨some 16,none,.ak (.t 0)⟩,
       ⟨some 17,none,.ak (.t 5)⟩,
       ⟨some 18,none,.fJ (.t 16) (.t 17) 4⟩,
       ⟨some 19,none,.load (some 4) (.t 18)⟩,
       ⟨some 20,none,.ak (.t 1)⟩,
       ⟨some 21,none,.ak (.t 5)⟩,
       ⟨some 22,none,.fJ (.t 20) (.t 21) 4⟩,
       ⟨some 23,none,.load (some 4) (.t 22)⟩,
       ⟨some 24,none,.call g [(.t 19),(.t 23)]⟩,
       ⟨some 25,none,.not (.t 24)⟩]
       [[],[],[0,1],[2],[],[],[4,5],[6],[3,7],[8]]
       [.no,.no,.no,.no,.no,.no,.no,.no,.no,.no])
     (.cond (.t 25)
      (.seq
       (.aM [
        ⟨some 4,none,.ak (.c (.bool false))⟩])
      .ret)
      .skip))))
   (.aM [
    ⟨some 26,none,.bin .add (.t 13) (.c (.int .i64 1))⟩,
    ⟨some 13,none,.ak (.t 26)⟩])))))))
(.seq
 (.aM [
  ⟨some 4,none,.ak (.c (.bool true))⟩])
.ret))))
def G1 (xs ys:List IV) (i:Nat):Env:=
 put (put (put (put Env.any 0 (.list xs)) 1 (.list ys)) 12 (.int .i64 xs.length)) 13 (.int .i64 i)
theorem xM {P:Program} {G:Nat→Option (List IV)} {f g:Nat} (hF:aA P G f=some (27,[(none,4)],(lK g).bare)) (xs ys:List Tree) (hx:xs.length≤B)
  (hg:∀x∈xs,∀y∈ys,az P G g [x.av,y.av] (.bool (vp x y))):az P G f [.list (dc xs),.list (dc ys)] (.bool (vp xs ys)):=by
 refine bm hF (by simp) (by simp[ax,AV.aI]) (by simp[AV.aI]) ?_;unfold lK
 simp only[↓fk,fl,cF,↓aE,ae,ev,b7,List.getD_cons_zero,List.getD_cons_succ,Nat.reduceEqDiff,if_false,if_true,Nat.reduceLT,Nat.reduceLeDiff,Nat.reduceAdd,Nat.reduceMul,true_and,and_true,List.length_map,bY,AV.cells,List.length_cons,List.length_nil,ai,Lb.loc.injEq,↓aF,↓aT,↓aG,↓bp,↓bn,↓bo,bq,a_,e_,List.getElem?_cons_zero,List.getElem?_cons_succ,Option.bind_some,Option.map_some,List.map_cons,List.map_nil,Int.natCast_nonneg,Int.toNat_natCast,AV.ew,AV.one,List.all_cons,List.all_nil,Bool.and_self,Bool.and_true,Bool.true_and,List.take_succ_cons,List.take_zero,List.drop_succ_cons,List.drop_zero,List.cons_append,List.nil_append,List.append_nil,List.set_cons_zero,IV.cW,Lb.app,Lb.fresh,aP,aQ,aR,aD,reduceCtorEq,Bool.false_eq_true,List.take,List.drop,List.mem_cons,List.not_mem_nil,or_false,bU,cw,forall_eq,false_implies,implies_true,ev,Hp.none,Nat.le_refl,List.set_cons_succ,bu,chunks,eg,AV.iv,eW,List.replicate_one,List.flatten_cons,List.flatten_nil,Nat.zero_mul,Nat.zero_add,Nat.mul_one,bb]
 by_cases hl:xs.length=ys.length
 ·rw[show((xs.length:Int) !=(ys.length:Int))=false by simp[hl]]
  simp only[↓fk,fl,cF,↓aE,ae,ev,b7,List.getD_cons_zero,List.getD_cons_succ,Nat.reduceEqDiff,if_false,if_true,Nat.reduceLT,Nat.reduceLeDiff,Nat.reduceAdd,Nat.reduceMul,true_and,and_true,List.length_map,bY,AV.cells,List.length_cons,List.length_nil,ai,Lb.loc.injEq,↓aF,↓aT,↓aG,↓bp,↓bn,↓bo,bq,a_,e_,List.getElem?_cons_zero,List.getElem?_cons_succ,Option.bind_some,Option.map_some,List.map_cons,List.map_nil,Int.natCast_nonneg,Int.toNat_natCast,AV.ew,AV.one,List.all_cons,List.all_nil,Bool.and_self,Bool.and_true,Bool.true_and,List.take_succ_cons,List.take_zero,List.drop_succ_cons,List.drop_zero,List.cons_append,List.nil_append,List.append_nil,List.set_cons_zero,IV.cW,Lb.app,Lb.fresh,aP,aQ,aR,aD,reduceCtorEq,Bool.false_eq_true,List.take,List.drop,List.mem_cons,List.not_mem_nil,or_false,bU,cw,forall_eq,false_implies,implies_true,ev,Hp.none,Nat.le_refl,List.set_cons_succ,bu,chunks,eg,AV.iv,eW,List.replicate_one,List.flatten_cons,List.flatten_nil,Nat.zero_mul,Nat.zero_add,Nat.mul_one,bb]
  refine iQ (σ:={i:Nat // i≤xs.length∧∀j,j<i→xs[j]?=ys[j]?}) (fun s=>G1 (dc xs) (dc ys) s.1) (fun _=>Hp.none) (fun s=>xs.length - s.1) ⟨0,by simp⟩ id ?_ ?_
  ·refine .none ?_ ?_
   ·exact bJ rfl (bJ (by simp[nX,bb,cG]) (bJ rfl (bJ rfl (gk _ _))))
   ·exact bK (by simp[AV.aI]) (bK (by simp[AV.aI]) (bK (by simp[AV.aI]) (bK (by simp[AV.aI]) (gl _))))
  ·rintro⟨i,hi,hs⟩
   simp only[↓fk,fl,cF,↓aE,ae,ev,b7,List.getD_cons_zero,List.getD_cons_succ,Nat.reduceEqDiff,if_false,if_true,Nat.reduceLT,Nat.reduceLeDiff,Nat.reduceAdd,Nat.reduceMul,true_and,and_true,List.length_map,bY,AV.cells,List.length_cons,List.length_nil,ai,Lb.loc.injEq,↓aF,↓aT,↓aG,↓bp,↓bn,↓bo,bq,a_,e_,List.getElem?_cons_zero,List.getElem?_cons_succ,Option.bind_some,Option.map_some,List.map_cons,List.map_nil,Int.natCast_nonneg,Int.toNat_natCast,AV.ew,AV.one,List.all_cons,List.all_nil,Bool.and_self,Bool.and_true,Bool.true_and,List.take_succ_cons,List.take_zero,List.drop_succ_cons,List.drop_zero,List.cons_append,List.nil_append,List.append_nil,List.set_cons_zero,IV.cW,Lb.app,Lb.fresh,aP,aQ,aR,aD,reduceCtorEq,Bool.false_eq_true,List.take,List.drop,List.mem_cons,List.not_mem_nil,or_false,bU,cw,forall_eq,false_implies,implies_true,ev,Hp.none,Nat.le_refl,List.set_cons_succ,bu,chunks,eg,AV.iv,eW,List.replicate_one,List.flatten_cons,List.flatten_nil,Nat.zero_mul,Nat.zero_add,Nat.mul_one,G1,bb]
   by_cases cj:i<xs.length
   ·rw[show decide ((i:Int)<(xs.length:Int))=true by simpa using cj];obtain⟨x,mj⟩:∃x,xs[i]?=some x:=⟨_,List.getElem?_eq_getElem cj⟩;obtain⟨y,vQ⟩:∃y,ys[i]?=some y:=⟨_,List.getElem?_eq_getElem (hl▸cj)⟩
    simp only[↓fk,fl,cF,↓aE,ae,ev,b7,List.getD_cons_zero,List.getD_cons_succ,Nat.reduceEqDiff,if_false,if_true,Nat.reduceLT,Nat.reduceLeDiff,Nat.reduceAdd,Nat.reduceMul,true_and,and_true,List.length_map,bY,AV.cells,List.length_cons,List.length_nil,ai,Lb.loc.injEq,↓aF,↓aT,↓aG,↓bp,↓bn,↓bo,bq,a_,e_,List.getElem?_cons_zero,List.getElem?_cons_succ,Option.bind_some,Option.map_some,List.map_cons,List.map_nil,Int.natCast_nonneg,Int.toNat_natCast,AV.ew,AV.one,List.all_cons,List.all_nil,Bool.and_self,Bool.and_true,Bool.true_and,List.take_succ_cons,List.take_zero,List.drop_succ_cons,List.drop_zero,List.cons_append,List.nil_append,List.append_nil,List.set_cons_zero,IV.cW,Lb.app,Lb.fresh,aP,aQ,aR,aD,reduceCtorEq,Bool.false_eq_true,List.take,List.drop,List.mem_cons,List.not_mem_nil,or_false,bU,cw,forall_eq,false_implies,implies_true,ev,Hp.none,Nat.le_refl,List.set_cons_succ,bu,chunks,eg,AV.iv,eW,List.replicate_one,List.flatten_cons,List.flatten_nil,Nat.zero_mul,Nat.zero_add,Nat.mul_one,gC,mj,vQ,l9,Tree.bL,Tree.cs]
    refine⟨rfl,kb (hg x (List.mem_of_getElem? mj) y (List.mem_of_getElem? vQ)) ?_⟩;by_cases xE:x=y
    ·subst xE;have hw:IntKind.i64.wrap ((i:Int)+1)=((i+1:Nat):Int):=wrap64 (by omega) (by unfold B at hx;omega)
     simp only[↓fk,fl,cF,↓aE,ae,ev,b7,List.getD_cons_zero,List.getD_cons_succ,Nat.reduceEqDiff,if_false,if_true,Nat.reduceLT,Nat.reduceLeDiff,Nat.reduceAdd,Nat.reduceMul,true_and,and_true,List.length_map,bY,AV.cells,List.length_cons,List.length_nil,ai,Lb.loc.injEq,↓aF,↓aT,↓aG,↓bp,↓bn,↓bo,bq,a_,e_,List.getElem?_cons_zero,List.getElem?_cons_succ,Option.bind_some,Option.map_some,List.map_cons,List.map_nil,Int.natCast_nonneg,Int.toNat_natCast,AV.ew,AV.one,List.all_cons,List.all_nil,Bool.and_self,Bool.and_true,Bool.true_and,List.take_succ_cons,List.take_zero,List.drop_succ_cons,List.drop_zero,List.cons_append,List.nil_append,List.append_nil,List.set_cons_zero,IV.cW,Lb.app,Lb.fresh,aP,aQ,aR,aD,reduceCtorEq,Bool.false_eq_true,List.take,List.drop,List.mem_cons,List.not_mem_nil,or_false,bU,cw,forall_eq,false_implies,implies_true,ev,Hp.none,Nat.le_refl,List.set_cons_succ,bu,chunks,eg,AV.iv,eW,List.replicate_one,List.flatten_cons,List.flatten_nil,Nat.zero_mul,Nat.zero_add,Nat.mul_one,hw,jq,Bool.not_true]
     refine⟨⟨i+1,cj,fun j hj=> ?_⟩,by simp only;omega,id,.none ?_ ?_⟩
     ·by_cases e:j=i
      ·rw[e,mj,vQ]
      ·exact hs j (by omega)
     ·exact bJ rfl (bJ (by simp[nX,bb,cG]) (bJ rfl (bJ rfl (gk _ _))))
     ·exact bK (by simp[AV.aI]) (bK (by simp[AV.aI]) (bK (by simp[AV.aI]) (bK (by simp[AV.aI]) (gl _))))
    ·have dm:xs≠ys:=fun e=>xE (by rw[e,vQ] at mj;cases mj;rfl)
     simp only[↓fk,fl,cF,↓aE,ae,ev,b7,List.getD_cons_zero,List.getD_cons_succ,Nat.reduceEqDiff,if_false,if_true,Nat.reduceLT,Nat.reduceLeDiff,Nat.reduceAdd,Nat.reduceMul,true_and,and_true,List.length_map,bY,AV.cells,List.length_cons,List.length_nil,ai,Lb.loc.injEq,↓aF,↓aT,↓aG,↓bp,↓bn,↓bo,bq,a_,e_,List.getElem?_cons_zero,List.getElem?_cons_succ,Option.bind_some,Option.map_some,List.map_cons,List.map_nil,Int.natCast_nonneg,Int.toNat_natCast,AV.ew,AV.one,List.all_cons,List.all_nil,Bool.and_self,Bool.and_true,Bool.true_and,List.take_succ_cons,List.take_zero,List.drop_succ_cons,List.drop_zero,List.cons_append,List.nil_append,List.append_nil,List.set_cons_zero,IV.cW,Lb.app,Lb.fresh,aP,aQ,aR,aD,reduceCtorEq,Bool.false_eq_true,List.take,List.drop,List.mem_cons,List.not_mem_nil,or_false,bU,cw,forall_eq,false_implies,implies_true,ev,Hp.none,Nat.le_refl,List.set_cons_succ,bu,chunks,eg,AV.iv,eW,List.replicate_one,List.flatten_cons,List.flatten_nil,Nat.zero_mul,Nat.zero_add,Nat.mul_one,iC dm,iC xE,Bool.not_false]
   ·rw[show decide ((i:Int)<(xs.length:Int))=false by simpa using cj]
    simp only[↓fk,fl,cF,↓aE,ae,ev,b7,List.getD_cons_zero,List.getD_cons_succ,Nat.reduceEqDiff,if_false,if_true,Nat.reduceLT,Nat.reduceLeDiff,Nat.reduceAdd,Nat.reduceMul,true_and,and_true,List.length_map,bY,AV.cells,List.length_cons,List.length_nil,ai,Lb.loc.injEq,↓aF,↓aT,↓aG,↓bp,↓bn,↓bo,bq,a_,e_,List.getElem?_cons_zero,List.getElem?_cons_succ,Option.bind_some,Option.map_some,List.map_cons,List.map_nil,Int.natCast_nonneg,Int.toNat_natCast,AV.ew,AV.one,List.all_cons,List.all_nil,Bool.and_self,Bool.and_true,Bool.true_and,List.take_succ_cons,List.take_zero,List.drop_succ_cons,List.drop_zero,List.cons_append,List.nil_append,List.append_nil,List.set_cons_zero,IV.cW,Lb.app,Lb.fresh,aP,aQ,aR,aD,reduceCtorEq,Bool.false_eq_true,List.take,List.drop,List.mem_cons,List.not_mem_nil,or_false,bU,cw,forall_eq,false_implies,implies_true,ev,Hp.none,Nat.le_refl,List.set_cons_succ,bu,chunks,eg,AV.iv,eW,List.replicate_one,List.flatten_cons,List.flatten_nil,Nat.zero_mul,Nat.zero_add,Nat.mul_one]
    have:xs=ys:=List.ext_getElem? fun j=>by
     by_cases hj:j<i
     ·exact hs j hj
     ·rw[List.getElem?_eq_none (by omega),List.getElem?_eq_none (by omega)]
    rw[this,jq]
 ·rw[show((xs.length:Int) !=(ys.length:Int))=true by simp;omega];have:xs≠ys:=fun e=>hl (by rw[e])
  simp only[↓fk,fl,cF,↓aE,ae,ev,b7,List.getD_cons_zero,List.getD_cons_succ,Nat.reduceEqDiff,if_false,if_true,Nat.reduceLT,Nat.reduceLeDiff,Nat.reduceAdd,Nat.reduceMul,true_and,and_true,List.length_map,bY,AV.cells,List.length_cons,List.length_nil,ai,Lb.loc.injEq,↓aF,↓aT,↓aG,↓bp,↓bn,↓bo,bq,a_,e_,List.getElem?_cons_zero,List.getElem?_cons_succ,Option.bind_some,Option.map_some,List.map_cons,List.map_nil,Int.natCast_nonneg,Int.toNat_natCast,AV.ew,AV.one,List.all_cons,List.all_nil,Bool.and_self,Bool.and_true,Bool.true_and,List.take_succ_cons,List.take_zero,List.drop_succ_cons,List.drop_zero,List.cons_append,List.nil_append,List.append_nil,List.set_cons_zero,IV.cW,Lb.app,Lb.fresh,aP,aQ,aR,aD,reduceCtorEq,Bool.false_eq_true,List.take,List.drop,List.mem_cons,List.not_mem_nil,or_false,bU,cw,forall_eq,false_implies,implies_true,ev,Hp.none,Nat.le_refl,List.set_cons_succ,bu,chunks,eg,AV.iv,eW,List.replicate_one,List.flatten_cons,List.flatten_nil,Nat.zero_mul,Nat.zero_add,Nat.mul_one,iC this]
end Go.Am

/- Trees: out of readings. -/
namespace Go.Am
open Go Go.RowKit
section
variable {P:Program}
theorem Sh.G2 {t:TypeId} {y:IV} (h:Sh P t y) (hu:P.underlying t=some .bool):∃x,y= .bool x:=by
 cases h<;>simp_all
theorem Sh.vS {t:TypeId} {y:IV} {k:IntKind} (h:Sh P t y) (hu:P.underlying t=some (.int k)):∃n,y= .int k n∧(Lit.int k n).wf=true:=by
 cases h<;>simp_all
theorem Sh.tg {t:TypeId} {y:IV} (h:Sh P t y) (hu:P.underlying t=some .string):∃x,y= .str x:=by
 cases h<;>simp_all
theorem Sh.rh {t e:TypeId} {y:IV} (h:Sh P t y) (hu:P.underlying t=some (.slice e)):∃ys,y= .list ys∧∀y∈ys,Sh P e y:=by
 cases h<;>simp_all
theorem Sh.vT {t:TypeId} {fs:Array Field} {y:IV} (h:Sh P t y) (hu:P.underlying t=some (.struct fs)) :
  ∃ys,y= .agg ys∧ys.length=fs.size∧∀(j:Nat) (f:Field) (y:IV),fs[j]?=some f→ys[j]?=some y→Sh P f.type y:=by
 cases h with
 |g LG h1 h2=>
  rw[LG] at hu;cases hu;exact⟨_,rfl,h1,h2⟩
 |_=>simp_all
structure za (P:Program) where
 tB:TypeId
 tS:TypeId
 tA:TypeId
 Ky:TypeId
 tT:TypeId
 I8:TypeId
 fA:Array Field
 fT:Array Field
 uB:P.underlying tB=some .bool
 uS:P.underlying tS=some .string
 Ol:P.underlying Ky=some (.slice tA)
 Om:P.underlying I8=some (.slice tT)
 uA:P.underlying tA=some (.struct fA)
 uT:P.underlying tT=some (.struct fT)
 sA:fA.toList.map (·.type)=[tS,tS]
 sT:fT.toList.map (·.type)=[tB,tS,Ky,I8]
theorem dR {fs:Array Field} {ts:List TypeId} (h:fs.toList.map (·.type)=ts) (j:Nat) (t:TypeId) (ht:ts[j]?=some t):∃f,fs[j]?=some f∧f.type=t:=by
 subst h;rw[List.getElem?_map] at ht;obtain⟨f,h1,rfl⟩:=Option.map_eq_some_iff.1 ht;exact⟨f,by simpa using h1,rfl⟩
theorem Sh.attr (T:za P) {y:IV} (h:Sh P T.tA y):∃a:Attr,y=a.iv∧a.wt≤y.wt:=by
 obtain⟨ys,rfl,hl,hy⟩:=h.vT T.uA;have hs:T.fA.size=2:=by have:=congrArg List.length T.sA;simpa using this
 match ys,hl.trans hs,hy with
 |[y0,y1],_,hy=>
  obtain⟨f0,e0,t0⟩:=dR T.sA 0 T.tS rfl;obtain⟨f1,e1,t1⟩:=dR T.sA 1 T.tS rfl;have h0:=hy 0 f0 y0 e0 rfl;have h1:=hy 1 f1 y1 e1 rfl;rw[t0] at h0;rw[t1] at h1;obtain⟨x0,rfl⟩:=h0.tg T.uS;obtain⟨x1,rfl⟩:=h1.tg T.uS;exact⟨⟨x0,x1⟩,rfl,by simp[Attr.wt,IV.wt,lC];omega⟩
theorem Sh.attrs (T:za P):∀(ys:List IV),(∀y∈ys,Sh P T.tA y)→∃as,ys=dY as∧l_ as≤lC ys
 |[],_=>⟨[],rfl,by simp[l_,lC]⟩
 |y::r,h=>by
  obtain⟨a,rfl,h1⟩:=(h y (by simp)).attr T;obtain⟨as,rfl,h2⟩:=Sh.attrs T r (fun z hz=>h z (by simp[hz]));exact⟨a::as,rfl,by simp only[l_,lC];omega⟩
theorem Sh.G3 (T:za P):∀(n:Nat),(∀y:IV,y.wt≤n→Sh P T.tT y→∃x:Tree,y=x.iv∧x.wt≤y.wt)∧∀ys:List IV,lC ys≤n→(∀y∈ys,Sh P T.tT y)→∃xs,ys=dc xs∧di xs≤lC ys:=by
 intro n
 induction n with
 |zero=>
  refine⟨fun y hy h=> ?_,fun ys hy h=> ?_⟩
  ·exfalso;cases y<;>simp[IV.wt] at hy
  ·cases ys with
   |nil=>exact⟨[],rfl,by simp[di,lC]⟩
   |cons y r=>exfalso;cases y<;>simp[IV.wt,lC] at hy
 |succ n ih=>
  have one:∀y:IV,y.wt≤n+1→Sh P T.tT y→∃x:Tree,y=x.iv∧x.wt≤y.wt:=by
   intro y hy h;obtain⟨ys,rfl,hl,n8⟩:=h.vT T.uT;have hs:T.fT.size=4:=by have:=congrArg List.length T.sT;simpa using this
   match ys,hl.trans hs,n8,hy with
   |[y0,y1,y2,y3],_,n8,hy=>
    obtain⟨f0,e0,t0⟩:=dR T.sT 0 T.tB rfl;obtain⟨f1,e1,t1⟩:=dR T.sT 1 T.tS rfl;obtain⟨f2,e2,t2⟩:=dR T.sT 2 T.Ky rfl;obtain⟨f3,e3,t3⟩:=dR T.sT 3 T.I8 rfl;have h0:=n8 0 f0 y0 e0 rfl;have h1:=n8 1 f1 y1 e1 rfl;have h2:=n8 2 f2 y2 e2 rfl;have h3:=n8 3 f3 y3 e3 rfl;rw[t0] at h0;rw[t1] at h1;rw[t2] at h2;rw[t3] at h3;obtain⟨b,rfl⟩:=h0.G2 T.uB;obtain⟨s,rfl⟩:=h1.tg T.uS;obtain⟨z2,rfl,g2⟩:=h2.rh T.Ol
    obtain⟨z3,rfl,g3⟩:=h3.rh T.Om;obtain⟨as,rfl,w2⟩:=Sh.attrs T z2 g2;simp only[IV.wt,lC] at hy;obtain⟨ks,rfl,w3⟩:=ih.2 z3 (by omega) g3;exact⟨.mk b s as ks,by simp[Tree.iv],by simp only[Tree.wt,IV.wt,lC];omega⟩
  refine⟨one,fun ys=> ?_⟩
  induction ys with
  |nil=>exact fun _ _=>⟨[],rfl,by simp[di,lC]⟩
  |cons y r On=>
   intro hy h;simp only[lC] at hy;obtain⟨x,rfl,h1⟩:=one y (by omega) (h y (by simp));obtain⟨xs,rfl,h2⟩:=On (by omega) (fun z hz=>h z (by simp[hz]));exact⟨x::xs,rfl,by simp only[di,lC];omega⟩
theorem Sh.trees (T:za P) {y:IV} (h:Sh P T.I8 y):∃xs:List Tree,y= .list (dc xs)∧di xs≤y.wt:=by
 obtain⟨ys,rfl,hy⟩:=h.rh T.Om;obtain⟨xs,rfl,hw⟩:=(Sh.G3 T (lC ys)).2 ys (Nat.le_refl _) hy;exact⟨xs,rfl,by simp only[IV.wt];omega⟩
end
end Go.Am
