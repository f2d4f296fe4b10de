import Derived.Test.YtfinkeaikbmpgaaDoorAm11
import Derived.Laws.MakeOwn
set_option linter.unusedSimpArgs false
set_option linter.unusedVariables false
set_option linter.unnecessarySimpa false
set_option linter.defProp false
/- THE ABSTRACT MACHINE, part 38: copies, clears, rows of noughts, room. -/
namespace Go.Am
open Go Go.RowKit
def zm:AV→Option (Lb×Nat×Nat×Nat)
 | .sl l sz i n=>some (l,sz,i,n)
 | .slk l sz i n _=>some (l,sz,i,n)
 |_=>none
def ud:AV→Option (Nat→Prop)
 | .slk _ _ _ _ c=>some fun m=>m=c
 | .sl _ _ _ n=>some fun m=>n≤m
 | .list xs=>some fun m=>xs.length≤m
 | .nil0=>some fun m=>m=0
 |_=>none
open Classical in
noncomputable def n8 (sz:Nat) (d x:AV) (H:Hp):Option (AV×Hp):=
 (il sz x H).bind fun news=>(zm d).bind fun p=>if ¬(∀cs∈news.take (Nat.min news.length p.2.2.2),AV.lS cs) then none else
  match H p.1 with
   | .live r=>if p.2.1=sz∧r.sz=sz∧p.2.2.1+p.2.2.2≤r.bN.length then
    some (.int .i64 ((Nat.min news.length p.2.2.2:Nat):Int),bb H p.1 (.live ⟨sz,r.bN.take p.2.2.1++news.take (Nat.min news.length p.2.2.2)++r.bN.drop (p.2.2.1+(news.take (Nat.min news.length p.2.2.2)).length)⟩)) else none
   |_=>none
open Classical in
noncomputable def n9 (sz:Nat) (z:List AV) (x:AV) (H:Hp):Option Hp:=
 if ¬AV.lS z then none else(zm x).bind fun p=>match H p.1 with
  | .live r=>if p.2.1=sz∧r.sz=sz∧p.2.2.1+p.2.2.2≤r.bN.length then
   some (bb H p.1 (.live ⟨sz,r.bN.take p.2.2.1++List.replicate p.2.2.2 z++r.bN.drop (p.2.2.1+(List.replicate p.2.2.2 z).length)⟩)) else none
  |_=>none
open Classical in
noncomputable def mK (sz bytes d:Nat) (z:List AV) (n c:AV) (H:Hp):Option (AV×Hp):=
 match n,c with
 | .int _ m,.int _ m'=>if m=m'∧0≤m∧m.toNat*bytes≤140737488355328∧H (.loc d)= .unused then some (.sl (.loc d) sz 0 m.toNat,bb H (.loc d) (.live ⟨sz,List.replicate m.toNat z⟩)) else none
 |_,_=>none
open Classical in
noncomputable def o5 (sz bytes d:Nat) (z:List AV) (s n:AV) (H:Hp):Option (AV×Hp):=
 match s,n with
 | .slk l s' i n c,.int _ m=>match H l with
  | .live r=>if s'=sz∧r.sz=sz∧i=0∧n≤r.bN.length∧0≤m∧c<n+m.toNat∧(n+m.toNat)*bytes≤140737488355328∧H (.loc d)= .unused then
   some (.sl (.loc d) sz 0 (n+m.toNat),bb H (.loc d) (.live ⟨sz,r.bN.take n++List.replicate m.toNat z⟩)) else none
  |_=>none
 |_,_=>none
noncomputable def n_ (sz d:Nat) (z:List AV) (ps:List (Nat×AV)) (H:Hp):Option (AV×Hp):=
 (dD z (ps.map fun p=>(p.1*sz,sz,p.2))).bind fun cs=>open Classical in if H (.loc d)= .unused∧cs.length=sz∧0<sz then some (.sl (.loc d) sz 0 1,bb H (.loc d) (.live ⟨sz,[cs]⟩)) else none
section
variable {K:Kx} {β:Lb→Option Nat} {env:Env} {H:Hp} {a:Act} {w:World}
def ri {x:AV} {l:Lb} {sz i n:Nat} (h:zm x=some (l,sz,i,n)) {v:Value} (hv:RV w β H (Im K β H) x v) :
  l∈x.ax∧∃ad c,v= .slice ad n c∧n≤c∧c≤maxLen∧(live H l→tq w β l sz i c ad):=by
 cases x<;>simp[zm] at h
 case sl=>
  obtain⟨rfl,rfl,rfl,rfl⟩:=h;simp only[RV] at hv;obtain⟨ad,c,h1,h2,h3,_,h5⟩:=hv;exact⟨by simp[AV.ax],ad,c,h1,h2,h3,h5⟩
 case slk=>
  obtain⟨rfl,rfl,rfl,rfl⟩:=h;simp only[RV] at hv;obtain⟨ad,h1,h2,h3,_,h5⟩:=hv;exact⟨by simp[AV.ax],ad,_,h1,h2,h3,h5⟩
def mL (hr:au K β env H a w) {l:Lb} {r:Row} (hl:H l= .live r) {sz i n c:Nat} {ad:Option Addr} (fh:r.sz=sz) (hc:n≤c) (xc:tq w β l sz i c ad) {news:List (List AV)} {vals:List Value}
  (hn:news.length≤n) (pA:i+news.length≤r.bN.length)
  (xb:∀cs∈news,cs.length=r.sz) (Ab:∀cs∈news,∀q∈af cs,H q≠ .unused) (hv:vals.length=news.length*r.sz)
  (h2:∀i j cs x,news[i]?=some cs→cs[j]?=some x→∃v,vals[i*r.sz+j]?=some v∧RV w β H (Im K β H) x v) (cx:∀v∈vals,v.oneCell'=true) :
  ∃w',(match ad with|some q=>storeCells q vals|none=>pure ()).run K.P w= .ok () w' ∧
   au K β env (bb H l (.live ⟨sz,r.bN.take i++news++r.bN.drop (i+news.length)⟩)) a w':=by
 subst fh;rcases xc with rfl|⟨g,S,g1,rfl,g3,g4⟩
 ·have fa:news=[]:=FH (by omega);subst fa;have ub:vals=[]:=FH (by simpa using hv);subst ub;have hH:bb H l (.live ⟨r.sz,r.bN.take i++[]++r.bN.drop (i+([]:List (List AV)).length)⟩)=H:=by
   funext q;by_cases e:q=l
   ·subst e;simp[hl]
   rw[ai _ _ e]
  rw[hH];refine⟨w,?_,hr⟩;cases ad<;>simp[storeCells]
 obtain⟨cur',w1,w2,_⟩:=k8 hr hl g1 (i:=i) (news:=news) (vals:=vals) pA xb Ab hv h2 cx;exact⟨_,w1,w2⟩
def pJ {sz:Nat} {xv:Value} {news:List (List AV)} {vals:List Value} (h0:0<sz) (S:Src K β H w sz xv news vals) (k:Nat) (cx:∀cs∈news.take k,AV.lS cs):∀v∈vals.take (k*sz),v.oneCell'=true:=by
 intro v hv;obtain⟨q,hq⟩:=Gl hv;rw[FA] at hq;split at hq
 case isFalse=>simp at hq
 rename_i DY;have zh:q<news.length*sz:=by rw[←S.len];exact(Fw.1 hq).1
 have zj:q/sz<news.length:=Hm (by rw[G7];exact zh);have BW:q/sz<k:=Hm (by rw[G7];exact DY);have DX:q%sz<sz:=Ik _ h0;have pI:news[q/sz]?=some news[q/sz]:=FF zj;have nO:=S.pH _ (GQ zj);have zi:(news[q/sz])[q%sz]?=some ((news[q/sz])[q%sz]'(by omega)):=FF (by omega)
 obtain⟨v',e1,e2⟩:=S.rv _ _ _ _ pI zi;have:q/sz*sz+q%sz=q:=by rw[G7];exact Il q sz
 rw[this,hq] at e1;cases e1;refine RV.ie e2 (cx _ ?_ _ (GQ _));refine Fx (i:=q/sz) ?_;rw[FA,FG BW];exact pI
def Ah (hr:au K β env H a w) {o:Oper} {c:Call} {d x:Operand} {d' x':O} {dt xt e:TypeId} {sz:Nat} {dd:Option Nat} (hd:∀n,dd=some n→n<K.N) (ho:o.op= .call c) (hc:c.callee= .builtin .copy)
   (ha:c.args.toList=[d,x]) (xc:c.argTypes.toList=[dt,xt]) (Bt:K.P.underlying dt=some (.slice e)) (hs:j0 K.P e=some sz) (h0:sz≠0) (nP:co K.G d=some d') (hx:co K.G x=some x') {y:AV} {H':Hp}
   (hy:n8 sz (ev env d') (ev env x') H=some (y,H')):eT K env a w o dd y H':=by
 have lO:c.args=#[d,x]:=by cases hh:c.args;simp_all
 have n6:c.argTypes=#[dt,xt]:=by cases hh:c.argTypes;simp_all
 have dS:(execOp a.eval o).run K.P w=((Builtin.copy_ #[dt,xt] o.type #[a.eval d,a.eval x]).run K.P w).andThen fun v w'=> .ok (.value v) w':=by
   simp[execOp,ho,resolve,hc,lO,n6,invoke,builtin]
 unfold n8 at hy
 obtain⟨news,hn,hy⟩:=Fv.1 hy
 obtain⟨vals,S⟩:=jW hr hx (by omega) hn
 have DZ:=hr.ev nP
 obtain⟨⟨l,s0,i,n⟩,hp,hy⟩:=Fv.1 hy
 simp only at hy
 split at hy
 · simp at hy
 rename_i cx
 have cx:∀cs∈news.take (Nat.min news.length n),AV.lS cs:=G2 cx
 have o4:=pJ (by omega) S (Nat.min news.length n) cx
 obtain⟨tj,ad,c0,h1,h2,h3,h5⟩:=ri hp DZ
 split at hy
 · rename_i r hl
   split at hy
   · rename_i bJ
     obtain⟨rfl,gV,pA⟩:=bJ
     simp only[cQ,FB] at hy
     obtain⟨rfl,rfl⟩:=hy
     have hk:Nat.min news.length n≤news.length:=Nat.min_le_left _ _
     have C2:Nat.min news.length n≤n:=Ib _ _
     have Aa:(news.take (Nat.min news.length n)).length=Nat.min news.length n:=by rw[F0];omega
     obtain⟨w',q1,q2⟩:=mL hr hl (sz:=s0) (i:=i) (n:=n) (news:=news.take (Nat.min news.length n)) (vals:=vals.take (Nat.min news.length n*s0)) gV h2 (h5 ⟨r,hl⟩) (by omega) (by omega)
       (fun cs bt=>by rw[gV];exact S.pH cs (FX bt)) (fun cs bt=>S.dp cs (FX bt))
       (by rw[F0,S.len,Aa,gV,Hn (FC _ hk)])
       (fun i' j cs x0 cM fo => by
         rw[FA] at cM
         split at cM
         · rename_i cD
           obtain⟨v,e1,e2⟩:=S.rv i' j cs x0 cM fo
           refine⟨v,?_,e2⟩
           rw[gV,FA,FG]
           · exact e1
           have w_:j<s0:=by
             have:=S.pH cs (Fx cM)
             have:=(Fw.1 fo).1
             omega
           have:=FC s0 (show i'+1≤Nat.min news.length n by omega)
           rw[FI] at this
           omega
         simp at cM)
       (fun v hv=>o4 v hv)
     have h4:=q2.step (Below.refl _ _) (d:=dd) (x:= .int .i64 ((Nat.min news.length n:Nat):Int)) (v:= .int .i64 ((Nat.min news.length n:Nat):Int)) hd (fun _=>by simp[RV]) (fun _=>by simp[AV.ax])
     refine⟨_,_,_,_,?_,.inl rfl,h4⟩
     rw[dS,h1]
     have gU:=S.q_ _ hk w (.inl rfl)
     have BX:(Builtin.copy_ #[dt,xt] o.type #[.slice ad n c0,a.eval x]).run K.P w= .ok (.int .i64 ((Nat.min news.length n:Nat):Int)) w':=by
       cases ad with
       |none=>
         simp only[Sem.run_pure,Result.ok.injEq,Gp] at q1
         subst q1
         simp[Builtin.copy_,run_underlying Bt,S.lenOf,bu hs,gU,goInt]
       |some q=>
       simp only at q1
       simp[Builtin.copy_,run_underlying Bt,S.lenOf,bu hs,gU,goInt,q1]
     rw[BX];rfl
   simp at hy
 simp at hy
def iS (z:Array Value) (zs:List AV) (n:Nat) (h:aI w β H (Im K β H) zs z.toList) (hz:0<z.size):∀i j cs x,(List.replicate n zs)[i]?=some cs→cs[j]?=some x →
  ∃v,(Builtin.zeroCells z n).toList[i*z.size+j]?=some v∧RV w β H (Im K β H) x v:=by
 intro i j cs x hi hj;rw[G_] at hi;split at hi
 ·rename_i cD;simp only[cQ] at hi;subst hi;obtain⟨v,e1,e2⟩:=aI.get _ _ j x h hj;refine⟨v,?_,e2⟩;have v8:j<z.size:=by
   have:=(Fw.1 e1).1;simpa using this
  have hb:i*z.size+j<n*z.size:=by
   have:=FC z.size (show i+1≤n by omega);rw[FI] at this;omega
  have hm:(i*z.size+j)%z.size=j:=by rw[Nat.add_comm,Nat.add_mul_mod_self_right,Ia v8]
  have C5:z[j]?=some v:=by simpa using e1
  have hg:=FL.1 C5;simp[Builtin.zeroCells,hb,hm,getElem!_def,C5]
 simp at hi
def pL (z:Array Value) (n:Nat) (hz:0<z.size) (h:∀v∈z.toList,v.oneCell'=true):∀v∈(Builtin.zeroCells z n).toList,v.oneCell'=true:=by
 intro v hv;simp only[Builtin.zeroCells,Hc,HY,F2,List.mem_range] at hv;obtain⟨i,hi,rfl⟩:=hv;have cD:i%z.size<z.size:=Ik _ hz;refine h _ ?_;rw[show z[i%z.size]! =z[i%z.size] by simp[cD]];simp
theorem o6:∀(zs:List AV) (vs:List Value),AV.lS zs→aI w β H (Im K β H) zs vs→∀v∈vs,v.oneCell'=true
 |[],vs,_,h,v,hv=>by simp[aI] at h;subst h;simp at hv
 |x::r,vs,h1,h,v,hv=>by
  simp only[aI] at h;obtain⟨u,us,rfl,h2,h3⟩:=h;rcases FP.1 hv with rfl|hv
  ·exact RV.ie h2 (h1 x (by simp))
  exact o6 r us (fun y hy=>h1 y (by simp[hy])) h3 v hv
def Ai (hr:au K β env H a w) {o:Oper} {c:Call} {x:Operand} {x':O} {e:TypeId} {i:TypeInfo} {z:Value} {zs:List AV} {dd:Option Nat} (hd:∀n,dd=some n→n<K.N) (ho:o.op= .call c) (hc:c.callee= .builtin .clear)
  (ha:c.args.toList=[x]) (ht:c.argTypes[0]?.bind K.P.underlying=some (.slice e)) (hi:K.P.info? e=some i) (hz:i.zero=some z) (jV:z.cells.size=i.size) (h0:0<i.size)
  (j5:gF z.cells.toList=some zs) (hx:co K.G x=some x') {H':Hp} (hy:n9 i.size zs (ev env x') H=some H'):eT K env a w o dd (.dG []) H':=by
 have lO:c.args=#[x]:=by cases hh:c.args;simp_all
 obtain⟨t,tM,tO⟩:=Fv.1 ht;have dS:(execOp a.eval o).run K.P w=((Builtin.clear_ c.argTypes o.type #[a.eval x]).run K.P w).andThen fun v w'=> .ok (.value v) w':=by
  simp[execOp,ho,resolve,hc,lO,invoke,builtin]
 have xf:=hr.ev hx;unfold n9 at hy;split at hy
 ·simp at hy
 rename_i cx;have cx:AV.lS zs:=G2 cx;obtain⟨⟨l,s0,j,n⟩,hp,hy⟩:=Fv.1 hy;obtain⟨tj,ad,c0,h1,h2,h3,h5⟩:=ri hp xf;simp only at hy;split at hy
 ·rename_i r hl;split at hy
  ·rename_i bJ;obtain⟨rfl,gV,pA⟩:=bJ;simp only[cQ] at hy;subst hy;have Aj:zs.length=i.size:=(by have:=aI.len _ _ (eE _ _ j5 w β H (Im K β H));simp at this;omega);have vZ:=eE _ _ j5 w β H (Im K β H);obtain⟨w',q1,q2⟩:=mL hr hl (sz:=i.size) (i:=j) (n:=n) (news:=List.replicate n zs) (vals:=(Builtin.zeroCells z.cells n).toList) gV h2 (h5 ⟨r,hl⟩) (by simp) (by simpa using pA)
    (fun cs bt=>by rw[Gu bt,gV,Aj]) (fun cs bt q hq=>by rw[Gu bt,eG _ _ j5] at hq;simp at hq)
    (by rw[cn,jV,gV];simp) (by rw[gV,←jV];exact iS z.cells zs n vZ (by omega))
    (pL z.cells n (by omega) (o6 _ _ cx vZ))
   have h4:=q2.step (Below.refl _ _) (d:=dd) (x:= .dG []) (v:= .tuple #[]) hd (fun _=>by simp[RV,aI]) (fun _=>by simp[AV.ax,af])
   refine⟨_,_,_,_,?_,.inl rfl,h4⟩;rw[dS,h1];have BX:(Builtin.clear_ c.argTypes o.type #[.slice ad n c0]).run K.P w= .ok (.tuple #[]) w':=by
    cases ad with
    |none=>
     simp only[Sem.run_pure,Result.ok.injEq,Gp] at q1;subst q1;simp[Builtin.clear_,tM,run_underlying tO]
    |some q=>
    simp only at q1;cases n with
    |zero=>
     have hw:w'=w:=by
      have ze:(Builtin.zeroCells z.cells 0).toList=[]:=(by simp[Builtin.zeroCells]);rw[ze] at q1;simp[storeCells] at q1;exact q1.symm
     rw[hw];simp[Builtin.clear_,tM,run_underlying tO]
    |succ n=>
    simp[Builtin.clear_,tM,run_underlying tO,zeroValue,typeInfo,hi,hz,q1]
   rw[BX];rfl
  simp at hy
 simp at hy
def Ak (hr:au K β env H a w) {o:Oper} {t e:TypeId} {n c:Operand} {n' c':O} {i:TypeInfo} {z:Value} {zs:List AV} {d:Nat} (hd:d<K.N) (ho:o.op= .makeSlice t n c) (ht:K.P.underlying t=some (.slice e))
  (hi:K.P.info? e=some i) (hz:i.zero=some z) (jV:z.cells.size=i.size) (h0:0<i.size) (hb:0<i.bytes) (j5:gF z.cells.toList=some zs) (hn:co K.G n=some n') (hc:co K.G c=some c') {y:AV} {H':Hp}
  (hy:mK i.size i.bytes d zs (ev env n') (ev env c') H=some (y,H')):eT K env a w o (some d) y H':=by
 have BY:=hr.ev hn;have xg:=hr.ev hc;unfold mK at hy;split at hy
 ·rename_i k m k' m' e1 e2;rw[e1] at BY;rw[e2] at xg;simp only[RV] at BY xg;split at hy
  ·rename_i bJ;obtain⟨rfl,oY,D0,hu⟩:=bJ;simp only[cQ,FB] at hy;obtain⟨rfl,rfl⟩:=hy;obtain⟨q,rfl⟩:=Ha oY;simp only[FQ] at D0 ⊢;have E2:q≤q*i.bytes:=F7 _ hb;have fG:=run_make (P:=K.P) w t e i z ht hi hz k k' (q:Int) (q:Int) oY (Int.le_refl _) (by
    have:((q*i.bytes:Nat):Int)≤140737488355328:=(by omega);rw[Io,Int.mul_comm] at this;omega) (by omega)
   simp only[FQ] at fG;have Aj:zs.length=i.size:=(by have:=aI.len _ _ (eE _ _ j5 w β H (Im K β H));simp at this;omega);have D1:madeCells z.cells (q*i.size)=Builtin.zeroCells z.cells q:=(by rw[←jV];rfl);have hex:(execOp a.eval o).run K.P w= .ok (.value (.slice (some ⟨w.heap.size,0,none⟩) q q)) (w.alloc (.cells (Builtin.zeroCells z.cells q) e)):=by
    rw[←D1];simp[execOp,ho,BY,xg,fG,Result.andThen]
   have gw:=cF w (.cells (Builtin.zeroCells z.cells q) e);have ca:=lT hr (H':=bb H (.loc d) (.live ⟨i.size,List.replicate q zs⟩)) (lb:= .loc d) (b:=some w.heap.size) gw hu (by simp) (fun p hp ⟨r,h⟩=>by rw[ai _ _ hp] at h;exact⟨r,h⟩);have lR:jH (w.alloc (.cells (Builtin.zeroCells z.cells q) e)) (bb β (.loc d) (some w.heap.size)) (bb H (.loc d) (.live ⟨i.size,List.replicate q zs⟩))
     (Im K (bb β (.loc d) (some w.heap.size)) (bb H (.loc d) (.live ⟨i.size,List.replicate q zs⟩))) (.loc d) ⟨i.size,List.replicate q zs⟩:=by
    refine⟨h0,fun cs bt=>by rw[Gu bt,Aj],?_⟩;simp only[ei];refine⟨Builtin.zeroCells z.cells q,e,q,heap_alloc_new w _,by rw[size_zeroCells,jV],by simp only[maxLen];omega,by simp,fun i' j cs x cM fo=> ?_⟩;obtain⟨v,q1,q2⟩:=iS (H:=H) z.cells zs q (eE _ _ j5 w β H (Im K β H)) (by omega) i' j cs x cM fo;rw[jV] at q1;refine⟨v,by simpa using q1,RV.mono _ _ (ca _ (fun p hp=> ?_)) q2⟩;rw[G_] at cM;split at cM
    ·simp only[cQ] at cM;subst cM;have:=bT _ _ _ fo p hp;rw[eG _ _ j5] at this;simp at this
    simp at cM
   have h3:=hr.iP (.loc d) hu gw (some w.heap.size) (by simp) (fun cs bt p hp=>by rw[Gu bt,eG _ _ j5] at hp;simp at hp) lR;have h4:=h3.step (Below.refl _ _) (d:=some d) (x:= .sl (.loc d) i.size 0 q) (v:= .slice (some ⟨w.heap.size,0,none⟩) q q) (by simpa using hd)
    (fun _=>by
     simp only[RV];refine⟨_,_,rfl,FJ _,by simp only[maxLen];omega,by simp,fun _=> .inr ⟨w.heap.size,q*i.size,by simp,by simp,?_,by simp⟩⟩;have hh:(w.alloc (.cells (Builtin.zeroCells z.cells q) e)).heap[w.heap.size]?=some (.cells (Builtin.zeroCells z.cells q) e):=heap_alloc_new w _;unfold fi;rw[hh];simp only[size_zeroCells,jV]) (by simp[AV.ax])
   exact⟨_,_,_,_,hex,.inl rfl,h4⟩
  simp at hy
 simp at hy
def Al (hr:au K β env H a w) {o:Oper} {c:Call} {x:Operand} {x':O} {e:TypeId} (ho:o.op= .call c) (hc:c.callee= .builtin .cap) (ha:c.args.toList=[x])
  (ht:c.argTypes[0]?.bind K.P.underlying=some (.slice e)) (hx:co K.G x=some x') {R:Nat→Prop} (hy:ud (ev env x')=some R):∃m,R m∧m≤maxLen∧ar K β H a w o (.int .i64 (m:Int)):=by
 have h:=hr.ev hx;obtain⟨t,tM,tO⟩:=Fv.1 ht;have lO:c.args=#[x]:=by cases hh:c.args;simp_all
 have sl:∀(ad:Option Addr) (n c':Nat),a.eval x= .slice ad n c'→(execOp a.eval o).run K.P w= .ok (.value (.int .i64 c')) w:=by
  intro ad n c' hv;simp[execOp,ho,resolve,hc,lO,hv,invoke,builtin,Builtin.cap_,tM,run_underlying tO,goInt]
 have fin:∀(ad:Option Addr) (n c':Nat),a.eval x= .slice ad n c'→ar K β H a w o (.int .i64 (c':Int)):=fun ad n c' hv=>ar.same (sl ad n c' hv) (by simp[RV]) (by simp[AV.ax]);unfold ud at hy;split at hy<;>simp only[cQ,reduceCtorEq] at hy
 ·rename_i l sz i n m hs;rw[hs] at h;simp only[RV] at h;obtain⟨ad,h1,h2,h3,_⟩:=h;subst hy;exact⟨m,rfl,h3,fin _ _ _ h1⟩
 ·rename_i l sz i n hs;rw[hs] at h;simp only[RV] at h;obtain⟨ad,m,h1,h2,h3,_⟩:=h;subst hy;exact⟨m,h2,h3,fin _ _ _ h1⟩
 ·rename_i xs hs;rw[hs] at h;simp only[RV,de] at h;obtain⟨ad,m,h1,h2,h3,_⟩:=h;subst hy;exact⟨m,h2,h3,fin _ _ _ h1⟩
 rename_i hs;rw[hs] at h;simp only[RV] at h;obtain⟨ad,h1⟩:=h;subst hy;exact⟨0,rfl,by simp[maxLen],fin _ _ _ h1⟩
def xh (hr:au K β env H a w) {o:Oper} {t e:TypeId} {x:Operand} {n s:Nat} {x':O} (ho:o.op= .slice t x none none none) (ht:K.P.underlying t=some (.array n e))
  (hs:j0 K.P e=some s) (oW:s≠0) (hx:co K.G x=some x') {y:AV} (hy:aa (.lM x' n s) env=some y):ar K β H a w o y:=by
 have h:=hr.ev hx;simp only[aa] at hy;split at hy
 ·rename_i cs e1;rw[e1] at h;split at hy
  ·rename_i bJ;obtain⟨hl,nY,cx⟩:=bJ;simp only[cQ] at hy;subst hy;simp only[RV] at h;obtain⟨b,o',h1,h2,h3,h4⟩:=h;have zR:=fF (sz:=s) (by omega) n cs b o' hl cx h4;refine ar.same (v:= .slice (some ⟨b,o',none⟩) n n) ?_ ?_ (by simp[AV.ax])
   ·simp[execOp,ho,h1,Instr.sliceAt,run_underlying ht,Instr.sliceBounds,Instr.sureAddr,bu hs,Result.andThen,addr_add]
   simp only[RV,de];refine⟨some ⟨b,o',none⟩,n,by rw[zR.2],by rw[zR.2];exact FJ _,nY,.inr ⟨b,o',s,rfl,h2,h3,by omega,zR.1⟩⟩
  simp at hy
 simp at hy
def oa {w:World} {β:Lb→Option Nat} {H:Hp} {I I':Nat→Prop} (hk:ef w w I I'):∀{y:IV} {v:Value},(∀cs,y≠ .agg cs)→RV w β H I y.dQ v→de w I' y v:=by
 intro y v hy h;cases y with
 |agg cs=>exact absurd rfl (hy cs)
 |list xs=>simp only[IV.dQ,RV] at h;exact de.mono hk _ _ h
 |bool b=>simpa[IV.dQ,RV,de] using h
 |int k n=>simpa[IV.dQ,RV,de] using h
 |str s=>simpa[IV.dQ,RV,de] using h
 |ifc t=>simp only[IV.dQ,RV] at h;obtain⟨u,rfl,_⟩:=h;exact⟨u,rfl⟩
theorem ft {w:World} {I:Nat→Prop}:∀(cs:List IV) (b o:Nat),(∀j z,cs[j]?=some z→∃v,w.cell? ⟨b,o+j,none⟩=some v∧de w I z v)→aR w I cs b o
 |[],b,o,_=>by simp[aR]
 |z::r,b,o,h=>by
  simp only[aR];refine⟨by simpa using h 0 z (by simp),ft r b (o+1) (fun j y hj=> ?_)⟩;have:=h (j+1) y (by simpa using hj)
  rwa[show o+(j+1)=o+1+j by omega] at this
theorem fu {w:World} {I:Nat→Prop} {sz:Nat}:∀(xs:List IV) (b o:Nat),(∀k y,xs[k]?=some y→dR w I y b (o+k*sz) sz)→aT w I xs b o sz
 |[],b,o,_=>by simp[aT]
 |y::r,b,o,h=>by
  simp only[aT];refine⟨by simpa using h 0 y (by simp),fu r b (o+sz) (fun k z hk=> ?_)⟩;have:=h (k+1) z (by simpa using hk)
  rwa[FI,HI,show o+(k*sz+sz)=o+sz+k*sz by omega] at this
def xi (hr:au K β env H a w) {o:Oper} {c:Call} {s x:Operand} {s' x':O} {st xt e:TypeId} {i:TypeInfo} {z:Value} {dx:TypeDesc} (ho:o.op= .call c) (hc:c.callee= .builtin .append)
  (ha:c.args.toList=[s,x]) (xc:c.argTypes.toList=[st,xt]) (cL:K.P.underlying st=some (.slice e)) (hi:K.P.info? e=some i) (hz:i.zero=some z) (jV:z.cells.size=i.size) (h0:0<i.size)
  (mw:K.P.underlying xt=some dx) (nP:dx= .string∨∃e2,dx= .slice e2) (hs:co K.G s=some s') (hx:co K.G x=some x') {y:AV}
  (hy:aa (.kJ s' x' i.size i.bytes) env=some y):ar K β H a w o y:=by
 have lO:c.args=#[s,x]:=by cases hh:c.args;simp_all
 have n6:c.argTypes=#[st,xt]:=by cases hh:c.argTypes;simp_all
 have dS:(execOp a.eval o).run K.P w=((Builtin.append_ #[st,xt] o.type #[a.eval s,a.eval x]).run K.P w).andThen fun v w'=> .ok (.value v) w':=by
  simp[execOp,ho,resolve,hc,lO,n6,invoke,builtin]
 have iR:=hr.ev hs;have wg:∀(news:List (List AV)) (vals:List Value),news.length=0→Src K β H w i.size (a.eval x) news vals→ev env s'= .nil0→ar K β H a w o (.list []):=by
  intro news vals oY S e1;rw[e1] at iR;simp only[RV] at iR;obtain⟨ad,iR⟩:=iR;have fa:news=[]:=FH oY;subst fa;have ub:vals=[]:=FH (by simpa using S.len);subst ub;have jQ:=dq (ty:=o.type) cL hi mw nP ad 0 0 0 (a.eval x) #[] S.lenOf (S.cells w (.inl rfl)) (by omega)
  refine ar.same (v:= .slice ad 0 0) ?_ ?_ (by simp[AV.ax])
  ·rw[dS,iR,jQ];cases ad<;>simp[storeCells]
  simp only[RV,de];exact⟨ad,0,rfl,FJ _,by simp[maxLen],.inl rfl⟩
 simp only[aa] at hy;split at hy
 ·rename_i xs e1 e2;split at hy
  ·rename_i bJ;obtain⟨jM,rj,hb,mG,_⟩:=bJ;simp only[cQ] at hy;subst hy;have hn:il i.size (ev env x') H=some (xs.map fun y=>y.cells.map IV.dQ):=(by rw[e2];simp[il,jM]);obtain⟨vals,S⟩:=jW hr hx h0 hn;by_cases oY:xs.length=0
   ·have:xs=[]:=FH oY;subst this;exact wg _ _ (by simp) S e1
   rw[e1] at iR;simp only[RV] at iR;obtain⟨ad,iR⟩:=iR;have j_:(xs.map fun y=>y.cells.map IV.dQ).length=xs.length:=FT _;have mJ:(Builtin.firstCells i.size 0 (.slice ad 0 0)).run K.P w.drew= .ok #[] w.drew:=by
    cases ad with
    |none=>simp[Builtin.firstCells]
    |some q=>simp[Builtin.firstCells,loadCells,loadCellsFrom]
   have hlen:=S.lenOf;have gU:=S.cells w.drew (.inr rfl);rw[j_] at hlen gU;have jQ:=cT (ty:=o.type) cL hi hz mw nP ad 0 0 xs.length (a.eval x) vals.toArray #[] hlen gU mJ (by omega) (by simpa using hb) mG
   have mF:=grownCap_ge w (0+xs.length) 0 e;have mr:=grownCap_le_maxLen w (0+xs.length) 0 e (by
    have:=F7 xs.length mG;simp only[maxLen];omega)
   have gw:=(iL w).trans (cF w.drew (.cells (#[]++vals.toArray++Builtin.zeroCells z.cells (grownCap w (0+xs.length) 0 e - (0+xs.length))) e))
   refine⟨.slice (some ⟨w.heap.size,0,none⟩) (0+xs.length) (grownCap w (0+xs.length) 0 e),_,by rw[dS,iR,jQ];rfl,gw,?_,by simp[AV.ax]⟩;simp only[RV,de];refine⟨_,_,by rw[F1],by omega,mr,.inr ⟨w.heap.size,0,i.size,rfl,hr.fresh,?_,h0,?_⟩⟩
   ·have hh:=heap_alloc_new w.drew (.cells (#[]++vals.toArray++Builtin.zeroCells z.cells (grownCap w (0+xs.length) 0 e - (0+xs.length))) e)
    exact(FL.1 hh).1
   refine fu _ _ _ (fun k y BZ=> ?_);rw[dB];have nO:y.cells.length=i.size:=jM y (Fx BZ);refine⟨nO.symm,ft _ _ _ (fun j q hq=> ?_)⟩;obtain⟨v,q1,q2⟩:=S.rv k j (y.cells.map IV.dQ) q.dQ (by simp[BZ]) (by simp[hq]);refine⟨v,?_,de.mono (fW.kV gw β H (Im K β H) []).toef _ _ (oa (I:=Im K β H) (w:=w) ⟨fun k hk hs=>⟨hk,hs,rfl⟩⟩ (rj y (Fx BZ) q (Fx hq)) q2)⟩;have hh:(w.drew.alloc (.cells (#[]++vals.toArray++Builtin.zeroCells z.cells (grownCap w (0+xs.length) 0 e - (0+xs.length))) e)).heap[w.heap.size]?=some (.cells (#[]++vals.toArray++Builtin.zeroCells z.cells (grownCap w (0+xs.length) 0 e - (0+xs.length))) e):=heap_alloc_new w.drew _
   rw[cell_of_row _ _ _ _ _ _ hh];have cD:k*i.size+j<vals.length:=(Fw.1 q1).1;simp only[F1];rw[GN (by simpa using cD)];simpa using q1
  simp at hy
 ·rename_i e1 e2;split at hy
  ·simp only[cQ] at hy;subst hy;have hn:il i.size (ev env x') H=some []:=(by rw[e2];simp[il]);obtain⟨vals,S⟩:=jW hr hx h0 hn;exact wg _ _ rfl S e1
  exact absurd h0 ‹_›
 simp at hy
def iT {P:Program} {w:World} {st xt ty e:TypeId} {i:TypeInfo} {z:Value} {k0:IntKind} (hu:P.underlying st=some (.slice e)) (hi:P.info? e=some i) (hz:i.zero=some z) (hx:P.underlying xt=some (.int k0))
  (ad:Option Addr) (n c m:Nat) (k:IntKind) (olds:Array Value) (h0:0<m*i.size)
  (ho:(Builtin.firstCells i.size n (.slice ad n c)).run P w.drew= .ok olds w.drew) (w7:c<n+m) (hb:(n+m)*i.bytes≤140737488355328) (mG:0<i.bytes) :
  (Builtin.append_ #[st,xt] ty #[.slice ad n c,.int k (m:Int)]).run P w= .ok (.slice (some ⟨w.heap.size,0,none⟩) (n+m) (grownCap w (n+m) c e))
   (w.drew.alloc (.cells (olds++Builtin.zeroCells z.cells m++Builtin.zeroCells z.cells (grownCap w (n+m) c e - (n+m))) e)):=by
 have hn:¬(n+m≤c):=by omega
 have DW:n+m≤(n+m)*i.bytes:=F7 _ mG;have w8:¬(9223372036854775807<((n:Int)+(m:Int))):=by omega
 have w9:¬(281474976710656<Builtin.nextslicecap (n+m) c*i.bytes):=by have:=growslice_fits w7 hb;omega
 have hw:IntKind.i64.wrap (m:Int)=m:=by rw[IntKind.wrap_i64];omega
 have B0:¬((m:Int)<0):=by omega
 have B1:¬(281474976710656<(m:Int)*(i.bytes:Int)):=by
  rw[←Io];have:m*i.bytes≤(n+m)*i.bytes:=FC _ (by omega);omega
 have tQ:¬(m*i.size=0):=by omega
 have B2:m≠0:=fun h=>tQ (by simp[h]);have B3:i.size≠0:=fun h=>tQ (by simp[h]);simp[Builtin.append_,run_underlying hu,run_underlying hx,sizeOf,typeInfo,zeroValue,hi,hz,asInt,asIntOf,hw,hn,B0,B2,B3,w8,w9,B1,Question.forced,ho,newRow,grownCap];intro h;exact absurd h tQ
def xj (hr:au K β env H a w) {o:Oper} {c:Call} {s x:Operand} {s' x':O} {st xt e:TypeId} {i:TypeInfo} {z:Value} {zs:List AV} {k0:IntKind} {d:Nat} (hd:d<K.N) (ho:o.op= .call c) (hc:c.callee= .builtin .append)
  (ha:c.args.toList=[s,x]) (xc:c.argTypes.toList=[st,xt]) (cL:K.P.underlying st=some (.slice e)) (hi:K.P.info? e=some i) (hz:i.zero=some z) (jV:z.cells.size=i.size) (h0:0<i.size) (mG:0<i.bytes)
  (mw:K.P.underlying xt=some (.int k0)) (j5:gF z.cells.toList=some zs) (hs:co K.G s=some s') (hx:co K.G x=some x') {y:AV} {H':Hp}
  (hy:o5 i.size i.bytes d zs (ev env s') (ev env x') H=some (y,H')):eT K env a w o (some d) y H':=by
 have lO:c.args=#[s,x]:=by cases hh:c.args;simp_all
 have n6:c.argTypes=#[st,xt]:=by cases hh:c.argTypes;simp_all
 have dS:(execOp a.eval o).run K.P w=((Builtin.append_ #[st,xt] o.type #[a.eval s,a.eval x]).run K.P w).andThen fun v w'=> .ok (.value v) w':=by
  simp[execOp,ho,resolve,hc,lO,n6,invoke,builtin]
 have iR:=hr.ev hs;have xf:=hr.ev hx;unfold o5 at hy;split at hy
 ·rename_i l s0 i0 n c0 k m e1 e2;rw[e1] at iR;rw[e2] at xf;simp only[RV] at iR xf;obtain⟨ad,h1,h2,h3,h4,h5⟩:=iR;split at hy
  ·rename_i r hl;split at hy
   ·rename_i bJ;obtain⟨rfl,gV,rfl,j_,oY,w7,hb,hu⟩:=bJ;obtain⟨q,rfl⟩:=Ha oY;simp only[FQ] at w7 hb hy;simp only[cQ,FB] at hy;obtain⟨rfl,rfl⟩:=hy;have zk:(r.bN.take n).length=n:=(by simp;omega);have rb:∀cs∈r.bN.take n,cs.length=i.size:=fun cs bt=>(by rw[←gV];exact(hr.rows l r hl).2.1 cs (FX bt));have wc:∀cs∈r.bN.take n,∀q∈af cs,H q≠ .unused:=fun cs bt=>hr.bL l r hl cs (FX bt);have Aj:zs.length=i.size:=(by have:=aI.len _ _ (eE _ _ j5 w β H (Im K β H));simp at this;omega);have vZ:=eE _ _ j5 w β H (Im K β H);have mF:=grownCap_ge w (n+q) c0 e;have mr:=grownCap_le_maxLen w (n+q) c0 e (by
     have:=F7 (n+q) mG;simp only[maxLen];omega)
    have olds:∃olds:List Value,olds.length=n*i.size∧(∀i' j cs x0,(r.bN.take n)[i']?=some cs→cs[j]?=some x0→∃v,olds[i'*i.size+j]?=some v∧RV w β H (Im K β H) x0 v) ∧
      (Builtin.firstCells i.size n (.slice ad n c0)).run K.P w.drew= .ok olds.toArray w.drew:=by
     by_cases uc:c0=0
     ·have kX:n=0:=(by omega);subst kX;refine⟨[],by simp,by simp,?_⟩;cases ad with
      |none=>simp[Builtin.firstCells]
      |some q=>simp[Builtin.firstCells,loadCells,loadCellsFrom]
     rcases h5 ⟨r,hl⟩ with h6|⟨g,Sz,g1,rfl,g3,g4⟩
     ·exact absurd h6 uc
     obtain⟨cur,e0,cap,k1,k2,k3,k4,k5⟩:=(hr.rows l r hl).block g1;rw[gV] at k2;have Ae:n*i.size≤cur.size:=(by rw[k2];exact FC _ (by omega));have gL:(cur.toList.take (n*i.size)).length=n*i.size:=(by simp;omega);refine⟨cur.toList.take (n*i.size),gL,?_,?_⟩
     ·intro i' j cs x0 cM fo;rw[FA] at cM;split at cM
      ·rename_i cD;obtain⟨v,q1,q2⟩:=k5 i' j cs x0 cM fo;rw[gV] at q1;refine⟨v,?_,q2⟩;have w_:j<i.size:=by
        have:=(hr.rows l r hl).2.1 cs (Fx cM);have:=(Fw.1 fo).1;omega
       have ka:i'*i.size+j<n*i.size:=by
        have:=FC i.size (show i'+1≤n by omega);rw[FI] at this;omega
       rw[FA,FG ka];simpa using q1
      simp at cM
     exact run_firstCells_some (P:=K.P) w.drew i.size n ⟨g,0*i.size,none⟩ n c0 _ gL (fun j v hj=>by
      rw[addr_add,GA,F1];have:w.cell? ⟨g,j,none⟩=some v:=by
       rw[cell_of_row w g _ cur e0 (0,0) k1];rw[FA] at hj;split at hj
       ·simpa using hj
       simp at hj
      simpa using this)
    obtain⟨olds,xe,zl,BV⟩:=olds;have D2:0<q*i.size:=Nat.mul_pos (by omega) h0;have jQ:=iT (ty:=o.type) cL hi hz mw ad n c0 q k olds.toArray D2 BV w7 hb mG;have C6:(List.replicate q zs).length=q:=GX;have:=dV hr hr (fun _ h=>h) (fun _ h=>h) (o:=o) hd (e:=e) (n:=n) (m:=q) (A:=r.bN.take n) (news:=List.replicate q zs) (olds:=olds) (vals:=(Builtin.zeroCells z.cells q).toList)
     (rest:=(Builtin.zeroCells z.cells (grownCap w (n+q) c0 e - (n+q))).toList) h0 hu hu zk C6 rb (fun cs bt=>by rw[Gu bt,Aj]) wc
     (fun cs bt p hp=>by rw[Gu bt,eG _ _ j5] at hp;simp at hp) xe (by rw[cn,jV,C6]) zl (by rw[←jV];exact iS z.cells zs q vZ (by omega))
     (cap:=grownCap w (n+q) c0 e) (by
      have h9:=ke (sz:=i.size) mF;simp only[Ga,xe,cn,jV];rw[←FI];exact h9) mr mF (by
      rw[dS,h1,xf,jQ];exact kc _ _ (by simp))
    exact this
   simp at hy
  simp at hy
 simp at hy
def pM {x:AV} (h:x.nX=true):∀l∈af x.cells,l∈x.ax:=by
 intro l hl;cases x<;>simp[AV.cells,af] at hl<;>simp[AV.ax] at hl ⊢<;>exact hl
def eU (l m:List AV):af (l++m)=af l++af m:=by
 induction l with
 |nil=>rfl
 |cons x r ih=>simp[af,ih]
theorem k_:∀(qs:List (Nat×Nat×AV)) (c c':List AV),dD c qs=some c'→∀l∈af c',l∈af c∨∃q∈qs,l∈q.2.2.ax
 |[],c,c',h,l,hl=>by simp[dD] at h;subst h;exact .inl hl
 |(off,sz,x)::qs,c,c',h,l,hl=>by
  simp only[dD] at h;split at h
  ·rename_i hc;rcases k_ qs _ _ h l hl with h1|⟨q,h1,h2⟩
   ·rw[eU,eU,Fz,Fz] at h1;rcases h1 with(h1|h1)|h1
    ·left;have:=eU (c.take off) (c.drop off);rw[FZ] at this;rw[this,Fz];exact .inl h1
    ·exact .inr ⟨(off,sz,x),by simp,pM hc.1 l h1⟩
    left;have:=eU (c.take (off+sz)) (c.drop (off+sz));rw[FZ] at this;rw[this,Fz];exact .inr h1
   exact .inr ⟨q,by simp[h1],h2⟩
  simp at h
def ue (hr:au K β env H a w) {o:Oper} {t e:TypeId} {ps:Array (Nat×Operand)} {i:TypeInfo} {z:Value} {zs:List AV} {xs:List O} {d:Nat} (hd:d<K.N) (ho:o.op= .buildSlice t 1 ps)
  (ht:K.P.underlying t=some (.slice e)) (hi:K.P.info? e=some i) (hz:i.zero=some z) (jV:z.cells.size=i.size) (h0:0<i.size) (hn:1*i.size≤2^24)
  (j5:gF z.cells.toList=some zs) (qM:cos K.G (ps.toList.map (·.2))=some xs) {y:AV} {H':Hp}
  (hy:n_ i.size d zs (((ps.toList.map (·.1)).zip xs).map fun p=>(p.1,ev env p.2)) H=some (y,H')):eT K env a w o (some d) y H':=by
 unfold n_ at hy;obtain⟨cs,h1,hy⟩:=Fv.1 hy;split at hy
 ·rename_i bJ;obtain⟨hu,hlen,_⟩:=bJ;simp only[cQ,FB] at hy;obtain⟨rfl,rfl⟩:=hy;have ze:=eE _ _ j5 w β H (Im K β H);have hzero:=j4 z.cells zs w β H (Im K β H) ze (by omega) 1;have hm:∀l∈af cs,H l≠ .unused:=by
   intro l hl;rcases k_ _ _ _ h1 l hl with h2|⟨q,h2,h3⟩
   ·rw[eG _ _ j5] at h2;simp at h2
   simp only[G6,F2,Function.comp] at h2;obtain⟨p,hp,rfl⟩:=h2;simp only at h3;have Bu:p.2∈xs:=(List.of_mem_zip (a:=p.1) (b:=p.2) hp).2;obtain⟨k,hk⟩:=Gl Bu;exact fk hr _ _ qM l (bT _ k _ (by rw[F9,hk];rfl) l h3)
  have wT:xs.length=ps.toList.length:=by
   have:=aI.len _ _ (e_ hr _ _ qM);simp at this;simpa using this.symm
  have bG:=gT hr (fun j=>some (j*i.size,i.size)) ps.toList xs (((ps.toList.map (·.1)).zip xs).map fun p=>(p.1*i.size,i.size,p.2)) qM
   (by simp at wT;simp[wT])
   (by
    intro j p x q g1 g2 g3;simp only[F9,HA,Fu] at g3;obtain⟨⟨u,v⟩,⟨⟨p',e1,e2⟩,e3⟩,rfl⟩:=g3;simp only at e1 e2 e3;rw[g1] at e1;cases e1;rw[g2] at e3;cases e3;exact⟨rfl,by simp[e2]⟩)
  obtain⟨cur',f1,f2⟩:=ij (fun j=>some (j*i.size,i.size)) _ _ _ cs _ hzero (by simpa[G6,H6] using h1) bG;have mD:Instr.fill (fun j=>some (j*i.size,i.size)) ((Array.range (1*i.size)).map (z.cells[·%z.cells.size]!)) (ps.toList.map fun p=>(p.1,a.eval p.2))=some cur':=by
   rw[←jV];rw[←jV] at f1;exact f1
  have wU:¬1*i.size=0:=by omega
  have zT:=bu (P:=K.P) (t:=e) (s:=i.size) (by simp[j0,hi]) w;have fG:(execOp a.eval o).run K.P w= .ok (.value (.slice (some ⟨w.heap.size,0,none⟩) 1 1)) (w.alloc (.cells cur' e)):=by
   simp only[execOp,ho,Instr.buildSlice,Sem.run_bind,run_underlying ht,Result.andThen_ok,zT,Sem.run_ite,wU,GM,zeroValue,typeInfo,run_program,hi,hz,
    Hc,show ¬1*i.size>2^24 by omega,Sem.run_pure,Result.andThen,mD]
   simp[newRow,mD]
  have gJ:cur'.size=i.size:=by have:=aI.len _ _ f2;simp at this;omega
  have gw:=cF w (.cells cur' e);have ca:=lT hr (H':=bb H (.loc d) (.live ⟨i.size,[cs]⟩)) (lb:= .loc d) (b:=some w.heap.size) gw hu (by simp) (fun p hp ⟨r,h⟩=>by rw[ai _ _ hp] at h;exact⟨r,h⟩);have lR:jH (w.alloc (.cells cur' e)) (bb β (.loc d) (some w.heap.size)) (bb H (.loc d) (.live ⟨i.size,[cs]⟩))
    (Im K (bb β (.loc d) (some w.heap.size)) (bb H (.loc d) (.live ⟨i.size,[cs]⟩))) (.loc d) ⟨i.size,[cs]⟩:=by
   refine⟨h0,by simp[hlen],?_⟩;simp only[ei];refine⟨cur',e,1,heap_alloc_new w _,by simp[gJ],by simp[maxLen],by simp,fun i' j gS x cM fo=> ?_⟩;cases i' with
   |succ i'=>simp at cM
   |zero=>
   simp at cM;subst cM;obtain⟨v,k1,k2⟩:=aI.get _ _ _ _ f2 fo;exact⟨v,by simpa using k1,RV.mono _ _ (ca _ (fun l hl=>hm l (bT _ _ _ fo l hl))) k2⟩
  have h3:=hr.iP (.loc d) hu gw (some w.heap.size) (by simp) (by simpa using hm) lR;have h4:=h3.step (Below.refl _ _) (d:=some d) (x:= .sl (.loc d) i.size 0 1) (v:= .slice (some ⟨w.heap.size,0,none⟩) 1 1) (by simpa using hd)
   (fun _=>by
    simp only[RV];refine⟨_,1,rfl,FJ _,by simp[maxLen],by simp,fun _=> .inr ⟨w.heap.size,i.size,by simp,by simp,?_,by simp⟩⟩;have hh:(w.alloc (.cells cur' e)).heap[w.heap.size]?=some (.cells cur' e):=heap_alloc_new w _;unfold fi;rw[hh];simp only[gJ]) (by simp[AV.ax])
  exact⟨_,_,_,_,fG,.inl rfl,h4⟩
 simp at hy
end
end Go.Am
