import Derived.Test.YtfinkeaikbmpgaaAm11
import Derived.Laws.MakeOwn
set_option linter.unusedSimpArgs false
set_option linter.unusedVariables false
set_option linter.unnecessarySimpa false
set_option linter.defProp false
/- THE ABSTRACT MACHINE, part 38: copies, clears, rows of noughts, room. -/
namespace Go.Am
open Go Go.RowKit
def GP:AV→Option (Lb×Nat×Nat×Nat)
 | .sl l sz i n=>some (l,sz,i,n)
 | .slk l sz i n _=>some (l,sz,i,n)
 |_=>none
def BJ:AV→Option (Nat→Prop)
 | .slk _ _ _ _ c=>some fun m=>m=c
 | .sl _ _ _ n=>some fun m=>n≤m
 | .list xs=>some fun m=>xs.length≤m
 | .nil0=>some fun m=>m=0
 |_=>none
open Classical in
noncomputable def uo (sz:Nat) (d x:AV) (H:Hp):Option (AV×Hp):=
 (jL sz x H).bind fun news=>(GP d).bind fun p=>if ¬(∀cs∈news.take (Nat.min news.length p.2.2.2),AV.la cs) then none else
  match H p.1 with
   | .live r=>if p.2.1=sz∧r.sz=sz∧p.2.2.1+p.2.2.2≤r.els.length then
    some (.int .i64 ((Nat.min news.length p.2.2.2:Nat):Int),bG H p.1 (.live ⟨sz,r.els.take p.2.2.1++news.take (Nat.min news.length p.2.2.2)++r.els.drop (p.2.2.1+(news.take (Nat.min news.length p.2.2.2)).length)⟩)) else none
   |_=>none
open Classical in
noncomputable def uq (sz:Nat) (z:List AV) (x:AV) (H:Hp):Option Hp:=
 if ¬AV.la z then none else(GP x).bind fun p=>match H p.1 with
  | .live r=>if p.2.1=sz∧r.sz=sz∧p.2.2.1+p.2.2.2≤r.els.length then
   some (bG H p.1 (.live ⟨sz,r.els.take p.2.2.1++List.replicate p.2.2.2 z++r.els.drop (p.2.2.1+(List.replicate p.2.2.2 z).length)⟩)) else none
  |_=>none
open Classical in
noncomputable def ur (sz bytes d:Nat) (z:List AV) (n c:AV) (H:Hp):Option (AV×Hp):=
 match n,c with
 | .int _ m,.int _ m'=>if m=m'∧0≤m∧m.toNat*bytes≤140737488355328∧H (.loc d)= .unused then some (.sl (.loc d) sz 0 m.toNat,bG H (.loc d) (.live ⟨sz,List.replicate m.toNat z⟩)) else none
 |_,_=>none
open Classical in
noncomputable def s6 (sz bytes d:Nat) (z:List AV) (s n:AV) (H:Hp):Option (AV×Hp):=
 match s,n with
 | .slk l s' i n c,.int _ m=>match H l with
  | .live r=>if s'=sz∧r.sz=sz∧i=0∧n≤r.els.length∧0≤m∧c<n+m.toNat∧(n+m.toNat)*bytes≤140737488355328∧H (.loc d)= .unused then
   some (.sl (.loc d) sz 0 (n+m.toNat),bG H (.loc d) (.live ⟨sz,r.els.take n++List.replicate m.toNat z⟩)) else none
  |_=>none
 |_,_=>none
noncomputable def uu (sz d:Nat) (z:List AV) (ps:List (Nat×AV)) (H:Hp):Option (AV×Hp):=
 (bu z (ps.map fun p=>(p.1*sz,sz,p.2))).bind fun cs=>open Classical in if H (.loc d)= .unused∧cs.length=sz∧0<sz then some (.sl (.loc d) sz 0 1,bG H (.loc d) (.live ⟨sz,[cs]⟩)) else none
section
variable {K:Kx} {β:Lb→Option Nat} {env:Env} {H:Hp} {a:Act} {w:World}
theorem BK {x:AV} {l:Lb} {sz i n:Nat} (h:GP x=some (l,sz,i,n)) {v:Value} (hv:RV w β H (Im K β H) x v) :
  l∈x.aI∧∃ad c,v= .slice ad n c∧n≤c∧c≤maxLen∧(live H l→D9 w β l sz i c ad):=by
 cases x<;>simp[GP] at h
 case sl=>
  obtain⟨rfl,rfl,rfl,rfl⟩:=h;simp only[RV] at hv;obtain⟨ad,c,h1,h2,h3,_,h5⟩:=hv;exact⟨by simp[AV.aI],ad,c,h1,h2,h3,h5⟩
 case slk=>
  obtain⟨rfl,rfl,rfl,rfl⟩:=h;simp only[RV] at hv;obtain⟨ad,h1,h2,h3,_,h5⟩:=hv;exact⟨by simp[AV.aI],ad,_,h1,h2,h3,h5⟩
theorem vC (hr:bj K β env H a w) {l:Lb} {r:Row} (hl:H l= .live r) {sz i n c:Nat} {ad:Option Addr} (k8:r.sz=sz) (hc:n≤c) (Es:D9 w β l sz i c ad) {news:List (List AV)} {vals:List Value}
  (hn:news.length≤n) (mn:i+news.length≤r.els.length)
  (H_:∀cs∈news,cs.length=r.sz) (Lc:∀cs∈news,∀q∈ax cs,H q≠ .unused) (hv:vals.length=news.length*r.sz)
  (h2:∀i j cs x,news[i]?=some cs→cs[j]?=some x→∃v,vals[i*r.sz+j]?=some v∧RV w β H (Im K β H) x v) (ix:∀v∈vals,v.oneCell'=true) :
  ∃w',(match ad with|some q=>storeCells q vals|none=>pure ()).run K.P w= .ok () w' ∧
   bj K β env (bG H l (.live ⟨sz,r.els.take i++news++r.els.drop (i+news.length)⟩)) a w':=by
 subst k8;rcases Es with rfl|⟨g,S,g1,rfl,g3,g4⟩
 ·have dm:news=[]:=List.eq_nil_of_length_eq_zero (by omega);subst dm;have Et:vals=[]:=List.eq_nil_of_length_eq_zero (by simpa using hv);subst Et
  have hH:bG H l (.live ⟨r.sz,r.els.take i++[]++r.els.drop (i+([]:List (List AV)).length)⟩)=H:=by
   funext q;by_cases e:q=l
   ·subst e;simp[hl]
   ·rw[aq _ _ e]
  rw[hH];refine⟨w,?_,hr⟩;cases ad<;>simp[storeCells]
 ·obtain⟨cur',w1,w2,_⟩:=s4 hr hl g1 (i:=i) (news:=news) (vals:=vals) mn H_ Lc hv h2 ix;exact⟨_,w1,w2⟩
theorem Ad {sz:Nat} {xv:Value} {news:List (List AV)} {vals:List Value} (h0:0<sz) (S:Src K β H w sz xv news vals) (k:Nat) (ix:∀cs∈news.take k,AV.la cs):∀v∈vals.take (k*sz),v.oneCell'=true:=by
 intro v hv;obtain⟨q,hq⟩:=List.getElem?_of_mem hv;rw[List.getElem?_take] at hq;split at hq
 case isFalse=>simp at hq
 rename_i QM;have Kn:q<news.length*sz:=by rw[←S.len];exact(List.getElem?_eq_some_iff.1 hq).1
 have Kp:q/sz<news.length:=Nat.div_lt_of_lt_mul (by rw[Nat.mul_comm];exact Kn);have NS:q/sz<k:=Nat.div_lt_of_lt_mul (by rw[Nat.mul_comm];exact QM);have QL:q%sz<sz:=Nat.mod_lt _ h0;have GO:news[q/sz]?=some news[q/sz]:=List.getElem?_eq_getElem Kp;have xB:=S.Ac _ (List.getElem_mem Kp);have Ko:(news[q/sz])[q%sz]?=some ((news[q/sz])[q%sz]'(by omega)):=List.getElem?_eq_getElem (by omega)
 obtain⟨v',e1,e2⟩:=S.rv _ _ _ _ GO Ko;have:q/sz*sz+q%sz=q:=by rw[Nat.mul_comm];exact Nat.div_add_mod q sz
 rw[this,hq] at e1;cases e1;refine RV.ob e2 (ix _ ?_ _ (List.getElem_mem _));refine List.mem_of_getElem? (i:=q/sz) ?_;rw[List.getElem?_take,if_pos NS];exact GO
theorem Lh (hr : bj K β env H a w) {o : Oper} {c : Call} {d x : Operand} {d' x' : O} {dt xt e : TypeId} {sz : Nat} {dd : Option Nat} (hd : ∀ n,dd = some n → n < K.N) (ho : o.op = .call c) (hc : c.callee = .builtin .copy)
   (ha:c.args.toList=[d,x]) (Es:c.argTypes.toList=[dt,xt]) (Nh:K.P.underlying dt=some (.slice e)) (hs:qL K.P e=some sz) (h0:sz≠0) (xl:co K.G d=some d') (hx:co K.G x=some x') {y:AV} {H':Hp}
   (hy:uo sz (ev env d') (ev env x') H=some (y,H')):ky K env a w o dd y H':=by
 have ui:c.args=#[d,x]:=by cases hh:c.args;simp_all
 have xC:c.argTypes=#[dt,xt]:=by cases hh:c.argTypes;simp_all
 have iL:(execOp a.eval o).run K.P w=((Builtin.copy_ #[dt,xt] o.type #[a.eval d,a.eval x]).run K.P w).andThen fun v w'=> .ok (.value v) w':=by
   simp[execOp,ho,resolve,hc,ui,xC,invoke,builtin]
 unfold uo at hy
 obtain⟨news,hn,hy⟩:=Option.bind_eq_some_iff.1 hy
 obtain⟨vals,S⟩:=qt hr hx (by omega) hn
 have QN:=hr.ev xl
 obtain⟨⟨l,s0,i,n⟩,hp,hy⟩:=Option.bind_eq_some_iff.1 hy
 simp only at hy
 split at hy
 · simp at hy
 · rename_i ix
   have ix:∀cs∈news.take (Nat.min news.length n),AV.la cs:=Classical.byContradiction ix
   have yW:=Ad (by omega) S (Nat.min news.length n) ix
   obtain⟨PL,ad,c0,h1,h2,h3,h5⟩:=BK hp QN
   split at hy
   · rename_i r hl
     split at hy
     · rename_i dV
       obtain⟨rfl,nQ,mn⟩:=dV
       simp only[Option.some.injEq,Prod.mk.injEq] at hy
       obtain⟨rfl,rfl⟩:=hy
       have hk:Nat.min news.length n≤news.length:=Nat.min_le_left _ _
       have sx:Nat.min news.length n≤n:=Nat.min_le_right _ _
       have Ab:(news.take (Nat.min news.length n)).length=Nat.min news.length n:=by rw[List.length_take];omega
       obtain ⟨w',q1,q2⟩ := vC hr hl (sz := s0) (i := i) (n := n) (news := news.take (Nat.min news.length n)) (vals := vals.take (Nat.min news.length n * s0)) nQ h2 (h5 ⟨r,hl⟩) (by omega) (by omega)
         (fun cs b5=>by rw[nQ];exact S.Ac cs (List.mem_of_mem_take b5)) (fun cs b5=>S.gO cs (List.mem_of_mem_take b5))
         (by rw[List.length_take,S.len,Ab,nQ,Nat.min_eq_left (Nat.mul_le_mul_right _ hk)])
         (fun i' j cs x0 eJ jB => by
           rw[List.getElem?_take] at eJ
           split at eJ
           · rename_i cj
             obtain⟨v,e1,e2⟩:=S.rv i' j cs x0 eJ jB
             refine⟨v,?_,e2⟩
             rw[nQ,List.getElem?_take,if_pos]
             · exact e1
             · have GL:j<s0:=by
                 have:=S.Ac cs (List.mem_of_getElem? eJ)
                 have:=(List.getElem?_eq_some_iff.1 jB).1
                 omega
               have:=Nat.mul_le_mul_right s0 (show i'+1≤Nat.min news.length n by omega)
               rw[Nat.add_mul] at this
               omega
           · simp at eJ)
         (fun v hv=>yW v hv)
       have h4:=q2.step (Below.refl _ _) (d:=dd) (x:= .int .i64 ((Nat.min news.length n:Nat):Int)) (v:= .int .i64 ((Nat.min news.length n:Nat):Int)) hd (fun _=>by simp[RV]) (fun _=>by simp[AV.aI])
       refine⟨_,_,_,_,?_,.inl rfl,h4⟩
       rw[iL,h1]
       have nM:=S.BE _ hk w (.inl rfl)
       have NT:(Builtin.copy_ #[dt,xt] o.type #[.slice ad n c0,a.eval x]).run K.P w= .ok (.int .i64 ((Nat.min news.length n:Nat):Int)) w':=by
         cases ad with
         |none=>
           simp only[Sem.run_pure,Result.ok.injEq,true_and] at q1
           subst q1
           simp[Builtin.copy_,run_underlying Nh,S.lenOf,dp hs,nM,goInt]
         |some q=>
           simp only at q1
           simp[Builtin.copy_,run_underlying Nh,S.lenOf,dp hs,nM,goInt,q1]
       rw[NT];rfl
     · simp at hy
   · simp at hy
theorem pc (z:Array Value) (zs:List AV) (n:Nat) (h:b8 w β H (Im K β H) zs z.toList) (hz:0<z.size):∀i j cs x,(List.replicate n zs)[i]?=some cs→cs[j]?=some x →
  ∃v,(Builtin.zeroCells z n).toList[i*z.size+j]?=some v∧RV w β H (Im K β H) x v:=by
 intro i j cs x hi hj;rw[List.getElem?_replicate] at hi;split at hi
 ·rename_i cj;simp only[Option.some.injEq] at hi;subst hi;obtain⟨v,e1,e2⟩:=b8.get _ _ j x h hj;refine⟨v,?_,e2⟩
  have yR:j<z.size:=by
   have:=(List.getElem?_eq_some_iff.1 e1).1;simpa using this
  have hb:i*z.size+j<n*z.size:=by
   have:=Nat.mul_le_mul_right z.size (show i+1≤n by omega);rw[Nat.add_mul] at this;omega
  have hm:(i*z.size+j)%z.size=j:=by rw[Nat.add_comm,Nat.add_mul_mod_self_right,Nat.mod_eq_of_lt yR]
  have PM:z[j]?=some v:=by simpa using e1
  have hg:=Array.getElem?_eq_some_iff.1 PM;simp[Builtin.zeroCells,hb,hm,getElem!_def,PM]
 ·simp at hi
theorem Ae (z:Array Value) (n:Nat) (hz:0<z.size) (h:∀v∈z.toList,v.oneCell'=true):∀v∈(Builtin.zeroCells z n).toList,v.oneCell'=true:=by
 intro v hv;simp only[Builtin.zeroCells,Array.toList_map,Array.toList_range,List.mem_map,List.mem_range] at hv;obtain⟨i,hi,rfl⟩:=hv;have cj:i%z.size<z.size:=Nat.mod_lt _ hz;refine h _ ?_;rw[show z[i%z.size]! =z[i%z.size] by simp[cj]];simp
theorem yX:∀(zs:List AV) (vs:List Value),AV.la zs→b8 w β H (Im K β H) zs vs→∀v∈vs,v.oneCell'=true
 |[],vs,_,h,v,hv=>by simp[b8] at h;subst h;simp at hv
 |x::r,vs,h1,h,v,hv=>by
  simp only[b8] at h;obtain⟨u,us,rfl,h2,h3⟩:=h;rcases List.mem_cons.1 hv with rfl|hv
  ·exact RV.ob h2 (h1 x (by simp))
  ·exact yX r us (fun y hy=>h1 y (by simp[hy])) h3 v hv
theorem Li (hr : bj K β env H a w) {o : Oper} {c : Call} {x : Operand} {x' : O} {e : TypeId} {i : TypeInfo} {z : Value} {zs : List AV} {dd : Option Nat} (hd : ∀ n,dd = some n → n < K.N) (ho : o.op = .call c) (hc : c.callee = .builtin .clear)
   (ha:c.args.toList=[x]) (ht:c.argTypes[0]?.bind K.P.underlying=some (.slice e)) (hi:K.P.info? e=some i) (hz:i.zero=some z) (qq:z.cells.size=i.size) (h0:0<i.size)
   (qP:np z.cells.toList=some zs) (hx:co K.G x=some x') {H':Hp} (hy:uq i.size zs (ev env x') H=some H'):ky K env a w o dd (.dU []) H':=by
 have ui:c.args=#[x]:=by cases hh:c.args;simp_all
 obtain⟨t,Ef,z6⟩:=Option.bind_eq_some_iff.1 ht
 have iL:(execOp a.eval o).run K.P w=((Builtin.clear_ c.argTypes o.type #[a.eval x]).run K.P w).andThen fun v w'=> .ok (.value v) w':=by
   simp[execOp,ho,resolve,hc,ui,invoke,builtin]
 have Bm:=hr.ev hx
 unfold uq at hy
 split at hy
 · simp at hy
 · rename_i ix
   have ix:AV.la zs:=Classical.byContradiction ix
   obtain⟨⟨l,s0,j,n⟩,hp,hy⟩:=Option.bind_eq_some_iff.1 hy
   obtain⟨PL,ad,c0,h1,h2,h3,h5⟩:=BK hp Bm
   simp only at hy
   split at hy
   · rename_i r hl
     split at hy
     · rename_i dV
       obtain⟨rfl,nQ,mn⟩:=dV
       simp only[Option.some.injEq] at hy
       subst hy
       have Lj:zs.length=i.size:=by have:=b8.len _ _ (j6 _ _ qP w β H (Im K β H));simp at this;omega
       have GF:=j6 _ _ qP w β H (Im K β H)
       obtain⟨w',q1,q2⟩:=vC hr hl (sz:=i.size) (i:=j) (n:=n) (news:=List.replicate n zs) (vals:=(Builtin.zeroCells z.cells n).toList) nQ h2 (h5 ⟨r,hl⟩) (by simp) (by simpa using mn)
         (fun cs b5=>by rw[List.eq_of_mem_replicate b5,nQ,Lj]) (fun cs b5 q hq=>by rw[List.eq_of_mem_replicate b5,j7 _ _ qP] at hq;simp at hq)
         (by rw[eX,qq,nQ];simp) (by rw[nQ,←qq];exact pc z.cells zs n GF (by omega))
         (Ae z.cells n (by omega) (yX _ _ ix GF))
       have h4:=q2.step (Below.refl _ _) (d:=dd) (x:= .dU []) (v:= .tuple #[]) hd (fun _=>by simp[RV,b8]) (fun _=>by simp[AV.aI,ax])
       refine⟨_,_,_,_,?_,.inl rfl,h4⟩
       rw[iL,h1]
       have NT:(Builtin.clear_ c.argTypes o.type #[.slice ad n c0]).run K.P w= .ok (.tuple #[]) w':=by
         cases ad with
         |none=>
           simp only[Sem.run_pure,Result.ok.injEq,true_and] at q1
           subst q1
           simp[Builtin.clear_,Ef,run_underlying z6]
         |some q=>
           simp only at q1
           cases n with
           |zero=>
             have hw:w'=w:=by
               have GH:(Builtin.zeroCells z.cells 0).toList=[]:=by simp[Builtin.zeroCells]
               rw[GH] at q1
               simp[storeCells] at q1
               exact q1.symm
             rw[hw]
             simp[Builtin.clear_,Ef,run_underlying z6]
           |succ n=>
             simp[Builtin.clear_,Ef,run_underlying z6,zeroValue,typeInfo,hi,hz,q1]
       rw[NT];rfl
     · simp at hy
   · simp at hy
theorem Lk (hr:bj K β env H a w) {o:Oper} {t e:TypeId} {n c:Operand} {n' c':O} {i:TypeInfo} {z:Value} {zs:List AV} {d:Nat} (hd:d<K.N) (ho:o.op= .makeSlice t n c) (ht:K.P.underlying t=some (.slice e))
  (hi:K.P.info? e=some i) (hz:i.zero=some z) (qq:z.cells.size=i.size) (h0:0<i.size) (hb:0<i.bytes) (qP:np z.cells.toList=some zs) (hn:co K.G n=some n') (hc:co K.G c=some c') {y:AV} {H':Hp}
  (hy:ur i.size i.bytes d zs (ev env n') (ev env c') H=some (y,H')):ky K env a w o (some d) y H':=by
 have NU:=hr.ev hn;have Ic:=hr.ev hc;unfold ur at hy;split at hy
 ·rename_i k m k' m' e1 e2;rw[e1] at NU;rw[e2] at Ic;simp only[RV] at NU Ic;split at hy
  ·rename_i dV;obtain⟨rfl,vv,QO,hu⟩:=dV;simp only[Option.some.injEq,Prod.mk.injEq] at hy;obtain⟨rfl,rfl⟩:=hy;obtain⟨q,rfl⟩:=Int.eq_ofNat_of_zero_le vv;simp only[Int.toNat_natCast] at QO ⊢;have Sl:q≤q*i.bytes:=Nat.le_mul_of_pos_right _ hb
   have lG:=run_make (P:=K.P) w t e i z ht hi hz k k' (q:Int) (q:Int) vv (Int.le_refl _) (by
    have:((q*i.bytes:Nat):Int)≤140737488355328:=by omega
    rw[Int.natCast_mul,Int.mul_comm] at this;omega) (by omega)
   simp only[Int.toNat_natCast] at lG;have Lj:zs.length=i.size:=by have:=b8.len _ _ (j6 _ _ qP w β H (Im K β H));simp at this;omega
   have QP:madeCells z.cells (q*i.size)=Builtin.zeroCells z.cells q:=by rw[←qq];rfl
   have hex:(execOp a.eval o).run K.P w= .ok (.value (.slice (some ⟨w.heap.size,0,none⟩) q q)) (w.alloc (.cells (Builtin.zeroCells z.cells q) e)):=by
    rw[←QP];simp[execOp,ho,NU,Ic,lG,Result.andThen]
   have gw:=ft w (.cells (Builtin.zeroCells z.cells q) e);have eM:=um hr (H':=bG H (.loc d) (.live ⟨i.size,List.replicate q zs⟩)) (lb:= .loc d) (b:=some w.heap.size) gw hu (by simp) (fun p hp ⟨r,h⟩=>by rw[aq _ _ hp] at h;exact⟨r,h⟩)
   have kP:qk (w.alloc (.cells (Builtin.zeroCells z.cells q) e)) (bG β (.loc d) (some w.heap.size)) (bG H (.loc d) (.live ⟨i.size,List.replicate q zs⟩))
     (Im K (bG β (.loc d) (some w.heap.size)) (bG H (.loc d) (.live ⟨i.size,List.replicate q zs⟩))) (.loc d) ⟨i.size,List.replicate q zs⟩:=by
    refine⟨h0,fun cs b5=>by rw[List.eq_of_mem_replicate b5,Lj],?_⟩;simp only[jk];refine⟨Builtin.zeroCells z.cells q,e,q,heap_alloc_new w _,by rw[size_zeroCells,qq],by simp only[maxLen];omega,by simp,fun i' j cs x eJ jB=> ?_⟩;obtain⟨v,q1,q2⟩:=pc (H:=H) z.cells zs q (j6 _ _ qP w β H (Im K β H)) (by omega) i' j cs x eJ jB;rw[qq] at q1;refine⟨v,by simpa using q1,RV.mono _ _ (eM _ (fun p hp=> ?_)) q2⟩
    rw[List.getElem?_replicate] at eJ;split at eJ
    ·simp only[Option.some.injEq] at eJ;subst eJ;have:=dI _ _ _ jB p hp;rw[j7 _ _ qP] at this;simp at this
    ·simp at eJ
   have h3:=hr.mr (.loc d) hu gw (some w.heap.size) (by simp) (fun cs b5 p hp=>by rw[List.eq_of_mem_replicate b5,j7 _ _ qP] at hp;simp at hp) kP
   have h4:=h3.step (Below.refl _ _) (d:=some d) (x:= .sl (.loc d) i.size 0 q) (v:= .slice (some ⟨w.heap.size,0,none⟩) q q) (by simpa using hd)
    (fun _=>by
     simp only[RV];refine⟨_,_,rfl,Nat.le_refl _,by simp only[maxLen];omega,by simp,fun _=> .inr ⟨w.heap.size,q*i.size,by simp,by simp,?_,by simp⟩⟩;have hh:(w.alloc (.cells (Builtin.zeroCells z.cells q) e)).heap[w.heap.size]?=some (.cells (Builtin.zeroCells z.cells q) e):=heap_alloc_new w _;unfold lY;rw[hh];simp only[size_zeroCells,qq]) (by simp[AV.aI])
   exact⟨_,_,_,_,hex,.inl rfl,h4⟩
  ·simp at hy
 ·simp at hy
theorem Ll (hr:bj K β env H a w) {o:Oper} {c:Call} {x:Operand} {x':O} {e:TypeId} (ho:o.op= .call c) (hc:c.callee= .builtin .cap) (ha:c.args.toList=[x])
  (ht:c.argTypes[0]?.bind K.P.underlying=some (.slice e)) (hx:co K.G x=some x') {R:Nat→Prop} (hy:BJ (ev env x')=some R):∃m,R m∧m≤maxLen∧br K β H a w o (.int .i64 (m:Int)):=by
 have h:=hr.ev hx;obtain⟨t,Ef,z6⟩:=Option.bind_eq_some_iff.1 ht;have ui:c.args=#[x]:=by cases hh:c.args;simp_all
 have sl:∀(ad:Option Addr) (n c':Nat),a.eval x= .slice ad n c'→(execOp a.eval o).run K.P w= .ok (.value (.int .i64 c')) w:=by
  intro ad n c' hv;simp[execOp,ho,resolve,hc,ui,hv,invoke,builtin,Builtin.cap_,Ef,run_underlying z6,goInt]
 have fin:∀(ad:Option Addr) (n c':Nat),a.eval x= .slice ad n c'→br K β H a w o (.int .i64 (c':Int)):=fun ad n c' hv=>br.same (sl ad n c' hv) (by simp[RV]) (by simp[AV.aI])
 unfold BJ at hy;split at hy<;>simp only[Option.some.injEq,reduceCtorEq] at hy
 ·rename_i l sz i n m hs;rw[hs] at h;simp only[RV] at h;obtain⟨ad,h1,h2,h3,_⟩:=h;subst hy;exact⟨m,rfl,h3,fin _ _ _ h1⟩
 ·rename_i l sz i n hs;rw[hs] at h;simp only[RV] at h;obtain⟨ad,m,h1,h2,h3,_⟩:=h;subst hy;exact⟨m,h2,h3,fin _ _ _ h1⟩
 ·rename_i xs hs;rw[hs] at h;simp only[RV,ic] at h;obtain⟨ad,m,h1,h2,h3,_⟩:=h;subst hy;exact⟨m,h2,h3,fin _ _ _ h1⟩
 ·rename_i hs;rw[hs] at h;simp only[RV] at h;obtain⟨ad,h1⟩:=h;subst hy;exact⟨0,rfl,by simp[maxLen],fin _ _ _ h1⟩
theorem Ie (hr:bj K β env H a w) {o:Oper} {t e:TypeId} {x:Operand} {n s:Nat} {x':O} (ho:o.op= .slice t x none none none) (ht:K.P.underlying t=some (.array n e))
  (hs:qL K.P e=some s) (GB:s≠0) (hx:co K.G x=some x') {y:AV} (hy:ae (.uh x' n s) env=some y):br K β H a w o y:=by
 have h:=hr.ev hx;simp only[ae] at hy;split at hy
 ·rename_i cs e1;rw[e1] at h;split at hy
  ·rename_i dV;obtain⟨hl,xr,ix⟩:=dV;simp only[Option.some.injEq] at hy;subst hy;simp only[RV] at h;obtain⟨b,o',h1,h2,h3,h4⟩:=h;have KY:=lF (sz:=s) (by omega) n cs b o' hl ix h4;refine br.same (v:= .slice (some ⟨b,o',none⟩) n n) ?_ ?_ (by simp[AV.aI])
   ·simp[execOp,ho,h1,Instr.sliceAt,run_underlying ht,Instr.sliceBounds,Instr.sureAddr,dp hs,Result.andThen,c9]
   ·simp only[RV,ic];refine⟨some ⟨b,o',none⟩,n,by rw[KY.2],by rw[KY.2];exact Nat.le_refl _,xr,.inr ⟨b,o',s,rfl,h2,h3,by omega,KY.1⟩⟩
  ·simp at hy
 ·simp at hy
theorem uv {w:World} {β:Lb→Option Nat} {H:Hp} {I I':Nat→Prop} (hk:jH w w I I'):∀{y:IV} {v:Value},(∀cs,y≠ .agg cs)→RV w β H I y.cW v→ic w I' y v:=by
 intro y v hy h;cases y with
 |agg cs=>exact absurd rfl (hy cs)
 |list xs=>simp only[IV.cW,RV] at h;exact ic.mono hk _ _ h
 |bool b=>simpa[IV.cW,RV,ic] using h
 |int k n=>simpa[IV.cW,RV,ic] using h
 |str s=>simpa[IV.cW,RV,ic] using h
theorem jU {w:World} {I:Nat→Prop}:∀(cs:List IV) (b o:Nat),(∀j z,cs[j]?=some z→∃v,w.cell? ⟨b,o+j,none⟩=some v∧ic w I z v)→ca w I cs b o
 |[],b,o,_=>by simp[ca]
 |z::r,b,o,h=>by
  simp only[ca];refine⟨by simpa using h 0 z (by simp),jU r b (o+1) (fun j y hj=> ?_)⟩;have:=h (j+1) y (by simpa using hj)
  rwa[show o+(j+1)=o+1+j by omega] at this
theorem lf {w:World} {I:Nat→Prop} {sz:Nat}:∀(xs:List IV) (b o:Nat),(∀k y,xs[k]?=some y→jh w I y b (o+k*sz) sz)→cD w I xs b o sz
 |[],b,o,_=>by simp[cD]
 |y::r,b,o,h=>by
  simp only[cD];refine⟨by simpa using h 0 y (by simp),lf r b (o+sz) (fun k z hk=> ?_)⟩;have:=h (k+1) z (by simpa using hk)
  rwa[Nat.add_mul,Nat.one_mul,show o+(k*sz+sz)=o+sz+k*sz by omega] at this
theorem Ig (hr:bj K β env H a w) {o:Oper} {c:Call} {s x:Operand} {s' x':O} {st xt e:TypeId} {i:TypeInfo} {z:Value} {dx:TypeDesc} (ho:o.op= .call c) (hc:c.callee= .builtin .append)
  (ha:c.args.toList=[s,x]) (Es:c.argTypes.toList=[st,xt]) (mS:K.P.underlying st=some (.slice e)) (hi:K.P.info? e=some i) (hz:i.zero=some z) (qq:z.cells.size=i.size) (h0:0<i.size)
  (s5:K.P.underlying xt=some dx) (xl:dx= .string∨∃e2,dx= .slice e2) (hs:co K.G s=some s') (hx:co K.G x=some x') {y:AV}
  (hy:ae (.sG s' x' i.size i.bytes) env=some y):br K β H a w o y:=by
 have ui:c.args=#[s,x]:=by cases hh:c.args;simp_all
 have xC:c.argTypes=#[st,xt]:=by cases hh:c.argTypes;simp_all
 have iL:(execOp a.eval o).run K.P w=((Builtin.append_ #[st,xt] o.type #[a.eval s,a.eval x]).run K.P w).andThen fun v w'=> .ok (.value v) w':=by
  simp[execOp,ho,resolve,hc,ui,xC,invoke,builtin]
 have pb:=hr.ev hs
 have GQ:∀(news:List (List AV)) (vals:List Value),news.length=0→Src K β H w i.size (a.eval x) news vals→ev env s'= .nil0→br K β H a w o (.list []):=by
  intro news vals vv S e1;rw[e1] at pb;simp only[RV] at pb;obtain⟨ad,pb⟩:=pb;have dm:news=[]:=List.eq_nil_of_length_eq_zero vv;subst dm;have Et:vals=[]:=List.eq_nil_of_length_eq_zero (by simpa using S.len);subst Et;have nP:=gP (ty:=o.type) mS hi s5 xl ad 0 0 0 (a.eval x) #[] S.lenOf (S.cells w (.inl rfl)) (by omega)
  refine br.same (v:= .slice ad 0 0) ?_ ?_ (by simp[AV.aI])
  ·rw[iL,pb,nP];cases ad<;>simp[storeCells]
  ·simp only[RV,ic];exact⟨ad,0,rfl,Nat.le_refl _,by simp[maxLen],.inl rfl⟩
 simp only[ae] at hy;split at hy
 ·rename_i xs e1 e2;split at hy
  ·rename_i dV;obtain⟨qM,vD,hb,sH,_⟩:=dV;simp only[Option.some.injEq] at hy;subst hy;have hn:jL i.size (ev env x') H=some (xs.map fun y=>y.cells.map IV.cW):=by rw[e2];simp[jL,qM]
   obtain⟨vals,S⟩:=qt hr hx h0 hn;by_cases vv:xs.length=0
   ·have:xs=[]:=List.eq_nil_of_length_eq_zero vv;subst this;exact GQ _ _ (by simp) S e1
   ·rw[e1] at pb;simp only[RV] at pb;obtain⟨ad,pb⟩:=pb;have xk:(xs.map fun y=>y.cells.map IV.cW).length=xs.length:=List.length_map _
    have vB:(Builtin.firstCells i.size 0 (.slice ad 0 0)).run K.P w.drew= .ok #[] w.drew:=by
     cases ad with
     |none=>simp[Builtin.firstCells]
     |some q=>simp[Builtin.firstCells,loadCells,loadCellsFrom]
    have hlen:=S.lenOf;have nM:=S.cells w.drew (.inr rfl);rw[xk] at hlen nM;have nP:=gg (ty:=o.type) mS hi hz s5 xl ad 0 0 xs.length (a.eval x) vals.toArray #[] hlen nM vB (by omega) (by simpa using hb) sH
    have o_:=grownCap_ge w (0+xs.length) 0 e
    have vm:=grownCap_le_maxLen w (0+xs.length) 0 e (by
     have:=Nat.le_mul_of_pos_right xs.length sH;simp only[maxLen];omega)
    have gw:=(o9 w).trans (ft w.drew (.cells (#[]++vals.toArray++Builtin.zeroCells z.cells (grownCap w (0+xs.length) 0 e - (0+xs.length))) e))
    refine⟨.slice (some ⟨w.heap.size,0,none⟩) (0+xs.length) (grownCap w (0+xs.length) 0 e),_,by rw[iL,pb,nP];rfl,gw,?_,by simp[AV.aI]⟩;simp only[RV,ic];refine⟨_,_,by rw[Nat.zero_add],by omega,vm,.inr ⟨w.heap.size,0,i.size,rfl,hr.fresh,?_,h0,?_⟩⟩
    ·have hh:=heap_alloc_new w.drew (.cells (#[]++vals.toArray++Builtin.zeroCells z.cells (grownCap w (0+xs.length) 0 e - (0+xs.length))) e)
     exact(Array.getElem?_eq_some_iff.1 hh).1
    ·refine lf _ _ _ (fun k y Bo=> ?_);rw[gx];have xB:y.cells.length=i.size:=qM y (List.mem_of_getElem? Bo);refine⟨xB.symm,jU _ _ _ (fun j q hq=> ?_)⟩;obtain⟨v,q1,q2⟩:=S.rv k j (y.cells.map IV.cW) q.cW (by simp[Bo]) (by simp[hq])
     refine⟨v,?_,ic.mono (mh.sV gw β H (Im K β H) []).tojH _ _ (uv (I:=Im K β H) (w:=w) ⟨fun k hk hs=>⟨hk,hs,rfl⟩⟩ (vD y (List.mem_of_getElem? Bo) q (List.mem_of_getElem? hq)) q2)⟩
     have hh:(w.drew.alloc (.cells (#[]++vals.toArray++Builtin.zeroCells z.cells (grownCap w (0+xs.length) 0 e - (0+xs.length))) e)).heap[w.heap.size]?=some (.cells (#[]++vals.toArray++Builtin.zeroCells z.cells (grownCap w (0+xs.length) 0 e - (0+xs.length))) e):=heap_alloc_new w.drew _
     rw[cell_of_row _ _ _ _ _ _ hh];have cj:k*i.size+j<vals.length:=(List.getElem?_eq_some_iff.1 q1).1;simp only[Nat.zero_add];rw[Array.getElem?_append_left (by simpa using cj)];simpa using q1
  ·simp at hy
 ·rename_i e1 e2;split at hy
  ·simp only[Option.some.injEq] at hy;subst hy;have hn:jL i.size (ev env x') H=some []:=by rw[e2];simp[jL]
   obtain⟨vals,S⟩:=qt hr hx h0 hn;exact GQ _ _ rfl S e1
  ·exact absurd h0 ‹_›
 ·simp at hy
theorem pd {P:Program} {w:World} {st xt ty e:TypeId} {i:TypeInfo} {z:Value} {k0:IntKind} (hu:P.underlying st=some (.slice e)) (hi:P.info? e=some i) (hz:i.zero=some z) (hx:P.underlying xt=some (.int k0))
  (ad:Option Addr) (n c m:Nat) (k:IntKind) (olds:Array Value) (h0:0<m*i.size)
  (ho:(Builtin.firstCells i.size n (.slice ad n c)).run P w.drew= .ok olds w.drew) (Eo:c<n+m) (hb:(n+m)*i.bytes≤140737488355328) (sH:0<i.bytes) :
  (Builtin.append_ #[st,xt] ty #[.slice ad n c,.int k (m:Int)]).run P w= .ok (.slice (some ⟨w.heap.size,0,none⟩) (n+m) (grownCap w (n+m) c e))
   (w.drew.alloc (.cells (olds++Builtin.zeroCells z.cells m++Builtin.zeroCells z.cells (grownCap w (n+m) c e - (n+m))) e)):=by
 have hn:¬(n+m≤c):=by omega
 have QK:n+m≤(n+m)*i.bytes:=Nat.le_mul_of_pos_right _ sH;have H7:¬(9223372036854775807<((n:Int)+(m:Int))):=by omega
 have H8:¬(281474976710656<Builtin.nextslicecap (n+m) c*i.bytes):=by have:=growslice_fits Eo hb;omega
 have hw:IntKind.i64.wrap (m:Int)=m:=by rw[IntKind.wrap_i64];omega
 have NV:¬((m:Int)<0):=by omega
 have NX:¬(281474976710656<(m:Int)*(i.bytes:Int)):=by
  rw[←Int.natCast_mul];have:m*i.bytes≤(n+m)*i.bytes:=Nat.mul_le_mul_right _ (by omega);omega
 have Eg:¬(m*i.size=0):=by omega
 have NY:m≠0:=fun h=>Eg (by simp[h])
 have NZ:i.size≠0:=fun h=>Eg (by simp[h])
 simp[Builtin.append_,run_underlying hu,run_underlying hx,sizeOf,typeInfo,zeroValue,hi,hz,asInt,asIntOf,hw,hn,NV,NY,NZ,H7,H8,NX,Question.forced,ho,newRow,grownCap];intro h;exact absurd h Eg
theorem Ih (hr : bj K β env H a w) {o : Oper} {c : Call} {s x : Operand} {s' x' : O} {st xt e : TypeId} {i : TypeInfo} {z : Value} {zs : List AV} {k0 : IntKind} {d : Nat} (hd : d < K.N) (ho : o.op = .call c) (hc : c.callee = .builtin .append)
   (ha:c.args.toList=[s,x]) (Es:c.argTypes.toList=[st,xt]) (mS:K.P.underlying st=some (.slice e)) (hi:K.P.info? e=some i) (hz:i.zero=some z) (qq:z.cells.size=i.size) (h0:0<i.size) (sH:0<i.bytes)
   (s5:K.P.underlying xt=some (.int k0)) (qP:np z.cells.toList=some zs) (hs:co K.G s=some s') (hx:co K.G x=some x') {y:AV} {H':Hp}
   (hy:s6 i.size i.bytes d zs (ev env s') (ev env x') H=some (y,H')):ky K env a w o (some d) y H':=by
 have ui:c.args=#[s,x]:=by cases hh:c.args;simp_all
 have xC:c.argTypes=#[st,xt]:=by cases hh:c.argTypes;simp_all
 have iL:(execOp a.eval o).run K.P w=((Builtin.append_ #[st,xt] o.type #[a.eval s,a.eval x]).run K.P w).andThen fun v w'=> .ok (.value v) w':=by
   simp[execOp,ho,resolve,hc,ui,xC,invoke,builtin]
 have pb:=hr.ev hs
 have Bm:=hr.ev hx
 unfold s6 at hy
 split at hy
 · rename_i l s0 i0 n c0 k m e1 e2
   rw[e1] at pb;rw[e2] at Bm
   simp only[RV] at pb Bm
   obtain⟨ad,h1,h2,h3,h4,h5⟩:=pb
   split at hy
   · rename_i r hl
     split at hy
     · rename_i dV
       obtain⟨rfl,nQ,rfl,xk,vv,Eo,hb,hu⟩:=dV
       obtain⟨q,rfl⟩:=Int.eq_ofNat_of_zero_le vv
       simp only[Int.toNat_natCast] at Eo hb hy
       simp only[Option.some.injEq,Prod.mk.injEq] at hy
       obtain⟨rfl,rfl⟩:=hy
       have Kq:(r.els.take n).length=n:=by simp;omega
       have BF:∀cs∈r.els.take n,cs.length=i.size:=fun cs b5=>by rw[←nQ];exact(hr.rows l r hl).2.1 cs (List.mem_of_mem_take b5)
       have GN:∀cs∈r.els.take n,∀q∈ax cs,H q≠ .unused:=fun cs b5=>hr.dA l r hl cs (List.mem_of_mem_take b5)
       have Lj:zs.length=i.size:=by have:=b8.len _ _ (j6 _ _ qP w β H (Im K β H));simp at this;omega
       have GF:=j6 _ _ qP w β H (Im K β H)
       have o_:=grownCap_ge w (n+q) c0 e
       have vm:=grownCap_le_maxLen w (n+q) c0 e (by
         have:=Nat.le_mul_of_pos_right (n+q) sH
         simp only[maxLen];omega)
       have olds:∃olds:List Value,olds.length=n*i.size∧(∀i' j cs x0,(r.els.take n)[i']?=some cs→cs[j]?=some x0→∃v,olds[i'*i.size+j]?=some v∧RV w β H (Im K β H) x0 v) ∧
           (Builtin.firstCells i.size n (.slice ad n c0)).run K.P w.drew= .ok olds.toArray w.drew:=by
         by_cases Eu:c0=0
         · have sX:n=0:=by omega
           subst sX
           refine⟨[],by simp,by simp,?_⟩
           cases ad with
           |none=>simp[Builtin.firstCells]
           |some q=>simp[Builtin.firstCells,loadCells,loadCellsFrom]
         · rcases h5 ⟨r,hl⟩ with h6|⟨g,Sz,g1,rfl,g3,g4⟩
           · exact absurd h6 Eu
           · obtain⟨cur,e0,cap,k1,k2,k3,k4,k5⟩:=(hr.rows l r hl).block g1
             rw[nQ] at k2
             have Lf:n*i.size≤cur.size:=by rw[k2];exact Nat.mul_le_mul_right _ (by omega)
             have nz:(cur.toList.take (n*i.size)).length=n*i.size:=by simp;omega
             refine⟨cur.toList.take (n*i.size),nz,?_,?_⟩
             · intro i' j cs x0 eJ jB
               rw[List.getElem?_take] at eJ
               split at eJ
               · rename_i cj
                 obtain⟨v,q1,q2⟩:=k5 i' j cs x0 eJ jB
                 rw[nQ] at q1
                 refine⟨v,?_,q2⟩
                 have GL:j<i.size:=by
                   have:=(hr.rows l r hl).2.1 cs (List.mem_of_getElem? eJ)
                   have:=(List.getElem?_eq_some_iff.1 jB).1
                   omega
                 have jl:i'*i.size+j<n*i.size:=by
                   have:=Nat.mul_le_mul_right i.size (show i'+1≤n by omega)
                   rw[Nat.add_mul] at this;omega
                 rw[List.getElem?_take,if_pos jl]
                 simpa using q1
               · simp at eJ
             · exact run_firstCells_some (P:=K.P) w.drew i.size n ⟨g,0*i.size,none⟩ n c0 _ nz (fun j v hj=>by
                 rw[c9,Nat.zero_mul,Nat.zero_add]
                 have:w.cell? ⟨g,j,none⟩=some v:=by
                   rw[cell_of_row w g _ cur e0 (0,0) k1]
                   rw[List.getElem?_take] at hj
                   split at hj
                   · simpa using hj
                   · simp at hj
                 simpa using this)
       obtain⟨olds,Ib,Kr,NR⟩:=olds
       have QQ:0<q*i.size:=Nat.mul_pos (by omega) h0
       have nP:=pd (ty:=o.type) mS hi hz s5 ad n c0 q k olds.toArray QQ NR Eo hb sH
       have PN:(List.replicate q zs).length=q:=List.length_replicate
       have:=iN hr hr (fun _ h=>h) (fun _ h=>h) (o:=o) hd (e:=e) (n:=n) (m:=q) (A:=r.els.take n) (news:=List.replicate q zs) (olds:=olds) (vals:=(Builtin.zeroCells z.cells q).toList)
         (rest:=(Builtin.zeroCells z.cells (grownCap w (n+q) c0 e - (n+q))).toList) h0 hu hu Kq PN BF (fun cs b5=>by rw[List.eq_of_mem_replicate b5,Lj]) GN
         (fun cs b5 p hp=>by rw[List.eq_of_mem_replicate b5,j7 _ _ qP] at hp;simp at hp) Ib (by rw[eX,qq,PN]) Kr (by rw[←qq];exact pc z.cells zs q GF (by omega))
         (cap:=grownCap w (n+q) c0 e) (by
           have h9:=qW (sz:=i.size) o_
           simp only[List.length_append,Ib,eX,qq]
           rw[←Nat.add_mul]
           exact h9) vm o_ (by
           rw[iL,h1,Bm,nP]
           exact qV _ _ (by simp))
       exact this
     · simp at hy
   · simp at hy
 · simp at hy
theorem Af {x:AV} (h:x.ew=true):∀l∈ax x.cells,l∈x.aI:=by
 intro l hl;cases x<;>simp[AV.cells,ax] at hl<;>simp[AV.aI] at hl ⊢<;>exact hl
theorem kz (l m:List AV):ax (l++m)=ax l++ax m:=by
 induction l with
 |nil=>rfl
 |cons x r ih=>simp[ax,ih]
theorem s7:∀(qs:List (Nat×Nat×AV)) (c c':List AV),bu c qs=some c'→∀l∈ax c',l∈ax c∨∃q∈qs,l∈q.2.2.aI
 |[],c,c',h,l,hl=>by simp[bu] at h;subst h;exact .inl hl
 | (off,sz,x) :: qs,c,c',h,l,hl => by
   simp only[bu] at h
   split at h
   · rename_i hc
     rcases s7 qs _ _ h l hl with h1|⟨q,h1,h2⟩
     · rw[kz,kz,List.mem_append,List.mem_append] at h1
       rcases h1 with(h1|h1)|h1
       · left
         have:=kz (c.take off) (c.drop off)
         rw[List.take_append_drop] at this
         rw[this,List.mem_append];exact .inl h1
       · exact .inr ⟨(off,sz,x),by simp,Af hc.1 l h1⟩
       · left
         have:=kz (c.take (off+sz)) (c.drop (off+sz))
         rw[List.take_append_drop] at this
         rw[this,List.mem_append];exact .inr h1
     · exact .inr ⟨q,by simp[h1],h2⟩
   · simp at h
theorem Ew (hr:bj K β env H a w) {o:Oper} {t e:TypeId} {ps:Array (Nat×Operand)} {i:TypeInfo} {z:Value} {zs:List AV} {xs:List O} {d:Nat} (hd:d<K.N) (ho:o.op= .buildSlice t 1 ps)
  (ht:K.P.underlying t=some (.slice e)) (hi:K.P.info? e=some i) (hz:i.zero=some z) (qq:z.cells.size=i.size) (h0:0<i.size) (hn:1*i.size≤2^24)
  (qP:np z.cells.toList=some zs) (Bj:cos K.G (ps.toList.map (·.2))=some xs) {y:AV} {H':Hp}
  (hy:uu i.size d zs (((ps.toList.map (·.1)).zip xs).map fun p=>(p.1,ev env p.2)) H=some (y,H')):ky K env a w o (some d) y H':=by
 unfold uu at hy;obtain⟨cs,h1,hy⟩:=Option.bind_eq_some_iff.1 hy;split at hy
 ·rename_i dV;obtain⟨hu,hlen,_⟩:=dV;simp only[Option.some.injEq,Prod.mk.injEq] at hy;obtain⟨rfl,rfl⟩:=hy;have GH:=j6 _ _ qP w β H (Im K β H);have hzero:=qO z.cells zs w β H (Im K β H) GH (by omega) 1
  have hm:∀l∈ax cs,H l≠ .unused:=by
   intro l hl;rcases s7 _ _ _ h1 l hl with h2|⟨q,h2,h3⟩
   ·rw[j7 _ _ qP] at h2;simp at h2
   ·simp only[List.map_map,List.mem_map,Function.comp] at h2;obtain⟨p,hp,rfl⟩:=h2;simp only at h3;have Ni:p.2∈xs:=(List.of_mem_zip (a:=p.1) (b:=p.2) hp).2;obtain⟨k,hk⟩:=List.getElem?_of_mem Ni;exact k9 hr _ _ Bj l (dI _ k _ (by rw[List.getElem?_map,hk];rfl) l h3)
  have HV:xs.length=ps.toList.length:=by
   have:=b8.len _ _ (kO hr _ _ Bj);simp at this;simpa using this.symm
  have gf:=nL hr (fun j=>some (j*i.size,i.size)) ps.toList xs (((ps.toList.map (·.1)).zip xs).map fun p=>(p.1*i.size,i.size,p.2)) Bj
   (by simp at HV;simp[HV])
   (by
    intro j p x q g1 g2 g3;simp only[List.getElem?_map,List.getElem?_zip_eq_some,Option.map_eq_some_iff] at g3;obtain⟨⟨u,v⟩,⟨⟨p',e1,e2⟩,e3⟩,rfl⟩:=g3;simp only at e1 e2 e3;rw[g1] at e1;cases e1;rw[g2] at e3;cases e3;exact⟨rfl,by simp[e2]⟩)
  obtain⟨cur',f1,f2⟩:=od (fun j=>some (j*i.size,i.size)) _ _ _ cs _ hzero (by simpa[List.map_map,Function.comp_def] using h1) gf
  have vu:Instr.fill (fun j=>some (j*i.size,i.size)) ((Array.range (1*i.size)).map (z.cells[·%z.cells.size]!)) (ps.toList.map fun p=>(p.1,a.eval p.2))=some cur':=by
   rw[←qq];rw[←qq] at f1;exact f1
  have HW:¬1*i.size=0:=by omega
  have KZ:=dp (P:=K.P) (t:=e) (s:=i.size) (by simp[qL,hi]) w
  have lG:(execOp a.eval o).run K.P w= .ok (.value (.slice (some ⟨w.heap.size,0,none⟩) 1 1)) (w.alloc (.cells cur' e)):=by
   simp only[execOp,ho,Instr.buildSlice,Sem.run_bind,run_underlying ht,Result.andThen_ok,KZ,Sem.run_ite,HW,if_false,zeroValue,typeInfo,run_program,hi,hz,
    Array.toList_map,show ¬1*i.size>2^24 by omega,Sem.run_pure,Result.andThen,vu]
   simp[newRow,vu]
  have ny:cur'.size=i.size:=by have:=b8.len _ _ f2;simp at this;omega
  have gw:=ft w (.cells cur' e);have eM:=um hr (H':=bG H (.loc d) (.live ⟨i.size,[cs]⟩)) (lb:= .loc d) (b:=some w.heap.size) gw hu (by simp) (fun p hp ⟨r,h⟩=>by rw[aq _ _ hp] at h;exact⟨r,h⟩)
  have kP:qk (w.alloc (.cells cur' e)) (bG β (.loc d) (some w.heap.size)) (bG H (.loc d) (.live ⟨i.size,[cs]⟩))
    (Im K (bG β (.loc d) (some w.heap.size)) (bG H (.loc d) (.live ⟨i.size,[cs]⟩))) (.loc d) ⟨i.size,[cs]⟩:=by
   refine⟨h0,by simp[hlen],?_⟩;simp only[jk];refine⟨cur',e,1,heap_alloc_new w _,by simp[ny],by simp[maxLen],by simp,fun i' j oe x eJ jB=> ?_⟩;cases i' with
   |succ i'=>simp at eJ
   |zero=>
    simp at eJ;subst eJ;obtain⟨v,k1,k2⟩:=b8.get _ _ _ _ f2 jB;exact⟨v,by simpa using k1,RV.mono _ _ (eM _ (fun l hl=>hm l (dI _ _ _ jB l hl))) k2⟩
  have h3:=hr.mr (.loc d) hu gw (some w.heap.size) (by simp) (by simpa using hm) kP
  have h4:=h3.step (Below.refl _ _) (d:=some d) (x:= .sl (.loc d) i.size 0 1) (v:= .slice (some ⟨w.heap.size,0,none⟩) 1 1) (by simpa using hd)
   (fun _=>by
    simp only[RV];refine⟨_,1,rfl,Nat.le_refl _,by simp[maxLen],by simp,fun _=> .inr ⟨w.heap.size,i.size,by simp,by simp,?_,by simp⟩⟩;have hh:(w.alloc (.cells cur' e)).heap[w.heap.size]?=some (.cells cur' e):=heap_alloc_new w _;unfold lY;rw[hh];simp only[ny]) (by simp[AV.aI])
  exact⟨_,_,_,_,lG,.inl rfl,h4⟩
 ·simp at hy
end
end Go.Am
