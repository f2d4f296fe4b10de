import Derived.Test.YtfinkeaikbmpgaaGreatDoorAm11
import Derived.Laws.MakeOwn
set_option linter.unusedSimpArgs false
set_option linter.unusedVariables false
set_option linter.unnecessarySimpa false
set_option linter.defProp false
/- THE ABSTRACT MACHINE, part 38: copies, clears, rows of noughts, room. -/
namespace Go.Am
open Go Go.RowKit
def E3:AV→Option (Lb×Nat×Nat×Nat)
 | .sl l sz i n=>some (l,sz,i,n)
 | .slk l sz i n _=>some (l,sz,i,n)
 |_=>none
def Ar:AV→Option (Nat→Prop)
 | .slk _ _ _ _ c=>some fun m=>m=c
 | .sl _ _ _ n=>some fun m=>n≤m
 | .list xs=>some fun m=>xs.length≤m
 | .nil0=>some fun m=>m=0
 |_=>none
open Classical in
noncomputable def tv (sz:Nat) (d x:AV) (H:Hp):Option (AV×Hp):=
 (jU sz x H).bind fun news=>(E3 d).bind fun p=>if ¬(∀cs∈news.take (Nat.min news.length p.2.2.2),AV.pf cs) then none else
  match H p.1 with
   | .live r=>if p.2.1=sz∧r.sz=sz∧p.2.2.1+p.2.2.2≤r.els.length then
    some (.int .i64 ((Nat.min news.length p.2.2.2:Nat):Int),bL H p.1 (.live ⟨sz,r.els.take p.2.2.1++news.take (Nat.min news.length p.2.2.2)++r.els.drop (p.2.2.1+(news.take (Nat.min news.length p.2.2.2)).length)⟩)) else none
   |_=>none
open Classical in
noncomputable def tw (sz:Nat) (z:List AV) (x:AV) (H:Hp):Option Hp:=
 if ¬AV.pf z then none else(E3 x).bind fun p=>match H p.1 with
  | .live r=>if p.2.1=sz∧r.sz=sz∧p.2.2.1+p.2.2.2≤r.els.length then
   some (bL H p.1 (.live ⟨sz,r.els.take p.2.2.1++List.replicate p.2.2.2 z++r.els.drop (p.2.2.1+(List.replicate p.2.2.2 z).length)⟩)) else none
  |_=>none
open Classical in
noncomputable def rD (sz bytes d:Nat) (z:List AV) (n c:AV) (H:Hp):Option (AV×Hp):=
 match n,c with
 | .int _ m,.int _ m'=>if m=m'∧0≤m∧m.toNat*bytes≤140737488355328∧H (.loc d)= .unused then some (.sl (.loc d) sz 0 m.toNat,bL H (.loc d) (.live ⟨sz,List.replicate m.toNat z⟩)) else none
 |_,_=>none
open Classical in
noncomputable def u5 (sz bytes d:Nat) (z:List AV) (s n:AV) (H:Hp):Option (AV×Hp):=
 match s,n with
 | .slk l s' i n c,.int _ m=>match H l with
  | .live r=>if s'=sz∧r.sz=sz∧i=0∧n≤r.els.length∧0≤m∧c<n+m.toNat∧(n+m.toNat)*bytes≤140737488355328∧H (.loc d)= .unused then
   some (.sl (.loc d) sz 0 (n+m.toNat),bL H (.loc d) (.live ⟨sz,r.els.take n++List.replicate m.toNat z⟩)) else none
  |_=>none
 |_,_=>none
noncomputable def qq (sz d:Nat) (z:List AV) (ps:List (Nat×AV)) (H:Hp):Option (AV×Hp):=
 (aQ z (ps.map fun p=>(p.1*sz,sz,p.2))).bind fun cs=>open Classical in if H (.loc d)= .unused∧cs.length=sz∧0<sz then some (.sl (.loc d) sz 0 1,bL H (.loc d) (.live ⟨sz,[cs]⟩)) else none
section
variable {K:Kx} {β:Lb→Option Nat} {env:Env} {H:Hp} {a:Act} {w:World}
theorem xC {x:AV} {l:Lb} {sz i n:Nat} (h:E3 x=some (l,sz,i,n)) {v:Value} (hv:RV w β H (Im K β H) x v) :
  l∈x.ar∧∃ad c,v= .slice ad n c∧n≤c∧c≤maxLen∧(live H l→z6 w β l sz i c ad):=by
 cases x<;>simp[E3] at h
 case sl=>
  obtain⟨rfl,rfl,rfl,rfl⟩:=h;simp only[RV] at hv;obtain⟨ad,c,h1,h2,h3,_,h5⟩:=hv;exact⟨by simp[AV.ar],ad,c,h1,h2,h3,h5⟩
 case slk=>
  obtain⟨rfl,rfl,rfl,rfl⟩:=h;simp only[RV] at hv;obtain⟨ad,h1,h2,h3,_,h5⟩:=hv;exact⟨by simp[AV.ar],ad,_,h1,h2,h3,h5⟩
theorem rE (hr:aM K β env H a w) {l:Lb} {r:Row} (hl:H l= .live r) {sz i n c:Nat} {ad:Option Addr} (iO:r.sz=sz) (hc:n≤c) (xe:z6 w β l sz i c ad) {news:List (List AV)} {vals:List Value}
  (hn:news.length≤n) (te:i+news.length≤r.els.length)
  (C3:∀cs∈news,cs.length=r.sz) (C4:∀cs∈news,∀q∈ah cs,H q≠ .unused) (hv:vals.length=news.length*r.sz)
  (h2:∀i j cs x,news[i]?=some cs→cs[j]?=some x→∃v,vals[i*r.sz+j]?=some v∧RV w β H (Im K β H) x v) (fm:∀v∈vals,v.oneCell'=true) :
  ∃w',(match ad with|some q=>storeCells q vals|none=>pure ()).run K.P w= .ok () w' ∧
   aM K β env (bL H l (.live ⟨sz,r.els.take i++news++r.els.drop (i+news.length)⟩)) a w':=by
 subst iO;rcases xe with rfl|⟨g,S,g1,rfl,g3,g4⟩
 ·have eg:news=[]:=List.eq_nil_of_length_eq_zero (by omega);subst eg;have Ap:vals=[]:=List.eq_nil_of_length_eq_zero (by simpa using hv);subst Ap
  have hH:bL H l (.live ⟨r.sz,r.els.take i++[]++r.els.drop (i+([]:List (List AV)).length)⟩)=H:=by
   funext q;by_cases e:q=l
   ·subst e;simp[hl]
   ·rw[aA _ _ e]
  rw[hH];refine⟨w,?_,hr⟩;cases ad<;>simp[storeCells]
 ·obtain⟨cur',w1,w2,_⟩:=py hr hl g1 (i:=i) (news:=news) (vals:=vals) te C3 C4 hv h2 fm;exact⟨_,w1,w2⟩
theorem vT {sz:Nat} {xv:Value} {news:List (List AV)} {vals:List Value} (h0:0<sz) (S:Src K β H w sz xv news vals) (k:Nat) (fm:∀cs∈news.take k,AV.pf cs):∀v∈vals.take (k*sz),v.oneCell'=true:=by
 intro v hv;obtain⟨q,hq⟩:=List.getElem?_of_mem hv;rw[List.getElem?_take] at hq;split at hq
 case isFalse=>simp at hq
 rename_i Ko;have EZ:q<news.length*sz:=by rw[←S.len];exact(List.getElem?_eq_some_iff.1 hq).1
 have E0:q/sz<news.length:=Nat.div_lt_of_lt_mul (by rw[Nat.mul_comm];exact EZ);have HU:q/sz<k:=Nat.div_lt_of_lt_mul (by rw[Nat.mul_comm];exact Ko);have Kn:q%sz<sz:=Nat.mod_lt _ h0;have tt:news[q/sz]?=some news[q/sz]:=List.getElem?_eq_getElem E0;have qo:=S.vS _ (List.getElem_mem E0);have zV:(news[q/sz])[q%sz]?=some ((news[q/sz])[q%sz]'(by omega)):=List.getElem?_eq_getElem (by omega)
 obtain⟨v',e1,e2⟩:=S.rv _ _ _ _ tt zV;have:q/sz*sz+q%sz=q:=by rw[Nat.mul_comm];exact Nat.div_add_mod q sz
 rw[this,hq] at e1;cases e1;refine RV.lF e2 (fm _ ?_ _ (List.getElem_mem _));refine List.mem_of_getElem? (i:=q/sz) ?_;rw[List.getElem?_take,if_pos HU];exact tt
theorem FT (hr : aM K β env H a w) {o : Oper} {c : Call} {d x : Operand} {d' x' : O} {dt xt e : TypeId} {sz : Nat} {dd : Option Nat} (hd : ∀ n,dd = some n → n < K.N) (ho : o.op = .call c) (hc : c.callee = .builtin .copy)
   (ha:c.args.toList=[d,x]) (xe:c.argTypes.toList=[dt,xt]) (E4:K.P.underlying dt=some (.slice e)) (hs:nV K.P e=some sz) (h0:sz≠0) (s6:co K.G d=some d') (hx:co K.G x=some x') {y:AV} {H':Hp}
   (hy:tv sz (ev env d') (ev env x') H=some (y,H')):iE K env a w o dd y H':=by
 have nA:c.args=#[d,x]:=by cases hh:c.args;simp_all
 have tr:c.argTypes=#[dt,xt]:=by cases hh:c.argTypes;simp_all
 have gb:(execOp a.eval o).run K.P w=((Builtin.copy_ #[dt,xt] o.type #[a.eval d,a.eval x]).run K.P w).andThen fun v w'=> .ok (.value v) w':=by
   simp[execOp,ho,resolve,hc,nA,tr,invoke,builtin]
 unfold tv at hy
 obtain⟨news,hn,hy⟩:=Option.bind_eq_some_iff.1 hy
 obtain⟨vals,S⟩:=nM hr hx (by omega) hn
 have Kp:=hr.ev s6
 obtain⟨⟨l,s0,i,n⟩,hp,hy⟩:=Option.bind_eq_some_iff.1 hy
 simp only at hy
 split at hy
 · simp at hy
 · rename_i fm
   have fm:∀cs∈news.take (Nat.min news.length n),AV.pf cs:=Classical.byContradiction fm
   have u0:=vT (by omega) S (Nat.min news.length n) fm
   obtain⟨xD,ad,c0,h1,h2,h3,h5⟩:=xC hp Kp
   split at hy
   · rename_i r hl
     split at hy
     · rename_i cP
       obtain⟨rfl,ld,te⟩:=cP
       simp only[Option.some.injEq,Prod.mk.injEq] at hy
       obtain⟨rfl,rfl⟩:=hy
       have hk:Nat.min news.length n≤news.length:=Nat.min_le_left _ _
       have zW:Nat.min news.length n≤n:=Nat.min_le_right _ _
       have HS:(news.take (Nat.min news.length n)).length=Nat.min news.length n:=by rw[List.length_take];omega
       obtain ⟨w',q1,q2⟩ := rE hr hl (sz := s0) (i := i) (n := n) (news := news.take (Nat.min news.length n)) (vals := vals.take (Nat.min news.length n * s0)) ld h2 (h5 ⟨r,hl⟩) (by omega) (by omega)
         (fun cs bx=>by rw[ld];exact S.vS cs (List.mem_of_mem_take bx)) (fun cs bx=>S.eB cs (List.mem_of_mem_take bx))
         (by rw[List.length_take,S.len,HS,ld,Nat.min_eq_left (Nat.mul_le_mul_right _ hk)])
         (fun i' j cs x0 dX iB => by
           rw[List.getElem?_take] at dX
           split at dX
           · rename_i bz
             obtain⟨v,e1,e2⟩:=S.rv i' j cs x0 dX iB
             refine⟨v,?_,e2⟩
             rw[ld,List.getElem?_take,if_pos]
             · exact e1
             · have C1:j<s0:=by
                 have:=S.vS cs (List.mem_of_getElem? dX)
                 have:=(List.getElem?_eq_some_iff.1 iB).1
                 omega
               have:=Nat.mul_le_mul_right s0 (show i'+1≤Nat.min news.length n by omega)
               rw[Nat.add_mul] at this
               omega
           · simp at dX)
         (fun v hv=>u0 v hv)
       have h4:=q2.step (Below.refl _ _) (d:=dd) (x:= .int .i64 ((Nat.min news.length n:Nat):Int)) (v:= .int .i64 ((Nat.min news.length n:Nat):Int)) hd (fun _=>by simp[RV]) (fun _=>by simp[AV.ar])
       refine⟨_,_,_,_,?_,.inl rfl,h4⟩
       rw[gb,h1]
       have k9:=S.xw _ hk w (.inl rfl)
       have HV:(Builtin.copy_ #[dt,xt] o.type #[.slice ad n c0,a.eval x]).run K.P w= .ok (.int .i64 ((Nat.min news.length n:Nat):Int)) w':=by
         cases ad with
         |none=>
           simp only[Sem.run_pure,Result.ok.injEq,true_and] at q1
           subst q1
           simp[Builtin.copy_,run_underlying E4,S.lenOf,cy hs,k9,goInt]
         |some q=>
           simp only at q1
           simp[Builtin.copy_,run_underlying E4,S.lenOf,cy hs,k9,goInt,q1]
       rw[HV];rfl
     · simp at hy
   · simp at hy
theorem my (z:Array Value) (zs:List AV) (n:Nat) (h:bo w β H (Im K β H) zs z.toList) (hz:0<z.size):∀i j cs x,(List.replicate n zs)[i]?=some cs→cs[j]?=some x →
  ∃v,(Builtin.zeroCells z n).toList[i*z.size+j]?=some v∧RV w β H (Im K β H) x v:=by
 intro i j cs x hi hj;rw[List.getElem?_replicate] at hi;split at hi
 ·rename_i bz;simp only[Option.some.injEq] at hi;subst hi;obtain⟨v,e1,e2⟩:=bo.get _ _ j x h hj;refine⟨v,?_,e2⟩
  have re:j<z.size:=by
   have:=(List.getElem?_eq_some_iff.1 e1).1;simpa using this
  have hb:i*z.size+j<n*z.size:=by
   have:=Nat.mul_le_mul_right z.size (show i+1≤n by omega);rw[Nat.add_mul] at this;omega
  have hm:(i*z.size+j)%z.size=j:=by rw[Nat.add_comm,Nat.add_mul_mod_self_right,Nat.mod_eq_of_lt re]
  have Js:z[j]?=some v:=by simpa using e1
  have hg:=Array.getElem?_eq_some_iff.1 Js;simp[Builtin.zeroCells,hb,hm,getElem!_def,Js]
 ·simp at hi
theorem vU (z:Array Value) (n:Nat) (hz:0<z.size) (h:∀v∈z.toList,v.oneCell'=true):∀v∈(Builtin.zeroCells z n).toList,v.oneCell'=true:=by
 intro v hv;simp only[Builtin.zeroCells,Array.toList_map,Array.toList_range,List.mem_map,List.mem_range] at hv;obtain⟨i,hi,rfl⟩:=hv;have bz:i%z.size<z.size:=Nat.mod_lt _ hz;refine h _ ?_;rw[show z[i%z.size]! =z[i%z.size] by simp[bz]];simp
theorem u6:∀(zs:List AV) (vs:List Value),AV.pf zs→bo w β H (Im K β H) zs vs→∀v∈vs,v.oneCell'=true
 |[],vs,_,h,v,hv=>by simp[bo] at h;subst h;simp at hv
 |x::r,vs,h1,h,v,hv=>by
  simp only[bo] at h;obtain⟨u,us,rfl,h2,h3⟩:=h;rcases List.mem_cons.1 hv with rfl|hv
  ·exact RV.lF h2 (h1 x (by simp))
  ·exact u6 r us (fun y hy=>h1 y (by simp[hy])) h3 v hv
theorem FU (hr : aM K β env H a w) {o : Oper} {c : Call} {x : Operand} {x' : O} {e : TypeId} {i : TypeInfo} {z : Value} {zs : List AV} {dd : Option Nat} (hd : ∀ n,dd = some n → n < K.N) (ho : o.op = .call c) (hc : c.callee = .builtin .clear)
   (ha:c.args.toList=[x]) (ht:c.argTypes[0]?.bind K.P.underlying=some (.slice e)) (hi:K.P.info? e=some i) (hz:i.zero=some z) (nL:z.cells.size=i.size) (h0:0<i.size)
   (nZ:kJ z.cells.toList=some zs) (hx:co K.G x=some x') {H':Hp} (hy:tw i.size zs (ev env x') H=some H'):iE K env a w o dd (.ei []) H':=by
 have nA:c.args=#[x]:=by cases hh:c.args;simp_all
 obtain⟨t,Ac,Ad⟩:=Option.bind_eq_some_iff.1 ht
 have gb:(execOp a.eval o).run K.P w=((Builtin.clear_ c.argTypes o.type #[a.eval x]).run K.P w).andThen fun v w'=> .ok (.value v) w':=by
   simp[execOp,ho,resolve,hc,nA,invoke,builtin]
 have xE:=hr.ev hx
 unfold tw at hy
 split at hy
 · simp at hy
 · rename_i fm
   have fm:AV.pf zs:=Classical.byContradiction fm
   obtain⟨⟨l,s0,j,n⟩,hp,hy⟩:=Option.bind_eq_some_iff.1 hy
   obtain⟨xD,ad,c0,h1,h2,h3,h5⟩:=xC hp xE
   simp only at hy
   split at hy
   · rename_i r hl
     split at hy
     · rename_i cP
       obtain⟨rfl,ld,te⟩:=cP
       simp only[Option.some.injEq] at hy
       subst hy
       have FV:zs.length=i.size:=by have:=bo.len _ _ (ib _ _ nZ w β H (Im K β H));simp at this;omega
       have Cb:=ib _ _ nZ w β H (Im K β H)
       obtain⟨w',q1,q2⟩:=rE hr hl (sz:=i.size) (i:=j) (n:=n) (news:=List.replicate n zs) (vals:=(Builtin.zeroCells z.cells n).toList) ld h2 (h5 ⟨r,hl⟩) (by simp) (by simpa using te)
         (fun cs bx=>by rw[List.eq_of_mem_replicate bx,ld,FV]) (fun cs bx q hq=>by rw[List.eq_of_mem_replicate bx,ic _ _ nZ] at hq;simp at hq)
         (by rw[dG,nL,ld];simp) (by rw[ld,←nL];exact my z.cells zs n Cb (by omega))
         (vU z.cells n (by omega) (u6 _ _ fm Cb))
       have h4:=q2.step (Below.refl _ _) (d:=dd) (x:= .ei []) (v:= .tuple #[]) hd (fun _=>by simp[RV,bo]) (fun _=>by simp[AV.ar,ah])
       refine⟨_,_,_,_,?_,.inl rfl,h4⟩
       rw[gb,h1]
       have HV:(Builtin.clear_ c.argTypes o.type #[.slice ad n c0]).run K.P w= .ok (.tuple #[]) w':=by
         cases ad with
         |none=>
           simp only[Sem.run_pure,Result.ok.injEq,true_and] at q1
           subst q1
           simp[Builtin.clear_,Ac,run_underlying Ad]
         |some q=>
           simp only at q1
           cases n with
           |zero=>
             have hw:w'=w:=by
               have EW:(Builtin.zeroCells z.cells 0).toList=[]:=by simp[Builtin.zeroCells]
               rw[EW] at q1
               simp[storeCells] at q1
               exact q1.symm
             rw[hw]
             simp[Builtin.clear_,Ac,run_underlying Ad]
           |succ n=>
             simp[Builtin.clear_,Ac,run_underlying Ad,zeroValue,typeInfo,hi,hz,q1]
       rw[HV];rfl
     · simp at hy
   · simp at hy
theorem FW (hr:aM K β env H a w) {o:Oper} {t e:TypeId} {n c:Operand} {n' c':O} {i:TypeInfo} {z:Value} {zs:List AV} {d:Nat} (hd:d<K.N) (ho:o.op= .makeSlice t n c) (ht:K.P.underlying t=some (.slice e))
  (hi:K.P.info? e=some i) (hz:i.zero=some z) (nL:z.cells.size=i.size) (h0:0<i.size) (hb:0<i.bytes) (nZ:kJ z.cells.toList=some zs) (hn:co K.G n=some n') (hc:co K.G c=some c') {y:AV} {H':Hp}
  (hy:rD i.size i.bytes d zs (ev env n') (ev env c') H=some (y,H')):iE K env a w o (some d) y H':=by
 have HW:=hr.ev hn;have C7:=hr.ev hc;unfold rD at hy;split at hy
 ·rename_i k m k' m' e1 e2;rw[e1] at HW;rw[e2] at C7;simp only[RV] at HW C7;split at hy
  ·rename_i cP;obtain⟨rfl,uV,Kq,hu⟩:=cP;simp only[Option.some.injEq,Prod.mk.injEq] at hy;obtain⟨rfl,rfl⟩:=hy;obtain⟨q,rfl⟩:=Int.eq_ofNat_of_zero_le uV;simp only[Int.toNat_natCast] at Kq ⊢;have LN:q≤q*i.bytes:=Nat.le_mul_of_pos_right _ hb
   have jx:=run_make (P:=K.P) w t e i z ht hi hz k k' (q:Int) (q:Int) uV (Int.le_refl _) (by
    have:((q*i.bytes:Nat):Int)≤140737488355328:=by omega
    rw[Int.natCast_mul,Int.mul_comm] at this;omega) (by omega)
   simp only[Int.toNat_natCast] at jx;have FV:zs.length=i.size:=by have:=bo.len _ _ (ib _ _ nZ w β H (Im K β H));simp at this;omega
   have Kr:madeCells z.cells (q*i.size)=Builtin.zeroCells z.cells q:=by rw[←nL];rfl
   have hex:(execOp a.eval o).run K.P w= .ok (.value (.slice (some ⟨w.heap.size,0,none⟩) q q)) (w.alloc (.cells (Builtin.zeroCells z.cells q) e)):=by
    rw[←Kr];simp[execOp,ho,HW,C7,jx,Result.andThen]
   have gw:=eb w (.cells (Builtin.zeroCells z.cells q) e);have dc:=qp hr (H':=bL H (.loc d) (.live ⟨i.size,List.replicate q zs⟩)) (lb:= .loc d) (b:=some w.heap.size) gw hu (by simp) (fun p hp ⟨r,h⟩=>by rw[aA _ _ hp] at h;exact⟨r,h⟩)
   have qn:nw (w.alloc (.cells (Builtin.zeroCells z.cells q) e)) (bL β (.loc d) (some w.heap.size)) (bL H (.loc d) (.live ⟨i.size,List.replicate q zs⟩))
     (Im K (bL β (.loc d) (some w.heap.size)) (bL H (.loc d) (.live ⟨i.size,List.replicate q zs⟩))) (.loc d) ⟨i.size,List.replicate q zs⟩:=by
    refine⟨h0,fun cs bx=>by rw[List.eq_of_mem_replicate bx,FV],?_⟩;simp only[gF];refine⟨Builtin.zeroCells z.cells q,e,q,heap_alloc_new w _,by rw[size_zeroCells,nL],by simp only[maxLen];omega,by simp,fun i' j cs x dX iB=> ?_⟩;obtain⟨v,q1,q2⟩:=my (H:=H) z.cells zs q (ib _ _ nZ w β H (Im K β H)) (by omega) i' j cs x dX iB;rw[nL] at q1;refine⟨v,by simpa using q1,RV.mono _ _ (dc _ (fun p hp=> ?_)) q2⟩
    rw[List.getElem?_replicate] at dX;split at dX
    ·simp only[Option.some.injEq] at dX;subst dX;have:=cR _ _ _ iB p hp;rw[ic _ _ nZ] at this;simp at this
    ·simp at dX
   have h3:=hr.k_ (.loc d) hu gw (some w.heap.size) (by simp) (fun cs bx p hp=>by rw[List.eq_of_mem_replicate bx,ic _ _ nZ] at hp;simp at hp) qn
   have h4:=h3.step (Below.refl _ _) (d:=some d) (x:= .sl (.loc d) i.size 0 q) (v:= .slice (some ⟨w.heap.size,0,none⟩) q q) (by simpa using hd)
    (fun _=>by
     simp only[RV];refine⟨_,_,rfl,Nat.le_refl _,by simp only[maxLen];omega,by simp,fun _=> .inr ⟨w.heap.size,q*i.size,by simp,by simp,?_,by simp⟩⟩;have hh:(w.alloc (.cells (Builtin.zeroCells z.cells q) e)).heap[w.heap.size]?=some (.cells (Builtin.zeroCells z.cells q) e):=heap_alloc_new w _;unfold iX;rw[hh];simp only[size_zeroCells,nL]) (by simp[AV.ar])
   exact⟨_,_,_,_,hex,.inl rfl,h4⟩
  ·simp at hy
 ·simp at hy
theorem FX (hr:aM K β env H a w) {o:Oper} {c:Call} {x:Operand} {x':O} {e:TypeId} (ho:o.op= .call c) (hc:c.callee= .builtin .cap) (ha:c.args.toList=[x])
  (ht:c.argTypes[0]?.bind K.P.underlying=some (.slice e)) (hx:co K.G x=some x') {R:Nat→Prop} (hy:Ar (ev env x')=some R):∃m,R m∧m≤maxLen∧aO K β H a w o (.int .i64 (m:Int)):=by
 have h:=hr.ev hx;obtain⟨t,Ac,Ad⟩:=Option.bind_eq_some_iff.1 ht;have nA:c.args=#[x]:=by cases hh:c.args;simp_all
 have sl:∀(ad:Option Addr) (n c':Nat),a.eval x= .slice ad n c'→(execOp a.eval o).run K.P w= .ok (.value (.int .i64 c')) w:=by
  intro ad n c' hv;simp[execOp,ho,resolve,hc,nA,hv,invoke,builtin,Builtin.cap_,Ac,run_underlying Ad,goInt]
 have fin:∀(ad:Option Addr) (n c':Nat),a.eval x= .slice ad n c'→aO K β H a w o (.int .i64 (c':Int)):=fun ad n c' hv=>aO.same (sl ad n c' hv) (by simp[RV]) (by simp[AV.ar])
 unfold Ar at hy;split at hy<;>simp only[Option.some.injEq,reduceCtorEq] at hy
 ·rename_i l sz i n m hs;rw[hs] at h;simp only[RV] at h;obtain⟨ad,h1,h2,h3,_⟩:=h;subst hy;exact⟨m,rfl,h3,fin _ _ _ h1⟩
 ·rename_i l sz i n hs;rw[hs] at h;simp only[RV] at h;obtain⟨ad,m,h1,h2,h3,_⟩:=h;subst hy;exact⟨m,h2,h3,fin _ _ _ h1⟩
 ·rename_i xs hs;rw[hs] at h;simp only[RV,eT] at h;obtain⟨ad,m,h1,h2,h3,_⟩:=h;subst hy;exact⟨m,h2,h3,fin _ _ _ h1⟩
 ·rename_i hs;rw[hs] at h;simp only[RV] at h;obtain⟨ad,h1⟩:=h;subst hy;exact⟨0,rfl,by simp[maxLen],fin _ _ _ h1⟩
theorem C8 (hr:aM K β env H a w) {o:Oper} {t e:TypeId} {x:Operand} {n s:Nat} {x':O} (ho:o.op= .slice t x none none none) (ht:K.P.underlying t=some (.array n e))
  (hs:nV K.P e=some s) (zS:s≠0) (hx:co K.G x=some x') {y:AV} (hy:aa (.qi x' n s) env=some y):aO K β H a w o y:=by
 have h:=hr.ev hx;simp only[aa] at hy;split at hy
 ·rename_i cs e1;rw[e1] at h;split at hy
  ·rename_i cP;obtain⟨hl,tf,fm⟩:=cP;simp only[Option.some.injEq] at hy;subst hy;simp only[RV] at h;obtain⟨b,o',h1,h2,h3,h4⟩:=h;have Fz:=jw (sz:=s) (by omega) n cs b o' hl fm h4;refine aO.same (v:= .slice (some ⟨b,o',none⟩) n n) ?_ ?_ (by simp[AV.ar])
   ·simp[execOp,ho,h1,Instr.sliceAt,run_underlying ht,Instr.sliceBounds,Instr.sureAddr,cy hs,Result.andThen,addr_add]
   ·simp only[RV,eT];refine⟨some ⟨b,o',none⟩,n,by rw[Fz.2],by rw[Fz.2];exact Nat.le_refl _,tf,.inr ⟨b,o',s,rfl,h2,h3,by omega,Fz.1⟩⟩
  ·simp at hy
 ·simp at hy
theorem tz {w:World} {β:Lb→Option Nat} {H:Hp} {I I':Nat→Prop} (hk:gE w w I I'):∀{y:IV} {v:Value},(∀cs,y≠ .agg cs)→RV w β H I y.b7 v→eT w I' y v:=by
 intro y v hy h;cases y with
 |agg cs=>exact absurd rfl (hy cs)
 |list xs=>simp only[IV.b7,RV] at h;exact eT.mono hk _ _ h
 |bool b=>simpa[IV.b7,RV,eT] using h
 |int k n=>simpa[IV.b7,RV,eT] using h
 |str s=>simpa[IV.b7,RV,eT] using h
 |ifc t=>simp only[IV.b7,RV] at h;obtain⟨u,rfl,_⟩:=h;exact⟨u,rfl⟩
theorem jb {w:World} {I:Nat→Prop}:∀(cs:List IV) (b o:Nat),(∀j z,cs[j]?=some z→∃v,w.cell? ⟨b,o+j,none⟩=some v∧eT w I z v)→bH w I cs b o
 |[],b,o,_=>by simp[bH]
 |z::r,b,o,h=>by
  simp only[bH];refine⟨by simpa using h 0 z (by simp),jb r b (o+1) (fun j y hj=> ?_)⟩;have:=h (j+1) y (by simpa using hj)
  rwa[show o+(j+1)=o+1+j by omega] at this
theorem jc {w:World} {I:Nat→Prop} {sz:Nat}:∀(xs:List IV) (b o:Nat),(∀k y,xs[k]?=some y→f_ w I y b (o+k*sz) sz)→bN w I xs b o sz
 |[],b,o,_=>by simp[bN]
 |y::r,b,o,h=>by
  simp only[bN];refine⟨by simpa using h 0 y (by simp),jc r b (o+sz) (fun k z hk=> ?_)⟩;have:=h (k+1) z (by simpa using hk)
  rwa[Nat.add_mul,Nat.one_mul,show o+(k*sz+sz)=o+sz+k*sz by omega] at this
theorem C9 (hr:aM K β env H a w) {o:Oper} {c:Call} {s x:Operand} {s' x':O} {st xt e:TypeId} {i:TypeInfo} {z:Value} {dx:TypeDesc} (ho:o.op= .call c) (hc:c.callee= .builtin .append)
  (ha:c.args.toList=[s,x]) (xe:c.argTypes.toList=[st,xt]) (fW:K.P.underlying st=some (.slice e)) (hi:K.P.info? e=some i) (hz:i.zero=some z) (nL:z.cells.size=i.size) (h0:0<i.size)
  (rh:K.P.underlying xt=some dx) (s6:dx= .string∨∃e2,dx= .slice e2) (hs:co K.G s=some s') (hx:co K.G x=some x') {y:AV}
  (hy:aa (.nU s' x' i.size i.bytes) env=some y):aO K β H a w o y:=by
 have nA:c.args=#[s,x]:=by cases hh:c.args;simp_all
 have tr:c.argTypes=#[st,xt]:=by cases hh:c.argTypes;simp_all
 have gb:(execOp a.eval o).run K.P w=((Builtin.append_ #[st,xt] o.type #[a.eval s,a.eval x]).run K.P w).andThen fun v w'=> .ok (.value v) w':=by
  simp[execOp,ho,resolve,hc,nA,tr,invoke,builtin]
 have mv:=hr.ev hs
 have Ci:∀(news:List (List AV)) (vals:List Value),news.length=0→Src K β H w i.size (a.eval x) news vals→ev env s'= .nil0→aO K β H a w o (.list []):=by
  intro news vals uV S e1;rw[e1] at mv;simp only[RV] at mv;obtain⟨ad,mv⟩:=mv;have eg:news=[]:=List.eq_nil_of_length_eq_zero uV;subst eg;have Ap:vals=[]:=List.eq_nil_of_length_eq_zero (by simpa using S.len);subst Ap;have mw:=fg (ty:=o.type) fW hi rh s6 ad 0 0 0 (a.eval x) #[] S.lenOf (S.cells w (.inl rfl)) (by omega)
  refine aO.same (v:= .slice ad 0 0) ?_ ?_ (by simp[AV.ar])
  ·rw[gb,mv,mw];cases ad<;>simp[storeCells]
  ·simp only[RV,eT];exact⟨ad,0,rfl,Nat.le_refl _,by simp[maxLen],.inl rfl⟩
 simp only[aa] at hy;split at hy
 ·rename_i xs e1 e2;split at hy
  ·rename_i cP;obtain⟨nz,FY,hb,rz,_⟩:=cP;simp only[Option.some.injEq] at hy;subst hy;have hn:jU i.size (ev env x') H=some (xs.map fun y=>y.cells.map IV.b7):=by rw[e2];simp[jU,nz]
   obtain⟨vals,S⟩:=nM hr hx h0 hn;by_cases uV:xs.length=0
   ·have:xs=[]:=List.eq_nil_of_length_eq_zero uV;subst this;exact Ci _ _ (by simp) S e1
   ·rw[e1] at mv;simp only[RV] at mv;obtain⟨ad,mv⟩:=mv;have tq:(xs.map fun y=>y.cells.map IV.b7).length=xs.length:=List.length_map _
    have rC:(Builtin.firstCells i.size 0 (.slice ad 0 0)).run K.P w.drew= .ok #[] w.drew:=by
     cases ad with
     |none=>simp[Builtin.firstCells]
     |some q=>simp[Builtin.firstCells,loadCells,loadCellsFrom]
    have hlen:=S.lenOf;have k9:=S.cells w.drew (.inr rfl);rw[tq] at hlen k9;have mw:=eD (ty:=o.type) fW hi hz rh s6 ad 0 0 xs.length (a.eval x) vals.toArray #[] hlen k9 rC (by omega) (by simpa using hb) rz
    have mn:=grownCap_ge w (0+xs.length) 0 e
    have rb:=grownCap_le_maxLen w (0+xs.length) 0 e (by
     have:=Nat.le_mul_of_pos_right xs.length rz;simp only[maxLen];omega)
    have gw:=(mr w).trans (eb w.drew (.cells (#[]++vals.toArray++Builtin.zeroCells z.cells (grownCap w (0+xs.length) 0 e - (0+xs.length))) e))
    refine⟨.slice (some ⟨w.heap.size,0,none⟩) (0+xs.length) (grownCap w (0+xs.length) 0 e),_,by rw[gb,mv,mw];rfl,gw,?_,by simp[AV.ar]⟩;simp only[RV,eT];refine⟨_,_,by rw[Nat.zero_add],by omega,rb,.inr ⟨w.heap.size,0,i.size,rfl,hr.fresh,?_,h0,?_⟩⟩
    ·have hh:=heap_alloc_new w.drew (.cells (#[]++vals.toArray++Builtin.zeroCells z.cells (grownCap w (0+xs.length) 0 e - (0+xs.length))) e)
     exact(Array.getElem?_eq_some_iff.1 hh).1
    ·refine jc _ _ _ (fun k y As=> ?_);rw[fB];have qo:y.cells.length=i.size:=nz y (List.mem_of_getElem? As);refine⟨qo.symm,jb _ _ _ (fun j q hq=> ?_)⟩;obtain⟨v,q1,q2⟩:=S.rv k j (y.cells.map IV.b7) q.b7 (by simp[As]) (by simp[hq])
     refine⟨v,?_,eT.mono (jT.pr gw β H (Im K β H) []).togE _ _ (tz (I:=Im K β H) (w:=w) ⟨fun k hk hs=>⟨hk,hs,rfl⟩⟩ (FY y (List.mem_of_getElem? As) q (List.mem_of_getElem? hq)) q2)⟩
     have hh:(w.drew.alloc (.cells (#[]++vals.toArray++Builtin.zeroCells z.cells (grownCap w (0+xs.length) 0 e - (0+xs.length))) e)).heap[w.heap.size]?=some (.cells (#[]++vals.toArray++Builtin.zeroCells z.cells (grownCap w (0+xs.length) 0 e - (0+xs.length))) e):=heap_alloc_new w.drew _
     rw[cell_of_row _ _ _ _ _ _ hh];have bz:k*i.size+j<vals.length:=(List.getElem?_eq_some_iff.1 q1).1;simp only[Nat.zero_add];rw[Array.getElem?_append_left (by simpa using bz)];simpa using q1
  ·simp at hy
 ·rename_i e1 e2;split at hy
  ·simp only[Option.some.injEq] at hy;subst hy;have hn:jU i.size (ev env x') H=some []:=by rw[e2];simp[jU]
   obtain⟨vals,S⟩:=nM hr hx h0 hn;exact Ci _ _ rfl S e1
  ·exact absurd h0 ‹_›
 ·simp at hy
theorem mz {P:Program} {w:World} {st xt ty e:TypeId} {i:TypeInfo} {z:Value} {k0:IntKind} (hu:P.underlying st=some (.slice e)) (hi:P.info? e=some i) (hz:i.zero=some z) (hx:P.underlying xt=some (.int k0))
  (ad:Option Addr) (n c m:Nat) (k:IntKind) (olds:Array Value) (h0:0<m*i.size)
  (ho:(Builtin.firstCells i.size n (.slice ad n c)).run P w.drew= .ok olds w.drew) (CY:c<n+m) (hb:(n+m)*i.bytes≤140737488355328) (rz:0<i.bytes) :
  (Builtin.append_ #[st,xt] ty #[.slice ad n c,.int k (m:Int)]).run P w= .ok (.slice (some ⟨w.heap.size,0,none⟩) (n+m) (grownCap w (n+m) c e))
   (w.drew.alloc (.cells (olds++Builtin.zeroCells z.cells m++Builtin.zeroCells z.cells (grownCap w (n+m) c e - (n+m))) e)):=by
 have hn:¬(n+m≤c):=by omega
 have Km:n+m≤(n+m)*i.bytes:=Nat.le_mul_of_pos_right _ rz;have CZ:¬(9223372036854775807<((n:Int)+(m:Int))):=by omega
 have C0:¬(281474976710656<Builtin.nextslicecap (n+m) c*i.bytes):=by have:=growslice_fits CY hb;omega
 have hw:IntKind.i64.wrap (m:Int)=m:=by rw[IntKind.wrap_i64];omega
 have At:¬((m:Int)<0):=by omega
 have HX:¬(281474976710656<(m:Int)*(i.bytes:Int)):=by
  rw[←Int.natCast_mul];have:m*i.bytes≤(n+m)*i.bytes:=Nat.mul_le_mul_right _ (by omega);omega
 have Ae:¬(m*i.size=0):=by omega
 have HY:m≠0:=fun h=>Ae (by simp[h])
 have HZ:i.size≠0:=fun h=>Ae (by simp[h])
 simp[Builtin.append_,run_underlying hu,run_underlying hx,sizeOf,typeInfo,zeroValue,hi,hz,asInt,asIntOf,hw,hn,At,HY,HZ,CZ,C0,HX,Question.forced,ho,newRow,grownCap];intro h;exact absurd h Ae
theorem C' (hr : aM K β env H a w) {o : Oper} {c : Call} {s x : Operand} {s' x' : O} {st xt e : TypeId} {i : TypeInfo} {z : Value} {zs : List AV} {k0 : IntKind} {d : Nat} (hd : d < K.N) (ho : o.op = .call c) (hc : c.callee = .builtin .append)
   (ha:c.args.toList=[s,x]) (xe:c.argTypes.toList=[st,xt]) (fW:K.P.underlying st=some (.slice e)) (hi:K.P.info? e=some i) (hz:i.zero=some z) (nL:z.cells.size=i.size) (h0:0<i.size) (rz:0<i.bytes)
   (rh:K.P.underlying xt=some (.int k0)) (nZ:kJ z.cells.toList=some zs) (hs:co K.G s=some s') (hx:co K.G x=some x') {y:AV} {H':Hp}
   (hy:u5 i.size i.bytes d zs (ev env s') (ev env x') H=some (y,H')):iE K env a w o (some d) y H':=by
 have nA:c.args=#[s,x]:=by cases hh:c.args;simp_all
 have tr:c.argTypes=#[st,xt]:=by cases hh:c.argTypes;simp_all
 have gb:(execOp a.eval o).run K.P w=((Builtin.append_ #[st,xt] o.type #[a.eval s,a.eval x]).run K.P w).andThen fun v w'=> .ok (.value v) w':=by
   simp[execOp,ho,resolve,hc,nA,tr,invoke,builtin]
 have mv:=hr.ev hs
 have xE:=hr.ev hx
 unfold u5 at hy
 split at hy
 · rename_i l s0 i0 n c0 k m e1 e2
   rw[e1] at mv;rw[e2] at xE
   simp only[RV] at mv xE
   obtain⟨ad,h1,h2,h3,h4,h5⟩:=mv
   split at hy
   · rename_i r hl
     split at hy
     · rename_i cP
       obtain⟨rfl,ld,rfl,tq,uV,CY,hb,hu⟩:=cP
       obtain⟨q,rfl⟩:=Int.eq_ofNat_of_zero_le uV
       simp only[Int.toNat_natCast] at CY hb hy
       simp only[Option.some.injEq,Prod.mk.injEq] at hy
       obtain⟨rfl,rfl⟩:=hy
       have E1:(r.els.take n).length=n:=by simp;omega
       have xx:∀cs∈r.els.take n,cs.length=i.size:=fun cs bx=>by rw[←ld];exact(hr.rows l r hl).2.1 cs (List.mem_of_mem_take bx)
       have Cg:∀cs∈r.els.take n,∀q∈ah cs,H q≠ .unused:=fun cs bx=>hr.cB l r hl cs (List.mem_of_mem_take bx)
       have FV:zs.length=i.size:=by have:=bo.len _ _ (ib _ _ nZ w β H (Im K β H));simp at this;omega
       have Cb:=ib _ _ nZ w β H (Im K β H)
       have mn:=grownCap_ge w (n+q) c0 e
       have rb:=grownCap_le_maxLen w (n+q) c0 e (by
         have:=Nat.le_mul_of_pos_right (n+q) rz
         simp only[maxLen];omega)
       have olds:∃olds:List Value,olds.length=n*i.size∧(∀i' j cs x0,(r.els.take n)[i']?=some cs→cs[j]?=some x0→∃v,olds[i'*i.size+j]?=some v∧RV w β H (Im K β H) x0 v) ∧
           (Builtin.firstCells i.size n (.slice ad n c0)).run K.P w.drew= .ok olds.toArray w.drew:=by
         by_cases Aq:c0=0
         · have mm:n=0:=by omega
           subst mm
           refine⟨[],by simp,by simp,?_⟩
           cases ad with
           |none=>simp[Builtin.firstCells]
           |some q=>simp[Builtin.firstCells,loadCells,loadCellsFrom]
         · rcases h5 ⟨r,hl⟩ with h6|⟨g,Sz,g1,rfl,g3,g4⟩
           · exact absurd h6 Aq
           · obtain⟨cur,e0,cap,k1,k2,k3,k4,k5⟩:=(hr.rows l r hl).block g1
             rw[ld] at k2
             have FP:n*i.size≤cur.size:=by rw[k2];exact Nat.mul_le_mul_right _ (by omega)
             have kR:(cur.toList.take (n*i.size)).length=n*i.size:=by simp;omega
             refine⟨cur.toList.take (n*i.size),kR,?_,?_⟩
             · intro i' j cs x0 dX iB
               rw[List.getElem?_take] at dX
               split at dX
               · rename_i bz
                 obtain⟨v,q1,q2⟩:=k5 i' j cs x0 dX iB
                 rw[ld] at q1
                 refine⟨v,?_,q2⟩
                 have C1:j<i.size:=by
                   have:=(hr.rows l r hl).2.1 cs (List.mem_of_getElem? dX)
                   have:=(List.getElem?_eq_some_iff.1 iB).1
                   omega
                 have la:i'*i.size+j<n*i.size:=by
                   have:=Nat.mul_le_mul_right i.size (show i'+1≤n by omega)
                   rw[Nat.add_mul] at this;omega
                 rw[List.getElem?_take,if_pos la]
                 simpa using q1
               · simp at dX
             · exact run_firstCells_some (P:=K.P) w.drew i.size n ⟨g,0*i.size,none⟩ n c0 _ kR (fun j v hj=>by
                 rw[addr_add,Nat.zero_mul,Nat.zero_add]
                 have:w.cell? ⟨g,j,none⟩=some v:=by
                   rw[cell_of_row w g _ cur e0 (0,0) k1]
                   rw[List.getElem?_take] at hj
                   split at hj
                   · simpa using hj
                   · simp at hj
                 simpa using this)
       obtain⟨olds,C6,E2,HT⟩:=olds
       have He:0<q*i.size:=Nat.mul_pos (by omega) h0
       have mw:=mz (ty:=o.type) fW hi hz rh ad n c0 q k olds.toArray He HT CY hb rz
       have Jt:(List.replicate q zs).length=q:=List.length_replicate
       have:=gf hr hr (fun _ h=>h) (fun _ h=>h) (o:=o) hd (e:=e) (n:=n) (m:=q) (A:=r.els.take n) (news:=List.replicate q zs) (olds:=olds) (vals:=(Builtin.zeroCells z.cells q).toList)
         (rest:=(Builtin.zeroCells z.cells (grownCap w (n+q) c0 e - (n+q))).toList) h0 hu hu E1 Jt xx (fun cs bx=>by rw[List.eq_of_mem_replicate bx,FV]) Cg
         (fun cs bx p hp=>by rw[List.eq_of_mem_replicate bx,ic _ _ nZ] at hp;simp at hp) C6 (by rw[dG,nL,Jt]) E2 (by rw[←nL];exact my z.cells zs q Cb (by omega))
         (cap:=grownCap w (n+q) c0 e) (by
           have h9:=n5 (sz:=i.size) mn
           simp only[List.length_append,C6,dG,nL]
           rw[←Nat.add_mul]
           exact h9) rb mn (by
           rw[gb,h1,xE,mw]
           exact n4 _ _ (by simp))
       exact this
     · simp at hy
   · simp at hy
 · simp at hy
theorem vV {x:AV} (h:x.dk=true):∀l∈ah x.cells,l∈x.ar:=by
 intro l hl;cases x<;>simp[AV.cells,ah] at hl<;>simp[AV.ar] at hl ⊢<;>exact hl
theorem iF (l m:List AV):ah (l++m)=ah l++ah m:=by
 induction l with
 |nil=>rfl
 |cons x r ih=>simp[ah,ih]
theorem pz:∀(qs:List (Nat×Nat×AV)) (c c':List AV),aQ c qs=some c'→∀l∈ah c',l∈ah c∨∃q∈qs,l∈q.2.2.ar
 |[],c,c',h,l,hl=>by simp[aQ] at h;subst h;exact .inl hl
 | (off,sz,x) :: qs,c,c',h,l,hl => by
   simp only[aQ] at h
   split at h
   · rename_i hc
     rcases pz qs _ _ h l hl with h1|⟨q,h1,h2⟩
     · rw[iF,iF,List.mem_append,List.mem_append] at h1
       rcases h1 with(h1|h1)|h1
       · left
         have:=iF (c.take off) (c.drop off)
         rw[List.take_append_drop] at this
         rw[this,List.mem_append];exact .inl h1
       · exact .inr ⟨(off,sz,x),by simp,vV hc.1 l h1⟩
       · left
         have:=iF (c.take (off+sz)) (c.drop (off+sz))
         rw[List.take_append_drop] at this
         rw[this,List.mem_append];exact .inr h1
     · exact .inr ⟨q,by simp[h1],h2⟩
   · simp at h
theorem Au (hr:aM K β env H a w) {o:Oper} {t e:TypeId} {ps:Array (Nat×Operand)} {i:TypeInfo} {z:Value} {zs:List AV} {xs:List O} {d:Nat} (hd:d<K.N) (ho:o.op= .buildSlice t 1 ps)
  (ht:K.P.underlying t=some (.slice e)) (hi:K.P.info? e=some i) (hz:i.zero=some z) (nL:z.cells.size=i.size) (h0:0<i.size) (hn:1*i.size≤2^24)
  (nZ:kJ z.cells.toList=some zs) (xb:cos K.G (ps.toList.map (·.2))=some xs) {y:AV} {H':Hp}
  (hy:qq i.size d zs (((ps.toList.map (·.1)).zip xs).map fun p=>(p.1,ev env p.2)) H=some (y,H')):iE K env a w o (some d) y H':=by
 unfold qq at hy;obtain⟨cs,h1,hy⟩:=Option.bind_eq_some_iff.1 hy;split at hy
 ·rename_i cP;obtain⟨hu,hlen,_⟩:=cP;simp only[Option.some.injEq,Prod.mk.injEq] at hy;obtain⟨rfl,rfl⟩:=hy;have EW:=ib _ _ nZ w β H (Im K β H);have hzero:=nY z.cells zs w β H (Im K β H) EW (by omega) 1
  have hm:∀l∈ah cs,H l≠ .unused:=by
   intro l hl;rcases pz _ _ _ h1 l hl with h2|⟨q,h2,h3⟩
   ·rw[ic _ _ nZ] at h2;simp at h2
   ·simp only[List.map_map,List.mem_map,Function.comp] at h2;obtain⟨p,hp,rfl⟩:=h2;simp only at h3;have Cj:p.2∈xs:=(List.of_mem_zip (a:=p.1) (b:=p.2) hp).2;obtain⟨k,hk⟩:=List.getElem?_of_mem Cj;exact iZ hr _ _ xb l (cR _ k _ (by rw[List.getElem?_map,hk];rfl) l h3)
  have xq:xs.length=ps.toList.length:=by
   have:=bo.len _ _ (iQ hr _ _ xb);simp at this;simpa using this.symm
  have dN:=k8 hr (fun j=>some (j*i.size,i.size)) ps.toList xs (((ps.toList.map (·.1)).zip xs).map fun p=>(p.1*i.size,i.size,p.2)) xb
   (by simp at xq;simp[xq])
   (by
    intro j p x q g1 g2 g3;simp only[List.getElem?_map,List.getElem?_zip_eq_some,Option.map_eq_some_iff] at g3;obtain⟨⟨u,v⟩,⟨⟨p',e1,e2⟩,e3⟩,rfl⟩:=g3;simp only at e1 e2 e3;rw[g1] at e1;cases e1;rw[g2] at e3;cases e3;exact⟨rfl,by simp[e2]⟩)
  obtain⟨cur',f1,f2⟩:=lH (fun j=>some (j*i.size,i.size)) _ _ _ cs _ hzero (by simpa[List.map_map,Function.comp_def] using h1) dN
  have rr:Instr.fill (fun j=>some (j*i.size,i.size)) ((Array.range (1*i.size)).map (z.cells[·%z.cells.size]!)) (ps.toList.map fun p=>(p.1,a.eval p.2))=some cur':=by
   rw[←nL];rw[←nL] at f1;exact f1
  have CQ:¬1*i.size=0:=by omega
  have FB:=cy (P:=K.P) (t:=e) (s:=i.size) (by simp[nV,hi]) w
  have jx:(execOp a.eval o).run K.P w= .ok (.value (.slice (some ⟨w.heap.size,0,none⟩) 1 1)) (w.alloc (.cells cur' e)):=by
   simp only[execOp,ho,Instr.buildSlice,Sem.run_bind,run_underlying ht,Result.andThen_ok,FB,Sem.run_ite,CQ,if_false,zeroValue,typeInfo,run_program,hi,hz,
    Array.toList_map,show ¬1*i.size>2^24 by omega,Sem.run_pure,Result.andThen,rr]
   simp[newRow,rr]
  have kP:cur'.size=i.size:=by have:=bo.len _ _ f2;simp at this;omega
  have gw:=eb w (.cells cur' e);have dc:=qp hr (H':=bL H (.loc d) (.live ⟨i.size,[cs]⟩)) (lb:= .loc d) (b:=some w.heap.size) gw hu (by simp) (fun p hp ⟨r,h⟩=>by rw[aA _ _ hp] at h;exact⟨r,h⟩)
  have qn:nw (w.alloc (.cells cur' e)) (bL β (.loc d) (some w.heap.size)) (bL H (.loc d) (.live ⟨i.size,[cs]⟩))
    (Im K (bL β (.loc d) (some w.heap.size)) (bL H (.loc d) (.live ⟨i.size,[cs]⟩))) (.loc d) ⟨i.size,[cs]⟩:=by
   refine⟨h0,by simp[hlen],?_⟩;simp only[gF];refine⟨cur',e,1,heap_alloc_new w _,by simp[kP],by simp[maxLen],by simp,fun i' j kK x dX iB=> ?_⟩;cases i' with
   |succ i'=>simp at dX
   |zero=>
    simp at dX;subst dX;obtain⟨v,k1,k2⟩:=bo.get _ _ _ _ f2 iB;exact⟨v,by simpa using k1,RV.mono _ _ (dc _ (fun l hl=>hm l (cR _ _ _ iB l hl))) k2⟩
  have h3:=hr.k_ (.loc d) hu gw (some w.heap.size) (by simp) (by simpa using hm) qn
  have h4:=h3.step (Below.refl _ _) (d:=some d) (x:= .sl (.loc d) i.size 0 1) (v:= .slice (some ⟨w.heap.size,0,none⟩) 1 1) (by simpa using hd)
   (fun _=>by
    simp only[RV];refine⟨_,1,rfl,Nat.le_refl _,by simp[maxLen],by simp,fun _=> .inr ⟨w.heap.size,i.size,by simp,by simp,?_,by simp⟩⟩;have hh:(w.alloc (.cells cur' e)).heap[w.heap.size]?=some (.cells cur' e):=heap_alloc_new w _;unfold iX;rw[hh];simp only[kP]) (by simp[AV.ar])
  exact⟨_,_,_,_,jx,.inl rfl,h4⟩
 ·simp at hy
end
end Go.Am
