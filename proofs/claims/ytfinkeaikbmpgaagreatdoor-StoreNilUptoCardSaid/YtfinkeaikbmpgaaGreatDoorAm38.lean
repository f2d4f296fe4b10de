import Derived.Test.YtfinkeaikbmpgaaGreatDoorAm11
import Derived.Laws.MakeOwn
set_option linter.unusedSimpArgs false
set_option linter.unusedVariables false
set_option linter.unnecessarySimpa false
set_option linter.defProp false
/- THE ABSTRACT MACHINE, part 38: copies, clears, rows of noughts, room. -/
namespace Go.Am
open Go Go.RowKit
def qV:AV→Option (Lb×Nat×Nat×Nat)
 | .sl l sz i n=>some (l,sz,i,n)
 | .slk l sz i n _=>some (l,sz,i,n)
 |_=>none
def mG:AV→Option (Nat→Prop)
 | .slk _ _ _ _ c=>some fun m=>m=c
 | .sl _ _ _ n=>some fun m=>n≤m
 | .list xs=>some fun m=>xs.length≤m
 | .nil0=>some fun m=>m=0
 |_=>none
open Classical in
noncomputable def iN (sz:Nat) (d x:AV) (H:Hp):Option (AV×Hp):=
 (eS sz x H).bind fun news=>(qV d).bind fun p=>if ¬(∀cs∈news.take (Nat.min news.length p.2.2.2),AV.gq cs) then none else
  match H p.1 with
   | .live r=>if p.2.1=sz∧r.sz=sz∧p.2.2.1+p.2.2.2≤r.aQ.length then
    some (.int .i64 ((Nat.min news.length p.2.2.2:Nat):Int),aD H p.1 (.live ⟨sz,r.aQ.take p.2.2.1++news.take (Nat.min news.length p.2.2.2)++r.aQ.drop (p.2.2.1+(news.take (Nat.min news.length p.2.2.2)).length)⟩)) else none
   |_=>none
open Classical in
noncomputable def iO (sz:Nat) (z:List AV) (x:AV) (H:Hp):Option Hp:=
 if ¬AV.gq z then none else(qV x).bind fun p=>match H p.1 with
  | .live r=>if p.2.1=sz∧r.sz=sz∧p.2.2.1+p.2.2.2≤r.aQ.length then
   some (aD H p.1 (.live ⟨sz,r.aQ.take p.2.2.1++List.replicate p.2.2.2 z++r.aQ.drop (p.2.2.1+(List.replicate p.2.2.2 z).length)⟩)) else none
  |_=>none
open Classical in
noncomputable def jR (sz bytes d:Nat) (z:List AV) (n c:AV) (H:Hp):Option (AV×Hp):=
 match n,c with
 | .int _ m,.int _ m'=>if m=m'∧0≤m∧m.toNat*bytes≤140737488355328∧H (.loc d)= .unused then some (.sl (.loc d) sz 0 m.toNat,aD H (.loc d) (.live ⟨sz,List.replicate m.toNat z⟩)) else none
 |_,_=>none
open Classical in
noncomputable def jm (sz bytes d:Nat) (z:List AV) (s n:AV) (H:Hp):Option (AV×Hp):=
 match s,n with
 | .slk l s' i n c,.int _ m=>match H l with
  | .live r=>if s'=sz∧r.sz=sz∧i=0∧n≤r.aQ.length∧0≤m∧c<n+m.toNat∧(n+m.toNat)*bytes≤140737488355328∧H (.loc d)= .unused then
   some (.sl (.loc d) sz 0 (n+m.toNat),aD H (.loc d) (.live ⟨sz,r.aQ.take n++List.replicate m.toNat z⟩)) else none
  |_=>none
 |_,_=>none
noncomputable def iP (sz d:Nat) (z:List AV) (ps:List (Nat×AV)) (H:Hp):Option (AV×Hp):=
 (bI z (ps.map fun p=>(p.1*sz,sz,p.2))).bind fun cs=>open Classical in if H (.loc d)= .unused∧cs.length=sz∧0<sz then some (.sl (.loc d) sz 0 1,aD H (.loc d) (.live ⟨sz,[cs]⟩)) else none
section
variable {K:Kx} {β:Lb→Option Nat} {env:Env} {H:Hp} {a:Act} {w:World}
theorem kH {x:AV} {l:Lb} {sz i n:Nat} (h:qV x=some (l,sz,i,n)) {v:Value} (hv:RV w β H (Im K β H) x v) :
  l∈x.aw∧∃ad c,v= .slice ad n c∧n≤c∧c≤maxLen∧(live H l→l_ w β l sz i c ad):=by
 cases x<;>simp[qV] at h
 case sl=>
  obtain⟨rfl,rfl,rfl,rfl⟩:=h;simp only[RV] at hv;obtain⟨ad,c,h1,h2,h3,_,h5⟩:=hv;exact⟨by simp[AV.aw],ad,c,h1,h2,h3,h5⟩
 case slk=>
  obtain⟨rfl,rfl,rfl,rfl⟩:=h;simp only[RV] at hv;obtain⟨ad,h1,h2,h3,_,h5⟩:=hv;exact⟨by simp[AV.aw],ad,_,h1,h2,h3,h5⟩
theorem gX (hr:aj K β env H a w) {l:Lb} {r:Row} (hl:H l= .live r) {sz i n c:Nat} {ad:Option Addr} (cV:r.sz=sz) (hc:n≤c) (o3:l_ w β l sz i c ad) {news:List (List AV)} {vals:List Value}
  (hn:news.length≤n) (jI:i+news.length≤r.aQ.length)
  (o2:∀cs∈news,cs.length=r.sz) (rQ:∀cs∈news,∀q∈ak cs,H q≠ .unused) (hv:vals.length=news.length*r.sz)
  (h2:∀i j cs x,news[i]?=some cs→cs[j]?=some x→∃v,vals[i*r.sz+j]?=some v∧RV w β H (Im K β H) x v) (bE:∀v∈vals,v.oneCell'=true) :
  ∃w',(match ad with|some q=>storeCells q vals|none=>pure ()).run K.P w= .ok () w' ∧
   aj K β env (aD H l (.live ⟨sz,r.aQ.take i++news++r.aQ.drop (i+news.length)⟩)) a w':=by
 subst cV;rcases o3 with rfl|⟨g,S,g1,rfl,g3,g4⟩
 ·have dm:news=[]:=List.eq_nil_of_length_eq_zero (by omega);subst dm;have mE:vals=[]:=List.eq_nil_of_length_eq_zero (by simpa using hv);subst mE
  have hH:aD H l (.live ⟨r.sz,r.aQ.take i++[]++r.aQ.drop (i+([]:List (List AV)).length)⟩)=H:=by
   funext q;by_cases e:q=l
   ·subst e;simp[hl]
   ·rw[ah _ _ e]
  rw[hH];refine⟨w,?_,hr⟩;cases ad<;>simp[storeCells]
 ·obtain⟨cur',w1,w2,_⟩:=fR hr hl g1 (i:=i) (news:=news) (vals:=vals) jI o2 rQ hv h2 bE;exact⟨_,w1,w2⟩
theorem jS {sz:Nat} {xv:Value} {news:List (List AV)} {vals:List Value} (h0:0<sz) (S:Src K β H w sz xv news vals) (k:Nat) (bE:∀cs∈news.take k,AV.gq cs):∀v∈vals.take (k*sz),v.oneCell'=true:=by
 intro v hv;obtain⟨q,hq⟩:=List.getElem?_of_mem hv;rw[List.getElem?_take] at hq;split at hq
 case isFalse=>simp at hq
 rename_i vW;have qQ:q<news.length*sz:=by rw[←S.len];exact(List.getElem?_eq_some_iff.1 hq).1
 have qS:q/sz<news.length:=Nat.div_lt_of_lt_mul (by rw[Nat.mul_comm];exact qQ);have tz:q/sz<k:=Nat.div_lt_of_lt_mul (by rw[Nat.mul_comm];exact vW);have vV:q%sz<sz:=Nat.mod_lt _ h0;have sV:news[q/sz]?=some news[q/sz]:=List.getElem?_eq_getElem qS;have jj:=S.jP _ (List.getElem_mem qS);have qR:(news[q/sz])[q%sz]?=some ((news[q/sz])[q%sz]'(by omega)):=List.getElem?_eq_getElem (by omega)
 obtain⟨v',e1,e2⟩:=S.rv _ _ _ _ sV qR;have:q/sz*sz+q%sz=q:=by rw[Nat.mul_comm];exact Nat.div_add_mod q sz
 rw[this,hq] at e1;cases e1;refine RV.dZ e2 (bE _ ?_ _ (List.getElem_mem _));refine List.mem_of_getElem? (i:=q/sz) ?_;rw[List.getElem?_take,if_pos tz];exact sV
theorem rW (hr : aj K β env H a w) {o : Oper} {c : Call} {d x : Operand} {d' x' : O} {dt xt e : TypeId} {sz : Nat} {dd : Option Nat} (hd : ∀ n,dd = some n → n < K.N) (ho : o.op = .call c) (hc : c.callee = .builtin .copy)
   (ha:c.args.toList=[d,x]) (o3:c.argTypes.toList=[dt,xt]) (sX:K.P.underlying dt=some (.slice e)) (hs:eZ K.P e=some sz) (h0:sz≠0) (iw:co K.G d=some d') (hx:co K.G x=some x') {y:AV} {H':Hp}
   (hy:iN sz (ev env d') (ev env x') H=some (y,H')):cn K env a w o dd y H':=by
 have gl:c.args=#[d,x]:=by cases hh:c.args;simp_all
 have iL:c.argTypes=#[dt,xt]:=by cases hh:c.argTypes;simp_all
 have bJ:(execOp a.eval o).run K.P w=((Builtin.copy_ #[dt,xt] o.type #[a.eval d,a.eval x]).run K.P w).andThen fun v w'=> .ok (.value v) w':=by
   simp[execOp,ho,resolve,hc,gl,iL,invoke,builtin]
 unfold iN at hy
 obtain⟨news,hn,hy⟩:=Option.bind_eq_some_iff.1 hy
 obtain⟨vals,S⟩:=eW hr hx (by omega) hn
 have vX:=hr.ev iw
 obtain⟨⟨l,s0,i,n⟩,hp,hy⟩:=Option.bind_eq_some_iff.1 hy
 simp only at hy
 split at hy
 · simp at hy
 · rename_i bE
   have bE:∀cs∈news.take (Nat.min news.length n),AV.gq cs:=Classical.byContradiction bE
   have jl:=jS (by omega) S (Nat.min news.length n) bE
   obtain⟨vY,ad,c0,h1,h2,h3,h5⟩:=kH hp vX
   split at hy
   · rename_i r hl
     split at hy
     · rename_i aI
       obtain⟨rfl,dL,jI⟩:=aI
       simp only[Option.some.injEq,Prod.mk.injEq] at hy
       obtain⟨rfl,rfl⟩:=hy
       have hk:Nat.min news.length n≤news.length:=Nat.min_le_left _ _
       have u4:Nat.min news.length n≤n:=Nat.min_le_right _ _
       have tw:(news.take (Nat.min news.length n)).length=Nat.min news.length n:=by rw[List.length_take];omega
       obtain ⟨w',q1,q2⟩ := gX hr hl (sz := s0) (i := i) (n := n) (news := news.take (Nat.min news.length n)) (vals := vals.take (Nat.min news.length n * s0)) dL h2 (h5 ⟨r,hl⟩) (by omega) (by omega)
         (fun cs aN=>by rw[dL];exact S.jP cs (List.mem_of_mem_take aN)) (fun cs aN=>S.bB cs (List.mem_of_mem_take aN))
         (by rw[List.length_take,S.len,tw,dL,Nat.min_eq_left (Nat.mul_le_mul_right _ hk)])
         (fun i' j cs x0 a7 cB => by
           rw[List.getElem?_take] at a7
           split at a7
           · rename_i dI
             obtain⟨v,e1,e2⟩:=S.rv i' j cs x0 a7 cB
             refine⟨v,?_,e2⟩
             rw[dL,List.getElem?_take,if_pos]
             · exact e1
             · have oY:j<s0:=by
                 have:=S.jP cs (List.mem_of_getElem? a7)
                 have:=(List.getElem?_eq_some_iff.1 cB).1
                 omega
               have:=Nat.mul_le_mul_right s0 (show i'+1≤Nat.min news.length n by omega)
               rw[Nat.add_mul] at this
               omega
           · simp at a7)
         (fun v hv=>jl v hv)
       have h4:=q2.step (Below.refl _ _) (d:=dd) (x:= .int .i64 ((Nat.min news.length n:Nat):Int)) (v:= .int .i64 ((Nat.min news.length n:Nat):Int)) hd (fun _=>by simp[RV]) (fun _=>by simp[AV.aw])
       refine⟨_,_,_,_,?_,.inl rfl,h4⟩
       rw[bJ,h1]
       have dK:=S.kC _ hk w (.inl rfl)
       have tE:(Builtin.copy_ #[dt,xt] o.type #[.slice ad n c0,a.eval x]).run K.P w= .ok (.int .i64 ((Nat.min news.length n:Nat):Int)) w':=by
         cases ad with
         |none=>
           simp only[Sem.run_pure,Result.ok.injEq,true_and] at q1
           subst q1
           simp[Builtin.copy_,run_underlying sX,S.lenOf,aC hs,dK,goInt]
         |some q=>
           simp only at q1
           simp[Builtin.copy_,run_underlying sX,S.lenOf,aC hs,dK,goInt,q1]
       rw[tE];rfl
     · simp at hy
   · simp at hy
theorem ez (z:Array Value) (zs:List AV) (n:Nat) (h:au w β H (Im K β H) zs z.toList) (hz:0<z.size):∀i j cs x,(List.replicate n zs)[i]?=some cs→cs[j]?=some x →
  ∃v,(Builtin.zeroCells z n).toList[i*z.size+j]?=some v∧RV w β H (Im K β H) x v:=by
 intro i j cs x hi hj;rw[List.getElem?_replicate] at hi;split at hi
 ·rename_i dI;simp only[Option.some.injEq] at hi;subst hi;obtain⟨v,e1,e2⟩:=au.get _ _ j x h hj;refine⟨v,?_,e2⟩
  have n9:j<z.size:=by
   have:=(List.getElem?_eq_some_iff.1 e1).1;simpa using this
  have hb:i*z.size+j<n*z.size:=by
   have:=Nat.mul_le_mul_right z.size (show i+1≤n by omega);rw[Nat.add_mul] at this;omega
  have hm:(i*z.size+j)%z.size=j:=by rw[Nat.add_comm,Nat.add_mul_mod_self_right,Nat.mod_eq_of_lt n9]
  have u7:z[j]?=some v:=by simpa using e1
  have hg:=Array.getElem?_eq_some_iff.1 u7;simp[Builtin.zeroCells,hb,hm,getElem!_def,u7]
 ·simp at hi
theorem jT (z:Array Value) (n:Nat) (hz:0<z.size) (h:∀v∈z.toList,v.oneCell'=true):∀v∈(Builtin.zeroCells z n).toList,v.oneCell'=true:=by
 intro v hv;simp only[Builtin.zeroCells,Array.toList_map,Array.toList_range,List.mem_map,List.mem_range] at hv;obtain⟨i,hi,rfl⟩:=hv;have dI:i%z.size<z.size:=Nat.mod_lt _ hz;refine h _ ?_;rw[show z[i%z.size]! =z[i%z.size] by simp[dI]];simp
theorem jn:∀(zs:List AV) (vs:List Value),AV.gq zs→au w β H (Im K β H) zs vs→∀v∈vs,v.oneCell'=true
 |[],vs,_,h,v,hv=>by simp[au] at h;subst h;simp at hv
 |x::r,vs,h1,h,v,hv=>by
  simp only[au] at h;obtain⟨u,us,rfl,h2,h3⟩:=h;rcases List.mem_cons.1 hv with rfl|hv
  ·exact RV.dZ h2 (h1 x (by simp))
  ·exact jn r us (fun y hy=>h1 y (by simp[hy])) h3 v hv
theorem rX (hr : aj K β env H a w) {o : Oper} {c : Call} {x : Operand} {x' : O} {e : TypeId} {i : TypeInfo} {z : Value} {zs : List AV} {dd : Option Nat} (hd : ∀ n,dd = some n → n < K.N) (ho : o.op = .call c) (hc : c.callee = .builtin .clear)
   (ha:c.args.toList=[x]) (ht:c.argTypes[0]?.bind K.P.underlying=some (.slice e)) (hi:K.P.info? e=some i) (hz:i.zero=some z) (eV:z.cells.size=i.size) (h0:0<i.size)
   (e_:dr z.cells.toList=some zs) (hx:co K.G x=some x') {H':Hp} (hy:iO i.size zs (ev env x') H=some H'):cn K env a w o dd (.eN []) H':=by
 have gl:c.args=#[x]:=by cases hh:c.args;simp_all
 obtain⟨t,mn,mo⟩:=Option.bind_eq_some_iff.1 ht
 have bJ:(execOp a.eval o).run K.P w=((Builtin.clear_ c.argTypes o.type #[a.eval x]).run K.P w).andThen fun v w'=> .ok (.value v) w':=by
   simp[execOp,ho,resolve,hc,gl,invoke,builtin]
 have o6:=hr.ev hx
 unfold iO at hy
 split at hy
 · simp at hy
 · rename_i bE
   have bE:AV.gq zs:=Classical.byContradiction bE
   obtain⟨⟨l,s0,j,n⟩,hp,hy⟩:=Option.bind_eq_some_iff.1 hy
   obtain⟨vY,ad,c0,h1,h2,h3,h5⟩:=kH hp o6
   simp only at hy
   split at hy
   · rename_i r hl
     split at hy
     · rename_i aI
       obtain⟨rfl,dL,jI⟩:=aI
       simp only[Option.some.injEq] at hy
       subst hy
       have rY:zs.length=i.size:=by have:=au.len _ _ (b7 _ _ e_ w β H (Im K β H));simp at this;omega
       have n7:=b7 _ _ e_ w β H (Im K β H)
       obtain⟨w',q1,q2⟩:=gX hr hl (sz:=i.size) (i:=j) (n:=n) (news:=List.replicate n zs) (vals:=(Builtin.zeroCells z.cells n).toList) dL h2 (h5 ⟨r,hl⟩) (by simp) (by simpa using jI)
         (fun cs aN=>by rw[List.eq_of_mem_replicate aN,dL,rY]) (fun cs aN q hq=>by rw[List.eq_of_mem_replicate aN,b8 _ _ e_] at hq;simp at hq)
         (by rw[aU,eV,dL];simp) (by rw[dL,←eV];exact ez z.cells zs n n7 (by omega))
         (jT z.cells n (by omega) (jn _ _ bE n7))
       have h4:=q2.step (Below.refl _ _) (d:=dd) (x:= .eN []) (v:= .tuple #[]) hd (fun _=>by simp[RV,au]) (fun _=>by simp[AV.aw,ak])
       refine⟨_,_,_,_,?_,.inl rfl,h4⟩
       rw[bJ,h1]
       have tE:(Builtin.clear_ c.argTypes o.type #[.slice ad n c0]).run K.P w= .ok (.tuple #[]) w':=by
         cases ad with
         |none=>
           simp only[Sem.run_pure,Result.ok.injEq,true_and] at q1
           subst q1
           simp[Builtin.clear_,mn,run_underlying mo]
         |some q=>
           simp only at q1
           cases n with
           |zero=>
             have hw:w'=w:=by
               have qN:(Builtin.zeroCells z.cells 0).toList=[]:=by simp[Builtin.zeroCells]
               rw[qN] at q1
               simp[storeCells] at q1
               exact q1.symm
             rw[hw]
             simp[Builtin.clear_,mn,run_underlying mo]
           |succ n=>
             simp[Builtin.clear_,mn,run_underlying mo,zeroValue,typeInfo,hi,hz,q1]
       rw[tE];rfl
     · simp at hy
   · simp at hy
theorem rZ (hr:aj K β env H a w) {o:Oper} {t e:TypeId} {n c:Operand} {n' c':O} {i:TypeInfo} {z:Value} {zs:List AV} {d:Nat} (hd:d<K.N) (ho:o.op= .makeSlice t n c) (ht:K.P.underlying t=some (.slice e))
  (hi:K.P.info? e=some i) (hz:i.zero=some z) (eV:z.cells.size=i.size) (h0:0<i.size) (hb:0<i.bytes) (e_:dr z.cells.toList=some zs) (hn:co K.G n=some n') (hc:co K.G c=some c') {y:AV} {H':Hp}
  (hy:jR i.size i.bytes d zs (ev env n') (ev env c') H=some (y,H')):cn K env a w o (some d) y H':=by
 have tF:=hr.ev hn;have o7:=hr.ev hc;unfold jR at hy;split at hy
 ·rename_i k m k' m' e1 e2;rw[e1] at tF;rw[e2] at o7;simp only[RV] at tF o7;split at hy
  ·rename_i aI;obtain⟨rfl,jg,vZ,hu⟩:=aI;simp only[Option.some.injEq,Prod.mk.injEq] at hy;obtain⟨rfl,rfl⟩:=hy;obtain⟨q,rfl⟩:=Int.eq_ofNat_of_zero_le jg;simp only[Int.toNat_natCast] at vZ ⊢;have w8:q≤q*i.bytes:=Nat.le_mul_of_pos_right _ hb
   have cJ:=run_make (P:=K.P) w t e i z ht hi hz k k' (q:Int) (q:Int) jg (Int.le_refl _) (by
    have:((q*i.bytes:Nat):Int)≤140737488355328:=by omega
    rw[Int.natCast_mul,Int.mul_comm] at this;omega) (by omega)
   simp only[Int.toNat_natCast] at cJ;have rY:zs.length=i.size:=by have:=au.len _ _ (b7 _ _ e_ w β H (Im K β H));simp at this;omega
   have v7:madeCells z.cells (q*i.size)=Builtin.zeroCells z.cells q:=by rw[←eV];rfl
   have hex:(execOp a.eval o).run K.P w= .ok (.value (.slice (some ⟨w.heap.size,0,none⟩) q q)) (w.alloc (.cells (Builtin.zeroCells z.cells q) e)):=by
    rw[←v7];simp[execOp,ho,tF,o7,cJ,Result.andThen]
   have gw:=aZ w (.cells (Builtin.zeroCells z.cells q) e);have aT:=gr hr (H':=aD H (.loc d) (.live ⟨i.size,List.replicate q zs⟩)) (lb:= .loc d) (b:=some w.heap.size) gw hu (by simp) (fun p hp ⟨r,h⟩=>by rw[ah _ _ hp] at h;exact⟨r,h⟩)
   have gp:eO (w.alloc (.cells (Builtin.zeroCells z.cells q) e)) (aD β (.loc d) (some w.heap.size)) (aD H (.loc d) (.live ⟨i.size,List.replicate q zs⟩))
     (Im K (aD β (.loc d) (some w.heap.size)) (aD H (.loc d) (.live ⟨i.size,List.replicate q zs⟩))) (.loc d) ⟨i.size,List.replicate q zs⟩:=by
    refine⟨h0,fun cs aN=>by rw[List.eq_of_mem_replicate aN,rY],?_⟩;simp only[bP];refine⟨Builtin.zeroCells z.cells q,e,q,heap_alloc_new w _,by rw[size_zeroCells,eV],by simp only[maxLen];omega,by simp,fun i' j cs x a7 cB=> ?_⟩;obtain⟨v,q1,q2⟩:=ez (H:=H) z.cells zs q (b7 _ _ e_ w β H (Im K β H)) (by omega) i' j cs x a7 cB;rw[eV] at q1;refine⟨v,by simpa using q1,RV.mono _ _ (aT _ (fun p hp=> ?_)) q2⟩
    rw[List.getElem?_replicate] at a7;split at a7
    ·simp only[Option.some.injEq] at a7;subst a7;have:=aL _ _ _ cB p hp;rw[b8 _ _ e_] at this;simp at this
    ·simp at a7
   have h3:=hr.ew (.loc d) hu gw (some w.heap.size) (by simp) (fun cs aN p hp=>by rw[List.eq_of_mem_replicate aN,b8 _ _ e_] at hp;simp at hp) gp
   have h4:=h3.step (Below.refl _ _) (d:=some d) (x:= .sl (.loc d) i.size 0 q) (v:= .slice (some ⟨w.heap.size,0,none⟩) q q) (by simpa using hd)
    (fun _=>by
     simp only[RV];refine⟨_,_,rfl,Nat.le_refl _,by simp only[maxLen];omega,by simp,fun _=> .inr ⟨w.heap.size,q*i.size,by simp,by simp,?_,by simp⟩⟩;have hh:(w.alloc (.cells (Builtin.zeroCells z.cells q) e)).heap[w.heap.size]?=some (.cells (Builtin.zeroCells z.cells q) e):=heap_alloc_new w _;unfold cG;rw[hh];simp only[size_zeroCells,eV]) (by simp[AV.aw])
   exact⟨_,_,_,_,hex,.inl rfl,h4⟩
  ·simp at hy
 ·simp at hy
theorem r0 (hr:aj K β env H a w) {o:Oper} {c:Call} {x:Operand} {x':O} {e:TypeId} (ho:o.op= .call c) (hc:c.callee= .builtin .cap) (ha:c.args.toList=[x])
  (ht:c.argTypes[0]?.bind K.P.underlying=some (.slice e)) (hx:co K.G x=some x') {R:Nat→Prop} (hy:mG (ev env x')=some R):∃m,R m∧m≤maxLen∧ai K β H a w o (.int .i64 (m:Int)):=by
 have h:=hr.ev hx;obtain⟨t,mn,mo⟩:=Option.bind_eq_some_iff.1 ht;have gl:c.args=#[x]:=by cases hh:c.args;simp_all
 have sl:∀(ad:Option Addr) (n c':Nat),a.eval x= .slice ad n c'→(execOp a.eval o).run K.P w= .ok (.value (.int .i64 c')) w:=by
  intro ad n c' hv;simp[execOp,ho,resolve,hc,gl,hv,invoke,builtin,Builtin.cap_,mn,run_underlying mo,goInt]
 have fin:∀(ad:Option Addr) (n c':Nat),a.eval x= .slice ad n c'→ai K β H a w o (.int .i64 (c':Int)):=fun ad n c' hv=>ai.same (sl ad n c' hv) (by simp[RV]) (by simp[AV.aw])
 unfold mG at hy;split at hy<;>simp only[Option.some.injEq,reduceCtorEq] at hy
 ·rename_i l sz i n m hs;rw[hs] at h;simp only[RV] at h;obtain⟨ad,h1,h2,h3,_⟩:=h;subst hy;exact⟨m,rfl,h3,fin _ _ _ h1⟩
 ·rename_i l sz i n hs;rw[hs] at h;simp only[RV] at h;obtain⟨ad,m,h1,h2,h3,_⟩:=h;subst hy;exact⟨m,h2,h3,fin _ _ _ h1⟩
 ·rename_i xs hs;rw[hs] at h;simp only[RV,bA] at h;obtain⟨ad,m,h1,h2,h3,_⟩:=h;subst hy;exact⟨m,h2,h3,fin _ _ _ h1⟩
 ·rename_i hs;rw[hs] at h;simp only[RV] at h;obtain⟨ad,h1⟩:=h;subst hy;exact⟨0,rfl,by simp[maxLen],fin _ _ _ h1⟩
theorem o8 (hr:aj K β env H a w) {o:Oper} {t e:TypeId} {x:Operand} {n s:Nat} {x':O} (ho:o.op= .slice t x none none none) (ht:K.P.underlying t=some (.array n e))
  (hs:eZ K.P e=some s) (n5:s≠0) (hx:co K.G x=some x') {y:AV} (hy:aa (.gj x' n s) env=some y):ai K β H a w o y:=by
 have h:=hr.ev hx;simp only[aa] at hy;split at hy
 ·rename_i cs e1;rw[e1] at h;split at hy
  ·rename_i aI;obtain⟨hl,iD,bE⟩:=aI;simp only[Option.some.injEq] at hy;subst hy;simp only[RV] at h;obtain⟨b,o',h1,h2,h3,h4⟩:=h;have rE:=cI (sz:=s) (by omega) n cs b o' hl bE h4;refine ai.same (v:= .slice (some ⟨b,o',none⟩) n n) ?_ ?_ (by simp[AV.aw])
   ·simp[execOp,ho,h1,Instr.sliceAt,run_underlying ht,Instr.sliceBounds,Instr.sureAddr,aC hs,Result.andThen,addr_add]
   ·simp only[RV,bA];refine⟨some ⟨b,o',none⟩,n,by rw[rE.2],by rw[rE.2];exact Nat.le_refl _,iD,.inr ⟨b,o',s,rfl,h2,h3,by omega,rE.1⟩⟩
  ·simp at hy
 ·simp at hy
theorem iQ {w:World} {β:Lb→Option Nat} {H:Hp} {I I':Nat→Prop} (hk:bW w w I I'):∀{y:IV} {v:Value},(∀cs,y≠ .agg cs)→RV w β H I y.bV v→bA w I' y v:=by
 intro y v hy h;cases y with
 |agg cs=>exact absurd rfl (hy cs)
 |list xs=>simp only[IV.bV,RV] at h;exact bA.mono hk _ _ h
 |bool b=>simpa[IV.bV,RV,bA] using h
 |int k n=>simpa[IV.bV,RV,bA] using h
 |str s=>simpa[IV.bV,RV,bA] using h
 |ifc t=>simp only[IV.bV,RV] at h;obtain⟨u,rfl,_⟩:=h;exact⟨u,rfl⟩
theorem cC {w:World} {I:Nat→Prop}:∀(cs:List IV) (b o:Nat),(∀j z,cs[j]?=some z→∃v,w.cell? ⟨b,o+j,none⟩=some v∧bA w I z v)→ay w I cs b o
 |[],b,o,_=>by simp[ay]
 |z::r,b,o,h=>by
  simp only[ay];refine⟨by simpa using h 0 z (by simp),cC r b (o+1) (fun j y hj=> ?_)⟩;have:=h (j+1) y (by simpa using hj)
  rwa[show o+(j+1)=o+1+j by omega] at this
theorem cD {w:World} {I:Nat→Prop} {sz:Nat}:∀(xs:List IV) (b o:Nat),(∀k y,xs[k]?=some y→bG w I y b (o+k*sz) sz)→ax w I xs b o sz
 |[],b,o,_=>by simp[ax]
 |y::r,b,o,h=>by
  simp only[ax];refine⟨by simpa using h 0 y (by simp),cD r b (o+sz) (fun k z hk=> ?_)⟩;have:=h (k+1) z (by simpa using hk)
  rwa[Nat.add_mul,Nat.one_mul,show o+(k*sz+sz)=o+sz+k*sz by omega] at this
theorem o9 (hr:aj K β env H a w) {o:Oper} {c:Call} {s x:Operand} {s' x':O} {st xt e:TypeId} {i:TypeInfo} {z:Value} {dx:TypeDesc} (ho:o.op= .call c) (hc:c.callee= .builtin .append)
  (ha:c.args.toList=[s,x]) (o3:c.argTypes.toList=[st,xt]) (dV:K.P.underlying st=some (.slice e)) (hi:K.P.info? e=some i) (hz:i.zero=some z) (eV:z.cells.size=i.size) (h0:0<i.size)
  (gK:K.P.underlying xt=some dx) (iw:dx= .string∨∃e2,dx= .slice e2) (hs:co K.G s=some s') (hx:co K.G x=some x') {y:AV}
  (hy:aa (.fB s' x' i.size i.bytes) env=some y):ai K β H a w o y:=by
 have gl:c.args=#[s,x]:=by cases hh:c.args;simp_all
 have iL:c.argTypes=#[st,xt]:=by cases hh:c.argTypes;simp_all
 have bJ:(execOp a.eval o).run K.P w=((Builtin.append_ #[st,xt] o.type #[a.eval s,a.eval x]).run K.P w).andThen fun v w'=> .ok (.value v) w':=by
  simp[execOp,ho,resolve,hc,gl,iL,invoke,builtin]
 have ey:=hr.ev hs
 have od:∀(news:List (List AV)) (vals:List Value),news.length=0→Src K β H w i.size (a.eval x) news vals→ev env s'= .nil0→ai K β H a w o (.list []):=by
  intro news vals jg S e1;rw[e1] at ey;simp only[RV] at ey;obtain⟨ad,ey⟩:=ey;have dm:news=[]:=List.eq_nil_of_length_eq_zero jg;subst dm;have mE:vals=[]:=List.eq_nil_of_length_eq_zero (by simpa using S.len);subst mE;have eT:=bu (ty:=o.type) dV hi gK iw ad 0 0 0 (a.eval x) #[] S.lenOf (S.cells w (.inl rfl)) (by omega)
  refine ai.same (v:= .slice ad 0 0) ?_ ?_ (by simp[AV.aw])
  ·rw[bJ,ey,eT];cases ad<;>simp[storeCells]
  ·simp only[RV,bA];exact⟨ad,0,rfl,Nat.le_refl _,by simp[maxLen],.inl rfl⟩
 simp only[aa] at hy;split at hy
 ·rename_i xs e1 e2;split at hy
  ·rename_i aI;obtain⟨fM,r6,hb,gS,_⟩:=aI;simp only[Option.some.injEq] at hy;subst hy;have hn:eS i.size (ev env x') H=some (xs.map fun y=>y.cells.map IV.bV):=by rw[e2];simp[eS,fM]
   obtain⟨vals,S⟩:=eW hr hx h0 hn;by_cases jg:xs.length=0
   ·have:xs=[]:=List.eq_nil_of_length_eq_zero jg;subst this;exact od _ _ (by simp) S e1
   ·rw[e1] at ey;simp only[RV] at ey;obtain⟨ad,ey⟩:=ey;have kn:(xs.map fun y=>y.cells.map IV.bV).length=xs.length:=List.length_map _
    have gV:(Builtin.firstCells i.size 0 (.slice ad 0 0)).run K.P w.drew= .ok #[] w.drew:=by
     cases ad with
     |none=>simp[Builtin.firstCells]
     |some q=>simp[Builtin.firstCells,loadCells,loadCellsFrom]
    have hlen:=S.lenOf;have dK:=S.cells w.drew (.inr rfl);rw[kn] at hlen dK;have eT:=bg (ty:=o.type) dV hi hz gK iw ad 0 0 xs.length (a.eval x) vals.toArray #[] hlen dK gV (by omega) (by simpa using hb) gS
    have gR:=grownCap_ge w (0+xs.length) 0 e
    have gI:=grownCap_le_maxLen w (0+xs.length) 0 e (by
     have:=Nat.le_mul_of_pos_right xs.length gS;simp only[maxLen];omega)
    have gw:=(er w).trans (aZ w.drew (.cells (#[]++vals.toArray++Builtin.zeroCells z.cells (grownCap w (0+xs.length) 0 e - (0+xs.length))) e))
    refine⟨.slice (some ⟨w.heap.size,0,none⟩) (0+xs.length) (grownCap w (0+xs.length) 0 e),_,by rw[bJ,ey,eT];rfl,gw,?_,by simp[AV.aw]⟩;simp only[RV,bA];refine⟨_,_,by rw[Nat.zero_add],by omega,gI,.inr ⟨w.heap.size,0,i.size,rfl,hr.fresh,?_,h0,?_⟩⟩
    ·have hh:=heap_alloc_new w.drew (.cells (#[]++vals.toArray++Builtin.zeroCells z.cells (grownCap w (0+xs.length) 0 e - (0+xs.length))) e)
     exact(Array.getElem?_eq_some_iff.1 hh).1
    ·refine cD _ _ _ (fun k y tG=> ?_);rw[bx];have jj:y.cells.length=i.size:=fM y (List.mem_of_getElem? tG);refine⟨jj.symm,cC _ _ _ (fun j q hq=> ?_)⟩;obtain⟨v,q1,q2⟩:=S.rv k j (y.cells.map IV.bV) q.bV (by simp[tG]) (by simp[hq])
     refine⟨v,?_,bA.mono (cZ.fK gw β H (Im K β H) []).tobW _ _ (iQ (I:=Im K β H) (w:=w) ⟨fun k hk hs=>⟨hk,hs,rfl⟩⟩ (r6 y (List.mem_of_getElem? tG) q (List.mem_of_getElem? hq)) q2)⟩
     have hh:(w.drew.alloc (.cells (#[]++vals.toArray++Builtin.zeroCells z.cells (grownCap w (0+xs.length) 0 e - (0+xs.length))) e)).heap[w.heap.size]?=some (.cells (#[]++vals.toArray++Builtin.zeroCells z.cells (grownCap w (0+xs.length) 0 e - (0+xs.length))) e):=heap_alloc_new w.drew _
     rw[cell_of_row _ _ _ _ _ _ hh];have dI:k*i.size+j<vals.length:=(List.getElem?_eq_some_iff.1 q1).1;simp only[Nat.zero_add];rw[Array.getElem?_append_left (by simpa using dI)];simpa using q1
  ·simp at hy
 ·rename_i e1 e2;split at hy
  ·simp only[Option.some.injEq] at hy;subst hy;have hn:eS i.size (ev env x') H=some []:=by rw[e2];simp[eS]
   obtain⟨vals,S⟩:=eW hr hx h0 hn;exact od _ _ rfl S e1
  ·exact absurd h0 ‹_›
 ·simp at hy
theorem eA {P:Program} {w:World} {st xt ty e:TypeId} {i:TypeInfo} {z:Value} {k0:IntKind} (hu:P.underlying st=some (.slice e)) (hi:P.info? e=some i) (hz:i.zero=some z) (hx:P.underlying xt=some (.int k0))
  (ad:Option Addr) (n c m:Nat) (k:IntKind) (olds:Array Value) (h0:0<m*i.size)
  (ho:(Builtin.firstCells i.size n (.slice ad n c)).run P w.drew= .ok olds w.drew) (oV:c<n+m) (hb:(n+m)*i.bytes≤140737488355328) (gS:0<i.bytes) :
  (Builtin.append_ #[st,xt] ty #[.slice ad n c,.int k (m:Int)]).run P w= .ok (.slice (some ⟨w.heap.size,0,none⟩) (n+m) (grownCap w (n+m) c e))
   (w.drew.alloc (.cells (olds++Builtin.zeroCells z.cells m++Builtin.zeroCells z.cells (grownCap w (n+m) c e - (n+m))) e)):=by
 have hn:¬(n+m≤c):=by omega
 have vU:n+m≤(n+m)*i.bytes:=Nat.le_mul_of_pos_right _ gS;have oW:¬(9223372036854775807<((n:Int)+(m:Int))):=by omega
 have oX:¬(281474976710656<Builtin.nextslicecap (n+m) c*i.bytes):=by have:=growslice_fits oV hb;omega
 have hw:IntKind.i64.wrap (m:Int)=m:=by rw[IntKind.wrap_i64];omega
 have tH:¬((m:Int)<0):=by omega
 have tJ:¬(281474976710656<(m:Int)*(i.bytes:Int)):=by
  rw[←Int.natCast_mul];have:m*i.bytes≤(n+m)*i.bytes:=Nat.mul_le_mul_right _ (by omega);omega
 have mq:¬(m*i.size=0):=by omega
 have tK:m≠0:=fun h=>mq (by simp[h])
 have tM:i.size≠0:=fun h=>mq (by simp[h])
 simp[Builtin.append_,run_underlying hu,run_underlying hx,sizeOf,typeInfo,zeroValue,hi,hz,asInt,asIntOf,hw,hn,tH,tK,tM,oW,oX,tJ,Question.forced,ho,newRow,grownCap];intro h;exact absurd h mq
theorem o_ (hr : aj K β env H a w) {o : Oper} {c : Call} {s x : Operand} {s' x' : O} {st xt e : TypeId} {i : TypeInfo} {z : Value} {zs : List AV} {k0 : IntKind} {d : Nat} (hd : d < K.N) (ho : o.op = .call c) (hc : c.callee = .builtin .append)
   (ha:c.args.toList=[s,x]) (o3:c.argTypes.toList=[st,xt]) (dV:K.P.underlying st=some (.slice e)) (hi:K.P.info? e=some i) (hz:i.zero=some z) (eV:z.cells.size=i.size) (h0:0<i.size) (gS:0<i.bytes)
   (gK:K.P.underlying xt=some (.int k0)) (e_:dr z.cells.toList=some zs) (hs:co K.G s=some s') (hx:co K.G x=some x') {y:AV} {H':Hp}
   (hy:jm i.size i.bytes d zs (ev env s') (ev env x') H=some (y,H')):cn K env a w o (some d) y H':=by
 have gl:c.args=#[s,x]:=by cases hh:c.args;simp_all
 have iL:c.argTypes=#[st,xt]:=by cases hh:c.argTypes;simp_all
 have bJ:(execOp a.eval o).run K.P w=((Builtin.append_ #[st,xt] o.type #[a.eval s,a.eval x]).run K.P w).andThen fun v w'=> .ok (.value v) w':=by
   simp[execOp,ho,resolve,hc,gl,iL,invoke,builtin]
 have ey:=hr.ev hs
 have o6:=hr.ev hx
 unfold jm at hy
 split at hy
 · rename_i l s0 i0 n c0 k m e1 e2
   rw[e1] at ey;rw[e2] at o6
   simp only[RV] at ey o6
   obtain⟨ad,h1,h2,h3,h4,h5⟩:=ey
   split at hy
   · rename_i r hl
     split at hy
     · rename_i aI
       obtain⟨rfl,dL,rfl,kn,jg,oV,hb,hu⟩:=aI
       obtain⟨q,rfl⟩:=Int.eq_ofNat_of_zero_le jg
       simp only[Int.toNat_natCast] at oV hb hy
       simp only[Option.some.injEq,Prod.mk.injEq] at hy
       obtain⟨rfl,rfl⟩:=hy
       have qT:(r.aQ.take n).length=n:=by simp;omega
       have kD:∀cs∈r.aQ.take n,cs.length=i.size:=fun cs aN=>by rw[←dL];exact(hr.rows l r hl).2.1 cs (List.mem_of_mem_take aN)
       have oc:∀cs∈r.aQ.take n,∀q∈ak cs,H q≠ .unused:=fun cs aN=>hr.aK l r hl cs (List.mem_of_mem_take aN)
       have rY:zs.length=i.size:=by have:=au.len _ _ (b7 _ _ e_ w β H (Im K β H));simp at this;omega
       have n7:=b7 _ _ e_ w β H (Im K β H)
       have gR:=grownCap_ge w (n+q) c0 e
       have gI:=grownCap_le_maxLen w (n+q) c0 e (by
         have:=Nat.le_mul_of_pos_right (n+q) gS
         simp only[maxLen];omega)
       have olds:∃olds:List Value,olds.length=n*i.size∧(∀i' j cs x0,(r.aQ.take n)[i']?=some cs→cs[j]?=some x0→∃v,olds[i'*i.size+j]?=some v∧RV w β H (Im K β H) x0 v) ∧
           (Builtin.firstCells i.size n (.slice ad n c0)).run K.P w.drew= .ok olds.toArray w.drew:=by
         by_cases mF:c0=0
         · have kk:n=0:=by omega
           subst kk
           refine⟨[],by simp,by simp,?_⟩
           cases ad with
           |none=>simp[Builtin.firstCells]
           |some q=>simp[Builtin.firstCells,loadCells,loadCellsFrom]
         · rcases h5 ⟨r,hl⟩ with h6|⟨g,Sz,g1,rfl,g3,g4⟩
           · exact absurd h6 mF
           · obtain⟨cur,e0,cap,k1,k2,k3,k4,k5⟩:=(hr.rows l r hl).block g1
             rw[dL] at k2
             have rT:n*i.size≤cur.size:=by rw[k2];exact Nat.mul_le_mul_right _ (by omega)
             have dC:(cur.toList.take (n*i.size)).length=n*i.size:=by simp;omega
             refine⟨cur.toList.take (n*i.size),dC,?_,?_⟩
             · intro i' j cs x0 a7 cB
               rw[List.getElem?_take] at a7
               split at a7
               · rename_i dI
                 obtain⟨v,q1,q2⟩:=k5 i' j cs x0 a7 cB
                 rw[dL] at q1
                 refine⟨v,?_,q2⟩
                 have oY:j<i.size:=by
                   have:=(hr.rows l r hl).2.1 cs (List.mem_of_getElem? a7)
                   have:=(List.getElem?_eq_some_iff.1 cB).1
                   omega
                 have fe:i'*i.size+j<n*i.size:=by
                   have:=Nat.mul_le_mul_right i.size (show i'+1≤n by omega)
                   rw[Nat.add_mul] at this;omega
                 rw[List.getElem?_take,if_pos fe]
                 simpa using q1
               · simp at a7
             · exact run_firstCells_some (P:=K.P) w.drew i.size n ⟨g,0*i.size,none⟩ n c0 _ dC (fun j v hj=>by
                 rw[addr_add,Nat.zero_mul,Nat.zero_add]
                 have:w.cell? ⟨g,j,none⟩=some v:=by
                   rw[cell_of_row w g _ cur e0 (0,0) k1]
                   rw[List.getElem?_take] at hj
                   split at hj
                   · simpa using hj
                   · simp at hj
                 simpa using this)
       obtain⟨olds,o5,qU,tx⟩:=olds
       have v8:0<q*i.size:=Nat.mul_pos (by omega) h0
       have eT:=eA (ty:=o.type) dV hi hz gK ad n c0 q k olds.toArray v8 tx oV hb gS
       have u9:(List.replicate q zs).length=q:=List.length_replicate
       have:=bL hr hr (fun _ h=>h) (fun _ h=>h) (o:=o) hd (e:=e) (n:=n) (m:=q) (A:=r.aQ.take n) (news:=List.replicate q zs) (olds:=olds) (vals:=(Builtin.zeroCells z.cells q).toList)
         (rest:=(Builtin.zeroCells z.cells (grownCap w (n+q) c0 e - (n+q))).toList) h0 hu hu qT u9 kD (fun cs aN=>by rw[List.eq_of_mem_replicate aN,rY]) oc
         (fun cs aN p hp=>by rw[List.eq_of_mem_replicate aN,b8 _ _ e_] at hp;simp at hp) o5 (by rw[aU,eV,u9]) qU (by rw[←eV];exact ez z.cells zs q n7 (by omega))
         (cap:=grownCap w (n+q) c0 e) (by
           have h9:=fg (sz:=i.size) gR
           simp only[List.length_append,o5,aU,eV]
           rw[←Nat.add_mul]
           exact h9) gI gR (by
           rw[bJ,h1,o6,eT]
           exact ff _ _ (by simp))
       exact this
     · simp at hy
   · simp at hy
 · simp at hy
theorem jU {x:AV} (h:x.jH=true):∀l∈ak x.cells,l∈x.aw:=by
 intro l hl;cases x<;>simp[AV.cells,ak] at hl<;>simp[AV.aw] at hl ⊢<;>exact hl
theorem cp (l m:List AV):ak (l++m)=ak l++ak m:=by
 induction l with
 |nil=>rfl
 |cons x r ih=>simp[ak,ih]
theorem fS:∀(qs:List (Nat×Nat×AV)) (c c':List AV),bI c qs=some c'→∀l∈ak c',l∈ak c∨∃q∈qs,l∈q.2.2.aw
 |[],c,c',h,l,hl=>by simp[bI] at h;subst h;exact .inl hl
 | (off,sz,x) :: qs,c,c',h,l,hl => by
   simp only[bI] at h
   split at h
   · rename_i hc
     rcases fS qs _ _ h l hl with h1|⟨q,h1,h2⟩
     · rw[cp,cp,List.mem_append,List.mem_append] at h1
       rcases h1 with(h1|h1)|h1
       · left
         have:=cp (c.take off) (c.drop off)
         rw[List.take_append_drop] at this
         rw[this,List.mem_append];exact .inl h1
       · exact .inr ⟨(off,sz,x),by simp,jU hc.1 l h1⟩
       · left
         have:=cp (c.take (off+sz)) (c.drop (off+sz))
         rw[List.take_append_drop] at this
         rw[this,List.mem_append];exact .inr h1
     · exact .inr ⟨q,by simp[h1],h2⟩
   · simp at h
theorem mH (hr:aj K β env H a w) {o:Oper} {t e:TypeId} {ps:Array (Nat×Operand)} {i:TypeInfo} {z:Value} {zs:List AV} {xs:List O} {d:Nat} (hd:d<K.N) (ho:o.op= .buildSlice t 1 ps)
  (ht:K.P.underlying t=some (.slice e)) (hi:K.P.info? e=some i) (hz:i.zero=some z) (eV:z.cells.size=i.size) (h0:0<i.size) (hn:1*i.size≤2^24)
  (e_:dr z.cells.toList=some zs) (km:cos K.G (ps.toList.map (·.2))=some xs) {y:AV} {H':Hp}
  (hy:iP i.size d zs (((ps.toList.map (·.1)).zip xs).map fun p=>(p.1,ev env p.2)) H=some (y,H')):cn K env a w o (some d) y H':=by
 unfold iP at hy;obtain⟨cs,h1,hy⟩:=Option.bind_eq_some_iff.1 hy;split at hy
 ·rename_i aI;obtain⟨hu,hlen,_⟩:=aI;simp only[Option.some.injEq,Prod.mk.injEq] at hy;obtain⟨rfl,rfl⟩:=hy;have qN:=b7 _ _ e_ w β H (Im K β H);have hzero:=e9 z.cells zs w β H (Im K β H) qN (by omega) 1
  have hm:∀l∈ak cs,H l≠ .unused:=by
   intro l hl;rcases fS _ _ _ h1 l hl with h2|⟨q,h2,h3⟩
   ·rw[b8 _ _ e_] at h2;simp at h2
   ·simp only[List.map_map,List.mem_map,Function.comp] at h2;obtain⟨p,hp,rfl⟩:=h2;simp only at h3;have sY:p.2∈xs:=(List.of_mem_zip (a:=p.1) (b:=p.2) hp).2;obtain⟨k,hk⟩:=List.getElem?_of_mem sY;exact cy hr _ _ km l (aL _ k _ (by rw[List.getElem?_map,hk];rfl) l h3)
  have oM:xs.length=ps.toList.length:=by
   have:=au.len _ _ (cu hr _ _ km);simp at this;simpa using this.symm
  have c6:=dJ hr (fun j=>some (j*i.size,i.size)) ps.toList xs (((ps.toList.map (·.1)).zip xs).map fun p=>(p.1*i.size,i.size,p.2)) km
   (by simp at oM;simp[oM])
   (by
    intro j p x q g1 g2 g3;simp only[List.getElem?_map,List.getElem?_zip_eq_some,Option.map_eq_some_iff] at g3;obtain⟨⟨u,v⟩,⟨⟨p',e1,e2⟩,e3⟩,rfl⟩:=g3;simp only at e1 e2 e3;rw[g1] at e1;cases e1;rw[g2] at e3;cases e3;exact⟨rfl,by simp[e2]⟩)
  obtain⟨cur',f1,f2⟩:=ea (fun j=>some (j*i.size,i.size)) _ _ _ cs _ hzero (by simpa[List.map_map,Function.comp_def] using h1) c6
  have gP:Instr.fill (fun j=>some (j*i.size,i.size)) ((Array.range (1*i.size)).map (z.cells[·%z.cells.size]!)) (ps.toList.map fun p=>(p.1,a.eval p.2))=some cur':=by
   rw[←eV];rw[←eV] at f1;exact f1
  have oN:¬1*i.size=0:=by omega
  have rF:=aC (P:=K.P) (t:=e) (s:=i.size) (by simp[eZ,hi]) w
  have cJ:(execOp a.eval o).run K.P w= .ok (.value (.slice (some ⟨w.heap.size,0,none⟩) 1 1)) (w.alloc (.cells cur' e)):=by
   simp only[execOp,ho,Instr.buildSlice,Sem.run_bind,run_underlying ht,Result.andThen_ok,rF,Sem.run_ite,oN,if_false,zeroValue,typeInfo,run_program,hi,hz,
    Array.toList_map,show ¬1*i.size>2^24 by omega,Sem.run_pure,Result.andThen,gP]
   simp[newRow,gP]
  have dA:cur'.size=i.size:=by have:=au.len _ _ f2;simp at this;omega
  have gw:=aZ w (.cells cur' e);have aT:=gr hr (H':=aD H (.loc d) (.live ⟨i.size,[cs]⟩)) (lb:= .loc d) (b:=some w.heap.size) gw hu (by simp) (fun p hp ⟨r,h⟩=>by rw[ah _ _ hp] at h;exact⟨r,h⟩)
  have gp:eO (w.alloc (.cells cur' e)) (aD β (.loc d) (some w.heap.size)) (aD H (.loc d) (.live ⟨i.size,[cs]⟩))
    (Im K (aD β (.loc d) (some w.heap.size)) (aD H (.loc d) (.live ⟨i.size,[cs]⟩))) (.loc d) ⟨i.size,[cs]⟩:=by
   refine⟨h0,by simp[hlen],?_⟩;simp only[bP];refine⟨cur',e,1,heap_alloc_new w _,by simp[dA],by simp[maxLen],by simp,fun i' j kl x a7 cB=> ?_⟩;cases i' with
   |succ i'=>simp at a7
   |zero=>
    simp at a7;subst a7;obtain⟨v,k1,k2⟩:=au.get _ _ _ _ f2 cB;exact⟨v,by simpa using k1,RV.mono _ _ (aT _ (fun l hl=>hm l (aL _ _ _ cB l hl))) k2⟩
  have h3:=hr.ew (.loc d) hu gw (some w.heap.size) (by simp) (by simpa using hm) gp
  have h4:=h3.step (Below.refl _ _) (d:=some d) (x:= .sl (.loc d) i.size 0 1) (v:= .slice (some ⟨w.heap.size,0,none⟩) 1 1) (by simpa using hd)
   (fun _=>by
    simp only[RV];refine⟨_,1,rfl,Nat.le_refl _,by simp[maxLen],by simp,fun _=> .inr ⟨w.heap.size,i.size,by simp,by simp,?_,by simp⟩⟩;have hh:(w.alloc (.cells cur' e)).heap[w.heap.size]?=some (.cells cur' e):=heap_alloc_new w _;unfold cG;rw[hh];simp only[dA]) (by simp[AV.aw])
  exact⟨_,_,_,_,cJ,.inl rfl,h4⟩
 ·simp at hy
end
end Go.Am
