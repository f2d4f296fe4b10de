import Derived.Test.YtfinkeaikbmpgaaGreatDoorKAm36
set_option linter.unusedSimpArgs false
set_option linter.unusedVariables false
set_option linter.unnecessarySimpa false
set_option linter.defProp false
/- THE ABSTRACT MACHINE, part 11: append, to its end. -/
namespace Go.Am
open Go Go.RowKit
theorem Ao {γ:Type} (f:Lb→γ) (l:Lb) (x y:γ):bL (bL f l x) l y=bL f l y:=by
 funext q;by_cases h:q=l
 ·subst h;simp
 ·simp[aA _ _ h]
theorem comb {R:AV→Value→Prop} {sz n:Nat} (A B:List (List AV)) (hA:A.length=n) (xx:∀cs∈A,cs.length=sz) (LM:∀cs∈B,cs.length=sz) (olds vals rest:List Value) (ho:olds.length=n*sz) (hv:vals.length=B.length*sz)
  (h1:∀i j cs x,A[i]?=some cs→cs[j]?=some x→∃v,olds[i*sz+j]?=some v∧R x v)
  (h2:∀i j cs x,B[i]?=some cs→cs[j]?=some x→∃v,vals[i*sz+j]?=some v∧R x v) :
  ∀i j cs x,(A++B)[i]?=some cs→cs[j]?=some x→∃v,(olds++vals++rest)[i*sz+j]?=some v∧R x v:=by
 intro i j cs x hi hj;by_cases te:i<n
 ·rw[List.getElem?_append_left (by omega)] at hi;obtain⟨v,q1,q2⟩:=h1 i j cs x hi hj;refine⟨v,?_,q2⟩;have:i*sz+j<olds.length:=(List.getElem?_eq_some_iff.1 q1).1;rw[List.append_assoc,List.getElem?_append_left this];exact q1
 ·rw[List.getElem?_append_right (by omega),hA] at hi;obtain⟨v,q1,q2⟩:=h2 (i - n) j cs x hi hj;refine⟨v,?_,q2⟩;have h3:(i - n)*sz+j<vals.length:=(List.getElem?_eq_some_iff.1 q1).1
  have h4:i*sz+j=olds.length+((i - n)*sz+j):=by
   rw[ho];have:i=n+(i - n):=by omega
   rw[this,Nat.add_mul];have e:n+(i - n) - n=i - n:=by omega
   rw[e];omega
  rw[h4,List.append_assoc,List.getElem?_append_right (by omega),List.getElem?_append_left (by omega)];rw[show olds.length+((i - n)*sz+j) - olds.length=(i - n)*sz+j by omega];exact q1
section
variable {K:Kx} {β:Lb→Option Nat} {env:Env} {H:Hp} {a:Act} {w:World}
theorem qp (hr:aM K β env H a w) {H':Hp} {lb:Lb} {b:Option Nat} {w':World} (gw:jT w w') (hu:H lb= .unused) (hb:∀g,b=some g→w.heap.size≤g)
  (hH:∀q,q≠lb→live H' q→live H q) (ls:List Lb) (pe:∀q∈ls,H q≠ .unused) :
  eA w w' β (bL β lb b) H H' (Im K β H) (Im K (bL β lb b) H') ls where
 im k hk hs:=⟨⟨hk.1,fun q hq=>by
  by_cases e:q=lb
  ·subst e;simp only[gF];intro h;have:=hb k h;omega
  ·rw[aA _ _ e];exact hk.2 q (hH q e hq)⟩,Nat.lt_of_lt_of_le hs gw.size,gw.block k hs⟩
 lb q hq rf:=by
  have e:q≠lb:=fun e=>pe q hq (e▸hu)
  refine⟨hH q e rf,aA _ _ e,fun g S _ hS=> ?_⟩;unfold iX at *
  rwa[gw.block g (tn hS)]
theorem gf (hr:aM K β env H a w) {Hk:Hp} (hk:aM K β env Hk a w) (Hc:∀q,live Hk q→live H q) (Hd:∀q,H q≠ .unused→Hk q≠ .unused) {o:Oper} {d n m sz:Nat} {lb:Lb} (hd:d<K.N) {e:TypeId} {cap:Nat} {A news:List (List AV)} {olds vals rest:List Value}
  (h0:0<sz) (hu:H lb= .unused) (C2:Hk lb= .unused) (hA:A.length=n) (hm:news.length=m) (xx:∀cs∈A,cs.length=sz) (C3:∀cs∈news,cs.length=sz)
  (Cg:∀cs∈A,∀l∈ah cs,H l≠ .unused) (C4:∀cs∈news,∀l∈ah cs,H l≠ .unused)
  (ho:olds.length=n*sz) (hv:vals.length=news.length*sz)
  (h1:∀i j cs x,A[i]?=some cs→cs[j]?=some x→∃v,olds[i*sz+j]?=some v∧RV w β H (Im K β H) x v)
  (h2:∀i j cs x,news[i]?=some cs→cs[j]?=some x→∃v,vals[i*sz+j]?=some v∧RV w β H (Im K β H) x v)
  (kQ:(olds++vals++rest).length=cap*sz) (Ai:cap≤maxLen) (hle:n+m≤cap)
  (jx:(execOp a.eval o).run K.P w= .ok (.value (.slice (some ⟨w.heap.size,0,none⟩) (n+m) cap)) (w.drew.alloc (.cells (olds++vals++rest).toArray e))) :
  iE K env a w o (some d) (.sl lb sz 0 (n+m)) (bL Hk lb (.live ⟨sz,A++news⟩)):=by
 have gw:jT w (w.drew.alloc (.cells (olds++vals++rest).toArray e)):=(mr w).trans (eb w.drew _);have dc:=qp hr (H':=bL Hk lb (.live ⟨sz,A++news⟩)) (lb:=lb) (b:=some w.heap.size) gw hu (by simp) (fun q hq ⟨r,h⟩=>by rw[aA _ _ hq] at h;exact Hc q ⟨r,h⟩)
 have nz:∀cs∈A++news,cs.length=sz∧∀l∈ah cs,H l≠ .unused:=by
  intro cs bx;rcases List.mem_append.1 bx with h|h
  ·exact⟨xx cs h,Cg cs h⟩
  ·exact⟨C3 cs h,C4 cs h⟩
 have qn:nw (w.drew.alloc (.cells (olds++vals++rest).toArray e)) (bL β lb (some w.heap.size)) (bL Hk lb (.live ⟨sz,A++news⟩))
   (Im K (bL β lb (some w.heap.size)) (bL Hk lb (.live ⟨sz,A++news⟩))) lb ⟨sz,A++news⟩:=by
  refine⟨h0,fun cs bx=>(nz cs bx).1,?_⟩;simp only[gF];refine⟨(olds++vals++rest).toArray,e,cap,heap_alloc_new w.drew _,by simp only[List.size_toArray];exact kQ,Ai,by simp;omega,fun i j cs x hi hj=> ?_⟩;obtain⟨v,q1,q2⟩:=comb A news hA xx C3 olds vals rest ho hv h1 h2 i j cs x hi hj;exact⟨v,by simpa using q1,RV.mono _ _ (dc _ (fun q hq=>(nz cs (List.mem_of_getElem? hi)).2 q (cR _ _ _ hj q hq))) q2⟩
 have h3:=hk.k_ lb C2 gw (some w.heap.size) (by simp) (fun cs bx q hq=>Hd q ((nz cs bx).2 q hq)) qn
 have h4:=h3.step (Below.refl _ _) (d:=some d) (x:= .sl lb sz 0 (n+m)) (v:= .slice (some ⟨w.heap.size,0,none⟩) (n+m) cap) (by simpa using hd)
  (fun _=>by
   simp only[RV];refine⟨_,_,rfl,hle,Ai,by simp,fun _=> .inr ⟨w.heap.size,cap*sz,by simp,by simp,?_,by simp⟩⟩;have hh:(w.drew.alloc (.cells (olds++vals++rest).toArray e)).heap[w.heap.size]?=some (.cells (olds++vals++rest).toArray e):=heap_alloc_new w.drew _;unfold iX;rw[hh];simp only[List.size_toArray,kQ]) (by simp[AV.ar])
 exact⟨_,_,_,_,jx,.inl rfl,h4⟩
theorem rA (hr:aM K β env H a w) {Hk:Hp} (hk:aM K β env Hk a w) {o:Oper} {d sz:Nat} {lb:Lb} (hd:d<K.N) (h0:0<sz) (C2:Hk lb= .unused) {ad:Option Addr}
  (jx:(execOp a.eval o).run K.P w= .ok (.value (.slice ad 0 0)) w) :
  iE K env a w o (some d) (.sl lb sz 0 0) (bL Hk lb (.live ⟨sz,[]⟩)):=by
 have h3:=hk.k_ lb C2 (r:=⟨sz,[]⟩) (Below.refl _ _) none (by simp) (by simp) ⟨h0,by simp,by simp⟩
 have h4:=h3.step (Below.refl _ _) (d:=some d) (x:= .sl lb sz 0 0) (v:= .slice ad 0 0) (by simpa using hd)
  (fun _=>by simp only[RV];exact⟨_,0,rfl,by omega,by simp[maxLen],by simp,fun _=> .inl rfl⟩) (by simp[AV.ar])
 exact⟨_,_,_,_,jx,.inl rfl,h4⟩
theorem rB {α:Type} (A N:List α) (i:Nat) (h:i+N.length≤A.length) (k:Nat):(A.take i++N++A.drop (i+N.length))[k]?=if k<i then A[k]? else if k<i+N.length then N[k - i]? else A[k]?:=by
 have ht:(A.take i).length=i:=by rw[List.length_take];omega
 rw[List.append_assoc];by_cases h1:k<i
 ·rw[if_pos h1,List.getElem?_append_left (by omega),List.getElem?_take,if_pos h1]
 ·rw[if_neg h1,List.getElem?_append_right (by omega),ht];by_cases h2:k<i+N.length
  ·rw[if_pos h2,List.getElem?_append_left (by omega)]
  ·rw[if_neg h2,List.getElem?_append_right (by omega),List.getElem?_drop]
   congr 1;omega
theorem py (hr:aM K β env H a w) {l:Lb} {r:Row} {g:Nat} (hl:H l= .live r) (hb:β l=some g) {i:Nat} {news:List (List AV)} {vals:List Value} (te:i+news.length≤r.els.length)
  (C3:∀cs∈news,cs.length=r.sz) (C4:∀cs∈news,∀q∈ah cs,H q≠ .unused) (hv:vals.length=news.length*r.sz)
  (h2:∀i j cs x,news[i]?=some cs→cs[j]?=some x→∃v,vals[i*r.sz+j]?=some v∧RV w β H (Im K β H) x v) (fm:∀v∈vals,v.oneCell'=true) :
  ∃cur',(storeCells ⟨g,i*r.sz,none⟩ vals).run K.P w= .ok () (w.setRow g cur') ∧
   aM K β env (bL H l (.live ⟨r.sz,r.els.take i++news++r.els.drop (i+news.length)⟩)) a (w.setRow g cur')∧iX (w.setRow g cur') g=iX w g:=by
 obtain⟨cur,e0,cap,k1,k2,k3,k4,k5⟩:=(hr.rows l r hl).block hb;have iO:0<r.sz:=(hr.rows l r hl).1
 have uZ:i*r.sz+vals.length≤cur.size:=by
  rw[hv,k2,←Nat.add_mul];exact Nat.mul_le_mul_right _ (by omega)
 have xy:=run_storeCells_at K.P g (i*r.sz) e0 vals 0 cur w k1 (by simpa using uZ) fm;simp only[Nat.add_zero] at xy
 have kP:(cur.toList.take (i*r.sz)++vals++cur.toList.drop (i*r.sz+vals.length)).toArray.size=cur.size:=by
  simp only[List.size_toArray,List.length_append,List.length_take,List.length_drop,Array.length_toList];omega
 have hlen:(r.els.take i++news++r.els.drop (i+news.length)).length=r.els.length:=by simp;omega
 have lJ:=hr.setRow l (r':=⟨r.sz,r.els.take i++news++r.els.drop (i+news.length)⟩) (cap:=cap) hl hb k1 kP rfl k2 k3 (by simp only;omega)
  (by
   intro cs bx;rcases List.mem_append.1 bx with h|h
   ·rcases List.mem_append.1 h with h|h
    ·exact(hr.rows l r hl).2.1 cs (List.mem_of_mem_take h)
    ·exact C3 cs h
   ·exact(hr.rows l r hl).2.1 cs (List.mem_of_mem_drop h))
  (by
   intro cs bx;rcases List.mem_append.1 bx with h|h
   ·rcases List.mem_append.1 h with h|h
    ·exact hr.cB l r hl cs (List.mem_of_mem_take h)
    ·exact C4 cs h
   ·exact hr.cB l r hl cs (List.mem_of_mem_drop h))
  (by
   intro i' j cs x0 dX iB;simp only at dX;rw[rB _ _ _ te] at dX;have jz:=rB cur.toList vals (i*r.sz) (by simpa using uZ);simp only[List.getElem?_toArray,jz]
   have C1:j<r.sz:=by
    have h9:=(List.getElem?_eq_some_iff.1 iB).1
    have h8:cs.length=r.sz:=by
     split at dX
     ·exact(hr.rows l r hl).2.1 cs (List.mem_of_getElem? dX)
     ·split at dX
      ·exact C3 cs (List.mem_of_getElem? dX)
      ·exact(hr.rows l r hl).2.1 cs (List.mem_of_getElem? dX)
    omega
   by_cases h1:i'<i
   ·rw[if_pos h1] at dX;have:=Nat.mul_le_mul_right r.sz (show i'+1≤i by omega);rw[Nat.add_mul] at this;rw[if_pos (by omega)];obtain⟨v,q1,q2⟩:=k5 i' j cs x0 dX iB;exact⟨v,by simpa using q1,q2⟩
   ·rw[if_neg h1] at dX;have h3:=Nat.mul_le_mul_right r.sz (show i≤i' by omega);rw[if_neg (by omega)];by_cases h4:i'<i+news.length
    ·rw[if_pos h4] at dX;have:=Nat.mul_le_mul_right r.sz (show i'+1≤i+news.length by omega);rw[Nat.add_mul,Nat.add_mul,Nat.one_mul] at this;rw[if_pos (by rw[hv];omega)];obtain⟨v,q1,q2⟩:=h2 (i' - i) j cs x0 dX iB;refine⟨v,?_,q2⟩;rw[←q1];congr 1;rw[Nat.sub_mul];omega
    ·rw[if_neg h4] at dX;have:=Nat.mul_le_mul_right r.sz (show i+news.length≤i' by omega);rw[Nat.add_mul] at this;rw[if_neg (by rw[hv];omega)];obtain⟨v,q1,q2⟩:=k5 i' j cs x0 dX iB;exact⟨v,by simpa using q1,q2⟩)
 refine⟨_,xy,lJ,?_⟩;have:iX w g=some cur.size:=by unfold iX;simp[k1]
 rw[this];exact jy k1 kP g cur.size this
theorem n4 {v:Value} {w1:World} {e:TypeId} (x y:Array Value) (h:x=y) :
  (Result.ok v (w1.alloc (.cells x e))).andThen (fun v w'=> .ok (Next.value v) w')= .ok (.value v) (w1.alloc (.cells y e)):=by
 subst h;rfl
theorem n5 {m C sz:Nat} (h:m≤C):m*sz+(C - m)*sz=C*sz:=by
 rw[←Nat.add_mul];congr 1;omega
theorem dG (z:Array Value) (n:Nat):(Builtin.zeroCells z n).toList.length=n*z.size:=by simp[size_zeroCells]
theorem FO (hr : aM K β env H a w) {o : Oper} {c : Call} {s x : Operand} {s' x' : O} {st xt e : TypeId} {i : TypeInfo} {z : Value} {dx : TypeDesc} {d : Nat} (hd : d < K.N) (ho : o.op = .call c) (hc : c.callee = .builtin .append)
   (ha : c.args.toList = [s,x]) (xe : c.argTypes.toList = [st,xt]) (fW : K.P.underlying st = some (.slice e)) (hi : K.P.info? e = some i) (hz : i.zero = some z) (nL : z.cells.size = i.size) (h0 : 0 < i.size)
   (rh : K.P.underlying xt = some dx) (s6 : dx = .string ∨ ∃ e2,dx = .slice e2) (hs : co K.G s = some s') (hx : co K.G x = some x') {y : AV} {H' : Hp}
   (hy : jA i.size i.bytes d (ev env s') (ev env x') H = some (y,H')) : iE K env a w o (some d) y H' := by
 have nA : c.args = #[s,x] := by cases hh : c.args; simp_all
 have tr : c.argTypes = #[st,xt] := by cases hh : c.argTypes; simp_all
 have gb : (execOp a.eval o).run K.P w = ((Builtin.append_ #[st,xt] o.type #[a.eval s,a.eval x]).run K.P w).andThen fun v w' => .ok (.value v) w' := by
   simp [execOp,ho,resolve,hc,nA,tr,invoke,builtin]
 unfold jA at hy
 obtain ⟨news,hn,hy⟩ := Option.bind_eq_some_iff.1 hy
 obtain ⟨vals,S⟩ := nM hr hx h0 hn
 have mv := hr.ev hs
 split at hy
 · simp at hy
 · rename_i fm
   have fm : ∀ cs ∈ news,AV.pf cs := Classical.byContradiction fm
   have u0 : ∀ v ∈ vals,v.oneCell' = true := by
     intro v hv
     obtain ⟨q,hq⟩ := List.getElem?_of_mem hv
     have EZ : q < news.length * i.size := by rw [← S.len]; exact (List.getElem?_eq_some_iff.1 hq).1
     have E0 : q / i.size < news.length := Nat.div_lt_of_lt_mul (by rw [Nat.mul_comm]; exact EZ)
     have Kn : q % i.size < i.size := Nat.mod_lt _ h0
     have tt : news[q / i.size]? = some news[q / i.size] := List.getElem?_eq_getElem E0
     have qo := S.vS _ (List.getElem_mem E0)
     have zV : (news[q / i.size])[q % i.size]? = some ((news[q / i.size])[q % i.size]'(by omega)) := List.getElem?_eq_getElem (by omega)
     obtain ⟨v',e1,e2⟩ := S.rv _ _ _ _ tt zV
     have : q / i.size * i.size + q % i.size = q := by rw [Nat.mul_comm]; exact Nat.div_add_mod q i.size
     rw [this,hq] at e1
     cases e1
     exact RV.lF e2 (fm _ (List.getElem_mem E0) _ (List.getElem_mem _))
   have rC : ∀ ad : Option Addr,∀ cc,(Builtin.firstCells i.size 0 (.slice ad 0 cc)).run K.P w.drew = .ok #[] w.drew := by
     intro ad cc
     cases ad with
     | none => simp [Builtin.firstCells]
     | some q => simp [Builtin.firstCells,loadCells,loadCellsFrom]
   split at hy
   · -- nothing yet
     rename_i e1
     rw [e1] at mv
     simp only [RV] at mv
     obtain ⟨ad,mv⟩ := mv
     split at hy
     · rename_i hb
       obtain ⟨xz,Ch,hu⟩ := hb
       have hb : news.length * i.bytes ≤ 140737488355328 ∧ 0 < i.bytes := ⟨xz,Ch⟩
       simp only [Option.some.injEq,Prod.mk.injEq] at hy
       obtain ⟨rfl,rfl⟩ := hy
       by_cases uV : news.length = 0
       · have eg : news = [] := List.eq_nil_of_length_eq_zero uV
         subst eg
         have Ap : vals = [] := List.eq_nil_of_length_eq_zero (by simpa using S.len)
         subst Ap
         have mw := fg (ty := o.type) fW hi rh s6 ad 0 0 0 (a.eval x) #[] S.lenOf (S.cells w (.inl rfl)) (by omega)
         refine rA hr hr hd h0 hu (ad := ad) ?_
         rw [gb,mv,mw]
         cases ad <;> simp [storeCells]
       · have mw := eD (ty := o.type) fW hi hz rh s6 ad 0 0 news.length (a.eval x) vals.toArray #[] S.lenOf (S.cells w.drew (.inr rfl)) (rC ad 0) (by omega) (by simpa using hb.1) hb.2
         have mn := grownCap_ge w (0 + news.length) 0 e
         have rb := grownCap_le_maxLen w (0 + news.length) 0 e (by
           have := Nat.le_mul_of_pos_right news.length hb.2
           simp only [maxLen]; omega)
         have := gf hr hr (fun _ h => h) (fun _ h => h) (o := o) hd (e := e) (n := 0) (m := news.length) (A := []) (news := news) (olds := []) (vals := vals)
           (rest := (Builtin.zeroCells z.cells (grownCap w (0 + news.length) 0 e - (0 + news.length))).toList) h0 hu hu rfl rfl (by simp) S.vS (by simp) S.eB (by simp) S.len (by simp) S.rv
           (cap := grownCap w (0 + news.length) 0 e) (by
             have h9 := n5 (sz := i.size) mn
             simp only [List.length_append,List.length_nil,S.len,dG,nL]
             simp only [Nat.zero_add] at h9 ⊢
             exact h9) rb mn (by
             rw [gb,mv,mw]
             exact n4 _ _ (by simp))
         simpa using this
     · simp at hy
   · -- a row
     rename_i l s0 i0 n e1
     rw [e1] at mv
     simp only [RV] at mv
     obtain ⟨ad,cc,h1,h2,h3,h4,h5⟩ := mv
     split at hy
     · rename_i r hl
       split at hy
       · rename_i cP
         obtain ⟨rfl,ld,rfl,tq,hb,rz,C5,hu⟩ := cP
         simp only [Option.some.injEq,Prod.mk.injEq] at hy
         obtain ⟨rfl,rfl⟩ := hy
         have E1 : (r.els.take n).length = n := by simp; omega
         have xx : ∀ cs ∈ r.els.take n,cs.length = i.size := fun cs bx => by rw [← ld]; exact (hr.rows l r hl).2.1 cs (List.mem_of_mem_take bx)
         have Cg : ∀ cs ∈ r.els.take n,∀ q ∈ ah cs,H q ≠ .unused := fun cs bx => hr.cB l r hl cs (List.mem_of_mem_take bx)
         have xA := hr.kill l (by rw [hl]; simp)
         have C2 : bL H l .dead (l.app d) = .unused := by rw [aA _ _ (Ne.symm C5)]; exact hu
         have Hc : ∀ q,live (bL H l .dead) q → live H q := by
           rintro q ⟨r',h⟩
           by_cases e : q = l
           · subst e; simp at h
           · rw [aA _ _ e] at h; exact ⟨r',h⟩
         have Hd : ∀ q,H q ≠ .unused → bL H l .dead q ≠ .unused := by
           intro q h
           by_cases e : q = l
           · subst e; simp
           · rw [aA _ _ e]; exact h
         by_cases Aq : cc = 0
         · subst Aq
           have mm : n = 0 := by omega
           subst mm
           by_cases uV : news.length = 0
           · have eg : news = [] := List.eq_nil_of_length_eq_zero uV
             subst eg
             have Ap : vals = [] := List.eq_nil_of_length_eq_zero (by simpa using S.len)
             subst Ap
             have mw := fg (ty := o.type) fW hi rh s6 ad 0 0 0 (a.eval x) #[] S.lenOf (S.cells w (.inl rfl)) (by omega)
             have := rA hr xA (o := o) hd h0 C2 (ad := ad) (by
               rw [gb,h1,mw]
               cases ad <;> simp [storeCells])
             simpa using this
           · have mw := eD (ty := o.type) fW hi hz rh s6 ad 0 0 news.length (a.eval x) vals.toArray #[] S.lenOf (S.cells w.drew (.inr rfl)) (rC ad 0) (by omega) (by simpa using hb) rz
             have mn := grownCap_ge w (0 + news.length) 0 e
             have rb := grownCap_le_maxLen w (0 + news.length) 0 e (by
               have := Nat.le_mul_of_pos_right (0 + news.length) rz
               simp only [maxLen]; omega)
             have := gf hr xA Hc Hd (o := o) hd (e := e) (n := 0) (m := news.length) (A := []) (news := news) (olds := []) (vals := vals)
               (rest := (Builtin.zeroCells z.cells (grownCap w (0 + news.length) 0 e - (0 + news.length))).toList) h0 hu C2 rfl rfl (by simp) S.vS (by simp) S.eB (by simp) S.len (by simp) S.rv
               (cap := grownCap w (0 + news.length) 0 e) (by
                 have h9 := n5 (sz := i.size) mn
                 simp only [List.length_append,List.length_nil,S.len,dG,nL]
                 simp only [Nat.zero_add] at h9 ⊢
                 exact h9) rb mn (by
                 rw [gb,h1,mw]
                 exact n4 _ _ (by simp))
             simpa using this
         · rcases h5 ⟨r,hl⟩ with h6 | ⟨g,Sz,g1,rfl,g3,g4⟩
           · exact absurd h6 Aq
           · obtain ⟨cur,e0,cap,k1,k2,k3,k4,k5⟩ := (hr.rows l r hl).block g1
             have hS : cur.size = Sz := by
               unfold iX at g3
               simp only [k1] at g3
               simpa using g3
             have xB : cc * i.size = cur.size := by rw [hS,← g4]; simp
             have FP : n * i.size ≤ cur.size := by rw [← xB]; exact Nat.mul_le_mul_right _ h2
             have Jq : cap = cc := by
               rw [ld] at k2
               rw [k2] at xB
               exact (Nat.eq_of_mul_eq_mul_right h0 xB).symm
             have Jr : ∀ i' j cs x0,(r.els.take n)[i']? = some cs → cs[j]? = some x0 → ∃ v,(cur.toList.take (n * i.size))[i' * i.size + j]? = some v ∧ RV w β H (Im K β H) x0 v := by
               intro i' j cs x0 dX iB
               rw [List.getElem?_take] at dX
               split at dX
               · rename_i bz
                 obtain ⟨v,q1,q2⟩ := k5 i' j cs x0 dX iB
                 rw [ld] at q1
                 refine ⟨v,?_,q2⟩
                 have C1 : j < i.size := by
                   have := (hr.rows l r hl).2.1 cs (List.mem_of_getElem? dX)
                   have := (List.getElem?_eq_some_iff.1 iB).1
                   omega
                 have la : i' * i.size + j < n * i.size := by
                   have := Nat.mul_le_mul_right i.size (show i' + 1 ≤ n by omega)
                   rw [Nat.add_mul] at this; omega
                 rw [List.getElem?_take,if_pos la]
                 simpa using q1
               · simp at dX
             have kR : (cur.toList.take (n * i.size)).length = n * i.size := by simp; omega
             by_cases tu : n + news.length ≤ cc
             · -- within the room
               have mw := fg (ty := o.type) fW hi rh s6 (some ⟨g,0 * i.size,none⟩) n cc news.length (a.eval x) vals.toArray S.lenOf (S.cells w (.inl rfl)) tu
               have uZ : n * i.size + vals.length ≤ cur.size := by
                 rw [S.len,← xB,← Nat.add_mul]
                 exact Nat.mul_le_mul_right _ tu
               have xy := run_storeCells_at K.P g (n * i.size) e0 vals 0 cur w k1 (by simpa using uZ) u0
               simp only [Nat.add_zero] at xy
               have kP : (cur.toList.take (n * i.size) ++ vals ++ cur.toList.drop (n * i.size + vals.length)).toArray.size = cur.size := by
                 simp only [List.size_toArray,List.length_append,List.length_take,List.length_drop,Array.length_toList]
                 omega
               have lJ := hr.setRow l (r' := ⟨i.size,r.els.take n ++ news⟩) (cap := cap) hl g1 k1 kP ld.symm k2 k3 (by simp; omega)
                 (by
                   intro cs bx
                   rw [ld]
                   rcases List.mem_append.1 bx with h | h
                   · exact xx cs h
                   · exact S.vS cs h)
                 (by
                   intro cs bx
                   rcases List.mem_append.1 bx with h | h
                   · exact Cg cs h
                   · exact S.eB cs h)
                 (by
                   intro i' j cs x0 dX iB
                   rw [ld]
                   obtain ⟨v,q1,q2⟩ := comb (r.els.take n) news E1 xx S.vS (cur.toList.take (n * i.size)) vals (cur.toList.drop (n * i.size + vals.length)) kR S.len Jr S.rv i' j cs x0 dX iB
                   exact ⟨v,by simpa using q1,q2⟩)
               have j6 := lJ.relabel l (l.app d) (r := ⟨i.size,r.els.take n ++ news⟩) (by simp) (by rw [aA _ _ (Ne.symm C5)]; exact hu) (Lb.gf l d)
               rw [Ao] at j6
               have FQ := j6.step (Below.refl _ _) (d := some d) (x := .sl (l.app d) i.size 0 (n + news.length)) (v := .slice (some ⟨g,0 * i.size,none⟩) (n + news.length) cc) (by simpa using hd)
                 (fun _ => by
                   simp only [RV]
                   refine ⟨_,_,rfl,tu,h3,by simp,fun _ => .inr ⟨g,cur.size,by simp [g1],by simp,?_,by simpa using xB⟩⟩
                   exact jy k1 kP g cur.size (by unfold iX; simp [k1])) (by simp [AV.ar])
               refine ⟨_,_,_,_,?_,.inl rfl,FQ⟩
               rw [gb,h1,mw]
               simp only [addr_add,Nat.zero_mul,Nat.zero_add,xy,Result.andThen_ok]
             · -- a new block
               have mw := eD (ty := o.type) fW hi hz rh s6 (some ⟨g,0 * i.size,none⟩) n cc news.length (a.eval x) vals.toArray (cur.toList.take (n * i.size)).toArray S.lenOf (S.cells w.drew (.inr rfl))
                 (run_firstCells_some (P := K.P) w.drew i.size n ⟨g,0 * i.size,none⟩ n cc _ kR (fun j v hj => by
                   rw [addr_add,Nat.zero_mul,Nat.zero_add]
                   have : w.cell? ⟨g,j,none⟩ = some v := by
                     rw [cell_of_row w g _ cur e0 (0,0) k1]
                     rw [List.getElem?_take] at hj
                     split at hj
                     · simpa using hj
                     · simp at hj
                   simpa using this)) (by omega) hb rz
               have mn := grownCap_ge w (n + news.length) cc e
               have rb := grownCap_le_maxLen w (n + news.length) cc e (by
                 have := Nat.le_mul_of_pos_right (n + news.length) rz
                 simp only [maxLen]; omega)
               have := gf hr xA Hc Hd (o := o) hd (e := e) (n := n) (m := news.length) (A := r.els.take n) (news := news) (olds := cur.toList.take (n * i.size)) (vals := vals)
                 (rest := (Builtin.zeroCells z.cells (grownCap w (n + news.length) cc e - (n + news.length))).toList) h0 hu C2 E1 rfl xx S.vS Cg S.eB kR S.len Jr S.rv
                 (cap := grownCap w (n + news.length) cc e) (by
                   have h9 := n5 (sz := i.size) mn
                   simp only [List.length_append,kR,S.len,dG,nL]
                   rw [Nat.add_mul] at h9
                   exact h9) rb mn (by
                   rw [gb,h1,mw]
                   exact n4 _ _ (by simp))
               exact this
       · simp at hy
     · simp at hy
   · -- a row whose room is known
     rename_i l s0 i0 n c0 e1
     rw [e1] at mv
     simp only [RV] at mv
     obtain ⟨ad,h1,h2,h3,h4,h5⟩ := mv
     split at hy
     · rename_i r hl
       split at hy
       · rename_i cP
         obtain ⟨rfl,ld,rfl,tq,rz,C5⟩ := cP
         have E1 : (r.els.take n).length = n := by simp; omega
         have xx : ∀ cs ∈ r.els.take n,cs.length = i.size := fun cs bx => by rw [← ld]; exact (hr.rows l r hl).2.1 cs (List.mem_of_mem_take bx)
         have Cg : ∀ cs ∈ r.els.take n,∀ q ∈ ah cs,H q ≠ .unused := fun cs bx => hr.cB l r hl cs (List.mem_of_mem_take bx)
         split at hy
         · rename_i tu
           split at hy
           · rename_i FR
             simp only [Option.some.injEq,Prod.mk.injEq] at hy
             obtain ⟨rfl,rfl⟩ := hy
             have mw := fg (ty := o.type) fW hi rh s6 ad n c0 news.length (a.eval x) vals.toArray S.lenOf (S.cells w (.inl rfl)) tu
             by_cases Aq : c0 = 0
             · subst Aq
               have mm : n = 0 := by omega
               subst mm
               have eg : news = [] := List.eq_nil_of_length_eq_zero (by omega)
               subst eg
               have Ap : vals = [] := List.eq_nil_of_length_eq_zero (by simpa using S.len)
               subst Ap
               have hH : bL H l (.live ⟨i.size,r.els.take 0 ++ [] ++ r.els.drop (0 + ([] : List (List AV)).length)⟩) = H := by
                 funext q
                 by_cases e : q = l
                 · subst e; simp only [gF,List.take_zero,List.nil_append,List.length_nil,Nat.add_zero,List.drop_zero,← ld,hl]
                 · rw [aA _ _ e]
               rw [hH]
               have FQ := hr.step (Below.refl _ _) (d := some d) (x := .slk l i.size 0 (0 + ([] : List (List AV)).length) 0) (v := .slice ad 0 0) (by simpa using hd)
                 (fun _ => by
                   simp only [RV]
                   exact ⟨ad,by simp,by simp,by simp [maxLen],by simp,fun _ => .inl rfl⟩) (fun _ q hq => by simp [AV.ar] at hq; subst hq; rw [hl]; simp)
               refine ⟨_,_,_,_,?_,.inl rfl,FQ⟩
               rw [gb,h1,mw]
               cases ad <;> simp [storeCells]
             · rcases h5 ⟨r,hl⟩ with h6 | ⟨g,Sz,g1,rfl,g3,g4⟩
               · exact absurd h6 Aq
               · obtain ⟨cur',w1,w2,w3⟩ := py hr hl g1 (i := n) (news := news) (vals := vals) FR (by rw [ld]; exact S.vS) S.eB (by rw [ld]; exact S.len) (by rw [ld]; exact S.rv) u0
                 rw [ld] at w1 w2
                 have FQ := w2.step (Below.refl _ _) (d := some d) (x := .slk l i.size 0 (n + news.length) c0) (v := .slice (some ⟨g,0 * i.size,none⟩) (n + news.length) c0) (by simpa using hd)
                   (fun _ => by
                     simp only [RV]
                     exact ⟨_,rfl,tu,h3,by simp,fun _ => .inr ⟨g,Sz,g1,rfl,by rw [w3]; exact g3,g4⟩⟩) (fun _ q hq => by simp [AV.ar] at hq; subst hq; simp)
                 refine ⟨_,_,_,_,?_,.inl rfl,FQ⟩
                 rw [gb,h1,mw]
                 simp only [addr_add,Nat.zero_mul,Nat.zero_add,w1,Result.andThen_ok]
           · simp at hy
         · rename_i tu
           split at hy
           · rename_i n6
             obtain ⟨hb,hu⟩ := n6
             simp only [Option.some.injEq,Prod.mk.injEq] at hy
             obtain ⟨rfl,rfl⟩ := hy
             have mn := grownCap_ge w (n + news.length) c0 e
             have rb := grownCap_le_maxLen w (n + news.length) c0 e (by
               have := Nat.le_mul_of_pos_right (n + news.length) rz
               simp only [maxLen]; omega)
             have olds : ∃ olds : List Value,olds.length = n * i.size ∧ (∀ i' j cs x0,(r.els.take n)[i']? = some cs → cs[j]? = some x0 → ∃ v,olds[i' * i.size + j]? = some v ∧ RV w β H (Im K β H) x0 v) ∧
                 (Builtin.firstCells i.size n (.slice ad n c0)).run K.P w.drew = .ok olds.toArray w.drew := by
               by_cases Aq : c0 = 0
               · have mm : n = 0 := by omega
                 subst mm
                 exact ⟨[],by simp,by simp,by simpa using rC ad c0⟩
               · rcases h5 ⟨r,hl⟩ with h6 | ⟨g,Sz,g1,rfl,g3,g4⟩
                 · exact absurd h6 Aq
                 · obtain ⟨cur,e0,cap,k1,k2,k3,k4,k5⟩ := (hr.rows l r hl).block g1
                   rw [ld] at k2
                   have FP : n * i.size ≤ cur.size := by rw [k2]; exact Nat.mul_le_mul_right _ (by omega)
                   have kR : (cur.toList.take (n * i.size)).length = n * i.size := by simp; omega
                   refine ⟨cur.toList.take (n * i.size),kR,?_,?_⟩
                   · intro i' j cs x0 dX iB
                     rw [List.getElem?_take] at dX
                     split at dX
                     · rename_i bz
                       obtain ⟨v,q1,q2⟩ := k5 i' j cs x0 dX iB
                       rw [ld] at q1
                       refine ⟨v,?_,q2⟩
                       have C1 : j < i.size := by
                         have := (hr.rows l r hl).2.1 cs (List.mem_of_getElem? dX)
                         have := (List.getElem?_eq_some_iff.1 iB).1
                         omega
                       have la : i' * i.size + j < n * i.size := by
                         have := Nat.mul_le_mul_right i.size (show i' + 1 ≤ n by omega)
                         rw [Nat.add_mul] at this; omega
                       rw [List.getElem?_take,if_pos la]
                       simpa using q1
                     · simp at dX
                   · exact run_firstCells_some (P := K.P) w.drew i.size n ⟨g,0 * i.size,none⟩ n c0 _ kR (fun j v hj => by
                       rw [addr_add,Nat.zero_mul,Nat.zero_add]
                       have : w.cell? ⟨g,j,none⟩ = some v := by
                         rw [cell_of_row w g _ cur e0 (0,0) k1]
                         rw [List.getElem?_take] at hj
                         split at hj
                         · simpa using hj
                         · simp at hj
                       simpa using this)
             obtain ⟨olds,C6,E2,HT⟩ := olds
             have mw := eD (ty := o.type) fW hi hz rh s6 ad n c0 news.length (a.eval x) vals.toArray olds.toArray S.lenOf (S.cells w.drew (.inr rfl)) HT (by omega) hb rz
             have := gf hr hr (fun _ h => h) (fun _ h => h) (o := o) hd (e := e) (n := n) (m := news.length) (A := r.els.take n) (news := news) (olds := olds) (vals := vals)
               (rest := (Builtin.zeroCells z.cells (grownCap w (n + news.length) c0 e - (n + news.length))).toList) h0 hu hu E1 rfl xx S.vS Cg S.eB C6 S.len E2 S.rv
               (cap := grownCap w (n + news.length) c0 e) (by
                 have h9 := n5 (sz := i.size) mn
                 simp only [List.length_append,C6,S.len,dG,nL]
                 rw [← Nat.add_mul]
                 exact h9) rb mn (by
                 rw [gb,h1,mw]
                 exact n4 _ _ (by simp))
             exact this
           · simp at hy
       · simp at hy
     · simp at hy
   · simp at hy
end
end Go.Am
