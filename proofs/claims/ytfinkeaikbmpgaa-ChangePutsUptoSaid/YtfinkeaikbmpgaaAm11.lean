import Derived.Test.YtfinkeaikbmpgaaKAm36
set_option linter.unusedSimpArgs false
set_option linter.unusedVariables false
set_option linter.unnecessarySimpa false
set_option linter.defProp false
/- THE ABSTRACT MACHINE, part 11: append, to its end. -/
namespace Go.Am
open Go Go.RowKit
theorem Er {γ:Type} (f:Lb→γ) (l:Lb) (x y:γ):bG (bG f l x) l y=bG f l y:=by
 funext q;by_cases h:q=l
 ·subst h;simp
 ·simp[aq _ _ h]
theorem comb {R:AV→Value→Prop} {sz n:Nat} (A B:List (List AV)) (hA:A.length=n) (BF:∀cs∈A,cs.length=sz) (Sk:∀cs∈B,cs.length=sz) (olds vals rest:List Value) (ho:olds.length=n*sz) (hv:vals.length=B.length*sz)
  (h1:∀i j cs x,A[i]?=some cs→cs[j]?=some x→∃v,olds[i*sz+j]?=some v∧R x v)
  (h2:∀i j cs x,B[i]?=some cs→cs[j]?=some x→∃v,vals[i*sz+j]?=some v∧R x v) :
  ∀i j cs x,(A++B)[i]?=some cs→cs[j]?=some x→∃v,(olds++vals++rest)[i*sz+j]?=some v∧R x v:=by
 intro i j cs x hi hj;by_cases mn:i<n
 ·rw[List.getElem?_append_left (by omega)] at hi;obtain⟨v,q1,q2⟩:=h1 i j cs x hi hj;refine⟨v,?_,q2⟩;have:i*sz+j<olds.length:=(List.getElem?_eq_some_iff.1 q1).1;rw[List.append_assoc,List.getElem?_append_left this];exact q1
 ·rw[List.getElem?_append_right (by omega),hA] at hi;obtain⟨v,q1,q2⟩:=h2 (i - n) j cs x hi hj;refine⟨v,?_,q2⟩;have h3:(i - n)*sz+j<vals.length:=(List.getElem?_eq_some_iff.1 q1).1
  have h4:i*sz+j=olds.length+((i - n)*sz+j):=by
   rw[ho];have:i=n+(i - n):=by omega
   rw[this,Nat.add_mul];have e:n+(i - n) - n=i - n:=by omega
   rw[e];omega
  rw[h4,List.append_assoc,List.getElem?_append_right (by omega),List.getElem?_append_left (by omega)];rw[show olds.length+((i - n)*sz+j) - olds.length=(i - n)*sz+j by omega];exact q1
section
variable {K:Kx} {β:Lb→Option Nat} {env:Env} {H:Hp} {a:Act} {w:World}
theorem um (hr:bj K β env H a w) {H':Hp} {lb:Lb} {b:Option Nat} {w':World} (gw:mh w w') (hu:H lb= .unused) (hb:∀g,b=some g→w.heap.size≤g)
  (hH:∀q,q≠lb→live H' q→live H q) (ls:List Lb) (nr:∀q∈ls,H q≠ .unused) :
  g_ w w' β (bG β lb b) H H' (Im K β H) (Im K (bG β lb b) H') ls where
 im k hk hs:=⟨⟨hk.1,fun q hq=>by
  by_cases e:q=lb
  ·subst e;simp only[jk];intro h;have:=hb k h;omega
  ·rw[aq _ _ e];exact hk.2 q (hH q e hq)⟩,Nat.lt_of_lt_of_le hs gw.size,gw.block k hs⟩
 lb q hq pP:=by
  have e:q≠lb:=fun e=>nr q hq (e▸hu)
  refine⟨hH q e pP,aq _ _ e,fun g S _ hS=> ?_⟩;unfold lY at *
  rwa[gw.block g (xA hS)]
theorem iN (hr:bj K β env H a w) {Hk:Hp} (hk:bj K β env Hk a w) (GM:∀q,live Hk q→live H q) (Nf:∀q,H q≠ .unused→Hk q≠ .unused) {o:Oper} {d n m sz:Nat} {lb:Lb} (hd:d<K.N) {e:TypeId} {cap:Nat} {A news:List (List AV)} {olds vals rest:List Value}
  (h0:0<sz) (hu:H lb= .unused) (H9:Hk lb= .unused) (hA:A.length=n) (hm:news.length=m) (BF:∀cs∈A,cs.length=sz) (H_:∀cs∈news,cs.length=sz)
  (GN:∀cs∈A,∀l∈ax cs,H l≠ .unused) (Lc:∀cs∈news,∀l∈ax cs,H l≠ .unused)
  (ho:olds.length=n*sz) (hv:vals.length=news.length*sz)
  (h1:∀i j cs x,A[i]?=some cs→cs[j]?=some x→∃v,olds[i*sz+j]?=some v∧RV w β H (Im K β H) x v)
  (h2:∀i j cs x,news[i]?=some cs→cs[j]?=some x→∃v,vals[i*sz+j]?=some v∧RV w β H (Im K β H) x v)
  (gI:(olds++vals++rest).length=cap*sz) (qR:cap≤maxLen) (hle:n+m≤cap)
  (lG:(execOp a.eval o).run K.P w= .ok (.value (.slice (some ⟨w.heap.size,0,none⟩) (n+m) cap)) (w.drew.alloc (.cells (olds++vals++rest).toArray e))) :
  ky K env a w o (some d) (.sl lb sz 0 (n+m)) (bG Hk lb (.live ⟨sz,A++news⟩)):=by
 have gw:mh w (w.drew.alloc (.cells (olds++vals++rest).toArray e)):=(o9 w).trans (ft w.drew _);have eM:=um hr (H':=bG Hk lb (.live ⟨sz,A++news⟩)) (lb:=lb) (b:=some w.heap.size) gw hu (by simp) (fun q hq ⟨r,h⟩=>by rw[aq _ _ hq] at h;exact GM q ⟨r,h⟩)
 have qM:∀cs∈A++news,cs.length=sz∧∀l∈ax cs,H l≠ .unused:=by
  intro cs b5;rcases List.mem_append.1 b5 with h|h
  ·exact⟨BF cs h,GN cs h⟩
  ·exact⟨H_ cs h,Lc cs h⟩
 have kP:qk (w.drew.alloc (.cells (olds++vals++rest).toArray e)) (bG β lb (some w.heap.size)) (bG Hk lb (.live ⟨sz,A++news⟩))
   (Im K (bG β lb (some w.heap.size)) (bG Hk lb (.live ⟨sz,A++news⟩))) lb ⟨sz,A++news⟩:=by
  refine⟨h0,fun cs b5=>(qM cs b5).1,?_⟩;simp only[jk];refine⟨(olds++vals++rest).toArray,e,cap,heap_alloc_new w.drew _,by simp only[List.size_toArray];exact gI,qR,by simp;omega,fun i j cs x hi hj=> ?_⟩;obtain⟨v,q1,q2⟩:=comb A news hA BF H_ olds vals rest ho hv h1 h2 i j cs x hi hj;exact⟨v,by simpa using q1,RV.mono _ _ (eM _ (fun q hq=>(qM cs (List.mem_of_getElem? hi)).2 q (dI _ _ _ hj q hq))) q2⟩
 have h3:=hk.mr lb H9 gw (some w.heap.size) (by simp) (fun cs b5 q hq=>Nf q ((qM cs b5).2 q hq)) kP
 have h4:=h3.step (Below.refl _ _) (d:=some d) (x:= .sl lb sz 0 (n+m)) (v:= .slice (some ⟨w.heap.size,0,none⟩) (n+m) cap) (by simpa using hd)
  (fun _=>by
   simp only[RV];refine⟨_,_,rfl,hle,qR,by simp,fun _=> .inr ⟨w.heap.size,cap*sz,by simp,by simp,?_,by simp⟩⟩;have hh:(w.drew.alloc (.cells (olds++vals++rest).toArray e)).heap[w.heap.size]?=some (.cells (olds++vals++rest).toArray e):=heap_alloc_new w.drew _;unfold lY;rw[hh];simp only[List.size_toArray,gI]) (by simp[AV.aI])
 exact⟨_,_,_,_,lG,.inl rfl,h4⟩
theorem vz (hr:bj K β env H a w) {Hk:Hp} (hk:bj K β env Hk a w) {o:Oper} {d sz:Nat} {lb:Lb} (hd:d<K.N) (h0:0<sz) (H9:Hk lb= .unused) {ad:Option Addr}
  (lG:(execOp a.eval o).run K.P w= .ok (.value (.slice ad 0 0)) w) :
  ky K env a w o (some d) (.sl lb sz 0 0) (bG Hk lb (.live ⟨sz,[]⟩)):=by
 have h3:=hk.mr lb H9 (r:=⟨sz,[]⟩) (Below.refl _ _) none (by simp) (by simp) ⟨h0,by simp,by simp⟩
 have h4:=h3.step (Below.refl _ _) (d:=some d) (x:= .sl lb sz 0 0) (v:= .slice ad 0 0) (by simpa using hd)
  (fun _=>by simp only[RV];exact⟨_,0,rfl,by omega,by simp[maxLen],by simp,fun _=> .inl rfl⟩) (by simp[AV.aI])
 exact⟨_,_,_,_,lG,.inl rfl,h4⟩
theorem vA {α:Type} (A N:List α) (i:Nat) (h:i+N.length≤A.length) (k:Nat):(A.take i++N++A.drop (i+N.length))[k]?=if k<i then A[k]? else if k<i+N.length then N[k - i]? else A[k]?:=by
 have ht:(A.take i).length=i:=by rw[List.length_take];omega
 rw[List.append_assoc];by_cases h1:k<i
 ·rw[if_pos h1,List.getElem?_append_left (by omega),List.getElem?_take,if_pos h1]
 ·rw[if_neg h1,List.getElem?_append_right (by omega),ht];by_cases h2:k<i+N.length
  ·rw[if_pos h2,List.getElem?_append_left (by omega)]
  ·rw[if_neg h2,List.getElem?_append_right (by omega),List.getElem?_drop]
   congr 1;omega
theorem s4 (hr:bj K β env H a w) {l:Lb} {r:Row} {g:Nat} (hl:H l= .live r) (hb:β l=some g) {i:Nat} {news:List (List AV)} {vals:List Value} (mn:i+news.length≤r.els.length)
  (H_:∀cs∈news,cs.length=r.sz) (Lc:∀cs∈news,∀q∈ax cs,H q≠ .unused) (hv:vals.length=news.length*r.sz)
  (h2:∀i j cs x,news[i]?=some cs→cs[j]?=some x→∃v,vals[i*r.sz+j]?=some v∧RV w β H (Im K β H) x v) (ix:∀v∈vals,v.oneCell'=true) :
  ∃cur',(storeCells ⟨g,i*r.sz,none⟩ vals).run K.P w= .ok () (w.setRow g cur') ∧
   bj K β env (bG H l (.live ⟨r.sz,r.els.take i++news++r.els.drop (i+news.length)⟩)) a (w.setRow g cur')∧lY (w.setRow g cur') g=lY w g:=by
 obtain⟨cur,e0,cap,k1,k2,k3,k4,k5⟩:=(hr.rows l r hl).block hb;have k8:0<r.sz:=(hr.rows l r hl).1
 have yV:i*r.sz+vals.length≤cur.size:=by
  rw[hv,k2,←Nat.add_mul];exact Nat.mul_le_mul_right _ (by omega)
 have BG:=run_storeCells_at K.P g (i*r.sz) e0 vals 0 cur w k1 (by simpa using yV) ix;simp only[Nat.add_zero] at BG
 have ny:(cur.toList.take (i*r.sz)++vals++cur.toList.drop (i*r.sz+vals.length)).toArray.size=cur.size:=by
  simp only[List.size_toArray,List.length_append,List.length_take,List.length_drop,Array.length_toList];omega
 have hlen:(r.els.take i++news++r.els.drop (i+news.length)).length=r.els.length:=by simp;omega
 have ld:=hr.setRow l (r':=⟨r.sz,r.els.take i++news++r.els.drop (i+news.length)⟩) (cap:=cap) hl hb k1 ny rfl k2 k3 (by simp only;omega)
  (by
   intro cs b5;rcases List.mem_append.1 b5 with h|h
   ·rcases List.mem_append.1 h with h|h
    ·exact(hr.rows l r hl).2.1 cs (List.mem_of_mem_take h)
    ·exact H_ cs h
   ·exact(hr.rows l r hl).2.1 cs (List.mem_of_mem_drop h))
  (by
   intro cs b5;rcases List.mem_append.1 b5 with h|h
   ·rcases List.mem_append.1 h with h|h
    ·exact hr.dA l r hl cs (List.mem_of_mem_take h)
    ·exact Lc cs h
   ·exact hr.dA l r hl cs (List.mem_of_mem_drop h))
  (by
   intro i' j cs x0 eJ jB;simp only at eJ;rw[vA _ _ _ mn] at eJ;have cM:=vA cur.toList vals (i*r.sz) (by simpa using yV);simp only[List.getElem?_toArray,cM]
   have GL:j<r.sz:=by
    have h9:=(List.getElem?_eq_some_iff.1 jB).1
    have h8:cs.length=r.sz:=by
     split at eJ
     ·exact(hr.rows l r hl).2.1 cs (List.mem_of_getElem? eJ)
     ·split at eJ
      ·exact H_ cs (List.mem_of_getElem? eJ)
      ·exact(hr.rows l r hl).2.1 cs (List.mem_of_getElem? eJ)
    omega
   by_cases h1:i'<i
   ·rw[if_pos h1] at eJ;have:=Nat.mul_le_mul_right r.sz (show i'+1≤i by omega);rw[Nat.add_mul] at this;rw[if_pos (by omega)];obtain⟨v,q1,q2⟩:=k5 i' j cs x0 eJ jB;exact⟨v,by simpa using q1,q2⟩
   ·rw[if_neg h1] at eJ;have h3:=Nat.mul_le_mul_right r.sz (show i≤i' by omega);rw[if_neg (by omega)];by_cases h4:i'<i+news.length
    ·rw[if_pos h4] at eJ;have:=Nat.mul_le_mul_right r.sz (show i'+1≤i+news.length by omega);rw[Nat.add_mul,Nat.add_mul,Nat.one_mul] at this;rw[if_pos (by rw[hv];omega)];obtain⟨v,q1,q2⟩:=h2 (i' - i) j cs x0 eJ jB;refine⟨v,?_,q2⟩;rw[←q1];congr 1;rw[Nat.sub_mul];omega
    ·rw[if_neg h4] at eJ;have:=Nat.mul_le_mul_right r.sz (show i+news.length≤i' by omega);rw[Nat.add_mul] at this;rw[if_neg (by rw[hv];omega)];obtain⟨v,q1,q2⟩:=k5 i' j cs x0 eJ jB;exact⟨v,by simpa using q1,q2⟩)
 refine⟨_,BG,ld,?_⟩;have:lY w g=some cur.size:=by unfold lY;simp[k1]
 rw[this];exact lH k1 ny g cur.size this
theorem qV {v:Value} {w1:World} {e:TypeId} (x y:Array Value) (h:x=y) :
  (Result.ok v (w1.alloc (.cells x e))).andThen (fun v w'=> .ok (Next.value v) w')= .ok (.value v) (w1.alloc (.cells y e)):=by
 subst h;rfl
theorem qW {m C sz:Nat} (h:m≤C):m*sz+(C - m)*sz=C*sz:=by
 rw[←Nat.add_mul];congr 1;omega
theorem eX (z:Array Value) (n:Nat):(Builtin.zeroCells z n).toList.length=n*z.size:=by simp[size_zeroCells]
theorem Ld (hr : bj K β env H a w) {o : Oper} {c : Call} {s x : Operand} {s' x' : O} {st xt e : TypeId} {i : TypeInfo} {z : Value} {dx : TypeDesc} {d : Nat} (hd : d < K.N) (ho : o.op = .call c) (hc : c.callee = .builtin .append)
   (ha : c.args.toList = [s,x]) (Es : c.argTypes.toList = [st,xt]) (mS : K.P.underlying st = some (.slice e)) (hi : K.P.info? e = some i) (hz : i.zero = some z) (qq : z.cells.size = i.size) (h0 : 0 < i.size)
   (s5 : K.P.underlying xt = some dx) (xl : dx = .string ∨ ∃ e2,dx = .slice e2) (hs : co K.G s = some s') (hx : co K.G x = some x') {y : AV} {H' : Hp}
   (hy : j8 i.size i.bytes d (ev env s') (ev env x') H = some (y,H')) : ky K env a w o (some d) y H' := by
 have ui : c.args = #[s,x] := by cases hh : c.args; simp_all
 have xC : c.argTypes = #[st,xt] := by cases hh : c.argTypes; simp_all
 have iL : (execOp a.eval o).run K.P w = ((Builtin.append_ #[st,xt] o.type #[a.eval s,a.eval x]).run K.P w).andThen fun v w' => .ok (.value v) w' := by
   simp [execOp,ho,resolve,hc,ui,xC,invoke,builtin]
 unfold j8 at hy
 obtain ⟨news,hn,hy⟩ := Option.bind_eq_some_iff.1 hy
 obtain ⟨vals,S⟩ := qt hr hx h0 hn
 have pb := hr.ev hs
 split at hy
 · simp at hy
 · rename_i ix
   have ix : ∀ cs ∈ news,AV.la cs := Classical.byContradiction ix
   have yW : ∀ v ∈ vals,v.oneCell' = true := by
     intro v hv
     obtain ⟨q,hq⟩ := List.getElem?_of_mem hv
     have Kn : q < news.length * i.size := by rw [← S.len]; exact (List.getElem?_eq_some_iff.1 hq).1
     have Kp : q / i.size < news.length := Nat.div_lt_of_lt_mul (by rw [Nat.mul_comm]; exact Kn)
     have QL : q % i.size < i.size := Nat.mod_lt _ h0
     have GO : news[q / i.size]? = some news[q / i.size] := List.getElem?_eq_getElem Kp
     have xB := S.Ac _ (List.getElem_mem Kp)
     have Ko : (news[q / i.size])[q % i.size]? = some ((news[q / i.size])[q % i.size]'(by omega)) := List.getElem?_eq_getElem (by omega)
     obtain ⟨v',e1,e2⟩ := S.rv _ _ _ _ GO Ko
     have : q / i.size * i.size + q % i.size = q := by rw [Nat.mul_comm]; exact Nat.div_add_mod q i.size
     rw [this,hq] at e1
     cases e1
     exact RV.ob e2 (ix _ (List.getElem_mem Kp) _ (List.getElem_mem _))
   have vB : ∀ ad : Option Addr,∀ cc,(Builtin.firstCells i.size 0 (.slice ad 0 cc)).run K.P w.drew = .ok #[] w.drew := by
     intro ad cc
     cases ad with
     | none => simp [Builtin.firstCells]
     | some q => simp [Builtin.firstCells,loadCells,loadCellsFrom]
   split at hy
   · -- nothing yet
     rename_i e1
     rw [e1] at pb
     simp only [RV] at pb
     obtain ⟨ad,pb⟩ := pb
     split at hy
     · rename_i hb
       obtain ⟨Le,Ng,hu⟩ := hb
       have hb : news.length * i.bytes ≤ 140737488355328 ∧ 0 < i.bytes := ⟨Le,Ng⟩
       simp only [Option.some.injEq,Prod.mk.injEq] at hy
       obtain ⟨rfl,rfl⟩ := hy
       by_cases vv : news.length = 0
       · have dm : news = [] := List.eq_nil_of_length_eq_zero vv
         subst dm
         have Et : vals = [] := List.eq_nil_of_length_eq_zero (by simpa using S.len)
         subst Et
         have nP := gP (ty := o.type) mS hi s5 xl ad 0 0 0 (a.eval x) #[] S.lenOf (S.cells w (.inl rfl)) (by omega)
         refine vz hr hr hd h0 hu (ad := ad) ?_
         rw [iL,pb,nP]
         cases ad <;> simp [storeCells]
       · have nP := gg (ty := o.type) mS hi hz s5 xl ad 0 0 news.length (a.eval x) vals.toArray #[] S.lenOf (S.cells w.drew (.inr rfl)) (vB ad 0) (by omega) (by simpa using hb.1) hb.2
         have o_ := grownCap_ge w (0 + news.length) 0 e
         have vm := grownCap_le_maxLen w (0 + news.length) 0 e (by
           have := Nat.le_mul_of_pos_right news.length hb.2
           simp only [maxLen]; omega)
         have := iN hr hr (fun _ h => h) (fun _ h => h) (o := o) hd (e := e) (n := 0) (m := news.length) (A := []) (news := news) (olds := []) (vals := vals)
           (rest := (Builtin.zeroCells z.cells (grownCap w (0 + news.length) 0 e - (0 + news.length))).toList) h0 hu hu rfl rfl (by simp) S.Ac (by simp) S.gO (by simp) S.len (by simp) S.rv
           (cap := grownCap w (0 + news.length) 0 e) (by
             have h9 := qW (sz := i.size) o_
             simp only [List.length_append,List.length_nil,S.len,eX,qq]
             simp only [Nat.zero_add] at h9 ⊢
             exact h9) vm o_ (by
             rw [iL,pb,nP]
             exact qV _ _ (by simp))
         simpa using this
     · simp at hy
   · -- a row
     rename_i l s0 i0 n e1
     rw [e1] at pb
     simp only [RV] at pb
     obtain ⟨ad,cc,h1,h2,h3,h4,h5⟩ := pb
     split at hy
     · rename_i r hl
       split at hy
       · rename_i dV
         obtain ⟨rfl,nQ,rfl,xk,hb,sH,Ia,hu⟩ := dV
         simp only [Option.some.injEq,Prod.mk.injEq] at hy
         obtain ⟨rfl,rfl⟩ := hy
         have Kq : (r.els.take n).length = n := by simp; omega
         have BF : ∀ cs ∈ r.els.take n,cs.length = i.size := fun cs b5 => by rw [← nQ]; exact (hr.rows l r hl).2.1 cs (List.mem_of_mem_take b5)
         have GN : ∀ cs ∈ r.els.take n,∀ q ∈ ax cs,H q ≠ .unused := fun cs b5 => hr.dA l r hl cs (List.mem_of_mem_take b5)
         have BH := hr.kill l (by rw [hl]; simp)
         have H9 : bG H l .dead (l.app d) = .unused := by rw [aq _ _ (Ne.symm Ia)]; exact hu
         have GM : ∀ q,live (bG H l .dead) q → live H q := by
           rintro q ⟨r',h⟩
           by_cases e : q = l
           · subst e; simp at h
           · rw [aq _ _ e] at h; exact ⟨r',h⟩
         have Nf : ∀ q,H q ≠ .unused → bG H l .dead q ≠ .unused := by
           intro q h
           by_cases e : q = l
           · subst e; simp
           · rw [aq _ _ e]; exact h
         by_cases Eu : cc = 0
         · subst Eu
           have sX : n = 0 := by omega
           subst sX
           by_cases vv : news.length = 0
           · have dm : news = [] := List.eq_nil_of_length_eq_zero vv
             subst dm
             have Et : vals = [] := List.eq_nil_of_length_eq_zero (by simpa using S.len)
             subst Et
             have nP := gP (ty := o.type) mS hi s5 xl ad 0 0 0 (a.eval x) #[] S.lenOf (S.cells w (.inl rfl)) (by omega)
             have := vz hr BH (o := o) hd h0 H9 (ad := ad) (by
               rw [iL,h1,nP]
               cases ad <;> simp [storeCells])
             simpa using this
           · have nP := gg (ty := o.type) mS hi hz s5 xl ad 0 0 news.length (a.eval x) vals.toArray #[] S.lenOf (S.cells w.drew (.inr rfl)) (vB ad 0) (by omega) (by simpa using hb) sH
             have o_ := grownCap_ge w (0 + news.length) 0 e
             have vm := grownCap_le_maxLen w (0 + news.length) 0 e (by
               have := Nat.le_mul_of_pos_right (0 + news.length) sH
               simp only [maxLen]; omega)
             have := iN hr BH GM Nf (o := o) hd (e := e) (n := 0) (m := news.length) (A := []) (news := news) (olds := []) (vals := vals)
               (rest := (Builtin.zeroCells z.cells (grownCap w (0 + news.length) 0 e - (0 + news.length))).toList) h0 hu H9 rfl rfl (by simp) S.Ac (by simp) S.gO (by simp) S.len (by simp) S.rv
               (cap := grownCap w (0 + news.length) 0 e) (by
                 have h9 := qW (sz := i.size) o_
                 simp only [List.length_append,List.length_nil,S.len,eX,qq]
                 simp only [Nat.zero_add] at h9 ⊢
                 exact h9) vm o_ (by
                 rw [iL,h1,nP]
                 exact qV _ _ (by simp))
             simpa using this
         · rcases h5 ⟨r,hl⟩ with h6 | ⟨g,Sz,g1,rfl,g3,g4⟩
           · exact absurd h6 Eu
           · obtain ⟨cur,e0,cap,k1,k2,k3,k4,k5⟩ := (hr.rows l r hl).block g1
             have hS : cur.size = Sz := by
               unfold lY at g3
               simp only [k1] at g3
               simpa using g3
             have BI : cc * i.size = cur.size := by rw [hS,← g4]; simp
             have Lf : n * i.size ≤ cur.size := by rw [← BI]; exact Nat.mul_le_mul_right _ h2
             have PK : cap = cc := by
               rw [nQ] at k2
               rw [k2] at BI
               exact (Nat.eq_of_mul_eq_mul_right h0 BI).symm
             have NQ : ∀ i' j cs x0,(r.els.take n)[i']? = some cs → cs[j]? = some x0 → ∃ v,(cur.toList.take (n * i.size))[i' * i.size + j]? = some v ∧ RV w β H (Im K β H) x0 v := by
               intro i' j cs x0 eJ jB
               rw [List.getElem?_take] at eJ
               split at eJ
               · rename_i cj
                 obtain ⟨v,q1,q2⟩ := k5 i' j cs x0 eJ jB
                 rw [nQ] at q1
                 refine ⟨v,?_,q2⟩
                 have GL : j < i.size := by
                   have := (hr.rows l r hl).2.1 cs (List.mem_of_getElem? eJ)
                   have := (List.getElem?_eq_some_iff.1 jB).1
                   omega
                 have jl : i' * i.size + j < n * i.size := by
                   have := Nat.mul_le_mul_right i.size (show i' + 1 ≤ n by omega)
                   rw [Nat.add_mul] at this; omega
                 rw [List.getElem?_take,if_pos jl]
                 simpa using q1
               · simp at eJ
             have nz : (cur.toList.take (n * i.size)).length = n * i.size := by simp; omega
             by_cases xD : n + news.length ≤ cc
             · -- within the room
               have nP := gP (ty := o.type) mS hi s5 xl (some ⟨g,0 * i.size,none⟩) n cc news.length (a.eval x) vals.toArray S.lenOf (S.cells w (.inl rfl)) xD
               have yV : n * i.size + vals.length ≤ cur.size := by
                 rw [S.len,← BI,← Nat.add_mul]
                 exact Nat.mul_le_mul_right _ xD
               have BG := run_storeCells_at K.P g (n * i.size) e0 vals 0 cur w k1 (by simpa using yV) yW
               simp only [Nat.add_zero] at BG
               have ny : (cur.toList.take (n * i.size) ++ vals ++ cur.toList.drop (n * i.size + vals.length)).toArray.size = cur.size := by
                 simp only [List.size_toArray,List.length_append,List.length_take,List.length_drop,Array.length_toList]
                 omega
               have ld := hr.setRow l (r' := ⟨i.size,r.els.take n ++ news⟩) (cap := cap) hl g1 k1 ny nQ.symm k2 k3 (by simp; omega)
                 (by
                   intro cs b5
                   rw [nQ]
                   rcases List.mem_append.1 b5 with h | h
                   · exact BF cs h
                   · exact S.Ac cs h)
                 (by
                   intro cs b5
                   rcases List.mem_append.1 b5 with h | h
                   · exact GN cs h
                   · exact S.gO cs h)
                 (by
                   intro i' j cs x0 eJ jB
                   rw [nQ]
                   obtain ⟨v,q1,q2⟩ := comb (r.els.take n) news Kq BF S.Ac (cur.toList.take (n * i.size)) vals (cur.toList.drop (n * i.size + vals.length)) nz S.len NQ S.rv i' j cs x0 eJ jB
                   exact ⟨v,by simpa using q1,q2⟩)
               have nO := ld.relabel l (l.app d) (r := ⟨i.size,r.els.take n ++ news⟩) (by simp) (by rw [aq _ _ (Ne.symm Ia)]; exact hu) (Lb.iN l d)
               rw [Er] at nO
               have Ev := nO.step (Below.refl _ _) (d := some d) (x := .sl (l.app d) i.size 0 (n + news.length)) (v := .slice (some ⟨g,0 * i.size,none⟩) (n + news.length) cc) (by simpa using hd)
                 (fun _ => by
                   simp only [RV]
                   refine ⟨_,_,rfl,xD,h3,by simp,fun _ => .inr ⟨g,cur.size,by simp [g1],by simp,?_,by simpa using BI⟩⟩
                   exact lH k1 ny g cur.size (by unfold lY; simp [k1])) (by simp [AV.aI])
               refine ⟨_,_,_,_,?_,.inl rfl,Ev⟩
               rw [iL,h1,nP]
               simp only [c9,Nat.zero_mul,Nat.zero_add,BG,Result.andThen_ok]
             · -- a new block
               have nP := gg (ty := o.type) mS hi hz s5 xl (some ⟨g,0 * i.size,none⟩) n cc news.length (a.eval x) vals.toArray (cur.toList.take (n * i.size)).toArray S.lenOf (S.cells w.drew (.inr rfl))
                 (run_firstCells_some (P := K.P) w.drew i.size n ⟨g,0 * i.size,none⟩ n cc _ nz (fun j v hj => by
                   rw [c9,Nat.zero_mul,Nat.zero_add]
                   have : w.cell? ⟨g,j,none⟩ = some v := by
                     rw [cell_of_row w g _ cur e0 (0,0) k1]
                     rw [List.getElem?_take] at hj
                     split at hj
                     · simpa using hj
                     · simp at hj
                   simpa using this)) (by omega) hb sH
               have o_ := grownCap_ge w (n + news.length) cc e
               have vm := grownCap_le_maxLen w (n + news.length) cc e (by
                 have := Nat.le_mul_of_pos_right (n + news.length) sH
                 simp only [maxLen]; omega)
               have := iN hr BH GM Nf (o := o) hd (e := e) (n := n) (m := news.length) (A := r.els.take n) (news := news) (olds := cur.toList.take (n * i.size)) (vals := vals)
                 (rest := (Builtin.zeroCells z.cells (grownCap w (n + news.length) cc e - (n + news.length))).toList) h0 hu H9 Kq rfl BF S.Ac GN S.gO nz S.len NQ S.rv
                 (cap := grownCap w (n + news.length) cc e) (by
                   have h9 := qW (sz := i.size) o_
                   simp only [List.length_append,nz,S.len,eX,qq]
                   rw [Nat.add_mul] at h9
                   exact h9) vm o_ (by
                   rw [iL,h1,nP]
                   exact qV _ _ (by simp))
               exact this
       · simp at hy
     · simp at hy
   · -- a row whose room is known
     rename_i l s0 i0 n c0 e1
     rw [e1] at pb
     simp only [RV] at pb
     obtain ⟨ad,h1,h2,h3,h4,h5⟩ := pb
     split at hy
     · rename_i r hl
       split at hy
       · rename_i dV
         obtain ⟨rfl,nQ,rfl,xk,sH,Ia⟩ := dV
         have Kq : (r.els.take n).length = n := by simp; omega
         have BF : ∀ cs ∈ r.els.take n,cs.length = i.size := fun cs b5 => by rw [← nQ]; exact (hr.rows l r hl).2.1 cs (List.mem_of_mem_take b5)
         have GN : ∀ cs ∈ r.els.take n,∀ q ∈ ax cs,H q ≠ .unused := fun cs b5 => hr.dA l r hl cs (List.mem_of_mem_take b5)
         split at hy
         · rename_i xD
           split at hy
           · rename_i Lg
             simp only [Option.some.injEq,Prod.mk.injEq] at hy
             obtain ⟨rfl,rfl⟩ := hy
             have nP := gP (ty := o.type) mS hi s5 xl ad n c0 news.length (a.eval x) vals.toArray S.lenOf (S.cells w (.inl rfl)) xD
             by_cases Eu : c0 = 0
             · subst Eu
               have sX : n = 0 := by omega
               subst sX
               have dm : news = [] := List.eq_nil_of_length_eq_zero (by omega)
               subst dm
               have Et : vals = [] := List.eq_nil_of_length_eq_zero (by simpa using S.len)
               subst Et
               have hH : bG H l (.live ⟨i.size,r.els.take 0 ++ [] ++ r.els.drop (0 + ([] : List (List AV)).length)⟩) = H := by
                 funext q
                 by_cases e : q = l
                 · subst e; simp only [jk,List.take_zero,List.nil_append,List.length_nil,Nat.add_zero,List.drop_zero,← nQ,hl]
                 · rw [aq _ _ e]
               rw [hH]
               have Ev := hr.step (Below.refl _ _) (d := some d) (x := .slk l i.size 0 (0 + ([] : List (List AV)).length) 0) (v := .slice ad 0 0) (by simpa using hd)
                 (fun _ => by
                   simp only [RV]
                   exact ⟨ad,by simp,by simp,by simp [maxLen],by simp,fun _ => .inl rfl⟩) (fun _ q hq => by simp [AV.aI] at hq; subst hq; rw [hl]; simp)
               refine ⟨_,_,_,_,?_,.inl rfl,Ev⟩
               rw [iL,h1,nP]
               cases ad <;> simp [storeCells]
             · rcases h5 ⟨r,hl⟩ with h6 | ⟨g,Sz,g1,rfl,g3,g4⟩
               · exact absurd h6 Eu
               · obtain ⟨cur',w1,w2,w3⟩ := s4 hr hl g1 (i := n) (news := news) (vals := vals) Lg (by rw [nQ]; exact S.Ac) S.gO (by rw [nQ]; exact S.len) (by rw [nQ]; exact S.rv) yW
                 rw [nQ] at w1 w2
                 have Ev := w2.step (Below.refl _ _) (d := some d) (x := .slk l i.size 0 (n + news.length) c0) (v := .slice (some ⟨g,0 * i.size,none⟩) (n + news.length) c0) (by simpa using hd)
                   (fun _ => by
                     simp only [RV]
                     exact ⟨_,rfl,xD,h3,by simp,fun _ => .inr ⟨g,Sz,g1,rfl,by rw [w3]; exact g3,g4⟩⟩) (fun _ q hq => by simp [AV.aI] at hq; subst hq; simp)
                 refine ⟨_,_,_,_,?_,.inl rfl,Ev⟩
                 rw [iL,h1,nP]
                 simp only [c9,Nat.zero_mul,Nat.zero_add,w1,Result.andThen_ok]
           · simp at hy
         · rename_i xD
           split at hy
           · rename_i qX
             obtain ⟨hb,hu⟩ := qX
             simp only [Option.some.injEq,Prod.mk.injEq] at hy
             obtain ⟨rfl,rfl⟩ := hy
             have o_ := grownCap_ge w (n + news.length) c0 e
             have vm := grownCap_le_maxLen w (n + news.length) c0 e (by
               have := Nat.le_mul_of_pos_right (n + news.length) sH
               simp only [maxLen]; omega)
             have olds : ∃ olds : List Value,olds.length = n * i.size ∧ (∀ i' j cs x0,(r.els.take n)[i']? = some cs → cs[j]? = some x0 → ∃ v,olds[i' * i.size + j]? = some v ∧ RV w β H (Im K β H) x0 v) ∧
                 (Builtin.firstCells i.size n (.slice ad n c0)).run K.P w.drew = .ok olds.toArray w.drew := by
               by_cases Eu : c0 = 0
               · have sX : n = 0 := by omega
                 subst sX
                 exact ⟨[],by simp,by simp,by simpa using vB ad c0⟩
               · rcases h5 ⟨r,hl⟩ with h6 | ⟨g,Sz,g1,rfl,g3,g4⟩
                 · exact absurd h6 Eu
                 · obtain ⟨cur,e0,cap,k1,k2,k3,k4,k5⟩ := (hr.rows l r hl).block g1
                   rw [nQ] at k2
                   have Lf : n * i.size ≤ cur.size := by rw [k2]; exact Nat.mul_le_mul_right _ (by omega)
                   have nz : (cur.toList.take (n * i.size)).length = n * i.size := by simp; omega
                   refine ⟨cur.toList.take (n * i.size),nz,?_,?_⟩
                   · intro i' j cs x0 eJ jB
                     rw [List.getElem?_take] at eJ
                     split at eJ
                     · rename_i cj
                       obtain ⟨v,q1,q2⟩ := k5 i' j cs x0 eJ jB
                       rw [nQ] at q1
                       refine ⟨v,?_,q2⟩
                       have GL : j < i.size := by
                         have := (hr.rows l r hl).2.1 cs (List.mem_of_getElem? eJ)
                         have := (List.getElem?_eq_some_iff.1 jB).1
                         omega
                       have jl : i' * i.size + j < n * i.size := by
                         have := Nat.mul_le_mul_right i.size (show i' + 1 ≤ n by omega)
                         rw [Nat.add_mul] at this; omega
                       rw [List.getElem?_take,if_pos jl]
                       simpa using q1
                     · simp at eJ
                   · exact run_firstCells_some (P := K.P) w.drew i.size n ⟨g,0 * i.size,none⟩ n c0 _ nz (fun j v hj => by
                       rw [c9,Nat.zero_mul,Nat.zero_add]
                       have : w.cell? ⟨g,j,none⟩ = some v := by
                         rw [cell_of_row w g _ cur e0 (0,0) k1]
                         rw [List.getElem?_take] at hj
                         split at hj
                         · simpa using hj
                         · simp at hj
                       simpa using this)
             obtain ⟨olds,Ib,Kr,NR⟩ := olds
             have nP := gg (ty := o.type) mS hi hz s5 xl ad n c0 news.length (a.eval x) vals.toArray olds.toArray S.lenOf (S.cells w.drew (.inr rfl)) NR (by omega) hb sH
             have := iN hr hr (fun _ h => h) (fun _ h => h) (o := o) hd (e := e) (n := n) (m := news.length) (A := r.els.take n) (news := news) (olds := olds) (vals := vals)
               (rest := (Builtin.zeroCells z.cells (grownCap w (n + news.length) c0 e - (n + news.length))).toList) h0 hu hu Kq rfl BF S.Ac GN S.gO Ib S.len Kr S.rv
               (cap := grownCap w (n + news.length) c0 e) (by
                 have h9 := qW (sz := i.size) o_
                 simp only [List.length_append,Ib,S.len,eX,qq]
                 rw [← Nat.add_mul]
                 exact h9) vm o_ (by
                 rw [iL,h1,nP]
                 exact qV _ _ (by simp))
             exact this
           · simp at hy
       · simp at hy
     · simp at hy
   · simp at hy
end
end Go.Am
