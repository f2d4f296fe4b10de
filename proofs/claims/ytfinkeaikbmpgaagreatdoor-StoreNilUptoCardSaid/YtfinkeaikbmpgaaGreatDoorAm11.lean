import Derived.Test.YtfinkeaikbmpgaaGreatDoorKAm36
set_option linter.unusedSimpArgs false
set_option linter.unusedVariables false
set_option linter.unnecessarySimpa false
set_option linter.defProp false
/- THE ABSTRACT MACHINE, part 11: append, to its end. -/
namespace Go.Am
open Go Go.RowKit
theorem mD {γ:Type} (f:Lb→γ) (l:Lb) (x y:γ):aD (aD f l x) l y=aD f l y:=by
 funext q;by_cases h:q=l
 ·subst h;simp
 ·simp[ah _ _ h]
theorem comb {R:AV→Value→Prop} {sz n:Nat} (A B:List (List AV)) (hA:A.length=n) (kD:∀cs∈A,cs.length=sz) (w7:∀cs∈B,cs.length=sz) (olds vals rest:List Value) (ho:olds.length=n*sz) (hv:vals.length=B.length*sz)
  (h1:∀i j cs x,A[i]?=some cs→cs[j]?=some x→∃v,olds[i*sz+j]?=some v∧R x v)
  (h2:∀i j cs x,B[i]?=some cs→cs[j]?=some x→∃v,vals[i*sz+j]?=some v∧R x v) :
  ∀i j cs x,(A++B)[i]?=some cs→cs[j]?=some x→∃v,(olds++vals++rest)[i*sz+j]?=some v∧R x v:=by
 intro i j cs x hi hj;by_cases jI:i<n
 ·rw[List.getElem?_append_left (by omega)] at hi;obtain⟨v,q1,q2⟩:=h1 i j cs x hi hj;refine⟨v,?_,q2⟩;have:i*sz+j<olds.length:=(List.getElem?_eq_some_iff.1 q1).1;rw[List.append_assoc,List.getElem?_append_left this];exact q1
 ·rw[List.getElem?_append_right (by omega),hA] at hi;obtain⟨v,q1,q2⟩:=h2 (i - n) j cs x hi hj;refine⟨v,?_,q2⟩;have h3:(i - n)*sz+j<vals.length:=(List.getElem?_eq_some_iff.1 q1).1
  have h4:i*sz+j=olds.length+((i - n)*sz+j):=by
   rw[ho];have:i=n+(i - n):=by omega
   rw[this,Nat.add_mul];have e:n+(i - n) - n=i - n:=by omega
   rw[e];omega
  rw[h4,List.append_assoc,List.getElem?_append_right (by omega),List.getElem?_append_left (by omega)];rw[show olds.length+((i - n)*sz+j) - olds.length=(i - n)*sz+j by omega];exact q1
section
variable {K:Kx} {β:Lb→Option Nat} {env:Env} {H:Hp} {a:Act} {w:World}
theorem gr (hr:aj K β env H a w) {H':Hp} {lb:Lb} {b:Option Nat} {w':World} (gw:cZ w w') (hu:H lb= .unused) (hb:∀g,b=some g→w.heap.size≤g)
  (hH:∀q,q≠lb→live H' q→live H q) (ls:List Lb) (oR:∀q∈ls,H q≠ .unused) :
  bC w w' β (aD β lb b) H H' (Im K β H) (Im K (aD β lb b) H') ls where
 im k hk hs:=⟨⟨hk.1,fun q hq=>by
  by_cases e:q=lb
  ·subst e;simp only[bP];intro h;have:=hb k h;omega
  ·rw[ah _ _ e];exact hk.2 q (hH q e hq)⟩,Nat.lt_of_lt_of_le hs gw.size,gw.block k hs⟩
 lb q hq gJ:=by
  have e:q≠lb:=fun e=>oR q hq (e▸hu)
  refine⟨hH q e gJ,ah _ _ e,fun g S _ hS=> ?_⟩;unfold cG at *
  rwa[gw.block g (iJ hS)]
theorem bL (hr:aj K β env H a w) {Hk:Hp} (hk:aj K β env Hk a w) (sS:∀q,live Hk q→live H q) (sU:∀q,H q≠ .unused→Hk q≠ .unused) {o:Oper} {d n m sz:Nat} {lb:Lb} (hd:d<K.N) {e:TypeId} {cap:Nat} {A news:List (List AV)} {olds vals rest:List Value}
  (h0:0<sz) (hu:H lb= .unused) (o1:Hk lb= .unused) (hA:A.length=n) (hm:news.length=m) (kD:∀cs∈A,cs.length=sz) (o2:∀cs∈news,cs.length=sz)
  (oc:∀cs∈A,∀l∈ak cs,H l≠ .unused) (rQ:∀cs∈news,∀l∈ak cs,H l≠ .unused)
  (ho:olds.length=n*sz) (hv:vals.length=news.length*sz)
  (h1:∀i j cs x,A[i]?=some cs→cs[j]?=some x→∃v,olds[i*sz+j]?=some v∧RV w β H (Im K β H) x v)
  (h2:∀i j cs x,news[i]?=some cs→cs[j]?=some x→∃v,vals[i*sz+j]?=some v∧RV w β H (Im K β H) x v)
  (dB:(olds++vals++rest).length=cap*sz) (my:cap≤maxLen) (hle:n+m≤cap)
  (cJ:(execOp a.eval o).run K.P w= .ok (.value (.slice (some ⟨w.heap.size,0,none⟩) (n+m) cap)) (w.drew.alloc (.cells (olds++vals++rest).toArray e))) :
  cn K env a w o (some d) (.sl lb sz 0 (n+m)) (aD Hk lb (.live ⟨sz,A++news⟩)):=by
 have gw:cZ w (w.drew.alloc (.cells (olds++vals++rest).toArray e)):=(er w).trans (aZ w.drew _);have aT:=gr hr (H':=aD Hk lb (.live ⟨sz,A++news⟩)) (lb:=lb) (b:=some w.heap.size) gw hu (by simp) (fun q hq ⟨r,h⟩=>by rw[ah _ _ hq] at h;exact sS q ⟨r,h⟩)
 have fM:∀cs∈A++news,cs.length=sz∧∀l∈ak cs,H l≠ .unused:=by
  intro cs aN;rcases List.mem_append.1 aN with h|h
  ·exact⟨kD cs h,oc cs h⟩
  ·exact⟨o2 cs h,rQ cs h⟩
 have gp:eO (w.drew.alloc (.cells (olds++vals++rest).toArray e)) (aD β lb (some w.heap.size)) (aD Hk lb (.live ⟨sz,A++news⟩))
   (Im K (aD β lb (some w.heap.size)) (aD Hk lb (.live ⟨sz,A++news⟩))) lb ⟨sz,A++news⟩:=by
  refine⟨h0,fun cs aN=>(fM cs aN).1,?_⟩;simp only[bP];refine⟨(olds++vals++rest).toArray,e,cap,heap_alloc_new w.drew _,by simp only[List.size_toArray];exact dB,my,by simp;omega,fun i j cs x hi hj=> ?_⟩;obtain⟨v,q1,q2⟩:=comb A news hA kD o2 olds vals rest ho hv h1 h2 i j cs x hi hj;exact⟨v,by simpa using q1,RV.mono _ _ (aT _ (fun q hq=>(fM cs (List.mem_of_getElem? hi)).2 q (aL _ _ _ hj q hq))) q2⟩
 have h3:=hk.ew lb o1 gw (some w.heap.size) (by simp) (fun cs aN q hq=>sU q ((fM cs aN).2 q hq)) gp
 have h4:=h3.step (Below.refl _ _) (d:=some d) (x:= .sl lb sz 0 (n+m)) (v:= .slice (some ⟨w.heap.size,0,none⟩) (n+m) cap) (by simpa using hd)
  (fun _=>by
   simp only[RV];refine⟨_,_,rfl,hle,my,by simp,fun _=> .inr ⟨w.heap.size,cap*sz,by simp,by simp,?_,by simp⟩⟩;have hh:(w.drew.alloc (.cells (olds++vals++rest).toArray e)).heap[w.heap.size]?=some (.cells (olds++vals++rest).toArray e):=heap_alloc_new w.drew _;unfold cG;rw[hh];simp only[List.size_toArray,dB]) (by simp[AV.aw])
 exact⟨_,_,_,_,cJ,.inl rfl,h4⟩
theorem gT (hr:aj K β env H a w) {Hk:Hp} (hk:aj K β env Hk a w) {o:Oper} {d sz:Nat} {lb:Lb} (hd:d<K.N) (h0:0<sz) (o1:Hk lb= .unused) {ad:Option Addr}
  (cJ:(execOp a.eval o).run K.P w= .ok (.value (.slice ad 0 0)) w) :
  cn K env a w o (some d) (.sl lb sz 0 0) (aD Hk lb (.live ⟨sz,[]⟩)):=by
 have h3:=hk.ew lb o1 (r:=⟨sz,[]⟩) (Below.refl _ _) none (by simp) (by simp) ⟨h0,by simp,by simp⟩
 have h4:=h3.step (Below.refl _ _) (d:=some d) (x:= .sl lb sz 0 0) (v:= .slice ad 0 0) (by simpa using hd)
  (fun _=>by simp only[RV];exact⟨_,0,rfl,by omega,by simp[maxLen],by simp,fun _=> .inl rfl⟩) (by simp[AV.aw])
 exact⟨_,_,_,_,cJ,.inl rfl,h4⟩
theorem gU {α:Type} (A N:List α) (i:Nat) (h:i+N.length≤A.length) (k:Nat):(A.take i++N++A.drop (i+N.length))[k]?=if k<i then A[k]? else if k<i+N.length then N[k - i]? else A[k]?:=by
 have ht:(A.take i).length=i:=by rw[List.length_take];omega
 rw[List.append_assoc];by_cases h1:k<i
 ·rw[if_pos h1,List.getElem?_append_left (by omega),List.getElem?_take,if_pos h1]
 ·rw[if_neg h1,List.getElem?_append_right (by omega),ht];by_cases h2:k<i+N.length
  ·rw[if_pos h2,List.getElem?_append_left (by omega)]
  ·rw[if_neg h2,List.getElem?_append_right (by omega),List.getElem?_drop]
   congr 1;omega
theorem fR (hr:aj K β env H a w) {l:Lb} {r:Row} {g:Nat} (hl:H l= .live r) (hb:β l=some g) {i:Nat} {news:List (List AV)} {vals:List Value} (jI:i+news.length≤r.aQ.length)
  (o2:∀cs∈news,cs.length=r.sz) (rQ:∀cs∈news,∀q∈ak cs,H q≠ .unused) (hv:vals.length=news.length*r.sz)
  (h2:∀i j cs x,news[i]?=some cs→cs[j]?=some x→∃v,vals[i*r.sz+j]?=some v∧RV w β H (Im K β H) x v) (bE:∀v∈vals,v.oneCell'=true) :
  ∃cur',(storeCells ⟨g,i*r.sz,none⟩ vals).run K.P w= .ok () (w.setRow g cur') ∧
   aj K β env (aD H l (.live ⟨r.sz,r.aQ.take i++news++r.aQ.drop (i+news.length)⟩)) a (w.setRow g cur')∧cG (w.setRow g cur') g=cG w g:=by
 obtain⟨cur,e0,cap,k1,k2,k3,k4,k5⟩:=(hr.rows l r hl).block hb;have cV:0<r.sz:=(hr.rows l r hl).1
 have jk:i*r.sz+vals.length≤cur.size:=by
  rw[hv,k2,←Nat.add_mul];exact Nat.mul_le_mul_right _ (by omega)
 have kE:=run_storeCells_at K.P g (i*r.sz) e0 vals 0 cur w k1 (by simpa using jk) bE;simp only[Nat.add_zero] at kE
 have dA:(cur.toList.take (i*r.sz)++vals++cur.toList.drop (i*r.sz+vals.length)).toArray.size=cur.size:=by
  simp only[List.size_toArray,List.length_append,List.length_take,List.length_drop,Array.length_toList];omega
 have hlen:(r.aQ.take i++news++r.aQ.drop (i+news.length)).length=r.aQ.length:=by simp;omega
 have jQ:=hr.setRow l (r':=⟨r.sz,r.aQ.take i++news++r.aQ.drop (i+news.length)⟩) (cap:=cap) hl hb k1 dA rfl k2 k3 (by simp only;omega)
  (by
   intro cs aN;rcases List.mem_append.1 aN with h|h
   ·rcases List.mem_append.1 h with h|h
    ·exact(hr.rows l r hl).2.1 cs (List.mem_of_mem_take h)
    ·exact o2 cs h
   ·exact(hr.rows l r hl).2.1 cs (List.mem_of_mem_drop h))
  (by
   intro cs aN;rcases List.mem_append.1 aN with h|h
   ·rcases List.mem_append.1 h with h|h
    ·exact hr.aK l r hl cs (List.mem_of_mem_take h)
    ·exact rQ cs h
   ·exact hr.aK l r hl cs (List.mem_of_mem_drop h))
  (by
   intro i' j cs x0 a7 cB;simp only at a7;rw[gU _ _ _ jI] at a7;have ec:=gU cur.toList vals (i*r.sz) (by simpa using jk);simp only[List.getElem?_toArray,ec]
   have oY:j<r.sz:=by
    have h9:=(List.getElem?_eq_some_iff.1 cB).1
    have h8:cs.length=r.sz:=by
     split at a7
     ·exact(hr.rows l r hl).2.1 cs (List.mem_of_getElem? a7)
     ·split at a7
      ·exact o2 cs (List.mem_of_getElem? a7)
      ·exact(hr.rows l r hl).2.1 cs (List.mem_of_getElem? a7)
    omega
   by_cases h1:i'<i
   ·rw[if_pos h1] at a7;have:=Nat.mul_le_mul_right r.sz (show i'+1≤i by omega);rw[Nat.add_mul] at this;rw[if_pos (by omega)];obtain⟨v,q1,q2⟩:=k5 i' j cs x0 a7 cB;exact⟨v,by simpa using q1,q2⟩
   ·rw[if_neg h1] at a7;have h3:=Nat.mul_le_mul_right r.sz (show i≤i' by omega);rw[if_neg (by omega)];by_cases h4:i'<i+news.length
    ·rw[if_pos h4] at a7;have:=Nat.mul_le_mul_right r.sz (show i'+1≤i+news.length by omega);rw[Nat.add_mul,Nat.add_mul,Nat.one_mul] at this;rw[if_pos (by rw[hv];omega)];obtain⟨v,q1,q2⟩:=h2 (i' - i) j cs x0 a7 cB;refine⟨v,?_,q2⟩;rw[←q1];congr 1;rw[Nat.sub_mul];omega
    ·rw[if_neg h4] at a7;have:=Nat.mul_le_mul_right r.sz (show i+news.length≤i' by omega);rw[Nat.add_mul] at this;rw[if_neg (by rw[hv];omega)];obtain⟨v,q1,q2⟩:=k5 i' j cs x0 a7 cB;exact⟨v,by simpa using q1,q2⟩)
 refine⟨_,kE,jQ,?_⟩;have:cG w g=some cur.size:=by unfold cG;simp[k1]
 rw[this];exact cL k1 dA g cur.size this
theorem ff {v:Value} {w1:World} {e:TypeId} (x y:Array Value) (h:x=y) :
  (Result.ok v (w1.alloc (.cells x e))).andThen (fun v w'=> .ok (Next.value v) w')= .ok (.value v) (w1.alloc (.cells y e)):=by
 subst h;rfl
theorem fg {m C sz:Nat} (h:m≤C):m*sz+(C - m)*sz=C*sz:=by
 rw[←Nat.add_mul];congr 1;omega
theorem aU (z:Array Value) (n:Nat):(Builtin.zeroCells z n).toList.length=n*z.size:=by simp[size_zeroCells]
theorem rR (hr : aj K β env H a w) {o : Oper} {c : Call} {s x : Operand} {s' x' : O} {st xt e : TypeId} {i : TypeInfo} {z : Value} {dx : TypeDesc} {d : Nat} (hd : d < K.N) (ho : o.op = .call c) (hc : c.callee = .builtin .append)
   (ha : c.args.toList = [s,x]) (o3 : c.argTypes.toList = [st,xt]) (dV : K.P.underlying st = some (.slice e)) (hi : K.P.info? e = some i) (hz : i.zero = some z) (eV : z.cells.size = i.size) (h0 : 0 < i.size)
   (gK : K.P.underlying xt = some dx) (iw : dx = .string ∨ ∃ e2,dx = .slice e2) (hs : co K.G s = some s') (hx : co K.G x = some x') {y : AV} {H' : Hp}
   (hy : iK i.size i.bytes d (ev env s') (ev env x') H = some (y,H')) : cn K env a w o (some d) y H' := by
 have gl : c.args = #[s,x] := by cases hh : c.args; simp_all
 have iL : c.argTypes = #[st,xt] := by cases hh : c.argTypes; simp_all
 have bJ : (execOp a.eval o).run K.P w = ((Builtin.append_ #[st,xt] o.type #[a.eval s,a.eval x]).run K.P w).andThen fun v w' => .ok (.value v) w' := by
   simp [execOp,ho,resolve,hc,gl,iL,invoke,builtin]
 unfold iK at hy
 obtain ⟨news,hn,hy⟩ := Option.bind_eq_some_iff.1 hy
 obtain ⟨vals,S⟩ := eW hr hx h0 hn
 have ey := hr.ev hs
 split at hy
 · simp at hy
 · rename_i bE
   have bE : ∀ cs ∈ news,AV.gq cs := Classical.byContradiction bE
   have jl : ∀ v ∈ vals,v.oneCell' = true := by
     intro v hv
     obtain ⟨q,hq⟩ := List.getElem?_of_mem hv
     have qQ : q < news.length * i.size := by rw [← S.len]; exact (List.getElem?_eq_some_iff.1 hq).1
     have qS : q / i.size < news.length := Nat.div_lt_of_lt_mul (by rw [Nat.mul_comm]; exact qQ)
     have vV : q % i.size < i.size := Nat.mod_lt _ h0
     have sV : news[q / i.size]? = some news[q / i.size] := List.getElem?_eq_getElem qS
     have jj := S.jP _ (List.getElem_mem qS)
     have qR : (news[q / i.size])[q % i.size]? = some ((news[q / i.size])[q % i.size]'(by omega)) := List.getElem?_eq_getElem (by omega)
     obtain ⟨v',e1,e2⟩ := S.rv _ _ _ _ sV qR
     have : q / i.size * i.size + q % i.size = q := by rw [Nat.mul_comm]; exact Nat.div_add_mod q i.size
     rw [this,hq] at e1
     cases e1
     exact RV.dZ e2 (bE _ (List.getElem_mem qS) _ (List.getElem_mem _))
   have gV : ∀ ad : Option Addr,∀ cc,(Builtin.firstCells i.size 0 (.slice ad 0 cc)).run K.P w.drew = .ok #[] w.drew := by
     intro ad cc
     cases ad with
     | none => simp [Builtin.firstCells]
     | some q => simp [Builtin.firstCells,loadCells,loadCellsFrom]
   split at hy
   · -- nothing yet
     rename_i e1
     rw [e1] at ey
     simp only [RV] at ey
     obtain ⟨ad,ey⟩ := ey
     split at hy
     · rename_i hb
       obtain ⟨rS,sW,hu⟩ := hb
       have hb : news.length * i.bytes ≤ 140737488355328 ∧ 0 < i.bytes := ⟨rS,sW⟩
       simp only [Option.some.injEq,Prod.mk.injEq] at hy
       obtain ⟨rfl,rfl⟩ := hy
       by_cases jg : news.length = 0
       · have dm : news = [] := List.eq_nil_of_length_eq_zero jg
         subst dm
         have mE : vals = [] := List.eq_nil_of_length_eq_zero (by simpa using S.len)
         subst mE
         have eT := bu (ty := o.type) dV hi gK iw ad 0 0 0 (a.eval x) #[] S.lenOf (S.cells w (.inl rfl)) (by omega)
         refine gT hr hr hd h0 hu (ad := ad) ?_
         rw [bJ,ey,eT]
         cases ad <;> simp [storeCells]
       · have eT := bg (ty := o.type) dV hi hz gK iw ad 0 0 news.length (a.eval x) vals.toArray #[] S.lenOf (S.cells w.drew (.inr rfl)) (gV ad 0) (by omega) (by simpa using hb.1) hb.2
         have gR := grownCap_ge w (0 + news.length) 0 e
         have gI := grownCap_le_maxLen w (0 + news.length) 0 e (by
           have := Nat.le_mul_of_pos_right news.length hb.2
           simp only [maxLen]; omega)
         have := bL hr hr (fun _ h => h) (fun _ h => h) (o := o) hd (e := e) (n := 0) (m := news.length) (A := []) (news := news) (olds := []) (vals := vals)
           (rest := (Builtin.zeroCells z.cells (grownCap w (0 + news.length) 0 e - (0 + news.length))).toList) h0 hu hu rfl rfl (by simp) S.jP (by simp) S.bB (by simp) S.len (by simp) S.rv
           (cap := grownCap w (0 + news.length) 0 e) (by
             have h9 := fg (sz := i.size) gR
             simp only [List.length_append,List.length_nil,S.len,aU,eV]
             simp only [Nat.zero_add] at h9 ⊢
             exact h9) gI gR (by
             rw [bJ,ey,eT]
             exact ff _ _ (by simp))
         simpa using this
     · simp at hy
   · -- a row
     rename_i l s0 i0 n e1
     rw [e1] at ey
     simp only [RV] at ey
     obtain ⟨ad,cc,h1,h2,h3,h4,h5⟩ := ey
     split at hy
     · rename_i r hl
       split at hy
       · rename_i aI
         obtain ⟨rfl,dL,rfl,kn,hb,gS,o4,hu⟩ := aI
         simp only [Option.some.injEq,Prod.mk.injEq] at hy
         obtain ⟨rfl,rfl⟩ := hy
         have qT : (r.aQ.take n).length = n := by simp; omega
         have kD : ∀ cs ∈ r.aQ.take n,cs.length = i.size := fun cs aN => by rw [← dL]; exact (hr.rows l r hl).2.1 cs (List.mem_of_mem_take aN)
         have oc : ∀ cs ∈ r.aQ.take n,∀ q ∈ ak cs,H q ≠ .unused := fun cs aN => hr.aK l r hl cs (List.mem_of_mem_take aN)
         have kF := hr.kill l (by rw [hl]; simp)
         have o1 : aD H l .dead (l.app d) = .unused := by rw [ah _ _ (Ne.symm o4)]; exact hu
         have sS : ∀ q,live (aD H l .dead) q → live H q := by
           rintro q ⟨r',h⟩
           by_cases e : q = l
           · subst e; simp at h
           · rw [ah _ _ e] at h; exact ⟨r',h⟩
         have sU : ∀ q,H q ≠ .unused → aD H l .dead q ≠ .unused := by
           intro q h
           by_cases e : q = l
           · subst e; simp
           · rw [ah _ _ e]; exact h
         by_cases mF : cc = 0
         · subst mF
           have kk : n = 0 := by omega
           subst kk
           by_cases jg : news.length = 0
           · have dm : news = [] := List.eq_nil_of_length_eq_zero jg
             subst dm
             have mE : vals = [] := List.eq_nil_of_length_eq_zero (by simpa using S.len)
             subst mE
             have eT := bu (ty := o.type) dV hi gK iw ad 0 0 0 (a.eval x) #[] S.lenOf (S.cells w (.inl rfl)) (by omega)
             have := gT hr kF (o := o) hd h0 o1 (ad := ad) (by
               rw [bJ,h1,eT]
               cases ad <;> simp [storeCells])
             simpa using this
           · have eT := bg (ty := o.type) dV hi hz gK iw ad 0 0 news.length (a.eval x) vals.toArray #[] S.lenOf (S.cells w.drew (.inr rfl)) (gV ad 0) (by omega) (by simpa using hb) gS
             have gR := grownCap_ge w (0 + news.length) 0 e
             have gI := grownCap_le_maxLen w (0 + news.length) 0 e (by
               have := Nat.le_mul_of_pos_right (0 + news.length) gS
               simp only [maxLen]; omega)
             have := bL hr kF sS sU (o := o) hd (e := e) (n := 0) (m := news.length) (A := []) (news := news) (olds := []) (vals := vals)
               (rest := (Builtin.zeroCells z.cells (grownCap w (0 + news.length) 0 e - (0 + news.length))).toList) h0 hu o1 rfl rfl (by simp) S.jP (by simp) S.bB (by simp) S.len (by simp) S.rv
               (cap := grownCap w (0 + news.length) 0 e) (by
                 have h9 := fg (sz := i.size) gR
                 simp only [List.length_append,List.length_nil,S.len,aU,eV]
                 simp only [Nat.zero_add] at h9 ⊢
                 exact h9) gI gR (by
                 rw [bJ,h1,eT]
                 exact ff _ _ (by simp))
             simpa using this
         · rcases h5 ⟨r,hl⟩ with h6 | ⟨g,Sz,g1,rfl,g3,g4⟩
           · exact absurd h6 mF
           · obtain ⟨cur,e0,cap,k1,k2,k3,k4,k5⟩ := (hr.rows l r hl).block g1
             have hS : cur.size = Sz := by
               unfold cG at g3
               simp only [k1] at g3
               simpa using g3
             have kG : cc * i.size = cur.size := by rw [hS,← g4]; simp
             have rT : n * i.size ≤ cur.size := by rw [← kG]; exact Nat.mul_le_mul_right _ h2
             have u5 : cap = cc := by
               rw [dL] at k2
               rw [k2] at kG
               exact (Nat.eq_of_mul_eq_mul_right h0 kG).symm
             have u6 : ∀ i' j cs x0,(r.aQ.take n)[i']? = some cs → cs[j]? = some x0 → ∃ v,(cur.toList.take (n * i.size))[i' * i.size + j]? = some v ∧ RV w β H (Im K β H) x0 v := by
               intro i' j cs x0 a7 cB
               rw [List.getElem?_take] at a7
               split at a7
               · rename_i dI
                 obtain ⟨v,q1,q2⟩ := k5 i' j cs x0 a7 cB
                 rw [dL] at q1
                 refine ⟨v,?_,q2⟩
                 have oY : j < i.size := by
                   have := (hr.rows l r hl).2.1 cs (List.mem_of_getElem? a7)
                   have := (List.getElem?_eq_some_iff.1 cB).1
                   omega
                 have fe : i' * i.size + j < n * i.size := by
                   have := Nat.mul_le_mul_right i.size (show i' + 1 ≤ n by omega)
                   rw [Nat.add_mul] at this; omega
                 rw [List.getElem?_take,if_pos fe]
                 simpa using q1
               · simp at a7
             have dC : (cur.toList.take (n * i.size)).length = n * i.size := by simp; omega
             by_cases iM : n + news.length ≤ cc
             · -- within the room
               have eT := bu (ty := o.type) dV hi gK iw (some ⟨g,0 * i.size,none⟩) n cc news.length (a.eval x) vals.toArray S.lenOf (S.cells w (.inl rfl)) iM
               have jk : n * i.size + vals.length ≤ cur.size := by
                 rw [S.len,← kG,← Nat.add_mul]
                 exact Nat.mul_le_mul_right _ iM
               have kE := run_storeCells_at K.P g (n * i.size) e0 vals 0 cur w k1 (by simpa using jk) jl
               simp only [Nat.add_zero] at kE
               have dA : (cur.toList.take (n * i.size) ++ vals ++ cur.toList.drop (n * i.size + vals.length)).toArray.size = cur.size := by
                 simp only [List.size_toArray,List.length_append,List.length_take,List.length_drop,Array.length_toList]
                 omega
               have jQ := hr.setRow l (r' := ⟨i.size,r.aQ.take n ++ news⟩) (cap := cap) hl g1 k1 dA dL.symm k2 k3 (by simp; omega)
                 (by
                   intro cs aN
                   rw [dL]
                   rcases List.mem_append.1 aN with h | h
                   · exact kD cs h
                   · exact S.jP cs h)
                 (by
                   intro cs aN
                   rcases List.mem_append.1 aN with h | h
                   · exact oc cs h
                   · exact S.bB cs h)
                 (by
                   intro i' j cs x0 a7 cB
                   rw [dL]
                   obtain ⟨v,q1,q2⟩ := comb (r.aQ.take n) news qT kD S.jP (cur.toList.take (n * i.size)) vals (cur.toList.drop (n * i.size + vals.length)) dC S.len u6 S.rv i' j cs x0 a7 cB
                   exact ⟨v,by simpa using q1,q2⟩)
               have eR := jQ.relabel l (l.app d) (r := ⟨i.size,r.aQ.take n ++ news⟩) (by simp) (by rw [ah _ _ (Ne.symm o4)]; exact hu) (Lb.bL l d)
               rw [mD] at eR
               have rU := eR.step (Below.refl _ _) (d := some d) (x := .sl (l.app d) i.size 0 (n + news.length)) (v := .slice (some ⟨g,0 * i.size,none⟩) (n + news.length) cc) (by simpa using hd)
                 (fun _ => by
                   simp only [RV]
                   refine ⟨_,_,rfl,iM,h3,by simp,fun _ => .inr ⟨g,cur.size,by simp [g1],by simp,?_,by simpa using kG⟩⟩
                   exact cL k1 dA g cur.size (by unfold cG; simp [k1])) (by simp [AV.aw])
               refine ⟨_,_,_,_,?_,.inl rfl,rU⟩
               rw [bJ,h1,eT]
               simp only [addr_add,Nat.zero_mul,Nat.zero_add,kE,Result.andThen_ok]
             · -- a new block
               have eT := bg (ty := o.type) dV hi hz gK iw (some ⟨g,0 * i.size,none⟩) n cc news.length (a.eval x) vals.toArray (cur.toList.take (n * i.size)).toArray S.lenOf (S.cells w.drew (.inr rfl))
                 (run_firstCells_some (P := K.P) w.drew i.size n ⟨g,0 * i.size,none⟩ n cc _ dC (fun j v hj => by
                   rw [addr_add,Nat.zero_mul,Nat.zero_add]
                   have : w.cell? ⟨g,j,none⟩ = some v := by
                     rw [cell_of_row w g _ cur e0 (0,0) k1]
                     rw [List.getElem?_take] at hj
                     split at hj
                     · simpa using hj
                     · simp at hj
                   simpa using this)) (by omega) hb gS
               have gR := grownCap_ge w (n + news.length) cc e
               have gI := grownCap_le_maxLen w (n + news.length) cc e (by
                 have := Nat.le_mul_of_pos_right (n + news.length) gS
                 simp only [maxLen]; omega)
               have := bL hr kF sS sU (o := o) hd (e := e) (n := n) (m := news.length) (A := r.aQ.take n) (news := news) (olds := cur.toList.take (n * i.size)) (vals := vals)
                 (rest := (Builtin.zeroCells z.cells (grownCap w (n + news.length) cc e - (n + news.length))).toList) h0 hu o1 qT rfl kD S.jP oc S.bB dC S.len u6 S.rv
                 (cap := grownCap w (n + news.length) cc e) (by
                   have h9 := fg (sz := i.size) gR
                   simp only [List.length_append,dC,S.len,aU,eV]
                   rw [Nat.add_mul] at h9
                   exact h9) gI gR (by
                   rw [bJ,h1,eT]
                   exact ff _ _ (by simp))
               exact this
       · simp at hy
     · simp at hy
   · -- a row whose room is known
     rename_i l s0 i0 n c0 e1
     rw [e1] at ey
     simp only [RV] at ey
     obtain ⟨ad,h1,h2,h3,h4,h5⟩ := ey
     split at hy
     · rename_i r hl
       split at hy
       · rename_i aI
         obtain ⟨rfl,dL,rfl,kn,gS,o4⟩ := aI
         have qT : (r.aQ.take n).length = n := by simp; omega
         have kD : ∀ cs ∈ r.aQ.take n,cs.length = i.size := fun cs aN => by rw [← dL]; exact (hr.rows l r hl).2.1 cs (List.mem_of_mem_take aN)
         have oc : ∀ cs ∈ r.aQ.take n,∀ q ∈ ak cs,H q ≠ .unused := fun cs aN => hr.aK l r hl cs (List.mem_of_mem_take aN)
         split at hy
         · rename_i iM
           split at hy
           · rename_i rV
             simp only [Option.some.injEq,Prod.mk.injEq] at hy
             obtain ⟨rfl,rfl⟩ := hy
             have eT := bu (ty := o.type) dV hi gK iw ad n c0 news.length (a.eval x) vals.toArray S.lenOf (S.cells w (.inl rfl)) iM
             by_cases mF : c0 = 0
             · subst mF
               have kk : n = 0 := by omega
               subst kk
               have dm : news = [] := List.eq_nil_of_length_eq_zero (by omega)
               subst dm
               have mE : vals = [] := List.eq_nil_of_length_eq_zero (by simpa using S.len)
               subst mE
               have hH : aD H l (.live ⟨i.size,r.aQ.take 0 ++ [] ++ r.aQ.drop (0 + ([] : List (List AV)).length)⟩) = H := by
                 funext q
                 by_cases e : q = l
                 · subst e; simp only [bP,List.take_zero,List.nil_append,List.length_nil,Nat.add_zero,List.drop_zero,← dL,hl]
                 · rw [ah _ _ e]
               rw [hH]
               have rU := hr.step (Below.refl _ _) (d := some d) (x := .slk l i.size 0 (0 + ([] : List (List AV)).length) 0) (v := .slice ad 0 0) (by simpa using hd)
                 (fun _ => by
                   simp only [RV]
                   exact ⟨ad,by simp,by simp,by simp [maxLen],by simp,fun _ => .inl rfl⟩) (fun _ q hq => by simp [AV.aw] at hq; subst hq; rw [hl]; simp)
               refine ⟨_,_,_,_,?_,.inl rfl,rU⟩
               rw [bJ,h1,eT]
               cases ad <;> simp [storeCells]
             · rcases h5 ⟨r,hl⟩ with h6 | ⟨g,Sz,g1,rfl,g3,g4⟩
               · exact absurd h6 mF
               · obtain ⟨cur',w1,w2,w3⟩ := fR hr hl g1 (i := n) (news := news) (vals := vals) rV (by rw [dL]; exact S.jP) S.bB (by rw [dL]; exact S.len) (by rw [dL]; exact S.rv) jl
                 rw [dL] at w1 w2
                 have rU := w2.step (Below.refl _ _) (d := some d) (x := .slk l i.size 0 (n + news.length) c0) (v := .slice (some ⟨g,0 * i.size,none⟩) (n + news.length) c0) (by simpa using hd)
                   (fun _ => by
                     simp only [RV]
                     exact ⟨_,rfl,iM,h3,by simp,fun _ => .inr ⟨g,Sz,g1,rfl,by rw [w3]; exact g3,g4⟩⟩) (fun _ q hq => by simp [AV.aw] at hq; subst hq; simp)
                 refine ⟨_,_,_,_,?_,.inl rfl,rU⟩
                 rw [bJ,h1,eT]
                 simp only [addr_add,Nat.zero_mul,Nat.zero_add,w1,Result.andThen_ok]
           · simp at hy
         · rename_i iM
           split at hy
           · rename_i fh
             obtain ⟨hb,hu⟩ := fh
             simp only [Option.some.injEq,Prod.mk.injEq] at hy
             obtain ⟨rfl,rfl⟩ := hy
             have gR := grownCap_ge w (n + news.length) c0 e
             have gI := grownCap_le_maxLen w (n + news.length) c0 e (by
               have := Nat.le_mul_of_pos_right (n + news.length) gS
               simp only [maxLen]; omega)
             have olds : ∃ olds : List Value,olds.length = n * i.size ∧ (∀ i' j cs x0,(r.aQ.take n)[i']? = some cs → cs[j]? = some x0 → ∃ v,olds[i' * i.size + j]? = some v ∧ RV w β H (Im K β H) x0 v) ∧
                 (Builtin.firstCells i.size n (.slice ad n c0)).run K.P w.drew = .ok olds.toArray w.drew := by
               by_cases mF : c0 = 0
               · have kk : n = 0 := by omega
                 subst kk
                 exact ⟨[],by simp,by simp,by simpa using gV ad c0⟩
               · rcases h5 ⟨r,hl⟩ with h6 | ⟨g,Sz,g1,rfl,g3,g4⟩
                 · exact absurd h6 mF
                 · obtain ⟨cur,e0,cap,k1,k2,k3,k4,k5⟩ := (hr.rows l r hl).block g1
                   rw [dL] at k2
                   have rT : n * i.size ≤ cur.size := by rw [k2]; exact Nat.mul_le_mul_right _ (by omega)
                   have dC : (cur.toList.take (n * i.size)).length = n * i.size := by simp; omega
                   refine ⟨cur.toList.take (n * i.size),dC,?_,?_⟩
                   · intro i' j cs x0 a7 cB
                     rw [List.getElem?_take] at a7
                     split at a7
                     · rename_i dI
                       obtain ⟨v,q1,q2⟩ := k5 i' j cs x0 a7 cB
                       rw [dL] at q1
                       refine ⟨v,?_,q2⟩
                       have oY : j < i.size := by
                         have := (hr.rows l r hl).2.1 cs (List.mem_of_getElem? a7)
                         have := (List.getElem?_eq_some_iff.1 cB).1
                         omega
                       have fe : i' * i.size + j < n * i.size := by
                         have := Nat.mul_le_mul_right i.size (show i' + 1 ≤ n by omega)
                         rw [Nat.add_mul] at this; omega
                       rw [List.getElem?_take,if_pos fe]
                       simpa using q1
                     · simp at a7
                   · exact run_firstCells_some (P := K.P) w.drew i.size n ⟨g,0 * i.size,none⟩ n c0 _ dC (fun j v hj => by
                       rw [addr_add,Nat.zero_mul,Nat.zero_add]
                       have : w.cell? ⟨g,j,none⟩ = some v := by
                         rw [cell_of_row w g _ cur e0 (0,0) k1]
                         rw [List.getElem?_take] at hj
                         split at hj
                         · simpa using hj
                         · simp at hj
                       simpa using this)
             obtain ⟨olds,o5,qU,tx⟩ := olds
             have eT := bg (ty := o.type) dV hi hz gK iw ad n c0 news.length (a.eval x) vals.toArray olds.toArray S.lenOf (S.cells w.drew (.inr rfl)) tx (by omega) hb gS
             have := bL hr hr (fun _ h => h) (fun _ h => h) (o := o) hd (e := e) (n := n) (m := news.length) (A := r.aQ.take n) (news := news) (olds := olds) (vals := vals)
               (rest := (Builtin.zeroCells z.cells (grownCap w (n + news.length) c0 e - (n + news.length))).toList) h0 hu hu qT rfl kD S.jP oc S.bB o5 S.len qU S.rv
               (cap := grownCap w (n + news.length) c0 e) (by
                 have h9 := fg (sz := i.size) gR
                 simp only [List.length_append,o5,S.len,aU,eV]
                 rw [← Nat.add_mul]
                 exact h9) gI gR (by
                 rw [bJ,h1,eT]
                 exact ff _ _ (by simp))
             exact this
           · simp at hy
       · simp at hy
     · simp at hy
   · simp at hy
end
end Go.Am
