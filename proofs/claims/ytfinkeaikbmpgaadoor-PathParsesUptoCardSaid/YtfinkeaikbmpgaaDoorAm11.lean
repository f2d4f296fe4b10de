import Derived.Test.YtfinkeaikbmpgaaDoorKAm8
set_option linter.unusedSimpArgs false
set_option linter.unusedVariables false
set_option linter.unnecessarySimpa false
set_option linter.defProp false
/- THE ABSTRACT MACHINE, part 11: append, to its end. -/
namespace Go.Am
open Go Go.RowKit
def ua {γ:Type} (f:Lb→γ) (l:Lb) (x y:γ):bb (bb f l x) l y=bb f l y:=by
 funext q;by_cases h:q=l
 ·subst h;simp
 simp[ai _ _ h]
def comb {R:AV→Value→Prop} {sz n:Nat} (A B:List (List AV)) (hA:A.length=n) (rb:∀cs∈A,cs.length=sz) (E1:∀cs∈B,cs.length=sz) (olds vals rest:List Value) (ho:olds.length=n*sz) (hv:vals.length=B.length*sz)
  (h1:∀i j cs x,A[i]?=some cs→cs[j]?=some x→∃v,olds[i*sz+j]?=some v∧R x v)
  (h2:∀i j cs x,B[i]?=some cs→cs[j]?=some x→∃v,vals[i*sz+j]?=some v∧R x v) :
  ∀i j cs x,(A++B)[i]?=some cs→cs[j]?=some x→∃v,(olds++vals++rest)[i*sz+j]?=some v∧R x v:=by
 intro i j cs x hi hj;by_cases pA:i<n
 ·rw[FO (by omega)] at hi;obtain⟨v,q1,q2⟩:=h1 i j cs x hi hj;refine⟨v,?_,q2⟩;have:i*sz+j<olds.length:=(Fw.1 q1).1;rw[Gn,FO this];exact q1
 rw[FM (by omega),hA] at hi;obtain⟨v,q1,q2⟩:=h2 (i - n) j cs x hi hj;refine⟨v,?_,q2⟩;have h3:(i - n)*sz+j<vals.length:=(Fw.1 q1).1;have h4:i*sz+j=olds.length+((i - n)*sz+j):=by
  rw[ho];have:i=n+(i - n):=by omega
  rw[this,FI];have e:n+(i - n) - n=i - n:=by omega
  rw[e];omega
 rw[h4,Gn,FM (by omega),FO (by omega)];rw[show olds.length+((i - n)*sz+j) - olds.length=(i - n)*sz+j by omega];exact q1
section
variable {K:Kx} {β:Lb→Option Nat} {env:Env} {H:Hp} {a:Act} {w:World}
def lT (hr:au K β env H a w) {H':Hp} {lb:Lb} {b:Option Nat} {w':World} (gw:fW w w') (hu:H lb= .unused) (hb:∀g,b=some g→w.heap.size≤g)
  (hH:∀q,q≠lb→live H' q→live H q) (ls:List Lb) (kK:∀q∈ls,H q≠ .unused) :
  dw w w' β (bb β lb b) H H' (Im K β H) (Im K (bb β lb b) H') ls where
 im k hk hs:=⟨⟨hk.1,fun q hq=>by
  by_cases e:q=lb
  ·subst e;simp only[ei];intro h;have:=hb k h;omega
  rw[ai _ _ e];exact hk.2 q (hH q e hq)⟩,Gk hs gw.size,gw.block k hs⟩
 lb q hq mu:=by
  have e:q≠lb:=fun e=>kK q hq (e▸hu);refine⟨hH q e mu,ai _ _ e,fun g S _ hS=> ?_⟩;unfold fi at *
  rwa[gw.block g (n4 hS)]
def dV (hr:au K β env H a w) {Hk:Hp} (hk:au K β env Hk a w) (Bq:∀q,live Hk q→live H q) (Br:∀q,H q≠ .unused→Hk q≠ .unused) {o:Oper} {d n m sz:Nat} {lb:Lb} (hd:d<K.N) {e:TypeId} {cap:Nat} {A news:List (List AV)} {olds vals rest:List Value}
  (h0:0<sz) (hu:H lb= .unused) (xa:Hk lb= .unused) (hA:A.length=n) (hm:news.length=m) (rb:∀cs∈A,cs.length=sz) (xb:∀cs∈news,cs.length=sz)
  (wc:∀cs∈A,∀l∈af cs,H l≠ .unused) (Ab:∀cs∈news,∀l∈af cs,H l≠ .unused)
  (ho:olds.length=n*sz) (hv:vals.length=news.length*sz)
  (h1:∀i j cs x,A[i]?=some cs→cs[j]?=some x→∃v,olds[i*sz+j]?=some v∧RV w β H (Im K β H) x v)
  (h2:∀i j cs x,news[i]?=some cs→cs[j]?=some x→∃v,vals[i*sz+j]?=some v∧RV w β H (Im K β H) x v)
  (gK:(olds++vals++rest).length=cap*sz) (qY:cap≤maxLen) (hle:n+m≤cap)
  (fG:(execOp a.eval o).run K.P w= .ok (.value (.slice (some ⟨w.heap.size,0,none⟩) (n+m) cap)) (w.drew.alloc (.cells (olds++vals++rest).toArray e))) :
  eT K env a w o (some d) (.sl lb sz 0 (n+m)) (bb Hk lb (.live ⟨sz,A++news⟩)):=by
 have gw:fW w (w.drew.alloc (.cells (olds++vals++rest).toArray e)):=(iL w).trans (cF w.drew _);have ca:=lT hr (H':=bb Hk lb (.live ⟨sz,A++news⟩)) (lb:=lb) (b:=some w.heap.size) gw hu (by simp) (fun q hq ⟨r,h⟩=>by rw[ai _ _ hq] at h;exact Bq q ⟨r,h⟩);have jM:∀cs∈A++news,cs.length=sz∧∀l∈af cs,H l≠ .unused:=by
  intro cs bt;rcases Fz.1 bt with h|h
  ·exact⟨rb cs h,wc cs h⟩
  exact⟨xb cs h,Ab cs h⟩
 have lR:jH (w.drew.alloc (.cells (olds++vals++rest).toArray e)) (bb β lb (some w.heap.size)) (bb Hk lb (.live ⟨sz,A++news⟩))
   (Im K (bb β lb (some w.heap.size)) (bb Hk lb (.live ⟨sz,A++news⟩))) lb ⟨sz,A++news⟩:=by
  refine⟨h0,fun cs bt=>(jM cs bt).1,?_⟩;simp only[ei];refine⟨(olds++vals++rest).toArray,e,cap,heap_alloc_new w.drew _,by simp only[GV];exact gK,qY,by simp;omega,fun i j cs x hi hj=> ?_⟩;obtain⟨v,q1,q2⟩:=comb A news hA rb xb olds vals rest ho hv h1 h2 i j cs x hi hj;exact⟨v,by simpa using q1,RV.mono _ _ (ca _ (fun q hq=>(jM cs (Fx hi)).2 q (bT _ _ _ hj q hq))) q2⟩
 have h3:=hk.iP lb xa gw (some w.heap.size) (by simp) (fun cs bt q hq=>Br q ((jM cs bt).2 q hq)) lR;have h4:=h3.step (Below.refl _ _) (d:=some d) (x:= .sl lb sz 0 (n+m)) (v:= .slice (some ⟨w.heap.size,0,none⟩) (n+m) cap) (by simpa using hd)
  (fun _=>by
   simp only[RV];refine⟨_,_,rfl,hle,qY,by simp,fun _=> .inr ⟨w.heap.size,cap*sz,by simp,by simp,?_,by simp⟩⟩;have hh:(w.drew.alloc (.cells (olds++vals++rest).toArray e)).heap[w.heap.size]?=some (.cells (olds++vals++rest).toArray e):=heap_alloc_new w.drew _;unfold fi;rw[hh];simp only[GV,gK]) (by simp[AV.ax])
 exact⟨_,_,_,_,fG,.inl rfl,h4⟩
def mH (hr:au K β env H a w) {Hk:Hp} (hk:au K β env Hk a w) {o:Oper} {d sz:Nat} {lb:Lb} (hd:d<K.N) (h0:0<sz) (xa:Hk lb= .unused) {ad:Option Addr}
  (fG:(execOp a.eval o).run K.P w= .ok (.value (.slice ad 0 0)) w) :
  eT K env a w o (some d) (.sl lb sz 0 0) (bb Hk lb (.live ⟨sz,[]⟩)):=by
 have h3:=hk.iP lb xa (r:=⟨sz,[]⟩) (Below.refl _ _) none (by simp) (by simp) ⟨h0,by simp,by simp⟩;have h4:=h3.step (Below.refl _ _) (d:=some d) (x:= .sl lb sz 0 0) (v:= .slice ad 0 0) (by simpa using hd)
  (fun _=>by simp only[RV];exact⟨_,0,rfl,by omega,by simp[maxLen],by simp,fun _=> .inl rfl⟩) (by simp[AV.ax])
 exact⟨_,_,_,_,fG,.inl rfl,h4⟩
def mI {α:Type} (A N:List α) (i:Nat) (h:i+N.length≤A.length) (k:Nat):(A.take i++N++A.drop (i+N.length))[k]?=if k<i then A[k]? else if k<i+N.length then N[k - i]? else A[k]?:=by
 have ht:(A.take i).length=i:=by rw[F0];omega
 rw[Gn];by_cases h1:k<i
 ·rw[FG h1,FO (by omega),FA,FG h1]
 rw[FU h1,FM (by omega),ht];by_cases h2:k<i+N.length
 ·rw[FG h2,FO (by omega)]
 rw[FU h2,FM (by omega),F6];congr 1;omega
def k8 (hr:au K β env H a w) {l:Lb} {r:Row} {g:Nat} (hl:H l= .live r) (hb:β l=some g) {i:Nat} {news:List (List AV)} {vals:List Value} (pA:i+news.length≤r.bN.length)
  (xb:∀cs∈news,cs.length=r.sz) (Ab:∀cs∈news,∀q∈af cs,H q≠ .unused) (hv:vals.length=news.length*r.sz)
  (h2:∀i j cs x,news[i]?=some cs→cs[j]?=some x→∃v,vals[i*r.sz+j]?=some v∧RV w β H (Im K β H) x v) (cx:∀v∈vals,v.oneCell'=true) :
  ∃cur',(storeCells ⟨g,i*r.sz,none⟩ vals).run K.P w= .ok () (w.setRow g cur') ∧
   au K β env (bb H l (.live ⟨r.sz,r.bN.take i++news++r.bN.drop (i+news.length)⟩)) a (w.setRow g cur')∧fi (w.setRow g cur') g=fi w g:=by
 obtain⟨cur,e0,cap,k1,k2,k3,k4,k5⟩:=(hr.rows l r hl).block hb;have fh:0<r.sz:=(hr.rows l r hl).1;have o3:i*r.sz+vals.length≤cur.size:=by
  rw[hv,k2,←FI];exact FC _ (by omega)
 have re:=run_storeCells_at K.P g (i*r.sz) e0 vals 0 cur w k1 (by simpa using o3) cx;simp only[G5] at re;have gJ:(cur.toList.take (i*r.sz)++vals++cur.toList.drop (i*r.sz+vals.length)).toArray.size=cur.size:=by
  simp only[GV,Ga,F0,Gm,G0];omega
 have hlen:(r.bN.take i++news++r.bN.drop (i+news.length)).length=r.bN.length:=by simp;omega
 have kb:=hr.setRow l (r':=⟨r.sz,r.bN.take i++news++r.bN.drop (i+news.length)⟩) (cap:=cap) hl hb k1 gJ rfl k2 k3 (by simp only;omega)
  (by
   intro cs bt;rcases Fz.1 bt with h|h
   ·rcases Fz.1 h with h|h
    ·exact(hr.rows l r hl).2.1 cs (FX h)
    exact xb cs h
   exact(hr.rows l r hl).2.1 cs (Gw h))
  (by
   intro cs bt;rcases Fz.1 bt with h|h
   ·rcases Fz.1 h with h|h
    ·exact hr.bL l r hl cs (FX h)
    exact Ab cs h
   exact hr.bL l r hl cs (Gw h))
  (by
   intro i' j cs x0 cM fo;simp only at cM;rw[mI _ _ _ pA] at cM;have fI:=mI cur.toList vals (i*r.sz) (by simpa using o3);simp only[HO,fI];have w_:j<r.sz:=by
    have h9:=(Fw.1 fo).1;have h8:cs.length=r.sz:=by
     split at cM
     ·exact(hr.rows l r hl).2.1 cs (Fx cM)
     split at cM
     ·exact xb cs (Fx cM)
     exact(hr.rows l r hl).2.1 cs (Fx cM)
    omega
   by_cases h1:i'<i
   ·rw[FG h1] at cM;have:=FC r.sz (show i'+1≤i by omega);rw[FI] at this;rw[FG (by omega)];obtain⟨v,q1,q2⟩:=k5 i' j cs x0 cM fo;exact⟨v,by simpa using q1,q2⟩
   rw[FU h1] at cM;have h3:=FC r.sz (show i≤i' by omega);rw[FU (by omega)];by_cases h4:i'<i+news.length
   ·rw[FG h4] at cM;have:=FC r.sz (show i'+1≤i+news.length by omega);rw[FI,FI,HI] at this;rw[FG (by rw[hv];omega)];obtain⟨v,q1,q2⟩:=h2 (i' - i) j cs x0 cM fo;refine⟨v,?_,q2⟩;rw[←q1];congr 1;rw[Nat.sub_mul];omega
   rw[FU h4] at cM;have:=FC r.sz (show i+news.length≤i' by omega);rw[FI] at this;rw[FU (by rw[hv];omega)];obtain⟨v,q1,q2⟩:=k5 i' j cs x0 cM fo;exact⟨v,by simpa using q1,q2⟩)
 refine⟨_,re,kb,?_⟩;have:fi w g=some cur.size:=by unfold fi;simp[k1]
 rw[this];exact fH k1 gJ g cur.size this
def kc {v:Value} {w1:World} {e:TypeId} (x y:Array Value) (h:x=y) :
  (Result.ok v (w1.alloc (.cells x e))).andThen (fun v w'=> .ok (Next.value v) w')= .ok (.value v) (w1.alloc (.cells y e)):=by
 subst h;rfl
def ke {m C sz:Nat} (h:m≤C):m*sz+(C - m)*sz=C*sz:=by
 rw[←FI];congr 1;omega
def cn (z:Array Value) (n:Nat):(Builtin.zeroCells z n).toList.length=n*z.size:=by simp[size_zeroCells]
def Ac (hr : au K β env H a w) {o : Oper} {c : Call} {s x : Operand} {s' x' : O} {st xt e : TypeId} {i : TypeInfo} {z : Value} {dx : TypeDesc} {d : Nat} (hd : d < K.N) (ho : o.op = .call c) (hc : c.callee = .builtin .append)
   (ha : c.args.toList = [s,x]) (xc : c.argTypes.toList = [st,xt]) (cL : K.P.underlying st = some (.slice e)) (hi : K.P.info? e = some i) (hz : i.zero = some z) (jV : z.cells.size = i.size) (h0 : 0 < i.size)
   (mw : K.P.underlying xt = some dx) (nP : dx = .string ∨ ∃ e2,dx = .slice e2) (hs : co K.G s = some s') (hx : co K.G x = some x') {y : AV} {H' : Hp}
   (hy : j8 i.size i.bytes d (ev env s') (ev env x') H = some (y,H')) : eT K env a w o (some d) y H' := by
 have lO : c.args = #[s,x] := by cases hh : c.args; simp_all
 have n6 : c.argTypes = #[st,xt] := by cases hh : c.argTypes; simp_all
 have dS : (execOp a.eval o).run K.P w = ((Builtin.append_ #[st,xt] o.type #[a.eval s,a.eval x]).run K.P w).andThen fun v w' => .ok (.value v) w' := by
   simp [execOp,ho,resolve,hc,lO,n6,invoke,builtin]
 unfold j8 at hy
 obtain ⟨news,hn,hy⟩ := Fv.1 hy
 obtain ⟨vals,S⟩ := jW hr hx h0 hn
 have iR := hr.ev hs
 split at hy
 · simp at hy
 · rename_i cx
   have cx : ∀ cs ∈ news,AV.lS cs := G2 cx
   have o4 : ∀ v ∈ vals,v.oneCell' = true := by
     intro v hv
     obtain ⟨q,hq⟩ := Gl hv
     have zh : q < news.length * i.size := by rw [← S.len]; exact (Fw.1 hq).1
     have zj : q / i.size < news.length := Hm (by rw [G7]; exact zh)
     have DX : q % i.size < i.size := Ik _ h0
     have pI : news[q / i.size]? = some news[q / i.size] := FF zj
     have nO := S.pH _ (GQ zj)
     have zi : (news[q / i.size])[q % i.size]? = some ((news[q / i.size])[q % i.size]'(by omega)) := FF (by omega)
     obtain ⟨v',e1,e2⟩ := S.rv _ _ _ _ pI zi
     have : q / i.size * i.size + q % i.size = q := by rw [G7]; exact Il q i.size
     rw [this,hq] at e1
     cases e1
     exact RV.ie e2 (cx _ (GQ zj) _ (GQ _))
   have mJ : ∀ ad : Option Addr,∀ cc,(Builtin.firstCells i.size 0 (.slice ad 0 cc)).run K.P w.drew = .ok #[] w.drew := by
     intro ad cc
     cases ad with
     | none => simp [Builtin.firstCells]
     | some q => simp [Builtin.firstCells,loadCells,loadCellsFrom]
   split at hy
   · -- nothing yet
     rename_i e1
     rw [e1] at iR
     simp only [RV] at iR
     obtain ⟨ad,iR⟩ := iR
     split at hy
     · rename_i hb
       obtain ⟨Ad,k9,hu⟩ := hb
       have hb : news.length * i.bytes ≤ 140737488355328 ∧ 0 < i.bytes := ⟨Ad,k9⟩
       simp only [cQ,FB] at hy
       obtain ⟨rfl,rfl⟩ := hy
       by_cases oY : news.length = 0
       · have fa : news = [] := FH oY
         subst fa
         have ub : vals = [] := FH (by simpa using S.len)
         subst ub
         have jQ := dq (ty := o.type) cL hi mw nP ad 0 0 0 (a.eval x) #[] S.lenOf (S.cells w (.inl rfl)) (by omega)
         refine mH hr hr hd h0 hu (ad := ad) ?_
         rw [dS,iR,jQ]
         cases ad <;> simp [storeCells]
       · have jQ := cT (ty := o.type) cL hi hz mw nP ad 0 0 news.length (a.eval x) vals.toArray #[] S.lenOf (S.cells w.drew (.inr rfl)) (mJ ad 0) (by omega) (by simpa using hb.1) hb.2
         have mF := grownCap_ge w (0 + news.length) 0 e
         have mr := grownCap_le_maxLen w (0 + news.length) 0 e (by
           have := F7 news.length hb.2
           simp only [maxLen]; omega)
         have := dV hr hr (fun _ h => h) (fun _ h => h) (o := o) hd (e := e) (n := 0) (m := news.length) (A := []) (news := news) (olds := []) (vals := vals)
           (rest := (Builtin.zeroCells z.cells (grownCap w (0 + news.length) 0 e - (0 + news.length))).toList) h0 hu hu rfl rfl (by simp) S.pH (by simp) S.dp (by simp) S.len (by simp) S.rv
           (cap := grownCap w (0 + news.length) 0 e) (by
             have h9 := ke (sz := i.size) mF
             simp only [Ga,Gq,S.len,cn,jV]
             simp only [F1] at h9 ⊢
             exact h9) mr mF (by
             rw [dS,iR,jQ]
             exact kc _ _ (by simp))
         simpa using this
     · simp at hy
   · -- a row
     rename_i l s0 i0 n e1
     rw [e1] at iR
     simp only [RV] at iR
     obtain ⟨ad,cc,h1,h2,h3,h4,h5⟩ := iR
     split at hy
     · rename_i r hl
       split at hy
       · rename_i bJ
         obtain ⟨rfl,gV,rfl,j_,hb,mG,xd,hu⟩ := bJ
         simp only [cQ,FB] at hy
         obtain ⟨rfl,rfl⟩ := hy
         have zk : (r.bN.take n).length = n := by simp; omega
         have rb : ∀ cs ∈ r.bN.take n,cs.length = i.size := fun cs bt => by rw [← gV]; exact (hr.rows l r hl).2.1 cs (FX bt)
         have wc : ∀ cs ∈ r.bN.take n,∀ q ∈ af cs,H q ≠ .unused := fun cs bt => hr.bL l r hl cs (FX bt)
         have rf := hr.kill l (by rw [hl]; simp)
         have xa : bb H l .dead (l.app d) = .unused := by rw [ai _ _ (GP xd)]; exact hu
         have Bq : ∀ q,live (bb H l .dead) q → live H q := by
           rintro q ⟨r',h⟩
           by_cases e : q = l
           · subst e; simp at h
           · rw [ai _ _ e] at h; exact ⟨r',h⟩
         have Br : ∀ q,H q ≠ .unused → bb H l .dead q ≠ .unused := by
           intro q h
           by_cases e : q = l
           · subst e; simp
           · rw [ai _ _ e]; exact h
         by_cases uc : cc = 0
         · subst uc
           have kX : n = 0 := by omega
           subst kX
           by_cases oY : news.length = 0
           · have fa : news = [] := FH oY
             subst fa
             have ub : vals = [] := FH (by simpa using S.len)
             subst ub
             have jQ := dq (ty := o.type) cL hi mw nP ad 0 0 0 (a.eval x) #[] S.lenOf (S.cells w (.inl rfl)) (by omega)
             have := mH hr rf (o := o) hd h0 xa (ad := ad) (by
               rw [dS,h1,jQ]
               cases ad <;> simp [storeCells])
             simpa using this
           · have jQ := cT (ty := o.type) cL hi hz mw nP ad 0 0 news.length (a.eval x) vals.toArray #[] S.lenOf (S.cells w.drew (.inr rfl)) (mJ ad 0) (by omega) (by simpa using hb) mG
             have mF := grownCap_ge w (0 + news.length) 0 e
             have mr := grownCap_le_maxLen w (0 + news.length) 0 e (by
               have := F7 (0 + news.length) mG
               simp only [maxLen]; omega)
             have := dV hr rf Bq Br (o := o) hd (e := e) (n := 0) (m := news.length) (A := []) (news := news) (olds := []) (vals := vals)
               (rest := (Builtin.zeroCells z.cells (grownCap w (0 + news.length) 0 e - (0 + news.length))).toList) h0 hu xa rfl rfl (by simp) S.pH (by simp) S.dp (by simp) S.len (by simp) S.rv
               (cap := grownCap w (0 + news.length) 0 e) (by
                 have h9 := ke (sz := i.size) mF
                 simp only [Ga,Gq,S.len,cn,jV]
                 simp only [F1] at h9 ⊢
                 exact h9) mr mF (by
                 rw [dS,h1,jQ]
                 exact kc _ _ (by simp))
             simpa using this
         · rcases h5 ⟨r,hl⟩ with h6 | ⟨g,Sz,g1,rfl,g3,g4⟩
           · exact absurd h6 uc
           · obtain ⟨cur,e0,cap,k1,k2,k3,k4,k5⟩ := (hr.rows l r hl).block g1
             have hS : cur.size = Sz := by
               unfold fi at g3
               simp only [k1] at g3
               simpa using g3
             have rh : cc * i.size = cur.size := by rw [hS,← g4]; simp
             have Ae : n * i.size ≤ cur.size := by rw [← rh]; exact FC _ h2
             have C3 : cap = cc := by
               rw [gV] at k2
               rw [k2] at rh
               exact (Nat.eq_of_mul_eq_mul_right h0 rh).symm
             have C4 : ∀ i' j cs x0,(r.bN.take n)[i']? = some cs → cs[j]? = some x0 → ∃ v,(cur.toList.take (n * i.size))[i' * i.size + j]? = some v ∧ RV w β H (Im K β H) x0 v := by
               intro i' j cs x0 cM fo
               rw [FA] at cM
               split at cM
               · rename_i cD
                 obtain ⟨v,q1,q2⟩ := k5 i' j cs x0 cM fo
                 rw [gV] at q1
                 refine ⟨v,?_,q2⟩
                 have w_ : j < i.size := by
                   have := (hr.rows l r hl).2.1 cs (Fx cM)
                   have := (Fw.1 fo).1
                   omega
                 have ka : i' * i.size + j < n * i.size := by
                   have := FC i.size (show i' + 1 ≤ n by omega)
                   rw [FI] at this; omega
                 rw [FA,FG ka]
                 simpa using q1
               · simp at cM
             have gL : (cur.toList.take (n * i.size)).length = n * i.size := by simp; omega
             by_cases n7 : n + news.length ≤ cc
             · -- within the room
               have jQ := dq (ty := o.type) cL hi mw nP (some ⟨g,0 * i.size,none⟩) n cc news.length (a.eval x) vals.toArray S.lenOf (S.cells w (.inl rfl)) n7
               have o3 : n * i.size + vals.length ≤ cur.size := by
                 rw [S.len,← rh,← FI]
                 exact FC _ n7
               have re := run_storeCells_at K.P g (n * i.size) e0 vals 0 cur w k1 (by simpa using o3) o4
               simp only [G5] at re
               have gJ : (cur.toList.take (n * i.size) ++ vals ++ cur.toList.drop (n * i.size + vals.length)).toArray.size = cur.size := by
                 simp only [GV,Ga,F0,Gm,G0]
                 omega
               have kb := hr.setRow l (r' := ⟨i.size,r.bN.take n ++ news⟩) (cap := cap) hl g1 k1 gJ gV.symm k2 k3 (by simp; omega)
                 (by
                   intro cs bt
                   rw [gV]
                   rcases Fz.1 bt with h | h
                   · exact rb cs h
                   · exact S.pH cs h)
                 (by
                   intro cs bt
                   rcases Fz.1 bt with h | h
                   · exact wc cs h
                   · exact S.dp cs h)
                 (by
                   intro i' j cs x0 cM fo
                   rw [gV]
                   obtain ⟨v,q1,q2⟩ := comb (r.bN.take n) news zk rb S.pH (cur.toList.take (n * i.size)) vals (cur.toList.drop (n * i.size + vals.length)) gL S.len C4 S.rv i' j cs x0 cM fo
                   exact ⟨v,by simpa using q1,q2⟩)
               have gf := kb.relabel l (l.app d) (r := ⟨i.size,r.bN.take n ++ news⟩) (by simp) (by rw [ai _ _ (GP xd)]; exact hu) (Lb.dV l d)
               rw [ua] at gf
               have Af := gf.step (Below.refl _ _) (d := some d) (x := .sl (l.app d) i.size 0 (n + news.length)) (v := .slice (some ⟨g,0 * i.size,none⟩) (n + news.length) cc) (by simpa using hd)
                 (fun _ => by
                   simp only [RV]
                   refine ⟨_,_,rfl,n7,h3,by simp,fun _ => .inr ⟨g,cur.size,by simp [g1],by simp,?_,by simpa using rh⟩⟩
                   exact fH k1 gJ g cur.size (by unfold fi; simp [k1])) (by simp [AV.ax])
               refine ⟨_,_,_,_,?_,.inl rfl,Af⟩
               rw [dS,h1,jQ]
               simp only [addr_add,GA,F1,re,Result.andThen_ok]
             · -- a new block
               have jQ := cT (ty := o.type) cL hi hz mw nP (some ⟨g,0 * i.size,none⟩) n cc news.length (a.eval x) vals.toArray (cur.toList.take (n * i.size)).toArray S.lenOf (S.cells w.drew (.inr rfl))
                 (run_firstCells_some (P := K.P) w.drew i.size n ⟨g,0 * i.size,none⟩ n cc _ gL (fun j v hj => by
                   rw [addr_add,GA,F1]
                   have : w.cell? ⟨g,j,none⟩ = some v := by
                     rw [cell_of_row w g _ cur e0 (0,0) k1]
                     rw [FA] at hj
                     split at hj
                     · simpa using hj
                     · simp at hj
                   simpa using this)) (by omega) hb mG
               have mF := grownCap_ge w (n + news.length) cc e
               have mr := grownCap_le_maxLen w (n + news.length) cc e (by
                 have := F7 (n + news.length) mG
                 simp only [maxLen]; omega)
               have := dV hr rf Bq Br (o := o) hd (e := e) (n := n) (m := news.length) (A := r.bN.take n) (news := news) (olds := cur.toList.take (n * i.size)) (vals := vals)
                 (rest := (Builtin.zeroCells z.cells (grownCap w (n + news.length) cc e - (n + news.length))).toList) h0 hu xa zk rfl rb S.pH wc S.dp gL S.len C4 S.rv
                 (cap := grownCap w (n + news.length) cc e) (by
                   have h9 := ke (sz := i.size) mF
                   simp only [Ga,gL,S.len,cn,jV]
                   rw [FI] at h9
                   exact h9) mr mF (by
                   rw [dS,h1,jQ]
                   exact kc _ _ (by simp))
               exact this
       · simp at hy
     · simp at hy
   · -- a row whose room is known
     rename_i l s0 i0 n c0 e1
     rw [e1] at iR
     simp only [RV] at iR
     obtain ⟨ad,h1,h2,h3,h4,h5⟩ := iR
     split at hy
     · rename_i r hl
       split at hy
       · rename_i bJ
         obtain ⟨rfl,gV,rfl,j_,mG,xd⟩ := bJ
         have zk : (r.bN.take n).length = n := by simp; omega
         have rb : ∀ cs ∈ r.bN.take n,cs.length = i.size := fun cs bt => by rw [← gV]; exact (hr.rows l r hl).2.1 cs (FX bt)
         have wc : ∀ cs ∈ r.bN.take n,∀ q ∈ af cs,H q ≠ .unused := fun cs bt => hr.bL l r hl cs (FX bt)
         split at hy
         · rename_i n7
           split at hy
           · rename_i Ag
             simp only [cQ,FB] at hy
             obtain ⟨rfl,rfl⟩ := hy
             have jQ := dq (ty := o.type) cL hi mw nP ad n c0 news.length (a.eval x) vals.toArray S.lenOf (S.cells w (.inl rfl)) n7
             by_cases uc : c0 = 0
             · subst uc
               have kX : n = 0 := by omega
               subst kX
               have fa : news = [] := FH (by omega)
               subst fa
               have ub : vals = [] := FH (by simpa using S.len)
               subst ub
               have hH : bb H l (.live ⟨i.size,r.bN.take 0 ++ [] ++ r.bN.drop (0 + ([] : List (List AV)).length)⟩) = H := by
                 funext q
                 by_cases e : q = l
                 · subst e; simp only [ei,List.take_zero,HE,Gq,G5,GK,← gV,hl]
                 · rw [ai _ _ e]
               rw [hH]
               have Af := hr.step (Below.refl _ _) (d := some d) (x := .slk l i.size 0 (0 + ([] : List (List AV)).length) 0) (v := .slice ad 0 0) (by simpa using hd)
                 (fun _ => by
                   simp only [RV]
                   exact ⟨ad,by simp,by simp,by simp [maxLen],by simp,fun _ => .inl rfl⟩) (fun _ q hq => by simp [AV.ax] at hq; subst hq; rw [hl]; simp)
               refine ⟨_,_,_,_,?_,.inl rfl,Af⟩
               rw [dS,h1,jQ]
               cases ad <;> simp [storeCells]
             · rcases h5 ⟨r,hl⟩ with h6 | ⟨g,Sz,g1,rfl,g3,g4⟩
               · exact absurd h6 uc
               · obtain ⟨cur',w1,w2,w3⟩ := k8 hr hl g1 (i := n) (news := news) (vals := vals) Ag (by rw [gV]; exact S.pH) S.dp (by rw [gV]; exact S.len) (by rw [gV]; exact S.rv) o4
                 rw [gV] at w1 w2
                 have Af := w2.step (Below.refl _ _) (d := some d) (x := .slk l i.size 0 (n + news.length) c0) (v := .slice (some ⟨g,0 * i.size,none⟩) (n + news.length) c0) (by simpa using hd)
                   (fun _ => by
                     simp only [RV]
                     exact ⟨_,rfl,n7,h3,by simp,fun _ => .inr ⟨g,Sz,g1,rfl,by rw [w3]; exact g3,g4⟩⟩) (fun _ q hq => by simp [AV.ax] at hq; subst hq; simp)
                 refine ⟨_,_,_,_,?_,.inl rfl,Af⟩
                 rw [dS,h1,jQ]
                 simp only [addr_add,GA,F1,w1,Result.andThen_ok]
           · simp at hy
         · rename_i n7
           split at hy
           · rename_i kf
             obtain ⟨hb,hu⟩ := kf
             simp only [cQ,FB] at hy
             obtain ⟨rfl,rfl⟩ := hy
             have mF := grownCap_ge w (n + news.length) c0 e
             have mr := grownCap_le_maxLen w (n + news.length) c0 e (by
               have := F7 (n + news.length) mG
               simp only [maxLen]; omega)
             have olds : ∃ olds : List Value,olds.length = n * i.size ∧ (∀ i' j cs x0,(r.bN.take n)[i']? = some cs → cs[j]? = some x0 → ∃ v,olds[i' * i.size + j]? = some v ∧ RV w β H (Im K β H) x0 v) ∧
                 (Builtin.firstCells i.size n (.slice ad n c0)).run K.P w.drew = .ok olds.toArray w.drew := by
               by_cases uc : c0 = 0
               · have kX : n = 0 := by omega
                 subst kX
                 exact ⟨[],by simp,by simp,by simpa using mJ ad c0⟩
               · rcases h5 ⟨r,hl⟩ with h6 | ⟨g,Sz,g1,rfl,g3,g4⟩
                 · exact absurd h6 uc
                 · obtain ⟨cur,e0,cap,k1,k2,k3,k4,k5⟩ := (hr.rows l r hl).block g1
                   rw [gV] at k2
                   have Ae : n * i.size ≤ cur.size := by rw [k2]; exact FC _ (by omega)
                   have gL : (cur.toList.take (n * i.size)).length = n * i.size := by simp; omega
                   refine ⟨cur.toList.take (n * i.size),gL,?_,?_⟩
                   · intro i' j cs x0 cM fo
                     rw [FA] at cM
                     split at cM
                     · rename_i cD
                       obtain ⟨v,q1,q2⟩ := k5 i' j cs x0 cM fo
                       rw [gV] at q1
                       refine ⟨v,?_,q2⟩
                       have w_ : j < i.size := by
                         have := (hr.rows l r hl).2.1 cs (Fx cM)
                         have := (Fw.1 fo).1
                         omega
                       have ka : i' * i.size + j < n * i.size := by
                         have := FC i.size (show i' + 1 ≤ n by omega)
                         rw [FI] at this; omega
                       rw [FA,FG ka]
                       simpa using q1
                     · simp at cM
                   · exact run_firstCells_some (P := K.P) w.drew i.size n ⟨g,0 * i.size,none⟩ n c0 _ gL (fun j v hj => by
                       rw [addr_add,GA,F1]
                       have : w.cell? ⟨g,j,none⟩ = some v := by
                         rw [cell_of_row w g _ cur e0 (0,0) k1]
                         rw [FA] at hj
                         split at hj
                         · simpa using hj
                         · simp at hj
                       simpa using this)
             obtain ⟨olds,xe,zl,BV⟩ := olds
             have jQ := cT (ty := o.type) cL hi hz mw nP ad n c0 news.length (a.eval x) vals.toArray olds.toArray S.lenOf (S.cells w.drew (.inr rfl)) BV (by omega) hb mG
             have := dV hr hr (fun _ h => h) (fun _ h => h) (o := o) hd (e := e) (n := n) (m := news.length) (A := r.bN.take n) (news := news) (olds := olds) (vals := vals)
               (rest := (Builtin.zeroCells z.cells (grownCap w (n + news.length) c0 e - (n + news.length))).toList) h0 hu hu zk rfl rb S.pH wc S.dp xe S.len zl S.rv
               (cap := grownCap w (n + news.length) c0 e) (by
                 have h9 := ke (sz := i.size) mF
                 simp only [Ga,xe,S.len,cn,jV]
                 rw [← FI]
                 exact h9) mr mF (by
                 rw [dS,h1,jQ]
                 exact kc _ _ (by simp))
             exact this
           · simp at hy
       · simp at hy
     · simp at hy
   · simp at hy
end
end Go.Am
