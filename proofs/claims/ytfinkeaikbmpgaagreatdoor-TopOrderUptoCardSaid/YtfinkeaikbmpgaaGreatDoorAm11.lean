import Derived.Test.YtfinkeaikbmpgaaGreatDoorKAm8
set_option linter.unusedSimpArgs false
set_option linter.unusedVariables false
set_option linter.unnecessarySimpa false
set_option linter.defProp false
/- THE ABSTRACT MACHINE, part 11: append, to its end. -/
namespace Go.Am
open Go Go.RowKit
def QN {γ:Type} (f:Lb→γ) (l:Lb) (x y:γ):bF (bF f l x) l y=bF f l y:=by
 funext q;by_cases h:q=l
 ·subst h;simp
 simp[ax _ _ h]
def comb {R:AV→Value→Prop} {sz n:Nat} (A B:List (List AV)) (hA:A.length=n) (MR:∀cs∈A,cs.length=sz) (hBs:∀cs∈B,cs.length=sz) (olds vals rest:List Value) (ho:olds.length=n*sz) (hv:vals.length=B.length*sz)
  (h1:∀i j cs x,A[i]?=some cs→cs[j]?=some x→∃v,olds[i*sz+j]?=some v∧R x v)
  (h2:∀i j cs x,B[i]?=some cs→cs[j]?=some x→∃v,vals[i*sz+j]?=some v∧R x v) :
  ∀i j cs x,(A++B)[i]?=some cs→cs[j]?=some x→∃v,(olds++vals++rest)[i*sz+j]?=some v∧R x v:=by
 intro i j cs x hi hj;by_cases qW:i<n
 ·rw[ad6 (by omega)] at hi;obtain⟨v,q1,q2⟩:=h1 i j cs x hi hj;refine⟨v,?_,q2⟩;have:i*sz+j<olds.length:=(ag6.1 q1).1;rw[adV,ad6 this];exact q1
 rw[adU (by omega),hA] at hi;obtain⟨v,q1,q2⟩:=h2 (i - n) j cs x hi hj;refine⟨v,?_,q2⟩;have h3:(i - n)*sz+j<vals.length:=(ag6.1 q1).1;have h4:i*sz+j=olds.length+((i - n)*sz+j):=by
  rw[ho];have:i=n+(i - n):=by omega
  rw[this,ad_];have e:n+(i - n) - n=i - n:=by omega
  rw[e];omega
 rw[h4,adV,adU (by omega),ad6 (by omega)];rw[show olds.length+((i - n)*sz+j) - olds.length=(i - n)*sz+j by omega];exact q1
section
variable {K:Kx} {β:Lb→Option Nat} {env:Env} {H:Hp} {a:Act} {w:World}
def Dq (hr:bu K β env H a w) {H':Hp} {lb:Lb} {b:Option Nat} {w':World} (gw:rJ w w') (hu:H lb= .unused) (hb:∀g,b=some g→w.heap.size≤g)
  (hH:∀q,q≠lb→live H' q→live H q) (ls:List Lb) (rH:∀q∈ls,H q≠ .unused) :
  kR w w' β (bF β lb b) H H' (Im K β H) (Im K (bF β lb b) H') ls where
 im k hk hs:=⟨⟨hk.1,fun q hq=>by
  by_cases e:q=lb
  ·subst e;simp only[ov];intro h;have:=hb k h;omega
  rw[ax _ _ e];exact hk.2 q (hH q e hq)⟩,ae3 hs gw.size,gw.block k hs⟩
 lb q hq xq:=by
  have e:q≠lb:=fun e=>rH q hq (e▸hu);refine⟨hH q e xq,ax _ _ e,fun g S _ hS=> ?_⟩;unfold qU at *
  rwa[gw.block g (G1 hS)]
def nR (hr:bu K β env H a w) {Hk:Hp} (hk:bu K β env Hk a w) (TH:∀q,live Hk q→live H q) (hHu:∀q,H q≠ .unused→Hk q≠ .unused) {o:Oper} {d n m sz:Nat} {lb:Lb} (hd:d<K.N) {e:TypeId} {cap:Nat} {A news:List (List AV)} {olds vals rest:List Value}
  (h0:0<sz) (hu:H lb= .unused) (U9:Hk lb= .unused) (hA:A.length=n) (hm:news.length=m) (MR:∀cs∈A,cs.length=sz) (U':∀cs∈news,cs.length=sz)
  (TI:∀cs∈A,∀l∈ah cs,H l≠ .unused) (Y_:∀cs∈news,∀l∈ah cs,H l≠ .unused)
  (ho:olds.length=n*sz) (hv:vals.length=news.length*sz)
  (h1:∀i j cs x,A[i]?=some cs→cs[j]?=some x→∃v,olds[i*sz+j]?=some v∧RV w β H (Im K β H) x v)
  (h2:∀i j cs x,news[i]?=some cs→cs[j]?=some x→∃v,vals[i*sz+j]?=some v∧RV w β H (Im K β H) x v)
  (lP:(olds++vals++rest).length=cap*sz) (zV:cap≤maxLen) (hle:n+m≤cap)
  (rO:(execOp a.eval o).run K.P w= .ok (.value (.slice (some ⟨w.heap.size,0,none⟩) (n+m) cap)) (w.drew.alloc (.cells (olds++vals++rest).toArray e))) :
  qk K env a w o (some d) (.sl lb sz 0 (n+m)) (bF Hk lb (.live ⟨sz,A++news⟩)):=by
 have gw:rJ w (w.drew.alloc (.cells (olds++vals++rest).toArray e)):=(xx w).trans (j_ w.drew _);have ik:=Dq hr (H':=bF Hk lb (.live ⟨sz,A++news⟩)) (lb:=lb) (b:=some w.heap.size) gw hu (by simp) (fun q hq ⟨r,h⟩=>by rw[ax _ _ hq] at h;exact TH q ⟨r,h⟩);have oS:∀cs∈A++news,cs.length=sz∧∀l∈ah cs,H l≠ .unused:=by
  intro cs bS;rcases adD.1 bS with h|h
  ·exact⟨MR cs h,TI cs h⟩
  exact⟨U' cs h,Y_ cs h⟩
 have qC:zb (w.drew.alloc (.cells (olds++vals++rest).toArray e)) (bF β lb (some w.heap.size)) (bF Hk lb (.live ⟨sz,A++news⟩))
   (Im K (bF β lb (some w.heap.size)) (bF Hk lb (.live ⟨sz,A++news⟩))) lb ⟨sz,A++news⟩:=by
  refine⟨h0,fun cs bS=>(oS cs bS).1,?_⟩;simp only[ov];refine⟨(olds++vals++rest).toArray,e,cap,heap_alloc_new w.drew _,by simp only[afO];exact lP,zV,by simp;omega,fun i j cs x hi hj=> ?_⟩;obtain⟨v,q1,q2⟩:=comb A news hA MR U' olds vals rest ho hv h1 h2 i j cs x hi hj;exact⟨v,by simpa using q1,RV.mono _ _ (ik _ (fun q hq=>(oS cs (adu hi)).2 q (gL _ _ _ hj q hq))) q2⟩
 have h3:=hk.s9 lb U9 gw (some w.heap.size) (by simp) (fun cs bS q hq=>hHu q ((oS cs bS).2 q hq)) qC;have h4:=h3.step (Below.refl _ _) (d:=some d) (x:= .sl lb sz 0 (n+m)) (v:= .slice (some ⟨w.heap.size,0,none⟩) (n+m) cap) (by simpa using hd)
  (fun _=>by
   simp only[RV];refine⟨_,_,rfl,hle,zV,by simp,fun _=> .inr ⟨w.heap.size,cap*sz,by simp,by simp,?_,by simp⟩⟩;have hh:(w.drew.alloc (.cells (olds++vals++rest).toArray e)).heap[w.heap.size]?=some (.cells (olds++vals++rest).toArray e):=heap_alloc_new w.drew _;unfold qU;rw[hh];simp only[afO,lP]) (by simp[AV.aB])
 exact⟨_,_,_,_,rO,.inl rfl,h4⟩
def EE (hr:bu K β env H a w) {Hk:Hp} (hk:bu K β env Hk a w) {o:Oper} {d sz:Nat} {lb:Lb} (hd:d<K.N) (h0:0<sz) (U9:Hk lb= .unused) {ad:Option Addr}
  (rO:(execOp a.eval o).run K.P w= .ok (.value (.slice ad 0 0)) w) :
  qk K env a w o (some d) (.sl lb sz 0 0) (bF Hk lb (.live ⟨sz,[]⟩)):=by
 have h3:=hk.s9 lb U9 (r:=⟨sz,[]⟩) (Below.refl _ _) none (by simp) (by simp) ⟨h0,by simp,by simp⟩;have h4:=h3.step (Below.refl _ _) (d:=some d) (x:= .sl lb sz 0 0) (v:= .slice ad 0 0) (by simpa using hd)
  (fun _=>by simp only[RV];exact⟨_,0,rfl,by omega,by simp[maxLen],by simp,fun _=> .inl rfl⟩) (by simp[AV.aB])
 exact⟨_,_,_,_,rO,.inl rfl,h4⟩
def EF {α:Type} (A N:List α) (i:Nat) (h:i+N.length≤A.length) (k:Nat):(A.take i++N++A.drop (i+N.length))[k]?=if k<i then A[k]? else if k<i+N.length then N[k - i]? else A[k]?:=by
 have ht:(A.take i).length=i:=by rw[adP];omega
 rw[adV];by_cases h1:k<i
 ·rw[adv h1,ad6 (by omega),adT,adv h1]
 rw[ag8 h1,adU (by omega),ht];by_cases h2:k<i+N.length
 ·rw[adv h2,ad6 (by omega)]
 rw[ag8 h2,adU (by omega),aeD];congr 1;omega
def B8 (hr:bu K β env H a w) {l:Lb} {r:Row} {g:Nat} (hl:H l= .live r) (hb:β l=some g) {i:Nat} {news:List (List AV)} {vals:List Value} (qW:i+news.length≤r.els.length)
  (U':∀cs∈news,cs.length=r.sz) (Y_:∀cs∈news,∀q∈ah cs,H q≠ .unused) (hv:vals.length=news.length*r.sz)
  (h2:∀i j cs x,news[i]?=some cs→cs[j]?=some x→∃v,vals[i*r.sz+j]?=some v∧RV w β H (Im K β H) x v) (mY:∀v∈vals,v.oneCell'=true) :
  ∃cur',(storeCells ⟨g,i*r.sz,none⟩ vals).run K.P w= .ok () (w.setRow g cur') ∧
   bu K β env (bF H l (.live ⟨r.sz,r.els.take i++news++r.els.drop (i+news.length)⟩)) a (w.setRow g cur')∧qU (w.setRow g cur') g=qU w g:=by
 obtain⟨cur,e0,cap,k1,k2,k3,k4,k5⟩:=(hr.rows l r hl).block hb;have pC:0<r.sz:=(hr.rows l r hl).1;have IZ:i*r.sz+vals.length≤cur.size:=by
  rw[hv,k2,←ad_];exact adW _ (by omega)
 have MS:=run_storeCells_at K.P g (i*r.sz) e0 vals 0 cur w k1 (by simpa using IZ) mY;simp only[ae0] at MS;have vf:(cur.toList.take (i*r.sz)++vals++cur.toList.drop (i*r.sz+vals.length)).toArray.size=cur.size:=by
  simp only[afO,adE,adP,aen,afV];omega
 have hlen:(r.els.take i++news++r.els.drop (i+news.length)).length=r.els.length:=by simp;omega
 have oV:=hr.setRow l (r':=⟨r.sz,r.els.take i++news++r.els.drop (i+news.length)⟩) (cap:=cap) hl hb k1 vf rfl k2 k3 (by simp only;omega)
  (by
   intro cs bS;rcases adD.1 bS with h|h
   ·rcases adD.1 h with h|h
    ·exact(hr.rows l r hl).2.1 cs (ad4 h)
    exact U' cs h
   exact(hr.rows l r hl).2.1 cs (aev h))
  (by
   intro cs bS;rcases adD.1 bS with h|h
   ·rcases adD.1 h with h|h
    ·exact hr.fk l r hl cs (ad4 h)
    exact Y_ cs h
   exact hr.fk l r hl cs (aev h))
  (by
   intro i' j cs x0 jz oO;simp only at jz;rw[EF _ _ _ qW] at jz;have dO:=EF cur.toList vals (i*r.sz) (by simpa using IZ);simp only[agH,dO];have TG:j<r.sz:=by
    have h9:=(ag6.1 oO).1;have h8:cs.length=r.sz:=by
     split at jz
     ·exact(hr.rows l r hl).2.1 cs (adu jz)
     split at jz
     ·exact U' cs (adu jz)
     exact(hr.rows l r hl).2.1 cs (adu jz)
    omega
   by_cases h1:i'<i
   ·rw[adv h1] at jz;have:=adW r.sz (show i'+1≤i by omega);rw[ad_] at this;rw[adv (by omega)];obtain⟨v,q1,q2⟩:=k5 i' j cs x0 jz oO;exact⟨v,by simpa using q1,q2⟩
   rw[ag8 h1] at jz;have h3:=adW r.sz (show i≤i' by omega);rw[ag8 (by omega)];by_cases h4:i'<i+news.length
   ·rw[adv h4] at jz;have:=adW r.sz (show i'+1≤i+news.length by omega);rw[ad_,ad_,afL] at this;rw[adv (by rw[hv];omega)];obtain⟨v,q1,q2⟩:=h2 (i' - i) j cs x0 jz oO;refine⟨v,?_,q2⟩;rw[←q1];congr 1;rw[Nat.sub_mul];omega
   rw[ag8 h4] at jz;have:=adW r.sz (show i+news.length≤i' by omega);rw[ad_] at this;rw[ag8 (by rw[hv];omega)];obtain⟨v,q1,q2⟩:=k5 i' j cs x0 jz oO;exact⟨v,by simpa using q1,q2⟩)
 refine⟨_,MS,oV,?_⟩;have:qU w g=some cur.size:=by unfold qU;simp[k1]
 rw[this];exact rQ k1 vf g cur.size this
def zY {v:Value} {w1:World} {e:TypeId} (x y:Array Value) (h:x=y) :
  (Result.ok v (w1.alloc (.cells x e))).andThen (fun v w'=> .ok (Next.value v) w')= .ok (.value v) (w1.alloc (.cells y e)):=by
 subst h;rfl
def zZ {m C sz:Nat} (h:m≤C):m*sz+(C - m)*sz=C*sz:=by
 rw[←ad_];congr 1;omega
def jA (z:Array Value) (n:Nat):(Builtin.zeroCells z n).toList.length=n*z.size:=by simp[size_zeroCells]
def Za (hr : bu K β env H a w) {o : Oper} {c : Call} {s x : Operand} {s' x' : O} {st xt e : TypeId} {i : TypeInfo} {z : Value} {dx : TypeDesc} {d : Nat} (hd : d < K.N) (ho : o.op = .call c) (hc : c.callee = .builtin .append)
   (ha : c.args.toList = [s,x]) (G5 : c.argTypes.toList = [st,xt]) (mZ : K.P.underlying st = some (.slice e)) (hi : K.P.info? e = some i) (hz : i.zero = some z) (yu : z.cells.size = i.size) (h0 : 0 < i.size)
   (En : K.P.underlying xt = some dx) (GH : dx = .string ∨ ∃ e2,dx = .slice e2) (hs : co K.G s = some s') (hx : co K.G x = some x') {y : AV} {H' : Hp}
   (hy : nH i.size i.bytes d (ev env s') (ev env x') H = some (y,H')) : qk K env a w o (some d) y H' := by
 have Dk : c.args = #[s,x] := by cases hh : c.args; simp_all
 have G6 : c.argTypes = #[st,xt] := by cases hh : c.argTypes; simp_all
 have nL : (execOp a.eval o).run K.P w = ((Builtin.append_ #[st,xt] o.type #[a.eval s,a.eval x]).run K.P w).andThen fun v w' => .ok (.value v) w' := by
   simp [execOp,ho,resolve,hc,Dk,G6,invoke,builtin]
 unfold nH at hy
 obtain ⟨news,hn,hy⟩ := adx.1 hy
 obtain ⟨vals,S⟩ := zu hr hx h0 hn
 have xA := hr.ev hs
 split at hy
 · simp at hy
 · rename_i mY
   have mY : ∀ cs ∈ news,AV.qE cs := afi mY
   have I0 : ∀ v ∈ vals,v.oneCell' = true := by
     intro v hv
     obtain ⟨q,hq⟩ := aeh hv
     have Yc : q < news.length * i.size := by rw [← S.len]; exact (ag6.1 hq).1
     have Ye : q / i.size < news.length := agc (by rw [afk]; exact Yc)
     have hqj : q % i.size < i.size := oM _ h0
     have EG : news[q / i.size]? = some news[q / i.size] := ag7 Ye
     have BE := S.Kt _ (afu Ye)
     have Yd : (news[q / i.size])[q % i.size]? = some ((news[q / i.size])[q % i.size]'(by omega)) := ag7 (by omega)
     obtain ⟨v',e1,e2⟩ := S.rv _ _ _ _ EG Yd
     have : q / i.size * i.size + q % i.size = q := by rw [afk]; exact pB q i.size
     rw [this,hq] at e1
     cases e1
     exact RV.wj e2 (mY _ (afu Ye) _ (afu _))
   have EH : ∀ ad : Option Addr,∀ cc,(Builtin.firstCells i.size 0 (.slice ad 0 cc)).run K.P w.drew = .ok #[] w.drew := by
     intro ad cc
     cases ad with
     | none => simp [Builtin.firstCells]
     | some q => simp [Builtin.firstCells,loadCells,loadCellsFrom]
   split at hy
   · -- nothing yet
     rename_i e1
     rw [e1] at xA
     simp only [RV] at xA
     obtain ⟨ad,xA⟩ := xA
     split at hy
     · rename_i hb
       obtain ⟨Eo,z6,hu⟩ := hb
       have hb : news.length * i.bytes ≤ 140737488355328 ∧ 0 < i.bytes := ⟨Eo,z6⟩
       simp only [jl,adJ] at hy
       obtain ⟨rfl,rfl⟩ := hy
       by_cases IU : news.length = 0
       · have ff : news = [] := aeb IU
         subst ff
         have QO : vals = [] := aeb (by simpa using S.len)
         subst QO
         have pf := ma (ty := o.type) mZ hi En GH ad 0 0 0 (a.eval x) #[] S.lenOf (S.cells w (.inl rfl)) (by omega)
         refine EE hr hr hd h0 hu (ad := ad) ?_
         rw [nL,xA,pf]
         cases ad <;> simp [storeCells]
       · have pf := kV (ty := o.type) mZ hi hz En GH ad 0 0 news.length (a.eval x) vals.toArray #[] S.lenOf (S.cells w.drew (.inr rfl)) (EH ad 0) (by omega) (by simpa using hb.1) hb.2
         have xy := grownCap_ge w (0 + news.length) 0 e
         have El := grownCap_le_maxLen w (0 + news.length) 0 e (by
           have := aeE news.length hb.2
           simp only [maxLen]; omega)
         have := nR hr hr (fun _ h => h) (fun _ h => h) (o := o) hd (e := e) (n := 0) (m := news.length) (A := []) (news := news) (olds := []) (vals := vals)
           (rest := (Builtin.zeroCells z.cells (grownCap w (0 + news.length) 0 e - (0 + news.length))).toList) h0 hu hu rfl rfl (by simp) S.Kt (by simp) S.kL (by simp) S.len (by simp) S.rv
           (cap := grownCap w (0 + news.length) 0 e) (by
             have h9 := zZ (sz := i.size) xy
             simp only [adE,aek,S.len,jA,yu]
             simp only [adC] at h9 ⊢
             exact h9) El xy (by
             rw [nL,xA,pf]
             exact zY _ _ (by simp))
         simpa using this
     · simp at hy
   · -- a row
     rename_i l s0 i0 n e1
     rw [e1] at xA
     simp only [RV] at xA
     obtain ⟨ad,cc,h1,h2,h3,h4,h5⟩ := xA
     split at hy
     · rename_i r hl
       split at hy
       · rename_i eD
         obtain ⟨rfl,uo,rfl,Dp,hb,zh,U_,hu⟩ := eD
         simp only [jl,adJ] at hy
         obtain ⟨rfl,rfl⟩ := hy
         have GI : (r.els.take n).length = n := by simp; omega
         have MR : ∀ cs ∈ r.els.take n,cs.length = i.size := fun cs bS => by rw [← uo]; exact (hr.rows l r hl).2.1 cs (ad4 bS)
         have TI : ∀ cs ∈ r.els.take n,∀ q ∈ ah cs,H q ≠ .unused := fun cs bS => hr.fk l r hl cs (ad4 bS)
         have MT := hr.kill l (by rw [hl]; simp)
         have U9 : bF H l .dead (l.app d) = .unused := by rw [ax _ _ (aef U_)]; exact hu
         have TH : ∀ q,live (bF H l .dead) q → live H q := by
           rintro q ⟨r',h⟩
           by_cases e : q = l
           · subst e; simp at h
           · rw [ax _ _ e] at h; exact ⟨r',h⟩
         have hHu : ∀ q,H q ≠ .unused → bF H l .dead q ≠ .unused := by
           intro q h
           by_cases e : q = l
           · subst e; simp
           · rw [ax _ _ e]; exact h
         by_cases QP : cc = 0
         · subst QP
           have qX : n = 0 := by omega
           subst qX
           by_cases IU : news.length = 0
           · have ff : news = [] := aeb IU
             subst ff
             have QO : vals = [] := aeb (by simpa using S.len)
             subst QO
             have pf := ma (ty := o.type) mZ hi En GH ad 0 0 0 (a.eval x) #[] S.lenOf (S.cells w (.inl rfl)) (by omega)
             have := EE hr MT (o := o) hd h0 U9 (ad := ad) (by
               rw [nL,h1,pf]
               cases ad <;> simp [storeCells])
             simpa using this
           · have pf := kV (ty := o.type) mZ hi hz En GH ad 0 0 news.length (a.eval x) vals.toArray #[] S.lenOf (S.cells w.drew (.inr rfl)) (EH ad 0) (by omega) (by simpa using hb) zh
             have xy := grownCap_ge w (0 + news.length) 0 e
             have El := grownCap_le_maxLen w (0 + news.length) 0 e (by
               have := aeE (0 + news.length) zh
               simp only [maxLen]; omega)
             have := nR hr MT TH hHu (o := o) hd (e := e) (n := 0) (m := news.length) (A := []) (news := news) (olds := []) (vals := vals)
               (rest := (Builtin.zeroCells z.cells (grownCap w (0 + news.length) 0 e - (0 + news.length))).toList) h0 hu U9 rfl rfl (by simp) S.Kt (by simp) S.kL (by simp) S.len (by simp) S.rv
               (cap := grownCap w (0 + news.length) 0 e) (by
                 have h9 := zZ (sz := i.size) xy
                 simp only [adE,aek,S.len,jA,yu]
                 simp only [adC] at h9 ⊢
                 exact h9) El xy (by
                 rw [nL,h1,pf]
                 exact zY _ _ (by simp))
             simpa using this
         · rcases h5 ⟨r,hl⟩ with h6 | ⟨g,Sz,g1,rfl,g3,g4⟩
           · exact absurd h6 QP
           · obtain ⟨cur,e0,cap,k1,k2,k3,k4,k5⟩ := (hr.rows l r hl).block g1
             have hS : cur.size = Sz := by
               unfold qU at g3
               simp only [k1] at g3
               simpa using g3
             have MU : cc * i.size = cur.size := by rw [hS,← g4]; simp
             have Zb : n * i.size ≤ cur.size := by rw [← MU]; exact adW _ h2
             have ac7 : cap = cc := by
               rw [uo] at k2
               rw [k2] at MU
               exact (agm h0 MU).symm
             have hA1 : ∀ i' j cs x0,(r.els.take n)[i']? = some cs → cs[j]? = some x0 → ∃ v,(cur.toList.take (n * i.size))[i' * i.size + j]? = some v ∧ RV w β H (Im K β H) x0 v := by
               intro i' j cs x0 jz oO
               rw [adT] at jz
               split at jz
               · rename_i bO
                 obtain ⟨v,q1,q2⟩ := k5 i' j cs x0 jz oO
                 rw [uo] at q1
                 refine ⟨v,?_,q2⟩
                 have TG : j < i.size := by
                   have := (hr.rows l r hl).2.1 cs (adu jz)
                   have := (ag6.1 oO).1
                   omega
                 have lA : i' * i.size + j < n * i.size := by
                   have := adW i.size (show i' + 1 ≤ n by omega)
                   rw [ad_] at this; omega
                 rw [adT,adv lA]
                 simpa using q1
               · simp at jz
             have vg : (cur.toList.take (n * i.size)).length = n * i.size := by simp; omega
             by_cases G7 : n + news.length ≤ cc
             · -- within the room
               have pf := ma (ty := o.type) mZ hi En GH (some ⟨g,0 * i.size,none⟩) n cc news.length (a.eval x) vals.toArray S.lenOf (S.cells w (.inl rfl)) G7
               have IZ : n * i.size + vals.length ≤ cur.size := by
                 rw [S.len,← MU,← ad_]
                 exact adW _ G7
               have MS := run_storeCells_at K.P g (n * i.size) e0 vals 0 cur w k1 (by simpa using IZ) I0
               simp only [ae0] at MS
               have vf : (cur.toList.take (n * i.size) ++ vals ++ cur.toList.drop (n * i.size + vals.length)).toArray.size = cur.size := by
                 simp only [afO,adE,adP,aen,afV]
                 omega
               have oV := hr.setRow l (r' := ⟨i.size,r.els.take n ++ news⟩) (cap := cap) hl g1 k1 vf uo.symm k2 k3 (by simp; omega)
                 (by
                   intro cs bS
                   rw [uo]
                   rcases adD.1 bS with h | h
                   · exact MR cs h
                   · exact S.Kt cs h)
                 (by
                   intro cs bS
                   rcases adD.1 bS with h | h
                   · exact TI cs h
                   · exact S.kL cs h)
                 (by
                   intro i' j cs x0 jz oO
                   rw [uo]
                   obtain ⟨v,q1,q2⟩ := comb (r.els.take n) news GI MR S.Kt (cur.toList.take (n * i.size)) vals (cur.toList.drop (n * i.size + vals.length)) vg S.len hA1 S.rv i' j cs x0 jz oO
                   exact ⟨v,by simpa using q1,q2⟩)
               have qD := oV.relabel l (l.app d) (r := ⟨i.size,r.els.take n ++ news⟩) (by simp) (by rw [ax _ _ (aef U_)]; exact hu) (Lb.nR l d)
               rw [QN] at qD
               have Va := qD.step (Below.refl _ _) (d := some d) (x := .sl (l.app d) i.size 0 (n + news.length)) (v := .slice (some ⟨g,0 * i.size,none⟩) (n + news.length) cc) (by simpa using hd)
                 (fun _ => by
                   simp only [RV]
                   refine ⟨_,_,rfl,G7,h3,by simp,fun _ => .inr ⟨g,cur.size,by simp [g1],by simp,?_,by simpa using MU⟩⟩
                   exact rQ k1 vf g cur.size (by unfold qU; simp [k1])) (by simp [AV.aB])
               refine ⟨_,_,_,_,?_,.inl rfl,Va⟩
               rw [nL,h1,pf]
               simp only [addr_add,afl,adC,MS,Result.andThen_ok]
             · -- a new block
               have pf := kV (ty := o.type) mZ hi hz En GH (some ⟨g,0 * i.size,none⟩) n cc news.length (a.eval x) vals.toArray (cur.toList.take (n * i.size)).toArray S.lenOf (S.cells w.drew (.inr rfl))
                 (run_firstCells_some (P := K.P) w.drew i.size n ⟨g,0 * i.size,none⟩ n cc _ vg (fun j v hj => by
                   rw [addr_add,afl,adC]
                   have : w.cell? ⟨g,j,none⟩ = some v := by
                     rw [cell_of_row w g _ cur e0 (0,0) k1]
                     rw [adT] at hj
                     split at hj
                     · simpa using hj
                     · simp at hj
                   simpa using this)) (by omega) hb zh
               have xy := grownCap_ge w (n + news.length) cc e
               have El := grownCap_le_maxLen w (n + news.length) cc e (by
                 have := aeE (n + news.length) zh
                 simp only [maxLen]; omega)
               have := nR hr MT TH hHu (o := o) hd (e := e) (n := n) (m := news.length) (A := r.els.take n) (news := news) (olds := cur.toList.take (n * i.size)) (vals := vals)
                 (rest := (Builtin.zeroCells z.cells (grownCap w (n + news.length) cc e - (n + news.length))).toList) h0 hu U9 GI rfl MR S.Kt TI S.kL vg S.len hA1 S.rv
                 (cap := grownCap w (n + news.length) cc e) (by
                   have h9 := zZ (sz := i.size) xy
                   simp only [adE,vg,S.len,jA,yu]
                   rw [ad_] at h9
                   exact h9) El xy (by
                   rw [nL,h1,pf]
                   exact zY _ _ (by simp))
               exact this
       · simp at hy
     · simp at hy
   · -- a row whose room is known
     rename_i l s0 i0 n c0 e1
     rw [e1] at xA
     simp only [RV] at xA
     obtain ⟨ad,h1,h2,h3,h4,h5⟩ := xA
     split at hy
     · rename_i r hl
       split at hy
       · rename_i eD
         obtain ⟨rfl,uo,rfl,Dp,zh,U_⟩ := eD
         have GI : (r.els.take n).length = n := by simp; omega
         have MR : ∀ cs ∈ r.els.take n,cs.length = i.size := fun cs bS => by rw [← uo]; exact (hr.rows l r hl).2.1 cs (ad4 bS)
         have TI : ∀ cs ∈ r.els.take n,∀ q ∈ ah cs,H q ≠ .unused := fun cs bS => hr.fk l r hl cs (ad4 bS)
         split at hy
         · rename_i G7
           split at hy
           · rename_i Zc
             simp only [jl,adJ] at hy
             obtain ⟨rfl,rfl⟩ := hy
             have pf := ma (ty := o.type) mZ hi En GH ad n c0 news.length (a.eval x) vals.toArray S.lenOf (S.cells w (.inl rfl)) G7
             by_cases QP : c0 = 0
             · subst QP
               have qX : n = 0 := by omega
               subst qX
               have ff : news = [] := aeb (by omega)
               subst ff
               have QO : vals = [] := aeb (by simpa using S.len)
               subst QO
               have hH : bF H l (.live ⟨i.size,r.els.take 0 ++ [] ++ r.els.drop (0 + ([] : List (List AV)).length)⟩) = H := by
                 funext q
                 by_cases e : q = l
                 · subst e; simp only [ov,agI,aec,aek,ae0,ad1,← uo,hl]
                 · rw [ax _ _ e]
               rw [hH]
               have Va := hr.step (Below.refl _ _) (d := some d) (x := .slk l i.size 0 (0 + ([] : List (List AV)).length) 0) (v := .slice ad 0 0) (by simpa using hd)
                 (fun _ => by
                   simp only [RV]
                   exact ⟨ad,by simp,by simp,by simp [maxLen],by simp,fun _ => .inl rfl⟩) (fun _ q hq => by simp [AV.aB] at hq; subst hq; rw [hl]; simp)
               refine ⟨_,_,_,_,?_,.inl rfl,Va⟩
               rw [nL,h1,pf]
               cases ad <;> simp [storeCells]
             · rcases h5 ⟨r,hl⟩ with h6 | ⟨g,Sz,g1,rfl,g3,g4⟩
               · exact absurd h6 QP
               · obtain ⟨cur',w1,w2,w3⟩ := B8 hr hl g1 (i := n) (news := news) (vals := vals) Zc (by rw [uo]; exact S.Kt) S.kL (by rw [uo]; exact S.len) (by rw [uo]; exact S.rv) I0
                 rw [uo] at w1 w2
                 have Va := w2.step (Below.refl _ _) (d := some d) (x := .slk l i.size 0 (n + news.length) c0) (v := .slice (some ⟨g,0 * i.size,none⟩) (n + news.length) c0) (by simpa using hd)
                   (fun _ => by
                     simp only [RV]
                     exact ⟨_,rfl,G7,h3,by simp,fun _ => .inr ⟨g,Sz,g1,rfl,by rw [w3]; exact g3,g4⟩⟩) (fun _ q hq => by simp [AV.aB] at hq; subst hq; simp)
                 refine ⟨_,_,_,_,?_,.inl rfl,Va⟩
                 rw [nL,h1,pf]
                 simp only [addr_add,afl,adC,w1,Result.andThen_ok]
           · simp at hy
         · rename_i G7
           split at hy
           · rename_i z7
             obtain ⟨hb,hu⟩ := z7
             simp only [jl,adJ] at hy
             obtain ⟨rfl,rfl⟩ := hy
             have xy := grownCap_ge w (n + news.length) c0 e
             have El := grownCap_le_maxLen w (n + news.length) c0 e (by
               have := aeE (n + news.length) zh
               simp only [maxLen]; omega)
             have olds : ∃ olds : List Value,olds.length = n * i.size ∧ (∀ i' j cs x0,(r.els.take n)[i']? = some cs → cs[j]? = some x0 → ∃ v,olds[i' * i.size + j]? = some v ∧ RV w β H (Im K β H) x0 v) ∧
                 (Builtin.firstCells i.size n (.slice ad n c0)).run K.P w.drew = .ok olds.toArray w.drew := by
               by_cases QP : c0 = 0
               · have qX : n = 0 := by omega
                 subst qX
                 exact ⟨[],by simp,by simp,by simpa using EH ad c0⟩
               · rcases h5 ⟨r,hl⟩ with h6 | ⟨g,Sz,g1,rfl,g3,g4⟩
                 · exact absurd h6 QP
                 · obtain ⟨cur,e0,cap,k1,k2,k3,k4,k5⟩ := (hr.rows l r hl).block g1
                   rw [uo] at k2
                   have Zb : n * i.size ≤ cur.size := by rw [k2]; exact adW _ (by omega)
                   have vg : (cur.toList.take (n * i.size)).length = n * i.size := by simp; omega
                   refine ⟨cur.toList.take (n * i.size),vg,?_,?_⟩
                   · intro i' j cs x0 jz oO
                     rw [adT] at jz
                     split at jz
                     · rename_i bO
                       obtain ⟨v,q1,q2⟩ := k5 i' j cs x0 jz oO
                       rw [uo] at q1
                       refine ⟨v,?_,q2⟩
                       have TG : j < i.size := by
                         have := (hr.rows l r hl).2.1 cs (adu jz)
                         have := (ag6.1 oO).1
                         omega
                       have lA : i' * i.size + j < n * i.size := by
                         have := adW i.size (show i' + 1 ≤ n by omega)
                         rw [ad_] at this; omega
                       rw [adT,adv lA]
                       simpa using q1
                     · simp at jz
                   · exact run_firstCells_some (P := K.P) w.drew i.size n ⟨g,0 * i.size,none⟩ n c0 _ vg (fun j v hj => by
                       rw [addr_add,afl,adC]
                       have : w.cell? ⟨g,j,none⟩ = some v := by
                         rw [cell_of_row w g _ cur e0 (0,0) k1]
                         rw [adT] at hj
                         split at hj
                         · simpa using hj
                         · simp at hj
                       simpa using this)
             obtain ⟨olds,Vb,Yf,ho3⟩ := olds
             have pf := kV (ty := o.type) mZ hi hz En GH ad n c0 news.length (a.eval x) vals.toArray olds.toArray S.lenOf (S.cells w.drew (.inr rfl)) ho3 (by omega) hb zh
             have := nR hr hr (fun _ h => h) (fun _ h => h) (o := o) hd (e := e) (n := n) (m := news.length) (A := r.els.take n) (news := news) (olds := olds) (vals := vals)
               (rest := (Builtin.zeroCells z.cells (grownCap w (n + news.length) c0 e - (n + news.length))).toList) h0 hu hu GI rfl MR S.Kt TI S.kL Vb S.len Yf S.rv
               (cap := grownCap w (n + news.length) c0 e) (by
                 have h9 := zZ (sz := i.size) xy
                 simp only [adE,Vb,S.len,jA,yu]
                 rw [← ad_]
                 exact h9) El xy (by
                 rw [nL,h1,pf]
                 exact zY _ _ (by simp))
             exact this
           · simp at hy
       · simp at hy
     · simp at hy
   · simp at hy
end
end Go.Am
