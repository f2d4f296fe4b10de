import Derived.Test.YtfinkeaikbmpgaaGreatDoorAm11
import Derived.Laws.MakeOwn
set_option linter.unusedSimpArgs false
set_option linter.unusedVariables false
set_option linter.unnecessarySimpa false
set_option linter.defProp false
/- THE ABSTRACT MACHINE, part 38: copies, clears, rows of noughts, room. -/
namespace Go.Am
open Go Go.RowKit
def TJ:AV→Option (Lb×Nat×Nat×Nat)
 | .sl l sz i n=>some (l,sz,i,n)
 | .slk l sz i n _=>some (l,sz,i,n)
 |_=>none
def MV:AV→Option (Nat→Prop)
 | .slk _ _ _ _ c=>some fun m=>m=c
 | .sl _ _ _ n=>some fun m=>n≤m
 | .list xs=>some fun m=>xs.length≤m
 | .nil0=>some fun m=>m=0
 |_=>none
open Classical in
noncomputable def Dr (sz:Nat) (d x:AV) (H:Hp):Option (AV×Hp):=
 (oT sz x H).bind fun news=>(TJ d).bind fun p=>if ¬(∀cs∈news.take (Nat.min news.length p.2.2.2),AV.qE cs) then none else
  match H p.1 with
   | .live r=>if p.2.1=sz∧r.sz=sz∧p.2.2.1+p.2.2.2≤r.els.length then
    some (.int .i64 ((Nat.min news.length p.2.2.2:Nat):Int),bF H p.1 (.live ⟨sz,r.els.take p.2.2.1++news.take (Nat.min news.length p.2.2.2)++r.els.drop (p.2.2.1+(news.take (Nat.min news.length p.2.2.2)).length)⟩)) else none
   |_=>none
open Classical in
noncomputable def Ds (sz:Nat) (z:List AV) (x:AV) (H:Hp):Option Hp:=
 if ¬AV.qE z then none else(TJ x).bind fun p=>match H p.1 with
  | .live r=>if p.2.1=sz∧r.sz=sz∧p.2.2.1+p.2.2.2≤r.els.length then
   some (bF H p.1 (.live ⟨sz,r.els.take p.2.2.1++List.replicate p.2.2.2 z++r.els.drop (p.2.2.1+(List.replicate p.2.2.2 z).length)⟩)) else none
  |_=>none
open Classical in
noncomputable def z8 (sz bytes d:Nat) (z:List AV) (n c:AV) (H:Hp):Option (AV×Hp):=
 match n,c with
 | .int _ m,.int _ m'=>if m=m'∧0≤m∧m.toNat*bytes≤140737488355328∧H (.loc d)= .unused then some (.sl (.loc d) sz 0 m.toNat,bF H (.loc d) (.live ⟨sz,List.replicate m.toNat z⟩)) else none
 |_,_=>none
open Classical in
noncomputable def B9 (sz bytes d:Nat) (z:List AV) (s n:AV) (H:Hp):Option (AV×Hp):=
 match s,n with
 | .slk l s' i n c,.int _ m=>match H l with
  | .live r=>if s'=sz∧r.sz=sz∧i=0∧n≤r.els.length∧0≤m∧c<n+m.toNat∧(n+m.toNat)*bytes≤140737488355328∧H (.loc d)= .unused then
   some (.sl (.loc d) sz 0 (n+m.toNat),bF H (.loc d) (.live ⟨sz,r.els.take n++List.replicate m.toNat z⟩)) else none
  |_=>none
 |_,_=>none
noncomputable def Dt (sz d:Nat) (z:List AV) (ps:List (Nat×AV)) (H:Hp):Option (AV×Hp):=
 (lO z (ps.map fun p=>(p.1*sz,sz,p.2))).bind fun cs=>open Classical in if H (.loc d)= .unused∧cs.length=sz∧0<sz then some (.sl (.loc d) sz 0 1,bF H (.loc d) (.live ⟨sz,[cs]⟩)) else none
section
variable {K:Kx} {β:Lb→Option Nat} {env:Env} {H:Hp} {a:Act} {w:World}
def MW {x:AV} {l:Lb} {sz i n:Nat} (h:TJ x=some (l,sz,i,n)) {v:Value} (hv:RV w β H (Im K β H) x v) :
  l∈x.aB∧∃ad c,v= .slice ad n c∧n≤c∧c≤maxLen∧(live H l→QD w β l sz i c ad):=by
 cases x<;>simp[TJ] at h
 case sl=>
  obtain⟨rfl,rfl,rfl,rfl⟩:=h;simp only[RV] at hv;obtain⟨ad,c,h1,h2,h3,_,h5⟩:=hv;exact⟨by simp[AV.aB],ad,c,h1,h2,h3,h5⟩
 case slk=>
  obtain⟨rfl,rfl,rfl,rfl⟩:=h;simp only[RV] at hv;obtain⟨ad,h1,h2,h3,_,h5⟩:=hv;exact⟨by simp[AV.aB],ad,_,h1,h2,h3,h5⟩
def EI (hr:bu K β env H a w) {l:Lb} {r:Row} (hl:H l= .live r) {sz i n c:Nat} {ad:Option Addr} (pC:r.sz=sz) (hc:n≤c) (G5:QD w β l sz i c ad) {news:List (List AV)} {vals:List Value}
  (hn:news.length≤n) (qW:i+news.length≤r.els.length)
  (U':∀cs∈news,cs.length=r.sz) (Y_:∀cs∈news,∀q∈ah cs,H q≠ .unused) (hv:vals.length=news.length*r.sz)
  (h2:∀i j cs x,news[i]?=some cs→cs[j]?=some x→∃v,vals[i*r.sz+j]?=some v∧RV w β H (Im K β H) x v) (mY:∀v∈vals,v.oneCell'=true) :
  ∃w',(match ad with|some q=>storeCells q vals|none=>pure ()).run K.P w= .ok () w' ∧
   bu K β env (bF H l (.live ⟨sz,r.els.take i++news++r.els.drop (i+news.length)⟩)) a w':=by
 subst pC;rcases G5 with rfl|⟨g,S,g1,rfl,g3,g4⟩
 ·have ff:news=[]:=aeb (by omega);subst ff;have QO:vals=[]:=aeb (by simpa using hv);subst QO;have hH:bF H l (.live ⟨r.sz,r.els.take i++[]++r.els.drop (i+([]:List (List AV)).length)⟩)=H:=by
   funext q;by_cases e:q=l
   ·subst e;simp[hl]
   rw[ax _ _ e]
  rw[hH];refine⟨w,?_,hr⟩;cases ad<;>simp[storeCells]
 obtain⟨cur',w1,w2,_⟩:=B8 hr hl g1 (i:=i) (news:=news) (vals:=vals) qW U' Y_ hv h2 mY;exact⟨_,w1,w2⟩
def Ku {sz:Nat} {xv:Value} {news:List (List AV)} {vals:List Value} (h0:0<sz) (S:Src K β H w sz xv news vals) (k:Nat) (mY:∀cs∈news.take k,AV.qE cs):∀v∈vals.take (k*sz),v.oneCell'=true:=by
 intro v hv;obtain⟨q,hq⟩:=aeh hv;rw[adT] at hq;split at hq
 case isFalse=>simp at hq
 rename_i hqk;have Yc:q<news.length*sz:=by rw[←S.len];exact(ag6.1 hq).1
 have Ye:q/sz<news.length:=agc (by rw[afk];exact Yc);have abD:q/sz<k:=agc (by rw[afk];exact hqk);have hqj:q%sz<sz:=oM _ h0;have EG:news[q/sz]?=some news[q/sz]:=ag7 Ye;have BE:=S.Kt _ (afu Ye);have Yd:(news[q/sz])[q%sz]?=some ((news[q/sz])[q%sz]'(by omega)):=ag7 (by omega)
 obtain⟨v',e1,e2⟩:=S.rv _ _ _ _ EG Yd;have:q/sz*sz+q%sz=q:=by rw[afk];exact pB q sz
 rw[this,hq] at e1;cases e1;refine RV.wj e2 (mY _ ?_ _ (afu _));refine adu (i:=q/sz) ?_;rw[adT,adv abD];exact EG
def Zd (hr:bu K β env H a w) {o:Oper} {c:Call} {d x:Operand} {d' x':O} {dt xt e:TypeId} {sz:Nat} {dd:Option Nat} (hd:∀n,dd=some n→n<K.N) (ho:o.op= .call c) (hc:c.callee= .builtin .copy)
   (ha:c.args.toList=[d,x]) (G5:c.argTypes.toList=[dt,xt]) (Yg:K.P.underlying dt=some (.slice e)) (hs:zQ K.P e=some sz) (h0:sz≠0) (GH:co K.G d=some d') (hx:co K.G x=some x') {y:AV} {H':Hp}
   (hy:Dr sz (ev env d') (ev env x') H=some (y,H')):qk K env a w o dd y H':=by
 have Dk:c.args=#[d,x]:=by cases hh:c.args;simp_all
 have G6:c.argTypes=#[dt,xt]:=by cases hh:c.argTypes;simp_all
 have nL:(execOp a.eval o).run K.P w=((Builtin.copy_ #[dt,xt] o.type #[a.eval d,a.eval x]).run K.P w).andThen fun v w'=> .ok (.value v) w':=by
   simp[execOp,ho,resolve,hc,Dk,G6,invoke,builtin]
 unfold Dr at hy
 obtain⟨news,hn,hy⟩:=adx.1 hy
 obtain⟨vals,S⟩:=zu hr hx (by omega) hn
 have hdv:=hr.ev GH
 obtain⟨⟨l,s0,i,n⟩,hp,hy⟩:=adx.1 hy
 simp only at hy
 split at hy
 · simp at hy
 rename_i mY
 have mY:∀cs∈news.take (Nat.min news.length n),AV.qE cs:=afi mY
 have I0:=Ku (by omega) S (Nat.min news.length n) mY
 obtain⟨G8,ad,c0,h1,h2,h3,h5⟩:=MW hp hdv
 split at hy
 · rename_i r hl
   split at hy
   · rename_i eD
     obtain⟨rfl,uo,qW⟩:=eD
     simp only[jl,adJ] at hy
     obtain⟨rfl,rfl⟩:=hy
     have hk:Nat.min news.length n≤news.length:=jY _ _
     have BF:Nat.min news.length n≤n:=Nat.min_le_right _ _
     have G3:(news.take (Nat.min news.length n)).length=Nat.min news.length n:=by rw[adP];omega
     obtain⟨w',q1,q2⟩:=EI hr hl (sz:=s0) (i:=i) (n:=n) (news:=news.take (Nat.min news.length n)) (vals:=vals.take (Nat.min news.length n*s0)) uo h2 (h5 ⟨r,hl⟩) (by omega) (by omega)
       (fun cs bS=>by rw[uo];exact S.Kt cs (ad4 bS)) (fun cs bS=>S.kL cs (ad4 bS))
       (by rw[adP,S.len,G3,uo,ael (adW _ hk)])
       (fun i' j cs x0 jz oO => by
         rw[adT] at jz
         split at jz
         · rename_i bO
           obtain⟨v,e1,e2⟩:=S.rv i' j cs x0 jz oO
           refine⟨v,?_,e2⟩
           rw[uo,adT,adv]
           · exact e1
           have TG:j<s0:=by
             have:=S.Kt cs (adu jz)
             have:=(ag6.1 oO).1
             omega
           have:=adW s0 (show i'+1≤Nat.min news.length n by omega)
           rw[ad_] at this
           omega
         simp at jz)
       (fun v hv=>I0 v hv)
     have h4:=q2.step (Below.refl _ _) (d:=dd) (x:= .int .i64 ((Nat.min news.length n:Nat):Int)) (v:= .int .i64 ((Nat.min news.length n:Nat):Int)) hd (fun _=>by simp[RV]) (fun _=>by simp[AV.aB])
     refine⟨_,_,_,_,?_,.inl rfl,h4⟩
     rw[nL,h1]
     have vE:=S.MQ _ hk w (.inl rfl)
     have I1:(Builtin.copy_ #[dt,xt] o.type #[.slice ad n c0,a.eval x]).run K.P w= .ok (.int .i64 ((Nat.min news.length n:Nat):Int)) w':=by
       cases ad with
       |none=>
         simp only[Sem.run_pure,Result.ok.injEq,adF] at q1
         subst q1
         simp[Builtin.copy_,run_underlying Yg,S.lenOf,fQ hs,vE,goInt]
       |some q=>
       simp only at q1
       simp[Builtin.copy_,run_underlying Yg,S.lenOf,fQ hs,vE,goInt,q1]
     rw[I1];rfl
   simp at hy
 simp at hy
def xB (z:Array Value) (zs:List AV) (n:Nat) (h:cM w β H (Im K β H) zs z.toList) (hz:0<z.size):∀i j cs x,(List.replicate n zs)[i]?=some cs→cs[j]?=some x →
  ∃v,(Builtin.zeroCells z n).toList[i*z.size+j]?=some v∧RV w β H (Im K β H) x v:=by
 intro i j cs x hi hj;rw[afr] at hi;split at hi
 ·rename_i bO;simp only[jl] at hi;subst hi;obtain⟨v,e1,e2⟩:=cM.get _ _ j x h hj;refine⟨v,?_,e2⟩;have wu:j<z.size:=by
   have:=(ag6.1 e1).1;simpa using this
  have hb:i*z.size+j<n*z.size:=by
   have:=adW z.size (show i+1≤n by omega);rw[ad_] at this;omega
  have hm:(i*z.size+j)%z.size=j:=by rw[agt,Nat.add_mul_mod_self_right,lz wu]
  have hzj:z[j]?=some v:=by simpa using e1
  have hg:=aed.1 hzj;simp[Builtin.zeroCells,hb,hm,getElem!_def,hzj]
 simp at hi
def Kv (z:Array Value) (n:Nat) (hz:0<z.size) (h:∀v∈z.toList,v.oneCell'=true):∀v∈(Builtin.zeroCells z n).toList,v.oneCell'=true:=by
 intro v hv;simp only[Builtin.zeroCells,af7,ag0,adY,af4] at hv;obtain⟨i,hi,rfl⟩:=hv;have bO:i%z.size<z.size:=oM _ hz;refine h _ ?_;rw[show z[i%z.size]! =z[i%z.size] by simp[bO]];simp
theorem I2:∀(zs:List AV) (vs:List Value),AV.qE zs→cM w β H (Im K β H) zs vs→∀v∈vs,v.oneCell'=true
 |[],vs,_,h,v,hv=>by simp[cM] at h;subst h;simp at hv
 |x::r,vs,h1,h,v,hv=>by
  simp only[cM] at h;obtain⟨u,us,rfl,h2,h3⟩:=h;rcases adz.1 hv with rfl|hv
  ·exact RV.wj h2 (h1 x (by simp))
  exact I2 r us (fun y hy=>h1 y (by simp[hy])) h3 v hv
def Ze (hr:bu K β env H a w) {o:Oper} {c:Call} {x:Operand} {x':O} {e:TypeId} {i:TypeInfo} {z:Value} {zs:List AV} {dd:Option Nat} (hd:∀n,dd=some n→n<K.N) (ho:o.op= .call c) (hc:c.callee= .builtin .clear)
  (ha:c.args.toList=[x]) (ht:c.argTypes[0]?.bind K.P.underlying=some (.slice e)) (hi:K.P.info? e=some i) (hz:i.zero=some z) (yu:z.cells.size=i.size) (h0:0<i.size)
  (zT:u6 z.cells.toList=some zs) (hx:co K.G x=some x') {H':Hp} (hy:Ds i.size zs (ev env x') H=some H'):qk K env a w o dd (.dM []) H':=by
 have Dk:c.args=#[x]:=by cases hh:c.args;simp_all
 obtain⟨t,GG,Dj⟩:=adx.1 ht;have nL:(execOp a.eval o).run K.P w=((Builtin.clear_ c.argTypes o.type #[a.eval x]).run K.P w).andThen fun v w'=> .ok (.value v) w':=by
  simp[execOp,ho,resolve,hc,Dk,invoke,builtin]
 have Mt:=hr.ev hx;unfold Ds at hy;split at hy
 ·simp at hy
 rename_i mY;have mY:AV.qE zs:=afi mY;obtain⟨⟨l,s0,j,n⟩,hp,hy⟩:=adx.1 hy;obtain⟨G8,ad,c0,h1,h2,h3,h5⟩:=MW hp Mt;simp only at hy;split at hy
 ·rename_i r hl;split at hy
  ·rename_i eD;obtain⟨rfl,uo,qW⟩:=eD;simp only[jl] at hy;subst hy;have QQ:zs.length=i.size:=(by have:=cM.len _ _ (pD _ _ zT w β H (Im K β H));simp at this;omega);have Tz:=pD _ _ zT w β H (Im K β H);obtain⟨w',q1,q2⟩:=EI hr hl (sz:=i.size) (i:=j) (n:=n) (news:=List.replicate n zs) (vals:=(Builtin.zeroCells z.cells n).toList) uo h2 (h5 ⟨r,hl⟩) (by simp) (by simpa using qW)
    (fun cs bS=>by rw[aeR bS,uo,QQ]) (fun cs bS q hq=>by rw[aeR bS,pF _ _ zT] at hq;simp at hq)
    (by rw[jA,yu,uo];simp) (by rw[uo,←yu];exact xB z.cells zs n Tz (by omega))
    (Kv z.cells n (by omega) (I2 _ _ mY Tz))
   have h4:=q2.step (Below.refl _ _) (d:=dd) (x:= .dM []) (v:= .tuple #[]) hd (fun _=>by simp[RV,cM]) (fun _=>by simp[AV.aB,ah])
   refine⟨_,_,_,_,?_,.inl rfl,h4⟩;rw[nL,h1];have I1:(Builtin.clear_ c.argTypes o.type #[.slice ad n c0]).run K.P w= .ok (.tuple #[]) w':=by
    cases ad with
    |none=>
     simp only[Sem.run_pure,Result.ok.injEq,adF] at q1;subst q1;simp[Builtin.clear_,GG,run_underlying Dj]
    |some q=>
    simp only at q1;cases n with
    |zero=>
     have hw:w'=w:=by
      have Ko:(Builtin.zeroCells z.cells 0).toList=[]:=(by simp[Builtin.zeroCells]);rw[Ko] at q1;simp[storeCells] at q1;exact q1.symm
     rw[hw];simp[Builtin.clear_,GG,run_underlying Dj]
    |succ n=>
    simp[Builtin.clear_,GG,run_underlying Dj,zeroValue,typeInfo,hi,hz,q1]
   rw[I1];rfl
  simp at hy
 simp at hy
def Zf (hr:bu K β env H a w) {o:Oper} {t e:TypeId} {n c:Operand} {n' c':O} {i:TypeInfo} {z:Value} {zs:List AV} {d:Nat} (hd:d<K.N) (ho:o.op= .makeSlice t n c) (ht:K.P.underlying t=some (.slice e))
  (hi:K.P.info? e=some i) (hz:i.zero=some z) (yu:z.cells.size=i.size) (h0:0<i.size) (hb:0<i.bytes) (zT:u6 z.cells.toList=some zs) (hn:co K.G n=some n') (hc:co K.G c=some c') {y:AV} {H':Hp}
  (hy:z8 i.size i.bytes d zs (ev env n') (ev env c') H=some (y,H')):qk K env a w o (some d) y H':=by
 have hnv:=hr.ev hn;have Vc:=hr.ev hc;unfold z8 at hy;split at hy
 ·rename_i k m k' m' e1 e2;rw[e1] at hnv;rw[e2] at Vc;simp only[RV] at hnv Vc;split at hy
  ·rename_i eD;obtain⟨rfl,IU,hmb,hu⟩:=eD;simp only[jl,adJ] at hy;obtain⟨rfl,rfl⟩:=hy;obtain⟨q,rfl⟩:=afH IU;simp only[ag9] at hmb ⊢;have hqb:q≤q*i.bytes:=aeE _ hb;have rO:=run_make (P:=K.P) w t e i z ht hi hz k k' (q:Int) (q:Int) IU (Int.le_refl _) (by
    have:((q*i.bytes:Nat):Int)≤140737488355328:=(by omega);rw[uh,Int.mul_comm] at this;omega) (by omega)
   simp only[ag9] at rO;have QQ:zs.length=i.size:=(by have:=cM.len _ _ (pD _ _ zT w β H (Im K β H));simp at this;omega);have hzc:madeCells z.cells (q*i.size)=Builtin.zeroCells z.cells q:=(by rw[←yu];rfl);have hex:(execOp a.eval o).run K.P w= .ok (.value (.slice (some ⟨w.heap.size,0,none⟩) q q)) (w.alloc (.cells (Builtin.zeroCells z.cells q) e)):=by
    rw[←hzc];simp[execOp,ho,hnv,Vc,rO,Result.andThen]
   have gw:=j_ w (.cells (Builtin.zeroCells z.cells q) e);have ik:=Dq hr (H':=bF H (.loc d) (.live ⟨i.size,List.replicate q zs⟩)) (lb:= .loc d) (b:=some w.heap.size) gw hu (by simp) (fun p hp ⟨r,h⟩=>by rw[ax _ _ hp] at h;exact⟨r,h⟩);have qC:zb (w.alloc (.cells (Builtin.zeroCells z.cells q) e)) (bF β (.loc d) (some w.heap.size)) (bF H (.loc d) (.live ⟨i.size,List.replicate q zs⟩))
     (Im K (bF β (.loc d) (some w.heap.size)) (bF H (.loc d) (.live ⟨i.size,List.replicate q zs⟩))) (.loc d) ⟨i.size,List.replicate q zs⟩:=by
    refine⟨h0,fun cs bS=>by rw[aeR bS,QQ],?_⟩;simp only[ov];refine⟨Builtin.zeroCells z.cells q,e,q,heap_alloc_new w _,by rw[size_zeroCells,yu],by simp only[maxLen];omega,by simp,fun i' j cs x jz oO=> ?_⟩;obtain⟨v,q1,q2⟩:=xB (H:=H) z.cells zs q (pD _ _ zT w β H (Im K β H)) (by omega) i' j cs x jz oO;rw[yu] at q1;refine⟨v,by simpa using q1,RV.mono _ _ (ik _ (fun p hp=> ?_)) q2⟩;rw[afr] at jz;split at jz
    ·simp only[jl] at jz;subst jz;have:=gL _ _ _ oO p hp;rw[pF _ _ zT] at this;simp at this
    simp at jz
   have h3:=hr.s9 (.loc d) hu gw (some w.heap.size) (by simp) (fun cs bS p hp=>by rw[aeR bS,pF _ _ zT] at hp;simp at hp) qC;have h4:=h3.step (Below.refl _ _) (d:=some d) (x:= .sl (.loc d) i.size 0 q) (v:= .slice (some ⟨w.heap.size,0,none⟩) q q) (by simpa using hd)
    (fun _=>by
     simp only[RV];refine⟨_,_,rfl,adw _,by simp only[maxLen];omega,by simp,fun _=> .inr ⟨w.heap.size,q*i.size,by simp,by simp,?_,by simp⟩⟩;have hh:(w.alloc (.cells (Builtin.zeroCells z.cells q) e)).heap[w.heap.size]?=some (.cells (Builtin.zeroCells z.cells q) e):=heap_alloc_new w _;unfold qU;rw[hh];simp only[size_zeroCells,yu]) (by simp[AV.aB])
   exact⟨_,_,_,_,hex,.inl rfl,h4⟩
  simp at hy
 simp at hy
def Zg (hr:bu K β env H a w) {o:Oper} {c:Call} {x:Operand} {x':O} {e:TypeId} (ho:o.op= .call c) (hc:c.callee= .builtin .cap) (ha:c.args.toList=[x])
  (ht:c.argTypes[0]?.bind K.P.underlying=some (.slice e)) (hx:co K.G x=some x') {R:Nat→Prop} (hy:MV (ev env x')=some R):∃m,R m∧m≤maxLen∧bD K β H a w o (.int .i64 (m:Int)):=by
 have h:=hr.ev hx;obtain⟨t,GG,Dj⟩:=adx.1 ht;have Dk:c.args=#[x]:=by cases hh:c.args;simp_all
 have sl:∀(ad:Option Addr) (n c':Nat),a.eval x= .slice ad n c'→(execOp a.eval o).run K.P w= .ok (.value (.int .i64 c')) w:=by
  intro ad n c' hv;simp[execOp,ho,resolve,hc,Dk,hv,invoke,builtin,Builtin.cap_,GG,run_underlying Dj,goInt]
 have fin:∀(ad:Option Addr) (n c':Nat),a.eval x= .slice ad n c'→bD K β H a w o (.int .i64 (c':Int)):=fun ad n c' hv=>bD.same (sl ad n c' hv) (by simp[RV]) (by simp[AV.aB]);unfold MV at hy;split at hy<;>simp only[jl,reduceCtorEq] at hy
 ·rename_i l sz i n m hs;rw[hs] at h;simp only[RV] at h;obtain⟨ad,h1,h2,h3,_⟩:=h;subst hy;exact⟨m,rfl,h3,fin _ _ _ h1⟩
 ·rename_i l sz i n hs;rw[hs] at h;simp only[RV] at h;obtain⟨ad,m,h1,h2,h3,_⟩:=h;subst hy;exact⟨m,h2,h3,fin _ _ _ h1⟩
 ·rename_i xs hs;rw[hs] at h;simp only[RV,kP] at h;obtain⟨ad,m,h1,h2,h3,_⟩:=h;subst hy;exact⟨m,h2,h3,fin _ _ _ h1⟩
 rename_i hs;rw[hs] at h;simp only[RV] at h;obtain⟨ad,h1⟩:=h;subst hy;exact⟨0,rfl,by simp[maxLen],fin _ _ _ h1⟩
def Vd (hr:bu K β env H a w) {o:Oper} {t e:TypeId} {x:Operand} {n s:Nat} {x':O} (ho:o.op= .slice t x none none none) (ht:K.P.underlying t=some (.array n e))
  (hs:zQ K.P e=some s) (Qq:s≠0) (hx:co K.G x=some x') {y:AV} (hy:aj (.zN x' n s) env=some y):bD K β H a w o y:=by
 have h:=hr.ev hx;simp only[aj] at hy;split at hy
 ·rename_i cs e1;rw[e1] at h;split at hy
  ·rename_i eD;obtain⟨hl,GU,mY⟩:=eD;simp only[jl] at hy;subst hy;simp only[RV] at h;obtain⟨b,o',h1,h2,h3,h4⟩:=h;have UX:=rN (sz:=s) (by omega) n cs b o' hl mY h4;refine bD.same (v:= .slice (some ⟨b,o',none⟩) n n) ?_ ?_ (by simp[AV.aB])
   ·simp[execOp,ho,h1,Instr.sliceAt,run_underlying ht,Instr.sliceBounds,Instr.sureAddr,fQ hs,Result.andThen,addr_add]
   simp only[RV,kP];refine⟨some ⟨b,o',none⟩,n,by rw[UX.2],by rw[UX.2];exact adw _,GU,.inr ⟨b,o',s,rfl,h2,h3,by omega,UX.1⟩⟩
  simp at hy
 simp at hy
def z_ {w:World} {β:Lb→Option Nat} {H:Hp} {I I':Nat→Prop} (hk:mV w w I I'):∀{y:IV} {v:Value},(∀cs,y≠ .agg cs)→RV w β H I y.gK v→kP w I' y v:=by
 intro y v hy h;cases y with
 |agg cs=>exact absurd rfl (hy cs)
 |list xs=>simp only[IV.gK,RV] at h;exact kP.mono hk _ _ h
 |bool b=>simpa[IV.gK,RV,kP] using h
 |int k n=>simpa[IV.gK,RV,kP] using h
 |str s=>simpa[IV.gK,RV,kP] using h
 |ifc t=>simp only[IV.gK,RV] at h;obtain⟨u,rfl,_⟩:=h;exact⟨u,rfl⟩
theorem nS {w:World} {I:Nat→Prop}:∀(cs:List IV) (b o:Nat),(∀j z,cs[j]?=some z→∃v,w.cell? ⟨b,o+j,none⟩=some v∧kP w I z v)→dF w I cs b o
 |[],b,o,_=>by simp[dF]
 |z::r,b,o,h=>by
  simp only[dF];refine⟨by simpa using h 0 z (by simp),nS r b (o+1) (fun j y hj=> ?_)⟩;have:=h (j+1) y (by simpa using hj)
  rwa[show o+(j+1)=o+1+j by omega] at this
theorem pg {w:World} {I:Nat→Prop} {sz:Nat}:∀(xs:List IV) (b o:Nat),(∀k y,xs[k]?=some y→nJ w I y b (o+k*sz) sz)→dS w I xs b o sz
 |[],b,o,_=>by simp[dS]
 |y::r,b,o,h=>by
  simp only[dS];refine⟨by simpa using h 0 y (by simp),pg r b (o+sz) (fun k z hk=> ?_)⟩;have:=h (k+1) z (by simpa using hk)
  rwa[ad_,afL,show o+(k*sz+sz)=o+sz+k*sz by omega] at this
def Ve (hr:bu K β env H a w) {o:Oper} {c:Call} {s x:Operand} {s' x':O} {st xt e:TypeId} {i:TypeInfo} {z:Value} {dx:TypeDesc} (ho:o.op= .call c) (hc:c.callee= .builtin .append)
  (ha:c.args.toList=[s,x]) (G5:c.argTypes.toList=[st,xt]) (mZ:K.P.underlying st=some (.slice e)) (hi:K.P.info? e=some i) (hz:i.zero=some z) (yu:z.cells.size=i.size) (h0:0<i.size)
  (En:K.P.underlying xt=some dx) (GH:dx= .string∨∃e2,dx= .slice e2) (hs:co K.G s=some s') (hx:co K.G x=some x') {y:AV}
  (hy:aj (.xw s' x' i.size i.bytes) env=some y):bD K β H a w o y:=by
 have Dk:c.args=#[s,x]:=by cases hh:c.args;simp_all
 have G6:c.argTypes=#[st,xt]:=by cases hh:c.argTypes;simp_all
 have nL:(execOp a.eval o).run K.P w=((Builtin.append_ #[st,xt] o.type #[a.eval s,a.eval x]).run K.P w).andThen fun v w'=> .ok (.value v) w':=by
  simp[execOp,ho,resolve,hc,Dk,G6,invoke,builtin]
 have xA:=hr.ev hs;have TK:∀(news:List (List AV)) (vals:List Value),news.length=0→Src K β H w i.size (a.eval x) news vals→ev env s'= .nil0→bD K β H a w o (.list []):=by
  intro news vals IU S e1;rw[e1] at xA;simp only[RV] at xA;obtain⟨ad,xA⟩:=xA;have ff:news=[]:=aeb IU;subst ff;have QO:vals=[]:=aeb (by simpa using S.len);subst QO;have pf:=ma (ty:=o.type) mZ hi En GH ad 0 0 0 (a.eval x) #[] S.lenOf (S.cells w (.inl rfl)) (by omega)
  refine bD.same (v:= .slice ad 0 0) ?_ ?_ (by simp[AV.aB])
  ·rw[nL,xA,pf];cases ad<;>simp[storeCells]
  simp only[RV,kP];exact⟨ad,0,rfl,adw _,by simp[maxLen],.inl rfl⟩
 simp only[aj] at hy;split at hy
 ·rename_i xs e1 e2;split at hy
  ·rename_i eD;obtain⟨oS,B_,hb,zh,_⟩:=eD;simp only[jl] at hy;subst hy;have hn:oT i.size (ev env x') H=some (xs.map fun y=>y.cells.map IV.gK):=(by rw[e2];simp[oT,oS]);obtain⟨vals,S⟩:=zu hr hx h0 hn;by_cases IU:xs.length=0
   ·have:xs=[]:=aeb IU;subst this;exact TK _ _ (by simp) S e1
   rw[e1] at xA;simp only[RV] at xA;obtain⟨ad,xA⟩:=xA;have Dp:(xs.map fun y=>y.cells.map IV.gK).length=xs.length:=ag5 _;have EH:(Builtin.firstCells i.size 0 (.slice ad 0 0)).run K.P w.drew= .ok #[] w.drew:=by
    cases ad with
    |none=>simp[Builtin.firstCells]
    |some q=>simp[Builtin.firstCells,loadCells,loadCellsFrom]
   have hlen:=S.lenOf;have vE:=S.cells w.drew (.inr rfl);rw[Dp] at hlen vE;have pf:=kV (ty:=o.type) mZ hi hz En GH ad 0 0 xs.length (a.eval x) vals.toArray #[] hlen vE EH (by omega) (by simpa using hb) zh
   have xy:=grownCap_ge w (0+xs.length) 0 e;have El:=grownCap_le_maxLen w (0+xs.length) 0 e (by
    have:=aeE xs.length zh;simp only[maxLen];omega)
   have gw:=(xx w).trans (j_ w.drew (.cells (#[]++vals.toArray++Builtin.zeroCells z.cells (grownCap w (0+xs.length) 0 e - (0+xs.length))) e))
   refine⟨.slice (some ⟨w.heap.size,0,none⟩) (0+xs.length) (grownCap w (0+xs.length) 0 e),_,by rw[nL,xA,pf];rfl,gw,?_,by simp[AV.aB]⟩;simp only[RV,kP];refine⟨_,_,by rw[adC],by omega,El,.inr ⟨w.heap.size,0,i.size,rfl,hr.fresh,?_,h0,?_⟩⟩
   ·have hh:=heap_alloc_new w.drew (.cells (#[]++vals.toArray++Builtin.zeroCells z.cells (grownCap w (0+xs.length) 0 e - (0+xs.length))) e)
    exact(aed.1 hh).1
   refine pg _ _ _ (fun k y I3=> ?_);rw[ku];have BE:y.cells.length=i.size:=oS y (adu I3);refine⟨BE.symm,nS _ _ _ (fun j q hq=> ?_)⟩;obtain⟨v,q1,q2⟩:=S.rv k j (y.cells.map IV.gK) q.gK (by simp[I3]) (by simp[hq]);refine⟨v,?_,kP.mono (rJ.zP gw β H (Im K β H) []).tomV _ _ (z_ (I:=Im K β H) (w:=w) ⟨fun k hk hs=>⟨hk,hs,rfl⟩⟩ (B_ y (adu I3) q (adu hq)) q2)⟩;have hh:(w.drew.alloc (.cells (#[]++vals.toArray++Builtin.zeroCells z.cells (grownCap w (0+xs.length) 0 e - (0+xs.length))) e)).heap[w.heap.size]?=some (.cells (#[]++vals.toArray++Builtin.zeroCells z.cells (grownCap w (0+xs.length) 0 e - (0+xs.length))) e):=heap_alloc_new w.drew _
   rw[cell_of_row _ _ _ _ _ _ hh];have bO:k*i.size+j<vals.length:=(ag6.1 q1).1;simp only[adC];rw[afC (by simpa using bO)];simpa using q1
  simp at hy
 ·rename_i e1 e2;split at hy
  ·simp only[jl] at hy;subst hy;have hn:oT i.size (ev env x') H=some []:=(by rw[e2];simp[oT]);obtain⟨vals,S⟩:=zu hr hx h0 hn;exact TK _ _ rfl S e1
  exact absurd h0 ‹_›
 simp at hy
def xC {P:Program} {w:World} {st xt ty e:TypeId} {i:TypeInfo} {z:Value} {k0:IntKind} (hu:P.underlying st=some (.slice e)) (hi:P.info? e=some i) (hz:i.zero=some z) (hx:P.underlying xt=some (.int k0))
  (ad:Option Addr) (n c m:Nat) (k:IntKind) (olds:Array Value) (h0:0<m*i.size)
  (ho:(Builtin.firstCells i.size n (.slice ad n c)).run P w.drew= .ok olds w.drew) (B7:c<n+m) (hb:(n+m)*i.bytes≤140737488355328) (zh:0<i.bytes) :
  (Builtin.append_ #[st,xt] ty #[.slice ad n c,.int k (m:Int)]).run P w= .ok (.slice (some ⟨w.heap.size,0,none⟩) (n+m) (grownCap w (n+m) c e))
   (w.drew.alloc (.cells (olds++Builtin.zeroCells z.cells m++Builtin.zeroCells z.cells (grownCap w (n+m) c e - (n+m))) e)):=by
 have hn:¬(n+m≤c):=by omega
 have h63:n+m≤(n+m)*i.bytes:=aeE _ zh;have U7:¬(9223372036854775807<((n:Int)+(m:Int))):=by omega
 have U8:¬(281474976710656<Builtin.nextslicecap (n+m) c*i.bytes):=by have:=growslice_fits B7 hb;omega
 have hw:IntKind.i64.wrap (m:Int)=m:=by rw[IntKind.wrap_i64];omega
 have abE:¬((m:Int)<0):=by omega
 have abF:¬(281474976710656<(m:Int)*(i.bytes:Int)):=by
  rw[←uh];have:m*i.bytes≤(n+m)*i.bytes:=adW _ (by omega);omega
 have xp:¬(m*i.size=0):=by omega
 have abG:m≠0:=fun h=>xp (by simp[h]);have abH:i.size≠0:=fun h=>xp (by simp[h]);simp[Builtin.append_,run_underlying hu,run_underlying hx,sizeOf,typeInfo,zeroValue,hi,hz,asInt,asIntOf,hw,hn,abE,abG,abH,U7,U8,abF,Question.forced,ho,newRow,grownCap];intro h;exact absurd h xp
def Vf (hr:bu K β env H a w) {o:Oper} {c:Call} {s x:Operand} {s' x':O} {st xt e:TypeId} {i:TypeInfo} {z:Value} {zs:List AV} {k0:IntKind} {d:Nat} (hd:d<K.N) (ho:o.op= .call c) (hc:c.callee= .builtin .append)
  (ha:c.args.toList=[s,x]) (G5:c.argTypes.toList=[st,xt]) (mZ:K.P.underlying st=some (.slice e)) (hi:K.P.info? e=some i) (hz:i.zero=some z) (yu:z.cells.size=i.size) (h0:0<i.size) (zh:0<i.bytes)
  (En:K.P.underlying xt=some (.int k0)) (zT:u6 z.cells.toList=some zs) (hs:co K.G s=some s') (hx:co K.G x=some x') {y:AV} {H':Hp}
  (hy:B9 i.size i.bytes d zs (ev env s') (ev env x') H=some (y,H')):qk K env a w o (some d) y H':=by
 have Dk:c.args=#[s,x]:=by cases hh:c.args;simp_all
 have G6:c.argTypes=#[st,xt]:=by cases hh:c.argTypes;simp_all
 have nL:(execOp a.eval o).run K.P w=((Builtin.append_ #[st,xt] o.type #[a.eval s,a.eval x]).run K.P w).andThen fun v w'=> .ok (.value v) w':=by
  simp[execOp,ho,resolve,hc,Dk,G6,invoke,builtin]
 have xA:=hr.ev hs;have Mt:=hr.ev hx;unfold B9 at hy;split at hy
 ·rename_i l s0 i0 n c0 k m e1 e2;rw[e1] at xA;rw[e2] at Mt;simp only[RV] at xA Mt;obtain⟨ad,h1,h2,h3,h4,h5⟩:=xA;split at hy
  ·rename_i r hl;split at hy
   ·rename_i eD;obtain⟨rfl,uo,rfl,Dp,IU,B7,hb,hu⟩:=eD;obtain⟨q,rfl⟩:=afH IU;simp only[ag9] at B7 hb hy;simp only[jl,adJ] at hy;obtain⟨rfl,rfl⟩:=hy;have GI:(r.els.take n).length=n:=(by simp;omega);have MR:∀cs∈r.els.take n,cs.length=i.size:=fun cs bS=>(by rw[←uo];exact(hr.rows l r hl).2.1 cs (ad4 bS));have TI:∀cs∈r.els.take n,∀q∈ah cs,H q≠ .unused:=fun cs bS=>hr.fk l r hl cs (ad4 bS);have QQ:zs.length=i.size:=(by have:=cM.len _ _ (pD _ _ zT w β H (Im K β H));simp at this;omega);have Tz:=pD _ _ zT w β H (Im K β H);have xy:=grownCap_ge w (n+q) c0 e;have El:=grownCap_le_maxLen w (n+q) c0 e (by
     have:=aeE (n+q) zh;simp only[maxLen];omega)
    have olds:∃olds:List Value,olds.length=n*i.size∧(∀i' j cs x0,(r.els.take n)[i']?=some cs→cs[j]?=some x0→∃v,olds[i'*i.size+j]?=some v∧RV w β H (Im K β H) x0 v) ∧
      (Builtin.firstCells i.size n (.slice ad n c0)).run K.P w.drew= .ok olds.toArray w.drew:=by
     by_cases QP:c0=0
     ·have qX:n=0:=(by omega);subst qX;refine⟨[],by simp,by simp,?_⟩;cases ad with
      |none=>simp[Builtin.firstCells]
      |some q=>simp[Builtin.firstCells,loadCells,loadCellsFrom]
     rcases h5 ⟨r,hl⟩ with h6|⟨g,Sz,g1,rfl,g3,g4⟩
     ·exact absurd h6 QP
     obtain⟨cur,e0,cap,k1,k2,k3,k4,k5⟩:=(hr.rows l r hl).block g1;rw[uo] at k2;have Zb:n*i.size≤cur.size:=(by rw[k2];exact adW _ (by omega));have vg:(cur.toList.take (n*i.size)).length=n*i.size:=(by simp;omega);refine⟨cur.toList.take (n*i.size),vg,?_,?_⟩
     ·intro i' j cs x0 jz oO;rw[adT] at jz;split at jz
      ·rename_i bO;obtain⟨v,q1,q2⟩:=k5 i' j cs x0 jz oO;rw[uo] at q1;refine⟨v,?_,q2⟩;have TG:j<i.size:=by
        have:=(hr.rows l r hl).2.1 cs (adu jz);have:=(ag6.1 oO).1;omega
       have lA:i'*i.size+j<n*i.size:=by
        have:=adW i.size (show i'+1≤n by omega);rw[ad_] at this;omega
       rw[adT,adv lA];simpa using q1
      simp at jz
     exact run_firstCells_some (P:=K.P) w.drew i.size n ⟨g,0*i.size,none⟩ n c0 _ vg (fun j v hj=>by
      rw[addr_add,afl,adC];have:w.cell? ⟨g,j,none⟩=some v:=by
       rw[cell_of_row w g _ cur e0 (0,0) k1];rw[adT] at hj;split at hj
       ·simpa using hj
       simp at hj
      simpa using this)
    obtain⟨olds,Vb,Yf,ho3⟩:=olds;have hmp:0<q*i.size:=Nat.mul_pos (by omega) h0;have pf:=xC (ty:=o.type) mZ hi hz En ad n c0 q k olds.toArray hmp ho3 B7 hb zh;have hAz:(List.replicate q zs).length=q:=aeS;have:=nR hr hr (fun _ h=>h) (fun _ h=>h) (o:=o) hd (e:=e) (n:=n) (m:=q) (A:=r.els.take n) (news:=List.replicate q zs) (olds:=olds) (vals:=(Builtin.zeroCells z.cells q).toList)
     (rest:=(Builtin.zeroCells z.cells (grownCap w (n+q) c0 e - (n+q))).toList) h0 hu hu GI hAz MR (fun cs bS=>by rw[aeR bS,QQ]) TI
     (fun cs bS p hp=>by rw[aeR bS,pF _ _ zT] at hp;simp at hp) Vb (by rw[jA,yu,hAz]) Yf (by rw[←yu];exact xB z.cells zs q Tz (by omega))
     (cap:=grownCap w (n+q) c0 e) (by
      have h9:=zZ (sz:=i.size) xy;simp only[adE,Vb,jA,yu];rw[←ad_];exact h9) El xy (by
      rw[nL,h1,Mt,pf];exact zY _ _ (by simp))
    exact this
   simp at hy
  simp at hy
 simp at hy
def Kw {x:AV} (h:x.GF=true):∀l∈ah x.cells,l∈x.aB:=by
 intro l hl;cases x<;>simp[AV.cells,ah] at hl<;>simp[AV.aB] at hl ⊢<;>exact hl
def ql (l m:List AV):ah (l++m)=ah l++ah m:=by
 induction l with
 |nil=>rfl
 |cons x r ih=>simp[ah,ih]
theorem Ca:∀(qs:List (Nat×Nat×AV)) (c c':List AV),lO c qs=some c'→∀l∈ah c',l∈ah c∨∃q∈qs,l∈q.2.2.aB
 |[],c,c',h,l,hl=>by simp[lO] at h;subst h;exact .inl hl
 |(off,sz,x)::qs,c,c',h,l,hl=>by
  simp only[lO] at h;split at h
  ·rename_i hc;rcases Ca qs _ _ h l hl with h1|⟨q,h1,h2⟩
   ·rw[ql,ql,adD,adD] at h1;rcases h1 with(h1|h1)|h1
    ·left;have:=ql (c.take off) (c.drop off);rw[ad0] at this;rw[this,adD];exact .inl h1
    ·exact .inr ⟨(off,sz,x),by simp,Kw hc.1 l h1⟩
    left;have:=ql (c.take (off+sz)) (c.drop (off+sz));rw[ad0] at this;rw[this,adD];exact .inr h1
   exact .inr ⟨q,by simp[h1],h2⟩
  simp at h
def QR (hr:bu K β env H a w) {o:Oper} {t e:TypeId} {ps:Array (Nat×Operand)} {i:TypeInfo} {z:Value} {zs:List AV} {xs:List O} {d:Nat} (hd:d<K.N) (ho:o.op= .buildSlice t 1 ps)
  (ht:K.P.underlying t=some (.slice e)) (hi:K.P.info? e=some i) (hz:i.zero=some z) (yu:z.cells.size=i.size) (h0:0<i.size) (hn:1*i.size≤2^24)
  (zT:u6 z.cells.toList=some zs) (GW:cos K.G (ps.toList.map (·.2))=some xs) {y:AV} {H':Hp}
  (hy:Dt i.size d zs (((ps.toList.map (·.1)).zip xs).map fun p=>(p.1,ev env p.2)) H=some (y,H')):qk K env a w o (some d) y H':=by
 unfold Dt at hy;obtain⟨cs,h1,hy⟩:=adx.1 hy;split at hy
 ·rename_i eD;obtain⟨hu,hlen,_⟩:=eD;simp only[jl,adJ] at hy;obtain⟨rfl,rfl⟩:=hy;have Ko:=pD _ _ zT w β H (Im K β H);have hzero:=zS z.cells zs w β H (Im K β H) Ko (by omega) 1;have hm:∀l∈ah cs,H l≠ .unused:=by
   intro l hl;rcases Ca _ _ _ h1 l hl with h2|⟨q,h2,h3⟩
   ·rw[pF _ _ zT] at h2;simp at h2
   simp only[af0,adY,Function.comp] at h2;obtain⟨p,hp,rfl⟩:=h2;simp only at h3;have TL:p.2∈xs:=(List.of_mem_zip (a:=p.1) (b:=p.2) hp).2;obtain⟨k,hk⟩:=aeh TL;exact qY hr _ _ GW l (gL _ k _ (by rw[adX,hk];rfl) l h3)
  have UZ:xs.length=ps.toList.length:=by
   have:=cM.len _ _ (qB hr _ _ GW);simp at this;simpa using this.symm
  have fX:=vD hr (fun j=>some (j*i.size,i.size)) ps.toList xs (((ps.toList.map (·.1)).zip xs).map fun p=>(p.1*i.size,i.size,p.2)) GW
   (by simp at UZ;simp[UZ])
   (by
    intro j p x q g1 g2 g3;simp only[adX,agr,ag4] at g3;obtain⟨⟨u,v⟩,⟨⟨p',e1,e2⟩,e3⟩,rfl⟩:=g3;simp only at e1 e2 e3;rw[g1] at e1;cases e1;rw[g2] at e3;cases e3;exact⟨rfl,by simp[e2]⟩)
  obtain⟨cur',f1,f2⟩:=wo (fun j=>some (j*i.size,i.size)) _ _ _ cs _ hzero (by simpa[af0,j8] using h1) fX;have Ez:Instr.fill (fun j=>some (j*i.size,i.size)) ((Array.range (1*i.size)).map (z.cells[·%z.cells.size]!)) (ps.toList.map fun p=>(p.1,a.eval p.2))=some cur':=by
   rw[←yu];rw[←yu] at f1;exact f1
  have U0:¬1*i.size=0:=by omega
  have YZ:=fQ (P:=K.P) (t:=e) (s:=i.size) (by simp[zQ,hi]) w;have rO:(execOp a.eval o).run K.P w= .ok (.value (.slice (some ⟨w.heap.size,0,none⟩) 1 1)) (w.alloc (.cells cur' e)):=by
   simp only[execOp,ho,Instr.buildSlice,Sem.run_bind,run_underlying ht,Result.andThen_ok,YZ,Sem.run_ite,U0,adS,zeroValue,typeInfo,run_program,hi,hz,
    af7,show ¬1*i.size>2^24 by omega,Sem.run_pure,Result.andThen,Ez]
   simp[newRow,Ez]
  have vf:cur'.size=i.size:=by have:=cM.len _ _ f2;simp at this;omega
  have gw:=j_ w (.cells cur' e);have ik:=Dq hr (H':=bF H (.loc d) (.live ⟨i.size,[cs]⟩)) (lb:= .loc d) (b:=some w.heap.size) gw hu (by simp) (fun p hp ⟨r,h⟩=>by rw[ax _ _ hp] at h;exact⟨r,h⟩);have qC:zb (w.alloc (.cells cur' e)) (bF β (.loc d) (some w.heap.size)) (bF H (.loc d) (.live ⟨i.size,[cs]⟩))
    (Im K (bF β (.loc d) (some w.heap.size)) (bF H (.loc d) (.live ⟨i.size,[cs]⟩))) (.loc d) ⟨i.size,[cs]⟩:=by
   refine⟨h0,by simp[hlen],?_⟩;simp only[ov];refine⟨cur',e,1,heap_alloc_new w _,by simp[vf],by simp[maxLen],by simp,fun i' j jm x jz oO=> ?_⟩;cases i' with
   |succ i'=>simp at jz
   |zero=>
   simp at jz;subst jz;obtain⟨v,k1,k2⟩:=cM.get _ _ _ _ f2 oO;exact⟨v,by simpa using k1,RV.mono _ _ (ik _ (fun l hl=>hm l (gL _ _ _ oO l hl))) k2⟩
  have h3:=hr.s9 (.loc d) hu gw (some w.heap.size) (by simp) (by simpa using hm) qC;have h4:=h3.step (Below.refl _ _) (d:=some d) (x:= .sl (.loc d) i.size 0 1) (v:= .slice (some ⟨w.heap.size,0,none⟩) 1 1) (by simpa using hd)
   (fun _=>by
    simp only[RV];refine⟨_,1,rfl,adw _,by simp[maxLen],by simp,fun _=> .inr ⟨w.heap.size,i.size,by simp,by simp,?_,by simp⟩⟩;have hh:(w.alloc (.cells cur' e)).heap[w.heap.size]?=some (.cells cur' e):=heap_alloc_new w _;unfold qU;rw[hh];simp only[vf]) (by simp[AV.aB])
  exact⟨_,_,_,_,rO,.inl rfl,h4⟩
 simp at hy
end
end Go.Am
