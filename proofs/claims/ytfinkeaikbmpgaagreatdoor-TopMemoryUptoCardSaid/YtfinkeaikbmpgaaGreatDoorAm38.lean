import Derived.Test.YtfinkeaikbmpgaaGreatDoorKAm9
import Derived.Laws.MakeOwn
set_option linter.unusedSimpArgs false
set_option linter.unusedVariables false
set_option linter.unnecessarySimpa false
set_option linter.defProp false
/- THE ABSTRACT MACHINE, part 38: copies, clears, rows of noughts, room. -/
namespace Go.Am
open Go Go.RowKit
def EU:AV→Option (Lb×Nat×Nat×Nat)
 | .sl l sz i n=>some (l,sz,i,n)
 | .slk l sz i n _=>some (l,sz,i,n)
 |_=>none
def zK:AV→Option (Nat→Prop)
 | .slk _ _ _ _ c=>some fun m=>m=c
 | .sl _ _ _ n=>some fun m=>n≤m
 | .list xs=>some fun m=>xs.length≤m
 | .nil0=>some fun m=>m=0
 |_=>none
open Classical in
noncomputable def sW (sz:Nat) (d x:AV) (H:Hp):Option (AV×Hp):=
 (al_ sz x H).bind fun news=>(EU d).bind fun p=>if ¬(∀cs∈news.take (Nat.min news.length p.2.2.2),AV.oJ cs) then none else
  match H p.1 with
   | .live r=>if p.2.1=sz∧r.sz=sz∧p.2.2.1+p.2.2.2≤r.els.length then
    some (.int .i64 ((Nat.min news.length p.2.2.2:Nat):Int),bD H p.1 (.live ⟨sz,r.els.take p.2.2.1++news.take (Nat.min news.length p.2.2.2)++r.els.drop (p.2.2.1+(news.take (Nat.min news.length p.2.2.2)).length)⟩)) else none
   |_=>none
open Classical in
noncomputable def sX (sz:Nat) (z:List AV) (x:AV) (H:Hp):Option Hp:=
 if ¬AV.oJ z then none else(EU x).bind fun p=>match H p.1 with
  | .live r=>if p.2.1=sz∧r.sz=sz∧p.2.2.1+p.2.2.2≤r.els.length then
   some (bD H p.1 (.live ⟨sz,r.els.take p.2.2.1++List.replicate p.2.2.2 z++r.els.drop (p.2.2.1+(List.replicate p.2.2.2 z).length)⟩)) else none
  |_=>none
open Classical in
noncomputable def vg (sz bytes d:Nat) (z:List AV) (n c:AV) (H:Hp):Option (AV×Hp):=
 match n,c with
 | .int _ m,.int _ m'=>if m=m'∧0≤m∧m.toNat*bytes≤140737488355328∧H (.loc d)= .unused then some (.sl (.loc d) sz 0 m.toNat,bD H (.loc d) (.live ⟨sz,List.replicate m.toNat z⟩)) else none
 |_,_=>none
open Classical in
noncomputable def ud (sz bytes d:Nat) (z:List AV) (s n:AV) (H:Hp):Option (AV×Hp):=
 match s,n with
 | .slk l s' i n c,.int _ m=>match H l with
  | .live r=>if s'=sz∧r.sz=sz∧i=0∧n≤r.els.length∧0≤m∧c<n+m.toNat∧(n+m.toNat)*bytes≤140737488355328∧H (.loc d)= .unused then
   some (.sl (.loc d) sz 0 (n+m.toNat),bD H (.loc d) (.live ⟨sz,r.els.take n++List.replicate m.toNat z⟩)) else none
  |_=>none
 |_,_=>none
noncomputable def sY (sz d:Nat) (z:List AV) (ps:List (Nat×AV)) (H:Hp):Option (AV×Hp):=
 (fg z (ps.map fun p=>(p.1*sz,sz,p.2))).bind fun cs=>open Classical in if H (.loc d)= .unused∧cs.length=sz∧0<sz then some (.sl (.loc d) sz 0 1,bD H (.loc d) (.live ⟨sz,[cs]⟩)) else none
section
variable {K:Kx} {β:Lb→Option Nat} {env:Env} {H:Hp} {a:Act} {w:World}
def wS {x:AV} {l:Lb} {sz i n:Nat} (h:EU x=some (l,sz,i,n)) {v:Value} (hv:RV w β H (Im K β H) x v) :
  l∈x.an∧∃ad c,v= .slice ad n c∧n≤c∧c≤maxLen∧(live H l→zq w β l sz i c ad):=by
 cases x<;>simp[EU] at h
 case sl=>
  obtain⟨rfl,rfl,rfl,rfl⟩:=h;simp only[RV] at hv;obtain⟨ad,c,h1,h2,h3,_,h5⟩:=hv;exact⟨Pv,ad,c,h1,h2,h3,h5⟩
 case slk=>
  obtain⟨rfl,rfl,rfl,rfl⟩:=h;simp only[RV] at hv;obtain⟨ad,h1,h2,h3,_,h5⟩:=hv;exact⟨Pv,ad,_,h1,h2,h3,h5⟩
def qX (hr:aH K β env H a w) {l:Lb} {r:Row} (hl:H l= .live r) {sz i n c:Nat} {ad:Option Addr} (gm:r.sz=sz) (hc:n≤c) (BY:zq w β l sz i c ad) {news:List (List AV)} {vals:List Value}
  (hn:news.length≤n) (qB:i+news.length≤r.els.length)
  (CS:∀cs∈news,cs.length=r.sz) (FF:∀cs∈news,∀q∈ah cs,H q≠ .unused) (hv:vals.length=news.length*r.sz)
  (h2:∀i j cs x,news[i]?=some cs→cs[j]?=some x→∃v,vals[i*r.sz+j]?=some v∧RV w β H (Im K β H) x v) (fw:∀v∈vals,v.oneCell'=true) :
  ∃w',(match ad with|some q=>storeCells q vals|none=>pure ()).run K.P w= .ok () w' ∧
   aH K β env (bD H l (.live ⟨sz,r.els.take i++news++r.els.drop (i+news.length)⟩)) a w':=by
 subst gm;rcases BY with rfl|⟨g,S,g1,rfl,g3,g4⟩
 ·have Vi:news=[]:=wc tM;subst Vi;have zI:vals=[]:=wc (by simpa using hv);subst zI;have hH:bD H l (.live ⟨r.sz,r.els.take i++[]++r.els.drop (i+([]:List (List AV)).length)⟩)=H:=by
   funext q;by_cases e:q=l
   ·subst e;simp[hl]
   rw[aq _ _ e]
  rw[hH];refine⟨w,?_,hr⟩;cases ad<;>simp[storeCells]
 obtain⟨cur',w1,w2,_⟩:=oY hr hl g1 (i:=i) (news:=news) (vals:=vals) qB CS FF hv h2 fw;exact⟨_,w1,w2⟩
def vh {sz:Nat} {xv:Value} {news:List (List AV)} {vals:List Value} (h0:0<sz) (S:Src K β H w sz xv news vals) (k:Nat) (fw:∀cs∈news.take k,AV.oJ cs):∀v∈vals.take (k*sz),v.oneCell'=true:=by
 intro v hv;obtain⟨q,hq⟩:=yl hv;rw[oe] at hq;split at hq
 case isFalse=>simp at hq
 rename_i KS;have EO:q<news.length*sz:=by rw[←S.len];exact(bd.1 hq).1
 have ER:q/sz<news.length:=NP (by rw[kr];exact EO);have Ii:q/sz<k:=NP (by rw[kr];exact KS);have KR:q%sz<sz:=vL _ h0;have BZ:news[q/sz]?=some news[q/sz]:=bS ER;have qT:=S.vd _ (vI ER);have EP:(news[q/sz])[q%sz]?=some ((news[q/sz])[q%sz]' tM):=bS tM
 obtain⟨v',e1,e2⟩:=S.rv _ _ _ _ BZ EP;have:q/sz*sz+q%sz=q:=by rw[kr];exact O_ q sz
 rw[this,hq] at e1;cases e1;refine RV.lv e2 (fw _ ?_ _ (vI _));refine dc (i:=q/sz) ?_;rw[oe,eE Ii];exact BZ
def FK (hr:aH K β env H a w) {o:Oper} {c:Call} {d x:Operand} {d' x':O} {dt xt e:TypeId} {sz:Nat} {dd:Option Nat} (hd:∀n,dd=some n→n<K.N) (ho:o.op= .call c) (hc:c.callee= .builtin .copy)
   (ha:c.args.toList=[d,x]) (BY:c.argTypes.toList=[dt,xt]) (Hq:K.P.underlying dt=some (.slice e)) (hs:ZM K.P e=some sz) (h0:sz≠0) (hdx:co K.G d=some d') (hx:co K.G x=some x') {y:AV} {H':Hp}
   (hy:sW sz (ev env d') (ev env x') H=some (y,H')):iq K env a w o dd y H':=by
 have pQ:c.args=#[d,x]:=by cases hh:c.args;simp_all
 have sU:c.argTypes=#[dt,xt]:=by cases hh:c.argTypes;simp_all
 have fQ:(execOp a.eval o).run K.P w=((Builtin.copy_ #[dt,xt] o.type #[a.eval d,a.eval x]).run K.P w).andThen fun v w'=> .ok (.value v) w':=by
   simp[execOp,ho,resolve,hc,pQ,sU,invoke,builtin]
 unfold sW at hy
 obtain⟨news,hn,hy⟩:=dJ.1 hy
 obtain⟨vals,S⟩:=arX hr hx tM hn
 have KT:=hr.ev hdx
 obtain⟨⟨l,s0,i,n⟩,hp,hy⟩:=dJ.1 hy
 simp only at hy
 split at hy
 · simp at hy
 rename_i fw
 have fw:∀cs∈news.take (Nat.min news.length n),AV.oJ cs:=Bf fw
 have uc:=vh tM S (Nat.min news.length n) fw
 obtain⟨Ij,ad,c0,h1,h2,h3,h5⟩:=wS hp KT
 split at hy
 · rename_i r hl
   split at hy
   · rename_i cP
     obtain⟨rfl,kV,qB⟩:=cP
     simp only[di,eS] at hy
     obtain⟨rfl,rfl⟩:=hy
     have hk:Nat.min news.length n≤news.length:=Pb _ _
     have JV:Nat.min news.length n≤n:=Nat.min_le_right _ _
     have CM:(news.take (Nat.min news.length n)).length=Nat.min news.length n:=by rw[tp];omega
     obtain⟨w',q1,q2⟩:=qX hr hl (sz:=s0) (i:=i) (n:=n) (news:=news.take (Nat.min news.length n)) (vals:=vals.take (Nat.min news.length n*s0)) kV h2 (h5 ⟨r,hl⟩) tM tM
       (fun cs bV=>by rw[kV];exact S.vd cs (ec bV)) (fun cs bV=>S.eI cs (ec bV))
       (by rw[tp,S.len,CM,kV,ov (py _ hk)])
       (fun i' j cs x0 ed iX => by
         rw[oe] at ed
         split at ed
         · rename_i bI
           obtain⟨v,e1,e2⟩:=S.rv i' j cs x0 ed iX
           refine⟨v,?_,e2⟩
           rw[kV,oe,eE]
           · exact e1
           have CQ:j<s0:=by
             have:=S.vd cs (dc ed)
             have:=(bd.1 iX).1
             omega
           have:=py s0 (show i'+1≤Nat.min news.length n by omega)
           rw[uQ] at this
           omega
         simp at ed)
       (fun v hv=>uc v hv)
     have h4:=q2.step (Below.refl _ _) (d:=dd) (x:= .int .i64 ((Nat.min news.length n:Nat):Int)) (v:= .int .i64 ((Nat.min news.length n:Nat):Int)) hd (fun _=>by simp[RV]) (fun _=>by simp[AV.an])
     refine⟨_,_,_,_,?_,.inl rfl,h4⟩
     rw[fQ,h1]
     have kS:=S.wN _ hk w (.inl rfl)
     have wv:(Builtin.copy_ #[dt,xt] o.type #[.slice ad n c0,a.eval x]).run K.P w= .ok (.int .i64 ((Nat.min news.length n:Nat):Int)) w':=by
       cases ad with
       |none=>
         simp only[Sem.run_pure,Result.ok.injEq,tk] at q1
         subst q1
         simp[Builtin.copy_,run_underlying Hq,S.lenOf,cp hs,kS,goInt]
       |some q=>
       simp only at q1
       simp[Builtin.copy_,run_underlying Hq,S.lenOf,cp hs,kS,goInt,q1]
     rw[wv];rfl
   simp at hy
 simp at hy
def mi (z:Array Value) (zs:List AV) (n:Nat) (h:br w β H (Im K β H) zs z.toList) (hz:0<z.size):∀i j cs x,(List.replicate n zs)[i]?=some cs→cs[j]?=some x →
  ∃v,(Builtin.zeroCells z n).toList[i*z.size+j]?=some v∧RV w β H (Im K β H) x v:=by
 intro i j cs x hi hj;rw[JE] at hi;split at hi
 ·rename_i bI;simp only[di] at hi;subst hi;obtain⟨v,e1,e2⟩:=br.get _ _ j x h hj;refine⟨v,?_,e2⟩;have zk:j<z.size:=by
   have:=(bd.1 e1).1;simpa using this
  have hb:i*z.size+j<n*z.size:=by
   have:=py z.size (show i+1≤n by omega);rw[uQ] at this;omega
  have hm:(i*z.size+j)%z.size=j:=by rw[Oa,Nat.add_mul_mod_self_right,O7 zk]
  have JY:z[j]?=some v:=by simpa using e1
  have hg:=vN.1 JY;simp[Builtin.zeroCells,hb,hm,getElem!_def,JY]
 simp at hi
def vi (z:Array Value) (n:Nat) (hz:0<z.size) (h:∀v∈z.toList,v.oneCell'=true):∀v∈(Builtin.zeroCells z n).toList,v.oneCell'=true:=by
 intro v hv;simp only[Builtin.zeroCells,Nz,tH,pb,JG] at hv;obtain⟨i,hi,rfl⟩:=hv;have bI:i%z.size<z.size:=vL _ hz;refine h _ ?_;rw[show z[i%z.size]! =z[i%z.size] by simp[bI]];simp
theorem ue:∀(zs:List AV) (vs:List Value),AV.oJ zs→br w β H (Im K β H) zs vs→∀v∈vs,v.oneCell'=true
 |[],vs,_,h,v,hv=>by simp[br] at h;subst h;simp at hv
 |x::r,vs,h1,h,v,hv=>by
  simp only[br] at h;obtain⟨u,us,rfl,h2,h3⟩:=h;rcases dU.1 hv with rfl|hv
  ·exact RV.lv h2 (h1 x N7)
  exact ue r us (fun y hy=>h1 y (by simp[hy])) h3 v hv
def FL (hr:aH K β env H a w) {o:Oper} {c:Call} {x:Operand} {x':O} {e:TypeId} {i:TypeInfo} {z:Value} {zs:List AV} {dd:Option Nat} (hd:∀n,dd=some n→n<K.N) (ho:o.op= .call c) (hc:c.callee= .builtin .clear)
  (ha:c.args.toList=[x]) (ht:c.argTypes[0]?.bind K.P.underlying=some (.slice e)) (hi:K.P.info? e=some i) (hz:i.zero=some z) (mN:z.cells.size=i.size) (h0:0<i.size)
  (nF:YJ z.cells.toList=some zs) (hx:co K.G x=some x') {H':Hp} (hy:sX i.size zs (ev env x') H=some H'):iq K env a w o dd (.gf []) H':=by
 have pQ:c.args=#[x]:=by cases hh:c.args;simp_all
 obtain⟨t,sk,u6⟩:=dJ.1 ht;have fQ:(execOp a.eval o).run K.P w=((Builtin.clear_ c.argTypes o.type #[a.eval x]).run K.P w).andThen fun v w'=> .ok (.value v) w':=by
  simp[execOp,ho,resolve,hc,pQ,invoke,builtin]
 have wT:=hr.ev hx;unfold sX at hy;split at hy
 ·simp at hy
 rename_i fw;have fw:AV.oJ zs:=Bf fw;obtain⟨⟨l,s0,j,n⟩,hp,hy⟩:=dJ.1 hy;obtain⟨Ij,ad,c0,h1,h2,h3,h5⟩:=wS hp wT;simp only at hy;split at hy
 ·rename_i r hl;split at hy
  ·rename_i cP;obtain⟨rfl,kV,qB⟩:=cP;simp only[di] at hy;subst hy;have zL:zs.length=i.size:=(by have:=br.len _ _ (gX _ _ nF w β H (Im K β H));simp at this;omega);have BO:=gX _ _ nF w β H (Im K β H);obtain⟨w',q1,q2⟩:=qX hr hl (sz:=i.size) (i:=j) (n:=n) (news:=List.replicate n zs) (vals:=(Builtin.zeroCells z.cells n).toList) kV h2 (h5 ⟨r,hl⟩) N7 (by simpa using qB)
    (fun cs bV=>by rw[BI bV,kV,zL]) (fun cs bV q hq=>by rw[BI bV,XC _ _ nF] at hq;simp at hq)
    (by rw[dG,mN,kV];simp) (by rw[kV,←mN];exact mi z.cells zs n BO tM)
    (vi z.cells n tM (ue _ _ fw BO))
   have h4:=q2.step (Below.refl _ _) (d:=dd) (x:= .gf []) (v:= .tuple #[]) hd (fun _=>by simp[RV,br]) (fun _=>by simp[AV.an,ah])
   refine⟨_,_,_,_,?_,.inl rfl,h4⟩;rw[fQ,h1];have wv:(Builtin.clear_ c.argTypes o.type #[.slice ad n c0]).run K.P w= .ok (.tuple #[]) w':=by
    cases ad with
    |none=>
     simp only[Sem.run_pure,Result.ok.injEq,tk] at q1;subst q1;simp[Builtin.clear_,sk,run_underlying u6]
    |some q=>
    simp only at q1;cases n with
    |zero=>
     have hw:w'=w:=by
      have u7:(Builtin.zeroCells z.cells 0).toList=[]:=(by simp[Builtin.zeroCells]);rw[u7] at q1;simp[storeCells] at q1;exact q1.symm
     rw[hw];simp[Builtin.clear_,sk,run_underlying u6]
    |succ n=>
    simp[Builtin.clear_,sk,run_underlying u6,zeroValue,typeInfo,hi,hz,q1]
   rw[wv];rfl
  simp at hy
 simp at hy
def FM (hr:aH K β env H a w) {o:Oper} {t e:TypeId} {n c:Operand} {n' c':O} {i:TypeInfo} {z:Value} {zs:List AV} {d:Nat} (hd:d<K.N) (ho:o.op= .makeSlice t n c) (ht:K.P.underlying t=some (.slice e))
  (hi:K.P.info? e=some i) (hz:i.zero=some z) (mN:z.cells.size=i.size) (h0:0<i.size) (hb:0<i.bytes) (nF:YJ z.cells.toList=some zs) (hn:co K.G n=some n') (hc:co K.G c=some c') {y:AV} {H':Hp}
  (hy:vg i.size i.bytes d zs (ev env n') (ev env c') H=some (y,H')):iq K env a w o (some d) y H':=by
 have Ik:=hr.ev hn;have CV:=hr.ev hc;unfold vg at hy;split at hy
 ·rename_i k m k' m' e1 e2;rw[e1] at Ik;rw[e2] at CV;simp only[RV] at Ik CV;split at hy
  ·rename_i cP;obtain⟨rfl,tY,JZ,hu⟩:=cP;simp only[di,eS] at hy;obtain⟨rfl,rfl⟩:=hy;obtain⟨q,rfl⟩:=M1 tY;simp only[bX] at JZ ⊢;have Mb:q≤q*i.bytes:=fJ _ hb;have gY:=run_make (P:=K.P) w t e i z ht hi hz k k' (q:Int) (q:Int) tY (O2 _) (by
    have:((q*i.bytes:Nat):Int)≤140737488355328:=tM;rw[Pc,Int.mul_comm] at this;omega) tM
   simp only[bX] at gY;have zL:zs.length=i.size:=(by have:=br.len _ _ (gX _ _ nF w β H (Im K β H));simp at this;omega);have KU:madeCells z.cells (q*i.size)=Builtin.zeroCells z.cells q:=(by rw[←mN];rfl);have hex:(execOp a.eval o).run K.P w= .ok (.value (.slice (some ⟨w.heap.size,0,none⟩) q q)) (w.alloc (.cells (Builtin.zeroCells z.cells q) e)):=by
    rw[←KU];simp[execOp,ho,Ik,CV,gY,Result.andThen]
   have gw:=dZ w (.cells (Builtin.zeroCells z.cells q) e);have cX:=pV hr (H':=bD H (.loc d) (.live ⟨i.size,List.replicate q zs⟩)) (lb:= .loc d) (b:=some w.heap.size) gw hu N7 (fun p hp ⟨r,h⟩=>by rw[aq _ _ hp] at h;exact⟨r,h⟩);have pT:ZE (w.alloc (.cells (Builtin.zeroCells z.cells q) e)) (bD β (.loc d) (some w.heap.size)) (bD H (.loc d) (.live ⟨i.size,List.replicate q zs⟩))
     (Im K (bD β (.loc d) (some w.heap.size)) (bD H (.loc d) (.live ⟨i.size,List.replicate q zs⟩))) (.loc d) ⟨i.size,List.replicate q zs⟩:=by
    refine⟨h0,fun cs bV=>by rw[BI bV,zL],?_⟩;simp only[gn];refine⟨Builtin.zeroCells z.cells q,e,q,heap_alloc_new w _,by rw[size_zeroCells,mN],by simp only[maxLen];omega,N7,fun i' j cs x ed iX=> ?_⟩;obtain⟨v,q1,q2⟩:=mi (H:=H) z.cells zs q (gX _ _ nF w β H (Im K β H)) tM i' j cs x ed iX;rw[mN] at q1;refine⟨v,by simpa using q1,RV.mono _ _ (cX _ (fun p hp=> ?_)) q2⟩;rw[JE] at ed;split at ed
    ·simp only[di] at ed;subst ed;have:=cW _ _ _ iX p hp;rw[XC _ _ nF] at this;simp at this
    simp at ed
   have h3:=hr.OI (.loc d) hu gw (some w.heap.size) N7 (fun cs bV p hp=>by rw[BI bV,XC _ _ nF] at hp;simp at hp) pT;have h4:=h3.step (Below.refl _ _) (d:=some d) (x:= .sl (.loc d) i.size 0 q) (v:= .slice (some ⟨w.heap.size,0,none⟩) q q) (by simpa using hd)
    (fun _=>by
     simp only[RV];refine⟨_,_,rfl,eM _,by simp only[maxLen];omega,N7,fun _=> .inr ⟨w.heap.size,q*i.size,N7,N7,?_,N7⟩⟩;have hh:(w.alloc (.cells (Builtin.zeroCells z.cells q) e)).heap[w.heap.size]?=some (.cells (Builtin.zeroCells z.cells q) e):=heap_alloc_new w _;unfold jl;rw[hh];simp only[size_zeroCells,mN]) Pv
   exact⟨_,_,_,_,hex,.inl rfl,h4⟩
  simp at hy
 simp at hy
def FN (hr:aH K β env H a w) {o:Oper} {c:Call} {x:Operand} {x':O} {e:TypeId} (ho:o.op= .call c) (hc:c.callee= .builtin .cap) (ha:c.args.toList=[x])
  (ht:c.argTypes[0]?.bind K.P.underlying=some (.slice e)) (hx:co K.G x=some x') {R:Nat→Prop} (hy:zK (ev env x')=some R):∃m,R m∧m≤maxLen∧aJ K β H a w o (.int .i64 (m:Int)):=by
 have h:=hr.ev hx;obtain⟨t,sk,u6⟩:=dJ.1 ht;have pQ:c.args=#[x]:=by cases hh:c.args;simp_all
 have sl:∀(ad:Option Addr) (n c':Nat),a.eval x= .slice ad n c'→(execOp a.eval o).run K.P w= .ok (.value (.int .i64 c')) w:=by
  intro ad n c' hv;simp[execOp,ho,resolve,hc,pQ,hv,invoke,builtin,Builtin.cap_,sk,run_underlying u6,goInt]
 have fin:∀(ad:Option Addr) (n c':Nat),a.eval x= .slice ad n c'→aJ K β H a w o (.int .i64 (c':Int)):=fun ad n c' hv=>aJ.same (sl ad n c' hv) PT Pv;unfold zK at hy;split at hy<;>simp only[di,reduceCtorEq] at hy
 ·rename_i l sz i n m hs;rw[hs] at h;simp only[RV] at h;obtain⟨ad,h1,h2,h3,_⟩:=h;subst hy;exact⟨m,rfl,h3,fin _ _ _ h1⟩
 ·rename_i l sz i n hs;rw[hs] at h;simp only[RV] at h;obtain⟨ad,m,h1,h2,h3,_⟩:=h;subst hy;exact⟨m,h2,h3,fin _ _ _ h1⟩
 ·rename_i xs hs;rw[hs] at h;simp only[RV,NN] at h;obtain⟨ad,m,h1,h2,h3,_⟩:=h;subst hy;exact⟨m,h2,h3,fin _ _ _ h1⟩
 rename_i hs;rw[hs] at h;simp only[RV] at h;obtain⟨ad,h1⟩:=h;subst hy;exact⟨0,rfl,by simp[maxLen],fin _ _ _ h1⟩
def CW (hr:aH K β env H a w) {o:Oper} {t e:TypeId} {x:Operand} {n s:Nat} {x':O} (ho:o.op= .slice t x none none none) (ht:K.P.underlying t=some (.array n e))
  (hs:ZM K.P e=some s) (wo:s≠0) (hx:co K.G x=some x') {y:AV} (hy:af (.oD x' n s) env=some y):aJ K β H a w o y:=by
 have h:=hr.ev hx;simp only[af] at hy;split at hy
 ·rename_i cs e1;rw[e1] at h;split at hy
  ·rename_i cP;obtain⟨hl,sK,fw⟩:=cP;simp only[di] at hy;subst hy;simp only[RV] at h;obtain⟨b,o',h1,h2,h3,h4⟩:=h;have CD:=jr (sz:=s) tM n cs b o' hl fw h4;refine aJ.same (v:= .slice (some ⟨b,o',none⟩) n n) ?_ ?_ Pv
   ·simp[execOp,ho,h1,Instr.sliceAt,run_underlying ht,Instr.sliceBounds,Instr.sureAddr,cp hs,Result.andThen,addr_add]
   simp only[RV,NN];refine⟨some ⟨b,o',none⟩,n,by rw[CD.2],by rw[CD.2];exact eM _,sK,.inr ⟨b,o',s,rfl,h2,h3,tM,CD.1⟩⟩
  simp at hy
 simp at hy
def pX {w:World} {β:Lb→Option Nat} {H:Hp} {I I':Nat→Prop} (hk:W4 w w I I'):∀{y:IV} {v:Value},(∀cs,y≠ .agg cs)→RV w β H I y.dQ v→NN w I' y v:=by
 intro y v hy h;cases y with
 |agg cs=>exact absurd rfl (hy cs)
 |list xs=>simp only[IV.dQ,RV] at h;exact NN.mono hk _ _ h
 |bool b=>simpa[IV.dQ,RV,NN] using h
 |int k n=>simpa[IV.dQ,RV,NN] using h
 |str s=>simpa[IV.dQ,RV,NN] using h
 |ifc t=>simp only[IV.dQ,RV] at h;obtain⟨u,rfl,_⟩:=h;exact⟨u,rfl⟩
theorem Xz {w:World} {I:Nat→Prop}:∀(cs:List IV) (b o:Nat),(∀j z,cs[j]?=some z→∃v,w.cell? ⟨b,o+j,none⟩=some v∧NN w I z v)→bK w I cs b o
 |[],b,o,_=>by simp[bK]
 |z::r,b,o,h=>by
  simp only[bK];refine⟨by simpa using h 0 z N7,Xz r b (o+1) (fun j y hj=> ?_)⟩;have:=h (j+1) y (by simpa using hj)
  rwa[show o+(j+1)=o+1+j by omega] at this
theorem ajy {w:World} {I:Nat→Prop} {sz:Nat}:∀(xs:List IV) (b o:Nat),(∀k y,xs[k]?=some y→fL w I y b (o+k*sz) sz)→bH w I xs b o sz
 |[],b,o,_=>by simp[bH]
 |y::r,b,o,h=>by
  simp only[bH];refine⟨by simpa using h 0 y N7,ajy r b (o+sz) (fun k z hk=> ?_)⟩;have:=h (k+1) z (by simpa using hk)
  rwa[uQ,M8,show o+(k*sz+sz)=o+sz+k*sz by omega] at this
def CX (hr:aH K β env H a w) {o:Oper} {c:Call} {s x:Operand} {s' x':O} {st xt e:TypeId} {i:TypeInfo} {z:Value} {dx:TypeDesc} (ho:o.op= .call c) (hc:c.callee= .builtin .append)
  (ha:c.args.toList=[s,x]) (BY:c.argTypes.toList=[st,xt]) (g_:K.P.underlying st=some (.slice e)) (hi:K.P.info? e=some i) (hz:i.zero=some z) (mN:z.cells.size=i.size) (h0:0<i.size)
  (qD:K.P.underlying xt=some dx) (hdx:dx= .string∨∃e2,dx= .slice e2) (hs:co K.G s=some s') (hx:co K.G x=some x') {y:AV}
  (hy:af (.oE s' x' i.size i.bytes) env=some y):aJ K β H a w o y:=by
 have pQ:c.args=#[s,x]:=by cases hh:c.args;simp_all
 have sU:c.argTypes=#[st,xt]:=by cases hh:c.argTypes;simp_all
 have fQ:(execOp a.eval o).run K.P w=((Builtin.append_ #[st,xt] o.type #[a.eval s,a.eval x]).run K.P w).andThen fun v w'=> .ok (.value v) w':=by
  simp[execOp,ho,resolve,hc,pQ,sU,invoke,builtin]
 have mh:=hr.ev hs;have B0:∀(news:List (List AV)) (vals:List Value),news.length=0→Src K β H w i.size (a.eval x) news vals→ev env s'= .nil0→aJ K β H a w o (.list []):=by
  intro news vals tY S e1;rw[e1] at mh;simp only[RV] at mh;obtain⟨ad,mh⟩:=mh;have Vi:news=[]:=wc tY;subst Vi;have zI:vals=[]:=wc (by simpa using S.len);subst zI;have iS:=eX (ty:=o.type) g_ hi qD hdx ad 0 0 0 (a.eval x) #[] S.lenOf (S.cells w (.inl rfl)) tM
  refine aJ.same (v:= .slice ad 0 0) ?_ ?_ Pv
  ·rw[fQ,mh,iS];cases ad<;>simp[storeCells]
  simp only[RV,NN];exact⟨ad,0,rfl,eM _,by simp[maxLen],.inl rfl⟩
 simp only[af] at hy;split at hy
 ·rename_i xs e1 e2;split at hy
  ·rename_i cP;obtain⟨ll,FO,hb,oK,_⟩:=cP;simp only[di] at hy;subst hy;have hn:al_ i.size (ev env x') H=some (xs.map fun y=>y.cells.map IV.dQ):=(by rw[e2];simp[al_,ll]);obtain⟨vals,S⟩:=arX hr hx h0 hn;by_cases tY:xs.length=0
   ·have:xs=[]:=wc tY;subst this;exact B0 _ _ N7 S e1
   rw[e1] at mh;simp only[RV] at mh;obtain⟨ad,mh⟩:=mh;have ve:(xs.map fun y=>y.cells.map IV.dQ).length=xs.length:=bA _;have qW:(Builtin.firstCells i.size 0 (.slice ad 0 0)).run K.P w.drew= .ok #[] w.drew:=by
    cases ad with
    |none=>simp[Builtin.firstCells]
    |some q=>simp[Builtin.firstCells,loadCells,loadCellsFrom]
   have hlen:=S.lenOf;have kS:=S.cells w.drew (.inr rfl);rw[ve] at hlen kS;have iS:=ew (ty:=o.type) g_ hi hz qD hdx ad 0 0 xs.length (a.eval x) vals.toArray #[] hlen kS qW tM (by simpa using hb) oK
   have qS:=grownCap_ge w (0+xs.length) 0 e;have qC:=grownCap_le_maxLen w (0+xs.length) 0 e (by
    have:=fJ xs.length oK;simp only[maxLen];omega)
   have gw:=(mf w).trans (dZ w.drew (.cells (#[]++vals.toArray++Builtin.zeroCells z.cells (grownCap w (0+xs.length) 0 e - (0+xs.length))) e))
   refine⟨.slice (some ⟨w.heap.size,0,none⟩) (0+xs.length) (grownCap w (0+xs.length) 0 e),_,by rw[fQ,mh,iS];rfl,gw,?_,Pv⟩;simp only[RV,NN];refine⟨_,_,by rw[bM],tM,qC,.inr ⟨w.heap.size,0,i.size,rfl,hr.fresh,?_,h0,?_⟩⟩
   ·have hh:=heap_alloc_new w.drew (.cells (#[]++vals.toArray++Builtin.zeroCells z.cells (grownCap w (0+xs.length) 0 e - (0+xs.length))) e)
    exact(vN.1 hh).1
   refine ajy _ _ _ (fun k y FP=> ?_);rw[eH];have qT:y.cells.length=i.size:=ll y (dc FP);refine⟨qT.symm,Xz _ _ _ (fun j q hq=> ?_)⟩;obtain⟨v,q1,q2⟩:=S.rv k j (y.cells.map IV.dQ) q.dQ (by simp[FP]) (by simp[hq]);refine⟨v,?_,NN.mono (iU.nz gw β H (Im K β H) []).toW4 _ _ (pX (I:=Im K β H) (w:=w) ⟨fun k hk hs=>⟨hk,hs,rfl⟩⟩ (FO y (dc FP) q (dc hq)) q2)⟩;have hh:(w.drew.alloc (.cells (#[]++vals.toArray++Builtin.zeroCells z.cells (grownCap w (0+xs.length) 0 e - (0+xs.length))) e)).heap[w.heap.size]?=some (.cells (#[]++vals.toArray++Builtin.zeroCells z.cells (grownCap w (0+xs.length) 0 e - (0+xs.length))) e):=heap_alloc_new w.drew _
   rw[cell_of_row _ _ _ _ _ _ hh];have bI:k*i.size+j<vals.length:=(bd.1 q1).1;simp only[bM];rw[MT (by simpa using bI)];simpa using q1
  simp at hy
 ·rename_i e1 e2;split at hy
  ·simp only[di] at hy;subst hy;have hn:al_ i.size (ev env x') H=some []:=(by rw[e2];simp[al_]);obtain⟨vals,S⟩:=arX hr hx h0 hn;exact B0 _ _ rfl S e1
  exact absurd h0 ‹_›
 simp at hy
def mj {P:Program} {w:World} {st xt ty e:TypeId} {i:TypeInfo} {z:Value} {k0:IntKind} (hu:P.underlying st=some (.slice e)) (hi:P.info? e=some i) (hz:i.zero=some z) (hx:P.underlying xt=some (.int k0))
  (ad:Option Addr) (n c m:Nat) (k:IntKind) (olds:Array Value) (h0:0<m*i.size)
  (ho:(Builtin.firstCells i.size n (.slice ad n c)).run P w.drew= .ok olds w.drew) (PS:c<n+m) (hb:(n+m)*i.bytes≤140737488355328) (oK:0<i.bytes) :
  (Builtin.append_ #[st,xt] ty #[.slice ad n c,.int k (m:Int)]).run P w= .ok (.slice (some ⟨w.heap.size,0,none⟩) (n+m) (grownCap w (n+m) c e))
   (w.drew.alloc (.cells (olds++Builtin.zeroCells z.cells m++Builtin.zeroCells z.cells (grownCap w (n+m) c e - (n+m))) e)):=by
 have hn:¬(n+m≤c):=tM
 have KQ:n+m≤(n+m)*i.bytes:=fJ _ oK;have CO:¬(9223372036854775807<((n:Int)+(m:Int))):=tM
 have CP:¬(281474976710656<Builtin.nextslicecap (n+m) c*i.bytes):=by have:=growslice_fits PS hb;omega
 have hw:IntKind.i64.wrap (m:Int)=m:=by rw[IntKind.wrap_i64];omega
 have Il:¬((m:Int)<0):=tM
 have Io:¬(281474976710656<(m:Int)*(i.bytes:Int)):=by
  rw[←Pc];have:m*i.bytes≤(n+m)*i.bytes:=py _ tM;omega
 have np:¬(m*i.size=0):=tM
 have Ip:m≠0:=fun h=>np (by simp[h]);have Iq:i.size≠0:=fun h=>np (by simp[h]);simp[Builtin.append_,run_underlying hu,run_underlying hx,sizeOf,typeInfo,zeroValue,hi,hz,asInt,asIntOf,hw,hn,Il,Ip,Iq,CO,CP,Io,Question.forced,ho,newRow,grownCap];intro h;exact absurd h np
def CY (hr:aH K β env H a w) {o:Oper} {c:Call} {s x:Operand} {s' x':O} {st xt e:TypeId} {i:TypeInfo} {z:Value} {zs:List AV} {k0:IntKind} {d:Nat} (hd:d<K.N) (ho:o.op= .call c) (hc:c.callee= .builtin .append)
  (ha:c.args.toList=[s,x]) (BY:c.argTypes.toList=[st,xt]) (g_:K.P.underlying st=some (.slice e)) (hi:K.P.info? e=some i) (hz:i.zero=some z) (mN:z.cells.size=i.size) (h0:0<i.size) (oK:0<i.bytes)
  (qD:K.P.underlying xt=some (.int k0)) (nF:YJ z.cells.toList=some zs) (hs:co K.G s=some s') (hx:co K.G x=some x') {y:AV} {H':Hp}
  (hy:ud i.size i.bytes d zs (ev env s') (ev env x') H=some (y,H')):iq K env a w o (some d) y H':=by
 have pQ:c.args=#[s,x]:=by cases hh:c.args;simp_all
 have sU:c.argTypes=#[st,xt]:=by cases hh:c.argTypes;simp_all
 have fQ:(execOp a.eval o).run K.P w=((Builtin.append_ #[st,xt] o.type #[a.eval s,a.eval x]).run K.P w).andThen fun v w'=> .ok (.value v) w':=by
  simp[execOp,ho,resolve,hc,pQ,sU,invoke,builtin]
 have mh:=hr.ev hs;have wT:=hr.ev hx;unfold ud at hy;split at hy
 ·rename_i l s0 i0 n c0 k m e1 e2;rw[e1] at mh;rw[e2] at wT;simp only[RV] at mh wT;obtain⟨ad,h1,h2,h3,h4,h5⟩:=mh;split at hy
  ·rename_i r hl;split at hy
   ·rename_i cP;obtain⟨rfl,kV,rfl,ve,tY,PS,hb,hu⟩:=cP;obtain⟨q,rfl⟩:=M1 tY;simp only[bX] at PS hb hy;simp only[di,eS] at hy;obtain⟨rfl,rfl⟩:=hy;have ES:(r.els.take n).length=n:=PJ;have wO:∀cs∈r.els.take n,cs.length=i.size:=fun cs bV=>(by rw[←kV];exact(hr.rows l r hl).2.1 cs (ec bV));have BX:∀cs∈r.els.take n,∀q∈ah cs,H q≠ .unused:=fun cs bV=>hr.cH l r hl cs (ec bV);have zL:zs.length=i.size:=(by have:=br.len _ _ (gX _ _ nF w β H (Im K β H));simp at this;omega);have BO:=gX _ _ nF w β H (Im K β H);have qS:=grownCap_ge w (n+q) c0 e;have qC:=grownCap_le_maxLen w (n+q) c0 e (by
     have:=fJ (n+q) oK;simp only[maxLen];omega)
    have olds:∃olds:List Value,olds.length=n*i.size∧(∀i' j cs x0,(r.els.take n)[i']?=some cs→cs[j]?=some x0→∃v,olds[i'*i.size+j]?=some v∧RV w β H (Im K β H) x0 v) ∧
      (Builtin.firstCells i.size n (.slice ad n c0)).run K.P w.drew= .ok olds.toArray w.drew:=by
     by_cases zJ:c0=0
     ·have wq:n=0:=tM;subst wq;refine⟨[],N7,N7,?_⟩;cases ad with
      |none=>simp[Builtin.firstCells]
      |some q=>simp[Builtin.firstCells,loadCells,loadCellsFrom]
     rcases h5 ⟨r,hl⟩ with h6|⟨g,Sz,g1,rfl,g3,g4⟩
     ·exact absurd h6 zJ
     obtain⟨cur,e0,cap,k1,k2,k3,k4,k5⟩:=(hr.rows l r hl).block g1;rw[kV] at k2;have FH:n*i.size≤cur.size:=(by rw[k2];exact py _ tM);have kJ:(cur.toList.take (n*i.size)).length=n*i.size:=PJ;refine⟨cur.toList.take (n*i.size),kJ,?_,?_⟩
     ·intro i' j cs x0 ed iX;rw[oe] at ed;split at ed
      ·rename_i bI;obtain⟨v,q1,q2⟩:=k5 i' j cs x0 ed iX;rw[kV] at q1;refine⟨v,?_,q2⟩;have CQ:j<i.size:=by
        have:=(hr.rows l r hl).2.1 cs (dc ed);have:=(bd.1 iX).1;omega
       have iG:i'*i.size+j<n*i.size:=by
        have:=py i.size (show i'+1≤n by omega);rw[uQ] at this;omega
       rw[oe,eE iG];simpa using q1
      simp at ed
     exact run_firstCells_some (P:=K.P) w.drew i.size n ⟨g,0*i.size,none⟩ n c0 _ kJ (fun j v hj=>by
      rw[addr_add,I2,bM];have:w.cell? ⟨g,j,none⟩=some v:=by
       rw[cell_of_row w g _ cur e0 (0,0) k1];rw[oe] at hj;split at hj
       ·simpa using hj
       simp at hj
      simpa using this)
    obtain⟨olds,CU,ET,Ih⟩:=olds;have KV:0<q*i.size:=Nat.mul_pos tM h0;have iS:=mj (ty:=o.type) g_ hi hz qD ad n c0 q k olds.toArray KV Ih PS hb oK;have J0:(List.replicate q zs).length=q:=MS;have:=fR hr hr (fun _ h=>h) (fun _ h=>h) (o:=o) hd (e:=e) (n:=n) (m:=q) (A:=r.els.take n) (news:=List.replicate q zs) (olds:=olds) (vals:=(Builtin.zeroCells z.cells q).toList)
     (rest:=(Builtin.zeroCells z.cells (grownCap w (n+q) c0 e - (n+q))).toList) h0 hu hu ES J0 wO (fun cs bV=>by rw[BI bV,zL]) BX
     (fun cs bV p hp=>by rw[BI bV,XC _ _ nF] at hp;simp at hp) CU (by rw[dG,mN,J0]) ET (by rw[←mN];exact mi z.cells zs q BO tM)
     (cap:=grownCap w (n+q) c0 e) (by
      have h9:=ZN (sz:=i.size) qS;simp only[ko,CU,dG,mN];rw[←uQ];exact h9) qC qS (by
      rw[fQ,h1,wT,iS];exact nJ _ _ N7)
    exact this
   simp at hy
  simp at hy
 simp at hy
def vj {x:AV} (h:x.sI=true):∀l∈ah x.cells,l∈x.an:=by
 intro l hl;cases x<;>simp[AV.cells,ah] at hl<;>simp[AV.an] at hl ⊢<;>exact hl
def ir (l m:List AV):ah (l++m)=ah l++ah m:=by
 induction l with
 |nil=>rfl
 |cons x r ih=>simp[ah,ih]
theorem oZ:∀(qs:List (Nat×Nat×AV)) (c c':List AV),fg c qs=some c'→∀l∈ah c',l∈ah c∨∃q∈qs,l∈q.2.2.an
 |[],c,c',h,l,hl=>by simp[fg] at h;subst h;exact .inl hl
 |(off,sz,x)::qs,c,c',h,l,hl=>by
  simp only[fg] at h;split at h
  ·rename_i hc;rcases oZ qs _ _ h l hl with h1|⟨q,h1,h2⟩
   ·rw[ir,ir,eR,eR] at h1;rcases h1 with(h1|h1)|h1
    ·left;have:=ir (c.take off) (c.drop off);rw[tO] at this;rw[this,eR];exact .inl h1
    ·exact .inr ⟨(off,sz,x),N7,vj hc.1 l h1⟩
    left;have:=ir (c.take (off+sz)) (c.drop (off+sz));rw[tO] at this;rw[this,eR];exact .inr h1
   exact .inr ⟨q,by simp[h1],h2⟩
  simp at h
def zM (hr:aH K β env H a w) {o:Oper} {t e:TypeId} {ps:Array (Nat×Operand)} {i:TypeInfo} {z:Value} {zs:List AV} {xs:List O} {d:Nat} (hd:d<K.N) (ho:o.op= .buildSlice t 1 ps)
  (ht:K.P.underlying t=some (.slice e)) (hi:K.P.info? e=some i) (hz:i.zero=some z) (mN:z.cells.size=i.size) (h0:0<i.size) (hn:1*i.size≤2^24)
  (nF:YJ z.cells.toList=some zs) (sM:cos K.G (ps.toList.map (·.2))=some xs) {y:AV} {H':Hp}
  (hy:sY i.size d zs (((ps.toList.map (·.1)).zip xs).map fun p=>(p.1,ev env p.2)) H=some (y,H')):iq K env a w o (some d) y H':=by
 unfold sY at hy;obtain⟨cs,h1,hy⟩:=dJ.1 hy;split at hy
 ·rename_i cP;obtain⟨hu,hlen,_⟩:=cP;simp only[di,eS] at hy;obtain⟨rfl,rfl⟩:=hy;have u7:=gX _ _ nF w β H (Im K β H);have hzero:=nE z.cells zs w β H (Im K β H) u7 tM 1;have hm:∀l∈ah cs,H l≠ .unused:=by
   intro l hl;rcases oZ _ _ _ h1 l hl with h2|⟨q,h2,h3⟩
   ·rw[XC _ _ nF] at h2;simp at h2
   simp only[Nt,pb,Function.comp] at h2;obtain⟨p,hp,rfl⟩:=h2;simp only at h3;have B1:p.2∈xs:=(List.of_mem_zip (a:=p.1) (b:=p.2) hp).2;obtain⟨k,hk⟩:=yl B1;exact iV hr _ _ sM l (cW _ k _ (by rw[cn,hk];rfl) l h3)
  have BR:xs.length=ps.toList.length:=by
   have:=br.len _ _ (iE hr _ _ sM);simp at this;simpa using this.symm
  have dN:=kQ hr (fun j=>some (j*i.size,i.size)) ps.toList xs (((ps.toList.map (·.1)).zip xs).map fun p=>(p.1*i.size,i.size,p.2)) sM
   (by simp at BR;simp[BR])
   (by
    intro j p x q g1 g2 g3;simp only[cn,N',bR] at g3;obtain⟨⟨u,v⟩,⟨⟨p',e1,e2⟩,e3⟩,rfl⟩:=g3;simp only at e1 e2 e3;rw[g1] at e1;cases e1;rw[g2] at e3;cases e3;exact⟨rfl,by simp[e2]⟩)
  obtain⟨cur',f1,f2⟩:=ly (fun j=>some (j*i.size,i.size)) _ _ _ cs _ hzero (by simpa[Nt,O1] using h1) dN;have qQ:Instr.fill (fun j=>some (j*i.size,i.size)) ((Array.range (1*i.size)).map (z.cells[·%z.cells.size]!)) (ps.toList.map fun p=>(p.1,a.eval p.2))=some cur':=by
   rw[←mN];rw[←mN] at f1;exact f1
  have CF:¬1*i.size=0:=tM
  have Ft:=cp (P:=K.P) (t:=e) (s:=i.size) (by simp[ZM,hi]) w;have gY:(execOp a.eval o).run K.P w= .ok (.value (.slice (some ⟨w.heap.size,0,none⟩) 1 1)) (w.alloc (.cells cur' e)):=by
   simp only[execOp,ho,Instr.buildSlice,Sem.run_bind,run_underlying ht,Result.andThen_ok,Ft,Sem.run_ite,CF,nX,zeroValue,typeInfo,run_program,hi,hz,
    Nz,show ¬1*i.size>2^24 by omega,Sem.run_pure,Result.andThen,qQ]
   simp[newRow,qQ]
  have kH:cur'.size=i.size:=by have:=br.len _ _ f2;simp at this;omega
  have gw:=dZ w (.cells cur' e);have cX:=pV hr (H':=bD H (.loc d) (.live ⟨i.size,[cs]⟩)) (lb:= .loc d) (b:=some w.heap.size) gw hu N7 (fun p hp ⟨r,h⟩=>by rw[aq _ _ hp] at h;exact⟨r,h⟩);have pT:ZE (w.alloc (.cells cur' e)) (bD β (.loc d) (some w.heap.size)) (bD H (.loc d) (.live ⟨i.size,[cs]⟩))
    (Im K (bD β (.loc d) (some w.heap.size)) (bD H (.loc d) (.live ⟨i.size,[cs]⟩))) (.loc d) ⟨i.size,[cs]⟩:=by
   refine⟨h0,by simp[hlen],?_⟩;simp only[gn];refine⟨cur',e,1,heap_alloc_new w _,by simp[kH],by simp[maxLen],N7,fun i' j dF x ed iX=> ?_⟩;cases i' with
   |succ i'=>simp at ed
   |zero=>
   simp at ed;subst ed;obtain⟨v,k1,k2⟩:=br.get _ _ _ _ f2 iX;exact⟨v,by simpa using k1,RV.mono _ _ (cX _ (fun l hl=>hm l (cW _ _ _ iX l hl))) k2⟩
  have h3:=hr.OI (.loc d) hu gw (some w.heap.size) N7 (by simpa using hm) pT;have h4:=h3.step (Below.refl _ _) (d:=some d) (x:= .sl (.loc d) i.size 0 1) (v:= .slice (some ⟨w.heap.size,0,none⟩) 1 1) (by simpa using hd)
   (fun _=>by
    simp only[RV];refine⟨_,1,rfl,eM _,by simp[maxLen],N7,fun _=> .inr ⟨w.heap.size,i.size,N7,N7,?_,N7⟩⟩;have hh:(w.alloc (.cells cur' e)).heap[w.heap.size]?=some (.cells cur' e):=heap_alloc_new w _;unfold jl;rw[hh];simp only[kH]) Pv
  exact⟨_,_,_,_,gY,.inl rfl,h4⟩
 simp at hy
end
end Go.Am
