import Derived.Test.YtfeijflhfhkbnaaGreatDoorKAm7
import Derived.Laws.MakeOwn
set_option linter.all false
/- THE ABSTRACT MACHINE, part 38: copies, clears, rows of noughts, room. -/
namespace Go.Am
open Go Go.RowKit
def EU:AV->Option (Lb×Nat×Nat×Nat)
 | .sl l sz i n=>some (l,sz,i,n)
 | .slk l sz i n _=>some (l,sz,i,n)
 |_=>none
def zK:AV->Option (Nat->Prop)
 | .slk _ _ _ _ c=>some λm=>m=c
 | .sl _ _ _ n=>some λm=>n<=m
 | .list xs=>some λm=>xs.length<=m
 | .nil0=>some λm=>m=0
 |_=>none
open Classical in
noncomputable def sW (sz:Nat) (d x:AV) (H:Hp):Option (AV×Hp):=
 (al_ sz x H).bind fun news=>(EU d).bind fun p=>if ¬(∀cs∈news.take (Nat.min news.length p.2.2.2),AV.oJ cs) then none else
  match H p.1 with
   | .live r=>if p.2.1=sz∧r.sz=sz∧p.2.2.1+p.2.2.2≤r.els.length then
    some (.int .i64 ((Nat.min news.length p.2.2.2:Nat):Int),bD H p.1 (.live ⟨sz,r.els.take p.2.2.1++news.take (Nat.min news.length p.2.2.2)++r.els.drop (p.2.2.1+(news.take (Nat.min news.length p.2.2.2)).length)⟩)) else none
   |_=>none
open Classical in
noncomputable def sX (sz:Nat) (z:List AV) (x:AV) (H:Hp):Option Hp:=
 if ¬AV.oJ z then none else(EU x).bind fun p=>match H p.1 with
  | .live r=>if p.2.1=sz∧r.sz=sz∧p.2.2.1+p.2.2.2≤r.els.length then
   some (bD H p.1 (.live ⟨sz,r.els.take p.2.2.1++List.replicate p.2.2.2 z++r.els.drop (p.2.2.1+(List.replicate p.2.2.2 z).length)⟩)) else none
  |_=>none
open Classical in
noncomputable def vg (sz bytes d:Nat) (z:List AV) (n c:AV) (H:Hp):Option (AV×Hp):=
 match n,c with
 | .int _ m,.int _ m'=>if m=m'∧0≤m∧m.toNat*bytes≤140737488355328∧H (.loc d)= .unused then some (.sl (.loc d) sz 0 m.toNat,bD H (.loc d) (.live ⟨sz,List.replicate m.toNat z⟩)) else none
 |_,_=>none
open Classical in
noncomputable def ud (sz bytes d:Nat) (z:List AV) (s n:AV) (H:Hp):Option (AV×Hp):=
 match s,n with
 | .slk l s' i n c,.int _ m=>match H l with
  | .live r=>if s'=sz∧r.sz=sz∧i=0∧n≤r.els.length∧0≤m∧c<n+m.toNat∧(n+m.toNat)*bytes≤140737488355328∧H (.loc d)= .unused then
   some (.sl (.loc d) sz 0 (n+m.toNat),bD H (.loc d) (.live ⟨sz,r.els.take n++List.replicate m.toNat z⟩)) else none
  |_=>none
 |_,_=>none
noncomputable def sY (sz d:Nat) (z:List AV) (ps:List (Nat×AV)) (H:Hp):Option (AV×Hp):=
 (fg z (ps.map λp=>(p.1*sz,sz,p.2))).bind λcs=>open Classical in if H (.loc d)= .unused/\cs.length=sz/\0<sz then some (.sl (.loc d) sz 0 1,bD H (.loc d) (.live ⟨sz,[cs]⟩)) else none
section
variable {K:Kx} {β:Lb->Option Nat} {env:Env} {H:Hp} {a:Act} {w:World}
def wS {x:AV} {l:Lb} {sz i n:Nat} (h:EU x=some (l,sz,i,n)) {v:Value} (hv:RV w β H (Im K β H) x v) :
  l∈x.an/\∃ad c,v= .slice ad n c/\n<=c/\c<=maxLen/\(live H l->zq w β l sz i c ad):=by
 cases x<;>simp[EU] at h
 case sl=>
  obtain⟨rfl,rfl,rfl,rfl⟩:=h;simp only[RV] at hv;obtain⟨ad,c,h1,h2,h3,_,h5⟩:=hv;exact⟨aad,ad,c,h1,h2,h3,h5⟩
 case slk=>
  obtain⟨rfl,rfl,rfl,rfl⟩:=h;simp only[RV] at hv;obtain⟨ad,h1,h2,h3,_,h5⟩:=hv;exact⟨aad,ad,_,h1,h2,h3,h5⟩
def qX (hr:aH K β env H a w) {l:Lb} {r:Row} (hl:H l= .live r) {sz i n c:Nat} {ad:Option Addr} (gm:r.sz=sz) (hc:n<=c) (BY:zq w β l sz i c ad) {news:List (List AV)} {vals:List Value}
  (hn:news.length<=n) (qB:i+news.length<=r.els.length)
  (CS:∀cs∈news,cs.length=r.sz) (FF:∀cs∈news,∀q∈ah cs,H q≠ .unused) (hv:vals.length=news.length*r.sz)
  (h2:∀i j cs x,news[i]?=some cs->cs[j]?=some x->∃v,vals[i*r.sz+j]?=some v/\RV w β H (Im K β H) x v) (fw:∀v∈vals,v.oneCell'=true) :
  ∃w',(match ad with|some q=>storeCells q vals|none=>pure ()).run K.P w= .ok () w' /\
   aH K β env (bD H l (.live ⟨sz,r.els.take i++news++r.els.drop (i+news.length)⟩)) a w':=by
 subst gm;rcases BY with rfl|⟨g,S,g1,rfl,g3,g4⟩
 ·have Vi:news=[]:=wc sf;subst Vi;have zI:vals=[]:=wc (by simpa using hv);subst zI;have hH:bD H l (.live ⟨r.sz,r.els.take i++[]++r.els.drop (i+([]:List (List AV)).length)⟩)=H:=by
   funext q;by_cases e:q=l
   ·subst e;simp[hl]
   rw[aq _ _ e]
  rw[hH];refine⟨w,?_,hr⟩;cases ad<;>simp[storeCells]
 obtain⟨cur',w1,w2,_⟩:=oY hr hl g1 (i:=i) (news:=news) (vals:=vals) qB CS FF hv h2 fw;exact⟨_,w1,w2⟩
def vh {sz:Nat} {xv:Value} {news:List (List AV)} {vals:List Value} (h0:0<sz) (S:Src K β H w sz xv news vals) (k:Nat) (fw:∀cs∈news.take k,AV.oJ cs):∀v∈vals.take (k*sz),v.oneCell'=true:=by
 intro v hv;obtain⟨q,hq⟩:=Sw hv;rw[Rd] at hq;split at hq
 case isFalse=>simp at hq
 rename_i KS;have EO:q<news.length*sz:=by rw[<-S.len];exact(yY.1 hq).1
 have ER:q/sz<news.length:=Ya (by rw[Wm];exact EO);have Ii:q/sz<k:=Ya (by rw[Wm];exact KS);have KR:q%sz<sz:=vL _ h0;have BZ:news[q/sz]?=some news[q/sz]:=rX ER;have qT:=S.vd _ (vI ER);have EP:(news[q/sz])[q%sz]?=some ((news[q/sz])[q%sz]' sf):=rX sf
 obtain⟨v',e1,e2⟩:=S.rv _ _ _ _ BZ EP;have:q/sz*sz+q%sz=q:=by rw[Wm];exact Z6 q sz
 rw[this,hq] at e1;cases e1;refine RV.lv e2 (fw _ ?_ _ (vI _));refine PX (i:=q/sz) ?_;rw[Rd,P8 Ii];exact BZ
def FK (hr:aH K β env H a w) {o:Oper} {c:Call} {d x:Operand} {d' x':O} {dt xt e:TypeId} {sz:Nat} {dd:Option Nat} (hd:∀n,dd=some n->n<K.N) (ho:o.op= .call c) (hc:c.callee= .builtin .copy)
   (ha:c.args.toList=[d,x]) (BY:c.argTypes.toList=[dt,xt]) (Hq:K.P.underlying dt=some (.slice e)) (hs:ZM K.P e=some sz) (h0:sz≠0) (hdx:co K.G d=some d') (hx:co K.G x=some x') {y:AV} {H':Hp}
   (hy:sW sz (ev env d') (ev env x') H=some (y,H')):iq K env a w o dd y H':=by
 have pQ:c.args=#[d,x]:=by cases hh:c.args;simp_all
 have sU:c.argTypes=#[dt,xt]:=by cases hh:c.argTypes;simp_all
 have fQ:(execOp a.eval o).run K.P w=((Builtin.copy_ #[dt,xt] o.type #[a.eval d,a.eval x]).run K.P w).andThen λv w'=> .ok (.value v) w':=by
   simp[execOp,ho,resolve,hc,pQ,sU,invoke,builtin]
 unfold sW at hy
 obtain⟨news,hn,hy⟩:=yV.1 hy
 obtain⟨vals,S⟩:=arX hr hx sf hn
 have KT:=hr.ev hdx
 obtain⟨⟨l,s0,i,n⟩,hp,hy⟩:=yV.1 hy
 simp only at hy
 split at hy
 · simp at hy
 rename_i fw
 have fw:∀cs∈news.take (Nat.min news.length n),AV.oJ cs:=Bf fw
 have uc:=vh sf S (Nat.min news.length n) fw
 obtain⟨Ij,ad,c0,h1,h2,h3,h5⟩:=wS hp KT
 split at hy
 · rename_i r hl
   split at hy
   · rename_i cP
     obtain⟨rfl,kV,qB⟩:=cP
     simp only[di,eS] at hy
     obtain⟨rfl,rfl⟩:=hy
     have hk:Nat.min news.length n<=news.length:=Z7 _ _
     have JV:Nat.min news.length n<=n:=ZW _ _
     have CM:(news.take (Nat.min news.length n)).length=Nat.min news.length n:=by rw[tp];omega
     obtain⟨w',q1,q2⟩:=qX hr hl (sz:=s0) (i:=i) (n:=n) (news:=news.take (Nat.min news.length n)) (vals:=vals.take (Nat.min news.length n*s0)) kV h2 (h5 ⟨r,hl⟩) sf sf
       (λcs bV=>by rw[kV];exact S.vd cs (ec bV)) (λcs bV=>S.eI cs (ec bV))
       (by rw[tp,S.len,CM,kV,ov (Ri _ hk)])
       (fun i' j cs x0 ed iX => by
         rw[Rd] at ed
         split at ed
         · rename_i bI
           obtain⟨v,e1,e2⟩:=S.rv i' j cs x0 ed iX
           refine⟨v,?_,e2⟩
           rw[kV,Rd,P8]
           · exact e1
           have CQ:j<s0:=by
             have:=S.vd cs (PX ed)
             have:=(yY.1 iX).1
             omega
           have:=Ri s0 (show i'+1<=Nat.min news.length n by omega)
           rw[Sv] at this
           omega
         simp at ed)
       (λv hv=>uc v hv)
     have h4:=q2.step (Below.refl _ _) (d:=dd) (x:= .int .i64 ((Nat.min news.length n:Nat):Int)) (v:= .int .i64 ((Nat.min news.length n:Nat):Int)) hd (λ_=>by simp[RV]) (λ_=>by simp[AV.an])
     refine⟨_,_,_,_,?_,.inl rfl,h4⟩
     rw[fQ,h1]
     have kS:=S.wN _ hk w (.inl rfl)
     have wv:(Builtin.copy_ #[dt,xt] o.type #[.slice ad n c0,a.eval x]).run K.P w= .ok (.int .i64 ((Nat.min news.length n:Nat):Int)) w':=by
       cases ad with
       |none=>
         simp only[Sem.run_pure,Result.ok.injEq,Su] at q1
         subst q1
         simp[Builtin.copy_,run_underlying Hq,S.lenOf,cp hs,kS,goInt]
       |some q=>
       simp only at q1
       simp[Builtin.copy_,run_underlying Hq,S.lenOf,cp hs,kS,goInt,q1]
     rw[wv];rfl
   simp at hy
 simp at hy
def mi (z:Array Value) (zs:List AV) (n:Nat) (h:br w β H (Im K β H) zs z.toList) (hz:0<z.size):∀i j cs x,(List.replicate n zs)[i]?=some cs->cs[j]?=some x ->
  ∃v,(Builtin.zeroCells z n).toList[i*z.size+j]?=some v/\RV w β H (Im K β H) x v:=by
 intro i j cs x hi hj;rw[JE] at hi;split at hi
 ·rename_i bI;simp only[di] at hi;subst hi;obtain⟨v,e1,e2⟩:=br.get _ _ j x h hj;refine⟨v,?_,e2⟩;have zk:j<z.size:=by
   have:=(yY.1 e1).1;simpa using this
  have hb:i*z.size+j<n*z.size:=by
   have:=Ri z.size (show i+1<=n by omega);rw[Sv] at this;omega
  have hm:(i*z.size+j)%z.size=j:=by rw[Y_,Nat.add_mul_mod_self_right,ZV zk]
  have JY:z[j]?=some v:=by simpa using e1
  have hg:=Rv.1 JY;simp[Builtin.zeroCells,hb,hm,getElem!_def,JY]
 simp at hi
def vi (z:Array Value) (n:Nat) (hz:0<z.size) (h:∀v∈z.toList,v.oneCell'=true):∀v∈(Builtin.zeroCells z n).toList,v.oneCell'=true:=by
 intro v hv;simp only[Builtin.zeroCells,X5,tH,pb,JG] at hv;obtain⟨i,hi,rfl⟩:=hv;have bI:i%z.size<z.size:=vL _ hz;refine h _ ?_;rw[show z[i%z.size]! =z[i%z.size] by simp[bI]];simp
theorem ue:∀(zs:List AV) (vs:List Value),AV.oJ zs->br w β H (Im K β H) zs vs->∀v∈vs,v.oneCell'=true
 |[],vs,_,h,v,hv=>by simp[br] at h;subst h;simp at hv
 |x::r,vs,h1,h,v,hv=>by
  simp only[br] at h;obtain⟨u,us,rfl,h2,h3⟩:=h;rcases PY.1 hv with rfl|hv
  ·exact RV.lv h2 (h1 x tM)
  exact ue r us (λy hy=>h1 y (by simp[hy])) h3 v hv
def FL (hr:aH K β env H a w) {o:Oper} {c:Call} {x:Operand} {x':O} {e:TypeId} {i:TypeInfo} {z:Value} {zs:List AV} {dd:Option Nat} (hd:∀n,dd=some n->n<K.N) (ho:o.op= .call c) (hc:c.callee= .builtin .clear)
  (ha:c.args.toList=[x]) (ht:c.argTypes[0]?.bind K.P.underlying=some (.slice e)) (hi:K.P.info? e=some i) (hz:i.zero=some z) (mN:z.cells.size=i.size) (h0:0<i.size)
  (nF:YJ z.cells.toList=some zs) (hx:co K.G x=some x') {H':Hp} (hy:sX i.size zs (ev env x') H=some H'):iq K env a w o dd (.gf []) H':=by
 have pQ:c.args=#[x]:=by cases hh:c.args;simp_all
 obtain⟨t,sk,u6⟩:=yV.1 ht;have fQ:(execOp a.eval o).run K.P w=((Builtin.clear_ c.argTypes o.type #[a.eval x]).run K.P w).andThen λv w'=> .ok (.value v) w':=by
  simp[execOp,ho,resolve,hc,pQ,invoke,builtin]
 have wT:=hr.ev hx;unfold sX at hy;split at hy
 ·simp at hy
 rename_i fw;have fw:AV.oJ zs:=Bf fw;obtain⟨⟨l,s0,j,n⟩,hp,hy⟩:=yV.1 hy;obtain⟨Ij,ad,c0,h1,h2,h3,h5⟩:=wS hp wT;simp only at hy;split at hy
 ·rename_i r hl;split at hy
  ·rename_i cP;obtain⟨rfl,kV,qB⟩:=cP;simp only[di] at hy;subst hy;have zL:zs.length=i.size:=(by have:=br.len _ _ (gX _ _ nF w β H (Im K β H));simp at this;omega);have BO:=gX _ _ nF w β H (Im K β H);obtain⟨w',q1,q2⟩:=qX hr hl (sz:=i.size) (i:=j) (n:=n) (news:=List.replicate n zs) (vals:=(Builtin.zeroCells z.cells n).toList) kV h2 (h5 ⟨r,hl⟩) tM (by simpa using qB)
    (λcs bV=>by rw[BI bV,kV,zL]) (λcs bV q hq=>by rw[BI bV,XC _ _ nF] at hq;simp at hq)
    (by rw[dG,mN,kV];simp) (by rw[kV,<-mN];exact mi z.cells zs n BO sf)
    (vi z.cells n sf (ue _ _ fw BO))
   have h4:=q2.step (Below.refl _ _) (d:=dd) (x:= .gf []) (v:= .tuple #[]) hd (λ_=>by simp[RV,br]) (λ_=>by simp[AV.an,ah])
   refine⟨_,_,_,_,?_,.inl rfl,h4⟩;rw[fQ,h1];have wv:(Builtin.clear_ c.argTypes o.type #[.slice ad n c0]).run K.P w= .ok (.tuple #[]) w':=by
    cases ad with
    |none=>
     simp only[Sem.run_pure,Result.ok.injEq,Su] at q1;subst q1;simp[Builtin.clear_,sk,run_underlying u6]
    |some q=>
    simp only at q1;cases n with
    |zero=>
     have hw:w'=w:=by
      have u7:(Builtin.zeroCells z.cells 0).toList=[]:=(by simp[Builtin.zeroCells]);rw[u7] at q1;simp[storeCells] at q1;exact q1.symm
     rw[hw];simp[Builtin.clear_,sk,run_underlying u6]
    |succ n=>
    simp[Builtin.clear_,sk,run_underlying u6,zeroValue,typeInfo,hi,hz,q1]
   rw[wv];rfl
  simp at hy
 simp at hy
def FM (hr:aH K β env H a w) {o:Oper} {t e:TypeId} {n c:Operand} {n' c':O} {i:TypeInfo} {z:Value} {zs:List AV} {d:Nat} (hd:d<K.N) (ho:o.op= .makeSlice t n c) (ht:K.P.underlying t=some (.slice e))
  (hi:K.P.info? e=some i) (hz:i.zero=some z) (mN:z.cells.size=i.size) (h0:0<i.size) (hb:0<i.bytes) (nF:YJ z.cells.toList=some zs) (hn:co K.G n=some n') (hc:co K.G c=some c') {y:AV} {H':Hp}
  (hy:vg i.size i.bytes d zs (ev env n') (ev env c') H=some (y,H')):iq K env a w o (some d) y H':=by
 have Ik:=hr.ev hn;have CV:=hr.ev hc;unfold vg at hy;split at hy
 ·rename_i k m k' m' e1 e2;rw[e1] at Ik;rw[e2] at CV;simp only[RV] at Ik CV;split at hy
  ·rename_i cP;obtain⟨rfl,tY,JZ,hu⟩:=cP;simp only[di,eS] at hy;obtain⟨rfl,rfl⟩:=hy;obtain⟨q,rfl⟩:=Wu tY;simp only[Qj] at JZ ⊢;have Mb:q<=q*i.bytes:=fJ _ hb;have gY:=run_make (P:=K.P) w t e i z ht hi hz k k' (q:Int) (q:Int) tY (Int.le_refl _) (by
    have:((q*i.bytes:Nat):Int)<=140737488355328:=sf;rw[Int.natCast_mul,Int.mul_comm] at this;omega) sf
   simp only[Qj] at gY;have zL:zs.length=i.size:=(by have:=br.len _ _ (gX _ _ nF w β H (Im K β H));simp at this;omega);have KU:madeCells z.cells (q*i.size)=Builtin.zeroCells z.cells q:=(by rw[<-mN];rfl);have hex:(execOp a.eval o).run K.P w= .ok (.value (.slice (some ⟨w.heap.size,0,none⟩) q q)) (w.alloc (.cells (Builtin.zeroCells z.cells q) e)):=by
    rw[<-KU];simp[execOp,ho,Ik,CV,gY,Result.andThen]
   have gw:=dZ w (.cells (Builtin.zeroCells z.cells q) e);have cX:=pV hr (H':=bD H (.loc d) (.live ⟨i.size,List.replicate q zs⟩)) (lb:= .loc d) (b:=some w.heap.size) gw hu tM (λp hp ⟨r,h⟩=>by rw[aq _ _ hp] at h;exact⟨r,h⟩);have pT:ZE (w.alloc (.cells (Builtin.zeroCells z.cells q) e)) (bD β (.loc d) (some w.heap.size)) (bD H (.loc d) (.live ⟨i.size,List.replicate q zs⟩))
     (Im K (bD β (.loc d) (some w.heap.size)) (bD H (.loc d) (.live ⟨i.size,List.replicate q zs⟩))) (.loc d) ⟨i.size,List.replicate q zs⟩:=by
    refine⟨h0,λcs bV=>by rw[BI bV,zL],?_⟩;simp only[gn];refine⟨Builtin.zeroCells z.cells q,e,q,heap_alloc_new w _,by rw[size_zeroCells,mN],by simp only[maxLen];omega,tM,λi' j cs x ed iX=> ?_⟩;obtain⟨v,q1,q2⟩:=mi (H:=H) z.cells zs q (gX _ _ nF w β H (Im K β H)) sf i' j cs x ed iX;rw[mN] at q1;refine⟨v,by simpa using q1,RV.mono _ _ (cX _ (λp hp=> ?_)) q2⟩;rw[JE] at ed;split at ed
    ·simp only[di] at ed;subst ed;have:=cW _ _ _ iX p hp;rw[XC _ _ nF] at this;simp at this
    simp at ed
   have h3:=hr.OI (.loc d) hu gw (some w.heap.size) tM (λcs bV p hp=>by rw[BI bV,XC _ _ nF] at hp;simp at hp) pT;have h4:=h3.step (Below.refl _ _) (d:=some d) (x:= .sl (.loc d) i.size 0 q) (v:= .slice (some ⟨w.heap.size,0,none⟩) q q) (by simpa using hd)
    (λ_=>by
     simp only[RV];refine⟨_,_,rfl,PW _,by simp only[maxLen];omega,tM,λ_=> .inr ⟨w.heap.size,q*i.size,tM,tM,?_,tM⟩⟩;have hh:(w.alloc (.cells (Builtin.zeroCells z.cells q) e)).heap[w.heap.size]?=some (.cells (Builtin.zeroCells z.cells q) e):=heap_alloc_new w _;unfold jl;rw[hh];simp only[size_zeroCells,mN]) aad
   exact⟨_,_,_,_,hex,.inl rfl,h4⟩
  simp at hy
 simp at hy
def FN (hr:aH K β env H a w) {o:Oper} {c:Call} {x:Operand} {x':O} {e:TypeId} (ho:o.op= .call c) (hc:c.callee= .builtin .cap) (ha:c.args.toList=[x])
  (ht:c.argTypes[0]?.bind K.P.underlying=some (.slice e)) (hx:co K.G x=some x') {R:Nat->Prop} (hy:zK (ev env x')=some R):∃m,R m/\m<=maxLen/\aJ K β H a w o (.int .i64 (m:Int)):=by
 have h:=hr.ev hx;obtain⟨t,sk,u6⟩:=yV.1 ht;have pQ:c.args=#[x]:=by cases hh:c.args;simp_all
 have sl:∀(ad:Option Addr) (n c':Nat),a.eval x= .slice ad n c'->(execOp a.eval o).run K.P w= .ok (.value (.int .i64 c')) w:=by
  intro ad n c' hv;simp[execOp,ho,resolve,hc,pQ,hv,invoke,builtin,Builtin.cap_,sk,run_underlying u6,goInt]
 have fin:∀(ad:Option Addr) (n c':Nat),a.eval x= .slice ad n c'->aJ K β H a w o (.int .i64 (c':Int)):=λad n c' hv=>aJ.same (sl ad n c' hv) aaG aad;unfold zK at hy;split at hy<;>simp only[di,reduceCtorEq] at hy
 ·rename_i l sz i n m hs;rw[hs] at h;simp only[RV] at h;obtain⟨ad,h1,h2,h3,_⟩:=h;subst hy;exact⟨m,rfl,h3,fin _ _ _ h1⟩
 ·rename_i l sz i n hs;rw[hs] at h;simp only[RV] at h;obtain⟨ad,m,h1,h2,h3,_⟩:=h;subst hy;exact⟨m,h2,h3,fin _ _ _ h1⟩
 ·rename_i xs hs;rw[hs] at h;simp only[RV,NN] at h;obtain⟨ad,m,h1,h2,h3,_⟩:=h;subst hy;exact⟨m,h2,h3,fin _ _ _ h1⟩
 rename_i hs;rw[hs] at h;simp only[RV] at h;obtain⟨ad,h1⟩:=h;subst hy;exact⟨0,rfl,by simp[maxLen],fin _ _ _ h1⟩
def CW (hr:aH K β env H a w) {o:Oper} {t e:TypeId} {x:Operand} {n s:Nat} {x':O} (ho:o.op= .slice t x none none none) (ht:K.P.underlying t=some (.array n e))
  (hs:ZM K.P e=some s) (wo:s≠0) (hx:co K.G x=some x') {y:AV} (hy:c6 (.oD x' n s) env=some y):aJ K β H a w o y:=by
 have h:=hr.ev hx;simp only[c6] at hy;split at hy
 ·rename_i cs e1;rw[e1] at h;split at hy
  ·rename_i cP;obtain⟨hl,sK,fw⟩:=cP;simp only[di] at hy;subst hy;simp only[RV] at h;obtain⟨b,o',h1,h2,h3,h4⟩:=h;have CD:=jr (sz:=s) sf n cs b o' hl fw h4;refine aJ.same (v:= .slice (some ⟨b,o',none⟩) n n) ?_ ?_ aad
   ·simp[execOp,ho,h1,Instr.sliceAt,run_underlying ht,Instr.sliceBounds,Instr.sureAddr,cp hs,Result.andThen,addr_add]
   simp only[RV,NN];refine⟨some ⟨b,o',none⟩,n,by rw[CD.2],by rw[CD.2];exact PW _,sK,.inr ⟨b,o',s,rfl,h2,h3,sf,CD.1⟩⟩
  simp at hy
 simp at hy
def pX {w:World} {β:Lb->Option Nat} {H:Hp} {I I':Nat->Prop} (hk:W4 w w I I'):∀{y:IV} {v:Value},(∀cs,y≠ .agg cs)->RV w β H I y.dQ v->NN w I' y v:=by
 intro y v hy h;cases y with
 |agg cs=>exact absurd rfl (hy cs)
 |list xs=>simp only[IV.dQ,RV] at h;exact NN.mono hk _ _ h
 |bool b=>simpa[IV.dQ,RV,NN] using h
 |int k n=>simpa[IV.dQ,RV,NN] using h
 |str s=>simpa[IV.dQ,RV,NN] using h
 |ifc t=>simp only[IV.dQ,RV] at h;obtain⟨u,rfl,_⟩:=h;exact⟨u,rfl⟩
theorem Xz {w:World} {I:Nat->Prop}:∀(cs:List IV) (b o:Nat),(∀j z,cs[j]?=some z->∃v,w.cell? ⟨b,o+j,none⟩=some v/\NN w I z v)->bK w I cs b o
 |[],b,o,_=>by simp[bK]
 |z::r,b,o,h=>by
  simp only[bK];refine⟨by simpa using h 0 z tM,Xz r b (o+1) (λj y hj=> ?_)⟩;have:=h (j+1) y (by simpa using hj)
  rwa[show o+(j+1)=o+1+j by omega] at this
theorem ajy {w:World} {I:Nat->Prop} {sz:Nat}:∀(xs:List IV) (b o:Nat),(∀k y,xs[k]?=some y->fL w I y b (o+k*sz) sz)->bH w I xs b o sz
 |[],b,o,_=>by simp[bH]
 |y::r,b,o,h=>by
  simp only[bH];refine⟨by simpa using h 0 y tM,ajy r b (o+sz) (λk z hk=> ?_)⟩;have:=h (k+1) z (by simpa using hk)
  rwa[Sv,XY,show o+(k*sz+sz)=o+sz+k*sz by omega] at this
def CX (hr:aH K β env H a w) {o:Oper} {c:Call} {s x:Operand} {s' x':O} {st xt e:TypeId} {i:TypeInfo} {z:Value} {dx:TypeDesc} (ho:o.op= .call c) (hc:c.callee= .builtin .append)
  (ha:c.args.toList=[s,x]) (BY:c.argTypes.toList=[st,xt]) (g_:K.P.underlying st=some (.slice e)) (hi:K.P.info? e=some i) (hz:i.zero=some z) (mN:z.cells.size=i.size) (h0:0<i.size)
  (qD:K.P.underlying xt=some dx) (hdx:dx= .string\/∃e2,dx= .slice e2) (hs:co K.G s=some s') (hx:co K.G x=some x') {y:AV}
  (hy:c6 (.oE s' x' i.size i.bytes) env=some y):aJ K β H a w o y:=by
 have pQ:c.args=#[s,x]:=by cases hh:c.args;simp_all
 have sU:c.argTypes=#[st,xt]:=by cases hh:c.argTypes;simp_all
 have fQ:(execOp a.eval o).run K.P w=((Builtin.append_ #[st,xt] o.type #[a.eval s,a.eval x]).run K.P w).andThen λv w'=> .ok (.value v) w':=by
  simp[execOp,ho,resolve,hc,pQ,sU,invoke,builtin]
 have mh:=hr.ev hs;have B0:∀(news:List (List AV)) (vals:List Value),news.length=0->Src K β H w i.size (a.eval x) news vals->ev env s'= .nil0->aJ K β H a w o (.list []):=by
  intro news vals tY S e1;rw[e1] at mh;simp only[RV] at mh;obtain⟨ad,mh⟩:=mh;have Vi:news=[]:=wc tY;subst Vi;have zI:vals=[]:=wc (by simpa using S.len);subst zI;have iS:=eX (ty:=o.type) g_ hi qD hdx ad 0 0 0 (a.eval x) #[] S.lenOf (S.cells w (.inl rfl)) sf
  refine aJ.same (v:= .slice ad 0 0) ?_ ?_ aad
  ·rw[fQ,mh,iS];cases ad<;>simp[storeCells]
  simp only[RV,NN];exact⟨ad,0,rfl,PW _,by simp[maxLen],.inl rfl⟩
 simp only[c6] at hy;split at hy
 ·rename_i xs e1 e2;split at hy
  ·rename_i cP;obtain⟨ll,FO,hb,oK,_⟩:=cP;simp only[di] at hy;subst hy;have hn:al_ i.size (ev env x') H=some (xs.map λy=>y.cells.map IV.dQ):=(by rw[e2];simp[al_,ll]);obtain⟨vals,S⟩:=arX hr hx h0 hn;by_cases tY:xs.length=0
   ·have:xs=[]:=wc tY;subst this;exact B0 _ _ tM S e1
   rw[e1] at mh;simp only[RV] at mh;obtain⟨ad,mh⟩:=mh;have ve:(xs.map λy=>y.cells.map IV.dQ).length=xs.length:=G_ _;have qW:(Builtin.firstCells i.size 0 (.slice ad 0 0)).run K.P w.drew= .ok #[] w.drew:=by
    cases ad with
    |none=>simp[Builtin.firstCells]
    |some q=>simp[Builtin.firstCells,loadCells,loadCellsFrom]
   have hlen:=S.lenOf;have kS:=S.cells w.drew (.inr rfl);rw[ve] at hlen kS;have iS:=ew (ty:=o.type) g_ hi hz qD hdx ad 0 0 xs.length (a.eval x) vals.toArray #[] hlen kS qW sf (by simpa using hb) oK
   have qS:=grownCap_ge w (0+xs.length) 0 e;have qC:=grownCap_le_maxLen w (0+xs.length) 0 e (by
    have:=fJ xs.length oK;simp only[maxLen];omega)
   have gw:=(mf w).trans (dZ w.drew (.cells (#[]++vals.toArray++Builtin.zeroCells z.cells (grownCap w (0+xs.length) 0 e - (0+xs.length))) e))
   refine⟨.slice (some ⟨w.heap.size,0,none⟩) (0+xs.length) (grownCap w (0+xs.length) 0 e),_,by rw[fQ,mh,iS];rfl,gw,?_,aad⟩;simp only[RV,NN];refine⟨_,_,by rw[bM],sf,qC,.inr ⟨w.heap.size,0,i.size,rfl,hr.fresh,?_,h0,?_⟩⟩
   ·have hh:=heap_alloc_new w.drew (.cells (#[]++vals.toArray++Builtin.zeroCells z.cells (grownCap w (0+xs.length) 0 e - (0+xs.length))) e)
    exact(Rv.1 hh).1
   refine ajy _ _ _ (λk y FP=> ?_);rw[eH];have qT:y.cells.length=i.size:=ll y (PX FP);refine⟨qT.symm,Xz _ _ _ (λj q hq=> ?_)⟩;obtain⟨v,q1,q2⟩:=S.rv k j (y.cells.map IV.dQ) q.dQ (by simp[FP]) (by simp[hq]);refine⟨v,?_,NN.mono (iU.nz gw β H (Im K β H) []).toW4 _ _ (pX (I:=Im K β H) (w:=w) ⟨λk hk hs=>⟨hk,hs,rfl⟩⟩ (FO y (PX FP) q (PX hq)) q2)⟩;have hh:(w.drew.alloc (.cells (#[]++vals.toArray++Builtin.zeroCells z.cells (grownCap w (0+xs.length) 0 e - (0+xs.length))) e)).heap[w.heap.size]?=some (.cells (#[]++vals.toArray++Builtin.zeroCells z.cells (grownCap w (0+xs.length) 0 e - (0+xs.length))) e):=heap_alloc_new w.drew _
   rw[cell_of_row _ _ _ _ _ _ hh];have bI:k*i.size+j<vals.length:=(yY.1 q1).1;simp only[bM];rw[Wz (by simpa using bI)];simpa using q1
  simp at hy
 ·rename_i e1 e2;split at hy
  ·simp only[di] at hy;subst hy;have hn:al_ i.size (ev env x') H=some []:=(by rw[e2];simp[al_]);obtain⟨vals,S⟩:=arX hr hx h0 hn;exact B0 _ _ rfl S e1
  exact absurd h0 ‹_›
 simp at hy
def mj {P:Program} {w:World} {st xt ty e:TypeId} {i:TypeInfo} {z:Value} {k0:IntKind} (hu:P.underlying st=some (.slice e)) (hi:P.info? e=some i) (hz:i.zero=some z) (hx:P.underlying xt=some (.int k0))
  (ad:Option Addr) (n c m:Nat) (k:IntKind) (olds:Array Value) (h0:0<m*i.size)
  (ho:(Builtin.firstCells i.size n (.slice ad n c)).run P w.drew= .ok olds w.drew) (PS:c<n+m) (hb:(n+m)*i.bytes<=140737488355328) (oK:0<i.bytes) :
  (Builtin.append_ #[st,xt] ty #[.slice ad n c,.int k (m:Int)]).run P w= .ok (.slice (some ⟨w.heap.size,0,none⟩) (n+m) (grownCap w (n+m) c e))
   (w.drew.alloc (.cells (olds++Builtin.zeroCells z.cells m++Builtin.zeroCells z.cells (grownCap w (n+m) c e - (n+m))) e)):=by
 have hn:¬(n+m<=c):=sf
 have KQ:n+m<=(n+m)*i.bytes:=fJ _ oK;have CO:¬(9223372036854775807<((n:Int)+(m:Int))):=sf
 have CP:¬(281474976710656<Builtin.nextslicecap (n+m) c*i.bytes):=by have:=growslice_fits PS hb;omega
 have hw:IntKind.i64.wrap (m:Int)=m:=by rw[IntKind.wrap_i64];omega
 have Il:¬((m:Int)<0):=sf
 have Io:¬(281474976710656<(m:Int)*(i.bytes:Int)):=by
  rw[<-Int.natCast_mul];have:m*i.bytes<=(n+m)*i.bytes:=Ri _ sf;omega
 have np:¬(m*i.size=0):=sf
 have Ip:m≠0:=λh=>np (by simp[h]);have Iq:i.size≠0:=λh=>np (by simp[h]);simp[Builtin.append_,run_underlying hu,run_underlying hx,sizeOf,typeInfo,zeroValue,hi,hz,asInt,asIntOf,hw,hn,Il,Ip,Iq,CO,CP,Io,Question.forced,ho,newRow,grownCap];intro h;exact absurd h np
def CY (hr:aH K β env H a w) {o:Oper} {c:Call} {s x:Operand} {s' x':O} {st xt e:TypeId} {i:TypeInfo} {z:Value} {zs:List AV} {k0:IntKind} {d:Nat} (hd:d<K.N) (ho:o.op= .call c) (hc:c.callee= .builtin .append)
  (ha:c.args.toList=[s,x]) (BY:c.argTypes.toList=[st,xt]) (g_:K.P.underlying st=some (.slice e)) (hi:K.P.info? e=some i) (hz:i.zero=some z) (mN:z.cells.size=i.size) (h0:0<i.size) (oK:0<i.bytes)
  (qD:K.P.underlying xt=some (.int k0)) (nF:YJ z.cells.toList=some zs) (hs:co K.G s=some s') (hx:co K.G x=some x') {y:AV} {H':Hp}
  (hy:ud i.size i.bytes d zs (ev env s') (ev env x') H=some (y,H')):iq K env a w o (some d) y H':=by
 have pQ:c.args=#[s,x]:=by cases hh:c.args;simp_all
 have sU:c.argTypes=#[st,xt]:=by cases hh:c.argTypes;simp_all
 have fQ:(execOp a.eval o).run K.P w=((Builtin.append_ #[st,xt] o.type #[a.eval s,a.eval x]).run K.P w).andThen λv w'=> .ok (.value v) w':=by
  simp[execOp,ho,resolve,hc,pQ,sU,invoke,builtin]
 have mh:=hr.ev hs;have wT:=hr.ev hx;unfold ud at hy;split at hy
 ·rename_i l s0 i0 n c0 k m e1 e2;rw[e1] at mh;rw[e2] at wT;simp only[RV] at mh wT;obtain⟨ad,h1,h2,h3,h4,h5⟩:=mh;split at hy
  ·rename_i r hl;split at hy
   ·rename_i cP;obtain⟨rfl,kV,rfl,ve,tY,PS,hb,hu⟩:=cP;obtain⟨q,rfl⟩:=Wu tY;simp only[Qj] at PS hb hy;simp only[di,eS] at hy;obtain⟨rfl,rfl⟩:=hy;have ES:(r.els.take n).length=n:=aak;have wO:∀cs∈r.els.take n,cs.length=i.size:=λcs bV=>(by rw[<-kV];exact(hr.rows l r hl).2.1 cs (ec bV));have BX:∀cs∈r.els.take n,∀q∈ah cs,H q≠ .unused:=λcs bV=>hr.cH l r hl cs (ec bV);have zL:zs.length=i.size:=(by have:=br.len _ _ (gX _ _ nF w β H (Im K β H));simp at this;omega);have BO:=gX _ _ nF w β H (Im K β H);have qS:=grownCap_ge w (n+q) c0 e;have qC:=grownCap_le_maxLen w (n+q) c0 e (by
     have:=fJ (n+q) oK;simp only[maxLen];omega)
    have olds:∃olds:List Value,olds.length=n*i.size/\(∀i' j cs x0,(r.els.take n)[i']?=some cs->cs[j]?=some x0->∃v,olds[i'*i.size+j]?=some v/\RV w β H (Im K β H) x0 v) /\
      (Builtin.firstCells i.size n (.slice ad n c0)).run K.P w.drew= .ok olds.toArray w.drew:=by
     by_cases zJ:c0=0
     ·have wq:n=0:=sf;subst wq;refine⟨[],tM,tM,?_⟩;cases ad with
      |none=>simp[Builtin.firstCells]
      |some q=>simp[Builtin.firstCells,loadCells,loadCellsFrom]
     rcases h5 ⟨r,hl⟩ with h6|⟨g,Sz,g1,rfl,g3,g4⟩
     ·exact absurd h6 zJ
     obtain⟨cur,e0,cap,k1,k2,k3,k4,k5⟩:=(hr.rows l r hl).block g1;rw[kV] at k2;have FH:n*i.size<=cur.size:=(by rw[k2];exact Ri _ sf);have kJ:(cur.toList.take (n*i.size)).length=n*i.size:=aak;refine⟨cur.toList.take (n*i.size),kJ,?_,?_⟩
     ·intro i' j cs x0 ed iX;rw[Rd] at ed;split at ed
      ·rename_i bI;obtain⟨v,q1,q2⟩:=k5 i' j cs x0 ed iX;rw[kV] at q1;refine⟨v,?_,q2⟩;have CQ:j<i.size:=by
        have:=(hr.rows l r hl).2.1 cs (PX ed);have:=(yY.1 iX).1;omega
       have iG:i'*i.size+j<n*i.size:=by
        have:=Ri i.size (show i'+1<=n by omega);rw[Sv] at this;omega
       rw[Rd,P8 iG];simpa using q1
      simp at ed
     exact run_firstCells_some (P:=K.P) w.drew i.size n ⟨g,0*i.size,none⟩ n c0 _ kJ (λj v hj=>by
      rw[addr_add,V9,bM];have:w.cell? ⟨g,j,none⟩=some v:=by
       rw[cell_of_row w g _ cur e0 (0,0) k1];rw[Rd] at hj;split at hj
       ·simpa using hj
       simp at hj
      simpa using this)
    obtain⟨olds,CU,ET,Ih⟩:=olds;have KV:0<q*i.size:=Nat.mul_pos sf h0;have iS:=mj (ty:=o.type) g_ hi hz qD ad n c0 q k olds.toArray KV Ih PS hb oK;have J0:(List.replicate q zs).length=q:=VC;have:=fR hr hr (λ_ h=>h) (λ_ h=>h) (o:=o) hd (e:=e) (n:=n) (m:=q) (A:=r.els.take n) (news:=List.replicate q zs) (olds:=olds) (vals:=(Builtin.zeroCells z.cells q).toList)
     (rest:=(Builtin.zeroCells z.cells (grownCap w (n+q) c0 e - (n+q))).toList) h0 hu hu ES J0 wO (λcs bV=>by rw[BI bV,zL]) BX
     (λcs bV p hp=>by rw[BI bV,XC _ _ nF] at hp;simp at hp) CU (by rw[dG,mN,J0]) ET (by rw[<-mN];exact mi z.cells zs q BO sf)
     (cap:=grownCap w (n+q) c0 e) (by
      have h9:=ZN (sz:=i.size) qS;simp only[ko,CU,dG,mN];rw[<-Sv];exact h9) qC qS (by
      rw[fQ,h1,wT,iS];exact nJ _ _ tM)
    exact this
   simp at hy
  simp at hy
 simp at hy
def vj {x:AV} (h:x.sI=true):∀l∈ah x.cells,l∈x.an:=by
 intro l hl;cases x<;>simp[AV.cells,ah] at hl<;>simp[AV.an] at hl ⊢<;>exact hl
def ir (l m:List AV):ah (l++m)=ah l++ah m:=by
 induction l with
 |nil=>rfl
 |cons x r ih=>simp[ah,ih]
theorem oZ:∀(qs:List (Nat×Nat×AV)) (c c':List AV),fg c qs=some c'->∀l∈ah c',l∈ah c\/∃q∈qs,l∈q.2.2.an
 |[],c,c',h,l,hl=>by simp[fg] at h;subst h;exact .inl hl
 |(off,sz,x)::qs,c,c',h,l,hl=>by
  simp only[fg] at h;split at h
  ·rename_i hc;rcases oZ qs _ _ h l hl with h1|⟨q,h1,h2⟩
   ·rw[ir,ir,QL,QL] at h1;rcases h1 with(h1|h1)|h1
    ·left;have:=ir (c.take off) (c.drop off);rw[tO] at this;rw[this,QL];exact .inl h1
    ·exact .inr ⟨(off,sz,x),tM,vj hc.1 l h1⟩
    left;have:=ir (c.take (off+sz)) (c.drop (off+sz));rw[tO] at this;rw[this,QL];exact .inr h1
   exact .inr ⟨q,by simp[h1],h2⟩
  simp at h
def zM (hr:aH K β env H a w) {o:Oper} {t e:TypeId} {ps:Array (Nat×Operand)} {i:TypeInfo} {z:Value} {zs:List AV} {xs:List O} {d:Nat} (hd:d<K.N) (ho:o.op= .buildSlice t 1 ps)
  (ht:K.P.underlying t=some (.slice e)) (hi:K.P.info? e=some i) (hz:i.zero=some z) (mN:z.cells.size=i.size) (h0:0<i.size) (hn:1*i.size<=2^24)
  (nF:YJ z.cells.toList=some zs) (sM:cos K.G (ps.toList.map (·.2))=some xs) {y:AV} {H':Hp}
  (hy:sY i.size d zs (((ps.toList.map (·.1)).zip xs).map λp=>(p.1,ev env p.2)) H=some (y,H')):iq K env a w o (some d) y H':=by
 unfold sY at hy;obtain⟨cs,h1,hy⟩:=yV.1 hy;split at hy
 ·rename_i cP;obtain⟨hu,hlen,_⟩:=cP;simp only[di,eS] at hy;obtain⟨rfl,rfl⟩:=hy;have u7:=gX _ _ nF w β H (Im K β H);have hzero:=nE z.cells zs w β H (Im K β H) u7 sf 1;have hm:∀l∈ah cs,H l≠ .unused:=by
   intro l hl;rcases oZ _ _ _ h1 l hl with h2|⟨q,h2,h3⟩
   ·rw[XC _ _ nF] at h2;simp at h2
   simp only[WC,pb,Function.comp] at h2;obtain⟨p,hp,rfl⟩:=h2;simp only at h3;have B1:p.2∈xs:=(List.of_mem_zip (a:=p.1) (b:=p.2) hp).2;obtain⟨k,hk⟩:=Sw B1;exact iV hr _ _ sM l (cW _ k _ (by rw[cn,hk];rfl) l h3)
  have BR:xs.length=ps.toList.length:=by
   have:=br.len _ _ (iE hr _ _ sM);simp at this;simpa using this.symm
  have dN:=kQ hr (λj=>some (j*i.size,i.size)) ps.toList xs (((ps.toList.map (·.1)).zip xs).map λp=>(p.1*i.size,i.size,p.2)) sM
   (by simp at BR;simp[BR])
   (by
    intro j p x q g1 g2 g3;simp only[cn,N',jF] at g3;obtain⟨⟨u,v⟩,⟨⟨p',e1,e2⟩,e3⟩,rfl⟩:=g3;simp only at e1 e2 e3;rw[g1] at e1;cases e1;rw[g2] at e3;cases e3;exact⟨rfl,by simp[e2]⟩)
  obtain⟨cur',f1,f2⟩:=ly (λj=>some (j*i.size,i.size)) _ _ _ cs _ hzero (by simpa[WC,ZK] using h1) dN;have qQ:Instr.fill (λj=>some (j*i.size,i.size)) ((Array.range (1*i.size)).map (z.cells[·%z.cells.size]!)) (ps.toList.map λp=>(p.1,a.eval p.2))=some cur':=by
   rw[<-mN];rw[<-mN] at f1;exact f1
  have CF:¬1*i.size=0:=sf
  have Ft:=cp (P:=K.P) (t:=e) (s:=i.size) (by simp[ZM,hi]) w;have gY:(execOp a.eval o).run K.P w= .ok (.value (.slice (some ⟨w.heap.size,0,none⟩) 1 1)) (w.alloc (.cells cur' e)):=by
   simp only[execOp,ho,Instr.buildSlice,Sem.run_bind,run_underlying ht,Result.andThen_ok,Ft,Sem.run_ite,CF,nX,zeroValue,typeInfo,run_program,hi,hz,
    X5,show ¬1*i.size>2^24 by omega,Sem.run_pure,Result.andThen,qQ]
   simp[newRow,qQ]
  have kH:cur'.size=i.size:=by have:=br.len _ _ f2;simp at this;omega
  have gw:=dZ w (.cells cur' e);have cX:=pV hr (H':=bD H (.loc d) (.live ⟨i.size,[cs]⟩)) (lb:= .loc d) (b:=some w.heap.size) gw hu tM (λp hp ⟨r,h⟩=>by rw[aq _ _ hp] at h;exact⟨r,h⟩);have pT:ZE (w.alloc (.cells cur' e)) (bD β (.loc d) (some w.heap.size)) (bD H (.loc d) (.live ⟨i.size,[cs]⟩))
    (Im K (bD β (.loc d) (some w.heap.size)) (bD H (.loc d) (.live ⟨i.size,[cs]⟩))) (.loc d) ⟨i.size,[cs]⟩:=by
   refine⟨h0,by simp[hlen],?_⟩;simp only[gn];refine⟨cur',e,1,heap_alloc_new w _,by simp[kH],by simp[maxLen],tM,λi' j dF x ed iX=> ?_⟩;cases i' with
   |succ i'=>simp at ed
   |zero=>
   simp at ed;subst ed;obtain⟨v,k1,k2⟩:=br.get _ _ _ _ f2 iX;exact⟨v,by simpa using k1,RV.mono _ _ (cX _ (λl hl=>hm l (cW _ _ _ iX l hl))) k2⟩
  have h3:=hr.OI (.loc d) hu gw (some w.heap.size) tM (by simpa using hm) pT;have h4:=h3.step (Below.refl _ _) (d:=some d) (x:= .sl (.loc d) i.size 0 1) (v:= .slice (some ⟨w.heap.size,0,none⟩) 1 1) (by simpa using hd)
   (λ_=>by
    simp only[RV];refine⟨_,1,rfl,PW _,by simp[maxLen],tM,λ_=> .inr ⟨w.heap.size,i.size,tM,tM,?_,tM⟩⟩;have hh:(w.alloc (.cells cur' e)).heap[w.heap.size]?=some (.cells cur' e):=heap_alloc_new w _;unfold jl;rw[hh];simp only[kH]) aad
  exact⟨_,_,_,_,gY,.inl rfl,h4⟩
 simp at hy
end
end Go.Am

namespace Go.Am
open Go Go.RowKit
def aB (xs:List IV):List (List AV):=xs.map λy=>y.cells.map IV.dQ
def abk {p:Prop} (h:p:=by simp[aB]):p:=h
def Flat (xs:List IV):Prop:=∀y∈xs,∀z∈y.cells,∀cs,z≠ .agg cs
def Hp.none:Hp:=λ_=> .unused
def abF {p:Prop} (h:p:=by simp[Hp.none]):p:=h
def Env.any:Env:=λ_=> .any
def lB:Act:={tmps:=#[],defers:=[]}
def wU (β:Lb->Option Nat) (H:Hp) (k:Nat):Prop:=∃l,live H l/\β l=some k
def b8 (P:Program) (G:Nat->Option (List IV)) (w:World) (A:Nat->Prop) (β:Lb->Option Nat) (H:Hp):Kx:=⟨P,G,w,A,wU β H,0,H,β⟩
def ey (P:Program) (G:Nat->Option (List IV)) (f:Nat) (args:List AV) (H:Hp) (Q:AV->Hp->Prop):Prop:=
 ∀(w:World) (A:Nat->Prop) (β:Lb->Option Nat) (vs:List Value),aH (b8 P G w A β H) β Env.any H lB w->br w β H (Im (b8 P G w A β H) β H) args vs ->
  Calls P f vs.toArray w λe w'=>∃v x H' β',e= .returned v/\Q x H'/\aH (b8 P G w A β H) β' Env.any H' lB w' /\
   RV w' β' H' (Im (b8 P G w A β H) β' H') x v/\∀l∈x.an,H' l≠ .unused
def au (P:Program) (G:Nat->Option (List IV)) (f:Nat) (args:List AV) (res:AV):Prop:=
 ah args=[]/\res.an=[]/\ey P G f args Hp.none λx _=>x=res
def ey.mono {P:Program} {G:Nat->Option (List IV)} {f:Nat} {args:List AV} {H:Hp} {Q Q':AV->Hp->Prop} (h:ey P G f args H Q) (hq:∀x H,Q x H->Q' x H):ey P G f args H Q':=
 λw A β vs hr hv=>(h w A β vs hr hv).mono λe w' ⟨v,x,H',β',h1,h2,h3⟩=>⟨v,x,H',β',h1,hq _ _ h2,h3⟩
def gW (g:Option (Nat×Bool)) (env:Env):Option Bool:=
 match g with
 |none=>some true
 |some (s,t)=>match env s with
  | .bool b=>some (b==t)
  | .un=>some false
  |_=>none
structure St where
 P:Program
 G:Nat->Option (List IV)
 N:Nat
mutual
def bJ (ρ:Lb->Lb):AV->AV
 | .sl l sz i n=> .sl (ρ l) sz i n
 | .slk l sz i n c=> .slk (ρ l) sz i n c
 | .ptr l sz i j=> .ptr (ρ l) sz i j
 | .agg cs=> .agg (bu ρ cs)
 | .gf cs=> .gf (bu ρ cs)
 | .fn f fs cs=> .fn f (bu ρ fs) (bu ρ cs)
 | .ifc t x=> .ifc t (bJ ρ x)
 |x=>x
def bu (ρ:Lb->Lb):List AV->List AV
 |[]=>[]
 |x::r=>bJ ρ x::bu ρ r
end
def dO (ρ:Lb->Lb) (r:Row):Row:=⟨r.sz,r.els.map (bu ρ)⟩
structure Pass (S:St) (f:Nat) (args:List AV) (H:Hp) (k:AV->Hp->Prop):Prop where
 h:∃(ρ:Lb->Lb) (iu:Hp) (U6:List AV) (Q:AV->Hp->Prop),ey S.P S.G f U6 iu Q/\args=bu ρ U6 /\
  (∀l r,iu l= .live r->H (ρ l)= .live (dO ρ r))/\(∀l,iu l≠ .unused->live iu l) /\
  (∀l l',live iu l->live iu l'->ρ l=ρ l'->l=l')/\(∀l∈ah U6,iu l≠ .unused)/\(∀l,live iu l->l.fresh=false)/\(∀l r,iu l= .live r->∀cs∈r.els,∀q∈ah cs,iu q≠ .unused) /\
  ∀x H',Q x H'->∃(ρ':Lb->Lb) (kK:Hp),(∀l,live iu l->live H' l->ρ' l=ρ l) /\
   (∀q r,kK q= .live r->(H q= .live r/\∀l,live iu l->ρ l≠q)\/∃l r',H' l= .live r'/\ρ' l=q/\r=dO ρ' r') /\
   (∀l l',live H' l->live H' l'->ρ' l=ρ' l'->l=l') /\
   (∀q,H q≠ .unused->kK q≠ .unused)/\(∀l∈x.an,kK (ρ' l)≠ .unused) /\
   (∀l r',H' l= .live r'->∀cs∈r'.els,∀q∈ah cs,kK (ρ' q)≠ .unused) /\
   (∀l,live H' l->live iu l\/(H (ρ' l)= .unused/\((ρ' l).fresh=true->l.fresh=true\/∀z,live iu z->(ρ z).fresh=true))) /\
   (∀l,(l∈x.an\/∃l1 r1 cs,H' l1= .live r1/\cs∈r1.els/\l∈ah cs)->live kK (ρ' l)->live H' l)/\k (bJ ρ' x) kK
mutual
def AV.scalar:AV->Bool
 | .bool _| .int _ _| .str _| .jK| .iT=>true
 | .gf cs=>scalars cs
 |_=>false
def scalars:List AV->Bool
 |[]=>true
 |x::r=>x.scalar&&scalars r
end
inductive wV (H:Hp):AV->AV->Prop where
 |same (x:AV):wV H x x
 |row (l:Lb) (sz i n:Nat) (xs:List IV):H l= .live ⟨sz,aB xs⟩->i+n<=xs.length->Flat xs->wV H (.sl l sz i n) (.list ((xs.drop i).take n))
structure Ir (S:St) (f:Nat) (args:List AV) (H:Hp) (k:AV->Hp->Prop):Prop where
 h:∃U6 res,iF (wV H) args U6/\au S.P S.G f U6 res/\res.scalar=true/\k res H
def jJ (S:St) (f:Nat) (args:List AV) (H:Hp) (k:AV->Hp->Prop):Prop:=
 (∃res,au S.P S.G f args res/\k res H)\/Ir S f args H k\/Pass S f args H k
def qY:AV->Option (List Bool)
 | .list []=>some [true,false]
 | .list (_::_)=>some [false]
 | .nil0=>some [true,false]
 | .sl _ _ _ n=>some (if 0<n then [false] else [true,false])
 | .slk _ _ _ n _=>some (if 0<n then [false] else [true,false])
 |_=>none
def sZ (S:St) (f:Nat) (args:List AV) (H:Hp) (res:AV):Prop:=
 ∀(K:Kx) (β:Lb->Option Nat) (env:Env) (a:Act) (w:World) (vs:List Value),(⟨K.P,K.G,K.N⟩:St)=S->aH K β env H a w->br w β H (Im K β H) args vs ->
  ∃v w',(callFunc f vs.toArray).run K.P w= .ok (.value v) w'/\iU w w'/\RV w' β H (Im K β H) res v/\∀l∈res.an,H l≠ .unused
def bg (S:St) (d:Option Nat) (i:U7) (env:Env) (H:Hp) (k:AV->Hp->Prop):Prop:=
 match i with
 | .load m a=>(∃x,c6 (.load m a) env=some x/\k x H)\/(∃x,Wl m (ev env a) H=some x/\k x H)
 | .box x=>∃n,d=some n/\H (.loc n)= .unused/\(ev env x).sI=true/\0<(ev env x).cells.length/\(ev env x).cells.length<=maxLen /\
  k (.ptr (.loc n) (ev env x).cells.length 0 0) (bD H (.loc n) (.live ⟨(ev env x).cells.length,[(ev env x).cells]⟩))
 | .new cs=>∃n,d=some n/\H (.loc n)= .unused/\0<cs.length/\cs.length<=maxLen/\k (.ptr (.loc n) cs.length 0 0) (bD H (.loc n) (.live ⟨cs.length,[cs]⟩))
 | .store m a x=>d=none/\∃H',gZ m (ev env a) (ev env x) H=some H'/\k .un H'
 | .app s x sz bytes=>∃n,d=some n/\∃y H',jN sz bytes n (ev env s) (ev env x) H=some (y,H')/\k y H'
 | .call f args=>jJ S f (args.map (ev env)) H k
 | .fM x args=>∃f first cap,ev env x= .fn f first cap/\fU S.P f=true/\jJ S f (first++args.map (ev env)++cap) H k
 | .BJ n x=>∃bs,qY (ev env x)=some bs/\∀b∈bs,k (.bool (n ^^ b)) H
 | .cap x=>∃R,zK (ev env x)=some R/\∀m,R m->m<=maxLen->k (.int .i64 (m:Int)) H
 | .qL s x sz=>∃y H',sW sz (ev env s) (ev env x) H=some (y,H')/\k y H'
 | .si x sz z=>∃H',sX sz z (ev env x) H=some H'/\k (.gf []) H'
 | .tU n c sz bytes z=>∃q,d=some q/\∃y H',vg sz bytes q z (ev env n) (ev env c) H=some (y,H')/\k y H'
 | .kE f args=>∃res,sZ S f (args.map (ev env)) H res/\k res H
 | .pP s n sz bytes z=>∃q,d=some q/\∃y H',ud sz bytes q z (ev env s) (ev env n) H=some (y,H')/\k y H'
 | .gG sz z ps=>∃q,d=some q/\∃y H',sY sz q z (ps.map λp=>(p.1,ev env p.2)) H=some (y,H')/\k y H'
 |i=>∃x,c6 i env=some x/\k x H
def AO (S:St):List bh->Env->Hp->(Env->Hp->Prop)->Prop
 |[],env,H,k=>k env H
 |i::r,env,H,k=>(gW i.g env=some true/\(∀n,i.d=some n->n<S.N)/\bg S i.d i.i env H λx H'=>AO S r (cV env i.d x) H' k) \/
  (gW i.g env=some false/\(∀n,i.d=some n->n<S.N)/\AO S r (cV env i.d .un) H k)
def iY (P:Program) (G:Nat->Option (List IV)) (ops:Array Oper) (o:Oper):Option bh:=
 match o.guard with
 |none=>(comp P G o).map λi=>⟨o.dst,none,i⟩
 |some (j,t)=>((ops[j]?).bind (·.dst)).bind λs=>(comp P G o).map λi=>⟨o.dst,some (s,t),i⟩
def U7.fV:U7->U7
 | .oC x=> .box x
 | .oE s x sz b=> .app s x sz b
 | .gG sz z ps=> .lits 1 sz z ps
 |i=>i
def bh.fV (i:bh):bh:={i with i:=i.i.fV}
section
variable {K:Kx} {β:Lb->Option Nat} {env:Env} {H:Hp} {a:Act} {w:World}
mutual
theorem pY (ρ:Lb->Lb):∀x:AV,(bJ ρ x).an=x.an.map ρ
 | .sl ..| .slk ..| .ptr ..| .any| .un| .bool _| .int ..| .str _| .list _| .nil0| .jK| .iT| .lptr _| .mis _=>by simp[bJ,AV.an]
 | .agg cs=>by simp[bJ,AV.an,iZ ρ cs]
 | .gf cs=>by simp[bJ,AV.an,iZ ρ cs]
 | .fn f fs cs=>by simp[bJ,AV.an,iZ ρ fs,iZ ρ cs]
 | .ifc t x=>by simp[bJ,AV.an,pY ρ x]
theorem iZ (ρ:Lb->Lb):∀xs:List AV,ah (bu ρ xs)=(ah xs).map ρ
 |[]=>by simp[bu,ah]
 |x::r=>by simp[bu,ah,pY ρ x,iZ ρ r]
end
theorem lC (ρ:Lb->Lb):∀(xs:List AV) (i:Nat),(bu ρ xs)[i]?=xs[i]?.map (bJ ρ)
 |[],i=>by simp[bu]
 |x::r,0=>by simp[bu]
 |x::r,i+1=>by simp[bu,lC ρ r i]
theorem lD (ρ:Lb->Lb):∀(xs:List AV),(bu ρ xs).length=xs.length
 |[]=>rfl
 |x::r=>by simp[bu,lD ρ r]
structure kW (w w':World) (β β':Lb->Option Nat) (H H':Hp) (I I':Nat->Prop) (ρ:Lb->Lb) (ls:List Lb):Prop extends W4 w w' I I' where
 lb:∀l∈ls,live H' l->live H (ρ l)/\β' l=β (ρ l)/\∀g S,β (ρ l)=some g->jl w g=some S->jl w' g=some S
def kW.sub {w w':World} {β β':Lb->Option Nat} {H H':Hp} {I I':Nat->Prop} {ρ:Lb->Lb} {ls ls':List Lb} (h:kW w w' β β' H H' I I' ρ ls) (hs:∀l∈ls',l∈ls) :
 kW w w' β β' H H' I I' ρ ls':=⟨h.toW4,λl hl=>h.lb l (hs l hl)⟩
mutual
theorem RV.bJ {w w':World} {β β':Lb->Option Nat} {H H':Hp} {I I':Nat->Prop} {ρ:Lb->Lb}:∀(x:AV) (v:Value),kW w w' β β' H H' I I' ρ x.an->RV w β H I (Am.bJ ρ x) v->RV w' β' H' I' x v
 | .any,_,_,_=>by simp[RV]
 | .un,_,_,hv=>by simpa[RV,Am.bJ] using hv
 | .bool _,_,_,hv=>by simpa[RV,Am.bJ] using hv
 | .int _ _,_,_,hv=>by simpa[RV,Am.bJ] using hv
 | .str _,_,_,hv=>by simpa[RV,Am.bJ] using hv
 | .nil0,_,_,hv=>by simpa[RV,Am.bJ] using hv
 | .jK,_,_,hv=>by simpa[RV,Am.bJ] using hv
 | .iT,_,_,hv=>by simpa[RV,Am.bJ] using hv
 | .list xs,v,h,hv=>by simp only[RV,Am.bJ] at hv ⊢;exact NN.mono h.toW4 _ _ hv
 | .agg cs,v,h,hv=>by
  simp only[RV,Am.bJ] at hv ⊢;obtain⟨vs,rfl,h1⟩:=hv;exact⟨vs,rfl,br.bJ cs vs (by simpa[AV.an] using h) h1⟩
 | .gf cs,v,h,hv=>by
  simp only[RV,Am.bJ] at hv ⊢;obtain⟨vs,rfl,h1⟩:=hv;exact⟨vs,rfl,br.bJ cs vs (by simpa[AV.an] using h) h1⟩
 | .slk l sz i n c,v,h,hv=>by
  simp only[RV,Am.bJ] at hv ⊢;obtain⟨a,h1,h2,h3,h4,h5⟩:=hv;refine⟨a,h1,h2,h3,h4,λhl=> ?_⟩;obtain⟨k1,k2,k3⟩:=h.lb l aad hl;rcases h5 k1 with h6|⟨g,S,e1,e2,e3,e4⟩
  ·exact .inl h6
  exact .inr ⟨g,S,k2.trans e1,e2,k3 g S e1 e3,e4⟩
 | .sl l sz i n,v,h,hv=>by
  simp only[RV,Am.bJ] at hv ⊢;obtain⟨a,c,h1,h2,h3,h4,h5⟩:=hv;refine⟨a,c,h1,h2,h3,h4,λhl=> ?_⟩;obtain⟨k1,k2,k3⟩:=h.lb l aad hl;rcases h5 k1 with h6|⟨g,S,e1,e2,e3,e4⟩
  ·exact .inl h6
  exact .inr ⟨g,S,k2.trans e1,e2,k3 g S e1 e3,e4⟩
 | .ptr l sz i j,v,h,hv=>by
  simp only[RV,Am.bJ] at hv ⊢;obtain⟨a,h1,h2⟩:=hv;refine⟨a,h1,λhl=> ?_⟩;obtain⟨k1,k2,k3⟩:=h.lb l aad hl;obtain⟨g,e1,e2⟩:=h2 k1;exact⟨g,k2.trans e1,e2⟩
 | .lptr cs,v,h,hv=>by
  simp only[RV,Am.bJ] at hv ⊢;obtain⟨b,o,h1,h2,h3,h4⟩:=hv;obtain⟨k1,k2,_⟩:=h.im b h2 h3;exact⟨b,o,h1,k1,k2,bK.mono h.toW4 cs b o h2 h3 h4⟩
 | .fn f fs cs,v,h,hv=>by
  simp only[RV,Am.bJ] at hv ⊢;obtain⟨vs,us,rfl,h1,h2⟩:=hv;exact⟨vs,us,rfl,br.bJ fs vs (h.sub (by simp[AV.an];intro l hl;exact .inl hl)) h1,br.bJ cs us (h.sub (by simp[AV.an];intro l hl;exact .inr hl)) h2⟩
 | .ifc t x,v,h,hv=>by
  simp only[RV,Am.bJ] at hv ⊢;obtain⟨u,rfl,h1⟩:=hv;exact⟨u,rfl,RV.bJ x u (by simpa[AV.an] using h) h1⟩
 | .mis es,v,h,hv=>by simp only[RV,Am.bJ] at hv ⊢;exact aok.mono h.toW4 hv
theorem br.bJ {w w':World} {β β':Lb->Option Nat} {H H':Hp} {I I':Nat->Prop} {ρ:Lb->Lb}:∀(xs:List AV) (vs:List Value),kW w w' β β' H H' I I' ρ (ah xs)->br w β H I (bu ρ xs) vs->br w' β' H' I' xs vs
 |[],_,_,hv=>by simpa[br,bu] using hv
 |x::r,vs,h,hv=>by
  simp only[br,bu] at hv ⊢;obtain⟨v,us,rfl,h1,h2⟩:=hv;exact⟨v,us,rfl,RV.bJ x v (h.sub (by simp[ah];intro l hl;exact .inl hl)) h1,br.bJ r us (h.sub (by simp[ah];intro l hl;exact .inr hl)) h2⟩
end
mutual
theorem RV.oL {w w':World} {β β':Lb->Option Nat} {H H':Hp} {I I':Nat->Prop} {ρ:Lb->Lb}:∀(x:AV) (v:Value),W4 w w' I I' ->
  (∀l∈x.an,live H' (ρ l)->live H l/\β' (ρ l)=β l/\∀g S,β l=some g->jl w g=some S->jl w' g=some S)->RV w β H I x v->RV w' β' H' I' (Am.bJ ρ x) v
 | .any,_,_,_,_=>by simp[RV,Am.bJ]
 | .un,_,_,_,hv=>by simpa[RV,Am.bJ] using hv
 | .bool _,_,_,_,hv=>by simpa[RV,Am.bJ] using hv
 | .int _ _,_,_,_,hv=>by simpa[RV,Am.bJ] using hv
 | .str _,_,_,_,hv=>by simpa[RV,Am.bJ] using hv
 | .nil0,_,_,_,hv=>by simpa[RV,Am.bJ] using hv
 | .jK,_,_,_,hv=>by simpa[RV,Am.bJ] using hv
 | .iT,_,_,_,hv=>by simpa[RV,Am.bJ] using hv
 | .list xs,v,h,_,hv=>by simp only[RV,Am.bJ] at hv ⊢;exact NN.mono h _ _ hv
 | .agg cs,v,h,hl,hv=>by
  simp only[RV,Am.bJ] at hv ⊢;obtain⟨vs,rfl,h1⟩:=hv;exact⟨vs,rfl,br.oL cs vs h (by simpa[AV.an] using hl) h1⟩
 | .gf cs,v,h,hl,hv=>by
  simp only[RV,Am.bJ] at hv ⊢;obtain⟨vs,rfl,h1⟩:=hv;exact⟨vs,rfl,br.oL cs vs h (by simpa[AV.an] using hl) h1⟩
 | .slk l sz i n c,v,h,hl,hv=>by
  simp only[RV,Am.bJ] at hv ⊢;obtain⟨a,h1,h2,h3,h4,h5⟩:=hv;refine⟨a,h1,h2,h3,h4,λhq=> ?_⟩;obtain⟨k1,k2,k3⟩:=hl l aad hq;rcases h5 k1 with h6|⟨g,S,e1,e2,e3,e4⟩
  ·exact .inl h6
  exact .inr ⟨g,S,k2.trans e1,e2,k3 g S e1 e3,e4⟩
 | .sl l sz i n,v,h,hl,hv=>by
  simp only[RV,Am.bJ] at hv ⊢;obtain⟨a,c,h1,h2,h3,h4,h5⟩:=hv;refine⟨a,c,h1,h2,h3,h4,λhq=> ?_⟩;obtain⟨k1,k2,k3⟩:=hl l aad hq;rcases h5 k1 with h6|⟨g,S,e1,e2,e3,e4⟩
  ·exact .inl h6
  exact .inr ⟨g,S,k2.trans e1,e2,k3 g S e1 e3,e4⟩
 | .ptr l sz i j,v,h,hl,hv=>by
  simp only[RV,Am.bJ] at hv ⊢;obtain⟨a,h1,h2⟩:=hv;refine⟨a,h1,λhq=> ?_⟩;obtain⟨k1,k2,k3⟩:=hl l aad hq;obtain⟨g,e1,e2⟩:=h2 k1;exact⟨g,k2.trans e1,e2⟩
 | .lptr cs,v,h,_,hv=>by
  simp only[RV,Am.bJ] at hv ⊢;obtain⟨b,o,h1,h2,h3,h4⟩:=hv;obtain⟨k1,k2,_⟩:=h.im b h2 h3;exact⟨b,o,h1,k1,k2,bK.mono h cs b o h2 h3 h4⟩
 | .fn f fs cs,v,h,hl,hv=>by
  simp only[RV,Am.bJ] at hv ⊢;obtain⟨vs,us,rfl,h1,h2⟩:=hv;exact⟨vs,us,rfl,br.oL fs vs h (λl q=>hl l (by simp[AV.an,q])) h1,br.oL cs us h (λl q=>hl l (by simp[AV.an,q])) h2⟩
 | .ifc t x,v,h,hl,hv=>by
  simp only[RV,Am.bJ] at hv ⊢;obtain⟨u,rfl,h1⟩:=hv;exact⟨u,rfl,RV.oL x u h (by simpa[AV.an] using hl) h1⟩
 | .mis es,v,h,_,hv=>by simp only[RV,Am.bJ] at hv ⊢;exact aok.mono h hv
theorem br.oL {w w':World} {β β':Lb->Option Nat} {H H':Hp} {I I':Nat->Prop} {ρ:Lb->Lb}:∀(xs:List AV) (vs:List Value),W4 w w' I I' ->
  (∀l∈ah xs,live H' (ρ l)->live H l/\β' (ρ l)=β l/\∀g S,β l=some g->jl w g=some S->jl w' g=some S)->br w β H I xs vs->br w' β' H' I' (bu ρ xs) vs
 |[],_,_,_,hv=>by simpa[br,bu] using hv
 |x::r,vs,h,hl,hv=>by
  simp only[br,bu] at hv ⊢;obtain⟨v,us,rfl,h1,h2⟩:=hv;exact⟨v,us,rfl,RV.oL x v h (λl q=>hl l (by simp[ah,q])) h1,br.oL r us h (λl q=>hl l (by simp[ah,q])) h2⟩
end
def aH.vk (hr:aH K β env H a w) (ρ:Lb->Lb) {env2:Env} {H2:Hp} (hE:∀n,env2 n= .any\/env n=bJ ρ (env2 n)) (hH:∀l r,H2 l= .live r->H (ρ l)= .live (dO ρ r))
   (CZ:∀l l',live H2 l->live H2 l'->ρ l=ρ l'->l=l') (hm:∀n,∀l∈(env2 n).an,H2 l≠ .unused) (Is:∀l r,H2 l= .live r->∀cs∈r.els,∀q∈ah cs,H2 q≠ .unused)
   (g_:∀l,live K.H0 l->H2 l≠ .unused/\(live H2 l->ρ l=l)) (Hr:∀l,live H2 l->l.fresh=true->(ρ l).fresh=true):aH K (λl=>β (ρ l)) env2 H2 a w:=by
 have aK:∀l,live H2 l->live H (ρ l):=λl ⟨r,h⟩=>⟨_,hH l r h⟩
 have cX:∀ls,kW w w β (λl=>β (ρ l)) H H2 (Im K β H) (Im K (λl=>β (ρ l)) H2) ρ ls:=λls=>
   { im := fun k hk hs => ⟨⟨hk.1,fun l hl => hk.2 (ρ l) (aK l hl)⟩,hs,rfl⟩
     lb:=λl _ hl=>⟨aK l hl,rfl,λ_ _ _ h=>h⟩}
 refine⟨hr.defers,hr.size,?_,?_,λl g hl hb=>hr.own (ρ l) g (aK l hl) hb,λl l' g h1 h2 g1 g2=>CZ l l' h1 h2 (hr.inj _ _ g (aK l h1) (aK l' h2) g1 g2),hm,Is,hr.frame,?_,?_,λl g hl hf hb=>hr.fr (ρ l) g (aK l hl) (Hr l hl hf) hb⟩
 · intro n
   rcases hE n with h|h
   · rw[h];simp[RV]
   exact RV.bJ _ _ (cX _) (by rw[<-h];exact hr.N8 n)
 · intro l r h
   obtain⟨h1,h2,h3⟩:=hr.rows (ρ l) _ (hH l r h)
   refine⟨h1,λcs bV=> ?_,?_⟩
   · have:=h2 (bu ρ cs) (V_ bV)
     rwa[lD] at this
   cases hb:β (ρ l) with
   |none=>simp only[hb] at h3 ⊢;simpa[dO] using h3
   |some g=>
   simp only[hb] at h3 ⊢
   obtain⟨cur,e,cap,e1,e2,e3,e4,e5⟩:=h3
   refine⟨cur,e,cap,e1,e2,e3,by simpa[dO] using e4,λi j cs x hi hj=> ?_⟩
   obtain⟨v,k1,k2⟩:=e5 i j (bu ρ cs) (bJ ρ x) (by simp[dO,hi]) (by rw[lC,hj];rfl)
   exact⟨v,k1,RV.bJ _ _ (cX _) k2⟩
 · intro g cs hg
   obtain⟨h1,h2,h3⟩:=hr.W5 g cs hg
   exact⟨((cX []).im g h1 h2).1,h2,da.mono (cX []).toW4 h1 h2 h3⟩
 intro l hl
 obtain⟨h1,h2⟩:=g_ l hl
 refine⟨h1,λh=> ?_⟩
 have e:=h2 h
 simp only[e]
 exact(hr.gA l hl).2 (e▸aK l h)
def ml (hr:aH K β env H a w) {f:Nat} {args:List AV} {vs:List Value} {res:AV} (hp:au K.P K.G f args res) (hv:br w β H (Im K β H) args vs)
   (J1:True):Calls K.P f vs.toArray w λe w'=>∃v,e= .returned v/\iU w w'/\RV w' β H (Im K β H) res v:=by
 obtain⟨h1,h2,h3⟩:=hp
 have ju:aH (b8 K.P K.G w (Im K β H) β Hp.none) β Env.any Hp.none lB w:=
   { defers := rfl,size := rfl
     N8:=λn=>by simp[Env.any,RV]
     rows:=λl r h=>by simp[Hp.none] at h
     own:=λl g ⟨r,h⟩=>by simp[Hp.none] at h
     inj:=λl l' g ⟨r,h⟩=>by simp[Hp.none] at h
     eI:=λn=>by simp[Env.any,AV.an]
     cH:=λl r h=>by simp[Hp.none] at h
     frame:=⟨rfl,rfl,rfl,PW _,λ_ _ _=>rfl,λ_ _ h=>h⟩
     gA:=λl ⟨r,h⟩=>by simp[b8,Hp.none] at h
     fr:=λl g ⟨r,h⟩=>by simp[Hp.none] at h
     W5:=λg cs hg=>by
       obtain⟨k1,k2,k3⟩:=hr.W5 g cs hg
       have kp:W4 w w (Im K β H) (Im (b8 K.P K.G w (Im K β H) β Hp.none) β Hp.none):=⟨λk hk hs=>⟨⟨.inl hk,λl ⟨r,h⟩=>by simp[Hp.none] at h⟩,hs,rfl⟩⟩
       exact⟨(kp.im g k1 k2).1,k2,da.mono kp k1 k2 k3⟩}
 have kp:ND w w β β H Hp.none (Im K β H) (Im (b8 K.P K.G w (Im K β H) β Hp.none) β Hp.none) (ah args):=
   { im := fun k hk hs => ⟨⟨.inl hk,fun l ⟨r,h⟩ => by simp [Hp.none] at h⟩,hs,rfl⟩
     lb:=λl hl=>by rw[h1] at hl;simp at hl}
 refine(h3 w (Im K β H) β vs ju (br.mono _ _ kp hv)).mono ?_
 rintro e w' ⟨v,x,H',β',rfl,rfl,k1,k2,_⟩
 have gw:iU w w':=by
   refine⟨k1.frame.os,k1.frame.tape,k1.frame.output,k1.frame.size,λk hk=>k1.frame.block k hk ?_⟩
   rintro⟨l,⟨r,h⟩,_⟩
   simp[Hp.none] at h
 refine⟨v,rfl,gw,RV.mono _ _ ?_ k2⟩
 refine {im:=λk hk hs=>⟨?_,hs,rfl⟩,lb:=λl hl=>by rw[h2] at hl;simp at hl}
 rcases hk.1 with h|h
 · exact h
 refine⟨.inr (U' hr.frame.size h),λl hl hb=> ?_⟩
 have:=hr.YR hl hb
 have h':w.heap.size<=k:=h
 omega
mutual
theorem RV.scalar {w w':World} {β β':Lb->Option Nat} {H H':Hp} {I I':Nat->Prop}:∀(x:AV) (v:Value),x.scalar=true->RV w β H I x v->RV w' β' H' I' x v
 | .bool _,_,_,h| .int _ _,_,_,h| .str _,_,_,h| .jK,_,_,h| .iT,_,_,h=>by simpa[RV] using h
 | .gf cs,v,hs,h=>by
  simp only[RV] at h ⊢;obtain⟨vs,h1,h2⟩:=h;exact⟨vs,h1,br.scalar cs vs (by simpa[AV.scalar] using hs) h2⟩
 | .any,_,hs,_| .un,_,hs,_| .list _,_,hs,_| .nil0,_,hs,_| .agg _,_,hs,_| .sl ..,_,hs,_| .slk ..,_,hs,_| .ptr ..,_,hs,_| .lptr _,_,hs,_| .fn ..,_,hs,_| .ifc ..,_,hs,_| .mis _,_,hs,_=>by simp[AV.scalar] at hs
theorem br.scalar {w w':World} {β β':Lb->Option Nat} {H H':Hp} {I I':Nat->Prop}:∀(xs:List AV) (vs:List Value),scalars xs=true->br w β H I xs vs->br w' β' H' I' xs vs
 |[],_,_,h=>by simpa[br] using h
 |x::r,vs,hs,h=>by
  simp only[scalars,QH] at hs;simp only[br] at h ⊢;obtain⟨v,us,h1,h2,h3⟩:=h;exact⟨v,us,h1,RV.scalar x v hs.1 h2,br.scalar r us hs.2 h3⟩
end
theorem qZ (hr:aH K β env H a w) {I:Nat->Prop} (hI:∀k,Im K β H k->I k) (hB:∀l g,live H l->β l=some g->I g):∀(args U6:List AV) (vs:List Value),iF (wV H) args U6->ah U6=[]->br w β H (Im K β H) args vs->br w β Hp.none I U6 vs
 |_,_,vs,.nil,_,hv=>by simpa[br] using hv
 |_,_,vs,@iF.cons _ _ _ x y args U6 KW ht,hl,hv=>by
  simp only[ah,mb] at hl;simp only[br] at hv ⊢;obtain⟨v,us,h1,h2,h3⟩:=hv;refine⟨v,us,h1,?_,qZ hr hI hB _ _ us ht hl.2 h3⟩;have hk:W4 w w (Im K β H) I:=⟨λk hk hs=>⟨hI k hk,hs,rfl⟩⟩;cases KW with
  |same=>
   exact RV.mono x v {im:=hk.im,lb:=λl hq=>by rw[hl.1] at hq;simp at hq} h2
  |row l sz i n xs hH qB FO=>
  simp only[RV] at h2;obtain⟨ad,c,rfl,g2,g3,g4,g5⟩:=h2;simp only[RV,NN];have hlen:((xs.drop i).take n).length=n:=aak
  rw[hlen];refine⟨ad,c,rfl,g2,g3,?_⟩;by_cases hn:n=0
  ·exact .inl hn
  right;rcases g5 ⟨_,hH⟩ with h6|⟨g,Sz,e1,e2,e3,e4⟩
  ·omega
  obtain⟨cur,e0,cap,k1,k2,k3,k4,k5⟩:=(hr.rows l _ hH).block e1;have gm:0<sz:=(hr.rows l _ hH).1;refine⟨g,i*sz,sz,e2,hB l g ⟨_,hH⟩ e1,(Rv.1 k1).1,gm,ajy _ _ _ (λk y hy=> ?_)⟩;have C0:xs[i+k]?=some y:=by
   rw[Rd] at hy;split at hy
   ·rwa[Ba] at hy
   simp at hy
  rw[eH];have qT:y.cells.length=sz:=by
   have:=(hr.rows l _ hH).2.1 (y.cells.map IV.dQ) (by
    simp only[aB];exact V_ (f:=λy:IV=>y.cells.map IV.dQ) (PX C0))
   simpa using this
  refine⟨qT.symm,Xz _ _ _ (λj z hz=> ?_)⟩;obtain⟨u,q1,q2⟩:=k5 (i+k) j (y.cells.map IV.dQ) z.dQ (by simp[aB,C0]) (by simp[hz]);refine⟨u,?_,pX hk (FO y (PX C0) z (PX hz)) q2⟩;rw[cell_of_row w g _ cur e0 (0,0) k1,<-q1];congr 1;rw[Sv]
def vl (hr:aH K β env H a w) {f:Nat} {args U6:List AV} {vs:List Value} {res:AV} (ha:iF (wV H) args U6) (hp:au K.P K.G f U6 res) (q_:res.scalar=true) (hv:br w β H (Im K β H) args vs) :
   Calls K.P f vs.toArray w λe w'=>∃v,e= .returned v/\iU w w'/\RV w' β H (Im K β H) res v:=by
 obtain⟨h1,h2,h3⟩:=hp
 obtain⟨A,hA⟩:∃A:Nat->Prop,A=λk=>Im K β H k\/∃l,live H l/\β l=some k:=⟨_,rfl⟩
 have Iu:∀k,A k->Im (b8 K.P K.G w A β Hp.none) β Hp.none k:=λk hk=>⟨.inl hk,λl ⟨r,h⟩=>by simp[Hp.none] at h⟩
 have ju:aH (b8 K.P K.G w A β Hp.none) β Env.any Hp.none lB w:=
   { defers := rfl,size := rfl
     N8:=λn=>by simp[Env.any,RV]
     rows:=λl r h=>by simp[Hp.none] at h
     own:=λl g ⟨r,h⟩=>by simp[Hp.none] at h
     inj:=λl l' g ⟨r,h⟩=>by simp[Hp.none] at h
     eI:=λn=>by simp[Env.any,AV.an]
     cH:=λl r h=>by simp[Hp.none] at h
     frame:=⟨rfl,rfl,rfl,PW _,λ_ _ _=>rfl,λ_ _ h=>h⟩
     gA:=λl ⟨r,h⟩=>by simp[b8,Hp.none] at h
     fr:=λl g ⟨r,h⟩=>by simp[Hp.none] at h
     W5:=λg cs hg=>by
       obtain⟨k1,k2,k3⟩:=hr.W5 g cs hg
       have kp:W4 w w (Im K β H) (Im (b8 K.P K.G w A β Hp.none) β Hp.none):=⟨λk hk hs=>⟨Iu k (by rw[hA];exact .inl hk),hs,rfl⟩⟩
       exact⟨(kp.im g k1 k2).1,k2,da.mono kp k1 k2 k3⟩}
 have wW:=qZ hr (I:=Im (b8 K.P K.G w A β Hp.none) β Hp.none) (λk hk=>Iu k (by rw[hA];exact .inl hk)) (λl g hl hg=>Iu g (by rw[hA];exact .inr ⟨l,hl,hg⟩)) args U6 vs ha h1 hv
 refine(h3 w A β vs ju wW).mono ?_
 rintro e w' ⟨v,x,H',β',rfl,rfl,k1,k2,_⟩
 have gw:iU w w':=by
   refine⟨k1.frame.os,k1.frame.tape,k1.frame.output,k1.frame.size,λk hk=>k1.frame.block k hk ?_⟩
   rintro⟨l,⟨r,h⟩,_⟩
   simp[Hp.none] at h
 exact⟨v,rfl,gw,RV.scalar _ _ q_ k2⟩
open Classical in
def vm (hr:aH K β env H a w) {f:Nat} {U6:List AV} {vs:List Value} {iu:Hp} {Q:AV→Hp→Prop} {ρ:Lb→Lb} (hs:ey K.P K.G f U6 iu Q)
   (hH:∀l r,iu l= .live r→H (ρ l)= .live (dO ρ r)) (Mc:∀l,iu l≠ .unused→live iu l)
   (CZ:∀l l',live iu l→live iu l'→ρ l=ρ l'→l=l') (qC:∀l∈ah U6,iu l≠ .unused) (B2:∀l,live iu l→l.fresh=false) (Is:∀l r,iu l= .live r→∀cs∈r.els,∀q∈ah cs,iu q≠ .unused)
   (hv:br w β H (Im K β H) (bu ρ U6) vs):Calls K.P f vs.toArray w fun e w'=>∃v x H',e= .returned v∧Q x H' ∧
     ∀(ρ':Lb→Lb) (kK:Hp),(∀l,live iu l→live H' l→ρ' l=ρ l) →
     (∀q r,kK q= .live r→(H q= .live r∧∀l,live iu l→ρ l≠q)∨∃l r',H' l= .live r'∧ρ' l=q∧r=dO ρ' r') →
     (∀l l',live H' l→live H' l'→ρ' l=ρ' l'→l=l') →
     (∀q,H q≠ .unused→kK q≠ .unused)→(∀l∈x.an,kK (ρ' l)≠ .unused) →
     (∀l r',H' l= .live r'→∀cs∈r'.els,∀q∈ah cs,kK (ρ' q)≠ .unused) →
     (∀l,live H' l→live iu l∨(H (ρ' l)= .unused∧((ρ' l).fresh=true→l.fresh=true∨∀z,live iu z→(ρ z).fresh=true))) →
     (∀l,(l∈x.an∨∃l1 r1 cs,H' l1= .live r1∧cs∈r1.els∧l∈ah cs)→live kK (ρ' l)→live H' l) →
     ∃jZ,aH K jZ env kK a w'∧RV w' jZ kK (Im K jZ kK) (bJ ρ' x) v:=by
 have aK:∀l,live iu l→live H (ρ l):=fun l ⟨r,h⟩=>⟨_,hH l r h⟩
 have Hs:∀ls,kW w w β (fun l=>β (ρ l)) H iu (Im K β H) (Im (b8 K.P K.G w (Im K β H) (fun l=>β (ρ l)) iu) (fun l=>β (ρ l)) iu) ρ ls:=fun ls=>
   { im := fun k hk hs => ⟨⟨.inl hk,fun l hl => hk.2 (ρ l) (aK l hl)⟩,hs,rfl⟩
     lb:=fun l _ hl=>⟨aK l hl,rfl,fun _ _ _ h=>h⟩}
 have ju:aH (b8 K.P K.G w (Im K β H) (fun l=>β (ρ l)) iu) (fun l=>β (ρ l)) Env.any iu lB w:=
   { defers := rfl,size := rfl
     N8:=fun n=>by simp[Env.any,RV]
     rows:=fun l r h=>by
       obtain⟨h1,h2,h3⟩:=hr.rows (ρ l) _ (hH l r h)
       refine⟨h1,fun cs bV=> ?_,?_⟩
       · have:=h2 (bu ρ cs) (List.mem_map_of_mem bV)
         rwa[lD] at this
       cases hb:β (ρ l) with
       |none=>simp only[hb] at h3 ⊢;simpa[dO] using h3
       |some g=>
       simp only[hb] at h3 ⊢
       obtain⟨cur,e,cap,e1,e2,e3,e4,e5⟩:=h3
       refine⟨cur,e,cap,e1,e2,e3,by simpa[dO] using e4,fun i j cs x hi hj=> ?_⟩
       obtain⟨v,k1,k2⟩:=e5 i j (bu ρ cs) (bJ ρ x) (by simp[dO,hi]) (by rw[lC,hj];rfl)
       exact⟨v,k1,RV.bJ _ _ (Hs _) k2⟩
     own:=fun l g hl hb=> .inl ⟨l,hl,hb⟩
     inj:=fun l l' g h1 h2 g1 g2=>CZ l l' h1 h2 (hr.inj _ _ g (aK l h1) (aK l' h2) g1 g2)
     eI:=fun n=>by simp[Env.any,AV.an]
     cH:=Is
     frame:=⟨rfl,rfl,rfl,Nat.le_refl _,fun _ _ _=>rfl,fun _ _ h=>h⟩
     W5:=fun g cs hg=>by
       obtain⟨k1,k2,k3⟩:=hr.W5 g cs hg
       exact⟨((Hs []).im g k1 k2).1,k2,da.mono (Hs []).toW4 k1 k2 k3⟩
     gA:=fun l hl=>⟨by obtain⟨r,h⟩:=hl;simp only[b8] at h;simp[h],fun _=>rfl⟩
     fr:=fun l g hl hf=>by rw[B2 l hl] at hf;cases hf}
 refine(hs w (Im K β H) (fun l=>β (ρ l)) vs ju (br.bJ _ _ (Hs _) hv)).mono ?_
 rintro e w' ⟨v,x,H',β',rfl,hq,hc,wT,Md⟩
 refine⟨v,x,H',rfl,hq,?_⟩
 intro ρ' kK p1 p2 p3 p4 p5 p6 p7 p8
 let jZ:Lb→Option Nat:=fun q=>if h:∃l,live H' l∧ρ' l=q then β' (Classical.choose h) else β q
 have qE:∀l,live H' l→jZ (ρ' l)=β' l:=by
   intro l hl
   have h:∃l',live H' l'∧ρ' l'=ρ' l:=⟨l,hl,rfl⟩
   have bV:=Classical.choose_spec h
   have e:Classical.choose h=l:=p3 _ _ bV.1 hl bV.2
   show(if h:∃l',live H' l'∧ρ' l'=ρ' l then β' (Classical.choose h) else β (ρ' l))=β' l
   rw[dif_pos h,e]
 have nL:∀q,live H q→(∀l,live iu l→ρ l≠q)→jZ q=β q:=by
   intro q oX FQ
   have h:¬∃l,live H' l∧ρ' l=q:=by
     rintro⟨l,hl,rfl⟩
     rcases p7 l hl with h|⟨h,_⟩
     · exact FQ l h (p1 l h hl).symm
     obtain⟨r,h'⟩:=oX;rw[h] at h';cases h'
   show(if h:∃l,live H' l∧ρ' l=q then β' (Classical.choose h) else β q)=β q
   rw[dif_neg h]
 have pZ:∀q,live kK q→(live H q∧(∀l,live iu l→ρ l≠q)∧jZ q=β q)∨∃l,live H' l∧ρ' l=q∧jZ q=β' l:=by
   rintro q ⟨r,h⟩
   rcases p2 q r h with⟨h1,h2⟩|⟨l,r',h1,rfl,_⟩
   · exact .inl ⟨⟨r,h1⟩,h2,nL q ⟨r,h1⟩ h2⟩
   exact .inr ⟨l,⟨r',h1⟩,rfl,qE l ⟨r',h1⟩⟩
 have ra:∀l g,live H' l→β' l=some g→(∃l0,live iu l0∧β (ρ l0)=some g)∨w.heap.size≤g:=by
   intro l g hl hg
   rcases hc.own l g hl hg with h|h
   · exact .inl h
   exact .inr h
 have B3:∀l,live iu l→live H' l→β' l=β (ρ l):=fun l h1 h2=>(hc.gA l h1).2 h2
 have j0:∀k,k<w.heap.size→(∀l,live iu l→β (ρ l)≠some k)→w'.heap[k]?=w.heap[k]?:=by
   intro k hk FQ
   refine hc.frame.block k hk ?_
   rintro⟨l,hl,hb⟩
   exact FQ l hl hb
 have EN:∀k,Im K β H k→k<w.heap.size→Im K jZ kK k∧k<w'.heap.size∧w'.heap[k]?=w.heap[k]?:=by
   intro k hk hks
   refine⟨⟨hk.1,fun q oX hb=> ?_⟩,Nat.lt_of_lt_of_le hks hc.frame.size,j0 k hks (fun l hl=>hk.2 _ (aK l hl))⟩
   rcases pZ q oX with⟨h1,h2,h3⟩|⟨l,h1,h2,h3⟩
   · rw[h3] at hb;exact hk.2 q h1 hb
   rw[h3] at hb
   rcases ra l k h1 hb with⟨l0,h4,h5⟩|h4
   · exact hk.2 _ (aK l0 h4) h5
   omega
 have J2:∀q,H q≠ .unused→live kK q→live H q∧jZ q=β q∧∀g S,β q=some g→jl w g=some S→jl w' g=some S:=by
   intro q hu oX
   refine⟨?_,?_,fun g S _ h=>hc.frame.bs g S h⟩
   · rcases pZ q oX with⟨h1,h2,h3⟩|⟨l,h1,h2,h3⟩
     · exact h1
     rcases p7 l h1 with h|⟨h,_⟩
     · have e:=p1 l h h1;rw[←h2,e];exact aK l h
     rw[h2] at h;exact absurd h hu
   rcases pZ q oX with⟨h1,h2,h3⟩|⟨l,h1,h2,h3⟩
   · exact h3
   rcases p7 l h1 with h|⟨h,_⟩
   · rw[h3,B3 l h h1,←h2,p1 l h h1]
   rw[h2] at h;exact absurd h hu
 have cX:∀ls,(∀q∈ls,H q≠ .unused)→ND w w' β jZ H kK (Im K β H) (Im K jZ kK) ls:=fun ls lr=>
   {im:=EN,lb:=fun q wX wx=>J2 q (lr q wX) wx}
 have FR:W4 w' w' (Im (b8 K.P K.G w (Im K β H) (fun l=>β (ρ l)) iu) β' H') (Im K jZ kK):=⟨by
   intro k hk hks
   refine⟨⟨?_,fun q oX hb=> ?_⟩,hks,rfl⟩
   · rcases hk.1 with h|h
     · exact h.1
     exact .inr (Nat.le_trans hr.frame.size h)
   rcases pZ q oX with⟨h1,h2,h3⟩|⟨l,h1,h2,h3⟩
   · rw[h3] at hb
     rcases hk.1 with h|h
     · exact h.2 q h1 hb
     have:=hr.YR h1 hb
     have h':w.heap.size≤k:=h
     omega
   rw[h3] at hb
   exact hk.2 l h1 hb⟩
 have qT:∀l,(l∈x.an∨∃l1 r1 cs,H' l1= .live r1∧cs∈r1.els∧l∈ah cs)→live kK (ρ' l)→live H' l∧jZ (ρ' l)=β' l∧∀g S,β' l=some g→jl w' g=some S→jl w' g=some S:=by
   intro l h1 h2
   have h3:=p8 l h1 h2
   exact⟨h3,qE l h3,fun _ _ _ h=>h⟩
 refine⟨jZ,⟨hr.defers,hr.size,fun n=>RV.mono _ _ (cX _ (hr.eI n)) (hr.N8 n),?_,?_,?_,fun n q oX=>p4 q (hr.eI n q oX),?_,?_,?_,?_,?_⟩,RV.oL x v FR (fun l hl=>qT l (.inl hl)) wT⟩
 · intro q r Iv
   rcases p2 q r Iv with⟨h1,h2⟩|⟨l,r',h1,rfl,rfl⟩
   · obtain⟨e1,e2,e3⟩:=hr.rows q r h1
     refine⟨e1,e2,?_⟩
     rw[nL q ⟨r,h1⟩ h2]
     cases hb:β q with
     |none=>simpa only[hb] using e3
     |some g=>
     simp only[hb] at e3 ⊢
     obtain⟨cur,e,cap,f1,f2,f3,f4,f5⟩:=e3
     have hg:g<w.heap.size:=(Array.getElem?_eq_some_iff.1 f1).1
     refine⟨cur,e,cap,(j0 g hg (fun l hl KX=>h2 l hl (hr.inj _ _ g (aK l hl) ⟨r,h1⟩ KX hb))).trans f1,f2,f3,f4,fun i j cs y hi hj=> ?_⟩
     obtain⟨u,k1,k2⟩:=f5 i j cs y hi hj
     exact⟨u,k1,RV.mono _ _ (cX _ (fun p hp=>hr.cH q r h1 cs (List.mem_of_getElem? hi) p (cW _ _ _ hj p hp))) k2⟩
   obtain⟨e1,e2,e3⟩:=hc.rows l r' h1
   refine⟨e1,?_,?_⟩
   · intro cs bV
     simp only[dO,List.mem_map] at bV
     obtain⟨wy,h0,rfl⟩:=bV
     rw[lD];exact e2 wy h0
   rw[qE l ⟨r',h1⟩]
   cases hb:β' l with
   |none=>simp only[hb] at e3;simp[dO,e3]
   |some g=>
   simp only[hb] at e3 ⊢
   obtain⟨cur,e,cap,f1,f2,f3,f4,f5⟩:=e3
   refine⟨cur,e,cap,f1,f2,f3,by simpa[dO] using f4,fun i j cs y hi hj=> ?_⟩
   simp only[dO,List.getElem?_map,Option.map_eq_some_iff] at hi
   obtain⟨wy,hi,rfl⟩:=hi
   rw[lC,Option.map_eq_some_iff] at hj
   obtain⟨y0,hj,rfl⟩:=hj
   obtain⟨u,k1,k2⟩:=f5 i j wy y0 hi hj
   exact⟨u,k1,RV.oL _ _ FR (fun p hp=>qT p (.inr ⟨l,r',wy,h1,List.mem_of_getElem? hi,cW _ _ _ hj p hp⟩)) k2⟩
 · intro q g oX hb
   rcases pZ q oX with⟨h1,h2,h3⟩|⟨l,h1,h2,h3⟩
   · rw[h3] at hb;exact hr.own q g h1 hb
   rw[h3] at hb
   rcases ra l g h1 hb with⟨l0,h4,h5⟩|h4
   · exact hr.own _ g (aK l0 h4) h5
   exact .inr (Nat.le_trans hr.frame.size h4)
 · intro q1 q2 g wX wx g1 g2
   rcases pZ q1 wX with⟨h1,h2,h3⟩|⟨l,h1,h2,h3⟩
   · rw[h3] at g1
     rcases pZ q2 wx with⟨k1,k2,k3⟩|⟨l',k1,k2,k3⟩
     · rw[k3] at g2;exact hr.inj q1 q2 g h1 k1 g1 g2
     rw[k3] at g2
     rcases ra l' g k1 g2 with⟨l0,h4,h5⟩|h4
     · exact absurd (hr.inj _ _ g (aK l0 h4) h1 h5 g1) (h2 l0 h4)
     have:=hr.YR h1 g1;omega
   rw[h3] at g1
   rcases pZ q2 wx with⟨k1,k2,k3⟩|⟨l',k1,k2,k3⟩
   · rw[k3] at g2
     rcases ra l g h1 g1 with⟨l0,h4,h5⟩|h4
     · exact absurd (hr.inj _ _ g (aK l0 h4) k1 h5 g2) (k2 l0 h4)
     have:=hr.YR k1 g2;omega
   rw[k3] at g2
   rw[←h2,←k2,hc.inj l l' g h1 k1 g1 g2]
 · intro q r Iv cs bV p hp
   rcases p2 q r Iv with⟨h1,h2⟩|⟨l,r',h1,rfl,rfl⟩
   · exact p4 p (hr.cH q r h1 cs bV p hp)
   simp only[dO,List.mem_map] at bV
   obtain⟨wy,h0,rfl⟩:=bV
   rw[iZ,List.mem_map] at hp
   obtain⟨p0,KY,rfl⟩:=hp
   exact p6 l r' h1 wy h0 p0 KY
 · refine⟨hc.frame.os.trans hr.frame.os,hc.frame.tape.trans hr.frame.tape,hc.frame.output.trans hr.frame.output,Nat.le_trans hr.frame.size hc.frame.size,fun k hk hd=> ?_,fun k S hS=>hc.frame.bs k S (hr.frame.bs k S hS)⟩
   refine(j0 k (Nat.lt_of_lt_of_le hk hr.frame.size) (fun l hl hb=> ?_)).trans (hr.frame.block k hk hd)
   rcases hr.own _ k (aK l hl) hb with h|h
   · exact hd h
   omega
 · intro g cs hg
   obtain⟨h1,h2,h3⟩:=hr.W5 g cs hg
   obtain⟨k1,k2,k3⟩:=EN g h1 h2
   exact⟨k1,k2,da.mono (cX [] (by simp)).toW4 h1 h2 h3⟩
 · intro l hl
   obtain⟨h1,h2⟩:=hr.gA l hl
   refine⟨p4 l h1,fun h=> ?_⟩
   obtain⟨k1,k2,_⟩:=J2 l h1 h
   rw[k2];exact h2 k1
 intro q g oX hf hb
 rcases pZ q oX with⟨h1,h2,h3⟩|⟨l,h1,h2,h3⟩
 · rw[h3] at hb;exact hr.fr q g h1 hf hb
 rw[h3] at hb
 rcases p7 l h1 with h|⟨h,h'⟩
 · rw[B3 l h h1] at hb
   have e:ρ l=q:=by rw[←h2,p1 l h h1]
   rw[e] at hb
   exact hr.fr q g (e▸aK l h) hf hb
 rcases h' (by rw[h2];exact hf) with Iw|Iw
 · exact Nat.le_trans hr.frame.size (hc.fr l g h1 Iw hb)
 rcases ra l g h1 hb with⟨l0,h4,h5⟩|h4
 · exact hr.fr _ g (aK l0 h4) (Iw l0 h4) h5
 exact Nat.le_trans hr.frame.size h4
end
end Go.Am

namespace Go.Am
open Go Go.RowKit
section
variable {K:Kx} {β:Lb->Option Nat} {env:Env} {H:Hp} {a:Act} {w:World}
def P0 (K:Kx) (env:Env) (d:Option Nat) (k:AV->Hp->Prop) (a':Act) (w':World):Prop:=∃x H',k x H'/\∃β',aH K β' (cV env d x) H' a' w'
def dz (hr:aH K β env H a w) {o:Oper} (hd:∀n,o.dst=some n->n<K.N) {x:AV} {k:AV->Hp->Prop} {Q:Exit->Act->World->Prop} (h:aJ K β H a w o x) (hk:k x H) :
  o.wp K.P a w (P0 K env o.dst k) Q:=by
 obtain⟨v,w',h1,h2,h3,h4⟩:=h;unfold Oper.wp;rw[h1];exact⟨x,H,hk,β,hr.step h2 hd (λ_=>h3) (λ_=>h4)⟩
def dA {o:Oper} {x:AV} {H':Hp} {k:AV->Hp->Prop} {Q:Exit->Act->World->Prop} (h:iq K env a w o o.dst x H') (hk:k x H') :
  o.wp K.P a w (P0 K env o.dst k) Q:=by
 obtain⟨nx,w',β',v,h1,h2,h3⟩:=h;unfold Oper.wp;rw[h1];rcases h2 with rfl|⟨rfl,rfl⟩
 ·exact⟨x,H',hk,β',h3⟩
 exact⟨x,H',hk,β',h3⟩
def uf (hr:aH K β env H a w) {o:Oper} (hd:∀n,o.dst=some n->n<K.N) {f:Nat} {args:List AV} {vs:List Value} {k:AV->Hp->Prop} {Q:Exit->Act->World->Prop}
  (gY:(execOp a.eval o).run K.P w= .ok (.enter f vs.toArray) w) (hv:br w β H (Im K β H) args vs) (hc:jJ ⟨K.P,K.G,K.N⟩ f args H k):o.wp K.P a w (P0 K env o.dst k) Q:=by
 unfold Oper.wp;rw[gY];rcases hc with⟨res,hp,hk⟩|⟨U6,res,ha,hp,q_,hk⟩|⟨ρ,iu,U6,Q',h1,rfl,h3,h4,h5,h6,KZ,h7,h8⟩
 ·refine(ml hr hp hv trivial).mono ?_;rintro e w' ⟨v,rfl,gw,hx⟩;exact⟨res,H,hk,β,hr.step gw hd (λ_=>hx) (λ_ l hl=>by rw[hp.2.1] at hl;simp at hl)⟩
 ·refine(vl hr ha hp q_ hv).mono ?_;rintro e w' ⟨v,rfl,gw,hx⟩;exact⟨res,H,hk,β,hr.step gw hd (λ_=>hx) (λ_ l hl=>by rw[hp.2.1] at hl;simp at hl)⟩
 refine(vm hr h1 h3 h4 h5 h6 KZ h7 hv).mono ?_;rintro e w' ⟨v,x,H',rfl,hq,dN⟩;obtain⟨ρ',kK,p1,p2,p3,p4,p5,p6,p7,p8,hk⟩:=h8 x H' hq;obtain⟨jZ,q1,q2⟩:=dN ρ' kK p1 p2 p3 p4 p5 p6 p7 p8;exact⟨_,kK,hk,jZ,q1.step (Below.refl _ _) hd (λ_=>q2) (λ_ l hl=>by
  rw[pY,pb] at hl;obtain⟨l0,h0,rfl⟩:=hl;exact p5 l0 h0)⟩
def ba {α γ:Type} {x:Option α} {f:α->Option γ} {y:γ} (h:x.bind f=some y):∃a,x=some a/\f a=some y:=yV.1 h
def rl {α γ:Type} {x:Option α} {f:α->γ} {y:γ} (h:x.map f=some y):∃a,x=some a/\f a=y:=jF.1 h
def wY {i:U7} {x:O} (h:i.fV= .box x):i= .box x\/i= .oC x:=by
 cases i<;>simp[U7.fV] at h<;>simp[h]
def wZ {i:U7} {s x:O} {sz b:Nat} (h:i.fV= .app s x sz b):i= .app s x sz b\/i= .oE s x sz b:=by
 cases i<;>simp[U7.fV] at h<;>simp[h]
def vn {i:U7} {n sz:Nat} {z:List AV} {ps:List (Nat×O)} (h:i.fV= .lits n sz z ps):i= .lits n sz z ps\/(n=1/\i= .gG sz z ps):=by
 cases i<;>simp[U7.fV] at h<;>simp[h]
def U7.C1:U7->Bool
 | .box _| .app ..| .lits ..=>true
 |_=>false
def cM {i j:U7} (h:i.fV=j) (hj:j.C1=false):i=j:=by
 subst h;cases i<;>first|rfl|(simp[U7.fV,U7.C1] at hj)
def U7.plain:U7->Bool
 | .load ..| .box _| .new _| .store ..| .app ..| .call ..| .fM ..| .tU ..| .qL ..| .BJ ..| .cap ..| .si ..| .kE ..| .pP ..| .gG ..=>false
 |_=>true
def i_ {S:St} {d:Option Nat} {i:U7} {k:AV->Hp->Prop} (h:i.plain=true) (ha:bg S d i env H k):∃x,c6 i env=some x/\k x H:=by
 cases i<;>simp[U7.plain] at h<;>exact ha
def oM (d:Nat) {P:Program} {t e:TypeId} (ht:P.underlying t=some (.slice e)) (a:Option Addr) (n c:Nat) :
  (Op.equalIn (d+1) t (.slice a n c) (.slice none 0 0)).run P w= .ok a.isNone w:=by
 cases a<;>simp[Op.equalIn,run_underlying ht]
def FT (hr:aH K β env H a w) {o:Oper} {op:BinOp} {t t2 e:TypeId} {x y:Operand} {x':O} {n:Bool} (ho:o.op= .binOp op t x y t2) (hn:jG op=some n)
  (ht:K.P.underlying t=some (.slice e)) (hc:sG y=true) (hx:co K.G x=some x') {bs:List Bool} (hz:qY (ev env x')=some bs):∃b,b∈bs/\aJ K β H a w o (.bool (n ^^ b)):=by
 have h:=hr.ev hx;have hy:a.eval y= .slice none 0 0:=by
  unfold sG at hc;split at hc
  ·rfl
  cases hc
 have key:∀(ad:Option Addr) (m c:Nat),a.eval x= .slice ad m c->ad.isNone∈bs->∃b,b∈bs/\aJ K β H a w o (.bool (n ^^ b)):=by
  intro ad m c h3 h4;refine⟨ad.isNone,h4,aJ.same (v:= .bool (n ^^ ad.isNone)) ?_ aaG aad⟩;have h5:(Op.equal t (.slice ad m c) (.slice none 0 0)).run K.P w= .ok ad.isNone w:=oM 9999 ht ad m c;rcases iW hn with⟨rfl,rfl⟩|⟨rfl,rfl⟩
  ·simp[execOp,ho,h3,hy,eqGuard,binOp,h5]
  simp[execOp,ho,h3,hy,eqGuard,binOp,h5]
 have zN:∀b:Bool,b∈[true,false]:=by intro b;cases b<;>simp
 cases e1:ev env x'<;>rw[e1] at h hz
 case list xs=>
  simp only[RV,NN] at h;obtain⟨ad,c,h1,_,_,h4⟩:=h;cases xs with
  |nil=>simp only[qY,di] at hz;subst hz;exact key _ _ _ h1 (zN _)
  |cons y0 r=>
  simp only[qY,di] at hz;subst hz;rcases h4 with h4|⟨b,o',sz,h4,_⟩
  ·simp at h4
  refine key _ _ _ h1 ?_;rw[h4];simp
 case nil0=>
  simp only[RV] at h;obtain⟨ad,h1⟩:=h;simp only[qY,di] at hz;subst hz;exact key _ _ _ h1 (zN _)
 case slk l sz i m c=>
  simp only[RV] at h;obtain⟨ad,h1,h2,_,h4,_⟩:=h;simp only[qY,di] at hz;subst hz;refine key _ _ _ h1 ?_;by_cases hm:0<m
  ·rw[P8 hm];have:=h4 sf;cases ad with
   |none=>simp at this
   |some q=>simp
  rw[Ev hm];exact zN _
 case sl l sz i m=>
  simp only[RV] at h;obtain⟨ad,c,h1,_,_,h4,_⟩:=h;simp only[qY,di] at hz;subst hz;refine key _ _ _ h1 ?_;by_cases hm:0<m
  ·rw[P8 hm];have:=h4 hm;cases ad with
   |none=>simp at this
   |some q=>simp
  rw[Ev hm];exact zN _
 all_goals simp[qY] at hz
set_option maxHeartbeats 1000000 in
def ab6 (hr : aH K β env H a w) {o : Oper} {i : U7} {k : AV -> Hp -> Prop} {Q : Exit -> Act -> World -> Prop} (hd : ∀ n,o.dst = some n -> n < K.N) (hc : wG K.P K.G o = some i.fV)
   (ha : bg ⟨K.P,K.G,K.N⟩ o.dst i env H k) : o.wp K.P a w (P0 K env o.dst k) Q := by
 have plain : ∀ j : U7,i.fV = j -> j.C1 = false -> j.plain = true -> (∀ x,c6 j env = some x -> aJ K β H a w o x) -> o.wp K.P a w (P0 K env o.dst k) Q := by
   intro j hj K0 hp hs
   have e := cM hj K0
   subst e
   obtain ⟨x,h1,h2⟩ := i_ hp ha
   exact dz hr hd (hs x h1) h2
 unfold wG at hc
 split at hc
 · rename_i x ho
   obtain ⟨y,h1,h2⟩ := rl hc
   exact plain _ h2.symm rfl rfl (λz hz => by simp only [c6,Option.some.injEq] at hz; subst hz; exact BM hr (.inl ho) h1)
 · rename_i x ho
   obtain ⟨y,h1,h2⟩ := rl hc
   exact plain _ h2.symm rfl rfl (λz hz => by simp only [c6,Option.some.injEq] at hz; subst hz; exact BM hr (.inr ho) h1)
 · rename_i c x y ho
   obtain ⟨c',h1,hc⟩ := ba hc
   obtain ⟨x',h2,hc⟩ := ba hc
   obtain ⟨y',h3,h4⟩ := rl hc
   refine plain _ h4.symm rfl rfl (λz hz => ?_)
   simp only [c6] at hz
   split at hz
   · rename_i t ht
     simp only [Option.some.injEq] at hz; subst hz
     exact Ct hr ho h1 h2 h3 ht
   · simp at hz
 · rename_i t x f ho
   split at hc
   · rename_i fs ht
     obtain ⟨fd,h1,hc⟩ := ba hc
     obtain ⟨s,h2,hc⟩ := ba hc
     split at hc
     · simp at hc
     · rename_i wo
       obtain ⟨x',h3,h4⟩ := rl hc
       exact plain _ h4.symm rfl rfl (λz hz => Fa hr ho ht h1 h2 wo h3 hz)
   · simp at hc
 · rename_i t x j ho
   split at hc
   · rename_i e ht
     obtain ⟨s,h2,hc⟩ := ba hc
     obtain ⟨x',h3,hc⟩ := ba hc
     obtain ⟨j',h4,h5⟩ := rl hc
     exact plain _ h5.symm rfl rfl (λz hz => Fc hr ho ht h2 h3 h4 hz)
   · rename_i n e ht
     obtain ⟨s,h2,hc⟩ := ba hc
     obtain ⟨x',h3,hc⟩ := ba hc
     obtain ⟨j',h4,h5⟩ := rl hc
     exact plain _ h5.symm rfl rfl (λz hz => Fb hr ho ht h2 h3 h4 hz)
   · simp at hc
 · rename_i t x j ho
   split at hc
   · rename_i ht
     obtain ⟨x',h3,hc⟩ := ba hc
     obtain ⟨j',h4,h5⟩ := rl hc
     exact plain _ h5.symm rfl rfl (λz hz => Fe hr ho ht h3 h4 hz)
   · simp at hc
 · rename_i t x lo hi mx ho
   split at hc
   · rename_i e ht
     obtain ⟨s,h2,hc⟩ := ba hc
     obtain ⟨x',h3,hc⟩ := ba hc
     obtain ⟨pR,h4,hc⟩ := ba hc
     obtain ⟨ed,h5,hc⟩ := ba hc
     obtain ⟨mx',h6,h7⟩ := rl hc
     exact plain _ h7.symm rfl rfl (λz hz => Fg hr ho ht h2 h3 h4 h5 h6 hz)
   · rename_i ht
     split at hc
     · simp at hc
     · rename_i sK
       obtain ⟨x',h3,hc⟩ := ba hc
       obtain ⟨pR,h4,hc⟩ := ba hc
       obtain ⟨ed,h5,h7⟩ := rl hc
       have : mx = none := by cases mx <;> simp_all
       subst this
       exact plain _ h7.symm rfl rfl (λz hz => Cz hr ho ht h3 h4 h5 hz)
   · rename_i n e ht
     split at hc
     · rename_i B4
       simp only [Bool.and_eq_true,Option.isNone_iff_eq_none] at B4
       obtain ⟨⟨rfl,rfl⟩,rfl⟩ := B4
       obtain ⟨s,h2,hc⟩ := ba hc
       split at hc
       · simp at hc
       · rename_i wo
         obtain ⟨x',h3,h5⟩ := rl hc
         exact plain _ h5.symm rfl rfl (λz hz => CW hr ho ht h2 wo h3 hz)
     · simp at hc
   · simp at hc
 · -- makeSlice
   rename_i t n c ho
   split at hc
   · rename_i e ht
     split at hc
     · rename_i ti su
       split at hc
       · rename_i z hz
         split at hc
         · rename_i cP
           obtain ⟨zs,h1,hc⟩ := ba hc
           obtain ⟨n',h2,hc⟩ := ba hc
           obtain ⟨c',h3,h5⟩ := rl hc
           have e5 := cM h5.symm rfl
           subst e5
           obtain ⟨q,g1,y,H',g2,g3⟩ := ha
           exact dA (by rw [g1]; exact FM hr (hd q g1) ho ht su hz cP.1 cP.2.1 cP.2.2 h1 h2 h3 g2) g3
         · simp at hc
       · simp at hc
     · simp at hc
   · simp at hc
 · rename_i op t x y t2 ho
   split at hc
   · obtain ⟨x',h3,hc⟩ := ba hc
     obtain ⟨y',h4,h5⟩ := rl hc
     exact plain _ h5.symm rfl rfl (λz hz => BN hr ho h3 h4 hz)
   · obtain ⟨x',h3,hc⟩ := ba hc
     obtain ⟨y',h4,h5⟩ := rl hc
     exact plain _ h5.symm rfl rfl (λz hz => BN hr ho h3 h4 hz)
   · rename_i ht
     obtain ⟨n,h2,hc⟩ := ba hc
     obtain ⟨x',h3,hc⟩ := ba hc
     obtain ⟨y',h4,h5⟩ := rl hc
     exact plain _ h5.symm rfl rfl (λz hz => Fv hr ho h2 ht h3 h4 hz)
   · rename_i e ht
     obtain ⟨n,h2,hc⟩ := ba hc
     obtain ⟨x',h3,hc⟩ := ba hc
     obtain ⟨y',h4,h5⟩ := rl hc
     exact plain _ h5.symm rfl rfl (λz hz => Fw hr ho h2 ht h3 h4 hz)
   · rename_i ms ht
     split at hc
     · rename_i s4
       obtain ⟨n,h2,hc⟩ := ba hc
       obtain ⟨x',h3,hc⟩ := ba hc
       obtain ⟨y',h4,h5⟩ := rl hc
       exact plain _ h5.symm rfl rfl (λz hz => Fx hr ho h2 ht s4 h3 hz)
     · simp at hc
   · rename_i fs ht
     obtain ⟨ks,h1,hc⟩ := ba hc
     obtain ⟨n,h2,hc⟩ := ba hc
     obtain ⟨x',h3,hc⟩ := ba hc
     obtain ⟨y',h4,h5⟩ := rl hc
     exact plain _ h5.symm rfl rfl (λz hz => CH hr ho h2 h1 h3 h4 hz)
   · -- a slice,held against nil
     rename_i e ht
     split at hc
     · rename_i s4
       obtain ⟨n,h2,hc⟩ := ba hc
       obtain ⟨x',h3,h5⟩ := rl hc
       have e5 := cM h5.symm rfl
       subst e5
       obtain ⟨bs,g1,g2⟩ := ha
       obtain ⟨b,hb,g_⟩ := FT hr ho h2 ht s4 h3 g1
       exact dz hr hd g_ (g2 b hb)
     · simp at hc
   · simp at hc
 · rename_i t x ho
   obtain ⟨x',h3,h5⟩ := rl hc
   exact plain _ h5.symm rfl rfl (λz hz => Fh hr ho h3 hz)
 · rename_i t x ho
   obtain ⟨x',h3,h5⟩ := rl hc
   exact plain _ h5.symm rfl rfl (λz hz => Fi hr ho h3 hz)
 · rename_i x j ho
   obtain ⟨x',h3,h5⟩ := rl hc
   exact plain _ h5.symm rfl rfl (λz hz => Fl hr ho h3 hz)
 · rename_i x ho
   obtain ⟨x',h3,h5⟩ := rl hc
   exact plain _ h5.symm rfl rfl (λz hz => CA hr ho h3 hz)
 · -- box
   rename_i t x ho
   obtain ⟨x',h3,h5⟩ := rl hc
   rcases wY h5.symm with rfl | rfl
   · obtain ⟨n,g1,g2,g3,g4,g5,g6⟩ := ha
     exact dA (by rw [g1]; exact FC hr (hd n g1) ho h3 g3 g4 g5 g2) g6
   · obtain ⟨y,h1,h2⟩ := i_ rfl ha
     exact dz hr hd (CC hr ho h3 h1) h2
 · rename_i f first cap ho
   split at hc
   · rename_i hf
     obtain ⟨cs,h3,h5⟩ := rl hc
     exact plain _ h5.symm rfl rfl (λz hz => Fm hr ho hf h3 hz)
   · obtain ⟨qs,h2,hc⟩ := ba hc
     obtain ⟨cs,h3,h5⟩ := rl hc
     exact plain _ h5.symm rfl rfl (λz hz => Fo hr ho h2 h3 hz)
 · -- load
   rename_i t x ho
   obtain ⟨m,h1,hc⟩ := ba hc
   obtain ⟨x',h3,h5⟩ := rl hc
   have e := cM h5.symm rfl
   subst e
   rcases ha with ⟨y,g1,g2⟩ | ⟨y,g1,g2⟩
   · exact dz hr hd (zz hr ho h1 h3 g1) g2
   · exact dz hr hd (CL hr ho h1 h3 g1) g2
 · -- alloc
   rename_i t ho
   split at hc
   · rename_i ti su
     split at hc
     · rename_i z hz
       split at hc
       · obtain ⟨cs,h3,h5⟩ := rl hc
         have e := cM h5.symm rfl
         subst e
         obtain ⟨n,g1,g2,g3,g4,g5⟩ := ha
         exact dA (by rw [g1]; exact zF hr (hd n g1) ho su hz h3 g3 g4 g2) g5
       · simp at hc
     · simp at hc
   · simp at hc
 · -- store
   rename_i t x y ho
   obtain ⟨s,h1,hc⟩ := ba hc
   obtain ⟨x',h3,hc⟩ := ba hc
   obtain ⟨y',h4,h5⟩ := rl hc
   have e := cM h5.symm rfl
   subst e
   obtain ⟨g1,H',g2,g3⟩ := ha
   exact dA (by rw [g1]; exact zG hr ho h1 h3 h4 g2) g3
 · -- convert
   rename_i s d x ho
   split at hc
   · rename_i k1 k2 hs B5
     obtain ⟨x',h3,h5⟩ := rl hc
     exact plain _ h5.symm rfl rfl (λz hz => Fq hr ho hs B5 h3 hz)
   · rename_i hs B5
     obtain ⟨x',h3,h5⟩ := rl hc
     exact plain _ h5.symm rfl rfl (λz hz => Fs hr ho hs B5 h3 hz)
   · rename_i e hs B5
     split at hc
     · rename_i he
       obtain ⟨x',h3,h5⟩ := rl hc
       exact plain _ h5.symm rfl rfl (λz hz => Fy hr ho hs B5 he h3 hz)
     · simp at hc
   · rename_i e hs B5
     split at hc
     · rename_i he
       obtain ⟨x',h3,h5⟩ := rl hc
       exact plain _ h5.symm rfl rfl (λz hz => Fz hr ho hs he B5 h3 hz)
     · simp at hc
   · simp at hc
 · rename_i t x ho
   split at hc
   · simp at hc
   · rename_i d Ht ht
     obtain ⟨x',h3,h5⟩ := rl hc
     exact plain _ h5.symm rfl rfl (λz hz => CB hr ho ht (λms e => Ht ms e) h3 hz)
   · simp at hc
 · rename_i t x i ok ho
   split at hc
   · simp at hc
   · rename_i j4
     split at hc
     · rename_i k e ht
       split at hc
       · rename_i kd z hk hz
         split at hc
         · rename_i Hg
           obtain ⟨x',h3,hc⟩ := ba hc
           obtain ⟨i',h4,h5⟩ := rl hc
           exact plain _ h5.symm rfl rfl (λy hy => Cx hr (by rw [ho,Bool.eq_false_iff.2 j4]) ht hk hz Hg h3 h4 hy)
         · simp at hc
       · simp at hc
     · simp at hc
 · rename_i t x f ho
   split at hc
   · rename_i fs ht
     obtain ⟨fd,h1,hc⟩ := ba hc
     obtain ⟨m,h2,hc⟩ := ba hc
     obtain ⟨x',h3,h5⟩ := rl hc
     exact plain _ h5.symm rfl rfl (λz hz => CG hr ho ht h1 h2 h3 hz)
   · simp at hc
 · -- buildSlice
   rename_i t n ps ho
   split at hc
   · rename_i e ht
     split at hc
     · rename_i ti su
       split at hc
       · rename_i z hz
         split at hc
         · rename_i cP
           obtain ⟨zs,h1,hc⟩ := ba hc
           obtain ⟨xs,h2,h5⟩ := rl hc
           rcases vn h5.symm with rfl | ⟨rfl,rfl⟩
           · obtain ⟨y,g1,g2⟩ := i_ rfl ha
             exact dz hr hd (CE hr ho ht su hz cP.1 cP.2.1 cP.2.2 h1 h2 g1) g2
           · obtain ⟨q,g1,y,H',g2,g3⟩ := ha
             exact dA (by rw [g1]; exact zM hr (hd q g1) ho ht su hz cP.1 cP.2.1 cP.2.2 h1 h2 g2) g3
         · simp at hc
       · simp at hc
     · simp at hc
   · simp at hc
 · -- build
   rename_i t ps ho
   split at hc
   · rename_i ti fs su ht
     split at hc
     · rename_i z pl hz BS
       obtain ⟨zs,h1,hc⟩ := ba hc
       obtain ⟨xs,h2,hc⟩ := ba hc
       obtain ⟨qs,h3,h5⟩ := rl hc
       exact plain _ h5.symm rfl rfl (λy hy => Fu hr ho ht su hz BS h1 h2 h3 hy)
     · simp at hc
   · simp at hc
 · -- call
   rename_i c ho
   split at hc
   · -- len
     rename_i iH
     split at hc
     · rename_i x h1 h2
       obtain ⟨x',h3,h5⟩ := rl hc
       exact plain _ h5.symm rfl rfl (λz hz => Cw hr ho iH h1 h2 h3 hz)
     · rename_i x e h1 h2
       obtain ⟨x',h3,h5⟩ := rl hc
       exact plain _ h5.symm rfl rfl (λz hz => Ff hr ho iH h1 h2 h3 hz)
     · simp at hc
   · -- max
     rename_i iH
     split at hc
     · rename_i x y h1
       obtain ⟨x',h3,hc⟩ := ba hc
       obtain ⟨y',h4,h5⟩ := rl hc
       exact plain _ h5.symm rfl rfl (λz hz => Fj hr ho iH h1 h3 h4 hz)
     · simp at hc
   · -- min
     rename_i iH
     split at hc
     · rename_i x y h1
       obtain ⟨x',h3,hc⟩ := ba hc
       obtain ⟨y',h4,h5⟩ := rl hc
       exact plain _ h5.symm rfl rfl (λz hz => Fk hr ho iH h1 h3 h4 hz)
     · simp at hc
   · -- append
     rename_i iH
     split at hc
     · rename_i s x st xt h1 h2
       split at hc
       · rename_i e g_
         split at hc
         · rename_i ti su
           split at hc
           · rename_i cP
             simp only [Bool.and_eq_true,beq_iff_eq,decide_eq_true_eq] at cP
             obtain ⟨⟨q1,q2⟩,q3⟩ := cP
             obtain ⟨z,hz,oz⟩ := rl q1
             obtain ⟨s',h3,hc⟩ := ba hc
             obtain ⟨x',h4,h5⟩ := rl hc
             obtain ⟨dx,qD,hdx⟩ : ∃ dx,K.P.underlying xt = some dx /\ (dx = .string \/ ∃ e2,dx = .slice e2) := by
               unfold E_ at q3
               split at q3
               · rename_i hh; exact ⟨_,hh,.inl rfl⟩
               · rename_i hh; exact ⟨_,hh,.inr ⟨_,rfl⟩⟩
               · simp at q3
             rcases wZ h5.symm with rfl | rfl
             · obtain ⟨n,g1,y,H',g3,g4⟩ := ha
               exact dA (by rw [g1]; exact FG hr (hd n g1) ho iH h1 h2 g_ su hz oz q2 qD hdx h3 h4 g3) g4
             · obtain ⟨y,g3,g4⟩ := i_ rfl ha
               exact dz hr hd (CX hr ho iH h1 h2 g_ su hz oz q2 qD hdx h3 h4 g3) g4
           · split at hc
             · rename_i k0 z qD hz
               split at hc
               · rename_i nM
                 obtain ⟨zs,h5,hc⟩ := ba hc
                 obtain ⟨s',h3,hc⟩ := ba hc
                 obtain ⟨x',h4,h6⟩ := rl hc
                 have e6 := cM h6.symm rfl
                 subst e6
                 obtain ⟨n,g1,y,H',g3,g4⟩ := ha
                 exact dA (by rw [g1]; exact CY hr (hd n g1) ho iH h1 h2 g_ su hz nM.1 nM.2.1 nM.2.2 qD h5 h3 h4 g3) g4
               · simp at hc
             · simp at hc
         · simp at hc
       · simp at hc
     · simp at hc
   · -- cap
     rename_i iH
     split at hc
     · rename_i x e h1 h2
       obtain ⟨x',h3,h5⟩ := rl hc
       have e5 := cM h5.symm rfl
       subst e5
       obtain ⟨R,g1,g2⟩ := ha
       obtain ⟨m,q1,q2,q3⟩ := FN hr ho iH h1 h2 h3 g1
       exact dz hr hd q3 (g2 m q1 q2)
     · simp at hc
   · -- copy
     rename_i iH
     split at hc
     · rename_i dd x dt xt h1 h2
       split at hc
       · rename_i e Hq
         obtain ⟨s,h3,hc⟩ := ba hc
         split at hc
         · simp at hc
         · rename_i wo
           obtain ⟨d',h4,hc⟩ := ba hc
           obtain ⟨x',h6,h5⟩ := rl hc
           have e5 := cM h5.symm rfl
           subst e5
           obtain ⟨y,H',g1,g2⟩ := ha
           exact dA (FK hr hd ho iH h1 h2 Hq h3 wo h4 h6 g1) g2
       · simp at hc
     · simp at hc
   · -- clear
     rename_i iH
     split at hc
     · rename_i x e h1 h2
       split at hc
       · rename_i ti su
         split at hc
         · rename_i z hz
           split at hc
           · rename_i cP
             obtain ⟨zs,h3,hc⟩ := ba hc
             obtain ⟨x',h4,h5⟩ := rl hc
             have e5 := cM h5.symm rfl
             subst e5
             obtain ⟨H',g1,g2⟩ := ha
             exact dA (FL hr hd ho iH h1 h2 su hz cP.1 cP.2 h3 h4 g1) g2
           · simp at hc
         · simp at hc
       · simp at hc
     · simp at hc
   · simp at hc
   · simp at hc
   · -- a function
     rename_i f iH
     split at hc
     · rename_i hb
       obtain ⟨xs,h3,h5⟩ := rl hc
       have e := cM h5.symm rfl
       subst e
       obtain ⟨fn, hf, hfn⟩ : ∃ fn, K.P.funcs[f]? = some fn ∧ (fn.body.isSome = true ∧ (fn.name != "runtime.NumGoroutine") = true) := by
         unfold fU at hb
         cases hq : K.P.funcs[f]? with
         | none => simp [hq] at hb
         | some fn => simp only [hq,Option.any_some,Bool.and_eq_true] at hb; exact ⟨fn,rfl,hb⟩
       refine uf hr hd (vs := c.args.toList.map a.eval) ?_ (iE hr _ _ h3) ha
       have h1 : ¬ fn.name = "runtime.NumGoroutine" := by simpa using hfn.2
       have h2 : ¬ fn.body = none := by intro hh; simp [hh] at hfn
       simp [execOp,ho,resolve,iH,Act.eval,Deferred.ofValue,invoke,callFunc,hf,h1,h2]
       cases c.args
       simp
     · -- without a body
       obtain ⟨xs,h3,h5⟩ := rl hc
       have e5 := cM h5.symm rfl
       subst e5
       obtain ⟨res,g1,g2⟩ := ha
       obtain ⟨v,w',q1,q2,q3,q4⟩ := g1 K β env a w (c.args.toList.map a.eval) rfl hr (iE hr _ _ h3)
       refine dz hr hd ⟨v,w',?_,q2,q3,q4⟩ g2
       have uh : (c.args.toList.map a.eval).toArray = c.args.map a.eval := by cases c.args; simp
       rw [uh] at q1
       simp [execOp,ho,resolve,iH,Act.eval,Deferred.ofValue,invoke,q1]
   · -- a function value
     rename_i f B2 iH
     obtain ⟨y,h2,hc⟩ := ba hc
     obtain ⟨xs,h3,h5⟩ := rl hc
     have e := cM h5.symm rfl
     subst e
     obtain ⟨f',first,cap,g1,hb,g2⟩ := ha
     have hv := hr.ev h2
     rw [g1] at hv
     simp only [RV] at hv
     obtain ⟨vs,us,k1,k2,k3⟩ := hv
     obtain ⟨fn, hf, hfn⟩ : ∃ fn, K.P.funcs[f']? = some fn ∧ (fn.body.isSome = true ∧ (fn.name != "runtime.NumGoroutine") = true) := by
       unfold fU at hb
       cases hq : K.P.funcs[f']? with
       | none => simp [hq] at hb
       | some fn => simp only [hq,Option.any_some,Bool.and_eq_true] at hb; exact ⟨fn,rfl,hb⟩
     refine uf hr hd (vs := vs ++ c.args.toList.map a.eval ++ us) ?_ (br.append _ _ _ _ (br.append _ _ _ _ k2 (iE hr _ _ h3)) k3) g2
     have h1 : ¬ fn.name = "runtime.NumGoroutine" := by simpa using hfn.2
     have h2 : ¬ fn.body = none := by intro hh; simp [hh] at hfn
     simp [execOp,ho,resolve,iH,k1,Deferred.ofValue,invoke,callFunc,hf,h1,h2]
 · simp at hc
def vo (hr:aH K β env H a w) {o:Oper} {i:U7} {k:AV->Hp->Prop} {Q:Exit->Act->World->Prop} (hd:∀n,o.dst=some n->n<K.N) (hc:comp K.P K.G o=some i.fV)
  (ha:bg ⟨K.P,K.G,K.N⟩ o.dst i env H k):o.wp K.P a w (P0 K env o.dst k) Q:=by
 unfold comp at hc;split at hc
 ·rename_i j hj;simp only[di] at hc;exact ab6 hr hd (by rw[hj,hc]) ha
 simp only[di] at hc;have e:i= .stuck:=cM hc.symm rfl;subst e;obtain⟨x,h1,_⟩:=i_ rfl ha;simp[c6] at h1
end

section
variable {K:Kx} {env:Env} {H:Hp} {a:Act} {w:World}
def P1 {β:Lb->Option Nat} (hr:aH K β env H a w) {ops:Array Oper} {o:Oper} {i:bh} (hc:iY K.P K.G ops o=some i) {b:Bool} (hg:gW i.g env=some b) :
  Region.wanted o (yielded ops a.tmps)=b:=by
 unfold iY at hc;split at hc
 ·rename_i h0;obtain⟨j,_,rfl⟩:=rl hc;simp only[gW,di] at hg;subst hg;simp[Region.wanted,h0]
 rename_i j t h0;obtain⟨s,h1,hc⟩:=ba hc;obtain⟨q,_,rfl⟩:=rl hc;simp only[gW] at hg;have hv:=hr.N8 s;split at hg
 ·rename_i c e;simp only[di] at hg;subst hg;rw[e] at hv;simp only[RV] at hv;have:a.tmps[s]?=some (.bool c):=by
   rw[nY] at hv;cases hq:a.tmps[s]? with
   |none=>rw[hq] at hv;cases hv
   |some u=>rw[hq] at hv;simpa using hv
  simp[Region.wanted,h0,yielded,h1,this]
 ·rename_i e;simp only[di] at hg;subst hg;rw[e] at hv;simp only[RV] at hv;have:a.tmps[s]?=none\/a.tmps[s]?=some undef:=by
   rw[nY] at hv;cases hq:a.tmps[s]? with
   |none=>exact .inl rfl
   |some u=>rw[hq] at hv;right;simpa using hv
  rcases this with h|h<;>simp[Region.wanted,h0,yielded,h1,h,undef]
 simp at hg
def rb {P:Program} {G:Nat->Option (List IV)} {ops:Array Oper} {o:Oper} {i:bh} (hc:iY P G ops o=some i):i.d=o.dst/\comp P G o=some i.i:=by
 unfold iY at hc;split at hc
 ·obtain⟨j,h1,rfl⟩:=rl hc;exact⟨rfl,h1⟩
 obtain⟨s,_,hc⟩:=ba hc;obtain⟨q,h1,rfl⟩:=rl hc;exact⟨rfl,h1⟩
def YS {β:Lb->Option Nat} (hr:aH K β env H a w) {ops:Array Oper} {o:Oper} {i:bh} (hc:iY K.P K.G ops o=some i.fV) {k:Env->Hp->Prop} {Q:Exit->Act->World->Prop} {KK:Act->World->Prop}
  (hk:∀env' H' β' a' w',k env' H'->aH K β' env' H' a' w'->KK a' w')
  (ha:(gW i.g env=some true/\(∀n,i.d=some n->n<K.N)/\bg ⟨K.P,K.G,K.N⟩ i.d i.i env H λx H'=>k (cV env i.d x) H') \/
   (gW i.g env=some false/\(∀n,i.d=some n->n<K.N)/\k (cV env i.d .un) H)) :
  if Region.wanted o (yielded ops a.tmps) then o.wp K.P a w KK Q\/(o.asks K.P a w/\LetsOut Q) else KK (a.put o.dst undef) w:=by
 obtain⟨h1,h2⟩:=rb hc;have J3:i.d=o.dst:=h1;rcases ha with⟨hg,hd,ha⟩|⟨hg,hd,ha⟩
 ·have hw:Region.wanted o (yielded ops a.tmps)=true:=P1 hr (i:=i.fV) hc hg;rw[P8 hw];left;rw[J3] at ha hd;exact Oper.wp_mono (λa' w' ⟨x,H',hx,β',lz⟩=>hk _ _ _ _ _ hx lz) (vo hr hd h2 ha)
 have hw:Region.wanted o (yielded ops a.tmps)=false:=P1 hr (i:=i.fV) hc hg;rw[Ev (by simp[hw])];rw[J3] at ha hd;exact hk _ _ _ _ _ ha (hr.step (Below.refl _ _) hd (λ_=>by simp[RV]) (λ_=>by simp[AV.an]))
def akl (t:TypeId) (d:Nat) (o:Oper):Option (Int×List UInt8):=
 match o.guard,o.dst,o.op with
 |none,none,.insert t' (.tmp d') (.const (.int .i64 k)) (.const (.string s))=>if t'=t/\d'=d then some (k,s.data.toList) else none
 |_,_,_=>none
def ni (t:TypeId) (d:Nat):List Oper->List (Int×List UInt8)×List Oper
 |[]=>([],[])
 |o::r=>match akl t d o with
  |some p=>(p::(ni t d r).1,(ni t d r).2)
  |none=>([],o::r)
def w7:List Int->Bool
 |[]=>true
 |x::r=>(r.all λy=> !(y==x))&&w7 r
def p9 (P:Program) (o:Oper) (r:List Oper):Option (Nat×List (Int×List UInt8)×List Oper):=
 match o.guard,o.dst,o.op with
 |none,some d,.makeMap t none=>match P.underlying t with
  |some (.map k _)=>match P.underlying k with
   |some (.int _)=>if w7 ((ni t d r).1.map Prod.fst) then some (d,(ni t d r).1,(ni t d r).2) else none
   |_=>none
  |_=>none
 |_,_,_=>none
theorem ui:∀(done:List (Int×List UInt8)) (k:Int) (rest:List Int),w7 (done.map Prod.fst++k::rest)=true->done.lookup k=none
 |[],_,_,_=>rfl
 |p::done,k,rest,h=>by
  simp only[Rj,List.cons_append,w7,QH] at h;have h1:=Rh.1 h.1 k tM;have e:(k==p.1)=false:=by simpa using h1
  rw[List.lookup,e];exact ui done k rest h.2
structure Ix (r:Nat) (w w':World):Prop where
 os:w'.os=w.os
 tape:w'.tape=w.tape
 output:w'.output=w.output
 size:w'.heap.size=w.heap.size
 block:∀k,k≠r->w'.heap[k]?=w.heap[k]?
theorem w8 {P:Program} {ops:Array Oper} {t k e:TypeId} {d:Nat} {kd:IntKind} (ht:P.underlying t=some (.map k e)) (hk:P.underlying k=some (.int kd)) {Q:Exit->Act->World->Prop} {a:Act} {r:Nat}
  (hd:a.tmps.getD d undef= .map (some r)):∀(l:List Oper) (w:World) (xs:Array MapEntry) (c:Nat) (done:List (Int×List UInt8)),w.heap[r]?=some (.map xs c) ->
   xs.toList.map (λe=>(e.key,e.val))=(done.map λp=>(Value.int .i64 p.1,Value.string ⟨p.2.toArray⟩))->w7 ((done++(ni t d l).1).map Prod.fst)=true ->
   (∀w' nN c',Ix r w w'->w'.heap[r]?=some (.map nN c')->nN.toList.map (λe=>(e.key,e.val))=((done++(ni t d l).1).map λp=>(Value.int .i64 p.1,Value.string ⟨p.2.toArray⟩))->wpList P ops Q (ni t d l).2 a w') ->
   wpList P ops Q l a w
 |[],w,xs,c,done,h1,h2,_,hq=>hq w xs c ⟨rfl,rfl,rfl,rfl,λ_ _=>rfl⟩ h1 (by simpa[ni] using h2)
 |o::l,w,xs,c,done,h1,h2,h3,hq=>by
  cases ho:akl t d o with
  |none=>
   simp only[ni,ho] at hq h3;exact hq w xs c ⟨rfl,rfl,rfl,rfl,λ_ _=>rfl⟩ h1 (by simpa using h2)
  |some p=>
  simp only[ni,ho] at hq h3;unfold akl at ho;split at ho
  ·rename_i t' d' n s hg ua Iy;split at ho
   ·rename_i hc;obtain⟨rfl,rfl⟩:=hc;simp only[di] at ho;subst ho;have FQ:done.lookup n=none:=ui done n ((ni t' d' l).1.map Prod.fst) (by simpa using h3);have hf:Instr.findNow (.int kd) (.int .i64 n) xs.toList 0=some none:=by
     rcases nC kd n xs.toList done 0 h2 with⟨_,g⟩|⟨_,_,g,_⟩
     ·exact g
     rw[FQ] at g;cases g
    have bI:r<w.heap.size:=(Rv.1 h1).1;have hs:Value.string s= .string ⟨s.data.toList.toArray⟩:=(by cases s;simp);unfold wpList;rw[P8 (by simp[Region.wanted,hg])];left;unfold Oper.wp;have gY:(execOp a.eval o).run P w= .ok .skip {w with heap:=w.heap.setIfInBounds r (.map (xs.push ⟨.int .i64 n,.string s,c⟩) (c+1))}:=by
     have hv:a.eval (.tmp d')= .map (some r):=hd;have Iz:a.eval (.const (.int .i64 n))= .int .i64 n:=rfl;have K1:a.eval (.const (.string s))= .string s:=rfl;simp[execOp,Iy,hv,Iz,K1,Instr.mapUpdate,run_underlying ht,run_underlying hk,getObj,setObj,Sem.run,h1,jo hk,Instr.findKey,hf,Result.andThen]
    rw[gY,Oper.upon_skip,ua];refine w8 ht hk hd l _ (xs.push ⟨.int .i64 n,.string s,c⟩) (c+1) (done++[(n,s.data.toList)]) (by simp[bI]) (by simp[h2,hs]) (by simpa using h3) ?_;intro w' nN c' g1 g2 g3;refine hq w' nN c' ⟨g1.os,g1.tape,g1.output,by simpa using g1.size,λq Vi=> ?_⟩ g2 (by simpa using g3);rw[g1.block q Vi];simp[Ss Vi]
   cases ho
  cases ho
def vp {β:Lb->Option Nat} (hr:aH K β env H a w) {ops:Array Oper} {o:Oper} {l l':List Oper} {d:Nat} {es:List (Int×List UInt8)} (h:p9 K.P o l=some (d,es,l')) (hd:d<K.N)
  {Q:Exit->Act->World->Prop} (hk:∀a' w',aH K β (put env d (.mis es)) H a' w'->wpList K.P ops Q l' a' w'):wpList K.P ops Q (o::l) a w:=by
 unfold p9 at h;split at h
 ·rename_i d' t hg ua Iy;split at h
  ·rename_i k e ht;split at h
   ·rename_i kd K2;split at h
    ·rename_i FU;simp only[di,eS] at h;obtain⟨rfl,rfl,rfl⟩:=h;unfold wpList;rw[P8 (by simp[Region.wanted,hg])];left;unfold Oper.wp;have gY:(execOp a.eval o).run K.P w= .ok (.value (.map (some w.heap.size))) (w.alloc (.map #[] 0)):=by
      simp[execOp,Iy,Instr.makeMap,Result.andThen]
     rw[gY,Oper.upon_value,ua];have gm:(w.alloc (.map #[] 0)).heap=w.heap.push (.map #[] 0):=rfl
     refine w8 ht K2 (a:=a.put (some d') (.map (some w.heap.size))) (r:=w.heap.size) (by
      simp only[Act.put,qN];rw[P8 ⟨rfl,by rw[hr.size];exact hd⟩]) l _ #[] 0 [] (by rw[gm];simp) tM (by simpa using FU) ?_
     intro w' xs c g1 g2 g3;have hw:w'.heap.size=w.heap.size+1:=(by rw[g1.size,gm];simp);have gw:iU w w':=⟨g1.os,g1.tape,g1.output,sf,λq hq=>by
      rw[g1.block q sf,gm];simp[Array.getElem?_push,Nat.ne_of_lt hq]⟩
     refine hk _ _ (hr.step (d:=some d') gw (λn e=>by cases e;exact hd) (λ_=> ?_) (λ_=>by simp[AV.an]));simp only[RV];refine⟨w.heap.size,xs,c,rfl,⟨.inr hr.frame.size,λq hq hb=> ?_⟩,sf,g2,by simpa using g3⟩;have:=hr.YR hq hb;omega
    cases h
   cases h
  cases h
 cases h
inductive SL (P:Program) (G:Nat->Option (List IV)) (ops:Array Oper):List Oper->List bh->Prop
 |nil:SL P G ops [] []
 |cons {o:Oper} {i:bh} {l:List Oper} {is:List bh}:iY P G ops o=some (bh.fV i)->SL P G ops l is->SL P G ops (o::l) (i::is)
 |lit {o:Oper} {d:Nat} {es:List (Int×List UInt8)} {l l':List Oper} {is:List bh}:p9 P o l=some (d,es,l')->SL P G ops l' is->SL P G ops (o::l) (⟨some d,none,.qM es⟩::is)
def w9 {ops:Array Oper} {k:Env->Hp->Prop} {Q:Exit->Act->World->Prop} (hk:∀env' H' β' a' w',k env' H'->aH K β' env' H' a' w'->Q .normal a' w') {l:List Oper} {is:List bh} (h:SL K.P K.G ops l is) :
  ∀(env:Env) (H:Hp) (a:Act) (w:World) (β:Lb->Option Nat),AO ⟨K.P,K.G,K.N⟩ is env H k->aH K β env H a w->wpList K.P ops Q l a w:=by
 induction h with
 |nil=>exactλenv H a w β ha hr=>hk _ _ _ _ _ ha hr
 |@cons o i l is h1 _ ih=>
  intro env H a w β ha hr;simp only[AO] at ha;unfold wpList;exact YS hr h1 (k:=λenv' H'=>AO ⟨K.P,K.G,K.N⟩ is env' H' k) (λenv' H' β' a' w' q1 q2=>ih env' H' a' w' β' q1 q2) ha
 |@lit o d es l l' is h1 _ ih=>
 intro env H a w β ha hr;simp only[AO,gW] at ha;rcases ha with⟨_,hd,x,hx,ha⟩|⟨h,_⟩
 ·simp only[c6,di] at hx;subst hx;exact vp hr h1 (hd d rfl) λa' w' lz=>ih _ _ _ _ β ha lz
 cases h
end
end Go.Am
