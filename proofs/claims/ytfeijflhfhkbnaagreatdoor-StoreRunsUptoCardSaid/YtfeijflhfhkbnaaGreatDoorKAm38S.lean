import Derived.Test.YtfeijflhfhkbnaaGreatDoorKAm7S
import Derived.Laws.MakeOwn
set_option linter.all false
/- THE ABSTRACT MACHINE, part 38: copies, clears, rows of noughts, room. -/
namespace Go.Am
open Go Go.RowKit
def Vi:AV->Option (Lb×Nat×Nat×Nat)
 | .sl l sz i n=>some (l,sz,i,n)
 | .slk l sz i n _=>some (l,sz,i,n)
 |_=>none
def Oj:AV->Option (Nat->Prop)
 | .slk _ _ _ _ c=>some λm=>m=c
 | .sl _ _ _ n=>some λm=>n<=m
 | .list xs=>some λm=>xs.length<=m
 | .nil0=>some λm=>m=0
 |_=>none
open Classical in
noncomputable def EI (sz:Nat) (d x:AV) (H:Hp):Option (AV×Hp):=
 (kG sz x H).bind fun news=>(Vi d).bind fun p=>if ¬(∀cs∈news.take (Nat.min news.length p.2.2.2),AV.oF cs) then none else
  match H p.1 with
   | .live r=>if p.2.1=sz∧r.sz=sz∧p.2.2.1+p.2.2.2≤r.els.length then
    some (.int .i64 ((Nat.min news.length p.2.2.2:Nat):Int),aS H p.1 (.live ⟨sz,r.els.take p.2.2.1++news.take (Nat.min news.length p.2.2.2)++r.els.drop (p.2.2.1+(news.take (Nat.min news.length p.2.2.2)).length)⟩)) else none
   |_=>none
open Classical in
noncomputable def C9 (sz:Nat) (z:List AV) (x:AV) (H:Hp):Option Hp:=
 if ¬AV.oF z then none else(Vi x).bind fun p=>match H p.1 with
  | .live r=>if p.2.1=sz∧r.sz=sz∧p.2.2.1+p.2.2.2≤r.els.length then
   some (aS H p.1 (.live ⟨sz,r.els.take p.2.2.1++List.replicate p.2.2.2 z++r.els.drop (p.2.2.1+(List.replicate p.2.2.2 z).length)⟩)) else none
  |_=>none
open Classical in
noncomputable def zf (sz bytes d:Nat) (z:List AV) (n c:AV) (H:Hp):Option (AV×Hp):=
 match n,c with
 | .int _ m,.int _ m'=>if m=m'∧0≤m∧m.toNat*bytes≤140737488355328∧H (.loc d)= .unused then some (.sl (.loc d) sz 0 m.toNat,aS H (.loc d) (.live ⟨sz,List.replicate m.toNat z⟩)) else none
 |_,_=>none
open Classical in
noncomputable def B0 (sz bytes d:Nat) (z:List AV) (s n:AV) (H:Hp):Option (AV×Hp):=
 match s,n with
 | .slk l s' i n c,.int _ m=>match H l with
  | .live r=>if s'=sz∧r.sz=sz∧i=0∧n≤r.els.length∧0≤m∧c<n+m.toNat∧(n+m.toNat)*bytes≤140737488355328∧H (.loc d)= .unused then
   some (.sl (.loc d) sz 0 (n+m.toNat),aS H (.loc d) (.live ⟨sz,r.els.take n++List.replicate m.toNat z⟩)) else none
  |_=>none
 |_,_=>none
noncomputable def C' (sz d:Nat) (z:List AV) (ps:List (Nat×AV)) (H:Hp):Option (AV×Hp):=
 (gF z (ps.map λp=>(p.1*sz,sz,p.2))).bind λcs=>open Classical in if H (.loc d)= .unused/\cs.length=sz/\0<sz then some (.sl (.loc d) sz 0 1,aS H (.loc d) (.live ⟨sz,[cs]⟩)) else none
section
variable {K:Kx} {β:Lb->Option Nat} {env:Env} {H:Hp} {a:Act} {w:World}
def Ok {x:AV} {l:Lb} {sz i n:Nat} (h:Vi x=some (l,sz,i,n)) {v:Value} (hv:RV w β H (Im K β H) x v) :
  l∈x.aq/\∃ad c,v= .slice ad n c/\n<=c/\c<=maxLen/\(live H l->Sq w β l sz i c ad):=by
 cases x<;>simp[Vi] at h
 case sl=>
  obtain⟨rfl,rfl,rfl,rfl⟩:=h;simp only[RV] at hv;obtain⟨ad,c,h1,h2,h3,_,h5⟩:=hv;exact⟨ajP,ad,c,h1,h2,h3,h5⟩
 grind [RV,AV.aq]
def EJ (hr:aO K β env H a w) {l:Lb} {r:Row} (hl:H l= .live r) {sz i n c:Nat} {ad:Option Addr} (j9:r.sz=sz) (hc:n<=c) (xz:Sq w β l sz i c ad) {news:List (List AV)} {vals:List Value}
  (hn:news.length<=n) (qe:i+news.length<=r.els.length)
  (Z3:∀cs∈news,cs.length=r.sz) (hNm:∀cs∈news,∀q∈ai cs,H q≠ .unused) (hv:vals.length=news.length*r.sz)
  (h2:∀i j cs x,news[i]?=some cs->cs[j]?=some x->∃v,vals[i*r.sz+j]?=some v/\RV w β H (Im K β H) x v) (j6:∀v∈vals,v.oneCell'=true) :
  ∃w',(match ad with|some q=>storeCells q vals|none=>pure ()).run K.P w= .ok () w' /\
   aO K β env (aS H l (.live ⟨sz,r.els.take i++news++r.els.drop (i+news.length)⟩)) a w':=by
 subst j9;rcases xz with rfl|⟨g,S,g1,rfl,g3,g4⟩
 ·have cf:news=[]:=agU ajK;subst cf;have hve:vals=[]:=agU ajV;subst hve;have hH:aS H l (.live ⟨r.sz,r.els.take i++[]++r.els.drop (i+([]:List (List AV)).length)⟩)=H:=by
   funext q;by_cases e:q=l
   ·simp_all
   grind [an]
  rw[hH];refine⟨w,?_,hr⟩;cases ad<;>simp[storeCells]
 obtain⟨cur',w1,w2,_⟩:=BZ hr hl g1 (i:=i) (news:=news) (vals:=vals) qe Z3 hNm hv h2 j6
 grind
def LB {sz:Nat} {xv:Value} {news:List (List AV)} {vals:List Value} (h0:0<sz) (S:Src K β H w sz xv news vals) (k:Nat) (j6:∀cs∈news.take k,AV.oF cs):∀v∈vals.take (k*sz),v.oneCell'=true:=by
 intro v hv;obtain⟨q,hq⟩:=agE hv;rw[agG] at hq;split at hq
 case isFalse=>simp at hq
 rename_i hqk;have hql:q<news.length*sz:=by rw[<-S.len];exact(afY.1 hq).1
 have Z4:q/sz<news.length:=aiR ajV;have afG:q/sz<k:=aiR ajV;have hqj:q%sz<sz:=Nat.mod_lt _ h0;have Bf:news[q/sz]?=some news[q/sz]:=af7 Z4;have yA:=S.R5 _ (ahY Z4);have SA:(news[q/sz])[q%sz]?=some ((news[q/sz])[q%sz]' ajK):=af7 ajK
 obtain⟨v',e1,e2⟩:=S.rv _ _ _ _ Bf SA;have:q/sz*sz+q%sz=q:=by simp[ais,Nat.div_add_mod]
 rw[this,hq] at e1;cases e1;refine RV.ur e2 (j6 _ ?_ _ (ahY _));refine af3 (i:=q/sz) ?_
 grind
def aaL (hr:aO K β env H a w) {o:Oper} {c:Call} {d x:Operand} {d' x':O} {dt xt e:TypeId} {sz:Nat} {dd:Option Nat} (hd:∀n,dd=some n->n<K.N) (ho:o.op= .call c) (hc:c.callee= .builtin .copy)
   (ha:c.args.toList=[d,x]) (xz:c.argTypes.toList=[dt,xt]) (hdt:K.P.underlying dt=some (.slice e)) (hs:Be K.P e=some sz) (h0:sz≠0) (R7:co K.G d=some d') (hx:co K.G x=some x') {y:AV} {H':Hp}
   (hy:EI sz (ev env d') (ev env x') H=some (y,H')):me K env a w o dd y H':=by
 have Br:c.args=#[d,x]:=ajV
 have HM:c.argTypes=#[dt,xt]:=ajV
 have nP:(execOp a.eval o).run K.P w=((Builtin.copy_ #[dt,xt] o.type #[a.eval d,a.eval x]).run K.P w).andThen λv w'=> .ok (.value v) w':=by
   simp[execOp,ho,resolve,hc,Br,HM,invoke,builtin]
 obtain⟨news,hn,hy⟩:=afX.1 hy
 obtain⟨vals,S⟩:=yC hr hx ajK hn
 have hdv:=hr.ev R7
 obtain⟨⟨l,s0,i,n⟩,hp,hy⟩:=afX.1 hy
 simp only at hy
 split at hy
 · grind
 rename_i j6
 have j6:∀cs∈news.take (Nat.min news.length n),AV.oF cs:=ahh j6
 have JS:=LB ajK S (Nat.min news.length n) j6
 obtain⟨HO,ad,c0,h1,h2,h3,h5⟩:=Ok hp hdv
 split at hy
 · rename_i r hl
   split at hy
   · rename_i jw
     obtain⟨rfl,pg,qe⟩:=jw
     obtain⟨rfl,rfl⟩:=hy
     have hk:Nat.min news.length n<=news.length:=Nat.min_le_left _ _
     have zd:Nat.min news.length n<=n:=Nat.min_le_right _ _
     have yk:(news.take (Nat.min news.length n)).length=Nat.min news.length n:=ajL
     obtain⟨w',q1,q2⟩:=EJ hr hl (sz:=s0) (i:=i) (n:=n) (news:=news.take (Nat.min news.length n)) (vals:=vals.take (Nat.min news.length n*s0)) pg h2 (h5 ⟨r,hl⟩) ajK ajK
       (λcs aZ=>by rw[pg];exact S.R5 cs (agH aZ)) (λcs aZ=>S.iq cs (agH aZ))
       (by rw[agA,S.len,yk,pg,ahK (agy _ hk)])
       (fun i' j cs x0 gT nI => by
         rw[agG] at gT
         split at gT
         · rename_i aF
           obtain⟨v,e1,e2⟩:=S.rv i' j cs x0 gT nI
           refine⟨v,?_,e2⟩
           rw[pg,agG,agc]
           · grind
           have ZU:j<s0:=by
             have:=S.R5 cs (af3 gT)
             grind
           have:=agy s0 (show i'+1<=Nat.min news.length n by omega)
           grind
         simp at gT)
       (λv hv=>JS v hv)
     have h4:=q2.step (Below.refl _ _) (d:=dd) (x:= .int .i64 ((Nat.min news.length n:Nat):Int)) (v:= .int .i64 ((Nat.min news.length n:Nat):Int)) hd (λ_=>by simp[RV]) (λ_=>by simp[AV.aq])
     refine⟨_,_,_,_,?_,.inl rfl,h4⟩
     rw[nP,h1]
     have s9:=S.Oe _ hk w (.inl rfl)
     have yE:(Builtin.copy_ #[dt,xt] o.type #[.slice ad n c0,a.eval x]).run K.P w= .ok (.int .i64 ((Nat.min news.length n:Nat):Int)) w':=by
       cases ad with
       |none=>
         simp at q1
         subst q1
         simp[Builtin.copy_,run_underlying hdt,S.lenOf,dy hs,s9,goInt]
       |some q=>
       simp only at q1
       simp[Builtin.copy_,run_underlying hdt,S.lenOf,dy hs,s9,goInt,q1]
     simp_all
   grind
 grind
def wi (z:Array Value) (zs:List AV) (n:Nat) (h:bA w β H (Im K β H) zs z.toList) (hz:0<z.size):∀i j cs x,(List.replicate n zs)[i]?=some cs->cs[j]?=some x ->
  ∃v,(Builtin.zeroCells z n).toList[i*z.size+j]?=some v/\RV w β H (Im K β H) x v:=by
 intro i j cs x hi hj;rw[ahW] at hi;split at hi
 ·rename_i aF;simp at hi;subst hi;obtain⟨v,e1,e2⟩:=bA.get _ _ j x h hj;refine⟨v,?_,e2⟩;have kE:j<z.size:=by
   grind
  have hb:i*z.size+j<n*z.size:=by
   have:=agy z.size (show i+1<=n by omega)
   grind
  have hm:(i*z.size+j)%z.size=j:=by rw[ajf,Nat.add_mul_mod_self_right,Nat.mod_eq_of_lt kE]
  have hzj:z[j]?=some v:=ajV
  simp[Builtin.zeroCells,hb,hm,getElem!_def,hzj]
 grind
def LC (z:Array Value) (n:Nat) (hz:0<z.size) (h:∀v∈z.toList,v.oneCell'=true):∀v∈(Builtin.zeroCells z n).toList,v.oneCell'=true:=by
 intro v hv;simp only[Builtin.zeroCells,aje,agp,ahZ] at hv
 grind [Nat.mod_lt]
theorem JU:∀(zs:List AV) (vs:List Value),AV.oF zs->bA w β H (Im K β H) zs vs->∀v∈vs,v.oneCell'=true
 |[],vs,_,h,v,hv=>by simp[bA] at h;subst h;simp at hv
 |x::r,vs,h1,h,v,hv=>by
  simp only[bA] at h;obtain⟨u,us,rfl,h2,h3⟩:=h;rcases aga.1 hv with rfl|hv
  ·exact RV.ur h2 (h1 x ajL)
  exact JU r us (λy hy=>h1 y ajV) h3 v hv
def aaM (hr:aO K β env H a w) {o:Oper} {c:Call} {x:Operand} {x':O} {e:TypeId} {i:TypeInfo} {z:Value} {zs:List AV} {dd:Option Nat} (hd:∀n,dd=some n->n<K.N) (ho:o.op= .call c) (hc:c.callee= .builtin .clear)
  (ha:c.args.toList=[x]) (ht:c.argTypes[0]?.bind K.P.underlying=some (.slice e)) (hi:K.P.info? e=some i) (hz:i.zero=some z) (Er:z.cells.size=i.size) (h0:0<i.size)
  (Bu:y7 z.cells.toList=some zs) (hx:co K.G x=some x') {H':Hp} (hy:C9 i.size zs (ev env x') H=some H'):me K env a w o dd (.bq []) H':=by
 have Br:c.args=#[x]:=ajV
 obtain⟨t,yh,C5⟩:=afX.1 ht;have nP:(execOp a.eval o).run K.P w=((Builtin.clear_ c.argTypes o.type #[a.eval x]).run K.P w).andThen λv w'=> .ok (.value v) w':=by
  simp[execOp,ho,resolve,hc,Br,invoke,builtin]
 have Bh:=hr.ev hx;unfold C9 at hy;split at hy
 ·grind
 rename_i j6;have j6:AV.oF zs:=ahh j6;obtain⟨⟨l,s0,j,n⟩,hp,hy⟩:=afX.1 hy;obtain⟨HO,ad,c0,h1,h2,h3,h5⟩:=Ok hp Bh;split at hy
 ·rename_i r hl;split at hy
  ·rename_i jw;obtain⟨rfl,pg,qe⟩:=jw;simp only[afZ] at hy;subst hy;have SC:zs.length=i.size:=akC;have NM:=mU _ _ Bu w β H (Im K β H);obtain⟨w',q1,q2⟩:=EJ hr hl (sz:=i.size) (i:=j) (n:=n) (news:=List.replicate n zs) (vals:=(Builtin.zeroCells z.cells n).toList) pg h2 (h5 ⟨r,hl⟩) ajL ajV
    (λcs aZ=>by rw[ahk aZ,pg,SC]) (λcs aZ q hq=>by rw[ahk aZ,mV _ _ Bu] at hq;simp at hq)
    (by rw[lj,Er,pg];simp) (by rw[pg,<-Er];exact wi z.cells zs n NM ajK)
    (LC z.cells n ajK (JU _ _ j6 NM))
   have h4:=q2.step (Below.refl _ _) (d:=dd) (x:= .bq []) (v:= .tuple #[]) hd (λ_=>by simp[RV,bA]) (λ_=>by simp[AV.aq,ai])
   refine⟨_,_,_,_,?_,.inl rfl,h4⟩;rw[nP,h1];have yE:(Builtin.clear_ c.argTypes o.type #[.slice ad n c0]).run K.P w= .ok (.tuple #[]) w':=by
    cases ad with
    |none=>
     simp at q1;subst q1;simp[Builtin.clear_,yh,run_underlying C5]
    |some q=>
    simp only at q1;cases n with
    |zero=>
     have hw:w'=w:=by
      have HA:(Builtin.zeroCells z.cells 0).toList=[]:=(by simp[Builtin.zeroCells]);rw[HA] at q1;simp[storeCells] at q1
      grind
     rw[hw];simp[Builtin.clear_,yh,run_underlying C5]
    |succ n=>
    simp[Builtin.clear_,yh,run_underlying C5,zeroValue,typeInfo,hi,hz,q1]
   simp_all
  grind
 grind
def aaN (hr:aO K β env H a w) {o:Oper} {t e:TypeId} {n c:Operand} {n' c':O} {i:TypeInfo} {z:Value} {zs:List AV} {d:Nat} (hd:d<K.N) (ho:o.op= .makeSlice t n c) (ht:K.P.underlying t=some (.slice e))
  (hi:K.P.info? e=some i) (hz:i.zero=some z) (Er:z.cells.size=i.size) (h0:0<i.size) (hb:0<i.bytes) (Bu:y7 z.cells.toList=some zs) (hn:co K.G n=some n') (hc:co K.G c=some c') {y:AV} {H':Hp}
  (hy:zf i.size i.bytes d zs (ev env n') (ev env c') H=some (y,H')):me K env a w o (some d) y H':=by
 have hnv:=hr.ev hn;have WL:=hr.ev hc;unfold zf at hy;split at hy
 ·rename_i k m k' m' e1 e2;rw[e1] at hnv;rw[e2] at WL;simp only[RV] at hnv WL;split at hy
  ·rename_i jw;obtain⟨rfl,ED,hmb,hu⟩:=jw;obtain⟨rfl,rfl⟩:=hy;obtain⟨q,rfl⟩:=ahx ED;simp at hmb ⊢;have hqb:q<=q*i.bytes:=ahw _ hb;have mm:=run_make (P:=K.P) w t e i z ht hi hz k k' (q:Int) (q:Int) ED (Int.le_refl _) (by
    have:((q*i.bytes:Nat):Int)<=140737488355328:=ajK;rw[Int.natCast_mul,Int.mul_comm] at this;omega) ajK
   have SC:zs.length=i.size:=akC;have hzc:madeCells z.cells (q*i.size)=Builtin.zeroCells z.cells q:=(by rw[<-Er];rfl);have hex:(execOp a.eval o).run K.P w= .ok (.value (.slice (some ⟨w.heap.size,0,none⟩) q q)) (w.alloc (.cells (Builtin.zeroCells z.cells q) e)):=by
    rw[<-hzc];simp[execOp,ho,hnv,WL,mm]
   have gw:=iA w (.cells (Builtin.zeroCells z.cells q) e);have d_:=C8 hr (H':=aS H (.loc d) (.live ⟨i.size,List.replicate q zs⟩)) (lb:= .loc d) (b:=some w.heap.size) gw hu ajL (λp hp ⟨r,h⟩=>by rw[an _ _ hp] at h;exact⟨r,h⟩);have oE:yg (w.alloc (.cells (Builtin.zeroCells z.cells q) e)) (aS β (.loc d) (some w.heap.size)) (aS H (.loc d) (.live ⟨i.size,List.replicate q zs⟩))
     (Im K (aS β (.loc d) (some w.heap.size)) (aS H (.loc d) (.live ⟨i.size,List.replicate q zs⟩))) (.loc d) ⟨i.size,List.replicate q zs⟩:=by
    refine⟨h0,λcs aZ=>by rw[ahk aZ,SC],?_⟩;simp only[lD];refine⟨Builtin.zeroCells z.cells q,e,q,heap_alloc_new w _,by rw[size_zeroCells,Er],amn,ajL,λi' j cs x gT nI=> ?_⟩;obtain⟨v,q1,q2⟩:=wi (H:=H) z.cells zs q (mU _ _ Bu w β H (Im K β H)) ajK i' j cs x gT nI;rw[Er] at q1;refine⟨v,alf,RV.mono _ _ (d_ _ (λp hp=> ?_)) q2⟩;rw[ahW] at gT;split at gT
    ·simp at gT;subst gT;have:=dW _ _ _ nI p hp;rw[mV _ _ Bu] at this;simp at this
    simp at gT
   have h3:=hr.qx (.loc d) hu gw (some w.heap.size) ajL (λcs aZ p hp=>by rw[ahk aZ,mV _ _ Bu] at hp;simp at hp) oE;have h4:=h3.step (Below.refl _ _) (d:=some d) (x:= .sl (.loc d) i.size 0 q) (v:= .slice (some ⟨w.heap.size,0,none⟩) q q) ajV
    (λ_=>by
     simp only[RV];refine⟨_,_,rfl,af6 _,amn,ajL,λ_=> .inr ⟨w.heap.size,q*i.size,ajL,ajL,?_,ajL⟩⟩;have hh:(w.alloc (.cells (Builtin.zeroCells z.cells q) e)).heap[w.heap.size]?=some (.cells (Builtin.zeroCells z.cells q) e):=heap_alloc_new w _;unfold oy;rw[hh];simp[size_zeroCells,Er]) ajP
   exact⟨_,_,_,_,hex,.inl rfl,h4⟩
  grind
 grind
def aaO (hr:aO K β env H a w) {o:Oper} {c:Call} {x:Operand} {x':O} {e:TypeId} (ho:o.op= .call c) (hc:c.callee= .builtin .cap) (ha:c.args.toList=[x])
  (ht:c.argTypes[0]?.bind K.P.underlying=some (.slice e)) (hx:co K.G x=some x') {R:Nat->Prop} (hy:Oj (ev env x')=some R):∃m,R m/\m<=maxLen/\a7 K β H a w o (.int .i64 (m:Int)):=by
 have h:=hr.ev hx;obtain⟨t,yh,C5⟩:=afX.1 ht;have Br:c.args=#[x]:=ajV
 have sl:∀(ad:Option Addr) (n c':Nat),a.eval x= .slice ad n c'->(execOp a.eval o).run K.P w= .ok (.value (.int .i64 c')) w:=by
  intro ad n c' hv;simp[execOp,ho,resolve,hc,Br,hv,invoke,builtin,Builtin.cap_,yh,run_underlying C5,goInt]
 have fin:∀(ad:Option Addr) (n c':Nat),a.eval x= .slice ad n c'->a7 K β H a w o (.int .i64 (c':Int)):=λad n c' hv=>a7.same (sl ad n c' hv) ake ajP;unfold Oj at hy;split at hy<;>simp at hy
 ·grind [RV]
 ·rename_i l sz i n hs;rw[hs] at h;obtain⟨ad,m,h1,h2,h3,_⟩:=h;subst hy
  grind
 ·rename_i xs hs;rw[hs] at h;obtain⟨ad,m,h1,h2,h3,_⟩:=h;subst hy
  grind
 grind [RV,maxLen]
def WM (hr:aO K β env H a w) {o:Oper} {t e:TypeId} {x:Operand} {lo hi mx:Option Operand} {n s:Nat} {x':O} (ho:o.op= .slice t x lo hi mx) (hm:(lo.isNone&&hi.isNone&&mx.isNone)=true) (ht:K.P.underlying t=some (.array n e))
  (hs:Be K.P e=some s) (R0:s≠0) (hx:co K.G x=some x') {y:AV} (hy:aw (.N4 x' n s) env=some y):a7 K β H a w o y:=by
 obtain⟨⟨rfl,rfl⟩,rfl⟩:(lo=none/\hi=none)/\mx=none:=anO
 have h:=hr.ev hx;simp only[aw] at hy;split at hy
 ·rename_i cs e1;rw[e1] at h;split at hy
  ·rename_i jw;obtain⟨hl,NK,j6⟩:=jw;simp at hy;subst hy;obtain⟨b,o',h1,h2,h3,h4⟩:=h;have Z1:=po (sz:=s) ajK n cs b o' hl j6 h4;refine a7.same (v:= .slice (some ⟨b,o',none⟩) n n) ?_ ?_ ajP
   ·simp[execOp,ho,h1,Instr.sliceAt,run_underlying ht,Instr.sliceBounds,Instr.sureAddr,dy hs,addr_add]
   simp[RV,iM];refine⟨some ⟨b,o',none⟩,n,by rw[Z1.2],by rw[Z1.2];exact af6 _,NK,.inr ⟨b,o',s,rfl,h2,h3,ajK,Z1.1⟩⟩
  grind
 grind
def zg {w:World} {β:Lb->Option Nat} {H:Hp} {I I':Nat->Prop} (hk:jt w w I I'):∀{y:IV} {v:Value},(∀cs,y≠ .agg cs)->RV w β H I y.dw v->iM w I' y v:=by
 intro y v hy h;cases y with
 |agg cs=>grind
 |list xs=>grind [IV.dw,RV,iM.mono]
 |bool b=>simpa[IV.dw,RV,iM] using h
 |int k n=>simpa[IV.dw,RV,iM] using h
 |str s=>simpa[IV.dw,RV,iM] using h
 |ifc t=>simp[IV.dw,RV] at h;obtain⟨u,rfl,_⟩:=h;exact⟨u,rfl⟩
theorem kI {w:World} {I:Nat->Prop}:∀(cs:List IV) (b o:Nat),(∀j z,cs[j]?=some z->∃v,w.cell? ⟨b,o+j,none⟩=some v/\iM w I z v)->b7 w I cs b o
 |[],b,o,_=>by simp[b7]
 |z::r,b,o,h=>by
  simp only[b7];refine⟨by simpa using h 0 z ajL,kI r b (o+1) (λj y hj=> ?_)⟩;have:=h (j+1) y ajV
  grind
theorem mB {w:World} {I:Nat->Prop} {sz:Nat}:∀(xs:List IV) (b o:Nat),(∀k y,xs[k]?=some y->kt w I y b (o+k*sz) sz)->cd w I xs b o sz
 |[],b,o,_=>by simp[cd]
 |y::r,b,o,h=>by
  simp only[cd];refine⟨by simpa using h 0 y ajL,mB r b (o+sz) (λk z hk=> ?_)⟩;have:=h (k+1) z ajV
  grind
def WN (hr:aO K β env H a w) {o:Oper} {c:Call} {s x:Operand} {s' x':O} {st xt e:TypeId} {i:TypeInfo} {z:Value} {dx:TypeDesc} (ho:o.op= .call c) (hc:c.callee= .builtin .append)
  (ha:c.args.toList=[s,x]) (xz:c.argTypes.toList=[st,xt]) (fG:K.P.underlying st=some (.slice e)) (hi:K.P.info? e=some i) (hz:i.zero=some z) (Er:z.cells.size=i.size) (h0:0<i.size)
  (HL:K.P.underlying xt=some dx) (R7:dx= .string\/∃e2,dx= .slice e2) (hs:co K.G s=some s') (hx:co K.G x=some x') {y:AV}
  (hy:aw (.Ht s' x' i.size i.bytes) env=some y):a7 K β H a w o y:=by
 have Br:c.args=#[s,x]:=ajV
 have HM:c.argTypes=#[st,xt]:=ajV
 have nP:(execOp a.eval o).run K.P w=((Builtin.append_ #[st,xt] o.type #[a.eval s,a.eval x]).run K.P w).andThen λv w'=> .ok (.value v) w':=by
  simp[execOp,ho,resolve,hc,Br,HM,invoke,builtin]
 have yD:=hr.ev hs;have afw:∀(news:List (List AV)) (vals:List Value),news.length=0->Src K β H w i.size (a.eval x) news vals->ev env s'= .nil0->a7 K β H a w o (.list []):=by
  intro news vals ED S e1;rw[e1] at yD;obtain⟨ad,yD⟩:=yD;have cf:news=[]:=agU ED;subst cf;have hve:vals=[]:=agU (by simpa using S.len);subst hve;have pt:=lh (ty:=o.type) fG hi HL R7 ad 0 0 0 (a.eval x) #[] S.lenOf (S.cells w (.inl rfl)) ajK
  refine a7.same (v:= .slice ad 0 0) ?_ ?_ ajP
  ·rw[nP,yD,pt];cases ad<;>simp[storeCells]
  simp[RV,iM];exact⟨ad,0,rfl,af6 _,ajL,.inl rfl⟩
 simp only[aw] at hy;split at hy
 ·rename_i xs e1 e2;split at hy
  ·rename_i jw;obtain⟨j5,ux,hb,yB,_⟩:=jw;simp at hy;subst hy;have hn:kG i.size (ev env x') H=some (xs.map λy=>y.cells.map IV.dw):=(by grind [kG]);obtain⟨vals,S⟩:=yC hr hx h0 hn;by_cases ED:xs.length=0
   ·grind
   rw[e1] at yD;obtain⟨ad,yD⟩:=yD;have xy:(xs.map λy=>y.cells.map IV.dw).length=xs.length:=eD _;have JT:(Builtin.firstCells i.size 0 (.slice ad 0 0)).run K.P w.drew= .ok #[] w.drew:=by
    cases ad with
    |none=>rfl
    |some q=>simp[Builtin.firstCells,loadCells,loadCellsFrom]
   have hlen:=S.lenOf;have s9:=S.cells w.drew (.inr rfl);rw[xy] at hlen s9;have pt:=qz (ty:=o.type) fG hi hz HL R7 ad 0 0 xs.length (a.eval x) vals.toArray #[] hlen s9 JT ajK ajV yB
   have EF:=grownCap_ge w (0+xs.length) 0 e;have R4:=grownCap_le_maxLen w (0+xs.length) 0 e (by
    have:=ahw xs.length yB;simp only[maxLen];omega)
   have gw:=(wc w).trans (iA w.drew (.cells (#[]++vals.toArray++Builtin.zeroCells z.cells (grownCap w (0+xs.length) 0 e - (0+xs.length))) e))
   refine⟨.slice (some ⟨w.heap.size,0,none⟩) (0+xs.length) (grownCap w (0+xs.length) 0 e),_,by rw[nP,yD,pt];rfl,gw,?_,ajP⟩;refine⟨_,_,by rw[agh],ajK,R4,.inr ⟨w.heap.size,0,i.size,rfl,hr.fresh,?_,h0,?_⟩⟩
   ·simp
   refine mB _ _ _ (λk y Bx=> ?_);rw[hQ];have yA:y.cells.length=i.size:=j5 y (af3 Bx);refine⟨yA.symm,kI _ _ _ (λj q hq=> ?_)⟩;obtain⟨v,q1,q2⟩:=S.rv k j (y.cells.map IV.dw) q.dw ajV anv;refine⟨v,?_,iM.mono (oB.BV gw β H (Im K β H) []).tojt _ _ (zg (I:=Im K β H) (w:=w) ⟨λk hk hs=>⟨hk,hs,rfl⟩⟩ (ux y (af3 Bx) q (af3 hq)) q2)⟩;have hh:(w.drew.alloc (.cells (#[]++vals.toArray++Builtin.zeroCells z.cells (grownCap w (0+xs.length) 0 e - (0+xs.length))) e)).heap[w.heap.size]?=some (.cells (#[]++vals.toArray++Builtin.zeroCells z.cells (grownCap w (0+xs.length) 0 e - (0+xs.length))) e):=heap_alloc_new w.drew _
   rw[cell_of_row _ _ _ _ _ _ hh]
   grind
  grind
 ·rename_i e1 e2;split at hy
  ·simp at hy;subst hy;have hn:kG i.size (ev env x') H=some []:=(by grind [kG]);obtain⟨vals,S⟩:=yC hr hx h0 hn
   grind
  grind
 grind
def wj {P:Program} {w:World} {st xt ty e:TypeId} {i:TypeInfo} {z:Value} {k0:IntKind} (hu:P.underlying st=some (.slice e)) (hi:P.info? e=some i) (hz:i.zero=some z) (hx:P.underlying xt=some (.int k0))
  (ad:Option Addr) (n c m:Nat) (k:IntKind) (olds:Array Value) (h0:0<m*i.size)
  (ho:(Builtin.firstCells i.size n (.slice ad n c)).run P w.drew= .ok olds w.drew) (xw:c<n+m) (hb:(n+m)*i.bytes<=140737488355328) (yB:0<i.bytes) :
  (Builtin.append_ #[st,xt] ty #[.slice ad n c,.int k (m:Int)]).run P w= .ok (.slice (some ⟨w.heap.size,0,none⟩) (n+m) (grownCap w (n+m) c e))
   (w.drew.alloc (.cells (olds++Builtin.zeroCells z.cells m++Builtin.zeroCells z.cells (grownCap w (n+m) c e - (n+m))) e)):=by
 have hn:¬(n+m<=c):=ajK
 have h63:n+m<=(n+m)*i.bytes:=ahw _ yB;have Wz:¬(9223372036854775807<((n:Int)+(m:Int))):=ajK
 have WA:¬(281474976710656<Builtin.nextslicecap (n+m) c*i.bytes):=amX
 have hw:IntKind.i64.wrap (m:Int)=m:=by rw[IntKind.wrap_i64];omega
 have adE:¬((m:Int)<0):=ajK
 have adF:¬(281474976710656<(m:Int)*(i.bytes:Int)):=by
  grind
 have Bc:¬(m*i.size=0):=ajK
 have afH:m≠0:=λh=>Bc ajV;have adG:i.size≠0:=λh=>Bc ajV;simp[Builtin.append_,run_underlying hu,run_underlying hx,sizeOf,typeInfo,zeroValue,hi,hz,asInt,asIntOf,hw,hn,adE,adG,Wz,WA,adF,Question.forced,ho,newRow,grownCap]
 grind
def WO (hr:aO K β env H a w) {o:Oper} {c:Call} {s x:Operand} {s' x':O} {st xt e:TypeId} {i:TypeInfo} {z:Value} {zs:List AV} {k0:IntKind} {d:Nat} (hd:d<K.N) (ho:o.op= .call c) (hc:c.callee= .builtin .append)
  (ha:c.args.toList=[s,x]) (xz:c.argTypes.toList=[st,xt]) (fG:K.P.underlying st=some (.slice e)) (hi:K.P.info? e=some i) (hz:i.zero=some z) (Er:z.cells.size=i.size) (h0:0<i.size) (yB:0<i.bytes)
  (HL:K.P.underlying xt=some (.int k0)) (Bu:y7 z.cells.toList=some zs) (hs:co K.G s=some s') (hx:co K.G x=some x') {y:AV} {H':Hp}
  (hy:B0 i.size i.bytes d zs (ev env s') (ev env x') H=some (y,H')):me K env a w o (some d) y H':=by
 have Br:c.args=#[s,x]:=ajV
 have HM:c.argTypes=#[st,xt]:=ajV
 have nP:(execOp a.eval o).run K.P w=((Builtin.append_ #[st,xt] o.type #[a.eval s,a.eval x]).run K.P w).andThen λv w'=> .ok (.value v) w':=by
  simp[execOp,ho,resolve,hc,Br,HM,invoke,builtin]
 have yD:=hr.ev hs;have Bh:=hr.ev hx;unfold B0 at hy;split at hy
 ·rename_i l s0 i0 n c0 k m e1 e2;rw[e1] at yD;rw[e2] at Bh;obtain⟨ad,h1,h2,h3,h4,h5⟩:=yD;split at hy
  ·rename_i r hl;split at hy
   ·rename_i jw;obtain⟨rfl,pg,rfl,xy,ED,xw,hb,hu⟩:=jw;obtain⟨q,rfl⟩:=ahx ED;simp only[af0] at xw hb hy;obtain⟨rfl,rfl⟩:=hy;have Z5:(r.els.take n).length=n:=ajV;have R6:∀cs∈r.els.take n,cs.length=i.size:=λcs aZ=>(by rw[<-pg];exact(hr.rows l r hl).2.1 cs (agH aZ));have WC:∀cs∈r.els.take n,∀q∈ai cs,H q≠ .unused:=λcs aZ=>hr.cB l r hl cs (agH aZ);have SC:zs.length=i.size:=akC;have NM:=mU _ _ Bu w β H (Im K β H);have EF:=grownCap_ge w (n+q) c0 e;have R4:=grownCap_le_maxLen w (n+q) c0 e (by
     have:=ahw (n+q) yB;simp only[maxLen];omega)
    have olds:∃olds:List Value,olds.length=n*i.size/\(∀i' j cs x0,(r.els.take n)[i']?=some cs->cs[j]?=some x0->∃v,olds[i'*i.size+j]?=some v/\RV w β H (Im K β H) x0 v) /\
      (Builtin.firstCells i.size n (.slice ad n c0)).run K.P w.drew= .ok olds.toArray w.drew:=by
     by_cases hcz:c0=0
     ·have ov:n=0:=ajK;subst ov;refine⟨[],ajL,ajL,?_⟩;cases ad with
      |none=>rfl
      |some q=>simp[Builtin.firstCells,loadCells,loadCellsFrom]
     rcases h5 ⟨r,hl⟩ with h6|⟨g,Sz,g1,rfl,g3,g4⟩
     ·exact absurd h6 hcz
     obtain⟨cur,e0,cap,k1,k2,k3,k4,k5⟩:=(hr.rows l r hl).block g1;rw[pg] at k2;have aaJ:n*i.size<=cur.size:=(by rw[k2];exact agy _ ajK);have ze:(cur.toList.take (n*i.size)).length=n*i.size:=ajV;refine⟨cur.toList.take (n*i.size),ze,?_,?_⟩
     ·intro i' j cs x0 gT nI;rw[agG] at gT;split at gT
      ·rename_i aF;obtain⟨v,q1,q2⟩:=k5 i' j cs x0 gT nI;rw[pg] at q1;refine⟨v,?_,q2⟩;have ZU:j<i.size:=by
        have:=(hr.rows l r hl).2.1 cs (af3 gT)
        grind
       have iw:i'*i.size+j<n*i.size:=by
        have:=agy i.size (show i'+1<=n by omega)
        grind
       rw[agG,agc iw];simpa using q1
      simp at gT
     exact run_firstCells_some (P:=K.P) w.drew i.size n ⟨g,0*i.size,none⟩ n c0 _ ze (λj v hj=>by
      rw[addr_add,ahM];have:w.cell? ⟨g,j,none⟩=some v:=by
       rw[cell_of_row w g _ cur e0 (0,0) k1];rw[agG] at hj;split at hj
       ·simpa using hj
       simp at hj
      simpa using this)
    obtain⟨olds,WG,Z6,ho3⟩:=olds;have hmp:0<q*i.size:=Nat.mul_pos ajK h0;have pt:=wj (ty:=o.type) fG hi hz HL ad n c0 q k olds.toArray hmp ho3 xw hb yB;have hAz:(List.replicate q zs).length=q:=aiN;have:=rA hr hr (λ_ h=>h) (λ_ h=>h) (o:=o) hd (e:=e) (n:=n) (m:=q) (A:=r.els.take n) (news:=List.replicate q zs) (olds:=olds) (vals:=(Builtin.zeroCells z.cells q).toList)
     (rest:=(Builtin.zeroCells z.cells (grownCap w (n+q) c0 e - (n+q))).toList) h0 hu hu Z5 hAz R6 (λcs aZ=>by rw[ahk aZ,SC]) WC
     (λcs aZ p hp=>by rw[ahk aZ,mV _ _ Bu] at hp;simp at hp) WG (by rw[lj,Er,hAz]) Z6 (by rw[<-Er];exact wi z.cells zs q NM ajK)
     (cap:=grownCap w (n+q) c0 e) (by
      have h9:=Oh (sz:=i.size) EF;simp only[age,WG,lj,Er];rw[<-ag0];exact h9) R4 EF (by
      rw[nP,h1,Bh,pt];exact Og _ _ ajL)
    grind
   grind
  grind
 grind
def LD {x:AV} (h:x.Bq=true):∀l∈ai x.cells,l∈x.aq:=by
 intro l hl;cases x<;>simp[AV.cells,ai] at hl<;>simp[AV.aq] at hl ⊢<;>exact hl
theorem nQ (l m:List AV):ai (l++m)=ai l++ai m:=by
 induction l with
 |nil=>rfl
 |cons x r ih=>grind [ai]
theorem B1:∀(qs:List (Nat×Nat×AV)) (c c':List AV),gF c qs=some c'->∀l∈ai c',l∈ai c\/∃q∈qs,l∈q.2.2.aq
 |[],c,c',h,l,hl=>by simp[gF] at h;subst h;exact .inl hl
 |(off,sz,x)::qs,c,c',h,l,hl=>by
  simp only[gF] at h;split at h
  ·rename_i hc;rcases B1 qs _ _ h l hl with h1|⟨q,h1,h2⟩
   ·rw[nQ,nQ,agi,agi] at h1;rcases h1 with(h1|h1)|h1
    ·grind [nQ,agD,agi]
    ·simp_all[LD]
    left;have:=nQ (c.take (off+sz)) (c.drop (off+sz));simp_all
   grind
  grind
def SD (hr:aO K β env H a w) {o:Oper} {t e:TypeId} {ps:Array (Nat×Operand)} {i:TypeInfo} {z:Value} {zs:List AV} {xs:List O} {d:Nat} (hd:d<K.N) (ho:o.op= .buildSlice t 1 ps)
  (ht:K.P.underlying t=some (.slice e)) (hi:K.P.info? e=some i) (hz:i.zero=some z) (Er:z.cells.size=i.size) (h0:0<i.size) (hn:1*i.size<=2^24)
  (Bu:y7 z.cells.toList=some zs) (JL:cos K.G (ps.toList.map (·.2))=some xs) {y:AV} {H':Hp}
  (hy:C' i.size d zs (((ps.toList.map (·.1)).zip xs).map λp=>(p.1,ev env p.2)) H=some (y,H')):me K env a w o (some d) y H':=by
 unfold C' at hy;obtain⟨cs,h1,hy⟩:=afX.1 hy;split at hy
 ·rename_i jw;obtain⟨hu,hlen,_⟩:=jw;obtain⟨rfl,rfl⟩:=hy;have HA:=mU _ _ Bu w β H (Im K β H);have hzero:=y9 z.cells zs w β H (Im K β H) HA ajK 1;have hm:∀l∈ai cs,H l≠ .unused:=by
   intro l hl;rcases B1 _ _ _ h1 l hl with h2|⟨q,h2,h3⟩
   ·grind [mV]
   simp only[aiE,agp,Function.comp] at h2;obtain⟨p,hp,rfl⟩:=h2;have HP:p.2∈xs:=(List.of_mem_zip (a:=p.1) (b:=p.2) hp).2;obtain⟨k,hk⟩:=agE HP;exact oC hr _ _ JL l (dW _ k _ ajV l h3)
  have hlx:xs.length=ps.toList.length:=by
   have:=bA.len _ _ (oc hr _ _ JL)
   grind
  have bV:=s8 hr (λj=>some (j*i.size,i.size)) ps.toList xs (((ps.toList.map (·.1)).zip xs).map λp=>(p.1*i.size,i.size,p.2)) JL
   ajV
   (by
    intro j p x q g1 g2 g3;simp only[ago,ajb,acF] at g3;obtain⟨⟨u,v⟩,⟨⟨p',e1,e2⟩,e3⟩,rfl⟩:=g3;rw[g1] at e1;cases e1;rw[g2] at e3;cases e3;exact⟨rfl,by simp[e2]⟩)
  obtain⟨cur',f1,f2⟩:=uv (λj=>some (j*i.size,i.size)) _ _ _ cs _ hzero amK bV;have Oa:Instr.fill (λj=>some (j*i.size,i.size)) ((Array.range (1*i.size)).map (z.cells[·%z.cells.size]!)) (ps.toList.map λp=>(p.1,a.eval p.2))=some cur':=by
   grind
  have Wr:¬1*i.size=0:=ajK
  have hso:=dy (P:=K.P) (t:=e) (s:=i.size) (by simp[Be,hi]) w;have mm:(execOp a.eval o).run K.P w= .ok (.value (.slice (some ⟨w.heap.size,0,none⟩) 1 1)) (w.alloc (.cells cur' e)):=by
   simp only[execOp,ho,Instr.buildSlice,Sem.run_bind,run_underlying ht,Result.andThen_ok,hso,Sem.run_ite,Wr,agk,zeroValue,typeInfo,run_program,hi,hz,
    aje,show ¬1*i.size>2^24 by omega,Sem.run_pure,Result.andThen,Oa]
   rfl
  have uw:cur'.size=i.size:=by have:=bA.len _ _ f2;simp at this;omega
  have gw:=iA w (.cells cur' e);have d_:=C8 hr (H':=aS H (.loc d) (.live ⟨i.size,[cs]⟩)) (lb:= .loc d) (b:=some w.heap.size) gw hu ajL (λp hp ⟨r,h⟩=>by rw[an _ _ hp] at h;exact⟨r,h⟩);have oE:yg (w.alloc (.cells cur' e)) (aS β (.loc d) (some w.heap.size)) (aS H (.loc d) (.live ⟨i.size,[cs]⟩))
    (Im K (aS β (.loc d) (some w.heap.size)) (aS H (.loc d) (.live ⟨i.size,[cs]⟩))) (.loc d) ⟨i.size,[cs]⟩:=by
   refine⟨h0,by simp[hlen],?_⟩;simp only[lD];refine⟨cur',e,1,heap_alloc_new w _,by simp[uw],akZ,ajL,λi' j fB x gT nI=> ?_⟩;cases i' with
   |succ i'=>grind
   |zero=>
   simp at gT;subst gT;obtain⟨v,k1,k2⟩:=bA.get _ _ _ _ f2 nI;exact⟨v,amI,RV.mono _ _ (d_ _ (λl hl=>hm l (dW _ _ _ nI l hl))) k2⟩
  have h3:=hr.qx (.loc d) hu gw (some w.heap.size) ajL ajV oE;have h4:=h3.step (Below.refl _ _) (d:=some d) (x:= .sl (.loc d) i.size 0 1) (v:= .slice (some ⟨w.heap.size,0,none⟩) 1 1) ajV
   (λ_=>by
    simp only[RV];refine⟨_,1,rfl,af6 _,akZ,ajL,λ_=> .inr ⟨w.heap.size,i.size,ajL,ajL,?_,ajL⟩⟩;have hh:(w.alloc (.cells cur' e)).heap[w.heap.size]?=some (.cells cur' e):=heap_alloc_new w _;unfold oy;rw[hh];simp only[uw]) ajP
  exact⟨_,_,_,_,mm,.inl rfl,h4⟩
 grind
end
end Go.Am

namespace Go.Am
open Go Go.RowKit
def ak (xs:List IV):List (List AV):=xs.map λy=>y.cells.map IV.dw
def Flat (xs:List IV):Prop:=∀y∈xs,∀z∈y.cells,∀cs,z≠ .agg cs
def Hp.none:Hp:=λ_=> .unused
def Env.any:Env:=λ_=> .any
def sO:Act:={tmps:=#[],defers:=[]}
def JV (β:Lb->Option Nat) (H:Hp) (k:Nat):Prop:=∃l,live H l/\β l=some k
def cH (P:Program) (G:Nat->Option (List IV)) (w:World) (A:Nat->Prop) (β:Lb->Option Nat) (H:Hp):Kx:=⟨P,G,w,A,JV β H,0,H,β⟩
def er (P:Program) (G:Nat->Option (List IV)) (f:Nat) (args:List AV) (H:Hp) (Q:AV->Hp->Prop):Prop:=
 ∀(w:World) (A:Nat->Prop) (β:Lb->Option Nat) (vs:List Value),aO (cH P G w A β H) β Env.any H sO w->bA w β H (Im (cH P G w A β H) β H) args vs ->
  Calls P f vs.toArray w λe w'=>∃v x H' β',e= .returned v/\Q x H'/\aO (cH P G w A β H) β' Env.any H' sO w' /\
   RV w' β' H' (Im (cH P G w A β H) β' H') x v/\∀l∈x.aq,H' l≠ .unused
def aj (P:Program) (G:Nat->Option (List IV)) (f:Nat) (args:List AV) (res:AV):Prop:=
 ai args=[]/\res.aq=[]/\er P G f args Hp.none λx _=>x=res
def er.mono {P:Program} {G:Nat->Option (List IV)} {f:Nat} {args:List AV} {H:Hp} {Q Q':AV->Hp->Prop} (h:er P G f args H Q) (hq:∀x H,Q x H->Q' x H):er P G f args H Q':=
 λw A β vs hr hv=>(h w A β vs hr hv).mono λe w' ⟨v,x,H',β',h1,h2,h3⟩=>⟨v,x,H',β',h1,hq _ _ h2,h3⟩
def gW (g:Option (Nat×Bool)) (env:Env):Option Bool:=
 match g with
 |none=>some true
 |some (s,t)=>match env s with
  | .bool b=>some (b==t)
  | .un=>some false
  |_=>none
structure St where
 P:Program
 G:Nat->Option (List IV)
 N:Nat
mutual
def aH (ρ:Lb->Lb):AV->AV
 | .sl l sz i n=> .sl (ρ l) sz i n
 | .slk l sz i n c=> .slk (ρ l) sz i n c
 | .ptr l sz i j=> .ptr (ρ l) sz i j
 | .agg cs=> .agg (aA ρ cs)
 | .bq cs=> .bq (aA ρ cs)
 | .fn f fs cs=> .fn f (aA ρ fs) (aA ρ cs)
 | .ifc t x=> .ifc t (aH ρ x)
 |x=>x
def aA (ρ:Lb->Lb):List AV->List AV
 |[]=>[]
 |x::r=>aH ρ x::aA ρ r
end
def aP (ρ:Lb->Lb) (r:Row):Row:=⟨r.sz,r.els.map (aA ρ)⟩
structure Pass (S:St) (f:Nat) (args:List AV) (H:Hp) (k:AV->Hp->Prop):Prop where
 h:∃(ρ:Lb->Lb) (nR:Hp) (bW:List AV) (Q:AV->Hp->Prop),er S.P S.G f bW nR Q/\args=aA ρ bW /\
  (∀l r,nR l= .live r->H (ρ l)= .live (aP ρ r))/\(∀l,nR l≠ .unused->live nR l) /\
  (∀l l',live nR l->live nR l'->ρ l=ρ l'->l=l')/\(∀l∈ai bW,nR l≠ .unused)/\(∀l,live nR l->l.fresh=false)/\(∀l r,nR l= .live r->∀cs∈r.els,∀q∈ai cs,nR q≠ .unused) /\
  ∀x H',Q x H'->∃(ρ':Lb->Lb) (lS:Hp),(∀l,live nR l->live H' l->ρ' l=ρ l) /\
   (∀q r,lS q= .live r->(H q= .live r/\∀l,live nR l->ρ l≠q)\/∃l r',H' l= .live r'/\ρ' l=q/\r=aP ρ' r') /\
   (∀l l',live H' l->live H' l'->ρ' l=ρ' l'->l=l') /\
   (∀q,H q≠ .unused->lS q≠ .unused)/\(∀l∈x.aq,lS (ρ' l)≠ .unused) /\
   (∀l r',H' l= .live r'->∀cs∈r'.els,∀q∈ai cs,lS (ρ' q)≠ .unused) /\
   (∀l,live H' l->live nR l\/(H (ρ' l)= .unused/\((ρ' l).fresh=true->l.fresh=true\/∀z,live nR z->(ρ z).fresh=true))) /\
   (∀l,(l∈x.aq\/∃l1 r1 cs,H' l1= .live r1/\cs∈r1.els/\l∈ai cs)->live lS (ρ' l)->live H' l)/\k (aH ρ' x) lS
mutual
def AV.scalar:AV->Bool
 | .bool _| .int _ _| .str _| .mT| .jS=>true
 | .bq cs=>scalars cs
 |_=>false
def scalars:List AV->Bool
 |[]=>true
 |x::r=>x.scalar&&scalars r
end
inductive C_ (H:Hp):AV->AV->Prop where
 |same (x:AV):C_ H x x
 |row (l:Lb) (sz i n:Nat) (xs:List IV):H l= .live ⟨sz,ak xs⟩->i+n<=xs.length->Flat xs->C_ H (.sl l sz i n) (.list ((xs.drop i).take n))
structure adH (S:St) (f:Nat) (args:List AV) (H:Hp) (k:AV->Hp->Prop):Prop where
 h:∃bW res,dN (C_ H) args bW/\aj S.P S.G f bW res/\res.scalar=true/\k res H
def oG (S:St) (f:Nat) (args:List AV) (H:Hp) (k:AV->Hp->Prop):Prop:=
 (∃res,aj S.P S.G f args res/\k res H)\/adH S f args H k\/Pass S f args H k
def By:AV->Option (List Bool)
 | .list []=>some [true,false]
 | .list (_::_)=>some [false]
 | .nil0=>some [true,false]
 | .sl _ _ _ n=>some (if 0<n then [false] else [true,false])
 | .slk _ _ _ n _=>some (if 0<n then [false] else [true,false])
 |_=>none
def lT (S:St) (f:Nat) (args:List AV) (H:Hp) (res:AV):Prop:=
 ∀(K:Kx) (β:Lb->Option Nat) (env:Env) (a:Act) (w:World) (vs:List Value),(⟨K.P,K.G,K.N⟩:St)=S->aO K β env H a w->bA w β H (Im K β H) args vs ->
  ∃v w',(callFunc f vs.toArray).run K.P w= .ok (.value v) w'/\oB w w'/\RV w' β H (Im K β H) res v/\∀l∈res.aq,H l≠ .unused
def dX (S:St) (d:Option Nat) (i:ju) (env:Env) (H:Hp) (k:AV->Hp->Prop):Prop:=
 match i with
 | .load m a=>(∃x,aw (.load m a) env=some x/\k x H)\/(∃x,eV m (ev env a) H=some x/\k x H)
 | .box x=>∃n,d=some n/\H (.loc n)= .unused/\(ev env x).Bq=true/\0<(ev env x).cells.length/\(ev env x).cells.length<=maxLen /\
  k (.ptr (.loc n) (ev env x).cells.length 0 0) (aS H (.loc n) (.live ⟨(ev env x).cells.length,[(ev env x).cells]⟩))
 | .new cs=>∃n,d=some n/\H (.loc n)= .unused/\0<cs.length/\cs.length<=maxLen/\k (.ptr (.loc n) cs.length 0 0) (aS H (.loc n) (.live ⟨cs.length,[cs]⟩))
 | .store m a x=>d=none/\∃H',kF m (ev env a) (ev env x) H=some H'/\k .un H'
 | .app s x sz bytes=>∃n,d=some n/\∃y H',iQ sz bytes n (ev env s) (ev env x) H=some (y,H')/\k y H'
 | .call f args=>oG S f (args.map (ev env)) H k
 | .qq x args=>∃f first cap,ev env x= .fn f first cap/\dE S.P f=true/\oG S f (first++args.map (ev env)++cap) H k
 | .ZY n x=>∃bs,By (ev env x)=some bs/\∀b∈bs,k (.bool (n ^^ b)) H
 | .cap x=>∃R,Oj (ev env x)=some R/\∀m,R m->m<=maxLen->k (.int .i64 (m:Int)) H
 | .Hi s x sz=>∃y H',EI sz (ev env s) (ev env x) H=some (y,H')/\k y H'
 | .N3 x sz z=>∃H',C9 sz z (ev env x) H=some H'/\k (.bq []) H'
 | .RZ n c sz bytes z=>∃q,d=some q/\∃y H',zf sz bytes q z (ev env n) (ev env c) H=some (y,H')/\k y H'
 | .y6 f args=>∃res,lT S f (args.map (ev env)) H res/\k res H
 | .Hu s n sz bytes z=>∃q,d=some q/\∃y H',B0 sz bytes q z (ev env s) (ev env n) H=some (y,H')/\k y H'
 | .oz sz z ps=>∃q,d=some q/\∃y H',C' sz q z (ps.map λp=>(p.1,ev env p.2)) H=some (y,H')/\k y H'
 |i=>∃x,aw i env=some x/\k x H
def AO (S:St):List bd->Env->Hp->(Env->Hp->Prop)->Prop
 |[],env,H,k=>k env H
 |i::r,env,H,k=>(gW i.g env=some true/\(∀n,i.d=some n->n<S.N)/\dX S i.d i.i env H λx H'=>AO S r (eh env i.d x) H' k) \/
  (gW i.g env=some false/\(∀n,i.d=some n->n<S.N)/\AO S r (eh env i.d .un) H k)
def oH (P:Program) (G:Nat->Option (List IV)) (ops:Array Oper) (o:Oper):Option bd:=
 match o.guard with
 |none=>(comp P G o).map λi=>⟨o.dst,none,i⟩
 |some (j,t)=>((ops[j]?).bind (·.dst)).bind λs=>(comp P G o).map λi=>⟨o.dst,some (s,t),i⟩
def ju.lU:ju->ju
 | .Ht s x sz b=> .app s x sz b
 | .oz sz z ps=> .lits 1 sz z ps
 |i=>i
def bd.lU (i:bd):bd:={i with i:=i.i.lU}
section
variable {K:Kx} {β:Lb->Option Nat} {env:Env} {H:Hp} {a:Act} {w:World}
mutual
theorem Da (ρ:Lb->Lb):∀x:AV,(aH ρ x).aq=x.aq.map ρ
 | .sl ..| .slk ..| .ptr ..| .any| .un| .bool _| .int ..| .str _| .list _| .nil0| .mT| .jS| .lptr _| .mis _=>by simp[aH,AV.aq]
 | .agg cs=>by simp[aH,AV.aq,oJ ρ cs]
 | .bq cs=>by simp[aH,AV.aq,oJ ρ cs]
 | .fn f fs cs=>by simp[aH,AV.aq,oJ ρ fs,oJ ρ cs]
 | .ifc t x=>by simp[aH,AV.aq,Da ρ x]
theorem oJ (ρ:Lb->Lb):∀xs:List AV,ai (aA ρ xs)=(ai xs).map ρ
 |[]=>by simp[aA,ai]
 |x::r=>by simp[aA,ai,Da ρ x,oJ ρ r]
end
theorem uy (ρ:Lb->Lb):∀(xs:List AV) (i:Nat),(aA ρ xs)[i]?=xs[i]?.map (aH ρ)
 |[],i=>by simp[aA]
 |x::r,0=>by simp[aA]
 |x::r,i+1=>by simp[aA,uy ρ r i]
theorem uz (ρ:Lb->Lb):∀(xs:List AV),(aA ρ xs).length=xs.length
 |[]=>rfl
 |x::r=>by simp[aA,uz ρ r]
structure tc (w w':World) (β β':Lb->Option Nat) (H H':Hp) (I I':Nat->Prop) (ρ:Lb->Lb) (ls:List Lb):Prop extends jt w w' I I' where
 lb:∀l∈ls,live H' l->live H (ρ l)/\β' l=β (ρ l)/\∀g S,β (ρ l)=some g->oy w g=some S->oy w' g=some S
def tc.sub {w w':World} {β β':Lb->Option Nat} {H H':Hp} {I I':Nat->Prop} {ρ:Lb->Lb} {ls ls':List Lb} (h:tc w w' β β' H H' I I' ρ ls) (hs:∀l∈ls',l∈ls) :
 tc w w' β β' H H' I I' ρ ls':=⟨h.tojt,λl hl=>h.lb l (hs l hl)⟩
mutual
theorem RV.aH {w w':World} {β β':Lb->Option Nat} {H H':Hp} {I I':Nat->Prop} {ρ:Lb->Lb}:∀(x:AV) (v:Value),tc w w' β β' H H' I I' ρ x.aq->RV w β H I (Am.aH ρ x) v->RV w' β' H' I' x v
 | .any,_,_,_=>by simp[RV]
 | .un,_,_,hv=>by simpa[RV,Am.aH] using hv
 | .bool _,_,_,hv=>by simpa[RV,Am.aH] using hv
 | .int _ _,_,_,hv=>by simpa[RV,Am.aH] using hv
 | .str _,_,_,hv=>by simpa[RV,Am.aH] using hv
 | .nil0,_,_,hv=>by simpa[RV,Am.aH] using hv
 | .mT,_,_,hv=>by simpa[RV,Am.aH] using hv
 | .jS,_,_,hv=>by simpa[RV,Am.aH] using hv
 | .list xs,v,h,hv=>by simp only[RV,Am.aH] at hv ⊢;exact iM.mono h.tojt _ _ hv
 | .agg cs,v,h,hv=>by
  simp only[RV,Am.aH] at hv ⊢;obtain⟨vs,rfl,h1⟩:=hv;exact⟨vs,rfl,bA.aH cs vs ak9 h1⟩
 | .bq cs,v,h,hv=>by
  simp only[RV,Am.aH] at hv ⊢;obtain⟨vs,rfl,h1⟩:=hv;exact⟨vs,rfl,bA.aH cs vs ak9 h1⟩
 | .slk l sz i n c,v,h,hv=>by
  simp only[RV,Am.aH] at hv ⊢;obtain⟨a,h1,h2,h3,h4,h5⟩:=hv;refine⟨a,h1,h2,h3,h4,λhl=> ?_⟩;obtain⟨k1,k2,k3⟩:=h.lb l ajP hl;rcases h5 k1 with h6|⟨g,S,e1,e2,e3,e4⟩
  ·exact .inl h6
  exact Lr
 | .sl l sz i n,v,h,hv=>by
  simp only[RV,Am.aH] at hv ⊢;obtain⟨a,c,h1,h2,h3,h4,h5⟩:=hv;refine⟨a,c,h1,h2,h3,h4,λhl=> ?_⟩;obtain⟨k1,k2,k3⟩:=h.lb l ajP hl;rcases h5 k1 with h6|⟨g,S,e1,e2,e3,e4⟩
  ·exact .inl h6
  exact Lr
 | .ptr l sz i j,v,h,hv=>by
  simp only[RV,Am.aH] at hv ⊢;obtain⟨a,h1,h2⟩:=hv;refine⟨a,h1,λhl=> ?_⟩;obtain⟨k1,k2,k3⟩:=h.lb l ajP hl;obtain⟨g,e1,e2⟩:=h2 k1;exact⟨g,k2.trans e1,e2⟩
 | .lptr cs,v,h,hv=>by
  simp only[RV,Am.aH] at hv ⊢;obtain⟨b,o,h1,h2,h3,h4⟩:=hv;obtain⟨k1,k2,_⟩:=h.im b h2 h3;exact⟨b,o,h1,k1,k2,b7.mono h.tojt cs b o h2 h3 h4⟩
 | .fn f fs cs,v,h,hv=>by
  simp only[RV,Am.aH] at hv ⊢;obtain⟨vs,us,rfl,h1,h2⟩:=hv;exact⟨vs,us,rfl,bA.aH fs vs (h.sub amr) h1,bA.aH cs us (h.sub ams) h2⟩
 | .ifc t x,v,h,hv=>by
  simp only[RV,Am.aH] at hv ⊢;obtain⟨u,rfl,h1⟩:=hv;exact⟨u,rfl,RV.aH x u ak9 h1⟩
 | .mis es,v,h,hv=>by simp only[RV,Am.aH] at hv ⊢;exact Hs.mono h.tojt hv
theorem bA.aH {w w':World} {β β':Lb->Option Nat} {H H':Hp} {I I':Nat->Prop} {ρ:Lb->Lb}:∀(xs:List AV) (vs:List Value),tc w w' β β' H H' I I' ρ (ai xs)->bA w β H I (aA ρ xs) vs->bA w' β' H' I' xs vs
 |[],_,_,hv=>by simpa[bA,aA] using hv
 |x::r,vs,h,hv=>by
  simp only[bA,aA] at hv ⊢;obtain⟨v,us,rfl,h1,h2⟩:=hv;exact⟨v,us,rfl,RV.aH x v (h.sub amG) h1,bA.aH r us (h.sub amH) h2⟩
end
mutual
theorem RV.Bz {w w':World} {β β':Lb->Option Nat} {H H':Hp} {I I':Nat->Prop} {ρ:Lb->Lb}:∀(x:AV) (v:Value),jt w w' I I' ->
  (∀l∈x.aq,live H' (ρ l)->live H l/\β' (ρ l)=β l/\∀g S,β l=some g->oy w g=some S->oy w' g=some S)->RV w β H I x v->RV w' β' H' I' (Am.aH ρ x) v
 | .any,_,_,_,_=>by simp[RV,Am.aH]
 | .un,_,_,_,hv=>by simpa[RV,Am.aH] using hv
 | .bool _,_,_,_,hv=>by simpa[RV,Am.aH] using hv
 | .int _ _,_,_,_,hv=>by simpa[RV,Am.aH] using hv
 | .str _,_,_,_,hv=>by simpa[RV,Am.aH] using hv
 | .nil0,_,_,_,hv=>by simpa[RV,Am.aH] using hv
 | .mT,_,_,_,hv=>by simpa[RV,Am.aH] using hv
 | .jS,_,_,_,hv=>by simpa[RV,Am.aH] using hv
 | .list xs,v,h,_,hv=>by simp only[RV,Am.aH] at hv ⊢;exact iM.mono h _ _ hv
 | .agg cs,v,h,hl,hv=>by
  simp only[RV,Am.aH] at hv ⊢;obtain⟨vs,rfl,h1⟩:=hv;exact⟨vs,rfl,bA.Bz cs vs h amz h1⟩
 | .bq cs,v,h,hl,hv=>by
  simp only[RV,Am.aH] at hv ⊢;obtain⟨vs,rfl,h1⟩:=hv;exact⟨vs,rfl,bA.Bz cs vs h amz h1⟩
 | .slk l sz i n c,v,h,hl,hv=>by
  simp only[RV,Am.aH] at hv ⊢;obtain⟨a,h1,h2,h3,h4,h5⟩:=hv;refine⟨a,h1,h2,h3,h4,λhq=> ?_⟩;obtain⟨k1,k2,k3⟩:=hl l ajP hq;rcases h5 k1 with h6|⟨g,S,e1,e2,e3,e4⟩
  ·exact .inl h6
  exact Lr
 | .sl l sz i n,v,h,hl,hv=>by
  simp only[RV,Am.aH] at hv ⊢;obtain⟨a,c,h1,h2,h3,h4,h5⟩:=hv;refine⟨a,c,h1,h2,h3,h4,λhq=> ?_⟩;obtain⟨k1,k2,k3⟩:=hl l ajP hq;rcases h5 k1 with h6|⟨g,S,e1,e2,e3,e4⟩
  ·exact .inl h6
  exact Lr
 | .ptr l sz i j,v,h,hl,hv=>by
  simp only[RV,Am.aH] at hv ⊢;obtain⟨a,h1,h2⟩:=hv;refine⟨a,h1,λhq=> ?_⟩;obtain⟨k1,k2,k3⟩:=hl l ajP hq;obtain⟨g,e1,e2⟩:=h2 k1;exact⟨g,k2.trans e1,e2⟩
 | .lptr cs,v,h,_,hv=>by
  simp only[RV,Am.aH] at hv ⊢;obtain⟨b,o,h1,h2,h3,h4⟩:=hv;obtain⟨k1,k2,_⟩:=h.im b h2 h3;exact⟨b,o,h1,k1,k2,b7.mono h cs b o h2 h3 h4⟩
 | .fn f fs cs,v,h,hl,hv=>by
  simp only[RV,Am.aH] at hv ⊢;obtain⟨vs,us,rfl,h1,h2⟩:=hv;exact⟨vs,us,rfl,bA.Bz fs vs h (λl q=>hl l (by simp[AV.aq,q])) h1,bA.Bz cs us h (λl q=>hl l (by simp[AV.aq,q])) h2⟩
 | .ifc t x,v,h,hl,hv=>by
  simp only[RV,Am.aH] at hv ⊢;obtain⟨u,rfl,h1⟩:=hv;exact⟨u,rfl,RV.Bz x u h amz h1⟩
 | .mis es,v,h,_,hv=>by simp only[RV,Am.aH] at hv ⊢;exact Hs.mono h hv
theorem bA.Bz {w w':World} {β β':Lb->Option Nat} {H H':Hp} {I I':Nat->Prop} {ρ:Lb->Lb}:∀(xs:List AV) (vs:List Value),jt w w' I I' ->
  (∀l∈ai xs,live H' (ρ l)->live H l/\β' (ρ l)=β l/\∀g S,β l=some g->oy w g=some S->oy w' g=some S)->bA w β H I xs vs->bA w' β' H' I' (aA ρ xs) vs
 |[],_,_,_,hv=>by simpa[bA,aA] using hv
 |x::r,vs,h,hl,hv=>by
  simp only[bA,aA] at hv ⊢;obtain⟨v,us,rfl,h1,h2⟩:=hv;exact⟨v,us,rfl,RV.Bz x v h (λl q=>hl l (by simp[ai,q])) h1,bA.Bz r us h (λl q=>hl l (by simp[ai,q])) h2⟩
end
def aO.jf (hr:aO K β env H a w) (ρ:Lb->Lb) {env2:Env} {H2:Hp} (hE:∀n,env2 n= .any\/env n=aH ρ (env2 n)) (hH:∀l r,H2 l= .live r->H (ρ l)= .live (aP ρ r))
   (Ol:∀l l',live H2 l->live H2 l'->ρ l=ρ l'->l=l') (hm:∀n,∀l∈(env2 n).aq,H2 l≠ .unused) (hrm:∀l r,H2 l= .live r->∀cs∈r.els,∀q∈ai cs,H2 q≠ .unused)
   (fG:∀l,live K.H0 l->H2 l≠ .unused/\(live H2 l->ρ l=l)) (Z7:∀l,live H2 l->l.fresh=true->(ρ l).fresh=true):aO K (λl=>β (ρ l)) env2 H2 a w:=by
 have aT:∀l,live H2 l->live H (ρ l):=λl ⟨r,h⟩=>⟨_,hH l r h⟩
 have d_:∀ls,tc w w β (λl=>β (ρ l)) H H2 (Im K β H) (Im K (λl=>β (ρ l)) H2) ρ ls:=λls=>
   { im := fun k hk hs => ⟨⟨hk.1,fun l hl => hk.2 (ρ l) (aT l hl)⟩,hs,rfl⟩
     lb:=λl _ hl=>⟨aT l hl,rfl,λ_ _ _ h=>h⟩}
 refine⟨hr.defers,hr.size,?_,?_,λl g hl hb=>hr.own (ρ l) g (aT l hl) hb,λl l' g h1 h2 g1 g2=>Ol l l' h1 h2 (hr.inj _ _ g (aT l h1) (aT l' h2) g1 g2),hm,hrm,hr.frame,?_,?_,λl g hl hf hb=>hr.fr (ρ l) g (aT l hl) (Z7 l hl hf) hb⟩
 · intro n
   rcases hE n with h|h
   · grind [RV]
   exact RV.aH _ _ (d_ _) (by rw[<-h];exact hr.jc n)
 · intro l r h
   obtain⟨h1,h2,h3⟩:=hr.rows (ρ l) _ (hH l r h)
   refine⟨h1,λcs aZ=> ?_,?_⟩
   · have:=h2 (aA ρ cs) (aiA aZ)
     rwa[uz] at this
   cases hb:β (ρ l) with
   |none=>simp_all[aP]
   |some g=>
   simp only[hb] at h3 ⊢
   obtain⟨cur,e,cap,e1,e2,e3,e4,e5⟩:=h3
   refine⟨cur,e,cap,e1,e2,e3,by simpa[aP] using e4,λi j cs x hi hj=> ?_⟩
   obtain⟨v,k1,k2⟩:=e5 i j (aA ρ cs) (aH ρ x) (by simp[aP,hi]) (by rw[uy,hj];rfl)
   exact⟨v,k1,RV.aH _ _ (d_ _) k2⟩
 · exact aai
 intro l hl
 obtain⟨h1,h2⟩:=fG l hl
 refine⟨h1,λh=> ?_⟩
 have e:=h2 h
 simp only[e]
 exact(hr.jv l hl).2 (e▸aT l h)
def wm (hr:aO K β env H a w) {f:Nat} {args:List AV} {vs:List Value} {res:AV} (hp:aj K.P K.G f args res) (hv:bA w β H (Im K β H) args vs)
   (afx:True):Calls K.P f vs.toArray w λe w'=>∃v,e= .returned v/\oB w w'/\RV w' β H (Im K β H) res v:=by
 obtain⟨h1,h2,h3⟩:=hp
 have od:aO (cH K.P K.G w (Im K β H) β Hp.none) β Env.any Hp.none sO w:=
   { defers := rfl,size := rfl
     jc:=λn=>by simp[Env.any,RV]
     rows:=λl r h=>by simp[Hp.none] at h
     own:=λl g ⟨r,h⟩=>by simp[Hp.none] at h
     inj:=λl l' g ⟨r,h⟩=>by simp[Hp.none] at h
     iq:=λn=>by simp[Env.any,AV.aq]
     cB:=λl r h=>by simp[Hp.none] at h
     frame:=⟨rfl,rfl,rfl,af6 _,λ_ _ _=>rfl,λ_ _ h=>h⟩
     jv:=λl ⟨r,h⟩=>by simp[cH,Hp.none] at h
     fr:=λl g ⟨r,h⟩=>by simp[Hp.none] at h
     iO:=λg cs hg=>by
       obtain⟨k1,k2,k3⟩:=hr.iO g cs hg
       have kp:jt w w (Im K β H) (Im (cH K.P K.G w (Im K β H) β Hp.none) β Hp.none):=⟨λk hk hs=>⟨⟨.inl hk,λl ⟨r,h⟩=>by simp[Hp.none] at h⟩,hs,rfl⟩⟩
       exact⟨(kp.im g k1 k2).1,k2,dD.mono kp k1 k2 k3⟩}
 have kp:ic w w β β H Hp.none (Im K β H) (Im (cH K.P K.G w (Im K β H) β Hp.none) β Hp.none) (ai args):=
   { im := fun k hk hs => ⟨⟨.inl hk,fun l ⟨r,h⟩ => by simp [Hp.none] at h⟩,hs,rfl⟩
     lb:=λl hl=>by rw[h1] at hl;simp at hl}
 refine(h3 w (Im K β H) β vs od (bA.mono _ _ kp hv)).mono ?_
 rintro e w' ⟨v,x,H',β',rfl,rfl,k1,k2,_⟩
 have gw:oB w w':=by
   refine⟨k1.frame.os,k1.frame.tape,k1.frame.output,k1.frame.size,λk hk=>k1.frame.block k hk ?_⟩
   rintro⟨l,⟨r,h⟩,_⟩
   grind [Hp.none]
 refine⟨v,rfl,gw,RV.mono _ _ ?_ k2⟩
 refine {im:=λk hk hs=>⟨?_,hs,rfl⟩,lb:=λl hl=>by rw[h2] at hl;simp at hl}
 rcases hk.1 with h|h
 · exact h
 refine⟨.inr (ag' hr.frame.size h),λl hl hb=> ?_⟩
 have:=hr.s_ hl hb
 have h':w.heap.size<=k:=h
 omega
mutual
theorem RV.scalar {w w':World} {β β':Lb->Option Nat} {H H':Hp} {I I':Nat->Prop}:∀(x:AV) (v:Value),x.scalar=true->RV w β H I x v->RV w' β' H' I' x v
 | .bool _,_,_,h| .int _ _,_,_,h| .str _,_,_,h| .mT,_,_,h| .jS,_,_,h=>by simpa[RV] using h
 | .bq cs,v,hs,h=>by
  simp only[RV] at h ⊢;obtain⟨vs,h1,h2⟩:=h;exact⟨vs,h1,bA.scalar cs vs (by simpa[AV.scalar] using hs) h2⟩
 | .any,_,hs,_| .un,_,hs,_| .list _,_,hs,_| .nil0,_,hs,_| .agg _,_,hs,_| .sl ..,_,hs,_| .slk ..,_,hs,_| .ptr ..,_,hs,_| .lptr _,_,hs,_| .fn ..,_,hs,_| .ifc ..,_,hs,_| .mis _,_,hs,_=>by simp[AV.scalar] at hs
theorem bA.scalar {w w':World} {β β':Lb->Option Nat} {H H':Hp} {I I':Nat->Prop}:∀(xs:List AV) (vs:List Value),scalars xs=true->bA w β H I xs vs->bA w' β' H' I' xs vs
 |[],_,_,h=>by simpa[bA] using h
 |x::r,vs,hs,h=>by
  simp only[scalars,agm] at hs;simp only[bA] at h ⊢;obtain⟨v,us,h1,h2,h3⟩:=h;exact⟨v,us,h1,RV.scalar x v hs.1 h2,bA.scalar r us hs.2 h3⟩
end
theorem EK (hr:aO K β env H a w) {I:Nat->Prop} (hI:∀k,Im K β H k->I k) (hB:∀l g,live H l->β l=some g->I g):∀(args bW:List AV) (vs:List Value),dN (C_ H) args bW->ai bW=[]->bA w β H (Im K β H) args vs->bA w β Hp.none I bW vs
 |_,_,vs,.nil,_,hv=>by simpa[bA] using hv
 |_,_,vs,@dN.cons _ _ _ x y args bW EL ht,hl,hv=>by
  simp[ai,ah0] at hl;obtain⟨v,us,h1,h2,h3⟩:=hv;refine⟨v,us,h1,?_,EK hr hI hB _ _ us ht hl.2 h3⟩;have hk:jt w w (Im K β H) I:=⟨λk hk hs=>⟨hI k hk,hs,rfl⟩⟩;cases EL with
  |same=>
   exact RV.mono x v {im:=hk.im,lb:=λl hq=>by rw[hl.1] at hq;simp at hq} h2
  |row l sz i n xs hH qe ux=>
  simp only[RV] at h2;obtain⟨ad,c,rfl,g2,g3,g4,g5⟩:=h2;simp only[RV,iM];have hlen:((xs.drop i).take n).length=n:=ajV
  rw[hlen];refine⟨ad,c,rfl,g2,g3,?_⟩;by_cases hn:n=0
  ·grind
  right;rcases g5 ⟨_,hH⟩ with h6|⟨g,Sz,e1,e2,e3,e4⟩
  ·omega
  obtain⟨cur,e0,cap,k1,k2,k3,k4,k5⟩:=(hr.rows l _ hH).block e1;have j9:0<sz:=(hr.rows l _ hH).1;refine⟨g,i*sz,sz,e2,hB l g ⟨_,hH⟩ e1,(agS.1 k1).1,j9,mB _ _ _ (λk y hy=> ?_)⟩;have td:xs[i+k]?=some y:=by
   grind
  rw[hQ];have yA:y.cells.length=sz:=by
   have:=(hr.rows l _ hH).2.1 (y.cells.map IV.dw) (by
    simp;exact aiA (f:=λy:IV=>y.cells.map IV.dw) (af3 td))
   grind
  refine⟨yA.symm,kI _ _ _ (λj z hz=> ?_)⟩;obtain⟨u,q1,q2⟩:=k5 (i+k) j (y.cells.map IV.dw) z.dw (by simp[ak,td]) ajV;refine⟨u,?_,zg hk (ux y (af3 td) z (af3 hz)) q2⟩;rw[cell_of_row w g _ cur e0 (0,0) k1,<-q1]
  grind
def LF (hr:aO K β env H a w) {f:Nat} {args bW:List AV} {vs:List Value} {res:AV} (ha:dN (C_ H) args bW) (hp:aj K.P K.G f bW res) (Db:res.scalar=true) (hv:bA w β H (Im K β H) args vs) :
   Calls K.P f vs.toArray w λe w'=>∃v,e= .returned v/\oB w w'/\RV w' β H (Im K β H) res v:=by
 obtain⟨h1,h2,h3⟩:=hp
 obtain⟨A,hA⟩:∃A:Nat->Prop,A=λk=>Im K β H k\/∃l,live H l/\β l=some k:=⟨_,rfl⟩
 have hAI:∀k,A k->Im (cH K.P K.G w A β Hp.none) β Hp.none k:=λk hk=>⟨.inl hk,λl ⟨r,h⟩=>by simp[Hp.none] at h⟩
 have od:aO (cH K.P K.G w A β Hp.none) β Env.any Hp.none sO w:=
   { defers := rfl,size := rfl
     jc:=λn=>by simp[Env.any,RV]
     rows:=λl r h=>by simp[Hp.none] at h
     own:=λl g ⟨r,h⟩=>by simp[Hp.none] at h
     inj:=λl l' g ⟨r,h⟩=>by simp[Hp.none] at h
     iq:=λn=>by simp[Env.any,AV.aq]
     cB:=λl r h=>by simp[Hp.none] at h
     frame:=⟨rfl,rfl,rfl,af6 _,λ_ _ _=>rfl,λ_ _ h=>h⟩
     jv:=λl ⟨r,h⟩=>by simp[cH,Hp.none] at h
     fr:=λl g ⟨r,h⟩=>by simp[Hp.none] at h
     iO:=λg cs hg=>by
       obtain⟨k1,k2,k3⟩:=hr.iO g cs hg
       have kp:jt w w (Im K β H) (Im (cH K.P K.G w A β Hp.none) β Hp.none):=⟨λk hk hs=>⟨hAI k ajV,hs,rfl⟩⟩
       exact⟨(kp.im g k1 k2).1,k2,dD.mono kp k1 k2 k3⟩}
 have HQ:=EK hr (I:=Im (cH K.P K.G w A β Hp.none) β Hp.none) (λk hk=>hAI k (by rw[hA];exact .inl hk)) (λl g hl hg=>hAI g ajV) args bW vs ha h1 hv
 refine(h3 w A β vs od HQ).mono ?_
 rintro e w' ⟨v,x,H',β',rfl,rfl,k1,k2,_⟩
 have gw:oB w w':=by
   refine⟨k1.frame.os,k1.frame.tape,k1.frame.output,k1.frame.size,λk hk=>k1.frame.block k hk ?_⟩
   rintro⟨l,⟨r,h⟩,_⟩
   grind [Hp.none]
 grind [RV.scalar]
open Classical in
def LG (hr:aO K β env H a w) {f:Nat} {bW:List AV} {vs:List Value} {nR:Hp} {Q:AV→Hp→Prop} {ρ:Lb→Lb} (hs:er K.P K.G f bW nR Q)
   (hH:∀l r,nR l= .live r→H (ρ l)= .live (aP ρ r)) (hLv:∀l,nR l≠ .unused→live nR l)
   (Ol:∀l l',live nR l→live nR l'→ρ l=ρ l'→l=l') (R4:∀l∈ai bW,nR l≠ .unused) (Z8:∀l,live nR l→l.fresh=false) (hrm:∀l r,nR l= .live r→∀cs∈r.els,∀q∈ai cs,nR q≠ .unused)
   (hv:bA w β H (Im K β H) (aA ρ bW) vs):Calls K.P f vs.toArray w fun e w'=>∃v x H',e= .returned v∧Q x H' ∧
     ∀(ρ':Lb→Lb) (lS:Hp),(∀l,live nR l→live H' l→ρ' l=ρ l) →
     (∀q r,lS q= .live r→(H q= .live r∧∀l,live nR l→ρ l≠q)∨∃l r',H' l= .live r'∧ρ' l=q∧r=aP ρ' r') →
     (∀l l',live H' l→live H' l'→ρ' l=ρ' l'→l=l') →
     (∀q,H q≠ .unused→lS q≠ .unused)→(∀l∈x.aq,lS (ρ' l)≠ .unused) →
     (∀l r',H' l= .live r'→∀cs∈r'.els,∀q∈ai cs,lS (ρ' q)≠ .unused) →
     (∀l,live H' l→live nR l∨(H (ρ' l)= .unused∧((ρ' l).fresh=true→l.fresh=true∨∀z,live nR z→(ρ z).fresh=true))) →
     (∀l,(l∈x.aq∨∃l1 r1 cs,H' l1= .live r1∧cs∈r1.els∧l∈ai cs)→live lS (ρ' l)→live H' l) →
     ∃qA,aO K qA env lS a w'∧RV w' qA lS (Im K qA lS) (aH ρ' x) v:=by
 have aT:∀l,live nR l→live H (ρ l):=fun l ⟨r,h⟩=>⟨_,hH l r h⟩
 have kin:∀ls,tc w w β (fun l=>β (ρ l)) H nR (Im K β H) (Im (cH K.P K.G w (Im K β H) (fun l=>β (ρ l)) nR) (fun l=>β (ρ l)) nR) ρ ls:=fun ls=>
   { im := fun k hk hs => ⟨⟨.inl hk,fun l hl => hk.2 (ρ l) (aT l hl)⟩,hs,rfl⟩
     lb:=fun l _ hl=>⟨aT l hl,rfl,fun _ _ _ h=>h⟩}
 have od:aO (cH K.P K.G w (Im K β H) (fun l=>β (ρ l)) nR) (fun l=>β (ρ l)) Env.any nR sO w:=
   { defers := rfl,size := rfl
     jc:=fun n=>by simp[Env.any,RV]
     rows:=fun l r h=>by
       obtain⟨h1,h2,h3⟩:=hr.rows (ρ l) _ (hH l r h)
       refine⟨h1,fun cs aZ=> ?_,?_⟩
       · have:=h2 (aA ρ cs) (List.mem_map_of_mem aZ)
         rwa[uz] at this
       cases hb:β (ρ l) with
       |none=>simp only[hb] at h3 ⊢;simpa[aP] using h3
       |some g=>
       simp only[hb] at h3 ⊢
       obtain⟨cur,e,cap,e1,e2,e3,e4,e5⟩:=h3
       refine⟨cur,e,cap,e1,e2,e3,by simpa[aP] using e4,fun i j cs x hi hj=> ?_⟩
       obtain⟨v,k1,k2⟩:=e5 i j (aA ρ cs) (aH ρ x) (by simp[aP,hi]) (by rw[uy,hj];rfl)
       exact⟨v,k1,RV.aH _ _ (kin _) k2⟩
     own:=fun l g hl hb=> .inl ⟨l,hl,hb⟩
     inj:=fun l l' g h1 h2 g1 g2=>Ol l l' h1 h2 (hr.inj _ _ g (aT l h1) (aT l' h2) g1 g2)
     iq:=fun n=>by simp[Env.any,AV.aq]
     cB:=hrm
     frame:=⟨rfl,rfl,rfl,Nat.le_refl _,fun _ _ _=>rfl,fun _ _ h=>h⟩
     iO:=fun g cs hg=>by
       obtain⟨k1,k2,k3⟩:=hr.iO g cs hg
       exact⟨((kin []).im g k1 k2).1,k2,dD.mono (kin []).tojt k1 k2 k3⟩
     jv:=fun l hl=>⟨by obtain⟨r,h⟩:=hl;simp only[cH] at h;simp[h],fun _=>rfl⟩
     fr:=fun l g hl hf=>by rw[Z8 l hl] at hf;cases hf}
 refine(hs w (Im K β H) (fun l=>β (ρ l)) vs od (bA.aH _ _ (kin _) hv)).mono ?_
 rintro e w' ⟨v,x,H',β',rfl,hq,hc,Bh,NO⟩
 refine⟨v,x,H',rfl,hq,?_⟩
 intro ρ' lS p1 p2 p3 p4 p5 p6 p7 p8
 let qA:Lb→Option Nat:=fun q=>if h:∃l,live H' l∧ρ' l=q then β' (Classical.choose h) else β q
 have Bg:∀l,live H' l→qA (ρ' l)=β' l:=by
   intro l hl
   have h:∃l',live H' l'∧ρ' l'=ρ' l:=⟨l,hl,rfl⟩
   have aZ:=Classical.choose_spec h
   have e:Classical.choose h=l:=p3 _ _ aZ.1 hl aZ.2
   show(if h:∃l',live H' l'∧ρ' l'=ρ' l then β' (Classical.choose h) else β (ρ' l))=β' l
   rw[dif_pos h,e]
 have pr:∀q,live H q→(∀l,live nR l→ρ l≠q)→qA q=β q:=by
   intro q xu oe
   have h:¬∃l,live H' l∧ρ' l=q:=by
     rintro⟨l,hl,rfl⟩
     rcases p7 l hl with h|⟨h,_⟩
     · exact oe l h (p1 l h hl).symm
     obtain⟨r,h'⟩:=xu;rw[h] at h';cases h'
   show(if h:∃l,live H' l∧ρ' l=q then β' (Classical.choose h) else β q)=β q
   rw[dif_neg h]
 have Dc:∀q,live lS q→(live H q∧(∀l,live nR l→ρ l≠q)∧qA q=β q)∨∃l,live H' l∧ρ' l=q∧qA q=β' l:=by
   rintro q ⟨r,h⟩
   rcases p2 q r h with⟨h1,h2⟩|⟨l,r',h1,rfl,_⟩
   · exact .inl ⟨⟨r,h1⟩,h2,pr q ⟨r,h1⟩ h2⟩
   exact .inr ⟨l,⟨r',h1⟩,rfl,Bg l ⟨r',h1⟩⟩
 have EM:∀l g,live H' l→β' l=some g→(∃l0,live nR l0∧β (ρ l0)=some g)∨w.heap.size≤g:=by
   intro l g hl hg
   rcases hc.own l g hl hg with h|h
   · exact .inl h
   exact .inr h
 have Vj:∀l,live nR l→live H' l→β' l=β (ρ l):=fun l h1 h2=>(hc.jv l h1).2 h2
 have et:∀k,k<w.heap.size→(∀l,live nR l→β (ρ l)≠some k)→w'.heap[k]?=w.heap[k]?:=by
   intro k hk oe
   refine hc.frame.block k hk ?_
   rintro⟨l,hl,hb⟩
   exact oe l hl hb
 have Od:∀k,Im K β H k→k<w.heap.size→Im K qA lS k∧k<w'.heap.size∧w'.heap[k]?=w.heap[k]?:=by
   intro k hk JN
   refine⟨⟨hk.1,fun q xu hb=> ?_⟩,Nat.lt_of_lt_of_le JN hc.frame.size,et k JN (fun l hl=>hk.2 _ (aT l hl))⟩
   rcases Dc q xu with⟨h1,h2,h3⟩|⟨l,h1,h2,h3⟩
   · rw[h3] at hb;exact hk.2 q h1 hb
   rw[h3] at hb
   rcases EM l k h1 hb with⟨l0,h4,h5⟩|h4
   · exact hk.2 _ (aT l0 h4) h5
   omega
 have SE:∀q,H q≠ .unused→live lS q→live H q∧qA q=β q∧∀g S,β q=some g→oy w g=some S→oy w' g=some S:=by
   intro q hu xu
   refine⟨?_,?_,fun g S _ h=>hc.frame.bs g S h⟩
   · rcases Dc q xu with⟨h1,h2,h3⟩|⟨l,h1,h2,h3⟩
     · exact h1
     rcases p7 l h1 with h|⟨h,_⟩
     · have e:=p1 l h h1;rw[←h2,e];exact aT l h
     rw[h2] at h;exact absurd h hu
   rcases Dc q xu with⟨h1,h2,h3⟩|⟨l,h1,h2,h3⟩
   · exact h3
   rcases p7 l h1 with h|⟨h,_⟩
   · rw[h3,Vj l h h1,←h2,p1 l h h1]
   rw[h2] at h;exact absurd h hu
 have d_:∀ls,(∀q∈ls,H q≠ .unused)→ic w w' β qA H lS (Im K β H) (Im K qA lS) ls:=fun ls pf=>
   {im:=Od,lb:=fun q Hl BU=>SE q (pf q Hl) BU}
 have aaP:jt w' w' (Im (cH K.P K.G w (Im K β H) (fun l=>β (ρ l)) nR) β' H') (Im K qA lS):=⟨by
   intro k hk JN
   refine⟨⟨?_,fun q xu hb=> ?_⟩,JN,rfl⟩
   · rcases hk.1 with h|h
     · exact h.1
     exact .inr (Nat.le_trans hr.frame.size h)
   rcases Dc q xu with⟨h1,h2,h3⟩|⟨l,h1,h2,h3⟩
   · rw[h3] at hb
     rcases hk.1 with h|h
     · exact h.2 q h1 hb
     have:=hr.s_ h1 hb
     have h':w.heap.size≤k:=h
     omega
   rw[h3] at hb
   exact hk.2 l h1 hb⟩
 have yA:∀l,(l∈x.aq∨∃l1 r1 cs,H' l1= .live r1∧cs∈r1.els∧l∈ai cs)→live lS (ρ' l)→live H' l∧qA (ρ' l)=β' l∧∀g S,β' l=some g→oy w' g=some S→oy w' g=some S:=by
   intro l h1 h2
   have h3:=p8 l h1 h2
   exact⟨h3,Bg l h3,fun _ _ _ h=>h⟩
 refine⟨qA,⟨hr.defers,hr.size,fun n=>RV.mono _ _ (d_ _ (hr.iq n)) (hr.jc n),?_,?_,?_,fun n q xu=>p4 q (hr.iq n q xu),?_,?_,?_,?_,?_⟩,RV.Bz x v aaP (fun l hl=>yA l (.inl hl)) Bh⟩
 · intro q r hqr
   rcases p2 q r hqr with⟨h1,h2⟩|⟨l,r',h1,rfl,rfl⟩
   · obtain⟨e1,e2,e3⟩:=hr.rows q r h1
     refine⟨e1,e2,?_⟩
     rw[pr q ⟨r,h1⟩ h2]
     cases hb:β q with
     |none=>simpa only[hb] using e3
     |some g=>
     simp only[hb] at e3 ⊢
     obtain⟨cur,e,cap,f1,f2,f3,f4,f5⟩:=e3
     have hg:g<w.heap.size:=(Array.getElem?_eq_some_iff.1 f1).1
     refine⟨cur,e,cap,(et g hg (fun l hl Om=>h2 l hl (hr.inj _ _ g (aT l hl) ⟨r,h1⟩ Om hb))).trans f1,f2,f3,f4,fun i j cs y hi hj=> ?_⟩
     obtain⟨u,k1,k2⟩:=f5 i j cs y hi hj
     exact⟨u,k1,RV.mono _ _ (d_ _ (fun p hp=>hr.cB q r h1 cs (List.mem_of_getElem? hi) p (dW _ _ _ hj p hp))) k2⟩
   obtain⟨e1,e2,e3⟩:=hc.rows l r' h1
   refine⟨e1,?_,?_⟩
   · intro cs aZ
     simp only[aP,List.mem_map] at aZ
     obtain⟨EN,h0,rfl⟩:=aZ
     rw[uz];exact e2 EN h0
   rw[Bg l ⟨r',h1⟩]
   cases hb:β' l with
   |none=>simp only[hb] at e3;simp[aP,e3]
   |some g=>
   simp only[hb] at e3 ⊢
   obtain⟨cur,e,cap,f1,f2,f3,f4,f5⟩:=e3
   refine⟨cur,e,cap,f1,f2,f3,by simpa[aP] using f4,fun i j cs y hi hj=> ?_⟩
   simp only[aP,List.getElem?_map,Option.map_eq_some_iff] at hi
   obtain⟨EN,hi,rfl⟩:=hi
   rw[uy,Option.map_eq_some_iff] at hj
   obtain⟨y0,hj,rfl⟩:=hj
   obtain⟨u,k1,k2⟩:=f5 i j EN y0 hi hj
   exact⟨u,k1,RV.Bz _ _ aaP (fun p hp=>yA p (.inr ⟨l,r',EN,h1,List.mem_of_getElem? hi,dW _ _ _ hj p hp⟩)) k2⟩
 · intro q g xu hb
   rcases Dc q xu with⟨h1,h2,h3⟩|⟨l,h1,h2,h3⟩
   · rw[h3] at hb;exact hr.own q g h1 hb
   rw[h3] at hb
   rcases EM l g h1 hb with⟨l0,h4,h5⟩|h4
   · exact hr.own _ g (aT l0 h4) h5
   exact .inr (Nat.le_trans hr.frame.size h4)
 · intro q1 q2 g Hl BU g1 g2
   rcases Dc q1 Hl with⟨h1,h2,h3⟩|⟨l,h1,h2,h3⟩
   · rw[h3] at g1
     rcases Dc q2 BU with⟨k1,k2,k3⟩|⟨l',k1,k2,k3⟩
     · rw[k3] at g2;exact hr.inj q1 q2 g h1 k1 g1 g2
     rw[k3] at g2
     rcases EM l' g k1 g2 with⟨l0,h4,h5⟩|h4
     · exact absurd (hr.inj _ _ g (aT l0 h4) h1 h5 g1) (h2 l0 h4)
     have:=hr.s_ h1 g1;omega
   rw[h3] at g1
   rcases Dc q2 BU with⟨k1,k2,k3⟩|⟨l',k1,k2,k3⟩
   · rw[k3] at g2
     rcases EM l g h1 g1 with⟨l0,h4,h5⟩|h4
     · exact absurd (hr.inj _ _ g (aT l0 h4) k1 h5 g2) (k2 l0 h4)
     have:=hr.s_ k1 g2;omega
   rw[k3] at g2
   rw[←h2,←k2,hc.inj l l' g h1 k1 g1 g2]
 · intro q r hqr cs aZ p hp
   rcases p2 q r hqr with⟨h1,h2⟩|⟨l,r',h1,rfl,rfl⟩
   · exact p4 p (hr.cB q r h1 cs aZ p hp)
   simp only[aP,List.mem_map] at aZ
   obtain⟨EN,h0,rfl⟩:=aZ
   rw[oJ,List.mem_map] at hp
   obtain⟨p0,Z9,rfl⟩:=hp
   exact p6 l r' h1 EN h0 p0 Z9
 · refine⟨hc.frame.os.trans hr.frame.os,hc.frame.tape.trans hr.frame.tape,hc.frame.output.trans hr.frame.output,Nat.le_trans hr.frame.size hc.frame.size,fun k hk hd=> ?_,fun k S hS=>hc.frame.bs k S (hr.frame.bs k S hS)⟩
   refine(et k (Nat.lt_of_lt_of_le hk hr.frame.size) (fun l hl hb=> ?_)).trans (hr.frame.block k hk hd)
   rcases hr.own _ k (aT l hl) hb with h|h
   · exact hd h
   omega
 · intro g cs hg
   obtain⟨h1,h2,h3⟩:=hr.iO g cs hg
   obtain⟨k1,k2,k3⟩:=Od g h1 h2
   exact⟨k1,k2,dD.mono (d_ [] (by simp)).tojt h1 h2 h3⟩
 · intro l hl
   obtain⟨h1,h2⟩:=hr.jv l hl
   refine⟨p4 l h1,fun h=> ?_⟩
   obtain⟨k1,k2,_⟩:=SE l h1 h
   rw[k2];exact h2 k1
 intro q g xu hf hb
 rcases Dc q xu with⟨h1,h2,h3⟩|⟨l,h1,h2,h3⟩
 · rw[h3] at hb;exact hr.fr q g h1 hf hb
 rw[h3] at hb
 rcases p7 l h1 with h|⟨h,h'⟩
 · rw[Vj l h h1] at hb
   have e:ρ l=q:=by rw[←h2,p1 l h h1]
   rw[e] at hb
   exact hr.fr q g (e▸aT l h) hf hb
 rcases h' (by rw[h2];exact hf) with h''|h''
 · exact Nat.le_trans hr.frame.size (hc.fr l g h1 h'' hb)
 rcases EM l g h1 hb with⟨l0,h4,h5⟩|h4
 · exact hr.fr _ g (aT l0 h4) (h'' l0 h4) h5
 exact Nat.le_trans hr.frame.size h4
end
end Go.Am

namespace Go.Am
open Go Go.RowKit
section
variable {K:Kx} {β:Lb->Option Nat} {env:Env} {H:Hp} {a:Act} {w:World}
def B2 (K:Kx) (env:Env) (d:Option Nat) (k:AV->Hp->Prop) (a':Act) (w':World):Prop:=∃x H',k x H'/\∃β',aO K β' (eh env d x) H' a' w'
def fO (hr:aO K β env H a w) {o:Oper} (hd:∀n,o.dst=some n->n<K.N) {x:AV} {k:AV->Hp->Prop} {Q:Exit->Act->World->Prop} (h:a7 K β H a w o x) (hk:k x H) :
  o.wp K.P a w (B2 K env o.dst k) Q:=by
 obtain⟨v,w',h1,h2,h3,h4⟩:=h;unfold Oper.wp;rw[h1];exact⟨x,H,hk,β,hr.step h2 hd (λ_=>h3) (λ_=>h4)⟩
def gG {o:Oper} {x:AV} {H':Hp} {k:AV->Hp->Prop} {Q:Exit->Act->World->Prop} (h:me K env a w o o.dst x H') (hk:k x H') :
  o.wp K.P a w (B2 K env o.dst k) Q:=by
 obtain⟨nx,w',β',v,h1,h2,h3⟩:=h;unfold Oper.wp;rw[h1];rcases h2 with rfl|⟨rfl,rfl⟩
 ·exact⟨x,H',hk,β',h3⟩
 exact⟨x,H',hk,β',h3⟩
def JW (hr:aO K β env H a w) {o:Oper} (hd:∀n,o.dst=some n->n<K.N) {f:Nat} {args:List AV} {vs:List Value} {k:AV->Hp->Prop} {Q:Exit->Act->World->Prop}
  (mm:(execOp a.eval o).run K.P w= .ok (.enter f vs.toArray) w) (hv:bA w β H (Im K β H) args vs) (hc:oG ⟨K.P,K.G,K.N⟩ f args H k):o.wp K.P a w (B2 K env o.dst k) Q:=by
 unfold Oper.wp;rw[mm];rcases hc with⟨res,hp,hk⟩|⟨bW,res,ha,hp,Db,hk⟩|⟨ρ,nR,bW,Q',h1,rfl,h3,h4,h5,h6,h6',h7,h8⟩
 ·refine(wm hr hp hv trivial).mono ?_;rintro e w' ⟨v,rfl,gw,hx⟩;exact⟨res,H,hk,β,hr.step gw hd (λ_=>hx) (λ_ l hl=>by rw[hp.2.1] at hl;simp at hl)⟩
 ·refine(LF hr ha hp Db hv).mono ?_;rintro e w' ⟨v,rfl,gw,hx⟩;exact⟨res,H,hk,β,hr.step gw hd (λ_=>hx) (λ_ l hl=>by rw[hp.2.1] at hl;simp at hl)⟩
 refine(LG hr h1 h3 h4 h5 h6 h6' h7 hv).mono ?_;rintro e w' ⟨v,x,H',rfl,hq,bV⟩;obtain⟨ρ',lS,p1,p2,p3,p4,p5,p6,p7,p8,hk⟩:=h8 x H' hq;obtain⟨qA,q1,q2⟩:=bV ρ' lS p1 p2 p3 p4 p5 p6 p7 p8;exact⟨_,lS,hk,qA,q1.step (Below.refl _ _) hd (λ_=>q2) (λ_ l hl=>by
  rw[Da,agp] at hl;obtain⟨l0,h0,rfl⟩:=hl;exact p5 l0 h0)⟩
def pY {α γ:Type} {x:Option α} {f:α->Option γ} {y:γ} (h:x.bind f=some y):∃a,x=some a/\f a=some y:=afX.1 h
def ku {α γ:Type} {x:Option α} {f:α->γ} {y:γ} (h:x.map f=some y):∃a,x=some a/\f a=y:=acF.1 h
def On {i:ju} {s x:O} {sz b:Nat} (h:i.lU= .app s x sz b):i= .app s x sz b\/i= .Ht s x sz b:=by
 cases i<;>simp[ju.lU] at h<;>simp[h]
def LH {i:ju} {n sz:Nat} {z:List AV} {ps:List (Nat×O)} (h:i.lU= .lits n sz z ps):i= .lits n sz z ps\/(n=1/\i= .oz sz z ps):=by
 cases i<;>simp[ju.lU] at h<;>simp[h]
def ju.WQ:ju->Bool
 | .app ..| .lits ..=>true
 |_=>false
def rB {i j:ju} (h:i.lU=j) (hj:j.WQ=false):i=j:=by
 subst h;cases i<;>first|rfl|(simp[ju.lU,ju.WQ] at hj)
def ju.plain:ju->Bool
 | .load ..| .box _| .new _| .store ..| .app ..| .call ..| .qq ..| .RZ ..| .Hi ..| .ZY ..| .cap ..| .N3 ..| .y6 ..| .Hu ..| .oz ..=>false
 |_=>true
def oK {S:St} {d:Option Nat} {i:ju} {k:AV->Hp->Prop} (h:i.plain=true) (ha:dX S d i env H k):∃x,aw i env=some x/\k x H:=by
 cases i<;>simp[ju.plain] at h<;>exact ha
def BA (d:Nat) {P:Program} {t e:TypeId} (ht:P.underlying t=some (.slice e)) (a:Option Addr) (n c:Nat) :
  (Op.equalIn (d+1) t (.slice a n c) (.slice none 0 0)).run P w= .ok a.isNone w:=by
 cases a<;>simp[Op.equalIn,run_underlying ht]
def aaQ (hr:aO K β env H a w) {o:Oper} {op:BinOp} {t t2 e:TypeId} {x y:Operand} {x':O} {n:Bool} (ho:o.op= .binOp op t x y t2) (hn:pU op=some n)
  (ht:K.P.underlying t=some (.slice e)) (hc:Hy y=true) (hx:co K.G x=some x') {bs:List Bool} (hz:By (ev env x')=some bs):∃b,b∈bs/\a7 K β H a w o (.bool (n ^^ b)):=by
 have h:=hr.ev hx;have hy:a.eval y= .slice none 0 0:=by
  unfold Hy at hc;split at hc
  ·rfl
  cases hc
 have key:∀(ad:Option Addr) (m c:Nat),a.eval x= .slice ad m c->ad.isNone∈bs->∃b,b∈bs/\a7 K β H a w o (.bool (n ^^ b)):=by
  intro ad m c h3 h4;refine⟨ad.isNone,h4,a7.same (v:= .bool (n ^^ ad.isNone)) ?_ ake ajP⟩;have h5:(Op.equal t (.slice ad m c) (.slice none 0 0)).run K.P w= .ok ad.isNone w:=BA 9999 ht ad m c;rcases oD hn with⟨rfl,rfl⟩|⟨rfl,rfl⟩
  ·simp[execOp,ho,h3,hy,eqGuard,binOp,h5]
  simp[execOp,ho,h3,hy,eqGuard,binOp,h5]
 have SF:∀b:Bool,b∈[true,false]:=by intro b;cases b<;>simp
 cases e1:ev env x'<;>rw[e1] at h hz
 case list xs=>
  simp only[RV,iM] at h;obtain⟨ad,c,h1,_,_,h4⟩:=h;cases xs with
  |nil=>simp only[By,afZ] at hz;subst hz;exact key _ _ _ h1 (SF _)
  |cons y0 r=>
  simp only[By,afZ] at hz;subst hz;rcases h4 with h4|⟨b,o',sz,h4,_⟩
  ·simp at h4
  refine key _ _ _ h1 ?_;rw[h4];simp
 case nil0=>
  simp only[RV] at h;obtain⟨ad,h1⟩:=h;simp only[By,afZ] at hz;subst hz;exact key _ _ _ h1 (SF _)
 case slk l sz i m c=>
  simp only[RV] at h;obtain⟨ad,h1,h2,_,h4,_⟩:=h;simp only[By,afZ] at hz;subst hz;refine key _ _ _ h1 ?_;by_cases hm:0<m
  ·rw[agc hm];have:=h4 ajK;cases ad with
   |none=>simp at this
   |some q=>simp
  rw[af8 hm];exact SF _
 case sl l sz i m=>
  simp only[RV] at h;obtain⟨ad,c,h1,_,_,h4,_⟩:=h;simp only[By,afZ] at hz;subst hz;refine key _ _ _ h1 ?_;by_cases hm:0<m
  ·rw[agc hm];have:=h4 hm;cases ad with
   |none=>simp at this
   |some q=>simp
  rw[af8 hm];exact SF _
 all_goals simp[By] at hz
set_option maxHeartbeats 1000000 in
def SG {P:Program} {t:TypeId} (h:Wh P t=true):∃dx,P.underlying t=some dx/\(dx= .string\/∃e2,dx= .slice e2):=by
 unfold Wh at h;split at h
 ·exact⟨_,‹_›,.inl rfl⟩
 ·exact⟨_,‹_›,.inr ⟨_,rfl⟩⟩
 cases h
def HR (hr:aO K β env H a w) {o:Oper} {i:ju} {k:AV->Hp->Prop} {Q:Exit->Act->World->Prop} (hd:∀n,o.dst=some n->n<K.N) (hc:N9 K.P K.G o=some i.lU)
   (ha:dX ⟨K.P,K.G,K.N⟩ o.dst i env H k):o.wp K.P a w (B2 K env o.dst k) Q:=by
 have plain:∀j:ju,i.lU=j->j.WQ=false->j.plain=true->(∀x,aw j env=some x->a7 K β H a w o x)->o.wp K.P a w (B2 K env o.dst k) Q:=by
   intro j hj Z' hp hs
   have e:=rB hj Z'
   subst e
   obtain⟨x,h1,h2⟩:=oK hp ha
   exact fO hr hd (hs x h1) h2
 have gb:∀{f:FuncId},dE K.P f=true→∃fn,K.P.funcs[f]?=some fn∧¬fn.name= "runtime.NumGoroutine"∧¬fn.body=none:=by
   intro f hb
   unfold dE at hb
   cases hq:K.P.funcs[f]? with
   |none=>simp[hq] at hb
   |some fn=>
   simp only[hq,Option.any_some,agm] at hb
   exact⟨fn,rfl,by simpa using hb.2,λhh=>by simp[hh] at hb⟩
 unfold N9 at hc
 generalize ho:o.op=op at hc
 repeat' first|(cases hc;done)|split at hc|(rw[afX] at hc;obtain⟨_,_,hc⟩:=hc)
 all_goals try (rw[acF] at hc;obtain⟨_,_,h5⟩:=hc)
 all_goals first
   | (refine plain _ h5.symm rfl rfl fun z hz => ?_
      first|(cases hz;first|exact Ve hr (.inl ho) ‹_›|exact Ve hr (.inr ho) ‹_›)|(apply aal hr ho<;>assumption)|(apply aan hr ho<;>assumption)|(apply aam hr ho<;>assumption)|(apply aao hr ho<;>assumption)|(apply aar hr ho<;>assumption)|(apply Wo hr ho<;>assumption)|(apply WM hr ho<;>assumption)|(apply aaq hr ho<;>assumption)|(apply aaA hr ho<;>assumption)|(apply aaB hr ho<;>assumption)|(apply aaC hr ho<;>assumption)|(apply Wt hr ho<;>assumption)|(apply aas hr ho<;>assumption)|(apply aav hr ho<;>assumption)|(apply Wp hr ho<;>assumption)|(apply aaw hr ho<;>assumption)|(apply aax hr ho<;>assumption)|(apply aay hr ho<;>assumption)|(apply aaD hr ho<;>assumption)|(apply aaE hr ho<;>assumption)|(apply Wm hr ho<;>assumption)|(apply aaz hr ho<;>assumption)|(apply Wl hr ho<;>assumption)|(apply aap hr ho<;>assumption)|(apply aat hr ho<;>assumption)|(apply aau hr ho<;>assumption))
   |(have e:=rB h5.symm rfl;subst e)
   |skip
 · obtain⟨z,hz,hk⟩:=oK rfl ha
   simp only[aw] at hz
   split at hz
   · cases hz;exact fO hr hd (Wi hr ho ‹_› ‹_› ‹_› ‹_›) hk
   cases hz
 all_goals try
   obtain⟨_,_,_⟩:=‹_/\_/\_›
   obtain⟨q,g1,y,H',g2,g3⟩:=ha
   exact gG (by rw[g1];first|(apply aaN hr (hd q g1) ho<;>assumption)|(apply WO hr (hd q g1) ho<;>assumption)) g3
 · obtain⟨bs,g1,g2⟩:=ha
   obtain⟨b,hb,fG⟩:=aaQ hr ho ‹_› ‹_› ‹_› ‹_› g1
   exact fO hr hd fG (g2 b hb)
 · obtain⟨n,g1,g2,g3,g4,g5,g6⟩:=ha
   exact gG (by rw[g1];apply aaG hr (hd n g1) ho<;>assumption) g6
 · rcases ha with⟨y,g1,g2⟩|⟨y,g1,g2⟩
   · exact fO hr hd (Sv hr ho ‹_› ‹_› g1) g2
   exact fO hr hd (Wx hr ho ‹_› ‹_› g1) g2
 · obtain⟨n,g1,g2,g3,g4,g5⟩:=ha
   exact gG (by rw[g1];apply Sx hr (hd n g1) ho<;>assumption) g5
 · obtain⟨g1,H',g2,g3⟩:=ha
   exact gG (by rw[g1];exact Sy hr ho ‹_› ‹_› ‹_› g2) g3
 · obtain⟨_,_,_⟩:=‹_/\_/\_›
   rcases LH h5.symm with rfl|⟨rfl,rfl⟩
   · obtain⟨y,g1,g2⟩:=oK rfl ha
     exact fO hr hd (by apply Wq hr ho<;>assumption) g2
   obtain⟨q,g1,y,H',g2,g3⟩:=ha
   exact gG (by rw[g1];apply SD hr (hd q g1) ho<;>assumption) g3
 · have q1:=‹(_&&_)=true›
   simp only[agm,ag9,agv] at q1
   obtain⟨⟨q1,q2⟩,q3⟩:=q1
   obtain⟨z,hz,Dd⟩:=ku q1
   obtain⟨dx,HL,R7⟩:=SG q3
   rcases On h5.symm with rfl|rfl
   · obtain⟨n,g1,y,H',g3,g4⟩:=ha
     exact gG (by rw[g1];apply aaI hr (hd n g1) ho<;>assumption) g4
   obtain⟨y,g3,g4⟩:=oK rfl ha
   exact fO hr hd (by apply WN hr ho<;>assumption) g4
 · obtain⟨R,g1,g2⟩:=ha
   obtain⟨m,q1,q2,q3⟩:=aaO hr ho ‹_› ‹_› ‹_› ‹_› g1
   exact fO hr hd q3 (g2 m q1 q2)
 · obtain⟨y,H',g1,g2⟩:=ha
   exact gG (by apply aaL hr hd ho<;>assumption) g2
 · obtain⟨_,_⟩:=‹_/\_›
   obtain⟨H',g1,g2⟩:=ha
   exact gG (by apply aaM hr hd ho<;>assumption) g2
 · rename_i c _ f Oo hb xs h3
   obtain⟨fn,hf,h1,h2⟩:=gb hb
   refine JW hr hd (vs:=c.args.toList.map a.eval) ?_ (oc hr _ _ h3) ha
   simp[execOp,ho,resolve,Oo,Act.eval,Deferred.ofValue,invoke,callFunc,hf,h1,h2]
   cases c.args
   simp
 · rename_i c _ f Oo hb xs h3
   obtain⟨res,g1,g2⟩:=ha
   obtain⟨v,w',q1,q2,q3,q4⟩:=g1 K β env a w (c.args.toList.map a.eval) rfl hr (oc hr _ _ h3)
   refine fO hr hd ⟨v,w',?_,q2,q3,q4⟩ g2
   have JX:(c.args.toList.map a.eval).toArray=c.args.map a.eval:=by cases c.args;simp
   rw[JX] at q1
   simp[execOp,ho,resolve,Oo,Act.eval,Deferred.ofValue,invoke,q1]
 rename_i c _ f _ Oo y h2 xs h3
 obtain⟨f',first,cap,g1,hb,g2⟩:=ha
 have hv:=hr.ev h2
 rw[g1] at hv
 simp only[RV] at hv
 obtain⟨vs,us,k1,k2,k3⟩:=hv
 obtain⟨fn,hf,h1,h2⟩:=gb hb
 refine JW hr hd (vs:=vs++c.args.toList.map a.eval++us) ?_ (bA.append _ _ _ _ (bA.append _ _ _ _ k2 (oc hr _ _ h3)) k3) g2
 simp[execOp,ho,resolve,Oo,k1,Deferred.ofValue,invoke,callFunc,hf,h1,h2]
def LI (hr:aO K β env H a w) {o:Oper} {i:ju} {k:AV->Hp->Prop} {Q:Exit->Act->World->Prop} (hd:∀n,o.dst=some n->n<K.N) (hc:comp K.P K.G o=some i.lU)
  (ha:dX ⟨K.P,K.G,K.N⟩ o.dst i env H k):o.wp K.P a w (B2 K env o.dst k) Q:=by
 unfold comp at hc;split at hc
 ·rename_i j hj;simp only[afZ] at hc;exact HR hr hd (by rw[hj,hc]) ha
 simp only[afZ] at hc;have e:i= .stuck:=rB hc.symm rfl;subst e;obtain⟨x,h1,_⟩:=oK rfl ha;simp[aw] at h1
end

section
variable {K:Kx} {env:Env} {H:Hp} {a:Act} {w:World}
def B3 {β:Lb->Option Nat} (hr:aO K β env H a w) {ops:Array Oper} {o:Oper} {i:bd} (hc:oH K.P K.G ops o=some i) {b:Bool} (hg:gW i.g env=some b) :
  Region.wanted o (yielded ops a.tmps)=b:=by
 unfold oH at hc;split at hc
 ·rename_i h0;obtain⟨j,_,rfl⟩:=ku hc;simp only[gW,afZ] at hg;subst hg;simp[Region.wanted,h0]
 rename_i j t h0;obtain⟨s,h1,hc⟩:=pY hc;obtain⟨q,_,rfl⟩:=ku hc;simp only[gW] at hg;have hv:=hr.jc s;split at hg
 ·rename_i c e;simp only[afZ] at hg;subst hg;rw[e] at hv;simp only[RV] at hv;have:a.tmps[s]?=some (.bool c):=by
   rw[ags] at hv;cases hq:a.tmps[s]? with
   |none=>rw[hq] at hv;cases hv
   |some u=>rw[hq] at hv;simpa using hv
  simp[Region.wanted,h0,yielded,h1,this]
 ·rename_i e;simp only[afZ] at hg;subst hg;rw[e] at hv;simp only[RV] at hv;have:a.tmps[s]?=none\/a.tmps[s]?=some undef:=by
   rw[ags] at hv;cases hq:a.tmps[s]? with
   |none=>exact .inl rfl
   |some u=>rw[hq] at hv;right;simpa using hv
  rcases this with h|h<;>simp[Region.wanted,h0,yielded,h1,h,undef]
 simp at hg
def EO {P:Program} {G:Nat->Option (List IV)} {ops:Array Oper} {o:Oper} {i:bd} (hc:oH P G ops o=some i):i.d=o.dst/\comp P G o=some i.i:=by
 unfold oH at hc;split at hc
 ·obtain⟨j,h1,rfl⟩:=ku hc;exact⟨rfl,h1⟩
 obtain⟨s,_,hc⟩:=pY hc;obtain⟨q,h1,rfl⟩:=ku hc;exact⟨rfl,h1⟩
def te {β:Lb->Option Nat} (hr:aO K β env H a w) {ops:Array Oper} {o:Oper} {i:bd} (hc:oH K.P K.G ops o=some i.lU) {k:Env->Hp->Prop} {Q:Exit->Act->World->Prop} {KK:Act->World->Prop}
  (hk:∀bJ H' β' a' w',k bJ H'->aO K β' bJ H' a' w'->KK a' w')
  (ha:(gW i.g env=some true/\(∀n,i.d=some n->n<K.N)/\dX ⟨K.P,K.G,K.N⟩ i.d i.i env H λx H'=>k (eh env i.d x) H') \/
   (gW i.g env=some false/\(∀n,i.d=some n->n<K.N)/\k (eh env i.d .un) H)) :
  if Region.wanted o (yielded ops a.tmps) then o.wp K.P a w KK Q\/(o.asks K.P a w/\LetsOut Q) else KK (a.put o.dst undef) w:=by
 obtain⟨h1,h2⟩:=EO hc;have hdd:i.d=o.dst:=h1;rcases ha with⟨hg,hd,ha⟩|⟨hg,hd,ha⟩
 ·have hw:Region.wanted o (yielded ops a.tmps)=true:=B3 hr (i:=i.lU) hc hg;rw[agc hw];left;rw[hdd] at ha hd;exact Oper.wp_mono (λa' w' ⟨x,H',hx,β',qf⟩=>hk _ _ _ _ _ hx qf) (LI hr hd h2 ha)
 have hw:Region.wanted o (yielded ops a.tmps)=false:=B3 hr (i:=i.lU) hc hg;rw[af8 (by simp[hw])];rw[hdd] at ha hd;exact hk _ _ _ _ _ ha (hr.step (Below.refl _ _) hd (λ_=>by simp[RV]) (λ_=>by simp[AV.aq]))
def Oq (t:TypeId) (d:Nat) (o:Oper):Option (Int×List UInt8):=
 match o.guard,o.dst,o.op with
 |none,none,.insert t' (.tmp d') (.const (.int .i64 k)) (.const (.string s))=>if t'=t/\d'=d then some (k,s.data.toList) else none
 |_,_,_=>none
def ym (t:TypeId) (d:Nat):List Oper->List (Int×List UInt8)×List Oper
 |[]=>([],[])
 |o::r=>match Oq t d o with
  |some p=>(p::(ym t d r).1,(ym t d r).2)
  |none=>([],o::r)
def Ot:List Int->Bool
 |[]=>true
 |x::r=>(r.all λy=> !(y==x))&&Ot r
def De (P:Program) (o:Oper) (r:List Oper):Option (Nat×List (Int×List UInt8)×List Oper):=
 match o.guard,o.dst,o.op with
 |none,some d,.makeMap t none=>match P.underlying t with
  |some (.map k _)=>match P.underlying k with
   |some (.int _)=>if Ot ((ym t d r).1.map Prod.fst) then some (d,(ym t d r).1,(ym t d r).2) else none
   |_=>none
  |_=>none
 |_,_,_=>none
theorem JY:∀(done:List (Int×List UInt8)) (k:Int) (rest:List Int),Ot (done.map Prod.fst++k::rest)=true->done.lookup k=none
 |[],_,_,_=>rfl
 |p::done,k,rest,h=>by
  simp only[agC,List.cons_append,Ot,agm] at h;have h1:=agJ.1 h.1 k ajL;have e:(k==p.1)=false:=aj8
  rw[List.lookup,e];exact JY done k rest h.2
structure adI (r:Nat) (w w':World):Prop where
 os:w'.os=w.os
 tape:w'.tape=w.tape
 output:w'.output=w.output
 size:w'.heap.size=w.heap.size
 block:∀k,k≠r->w'.heap[k]?=w.heap[k]?
theorem Ou {P:Program} {ops:Array Oper} {t k e:TypeId} {d:Nat} {kd:IntKind} (ht:P.underlying t=some (.map k e)) (hk:P.underlying k=some (.int kd)) {Q:Exit->Act->World->Prop} {a:Act} {r:Nat}
  (hd:a.tmps.getD d undef= .map (some r)):∀(l:List Oper) (w:World) (xs:Array MapEntry) (c:Nat) (done:List (Int×List UInt8)),w.heap[r]?=some (.map xs c) ->
   xs.toList.map (λe=>(e.key,e.val))=(done.map λp=>(Value.int .i64 p.1,Value.string ⟨p.2.toArray⟩))->Ot ((done++(ym t d l).1).map Prod.fst)=true ->
   (∀w' zh c',adI r w w'->w'.heap[r]?=some (.map zh c')->zh.toList.map (λe=>(e.key,e.val))=((done++(ym t d l).1).map λp=>(Value.int .i64 p.1,Value.string ⟨p.2.toArray⟩))->wpList P ops Q (ym t d l).2 a w') ->
   wpList P ops Q l a w
 |[],w,xs,c,done,h1,h2,_,hq=>hq w xs c ⟨rfl,rfl,rfl,rfl,λ_ _=>rfl⟩ h1 (by simpa[ym] using h2)
 |o::l,w,xs,c,done,h1,h2,h3,hq=>by
  cases ho:Oq t d o with
  |none=>
   simp only[ym,ho] at hq h3;exact hq w xs c ⟨rfl,rfl,rfl,rfl,λ_ _=>rfl⟩ h1 akN
  |some p=>
  simp only[ym,ho] at hq h3;unfold Oq at ho;split at ho
  ·rename_i t' d' n s hg Bw xA;split at ho
   ·rename_i hc;obtain⟨rfl,rfl⟩:=hc;simp only[afZ] at ho;subst ho;have oe:done.lookup n=none:=JY done n ((ym t' d' l).1.map Prod.fst) ak6;have hf:Instr.findNow (.int kd) (.int .i64 n) xs.toList 0=some none:=by
     rcases y8 kd n xs.toList done 0 h2 with⟨_,g⟩|⟨_,_,g,_⟩
     ·exact g
     rw[oe] at g;cases g
    have aF:r<w.heap.size:=(agS.1 h1).1;have hs:Value.string s= .string ⟨s.data.toList.toArray⟩:=(by cases s;simp);unfold wpList;rw[agc (by simp[Region.wanted,hg])];left;unfold Oper.wp;have mm:(execOp a.eval o).run P w= .ok .skip {w with heap:=w.heap.setIfInBounds r (.map (xs.push ⟨.int .i64 n,.string s,c⟩) (c+1))}:=by
     have hv:a.eval (.tmp d')= .map (some r):=hd;have WT:a.eval (.const (.int .i64 n))= .int .i64 n:=rfl;have hv2:a.eval (.const (.string s))= .string s:=rfl;simp[execOp,xA,hv,WT,hv2,Instr.mapUpdate,run_underlying ht,run_underlying hk,getObj,setObj,Sem.run,h1,pk hk,Instr.findKey,hf,Result.andThen]
    rw[mm,Oper.upon_skip,Bw];refine Ou ht hk hd l _ (xs.push ⟨.int .i64 n,.string s,c⟩) (c+1) (done++[(n,s.data.toList)]) (by simp[aF]) (by simp[h2,hs]) ak6 ?_;intro w' zh c' g1 g2 g3;refine hq w' zh c' ⟨g1.os,g1.tape,g1.output,by simpa using g1.size,λq cf=> ?_⟩ g2 anP;rw[g1.block q cf];simp[agQ cf]
   cases ho
  cases ho
def LJ {β:Lb->Option Nat} (hr:aO K β env H a w) {ops:Array Oper} {o:Oper} {l l':List Oper} {d:Nat} {es:List (Int×List UInt8)} (h:De K.P o l=some (d,es,l')) (hd:d<K.N)
  {Q:Exit->Act->World->Prop} (hk:∀a' w',aO K β (put env d (.mis es)) H a' w'->wpList K.P ops Q l' a' w'):wpList K.P ops Q (o::l) a w:=by
 unfold De at h;split at h
 ·rename_i d' t hg Bw xA;split at h
  ·rename_i k e ht;split at h
   ·rename_i kd qB;split at h
    ·rename_i aaR;simp only[afZ,agq] at h;obtain⟨rfl,rfl,rfl⟩:=h;unfold wpList;rw[agc (by simp[Region.wanted,hg])];left;unfold Oper.wp;have mm:(execOp a.eval o).run K.P w= .ok (.value (.map (some w.heap.size))) (w.alloc (.map #[] 0)):=by
      simp[execOp,xA,Instr.makeMap,Result.andThen]
     rw[mm,Oper.upon_value,Bw];have j9:(w.alloc (.map #[] 0)).heap=w.heap.push (.map #[] 0):=rfl
     refine Ou ht qB (a:=a.put (some d') (.map (some w.heap.size))) (r:=w.heap.size) (by
      simp only[Act.put,EB];rw[agc ⟨rfl,by rw[hr.size];exact hd⟩]) l _ #[] 0 [] (by rw[j9];simp) ajL (by simpa using aaR) ?_
     intro w' xs c g1 g2 g3;have hw:w'.heap.size=w.heap.size+1:=(by rw[g1.size,j9];simp);have gw:oB w w':=⟨g1.os,g1.tape,g1.output,ajK,λq hq=>by
      rw[g1.block q ajK,j9];simp[Array.getElem?_push,Nat.ne_of_lt hq]⟩
     refine hk _ _ (hr.step (d:=some d') gw (λn e=>by cases e;exact hd) (λ_=> ?_) (λ_=>by simp[AV.aq]));simp only[RV];refine⟨w.heap.size,xs,c,rfl,⟨.inr hr.frame.size,λq hq hb=> ?_⟩,ajK,g2,anP⟩;have:=hr.s_ hq hb;omega
    cases h
   cases h
  cases h
 cases h
inductive SL (P:Program) (G:Nat->Option (List IV)) (ops:Array Oper):List Oper->List bd->Prop
 |nil:SL P G ops [] []
 |cons {o:Oper} {i:bd} {l:List Oper} {is:List bd}:oH P G ops o=some (bd.lU i)->SL P G ops l is->SL P G ops (o::l) (i::is)
 |lit {o:Oper} {d:Nat} {es:List (Int×List UInt8)} {l l':List Oper} {is:List bd}:De P o l=some (d,es,l')->SL P G ops l' is->SL P G ops (o::l) (⟨some d,none,.Lt es⟩::is)
def Ov {ops:Array Oper} {k:Env->Hp->Prop} {Q:Exit->Act->World->Prop} (hk:∀bJ H' β' a' w',k bJ H'->aO K β' bJ H' a' w'->Q .normal a' w') {l:List Oper} {is:List bd} (h:SL K.P K.G ops l is) :
  ∀(env:Env) (H:Hp) (a:Act) (w:World) (β:Lb->Option Nat),AO ⟨K.P,K.G,K.N⟩ is env H k->aO K β env H a w->wpList K.P ops Q l a w:=by
 induction h with
 |nil=>exactλenv H a w β ha hr=>hk _ _ _ _ _ ha hr
 |@cons o i l is h1 _ ih=>
  intro env H a w β ha hr;simp only[AO] at ha;unfold wpList;exact te hr h1 (k:=λbJ H'=>AO ⟨K.P,K.G,K.N⟩ is bJ H' k) (λbJ H' β' a' w' q1 q2=>ih bJ H' a' w' β' q1 q2) ha
 |@lit o d es l l' is h1 _ ih=>
 intro env H a w β ha hr;simp only[AO,gW] at ha;rcases ha with⟨_,hd,x,hx,ha⟩|⟨h,_⟩
 ·simp only[aw,afZ] at hx;subst hx;exact LJ hr h1 (hd d rfl) λa' w' qf=>ih _ _ _ _ β ha qf
 cases h
end

def ju.os:ju->List O
 | .ea x| .Va x _| .len x| .lens x| .not x| .ext x _| .N2 x| .cvi _ x| .cvb x| .cvt x| .load _ x| .box x| .ZY _ x| .cap x| .N3 x _ _| .N4 x _ _=>[x]
 | .pick c a b=>[c,a,b]
 | .ZV x i _| .ixs x i| .ixp x i _ _| .N5 x i=>[x,i]
 | .Bd x lo hi mx _=>x::(lo.toList++hi.toList++mx.toList)
 | .Ls x lo hi=>x::(lo.toList++hi.toList)
 | .bin _ x y| .eqb _ x y| .eqp _ x y| .eqi _ x y| .N1 _ _ x y| .max x y| .min x y| .store _ x y| .app x y _ _| .Ht x y _ _| .Hu x y _ _ _| .Hi x y _=>[x,y]
 | .ZW _ ps=>ps.map (·.2.2)
 | .lits _ _ _ ps=>ps.map (·.2)
 | .oz _ _ ps=>ps.map (·.2)
 | .ZZ _ qs cs=>qs++cs
 | .ZX _ cs=>cs
 | .new _| .Lt _=>[]
 | .stuck=>[]
 | .RZ n c _ _ _=>[n,c]
 | .call _ args=>args
 | .y6 _ args=>args
 | .qq x args=>x::args
def O.us:O->List Nat
 | .t n=>[n]
 | .c _=>[]
def bd.us (i:bd):List Nat:=i.i.os.flatMap O.us++(match i.g with|some (s,_)=>[s]|none=>[])
theorem WV {env:Env} {d:Option Nat} {y:AV} {x:O} (h:∀n,d=some n->n∉x.us):ev (eh env d y) x=ev env x:=by
 cases x with
 |c x=>rfl
 |t n=>
 cases d with
 |none=>rfl
 |some m=>
 have:=h m rfl;simp[O.us] at this;simp[ev,eh,put,agQ this]
section
variable {env bJ:Env}
def lE {o:Option O} (h:∀x∈o.toList,ev env x=ev bJ x) (m n:Nat):iz env o m n=iz bJ o m n:=by
 cases o with
 |none=>rfl
 |some x=>grind [iz]
def LK {lo hi mx:Option O} (h:∀x∈lo.toList++hi.toList++mx.toList,ev env x=ev bJ x) (n:Nat):nG env lo hi mx n=nG bJ lo hi mx n:=by
 have h1:=λm n=>lE (o:=lo) (λx hx=>h x ajV) m n;have h2:=λm n=>lE (o:=hi) (λx hx=>h x ajV) m n;have h3:=λm n=>lE (o:=mx) (λx hx=>h x ajV) m n;cases mx with
 |none=>grind [nG]
 |some m=>grind [nG]
def LL {lo hi mx:Option O} (h:∀x∈lo.toList++hi.toList++mx.toList,ev env x=ev bJ x) (n c:Nat):sG env lo hi mx n c=sG bJ lo hi mx n c:=by
 have h1:=λm n=>lE (o:=lo) (λx hx=>h x ajV) m n;have h2:=λm n=>lE (o:=hi) (λx hx=>h x ajV) m n;have h3:=λm n=>lE (o:=mx) (λx hx=>h x ajV) m n;cases mx with
 |none=>grind [sG]
 |some m=>grind [sG]
def mO {α β:Type} {l:List α} {f:α->O} {g:α->AV->β} (h:∀x∈l.map f,ev env x=ev bJ x):(l.map λp=>g p (ev env (f p)))=l.map λp=>g p (ev bJ (f p)):=
 agX λp hp=>by rw[h _ (aiA hp)]
def mL (l:List O) (h:∀x∈l,ev env x=ev bJ x):l.map (ev env)=l.map (ev bJ):=agX h
def iB {i:ju} (h:∀x∈i.os,ev env x=ev bJ x):aw i env=aw i bJ:=by
 cases i with
 |Bd x lo hi mx sz=>
  have h1:=λy hy=>h y (ah9 _ hy);simp only[aw,nH,h x (.head _),LK h1,LL h1]
 |Ls x lo hi=>
  have h1:=λy hy=>h y (.tail _ (aiS _ hy));have h2:=λy hy=>h y (.tail _ (ajr _ hy));simp only[aw,h x (.head _),lE h1,lE h2]
 |ZW z ps=>simp only[aw,mO (g:=λp x=>(p.1,p.2.1,x)) h]
 |lits n sz z ps=>simp only[aw,mO (g:=λp x=>(p.1*sz,sz,x)) h]
 |ZX f cap=>simp only[aw,mL cap h]
 |ZZ f qs cs=>simp only[aw,mL _ λp hp=>h p (aiS _ hp),mL _ λp hp=>h p (ajr _ hp)]
 |_=>simp_all[aw,ju.os]
def LM {S:St} {d:Option Nat} {i:ju} (h:∀x∈i.os,ev env x=ev bJ x) {H:Hp} {k:AV->Hp->Prop} (ha:dX S d i env H k):dX S d i bJ H k:=by
 cases i with
 |call f args|y6 f args=>simpa only[dX,mL args h] using ha
 |oz sz z ps=>simpa only[dX,mO (g:=λp x=>(p.1,x)) h] using ha
 |qq x args=>simpa only[dX,h x (.head _),mL _ λp hp=>h p (.tail _ hp)] using ha
 |load m x=>simpa only[dX,h x (.head _),iB h] using ha
 |box x|ZY n x|cap x|N3 x sz z=>simpa only[dX,h x (.head _)] using ha
 |store m x y|app x y sz b|Hu x y sz b z|Hi x y sz|RZ x y sz b z=>simpa only[dX,h x (.head _),h y (.tail _ (.head _))] using ha
 |_=>simpa only[dX,iB h] using ha
end
inductive Fp where
 |no
 |rw (rs ws:List Lb)
 |all
 |v7 (fs:List Lb)
def ie:AV->List Lb
 | .ptr l _ _ _=>[l]
 | .sl l _ _ _=>[l]
 | .slk l _ _ _ _=>[l]
 |_=>[]
open Classical in
noncomputable def jx (d:Option Nat) (i:ju) (env:Env) (H:Hp):Option (AV×Hp):=
 match i with
 | .load m a=>(eV m (ev env a) H).map fun x=>(x,H)
 | .box x=>d.bind fun n=>if H (.loc n)= .unused∧(ev env x).Bq=true∧0<(ev env x).cells.length∧(ev env x).cells.length≤maxLen then
  some (.ptr (.loc n) (ev env x).cells.length 0 0,aS H (.loc n) (.live ⟨(ev env x).cells.length,[(ev env x).cells]⟩)) else none
 | .new cs=>d.bind fun n=>if H (.loc n)= .unused∧0<cs.length∧cs.length≤maxLen then
  some (.ptr (.loc n) cs.length 0 0,aS H (.loc n) (.live ⟨cs.length,[cs]⟩)) else none
 | .store m a x=>if d=none then(kF m (ev env a) (ev env x) H).map fun H'=>(.un,H') else none
 | .app s x sz bytes=>d.bind fun n=>iQ sz bytes n (ev env s) (ev env x) H
 | .Hi s x sz=>EI sz (ev env s) (ev env x) H
 | .oz sz z ps=>d.bind fun q=>C' sz q z (ps.map fun p=>(p.1,ev env p.2)) H
 | .N3 x sz z=>(C9 sz z (ev env x) H).map fun H'=>(.bq [],H')
 | .RZ n c sz b z=>d.bind fun q=>zf sz b q z (ev env n) (ev env c) H
 |_=>none
def cZ (i:ju) (env:Env):List Lb:=
 match i with
 | .load _ a=>ie (ev env a)
 | .app _ x _ _=>ie (ev env x)
 | .Hi _ x _=>ie (ev env x)
 |_=>[]
def bj (d:Option Nat) (i:ju) (env:Env):List Lb:=
 match i with
 | .box _| .new _| .oz _ _ _| .RZ _ _ _ _ _=>d.toList.map .loc
 | .store _ a _=>ie (ev env a)
 | .app s _ _ _=>match ev env s with
  | .sl l _ _ _=>l::d.toList.map l.app
  | .slk l _ _ _ _=>l::d.toList.map .loc
  |_=>d.toList.map .loc
 | .Hi s _ _=>ie (ev env s)
 | .N3 x _ _=>ie (ev env x)
 |_=>[]
def LN {m:Option Nat} {x:AV} {H H1:Hp} {y:AV} (h:eV m x H=some y) (ha:∀l∈ie x,H1 l=H l):eV m x H1=some y:=by
 cases x with
 |ptr l sz i j=>grind [eV,ie]
 |_=>grind [eV]
def EP {sz:Nat} {x:AV} {H H1:Hp} (ha:∀l∈ie x,H1 l=H l):kG sz x H1=kG sz x H:=by
 cases x with
 |sl l s i n=>grind [kG,ie]
 |slk l s i n c=>grind [kG,ie]
 |_=>rfl
def ER {x:AV} {p:Lb×Nat×Nat×Nat} (h:Vi x=some p):ie x=[p.1]:=by
 cases x<;>simp[Vi] at h
 all_goals (subst h;rfl)
def qC {d:Option Nat} {i:ju} {env:Env} {H H' H1:Hp} {x:AV} (h:jx d i env H=some (x,H')) (ha:∀l,l∈cZ i env\/l∈bj d i env->H1 l=H l) :
  ∃H1',jx d i env H1=some (x,H1')/\(∀l∈bj d i env,H1' l=H' l)/\∀l,l∉bj d i env->H1' l=H1 l:=by
 obtain⟨W,hW⟩:∃W:Hp,∀q,W q=if q∈bj d i env then H' q else H1 q:=⟨_,λ_=>rfl⟩;refine⟨W,?_,λl hl=>by rw[hW,agc hl],λl hl=>by rw[hW,af8 hl]⟩;have u2:∀l l2 s s2,aS (aS H l s) l2 s2=H'->l∈bj d i env->l2∈bj d i env->aS (aS H1 l s) l2 s2=W:=by
  rintro l l2 s s2 rfl _ _;funext q;rw[hW];have:=ha q;grind [aS]
 have u1:∀l s,aS H l s=H'->l∈bj d i env->aS H1 l s=W:=λl s e h=>by
  have:=u2 l l s s;grind [JQ]
 cases i with
 |load m a=>
  simp only[jx,acF,agq] at h ⊢;obtain⟨y,h1,rfl,rfl⟩:=h;exact⟨y,LN h1 (λl hl=>ha l (.inl hl)),rfl,by funext q;simp[hW,bj]⟩
 |box y=>cases d<;>simp[jx,cZ,bj] at h ha u1 ⊢;grind
 |new cs=>cases d<;>simp[jx,cZ,bj] at h ha u1 ⊢;grind
 |oz sz z ps=>cases d<;>simp[jx,cZ,bj,C',afX] at h ha u1 ⊢;grind
 |RZ x y sz b z=>cases d<;>simp[jx,cZ,bj,zf] at h ha u1 ⊢;split at h<;>grind
 |store m a y=>
  simp only[jx,kF,cZ,bj] at h ha u1 ⊢;cases d<;>simp at h ⊢;split at h<;>simp[*,ie] at h ha u1 ⊢;split at h<;>simp[*] at h ⊢;obtain⟨⟨h1,h5⟩,h2⟩:=h;obtain⟨cs,h3,h4⟩:=afX.1 h5;simp only[h3,h1,h2] at h4 ⊢
  grind
 |Hi s y sz=>
  simp only[jx,EI,cZ,bj] at h ha u1 ⊢;rw[EP (λl hl=>ha l (.inl hl))];simp only[afX] at h ⊢;obtain⟨n,hn,p,hp,h⟩:=h;refine⟨n,hn,p,hp,?_⟩;simp[ER hp] at ha u1;rw[ha p.1 (.inr rfl)]
  repeat' split at h
  all_goals grind
 |N3 y sz z=>
  simp only[jx,C9,cZ,bj,acF] at h ha u1 ⊢;obtain⟨n,h,h2⟩:=h;cases h2;split at h
  ·cases h
  obtain⟨p,hp,h3⟩:=afX.1 h;simp[ER hp] at ha u1;rw[hp,af_,ha]
  repeat' split at h3
  all_goals grind
 |app s y sz bytes=>
  simp only[jx,cZ,bj,afX] at h ha u1 u2 ⊢;obtain⟨n,rfl,h⟩:=h;refine⟨n,rfl,?_⟩;unfold iQ at h ⊢;rw[EP (λl hl=>ha l (.inl hl))];obtain⟨news,h1,h2⟩:=afX.1 h;clear h;rw[h1,af_];clear h1;cases e:ev env s<;>simp[e] at h2 ha u1 u2 ⊢<;>try grind
  ·rw[ha _ (.inr (.inl rfl)),ha _ (.inr (.inr rfl))];split at h2<;>grind
  rw[ha _ (.inr (.inl rfl)),ha _ (.inr (.inr rfl))];split at h2<;>grind
 |_=>simp[jx] at h
def kJ {d:Option Nat} {i:ju} {env:Env} {H H':Hp} {x:AV} (h:jx d i env H=some (x,H')):∀l,l∉bj d i env->H' l=H l:=by
 obtain⟨H1',h1,_,h3⟩:=qC h (H1:=H) (λ_ _=>rfl)
 grind
def mC {d:Option Nat} {i:ju} {env bJ:Env} (h:∀x∈i.os,ev env x=ev bJ x) (H:Hp):jx d i env H=jx d i bJ H/\cZ i env=cZ i bJ/\bj d i env=bj d i bJ:=by
 cases i with
 |oz sz z ps=>simp[jx,cZ,bj,mO (g:=λp x=>(p.1,x)) h]
 |box x=>simp only[jx,cZ,bj];rw[h x (.head _)];simp
 |_=>simp_all[jx,cZ,bj,ju.os]
end Go.Am

namespace Go.Am
open Go Go.RowKit
def Quiet (S:St) (i:ju) (env:Env) (res:AV):Prop:=
 match i with
 | .call f args=>aj S.P S.G f (args.map (ev env)) res
 | .qq x args=>∃f first cap,ev env x= .fn f first cap/\dE S.P f=true/\aj S.P S.G f (first++args.map (ev env)++cap) res
 |_=>False
def aaS (S:St) (F:List Lb) (f:Nat) (args:List AV) (H:Hp) (k:AV->Hp->Prop):Prop:=
 ∃Q:AV->Hp->Prop,oG S f args H Q/\(∃x H',Q x H')/\∀x H',Q x H'->(∀l:Lb,l.ix∈F->H' l=H l)/\k x H'
def bR (S:St) (fp:Fp) (d:Option Nat) (i:ju) (env:Env) (H:Hp) (k:AV->Hp->Prop):Prop:=
 match fp with
 | .no=>∃x,(aw i env=some x\/Quiet S i env x)/\k x H
 | .rw R W=>∃x H',jx d i env H=some (x,H')/\(∀l∈cZ i env,l.ix∈R\/l.ix∈W)/\(∀l∈bj d i env,l.ix∈W)/\k x H'
 | .all=>dX S d i env H k
 | .v7 F=>match i with
  | .call f args=>aaS S F f (args.map (ev env)) H k
  |_=>False
theorem oG.mono {S:St} {f:Nat} {args:List AV} {H:Hp} {k k':AV->Hp->Prop} (hk:∀x H,k x H->k' x H) (h:oG S f args H k):oG S f args H k':=by
 rcases h with⟨res,h1,h2⟩|⟨bW,res,h1,h2,h3,h4⟩|⟨ρ,nR,bW,Q,h1,h2,h3,h4,h5,h6,h7,h8,h9⟩
 ·exact .inl ⟨res,h1,hk _ _ h2⟩
 ·exact .inr (.inl ⟨bW,res,h1,h2,h3,hk _ _ h4⟩)
 refine .inr<| .inr ⟨ρ,nR,bW,Q,h1,h2,h3,h4,h5,h6,h7,h8,λx H' hq=> ?_⟩
 grind
def dX.mono {S:St} {d:Option Nat} {i:ju} {env:Env} {H:Hp} {k k':AV->Hp->Prop} (hk:∀x H,k x H->k' x H) (h:dX S d i env H k):dX S d i env H k':=by
 cases i<;>simp only[dX] at h ⊢<;>first|exact oG.mono hk h|grind [oG.mono]
def bR.mono {S:St} {fp:Fp} {d:Option Nat} {i:ju} {env:Env} {H:Hp} {k k':AV->Hp->Prop} (hk:∀x H,k x H->k' x H) (h:bR S fp d i env H k):bR S fp d i env H k':=by
 cases fp with
 |all=>exact dX.mono hk h
 |v7 F=>
  cases i<;>simp only[bR] at h ⊢;obtain⟨Q,h1,h2,h3⟩:=h;exact⟨Q,h1,h2,λx H' hq=>⟨(h3 x H' hq).1,hk _ _ (h3 x H' hq).2⟩⟩
 |_=>grind [bR]
def bR.act {S:St} {fp:Fp} {d:Option Nat} {i:ju} {env:Env} {H:Hp} {k:AV->Hp->Prop} (h:bR S fp d i env H k):dX S d i env H k:=by
 cases fp with
 |all=>exact h
 |v7 F=>
  cases i<;>simp only[bR] at h;obtain⟨Q,h1,h2,h3⟩:=h;exact oG.mono (λx H' hq=>(h3 x H' hq).2) h1
 |no=>cases i<;>simp_all[bR,dX,Quiet,aw,oG]<;>grind
 |rw R W=>cases i<;>simp only[bR,jx,afX,acF] at h<;>simp only[dX]<;>grind [acF]
def tf {S:St} {i:ju} {env bJ:Env} (h:∀x∈i.os,ev env x=ev bJ x) {x:AV} (hq:Quiet S i env x):Quiet S i bJ x:=by
 cases i with
 |call f args=>
  grind [Quiet,ev,agX,ju.os]
 |qq y args=>
  grind [Quiet,ev,agX,ju.os,aga]
 |_=>exact hq
def ti {S:St} {fp:Fp} {d:Option Nat} {i:ju} {env bJ:Env} (h:∀x∈i.os,ev env x=ev bJ x) {H:Hp} {k:AV->Hp->Prop} (ha:bR S fp d i env H k):bR S fp d i bJ H k:=by
 cases fp with
 |no=>
  obtain⟨x,h1,h2⟩:=ha;exact⟨x,h1.imp (iB h▸id) (tf h),h2⟩
 |rw R W=>
  obtain⟨e1,e2,e3⟩:=mC (d:=d) h H;simpa only[bR,e1,e2,e3] using ha
 |all=>exact LM h ha
 |v7 F=>
 cases i with
 |call f args=>simpa only[bR,mL args h] using ha
 |_=>cases ha
def bR.adJ {S:St} {F:List Lb} {d:Option Nat} {i:ju} {env:Env} {H:Hp} {k:AV->Hp->Prop} (h:bR S (.v7 F) d i env H k):bR S (.v7 F) d i env H λx H'=>(∀l:Lb,l.ix∈F->H' l=H l)/\k x H':=by
 cases i<;>simp only[bR] at h ⊢;obtain⟨Q,h1,h2,h3⟩:=h;exact⟨Q,h1,h2,λx H' hq=>⟨(h3 x H' hq).1,h3 x H' hq⟩⟩
def Es (S:St) (p:bd×Fp) (env:Env) (H:Hp) (k:Env->Hp->Prop):Prop:=
 (gW p.1.g env=some true/\(∀n,p.1.d=some n->n<S.N)/\bR S p.2 p.1.d p.1.i env H λx H'=>k (eh env p.1.d x) H') \/
  (gW p.1.g env=some false/\(∀n,p.1.d=some n->n<S.N)/\k (eh env p.1.d .un) H)
def qh (S:St):List (Nat×bd×Fp)->Env->Hp->(Env->Hp->Prop)->Prop
 |[],env,H,k=>k env H
 |p::r,env,H,k=>Es S p.2 env H λe h=>qh S r e h k
def rC (d:Option Nat) (us:List Nat):Bool:=match d with|some n=> !us.contains n|none=>true
def B4 (p q:bd):Bool:=rC p.d q.us&&rC q.d p.us&&(p.d.isNone||p.d !=q.d)
def Fp.Vk:Fp->Bool
 | .v7 _=>true
 |_=>false
def nS:Fp->Fp->Bool
 | .no,_=>true
 | .rw _ _,.no=>true
 | .rw R W,.rw R' W'=>W.all (λl=> !R'.contains l&& !W'.contains l)&&R.all (λl=> !W'.contains l)
 | .rw R W,.v7 F=>W.isEmpty&&R.all (λl=>F.contains l)
 | .v7 _,.no=>true
 | .v7 F,.rw R W=>W.isEmpty&&R.all (λl=>F.contains l)
 |_,_=>false
def ju.HS:ju->Bool
 | .call _ _| .qq _ _=>true
 |_=>false
def indep (p q:bd×Fp):Bool:=B4 p.1 q.1&&(nS p.2 q.2&& !(p.2.Vk&&q.1.i.HS))
section
variable {S:St} {env:Env} {H:Hp}
def Es.mono {p:bd×Fp} {k k':Env->Hp->Prop} (hk:∀e h,k e h->k' e h) (h:Es S p env H k):Es S p env H k':=by
 rcases h with⟨h1,h2,h3⟩|⟨h1,h2,h3⟩
 ·exact .inl ⟨h1,h2,h3.mono λ_ _=>hk _ _⟩
 exact .inr ⟨h1,h2,hk _ _ h3⟩
theorem qh.mono {k k':Env->Hp->Prop} (hk:∀e h,k e h->k' e h):∀(l:List (Nat×bd×Fp)) (env:Env) (H:Hp),qh S l env H k->qh S l env H k'
 |[],env,H,h=>hk _ _ h
 |p::r,env,H,h=>Es.mono (λe h'=>qh.mono hk r e h') h
def iR {d d':Option Nat} (h:d=none\/d≠d') (x y:AV):eh (eh env d x) d' y=eh (eh env d' y) d x:=by
 cases d with
 |none=>rfl
 |some n=>
 cases d' with
 |none=>rfl
 |some m=>
 have:n≠m:=ajV
 funext q;simp[eh,put]
 grind
theorem WX {g:Option (Nat×Bool)} {d:Option Nat} {x:AV} (h:∀n,d=some n->n∉(match g with|some (s,_)=>[s]|none=>([]:List Nat))):gW g (eh env d x)=gW g env:=by
 cases g with
 |none=>rfl
 |some p=>
 obtain⟨s,t⟩:=p;cases d with
 |none=>rfl
 |some m=>
 have:=h m rfl;simp at this;simp[gW,eh,put,agQ this]
def Df {d:Option Nat} {us:List Nat} (h:rC d us=true):∀n,d=some n->n∉us:=by
 grind [rC]
def iC {q:bd} {d:Option Nat} (h:rC d q.us=true) (x:AV) (env:Env):gW q.g (eh env d x)=gW q.g env/\∀o∈q.i.os,ev (eh env d x) o=ev env o:=by
 have h':=Df h
 grind [WX,bd.us,WV]
def Es.shift {q:bd×Fp} {d:Option Nat} (h:rC d q.1.us=true) (hd:d=none\/d≠q.1.d) {x:AV} {k:Env->Hp->Prop} (hs:Es S q (eh env d x) H k) :
  Es S q env H λe h=>k (eh e d x) h/\∃y,e=eh env q.1.d y:=by
 obtain⟨e1,e2⟩:=iC h x env;rcases hs with⟨h1,h2,h3⟩|⟨h1,h2,h3⟩
 ·exact .inl ⟨by rw[<-e1];exact h1,h2,(ti e2 h3).mono λy H' hk=>⟨by rw[<-iR hd];exact hk,y,rfl⟩⟩
 exact .inr ⟨by rw[<-e1];exact h1,h2,by rw[<-iR hd];exact h3,_,rfl⟩
def Es.swap {p q:bd×Fp} (hi:indep p q=true) {k:Env->Hp->Prop} (h:Es S p env H λe h=>Es S q e h k):Es S q env H λe h=>Es S p e h k:=by
 simp only[indep,B4,agm,ahu,Option.isNone_iff_eq_none,ajv] at hi;obtain⟨⟨⟨r1,r2⟩,r3⟩,hf,HT⟩:=hi;obtain⟨lp,fp⟩:=p;obtain⟨lq,fq⟩:=q;simp only at r1 r2 r3 hf;have r3':lq.d=none\/lq.d≠lp.d:=by
  rcases r3 with r3|r3
  ·by_cases e:lq.d=none
   ·exact .inl e
   exact .inr (by rw[r3];exact e)
  exact .inr (agQ r3)
 rcases h with⟨h1,h2,h3⟩|⟨h1,h2,h3⟩
 ·cases fp with
  |no=>
   obtain⟨x,h4,h5⟩:=h3;refine(h5.shift r1 r3).mono ?_;rintro e h' ⟨hk,y,rfl⟩;obtain⟨e1,e2⟩:=iC r2 y env;refine .inl ⟨by simp only;rw[e1];exact h1,h2,x,?_,hk⟩;rcases h4 with h4|h4
   ·exact .inl (by simp only;rw[iB e2];exact h4)
   exact .inr (tf (λo ho=>(e2 o ho).symm) h4)
  |rw R W=>
   obtain⟨x,H',m1,m2,m3,m4⟩:=h3;have LO:∀y,jx lp.d lp.i (eh env lq.d y) H=some (x,H')/\cZ lp.i (eh env lq.d y)=cZ lp.i env/\bj lp.d lp.i (eh env lq.d y)=bj lp.d lp.i env:=λy=>by
    obtain⟨c1,c2,c3⟩:=mC (d:=lp.d) (iC r2 y env).2 H;exact⟨by rw[c1];exact m1,c2,c3⟩
   obtain⟨f1,f2⟩:=iC r1 x env;have g2:∀y,gW lp.g (eh env lq.d y)=some true:=λy=>ano;rcases m4 with⟨k1,k2,k3⟩|⟨k1,k2,k3⟩
   ·cases fq with
    |no=>
     obtain⟨y,k4,k5⟩:=k3;refine .inl ⟨aln,k2,y,?_,?_⟩
     ·rcases k4 with k4|k4
      ·exact .inl (by simp only;rw[<-iB f2];exact k4)
      exact .inr (tf f2 k4)
     exact .inl ⟨g2 y,h2,x,H',(LO y).1,by simp only;rw[(LO y).2.1];exact m2,by simp only;rw[(LO y).2.2];exact m3,by simp only;rw[<-iR r3];exact k5⟩
    |rw R' W'=>
     obtain⟨y,lS,k4,k5,k6,k7⟩:=k3;obtain⟨c1,c2,c3⟩:=mC (d:=lq.d) f2 H';simp only at k4 k5 k6 k7;rw[c1] at k4;rw[c2] at k5;rw[c3] at k6;simp only[nS,agm,agJ,aiq,ahT,ahn] at hf;obtain⟨SH,R8⟩:=hf;have pW:∀l,l∈bj lp.d lp.i env->l.ix∉R'/\l.ix∉W':=λl hl=>SH l.ix (m3 l hl);have WY:∀l,l∈cZ lq.i env\/l∈bj lq.d lq.i env->H l=H' l:=by
      intro l hl;refine(kJ m1 l λhw=> ?_).symm;rcases hl with hl|hl
      ·rcases k5 l hl with e|e
       ·exact(pW l hw).1 e
       exact(pW l hw).2 e
      exact(pW l hw).2 (k6 l hl)
     obtain⟨H2,a1,a2,a3⟩:=qC k4 WY;have Dg:∀l,l∈cZ lp.i env\/l∈bj lp.d lp.i env->H2 l=H l:=by
      intro l hl;refine a3 l λhw=> ?_;rcases hl with hl|hl
      ·rcases m2 l hl with e|e
       ·exact R8 l.ix e (k6 l hw)
       exact(SH l.ix e).2 (k6 l hw)
      exact(pW l hl).2 (k6 l hw)
     obtain⟨H3,b1,b2,b3⟩:=qC m1 Dg;have hH:H3=lS:=by
      funext l;by_cases hw:l∈bj lp.d lp.i env
      ·rw[b2 l hw];exact(kJ k4 l λhq=>(pW l hw).2 (k6 l hq)).symm
      rw[b3 l hw];by_cases hq:l∈bj lq.d lq.i env
      ·exact a2 l hq
      rw[a3 l hq,kJ k4 l hq,kJ m1 l hw]
     subst hH;refine .inl ⟨aln,k2,y,H2,a1,k5,k6,?_⟩;obtain⟨d1,d2,d3⟩:=mC (d:=lp.d) (iC r2 y env).2 H2;exact .inl ⟨g2 y,h2,x,H3,by simp only;rw[d1];exact b1,by simp only;rw[d2];exact m2,by simp only;rw[d3];exact m3,by simp only;rw[<-iR r3];exact k7⟩
    |all=>simp[nS] at hf
    |v7 F=>
     simp only[nS,agm,List.isEmpty_iff,agJ,ahT,agv] at hf;obtain⟨rfl,hf⟩:=hf;have yn:∀l,l∉bj lp.d lp.i env:=λl hl=>(by simpa using m3 l hl);have hH:H'=H:=funext λl=>kJ m1 l (yn l);subst hH;refine .inl ⟨aln,k2,?_⟩;refine bR.mono (fp:= .v7 F) (k:=λy H2=>(∀l:Lb,l.ix∈F->H2 l=H' l)/\k (eh (eh env lp.d x) lq.d y) H2) ?_ (ti f2 (bR.adJ k3));rintro y H2 ⟨g1,g3⟩;have Dg:∀l,l∈cZ lp.i env\/l∈bj lp.d lp.i env->H2 l=H' l:=by
      intro l hl;rcases hl with hl|hl
      ·rcases m2 l hl with e|e
       ·exact g1 l (hf _ e)
       simp at e
      exact absurd hl (yn l)
     obtain⟨H3,b1,b2,b3⟩:=qC m1 Dg;have hH:H3=H2:=funext λl=>b3 l (yn l);subst hH;obtain⟨d1,d2,d3⟩:=mC (d:=lp.d) (iC r2 y env).2 H3;exact .inl ⟨g2 y,h2,x,H3,by simp only;rw[d1];exact b1,by simp only;rw[d2];exact m2,by simp only;rw[d3];exact m3,by simp only;rw[<-iR r3];exact g3⟩
   refine .inr ⟨aln,k2,?_⟩;exact .inl ⟨g2 .un,h2,x,H',(LO .un).1,by simp only;rw[(LO .un).2.1];exact m2,by simp only;rw[(LO .un).2.2];exact m3,by simp only;rw[<-iR r3];exact k3⟩
  |all=>cases fq<;>simp[nS] at hf
  |v7 F=>
   cases hli:lp.i with
   |call f args=>
    rw[hli] at h3;simp only[bR] at h3;obtain⟨Q,m1,⟨x0,H0,m2⟩,m3⟩:=h3;have Z7:∀x H',Q x H'->∀l:Lb,l.ix∈F->H' l=H l:=λx H' hq=>(m3 x H' hq).1;have fG:∀x H',Q x H'->Es S (lq,fq) (eh env lp.d x) H' k:=λx H' hq=>(m3 x H' hq).2;have fs:=λx:AV=>iC r1 x env;have back:∀(y:AV) (k':AV->Hp->Prop),(∀x H',Q x H'->k' x H')->bR S (.v7 F) lp.d lp.i (eh env lq.d y) H k':=λy k' uE=>by
     have h4:bR S (.v7 F) lp.d lp.i env H k':=by
      rw[hli];simp only[bR];exact⟨Q,m1,⟨x0,H0,m2⟩,λx H' hq=>⟨Z7 x H' hq,uE x H' hq⟩⟩
     exact ti (λo ho=>((iC r2 y env).2 o ho).symm) h4
    have g2:∀y,gW lp.g (eh env lq.d y)=some true:=λy=>ano;rcases fG x0 H0 m2 with⟨k1,k2,k3⟩|⟨k1,k2,k3⟩
    ·simp only at k1 k2 k3;rw[(fs x0).1] at k1;have bV:∀x H',Q x H'->bR S fq lq.d lq.i (eh env lp.d x) H' λy lS=>k (eh (eh env lp.d x) lq.d y) lS:=by
      intro x H' hq;rcases fG x H' hq with⟨e1,e2,e3⟩|⟨e1,e2,e3⟩
      ·exact e3
      simp only at e1;rw[(fs x).1,k1] at e1;simp at e1
     cases fq with
     |no=>
      have Wc:∀(y:AV) (bJ:Env),Quiet S lq.i bJ y->False:=by
       intro y bJ hq;have:lq.i.HS=false:=(by simpa[Fp.Vk] using HT);cases hi:lq.i<;>simp_all[Quiet,ju.HS]
      obtain⟨y,k4,_⟩:=k3;have k4:aw lq.i env=some y:=by
       rcases k4 with k4|k4
       ·rwa[iB (fs x0).2] at k4
       exact(Wc y _ k4).elim
      refine .inl ⟨k1,k2,y,.inl k4,?_⟩;refine .inl ⟨g2 y,h2,back y _ λx H' hq=> ?_⟩;obtain⟨y',e1,e2⟩:=bV x H' hq;have e1:aw lq.i env=some y':=by
       rcases e1 with e1|e1
       ·rwa[iB (fs x).2] at e1
       exact(Wc y' _ e1).elim
      rw[k4] at e1;cases e1;simp only;rw[<-iR r3];exact e2
     |rw R W=>
      simp only[nS,agm,List.isEmpty_iff,agJ,ahT,agv] at hf;obtain⟨rfl,hf⟩:=hf;have one:∀x H',Q x H'->∀y H2,jx lq.d lq.i (eh env lp.d x) H'=some (y,H2)->(∀l∈cZ lq.i (eh env lp.d x),l.ix∈R\/l.ix∈([]:List Lb))->(∀l∈bj lq.d lq.i (eh env lp.d x),l.ix∈([]:List Lb)) ->
        jx lq.d lq.i env H=some (y,H)/\H2=H'/\(∀l∈cZ lq.i env,l.ix∈R\/l.ix∈([]:List Lb))/\∀l∈bj lq.d lq.i env,l.ix∈([]:List Lb):=by
       intro x H' hq y H2 e1 e2 e3;obtain⟨c1,c2,c3⟩:=mC (d:=lq.d) (fs x).2 H';rw[c1] at e1;rw[c2] at e2;rw[c3] at e3;have yn:∀l,l∉bj lq.d lq.i env:=λl hl=>(by simpa using e3 l hl);have Ws:∀l,l∈cZ lq.i env\/l∈bj lq.d lq.i env->H l=H' l:=by
        intro l hl;rcases hl with hl|hl
        ·rcases e2 l hl with e|e
         ·exact(Z7 x H' hq l (hf _ e)).symm
         simp at e
        exact absurd hl (yn l)
       obtain⟨H3,b1,b2,b3⟩:=qC e1 Ws;have hH:H3=H:=funext λl=>b3 l (yn l);subst hH;exact⟨b1,funext λl=>kJ e1 l (yn l),e2,e3⟩
      obtain⟨y,H2,q1,q2,q3,_⟩:=k3;obtain⟨a1,_,a3,a4⟩:=one x0 H0 m2 y H2 q1 q2 q3;refine .inl ⟨k1,k2,y,H,a1,a3,a4,?_⟩;refine .inl ⟨g2 y,h2,back y _ λx H' hq=> ?_⟩;obtain⟨y',H2',p1,p2,p3,p4⟩:=bV x H' hq;obtain⟨b1,rfl,_,_⟩:=one x H' hq y' H2' p1 p2 p3;rw[a1] at b1;cases b1;simp only;rw[<-iR r3];exact p4
     |all=>simp[nS] at hf
     |v7 F'=>simp[nS] at hf
    simp only at k1 k2 k3;rw[(fs x0).1] at k1;refine .inr ⟨k1,k2,?_⟩;refine .inl ⟨g2 .un,h2,back .un _ λx H' hq=> ?_⟩;rcases fG x H' hq with⟨e1,e2,e3⟩|⟨e1,e2,e3⟩
    ·simp only at e1;rw[(fs x).1,k1] at e1;simp at e1
    simp only;rw[<-iR r3];exact e3
   |_=>rw[hli] at h3;simp only[bR] at h3
 refine(h3.shift r1 r3).mono ?_;rintro e h' ⟨hk,y,rfl⟩;obtain⟨e1,e2⟩:=iC r2 y env;exact .inr ⟨by simp only;rw[e1];exact h1,h2,hk⟩
theorem qh.front {q:Nat×bd×Fp} {l2:List (Nat×bd×Fp)} {k:Env->Hp->Prop}:∀(l1:List (Nat×bd×Fp)) (env:Env) (H:Hp),(∀p∈l1,indep p.2 q.2=true)->qh S (l1++q::l2) env H k ->
  qh S (q::(l1++l2)) env H k
 |[],env,H,_,h=>h
 |p::l1,env,H,hi,h=>by
  simp[List.cons_append,qh] at h ⊢;refine Es.swap (hi p ajL) (h.mono λe h' hq=> ?_);have:=qh.front l1 e h' (λp' fE=>hi p' ajV) hq
  grind [qh]
end
end Go.Am
