import Derived.Test.YtfinkeaikbmpgaaGreatDoorKAm7
set_option linter.unusedSimpArgs false
set_option linter.unusedVariables false
set_option linter.unnecessarySimpa false
set_option linter.defProp false
/- THE ABSTRACT MACHINE, part 9: the instructions that read, make and write owned rows. -/
namespace Go.Am
open Go Go.RowKit
def Wl (m:Option Nat) (x:AV) (H:Hp):Option AV:=
 match x with
 | .ptr l sz i j=>match H l with
  | .live r=>if r.sz=sz then(r.els[i]?).bind fun cs=>match m with
    |none=>cs[j]?
    |some k=>if j+k≤cs.length then some (.agg ((cs.drop j).take k)) else none
   else none
  |_=>none
 |_=>none
def gZ (m:Nat) (a x:AV) (H:Hp):Option Hp:=
 match a with
 | .ptr l sz i j=>match H l with
  | .live r=>if r.sz=sz∧x.sI=true∧x.cells.length=m then(r.els[i]?).bind fun cs=>
    if j+m≤cs.length then some (bD H l (.live ⟨sz,r.els.set i (cs.take j++x.cells++cs.drop (j+m))⟩)) else none
   else none
  |_=>none
 |_=>none
def iq (K:Kx) (env:Env) (a:Act) (w:World) (o:Oper) (d:Option Nat) (x:AV) (H':Hp):Prop:=
 ∃nx w' β' v,(execOp a.eval o).run K.P w= .ok nx w'∧(nx= .value v∨(nx= .skip∧v=undef))∧aH K β' (cV env d x) H' (a.put d v) w'
section
variable {K:Kx} {β:Lb→Option Nat} {env:Env} {H:Hp} {a:Act} {w:World}
def aJ.r {o:Oper} {x:AV} {d:Option Nat} (hr:aH K β env H a w) (hd:∀n,d=some n→n<K.N) (h:aJ K β H a w o x):iq K env a w o d x H:=by
 obtain⟨v,w',h1,h2,h3,h4⟩:=h;exact⟨_,w',β,v,h1,.inl rfl,hr.step h2 hd (fun _=>h3) (fun _=>h4)⟩
def ZE.block {l:Lb} {r:Row} {g:Nat} {I:Nat→Prop} (h:ZE w β H I l r) (hb:β l=some g) :
  ∃cur e cap,w.heap[g]?=some (.cells cur e (0,0))∧cur.size=cap*r.sz∧cap≤maxLen∧r.els.length≤cap ∧
   ∀i j cs x,r.els[i]?=some cs→cs[j]?=some x→∃v,cur[i*r.sz+j]?=some v∧RV w β H I x v:=by
 obtain⟨_,_,h3⟩:=h;simpa only[hb] using h3
def vb {r:Row} {cur:Array Value} {I:Nat→Prop} {i:Nat} {cs:List AV} (hi:r.els[i]?=some cs)
  (h:∀i j cs x,r.els[i]?=some cs→cs[j]?=some x→∃v,cur[i*r.sz+j]?=some v∧RV w β H I x v) :
  ∃vs:List Value,vs.length=cs.length∧br w β H I cs vs∧∀j v,vs[j]?=some v→cur[i*r.sz+j]?=some v:=by
 have key:∀(n:Nat) (ds:List AV),ds=cs.drop n→∃vs:List Value,vs.length=ds.length∧br w β H I ds vs∧∀j v,vs[j]?=some v→cur[i*r.sz+(n+j)]?=some v:=by
  intro n ds;induction ds generalizing n with
  |nil=>intro _;exact⟨[],rfl,QK,N7⟩
  |cons x ds ih=>
  intro e;have hx:cs[n]?=some x:=by rw[←Oz,←e];rfl
  have hd:ds=cs.drop (n+1):=by rw[←rY,←e];rfl
  obtain⟨v,h1,h2⟩:=h i n cs x hi hx;obtain⟨vs,k1,k2,k3⟩:=ih (n+1) hd;refine⟨v::vs,by simp[k1],⟨v,vs,rfl,h2,k2⟩,?_⟩;intro j u hj;cases j with
  |zero=>simp at hj;subst hj;simpa using h1
  |succ j=>
  have:=k3 j u (by simpa using hj)
  rwa[show n+1+j=n+(j+1) by omega] at this
 obtain⟨vs,k1,k2,k3⟩:=key 0 cs N7;exact⟨vs,k1,k2,fun j v hj=>by simpa using k3 j v hj⟩
def AV.vc {x:AV} (h:x.sI=true):∀y∈x.cells,y.one=true:=by
 cases x<;>simp[AV.sI,AV.one] at h<;>simp[AV.cells,AV.one];exact h
def nH (K:Kx) (β:Lb→Option Nat) (H:Hp) (a:Act) (w:World) (o:Oper) (x:AV):Prop:=
 ∃v,(execOp a.eval o).run K.P w= .ok (.value v) w∧RV w β H (Im K β H) x v∧∀l∈x.an,H l≠ .unused
def nH.v {o:Oper} {x:AV} (h:nH K β H a w o x):aJ K β H a w o x:=by
 obtain⟨v,h1,h2,h3⟩:=h;exact .same h1 h2 h3
def nH.same {o:Oper} {x:AV} {v:Value} (h:(execOp a.eval o).run K.P w= .ok (.value v) w)
 (hv:RV w β H (Im K β H) x v) (hm:∀l∈x.an,H l≠ .unused):nH K β H a w o x:=⟨v,h,hv,hm⟩
def t_ (hr:aH K β env H a w) {o:Oper} {t:TypeId} {x:Operand} {x':O} {m:Option Nat} (ho:o.op= .load t x) (hm:u5 K.P t=some m) (hx:co K.G x=some x') {y:AV}
  (hy:Wl m (ev env x') H=some y):nH K β H a w o y:=by
 have h:=hr.ev hx;unfold Wl at hy;split at hy
 ·rename_i l sz i j e;rw[e] at h;simp only[RV] at h;obtain⟨ad,h1,h2⟩:=h;split at hy
  ·rename_i r hl;split at hy
   ·rename_i gm;subst gm;obtain⟨cs,hi,hy⟩:=dJ.1 hy;obtain⟨g,hb,rfl⟩:=h2 ⟨r,hl⟩;obtain⟨cur,e0,cap,k1,k2,k3,k4,k5⟩:=(hr.rows l r hl).block hb;obtain⟨vs,v1,v2,v3⟩:=vb hi k5;have kG:∀q v,vs[q]?=some v→w.cell? ⟨g,i*r.sz+q,none⟩=some v:=by
     intro q v hq;rw[cell_of_row w g _ cur e0 (0,0) k1];exact v3 q v hq
    have run:∀v,(loadVar t ⟨g,i*r.sz+j,none⟩).run K.P w= .ok v w→(execOp a.eval o).run K.P w= .ok (.value v) w:=by
     intro v hv;simp[execOp,ho,h1,Instr.loadAt,Instr.sureAddr,hv]
    have BV:∀q∈ah cs,H q≠ .unused:=hr.cH l r hl cs (dc hi);cases m with
    |none=>
     simp only at hy;obtain⟨v,e1,e2⟩:=br.get _ _ _ _ v2 hy;exact nH.same (run v (jI hm _ _ (kG j v e1))) e2 (fun q hq=>BV q (cW _ _ _ hy q hq))
    |some k=>
    simp only at hy;split at hy
    ·rename_i hk;simp only[di] at hy;subst hy;refine nH.same (run (.agg ((vs.drop j).take k).toArray) (jH hm _ _ PJ (fun q v hq=> ?_))) ⟨_,rfl,br.take _ _ _ (br.drop _ _ _ v2)⟩ ?_
     ·rw[oe] at hq;split at hq
      ·rw[Ba] at hq;rw[addr_add,ze];exact kG _ v hq
      simp at hq
     intro q hq;simp only[AV.an] at hq;refine BV q ?_;have lA:∀(l m:List AV),ah (l++m)=ah l++ah m:=by
      intro l m;induction l with
      |nil=>rfl
      |cons x r ih=>simp[ah,ih]
     have e1:=lA (cs.take j) (cs.drop j);rw[tO] at e1;have e2:=lA ((cs.drop j).take k) ((cs.drop j).drop k);rw[tO] at e2;rw[e1,e2];exact eR.2 (.inr (eR.2 (.inl hq)))
    simp at hy
   simp at hy
  simp at hy
 simp at hy
def CL (hr:aH K β env H a w) {o:Oper} {t:TypeId} {x:Operand} {x':O} {m:Option Nat} (ho:o.op= .load t x) (hm:u5 K.P t=some m) (hx:co K.G x=some x') {y:AV}
 (hy:Wl m (ev env x') H=some y):aJ K β H a w o y:=(t_ hr ho hm hx hy).v
def BW (hr:aH K β env H a w) {o:Oper} {c:Array Value} {e:TypeId} {cs:List AV} {d:Nat} (hd:d<K.N)
   (gY:(execOp a.eval o).run K.P w= .ok (.value (.pointer (some ⟨w.heap.size,0,none⟩))) (w.alloc (.cells c e)))
   (hc:br w β H (Im K β H) cs c.toList) (h0:0<cs.length) (zE:cs.length≤maxLen) (hm:∀l∈ah cs,H l≠ .unused) (hu:H (.loc d)= .unused) :
   iq K env a w o (some d) (.ptr (.loc d) cs.length 0 0) (bD H (.loc d) (.live ⟨cs.length,[cs]⟩)):=by
 have gw:=dZ w (.cells c e)
 have hlen:c.size=cs.length:=by rw[←br.len _ _ hc];simp
 have cX:ND w (w.alloc (.cells c e)) β (bD β (.loc d) (some w.heap.size)) H (bD H (.loc d) (.live ⟨cs.length,[cs]⟩)) (Im K β H)
     (Im K (bD β (.loc d) (some w.heap.size)) (bD H (.loc d) (.live ⟨cs.length,[cs]⟩))) (ah cs):=
   { im := fun k hk hs => ⟨⟨hk.1,fun l' ⟨r',kR⟩ => by
       by_cases e1:l'= .loc d
       · subst e1;simp;omega
       rw[aq _ _ e1] at kR ⊢;exact hk.2 l' ⟨r',kR⟩⟩,Eb hs gw.size,gw.block k hs⟩
     lb:=fun l' CK ⟨r',kR⟩=>by
       have e1:l'≠ .loc d:=fun e1=>hm l' CK (e1▸hu)
       rw[aq _ _ e1] at kR
       refine⟨⟨r',kR⟩,aq _ _ e1,fun g S _ hS=> ?_⟩
       unfold jl at *
       rwa[gw.block g (sS hS)]}
 have pT:ZE (w.alloc (.cells c e)) (bD β (.loc d) (some w.heap.size)) (bD H (.loc d) (.live ⟨cs.length,[cs]⟩))
     (Im K (bD β (.loc d) (some w.heap.size)) (bD H (.loc d) (.live ⟨cs.length,[cs]⟩))) (.loc d) ⟨cs.length,[cs]⟩:=by
   refine⟨h0,N7,?_⟩
   simp only[gn]
   refine⟨c,e,1,heap_alloc_new w (.cells c e),by simp[hlen],by simp[maxLen],N7,fun i j dF x hi hj=> ?_⟩
   cases i with
   |succ i=>simp at hi
   |zero=>
   simp at hi;subst hi
   obtain⟨v,k1,k2⟩:=br.get _ _ _ _ hc hj
   refine⟨v,by simpa using k1,RV.mono _ _ (cX.sub (fun l hl=>cW _ _ _ hj l hl)) k2⟩
 have h2:=hr.OI (.loc d) hu gw (some w.heap.size) N7 (by simpa using hm) pT
 have h3:=h2.step (Below.refl _ _) (d:=some d) (x:= .ptr (.loc d) cs.length 0 0) (v:= .pointer (some ⟨w.heap.size,0,none⟩)) (by simpa using hd)
   (fun _=>by simp only[RV];exact⟨_,rfl,fun _=>⟨w.heap.size,N7,N7⟩⟩) Pv
 exact⟨_,_,_,_,gY,.inl rfl,h3⟩
def FC (hr:aH K β env H a w) {o:Oper} {t:TypeId} {x:Operand} {x':O} {d:Nat} (hd:d<K.N) (ho:o.op= .box t x) (hx:co K.G x=some x') (g_:(ev env x').sI=true)
  (h0:0<(ev env x').cells.length) (zE:(ev env x').cells.length≤maxLen) (hu:H (.loc d)= .unused) :
  iq K env a w o (some d) (.ptr (.loc d) (ev env x').cells.length 0 0) (bD H (.loc d) (.live ⟨(ev env x').cells.length,[(ev env x').cells]⟩)):=by
 have h:=hr.ev hx;have hm:=hr.eo hx;obtain⟨k1,k2⟩:=br.kg h (AV.sL g_);refine BW hr hd (c:=(a.eval x).cells) (e:=t) ?_ k2 h0 zE ?_ hu
 ·simp[execOp,ho,Instr.box,newVar,newRow]
 intro l hl;refine hm l ?_;cases hc:ev env x'<;>simp[hc,AV.cells,ah] at hl<;>simp[AV.an] at hl ⊢<;>exact hl
theorem XC:∀(l:List Value) (xs:List AV),YJ l=some xs→ah xs=[]
 |[],xs,h=>by simp[YJ] at h;subst h;rfl
 |v::r,xs,h=>by
  simp only[YJ,dJ,bR] at h;obtain⟨x,h1,s,h2,rfl⟩:=h;simp[ah,sE h1,XC r s h2]
def zF (hr:aH K β env H a w) {o:Oper} {t:TypeId} {i:TypeInfo} {z:Value} {cs:List AV} {d:Nat} (hd:d<K.N) (ho:o.op= .alloc t) (hi:K.P.info? t=some i) (hz:i.zero=some z)
  (nF:YJ z.cells.toList=some cs) (h0:0<cs.length) (zE:cs.length≤maxLen) (hu:H (.loc d)= .unused) :
  iq K env a w o (some d) (.ptr (.loc d) cs.length 0 0) (bD H (.loc d) (.live ⟨cs.length,[cs]⟩)):=by
 refine BW hr hd (c:=z.cells) (e:=t) ?_ (gX _ _ nF _ _ _ _) h0 zE (by simp[XC _ _ nF]) hu;simp[execOp,ho,Instr.alloc,zeroValue,typeInfo,hi,hz,newVar,newRow]
def zG (hr:aH K β env H a w) {o:Oper} {t:TypeId} {x y:Operand} {x' y':O} {m:Nat} (ho:o.op= .store t x y) (hm:ZM K.P t=some m) (hx:co K.G x=some x') (hy:co K.G y=some y') {H':Hp}
  (hs:gZ m (ev env x') (ev env y') H=some H'):iq K env a w o none .un H':=by
 have h:=hr.ev hx;have h2:=hr.ev hy;have KN:=hr.eo hy;unfold gZ at hs;split at hs
 ·rename_i l sz i j e;rw[e] at h;simp only[RV] at h;obtain⟨ad,h1,h3⟩:=h;split at hs
  ·rename_i r hl;split at hs
   ·rename_i hc;obtain⟨gm,g_,hlen⟩:=hc;subst gm;obtain⟨cs,hi,hs⟩:=dJ.1 hs;split at hs
    ·rename_i L_;simp only[di] at hs;subst hs;obtain⟨g,hb,rfl⟩:=h3 ⟨r,hl⟩;obtain⟨cur,e0,cap,k1,k2,k3,k4,k5⟩:=(hr.rows l r hl).block hb;obtain⟨c1,c2⟩:=br.kg h2 (AV.sL g_);have XV:i<r.els.length:=(bd.1 hi).1;have qT:cs.length=r.sz:=(hr.rows l r hl).2.1 cs (dc hi);have hbound:i*r.sz+r.sz≤cur.size:=by
      rw[k2,←Nat.succ_mul];exact py _ tM
     have Hl:(a.eval y).cells.toList.length=m:=PJ;have FD:=run_storeCells_at K.P g (i*r.sz+j) e0 (a.eval y).cells.toList 0 cur w k1 tM (by
      intro u hu;obtain⟨q,hq⟩:=yl hu;have EO:q<(ev env y').cells.length:=by
       have:=(bd.1 hq).1;omega
      obtain⟨u',e1,e2⟩:=br.get _ _ q _ c2 (bS EO);rw[hq] at e1;cases e1;exact RV.lv e2 (AV.vc g_ _ (vI EO)))
     simp only[kf] at FD;have gY:(execOp a.eval o).run K.P w= .ok .skip (w.setRow g (cur.toList.take (i*r.sz+j)++(a.eval y).cells.toList++cur.toList.drop (i*r.sz+j+(a.eval y).cells.toList.length)).toArray):=by
      have Vi:¬(a.eval y).cells.size≠m:=(by simp at Hl;simp[Hl]);simp only[execOp,ho,h1,Instr.storeAt,Instr.sureAddr,Sem.run_bind,Sem.run_pure,Result.andThen_ok,storeVar,cp hm,Sem.run_ite,Vi,nX,FD]
     have kH:(cur.toList.take (i*r.sz+j)++(a.eval y).cells.toList++cur.toList.drop (i*r.sz+j+(a.eval y).cells.toList.length)).toArray.size=cur.size:=by
      simp only[Nb,ko,tp,BH,JF];simp at Hl;omega
     have ju:=hr.setRow l (r':=⟨r.sz,r.els.set i (cs.take j++(ev env y').cells++cs.drop (j+m))⟩) hl hb k1 kH rfl k2 k3 (by simpa using k4) ?_ ?_ ?_
     ·have:=ju.step (Below.refl _ _) (d:=none) (x:= .un) (v:=undef) N7 N7 N7;exact⟨_,_,_,_,gY,.inr ⟨rfl,rfl⟩,this⟩
     ·intro ds ua;rcases D9 ua with ua|rfl
      ·exact(hr.rows l r hl).2.1 ds ua
      simp;omega
     ·intro ds ua q hq;rcases D9 ua with ua|rfl
      ·exact hr.cH l r hl ds ua q hq
      have lA:∀(l m:List AV),ah (l++m)=ah l++ah m:=by
       intro l m;induction l with
       |nil=>rfl
       |cons x r ih=>simp[ah,ih]
      rw[lA,lA,eR,eR] at hq;have bV:=hr.cH l r hl cs (dc hi);rcases hq with(hq|hq)|hq
      ·have e1:=lA (cs.take j) (cs.drop j);rw[tO] at e1;exact bV q (by rw[e1];exact eR.2 (.inl hq))
      ·refine KN q ?_;cases hc:ev env y'<;>simp[hc,AV.cells,ah] at hq<;>simp[AV.an] at hq ⊢<;>exact hq
      have e1:=lA (cs.take (j+m)) (cs.drop (j+m));rw[tO] at e1;exact bV q (by rw[e1];exact eR.2 (.inr hq))
     intro i' j' ds x ed iX;have Ie:(a.eval y).cells.toList.length=m:=Hl;have jY:∀n,((cur.toList.take (i*r.sz+j)++(a.eval y).cells.toList++cur.toList.drop (i*r.sz+j+(a.eval y).cells.toList.length)).toArray)[n]? =
       if n<i*r.sz+j then cur[n]? else if n<i*r.sz+j+m then(a.eval y).cells.toList[n - (i*r.sz+j)]? else cur[n]?:=by
      intro n;rw[Ie];have ht:(cur.toList.take (i*r.sz+j)).length=i*r.sz+j:=PJ;simp only[OJ];by_cases Cv:n<i*r.sz+j
      ·rw[eE Cv,yo,bB tM,oe,eE Cv];simp
      rw[cY Cv];by_cases JU:n<i*r.sz+j+m
      ·rw[eE JU,yo,b_ tM,ht,bB tM]
      rw[cY JU,b_ (by simp only[ko];omega)];simp only[ko,ht,Ie,Ba,D_];congr 1;omega
     by_cases e1:i'=i
     ·subst e1;rw[A9 XV] at ed;simp only[di] at ed;subst ed;have CM:(cs.take j).length=j:=PJ;rw[yo] at iX;by_cases Ig:j'<j
      ·rw[bB tM,oe,eE Ig] at iX;obtain⟨v,q1,q2⟩:=k5 i' j' cs x hi iX;exact⟨v,by rw[jY,eE tM];exact q1,q2⟩
      rw[b_ tM,CM] at iX;by_cases FE:j'<j+m
      ·rw[bB tM] at iX;obtain⟨v,q1,q2⟩:=br.get _ _ _ _ c2 iX;refine⟨v,?_,q2⟩;rw[jY,cY tM,eE tM,show i'*r.sz+j' - (i'*r.sz+j)=j' - j by omega];exact q1
      rw[b_ tM,Ba] at iX;have KO:j+m+(j' - j - (ev env y').cells.length)=j':=tM;rw[KO] at iX;obtain⟨v,q1,q2⟩:=k5 i' j' cs x hi iX;exact⟨v,by rw[jY,cY tM,cY tM];exact q1,q2⟩
     rw[Bd (yd e1)] at ed;obtain⟨v,q1,q2⟩:=k5 i' j' ds x ed iX;refine⟨v,?_,q2⟩;have KP:j'<r.sz:=by
      have:=(hr.rows l r hl).2.1 ds (dc ed);have:=(bd.1 iX).1;omega
     have CN:i'*r.sz+j'<i*r.sz∨i*r.sz+r.sz≤i'*r.sz+j':=by
      rcases Nat.lt_or_gt_of_ne e1 with bI|PS
      ·left;have:=py r.sz (show i'+1≤i by omega);rw[uQ] at this;omega
      right;have:=py r.sz (show i+1≤i' by omega);rw[uQ] at this;omega
     rw[jY];rcases CN with CN|CN
     ·rw[eE tM];exact q1
     rw[cY tM,cY tM];exact q1
    simp at hs
   simp at hs
  simp at hs
 simp at hs
end

open Classical in
noncomputable def al_ (sz:Nat) (x:AV) (H:Hp):Option (List (List AV)):=
 match x with
 | .nil0=>some []
 | .list xs=>if jV sz xs then some (xs.map fun y=>y.cells.map IV.dQ) else none
 | .str s=>if sz=1 then some (s.map fun c=>[.int .u8 c.toNat]) else none
 | .sl l s i n=>match H l with
  | .live r=>if s=sz∧r.sz=sz∧i+n≤r.els.length then some ((r.els.drop i).take n) else none
  |_=>none
 | .slk l s i n _=>match H l with
  | .live r=>if s=sz∧r.sz=sz∧i+n≤r.els.length then some ((r.els.drop i).take n) else none
  |_=>none
 |_=>none
def AV.oJ (x:List AV):Prop:=∀y∈x,y.one=true
open Classical in
noncomputable def jN (sz bytes d:Nat) (s x:AV) (H:Hp):Option (AV×Hp):=
 (al_ sz x H).bind fun news=>if ¬(∀cs∈news,AV.oJ cs) then none else
  match s with
  | .nil0=>if news.length*bytes≤140737488355328∧0<bytes∧H (.loc d)= .unused then some (.sl (.loc d) sz 0 news.length,bD H (.loc d) (.live ⟨sz,news⟩)) else none
  | .sl l s' i n=>match H l with
   | .live r=>if s'=sz∧r.sz=sz∧i=0∧n≤r.els.length∧(n+news.length)*bytes≤140737488355328∧0<bytes∧l≠l.app d∧H (l.app d)= .unused then
    some (.sl (l.app d) sz 0 (n+news.length),bD (bD H l .dead) (l.app d) (.live ⟨sz,r.els.take n++news⟩)) else none
   |_=>none
  | .slk l s' i n c=>match H l with
   | .live r=>if s'=sz∧r.sz=sz∧i=0∧n≤r.els.length∧0<bytes∧l≠ .loc d then
    (if n+news.length≤c then(if n+news.length≤r.els.length then some (.slk l sz 0 (n+news.length) c,bD H l (.live ⟨sz,r.els.take n++news++r.els.drop (n+news.length)⟩)) else none)
    else(if(n+news.length)*bytes≤140737488355328∧H (.loc d)= .unused then some (.sl (.loc d) sz 0 (n+news.length),bD H (.loc d) (.live ⟨sz,r.els.take n++news⟩)) else none)) else none
   |_=>none
  |_=>none
section
variable {P:Program} {w:World}
theorem eX {st xt ty e:TypeId} {i:TypeInfo} (hu:P.underlying st=some (.slice e)) (hi:P.info? e=some i) {d:TypeDesc} (hx:P.underlying xt=some d) (hd:d= .string∨∃e2,d= .slice e2)
  (ad:Option Addr) (n c m:Nat) (xv:Value) (vals:Array Value) (hlen:(Builtin.lenOf xv).run P w= .ok m w) (hf:(Builtin.firstCells i.size m xv).run P w= .ok vals w) (hle:n+m≤c) :
  (Builtin.append_ #[st,xt] ty #[.slice ad n c,xv]).run P w=match ad with
   |none=> .ok (.slice none (n+m) c) w
   |some q=>((storeCells (q.add (n*i.size)) vals.toList).run P w).andThen fun _ w'=> .ok (.slice (some q) (n+m) c) w':=by
 rcases hd with rfl|⟨e2,rfl⟩<;>cases ad<;>simp[Builtin.append_,run_underlying hu,run_underlying hx,sizeOf,typeInfo,hi,hlen,hf,hle]
def ew {st xt ty e:TypeId} {i:TypeInfo} {z:Value} (hu:P.underlying st=some (.slice e)) (hi:P.info? e=some i) (hz:i.zero=some z) {d:TypeDesc} (hx:P.underlying xt=some d) (hd:d= .string∨∃e2,d= .slice e2)
  (ad:Option Addr) (n c m:Nat) (xv:Value) (vals olds:Array Value) (hlen:(Builtin.lenOf xv).run P w= .ok m w) (hf:(Builtin.firstCells i.size m xv).run P w.drew= .ok vals w.drew)
  (ho:(Builtin.firstCells i.size n (.slice ad n c)).run P w.drew= .ok olds w.drew) (PS:c<n+m) (hb:(n+m)*i.bytes≤140737488355328) (oK:0<i.bytes) :
  (Builtin.append_ #[st,xt] ty #[.slice ad n c,xv]).run P w= .ok (.slice (some ⟨w.heap.size,0,none⟩) (n+m) (grownCap w (n+m) c e))
   (w.drew.alloc (.cells (olds++vals++Builtin.zeroCells z.cells (grownCap w (n+m) c e - (n+m))) e)):=by
 have hn:¬(n+m≤c):=tM
 have KQ:n+m≤(n+m)*i.bytes:=fJ _ oK;have CO:¬(9223372036854775807<((n:Int)+(m:Int))):=tM
 have CP:¬(281474976710656<Builtin.nextslicecap (n+m) c*i.bytes):=by have:=growslice_fits PS hb;omega
 rcases hd with rfl|⟨e2,rfl⟩<;>simp[Builtin.append_,run_underlying hu,run_underlying hx,sizeOf,typeInfo,zeroValue,hi,hz,hlen,hn,CO,CP,Question.forced,hf,ho,newRow,grownCap]
end
section
variable {K:Kx} {β:Lb→Option Nat} {env:Env} {H:Hp} {a:Act} {w:World}
theorem nI {I:Nat→Prop} {sz:Nat} (h0:0<sz):∀(xs:List IV) (b o:Nat),jV sz xs→bH w I xs b o sz →
  ∃vals:List Value,vals.length=xs.length*sz∧(∀j v,vals[j]?=some v→w.cell? ⟨b,o+j,none⟩=some v) ∧
   ∀i j x y,xs[i]?=some x→(x.cells.map IV.dQ)[j]?=some y→∃v,vals[i*sz+j]?=some v∧RV w β H I y v
 |[],b,o,_,_=>⟨[],N7,N7,N7⟩
 |x::r,b,o,hs,he=>by
  simp only[bH] at he;obtain⟨h1,h2⟩:=he;obtain⟨vr,k1,k2,k3⟩:=nI h0 r b (o+sz) (fun y hy=>hs y (by simp[hy])) h2;have hx:=(eH w I x b o sz).1 h1;obtain⟨vx,e1,e2,e3⟩:=br.pS (β:=β) (H:=H) x.cells b o hx.2;have hl:vx.length=sz:=by rw[e2,hx.1]
  refine⟨vx++vr,by simp[hl,k1,uQ];omega,?_,?_⟩
  ·intro j v hj;by_cases CQ:j<sz
   ·rw[bB tM] at hj;exact e3 j v hj
   rw[b_ tM,hl] at hj;have:=k2 _ v hj
   rwa[show o+sz+(j - sz)=o+j by omega] at this
  intro i j x' y hi hj;cases i with
  |zero=>
   simp at hi;subst hi;obtain⟨v,q1,q2⟩:=br.get _ _ _ _ e1 hj;refine⟨v,?_,q2⟩;have:j<vx.length:=(bd.1 q1).1;simp only[I2,bM];rw[bB this];exact q1
  |succ i=>
  obtain⟨v,q1,q2⟩:=k3 i j x' y (by simpa using hi) hj;refine⟨v,?_,q2⟩;rw[uQ,M8,b_ tM,hl,show i*sz+sz+j - sz=i*sz+j by omega];exact q1
structure Src (K:Kx) (β:Lb→Option Nat) (H:Hp) (w:World) (sz:Nat) (xv:Value) (news:List (List AV)) (vals:List Value):Prop where
 len:vals.length=news.length*sz
 lenOf:(Builtin.lenOf xv).run K.P w= .ok news.length w
 wN:∀k,k≤news.length→∀w1,(w1=w∨w1=w.drew)→(Builtin.firstCells sz k xv).run K.P w1= .ok (vals.take (k*sz)).toArray w1
 rv:∀i j cs y,news[i]?=some cs→cs[j]?=some y→∃v,vals[i*sz+j]?=some v∧RV w β H (Im K β H) y v
 vd:∀cs∈news,cs.length=sz
 eI:∀cs∈news,∀l∈ah cs,H l≠ .unused
def Src.cells {K:Kx} {β:Lb→Option Nat} {H:Hp} {w:World} {sz:Nat} {xv:Value} {news:List (List AV)} {vals:List Value} (S:Src K β H w sz xv news vals) :
  ∀w1,(w1=w∨w1=w.drew)→(Builtin.firstCells sz news.length xv).run K.P w1= .ok vals.toArray w1:=fun w1 pU=>by
 rw[S.wN _ (eM _) w1 pU,eN (N_ S.len)]
def arX (hr:aH K β env H a w) {x:Operand} {x':O} {sz:Nat} {news:List (List AV)} (hx:co K.G x=some x') (h0:0<sz) (hs:al_ sz (ev env x') H=some news) :
  ∃vals,Src K β H w sz (a.eval x) news vals:=by
 have h:=hr.ev hx;unfold al_ at hs;split at hs
 ·rename_i e;rw[e] at h;simp only[di] at hs;subst hs;simp only[RV] at h;obtain⟨ad,h⟩:=h;rw[h];refine⟨[],N7,Qd,?_,N7,N7,N7⟩;intro k hk w1 _;have sr:k=0:=by simpa using hk
  subst sr;cases ad with
  |none=>simp[Builtin.firstCells]
  |some q=>simp[Builtin.firstCells,loadCells,loadCellsFrom]
 ·rename_i xs e;rw[e] at h;split at hs
  ·rename_i ll;simp only[di] at hs;subst hs;simp only[RV,NN] at h;obtain⟨ad,c,h1,h2,h3,h4⟩:=h;rw[h1];rcases h4 with h4|⟨b,o',vd,rfl,e1,e2,e3,e4⟩
   ·have:xs=[]:=wc h4;subst this;refine⟨[],N7,Qd,?_,N7,N7,N7⟩;intro k hk w1 _;have sr:k=0:=(by simpa using hk);subst sr;cases ad with
    |none=>simp[Builtin.firstCells]
    |some q=>simp[Builtin.firstCells,loadCells,loadCellsFrom]
   by_cases hn:xs=[]
   ·subst hn;refine⟨[],N7,Qd,?_,N7,N7,N7⟩;intro k hk w1 _;have sr:k=0:=(by simpa using hk);subst sr;simp[Builtin.firstCells,loadCells,loadCellsFrom]
   have gm:=oV e4 ll (M0.2 hn);subst gm;obtain⟨vals,k1,k2,k3⟩:=nI (β:=β) (H:=H) h0 xs b o' ll e4;refine⟨vals,by simpa using k1,Qd,?_,?_,?_,?_⟩
   ·intro k hk w1 pU;simp only[bA] at hk;have Hm:k*vd≤vals.length:=(by rw[k1];exact py _ (by simpa using hk));refine run_firstCells_some (P:=K.P) w1 _ k ⟨b,o',none⟩ xs.length c _ (by rw[tp];omega) (fun j v hj=> ?_);rw[addr_add]
    replace hj:vals[j]?=some v:=by
     rw[oe] at hj;split at hj
     ·exact hj
     simp at hj
    rcases pU with rfl|rfl
    ·exact k2 j v hj
    simpa using k2 j v hj
   ·intro i j cs y hi hj;simp only[cn,bR] at hi;obtain⟨x0,hi,rfl⟩:=hi;exact k3 i j x0 y hi hj
   ·intro cs bV;simp only[pb] at bV;obtain⟨x0,EP,rfl⟩:=bV;simpa using ll x0 EP
   intro cs bV l hl;simp only[pb] at bV;obtain⟨x0,EP,rfl⟩:=bV;simp[jq] at hl
  simp at hs
 ·rename_i s e;rw[e] at h;split at hs
  ·rename_i h1;subst h1;simp only[di] at hs;subst hs;simp only[RV] at h;rw[h];refine⟨s.map fun c=> .int .u8 c.toNat,N7,by simp[Builtin.lenOf,jX],?_,?_,?_,?_⟩
   ·intro k hk w1 _;have e1:(⟨s.toArray⟩:ByteArray).extract 0 k=⟨(s.take k).toArray⟩:=by
     apply OT;rw[OG];simp
    simp[Builtin.firstCells,e1,JD]
   ·intro i j cs y hi hj;simp only[cn,bR] at hi;obtain⟨c,hi,rfl⟩:=hi;cases j with
    |succ j=>simp at hj
    |zero=>
    simp at hj;subst hj;exact⟨.int .u8 c.toNat,by simp[hi],PT⟩
   ·intro cs bV;simp only[pb] at bV;obtain⟨c,_,rfl⟩:=bV;rfl
   intro cs bV l hl;simp only[pb] at bV;obtain⟨c,_,rfl⟩:=bV;simp[ah,AV.an] at hl
  simp at hs
 ·rename_i l s i n e;rw[e] at h;split at hs
  ·rename_i r hl;split at hs
   ·rename_i hc;obtain⟨rfl,gm,qB⟩:=hc;subst gm;simp only[di] at hs;subst hs;simp only[RV] at h;obtain⟨ad,c,h1,h2,h3,h4,h5⟩:=h;rw[h1];have ve:((r.els.drop i).take n).length=n:=PJ;by_cases hn:n=0
    ·subst hn;refine⟨[],N7,Qd,?_,N7,N7,N7⟩;intro k hk w1 _;have sr:k=0:=(by simpa using hk);subst sr;cases ad with
     |none=>simp[Builtin.firstCells]
     |some q=>simp[Builtin.firstCells,loadCells,loadCellsFrom]
    rcases h5 ⟨r,hl⟩ with h6|⟨g,S,e1,rfl,e3,e4⟩
    ·omega
    obtain⟨cur,e0,cap,k1,k2,k3,k4,k5⟩:=(hr.rows l r hl).block e1;have hS:cur.size=S:=by
     unfold jl at e3;simp only[k1] at e3;simpa using e3
    have hb:i*r.sz+n*r.sz≤cur.size:=by
     rw[k2,←uQ];exact py _ tM
    refine⟨(cur.toList.drop (i*r.sz)).take (n*r.sz),by rw[ve];simp;omega,by rw[ve];simp[Builtin.lenOf],?_,?_,?_,?_⟩
    ·intro k hk w1 pU;rw[ve] at hk;have JV:=py r.sz hk;refine run_firstCells_some (P:=K.P) w1 _ k ⟨g,i*r.sz,none⟩ n c _ PJ (fun j v hj=> ?_);rw[addr_add]
     replace hj:((cur.toList.drop (i*r.sz)).take (n*r.sz))[j]?=some v:=by
      rw[oe] at hj;split at hj
      ·exact hj
      simp at hj
     have kG:w.cell? ⟨g,i*r.sz+j,none⟩=some v:=by
      rw[cell_of_row w g _ cur e0 (0,0) k1];rw[oe] at hj;split at hj
      ·simpa using hj
      simp at hj
     rcases pU with rfl|rfl
     ·exact kG
     simpa using kG
    ·intro i' j cs y hi hj;rw[oe] at hi;split at hi
     ·rename_i bI;rw[Ba] at hi;obtain⟨v,q1,q2⟩:=k5 _ j cs y hi hj;have CQ:j<r.sz:=by
       have:=(hr.rows l r hl).2.1 cs (dc hi);have:=(bd.1 hj).1;omega
      refine⟨v,?_,q2⟩;have iG:i'*r.sz+j<n*r.sz:=by
       have:=py r.sz (show i'+1≤n by omega);rw[uQ] at this;omega
      rw[oe,eE iG,Ba,D_,←q1];congr 1;rw[uQ];omega
     simp at hi
    ·intro cs bV;exact(hr.rows l r hl).2.1 cs (EH (ec bV))
    intro cs bV;exact hr.cH l r hl cs (EH (ec bV))
   simp at hs
  simp at hs
 ·rename_i l s i n c0 e;rw[e] at h;split at hs
  ·rename_i r hl;split at hs
   ·rename_i hc;obtain⟨rfl,gm,qB⟩:=hc;subst gm;simp only[di] at hs;subst hs;simp only[RV] at h;obtain⟨ad,h1,h2,h3,h4,h5⟩:=h;rw[h1];have ve:((r.els.drop i).take n).length=n:=PJ;by_cases hn:n=0
    ·subst hn;refine⟨[],N7,Qd,?_,N7,N7,N7⟩;intro k hk w1 _;have sr:k=0:=(by simpa using hk);subst sr;cases ad with
     |none=>simp[Builtin.firstCells]
     |some q=>simp[Builtin.firstCells,loadCells,loadCellsFrom]
    rcases h5 ⟨r,hl⟩ with h6|⟨g,S,e1,rfl,e3,e4⟩
    ·omega
    obtain⟨cur,e0,cap,k1,k2,k3,k4,k5⟩:=(hr.rows l r hl).block e1;have hS:cur.size=S:=by
     unfold jl at e3;simp only[k1] at e3;simpa using e3
    have hb:i*r.sz+n*r.sz≤cur.size:=by
     rw[k2,←uQ];exact py _ tM
    refine⟨(cur.toList.drop (i*r.sz)).take (n*r.sz),by rw[ve];simp;omega,by rw[ve];simp[Builtin.lenOf],?_,?_,?_,?_⟩
    ·intro k hk w1 pU;rw[ve] at hk;have JV:=py r.sz hk;refine run_firstCells_some (P:=K.P) w1 _ k ⟨g,i*r.sz,none⟩ n c0 _ PJ (fun j v hj=> ?_);rw[addr_add]
     replace hj:((cur.toList.drop (i*r.sz)).take (n*r.sz))[j]?=some v:=by
      rw[oe] at hj;split at hj
      ·exact hj
      simp at hj
     have kG:w.cell? ⟨g,i*r.sz+j,none⟩=some v:=by
      rw[cell_of_row w g _ cur e0 (0,0) k1];rw[oe] at hj;split at hj
      ·simpa using hj
      simp at hj
     rcases pU with rfl|rfl
     ·exact kG
     simpa using kG
    ·intro i' j cs y hi hj;rw[oe] at hi;split at hi
     ·rename_i bI;rw[Ba] at hi;obtain⟨v,q1,q2⟩:=k5 _ j cs y hi hj;have CQ:j<r.sz:=by
       have:=(hr.rows l r hl).2.1 cs (dc hi);have:=(bd.1 hj).1;omega
      refine⟨v,?_,q2⟩;have iG:i'*r.sz+j<n*r.sz:=by
       have:=py r.sz (show i'+1≤n by omega);rw[uQ] at this;omega
      rw[oe,eE iG,Ba,D_,←q1];congr 1;rw[uQ];omega
     simp at hi
    ·intro cs bV;exact(hr.rows l r hl).2.1 cs (EH (ec bV))
    intro cs bV;exact hr.cH l r hl cs (EH (ec bV))
   simp at hs
  simp at hs
 simp at hs
end
end Go.Am

namespace Go.Am
open Go Go.RowKit
def zH {γ:Type} (f:Lb→γ) (l:Lb) (x y:γ):bD (bD f l x) l y=bD f l y:=by
 funext q;by_cases h:q=l
 ·subst h;simp
 simp[aq _ _ h]
def comb {R:AV→Value→Prop} {sz n:Nat} (A B:List (List AV)) (hA:A.length=n) (wO:∀cs∈A,cs.length=sz) (Ma:∀cs∈B,cs.length=sz) (olds vals rest:List Value) (ho:olds.length=n*sz) (hv:vals.length=B.length*sz)
  (h1:∀i j cs x,A[i]?=some cs→cs[j]?=some x→∃v,olds[i*sz+j]?=some v∧R x v)
  (h2:∀i j cs x,B[i]?=some cs→cs[j]?=some x→∃v,vals[i*sz+j]?=some v∧R x v) :
  ∀i j cs x,(A++B)[i]?=some cs→cs[j]?=some x→∃v,(olds++vals++rest)[i*sz+j]?=some v∧R x v:=by
 intro i j cs x hi hj;by_cases qB:i<n
 ·rw[bB tM] at hi;obtain⟨v,q1,q2⟩:=h1 i j cs x hi hj;refine⟨v,?_,q2⟩;have:i*sz+j<olds.length:=(bd.1 q1).1;rw[yo,bB this];exact q1
 rw[b_ tM,hA] at hi;obtain⟨v,q1,q2⟩:=h2 (i - n) j cs x hi hj;refine⟨v,?_,q2⟩;have h3:(i - n)*sz+j<vals.length:=(bd.1 q1).1;have h4:i*sz+j=olds.length+((i - n)*sz+j):=by
  rw[ho];have:i=n+(i - n):=tM
  rw[this,uQ];have e:n+(i - n) - n=i - n:=tM
  rw[e];omega
 rw[h4,yo,b_ tM,bB tM];rw[show olds.length+((i - n)*sz+j) - olds.length=(i - n)*sz+j by omega];exact q1
section
variable {K:Kx} {β:Lb→Option Nat} {env:Env} {H:Hp} {a:Act} {w:World}
def pV (hr:aH K β env H a w) {H':Hp} {lb:Lb} {b:Option Nat} {w':World} (gw:iU w w') (hu:H lb= .unused) (hb:∀g,b=some g→w.heap.size≤g)
  (hH:∀q,q≠lb→live H' q→live H q) (ls:List Lb) (lr:∀q∈ls,H q≠ .unused) :
  ND w w' β (bD β lb b) H H' (Im K β H) (Im K (bD β lb b) H') ls where
 im k hk hs:=⟨⟨hk.1,fun q hq=>by
  by_cases e:q=lb
  ·subst e;simp only[gn];intro h;have:=hb k h;omega
  rw[aq _ _ e];exact hk.2 q (hH q e hq)⟩,Eb hs gw.size,gw.block k hs⟩
 lb q hq oX:=by
  have e:q≠lb:=fun e=>lr q hq (e▸hu);refine⟨hH q e oX,aq _ _ e,fun g S _ hS=> ?_⟩;unfold jl at *
  rwa[gw.block g (sS hS)]
def fR (hr:aH K β env H a w) {Hk:Hp} (hk:aH K β env Hk a w) (Hn:∀q,live Hk q→live H q) (Ho:∀q,H q≠ .unused→Hk q≠ .unused) {o:Oper} {d n m sz:Nat} {lb:Lb} (hd:d<K.N) {e:TypeId} {cap:Nat} {A news:List (List AV)} {olds vals rest:List Value}
  (h0:0<sz) (hu:H lb= .unused) (CR:Hk lb= .unused) (hA:A.length=n) (hm:news.length=m) (wO:∀cs∈A,cs.length=sz) (CS:∀cs∈news,cs.length=sz)
  (BX:∀cs∈A,∀l∈ah cs,H l≠ .unused) (FF:∀cs∈news,∀l∈ah cs,H l≠ .unused)
  (ho:olds.length=n*sz) (hv:vals.length=news.length*sz)
  (h1:∀i j cs x,A[i]?=some cs→cs[j]?=some x→∃v,olds[i*sz+j]?=some v∧RV w β H (Im K β H) x v)
  (h2:∀i j cs x,news[i]?=some cs→cs[j]?=some x→∃v,vals[i*sz+j]?=some v∧RV w β H (Im K β H) x v)
  (kI:(olds++vals++rest).length=cap*sz) (zD:cap≤maxLen) (hle:n+m≤cap)
  (gY:(execOp a.eval o).run K.P w= .ok (.value (.slice (some ⟨w.heap.size,0,none⟩) (n+m) cap)) (w.drew.alloc (.cells (olds++vals++rest).toArray e))) :
  iq K env a w o (some d) (.sl lb sz 0 (n+m)) (bD Hk lb (.live ⟨sz,A++news⟩)):=by
 have gw:iU w (w.drew.alloc (.cells (olds++vals++rest).toArray e)):=(mf w).trans (dZ w.drew _);have cX:=pV hr (H':=bD Hk lb (.live ⟨sz,A++news⟩)) (lb:=lb) (b:=some w.heap.size) gw hu N7 (fun q hq ⟨r,h⟩=>by rw[aq _ _ hq] at h;exact Hn q ⟨r,h⟩);have ll:∀cs∈A++news,cs.length=sz∧∀l∈ah cs,H l≠ .unused:=by
  intro cs bV;rcases eR.1 bV with h|h
  ·exact⟨wO cs h,BX cs h⟩
  exact⟨CS cs h,FF cs h⟩
 have pT:ZE (w.drew.alloc (.cells (olds++vals++rest).toArray e)) (bD β lb (some w.heap.size)) (bD Hk lb (.live ⟨sz,A++news⟩))
   (Im K (bD β lb (some w.heap.size)) (bD Hk lb (.live ⟨sz,A++news⟩))) lb ⟨sz,A++news⟩:=by
  refine⟨h0,fun cs bV=>(ll cs bV).1,?_⟩;simp only[gn];refine⟨(olds++vals++rest).toArray,e,cap,heap_alloc_new w.drew _,by simp only[Nb];exact kI,zD,PJ,fun i j cs x hi hj=> ?_⟩;obtain⟨v,q1,q2⟩:=comb A news hA wO CS olds vals rest ho hv h1 h2 i j cs x hi hj;exact⟨v,by simpa using q1,RV.mono _ _ (cX _ (fun q hq=>(ll cs (dc hi)).2 q (cW _ _ _ hj q hq))) q2⟩
 have h3:=hk.OI lb CR gw (some w.heap.size) N7 (fun cs bV q hq=>Ho q ((ll cs bV).2 q hq)) pT;have h4:=h3.step (Below.refl _ _) (d:=some d) (x:= .sl lb sz 0 (n+m)) (v:= .slice (some ⟨w.heap.size,0,none⟩) (n+m) cap) (by simpa using hd)
  (fun _=>by
   simp only[RV];refine⟨_,_,rfl,hle,zD,N7,fun _=> .inr ⟨w.heap.size,cap*sz,N7,N7,?_,N7⟩⟩;have hh:(w.drew.alloc (.cells (olds++vals++rest).toArray e)).heap[w.heap.size]?=some (.cells (olds++vals++rest).toArray e):=heap_alloc_new w.drew _;unfold jl;rw[hh];simp only[Nb,kI]) Pv
 exact⟨_,_,_,_,gY,.inl rfl,h4⟩
def qU (hr:aH K β env H a w) {Hk:Hp} (hk:aH K β env Hk a w) {o:Oper} {d sz:Nat} {lb:Lb} (hd:d<K.N) (h0:0<sz) (CR:Hk lb= .unused) {ad:Option Addr}
  (gY:(execOp a.eval o).run K.P w= .ok (.value (.slice ad 0 0)) w) :
  iq K env a w o (some d) (.sl lb sz 0 0) (bD Hk lb (.live ⟨sz,[]⟩)):=by
 have h3:=hk.OI lb CR (r:=⟨sz,[]⟩) (Below.refl _ _) none N7 N7 ⟨h0,N7,N7⟩;have h4:=h3.step (Below.refl _ _) (d:=some d) (x:= .sl lb sz 0 0) (v:= .slice ad 0 0) (by simpa using hd)
  (fun _=>by simp only[RV];exact⟨_,0,rfl,tM,by simp[maxLen],N7,fun _=> .inl rfl⟩) Pv
 exact⟨_,_,_,_,gY,.inl rfl,h4⟩
def qV {α:Type} (A N:List α) (i:Nat) (h:i+N.length≤A.length) (k:Nat):(A.take i++N++A.drop (i+N.length))[k]?=if k<i then A[k]? else if k<i+N.length then N[k - i]? else A[k]?:=by
 have ht:(A.take i).length=i:=by rw[tp];omega
 rw[yo];by_cases h1:k<i
 ·rw[eE h1,bB tM,oe,eE h1]
 rw[cY h1,b_ tM,ht];by_cases h2:k<i+N.length
 ·rw[eE h2,bB tM]
 rw[cY h2,b_ tM,Ba];congr 1;omega
def oY (hr:aH K β env H a w) {l:Lb} {r:Row} {g:Nat} (hl:H l= .live r) (hb:β l=some g) {i:Nat} {news:List (List AV)} {vals:List Value} (qB:i+news.length≤r.els.length)
  (CS:∀cs∈news,cs.length=r.sz) (FF:∀cs∈news,∀q∈ah cs,H q≠ .unused) (hv:vals.length=news.length*r.sz)
  (h2:∀i j cs x,news[i]?=some cs→cs[j]?=some x→∃v,vals[i*r.sz+j]?=some v∧RV w β H (Im K β H) x v) (fw:∀v∈vals,v.oneCell'=true) :
  ∃cur',(storeCells ⟨g,i*r.sz,none⟩ vals).run K.P w= .ok () (w.setRow g cur') ∧
   aH K β env (bD H l (.live ⟨r.sz,r.els.take i++news++r.els.drop (i+news.length)⟩)) a (w.setRow g cur')∧jl (w.setRow g cur') g=jl w g:=by
 obtain⟨cur,e0,cap,k1,k2,k3,k4,k5⟩:=(hr.rows l r hl).block hb;have gm:0<r.sz:=(hr.rows l r hl).1;have ub:i*r.sz+vals.length≤cur.size:=by
  rw[hv,k2,←uQ];exact py _ tM
 have wP:=run_storeCells_at K.P g (i*r.sz) e0 vals 0 cur w k1 (by simpa using ub) fw;simp only[kf] at wP;have kH:(cur.toList.take (i*r.sz)++vals++cur.toList.drop (i*r.sz+vals.length)).toArray.size=cur.size:=by
  simp only[Nb,ko,tp,BH,JF];omega
 have hlen:(r.els.take i++news++r.els.drop (i+news.length)).length=r.els.length:=PJ
 have vf:=hr.setRow l (r':=⟨r.sz,r.els.take i++news++r.els.drop (i+news.length)⟩) (cap:=cap) hl hb k1 kH rfl k2 k3 Pq
  (by
   intro cs bV;rcases eR.1 bV with h|h
   ·rcases eR.1 h with h|h
    ·exact(hr.rows l r hl).2.1 cs (ec h)
    exact CS cs h
   exact(hr.rows l r hl).2.1 cs (EH h))
  (by
   intro cs bV;rcases eR.1 bV with h|h
   ·rcases eR.1 h with h|h
    ·exact hr.cH l r hl cs (ec h)
    exact FF cs h
   exact hr.cH l r hl cs (EH h))
  (by
   intro i' j cs x0 ed iX;simp only at ed;rw[qV _ _ _ qB] at ed;have jY:=qV cur.toList vals (i*r.sz) (by simpa using ub);simp only[OJ,jY];have CQ:j<r.sz:=by
    have h9:=(bd.1 iX).1;have h8:cs.length=r.sz:=by
     split at ed
     ·exact(hr.rows l r hl).2.1 cs (dc ed)
     split at ed
     ·exact CS cs (dc ed)
     exact(hr.rows l r hl).2.1 cs (dc ed)
    omega
   by_cases h1:i'<i
   ·rw[eE h1] at ed;have:=py r.sz (show i'+1≤i by omega);rw[uQ] at this;rw[eE tM];obtain⟨v,q1,q2⟩:=k5 i' j cs x0 ed iX;exact⟨v,by simpa using q1,q2⟩
   rw[cY h1] at ed;have h3:=py r.sz (show i≤i' by omega);rw[cY tM];by_cases h4:i'<i+news.length
   ·rw[eE h4] at ed;have:=py r.sz (show i'+1≤i+news.length by omega);rw[uQ,uQ,M8] at this;rw[eE (by rw[hv];omega)];obtain⟨v,q1,q2⟩:=h2 (i' - i) j cs x0 ed iX;refine⟨v,?_,q2⟩;rw[←q1];congr 1;rw[Nat.sub_mul];omega
   rw[cY h4] at ed;have:=py r.sz (show i+news.length≤i' by omega);rw[uQ] at this;rw[cY (by rw[hv];omega)];obtain⟨v,q1,q2⟩:=k5 i' j cs x0 ed iX;exact⟨v,by simpa using q1,q2⟩)
 refine⟨_,wP,vf,?_⟩;have:jl w g=some cur.size:=by unfold jl;simp[k1]
 rw[this];exact jt k1 kH g cur.size this
def nJ {v:Value} {w1:World} {e:TypeId} (x y:Array Value) (h:x=y) :
  (Result.ok v (w1.alloc (.cells x e))).andThen (fun v w'=> .ok (Next.value v) w')= .ok (.value v) (w1.alloc (.cells y e)):=by
 subst h;rfl
def ZN {m C sz:Nat} (h:m≤C):m*sz+(C - m)*sz=C*sz:=by
 rw[←uQ];congr 1;omega
def dG (z:Array Value) (n:Nat):(Builtin.zeroCells z n).toList.length=n*z.size:=by simp[size_zeroCells]
def FG (hr : aH K β env H a w) {o : Oper} {c : Call} {s x : Operand} {s' x' : O} {st xt e : TypeId} {i : TypeInfo} {z : Value} {dx : TypeDesc} {d : Nat} (hd : d < K.N) (ho : o.op = .call c) (hc : c.callee = .builtin .append)
   (ha : c.args.toList = [s,x]) (BY : c.argTypes.toList = [st,xt]) (g_ : K.P.underlying st = some (.slice e)) (hi : K.P.info? e = some i) (hz : i.zero = some z) (mN : z.cells.size = i.size) (h0 : 0 < i.size)
   (qD : K.P.underlying xt = some dx) (hdx : dx = .string ∨ ∃ e2,dx = .slice e2) (hs : co K.G s = some s') (hx : co K.G x = some x') {y : AV} {H' : Hp}
   (hy : jN i.size i.bytes d (ev env s') (ev env x') H = some (y,H')) : iq K env a w o (some d) y H' := by
 have pQ : c.args = #[s,x] := by cases hh : c.args; simp_all
 have sU : c.argTypes = #[st,xt] := by cases hh : c.argTypes; simp_all
 have fQ : (execOp a.eval o).run K.P w = ((Builtin.append_ #[st,xt] o.type #[a.eval s,a.eval x]).run K.P w).andThen fun v w' => .ok (.value v) w' := by
   simp [execOp,ho,resolve,hc,pQ,sU,invoke,builtin]
 unfold jN at hy
 obtain ⟨news,hn,hy⟩ := dJ.1 hy
 obtain ⟨vals,S⟩ := arX hr hx h0 hn
 have mh := hr.ev hs
 split at hy
 · simp at hy
 · rename_i fw
   have fw : ∀ cs ∈ news,AV.oJ cs := Bf fw
   have uc : ∀ v ∈ vals,v.oneCell' = true := by
     intro v hv
     obtain ⟨q,hq⟩ := yl hv
     have EO : q < news.length * i.size := by rw [← S.len]; exact (bd.1 hq).1
     have ER : q / i.size < news.length := NP (by rw [kr]; exact EO)
     have KR : q % i.size < i.size := vL _ h0
     have BZ : news[q / i.size]? = some news[q / i.size] := bS ER
     have qT := S.vd _ (vI ER)
     have EP : (news[q / i.size])[q % i.size]? = some ((news[q / i.size])[q % i.size]' tM) := bS tM
     obtain ⟨v',e1,e2⟩ := S.rv _ _ _ _ BZ EP
     have : q / i.size * i.size + q % i.size = q := by rw [kr]; exact O_ q i.size
     rw [this,hq] at e1
     cases e1
     exact RV.lv e2 (fw _ (vI ER) _ (vI _))
   have qW : ∀ ad : Option Addr,∀ cc,(Builtin.firstCells i.size 0 (.slice ad 0 cc)).run K.P w.drew = .ok #[] w.drew := by
     intro ad cc
     cases ad with
     | none => simp [Builtin.firstCells]
     | some q => simp [Builtin.firstCells,loadCells,loadCellsFrom]
   split at hy
   · -- nothing yet
     rename_i e1
     rw [e1] at mh
     simp only [RV] at mh
     obtain ⟨ad,mh⟩ := mh
     split at hy
     · rename_i hb
       obtain ⟨qE,nL,hu⟩ := hb
       have hb : news.length * i.bytes ≤ 140737488355328 ∧ 0 < i.bytes := ⟨qE,nL⟩
       simp only [di,eS] at hy
       obtain ⟨rfl,rfl⟩ := hy
       by_cases tY : news.length = 0
       · have Vi : news = [] := wc tY
         subst Vi
         have zI : vals = [] := wc (by simpa using S.len)
         subst zI
         have iS := eX (ty := o.type) g_ hi qD hdx ad 0 0 0 (a.eval x) #[] S.lenOf (S.cells w (.inl rfl)) tM
         refine qU hr hr hd h0 hu (ad := ad) ?_
         rw [fQ,mh,iS]
         cases ad <;> simp [storeCells]
       · have iS := ew (ty := o.type) g_ hi hz qD hdx ad 0 0 news.length (a.eval x) vals.toArray #[] S.lenOf (S.cells w.drew (.inr rfl)) (qW ad 0) tM (by simpa using hb.1) hb.2
         have qS := grownCap_ge w (0 + news.length) 0 e
         have qC := grownCap_le_maxLen w (0 + news.length) 0 e (by
           have := fJ news.length hb.2
           simp only [maxLen]; omega)
         have := fR hr hr (fun _ h => h) (fun _ h => h) (o := o) hd (e := e) (n := 0) (m := news.length) (A := []) (news := news) (olds := []) (vals := vals)
           (rest := (Builtin.zeroCells z.cells (grownCap w (0 + news.length) 0 e - (0 + news.length))).toList) h0 hu hu rfl rfl N7 S.vd N7 S.eI N7 S.len N7 S.rv
           (cap := grownCap w (0 + news.length) 0 e) (by
             have h9 := ZN (sz := i.size) qS
             simp only [ko,yg,S.len,dG,mN]
             simp only [bM] at h9 ⊢
             exact h9) qC qS (by
             rw [fQ,mh,iS]
             exact nJ _ _ N7)
         simpa using this
     · simp at hy
   · -- a row
     rename_i l s0 i0 n e1
     rw [e1] at mh
     simp only [RV] at mh
     obtain ⟨ad,cc,h1,h2,h3,h4,h5⟩ := mh
     split at hy
     · rename_i r hl
       split at hy
       · rename_i cP
         obtain ⟨rfl,kV,rfl,ve,hb,oK,CT,hu⟩ := cP
         simp only [di,eS] at hy
         obtain ⟨rfl,rfl⟩ := hy
         have ES : (r.els.take n).length = n := by simp; omega
         have wO : ∀ cs ∈ r.els.take n,cs.length = i.size := fun cs bV => by rw [← kV]; exact (hr.rows l r hl).2.1 cs (ec bV)
         have BX : ∀ cs ∈ r.els.take n,∀ q ∈ ah cs,H q ≠ .unused := fun cs bV => hr.cH l r hl cs (ec bV)
         have wQ := hr.kill l (by rw [hl]; simp)
         have CR : bD H l .dead (l.app d) = .unused := by rw [aq _ _ (yd CT)]; exact hu
         have Hn : ∀ q,live (bD H l .dead) q → live H q := by
           rintro q ⟨r',h⟩
           by_cases e : q = l
           · subst e; simp at h
           · rw [aq _ _ e] at h; exact ⟨r',h⟩
         have Ho : ∀ q,H q ≠ .unused → bD H l .dead q ≠ .unused := by
           intro q h
           by_cases e : q = l
           · subst e; simp
           · rw [aq _ _ e]; exact h
         by_cases zJ : cc = 0
         · subst zJ
           have wq : n = 0 := by omega
           subst wq
           by_cases tY : news.length = 0
           · have Vi : news = [] := wc tY
             subst Vi
             have zI : vals = [] := wc (by simpa using S.len)
             subst zI
             have iS := eX (ty := o.type) g_ hi qD hdx ad 0 0 0 (a.eval x) #[] S.lenOf (S.cells w (.inl rfl)) tM
             have := qU hr wQ (o := o) hd h0 CR (ad := ad) (by
               rw [fQ,h1,iS]
               cases ad <;> simp [storeCells])
             simpa using this
           · have iS := ew (ty := o.type) g_ hi hz qD hdx ad 0 0 news.length (a.eval x) vals.toArray #[] S.lenOf (S.cells w.drew (.inr rfl)) (qW ad 0) tM (by simpa using hb) oK
             have qS := grownCap_ge w (0 + news.length) 0 e
             have qC := grownCap_le_maxLen w (0 + news.length) 0 e (by
               have := fJ (0 + news.length) oK
               simp only [maxLen]; omega)
             have := fR hr wQ Hn Ho (o := o) hd (e := e) (n := 0) (m := news.length) (A := []) (news := news) (olds := []) (vals := vals)
               (rest := (Builtin.zeroCells z.cells (grownCap w (0 + news.length) 0 e - (0 + news.length))).toList) h0 hu CR rfl rfl N7 S.vd N7 S.eI N7 S.len N7 S.rv
               (cap := grownCap w (0 + news.length) 0 e) (by
                 have h9 := ZN (sz := i.size) qS
                 simp only [ko,yg,S.len,dG,mN]
                 simp only [bM] at h9 ⊢
                 exact h9) qC qS (by
                 rw [fQ,h1,iS]
                 exact nJ _ _ N7)
             simpa using this
         · rcases h5 ⟨r,hl⟩ with h6 | ⟨g,Sz,g1,rfl,g3,g4⟩
           · exact absurd h6 zJ
           · obtain ⟨cur,e0,cap,k1,k2,k3,k4,k5⟩ := (hr.rows l r hl).block g1
             have hS : cur.size = Sz := by
               unfold jl at g3
               simp only [k1] at g3
               simpa using g3
             have wR : cc * i.size = cur.size := by rw [hS,← g4]; simp
             have FH : n * i.size ≤ cur.size := by rw [← wR]; exact py _ h2
             have JW : cap = cc := by
               rw [kV] at k2
               rw [k2] at wR
               exact (N3 h0 wR).symm
             have JX : ∀ i' j cs x0,(r.els.take n)[i']? = some cs → cs[j]? = some x0 → ∃ v,(cur.toList.take (n * i.size))[i' * i.size + j]? = some v ∧ RV w β H (Im K β H) x0 v := by
               intro i' j cs x0 ed iX
               rw [oe] at ed
               split at ed
               · rename_i bI
                 obtain ⟨v,q1,q2⟩ := k5 i' j cs x0 ed iX
                 rw [kV] at q1
                 refine ⟨v,?_,q2⟩
                 have CQ : j < i.size := by
                   have := (hr.rows l r hl).2.1 cs (dc ed)
                   have := (bd.1 iX).1
                   omega
                 have iG : i' * i.size + j < n * i.size := by
                   have := py i.size (show i' + 1 ≤ n by omega)
                   rw [uQ] at this; omega
                 rw [oe,eE iG]
                 simpa using q1
               · simp at ed
             have kJ : (cur.toList.take (n * i.size)).length = n * i.size := by simp; omega
             by_cases sV : n + news.length ≤ cc
             · -- within the room
               have iS := eX (ty := o.type) g_ hi qD hdx (some ⟨g,0 * i.size,none⟩) n cc news.length (a.eval x) vals.toArray S.lenOf (S.cells w (.inl rfl)) sV
               have ub : n * i.size + vals.length ≤ cur.size := by
                 rw [S.len,← wR,← uQ]
                 exact py _ sV
               have wP := run_storeCells_at K.P g (n * i.size) e0 vals 0 cur w k1 (by simpa using ub) uc
               simp only [kf] at wP
               have kH : (cur.toList.take (n * i.size) ++ vals ++ cur.toList.drop (n * i.size + vals.length)).toArray.size = cur.size := by
                 simp only [Nb,ko,tp,BH,JF]
                 omega
               have vf := hr.setRow l (r' := ⟨i.size,r.els.take n ++ news⟩) (cap := cap) hl g1 k1 kH kV.symm k2 k3 (by simp; omega)
                 (by
                   intro cs bV
                   rw [kV]
                   rcases eR.1 bV with h | h
                   · exact wO cs h
                   · exact S.vd cs h)
                 (by
                   intro cs bV
                   rcases eR.1 bV with h | h
                   · exact BX cs h
                   · exact S.eI cs h)
                 (by
                   intro i' j cs x0 ed iX
                   rw [kV]
                   obtain ⟨v,q1,q2⟩ := comb (r.els.take n) news ES wO S.vd (cur.toList.take (n * i.size)) vals (cur.toList.drop (n * i.size + vals.length)) kJ S.len JX S.rv i' j cs x0 ed iX
                   exact ⟨v,by simpa using q1,q2⟩)
               have ju := vf.relabel l (l.app d) (r := ⟨i.size,r.els.take n ++ news⟩) N7 (by rw [aq _ _ (yd CT)]; exact hu) (Lb.fR l d)
               rw [zH] at ju
               have FI := ju.step (Below.refl _ _) (d := some d) (x := .sl (l.app d) i.size 0 (n + news.length)) (v := .slice (some ⟨g,0 * i.size,none⟩) (n + news.length) cc) (by simpa using hd)
                 (fun _ => by
                   simp only [RV]
                   refine ⟨_,_,rfl,sV,h3,N7,fun _ => .inr ⟨g,cur.size,by simp [g1],N7,?_,by simpa using wR⟩⟩
                   exact jt k1 kH g cur.size (by unfold jl; simp [k1])) (by simp [AV.an])
               refine ⟨_,_,_,_,?_,.inl rfl,FI⟩
               rw [fQ,h1,iS]
               simp only [addr_add,I2,bM,wP,Result.andThen_ok]
             · -- a new block
               have iS := ew (ty := o.type) g_ hi hz qD hdx (some ⟨g,0 * i.size,none⟩) n cc news.length (a.eval x) vals.toArray (cur.toList.take (n * i.size)).toArray S.lenOf (S.cells w.drew (.inr rfl))
                 (run_firstCells_some (P := K.P) w.drew i.size n ⟨g,0 * i.size,none⟩ n cc _ kJ (fun j v hj => by
                   rw [addr_add,I2,bM]
                   have : w.cell? ⟨g,j,none⟩ = some v := by
                     rw [cell_of_row w g _ cur e0 (0,0) k1]
                     rw [oe] at hj
                     split at hj
                     · simpa using hj
                     · simp at hj
                   simpa using this)) tM hb oK
               have qS := grownCap_ge w (n + news.length) cc e
               have qC := grownCap_le_maxLen w (n + news.length) cc e (by
                 have := fJ (n + news.length) oK
                 simp only [maxLen]; omega)
               have := fR hr wQ Hn Ho (o := o) hd (e := e) (n := n) (m := news.length) (A := r.els.take n) (news := news) (olds := cur.toList.take (n * i.size)) (vals := vals)
                 (rest := (Builtin.zeroCells z.cells (grownCap w (n + news.length) cc e - (n + news.length))).toList) h0 hu CR ES rfl wO S.vd BX S.eI kJ S.len JX S.rv
                 (cap := grownCap w (n + news.length) cc e) (by
                   have h9 := ZN (sz := i.size) qS
                   simp only [ko,kJ,S.len,dG,mN]
                   rw [uQ] at h9
                   exact h9) qC qS (by
                   rw [fQ,h1,iS]
                   exact nJ _ _ N7)
               exact this
       · simp at hy
     · simp at hy
   · -- a row whose room is known
     rename_i l s0 i0 n c0 e1
     rw [e1] at mh
     simp only [RV] at mh
     obtain ⟨ad,h1,h2,h3,h4,h5⟩ := mh
     split at hy
     · rename_i r hl
       split at hy
       · rename_i cP
         obtain ⟨rfl,kV,rfl,ve,oK,CT⟩ := cP
         have ES : (r.els.take n).length = n := by simp; omega
         have wO : ∀ cs ∈ r.els.take n,cs.length = i.size := fun cs bV => by rw [← kV]; exact (hr.rows l r hl).2.1 cs (ec bV)
         have BX : ∀ cs ∈ r.els.take n,∀ q ∈ ah cs,H q ≠ .unused := fun cs bV => hr.cH l r hl cs (ec bV)
         split at hy
         · rename_i sV
           split at hy
           · rename_i FJ
             simp only [di,eS] at hy
             obtain ⟨rfl,rfl⟩ := hy
             have iS := eX (ty := o.type) g_ hi qD hdx ad n c0 news.length (a.eval x) vals.toArray S.lenOf (S.cells w (.inl rfl)) sV
             by_cases zJ : c0 = 0
             · subst zJ
               have wq : n = 0 := by omega
               subst wq
               have Vi : news = [] := wc tM
               subst Vi
               have zI : vals = [] := wc (by simpa using S.len)
               subst zI
               have hH : bD H l (.live ⟨i.size,r.els.take 0 ++ [] ++ r.els.drop (0 + ([] : List (List AV)).length)⟩) = H := by
                 funext q
                 by_cases e : q = l
                 · subst e; simp only [gn,OK,List.nil_append,yg,kf,tn,← kV,hl]
                 · rw [aq _ _ e]
               rw [hH]
               have FI := hr.step (Below.refl _ _) (d := some d) (x := .slk l i.size 0 (0 + ([] : List (List AV)).length) 0) (v := .slice ad 0 0) (by simpa using hd)
                 (fun _ => by
                   simp only [RV]
                   exact ⟨ad,N7,N7,by simp [maxLen],N7,fun _ => .inl rfl⟩) (fun _ q hq => by simp [AV.an] at hq; subst hq; rw [hl]; simp)
               refine ⟨_,_,_,_,?_,.inl rfl,FI⟩
               rw [fQ,h1,iS]
               cases ad <;> simp [storeCells]
             · rcases h5 ⟨r,hl⟩ with h6 | ⟨g,Sz,g1,rfl,g3,g4⟩
               · exact absurd h6 zJ
               · obtain ⟨cur',w1,w2,w3⟩ := oY hr hl g1 (i := n) (news := news) (vals := vals) FJ (by rw [kV]; exact S.vd) S.eI (by rw [kV]; exact S.len) (by rw [kV]; exact S.rv) uc
                 rw [kV] at w1 w2
                 have FI := w2.step (Below.refl _ _) (d := some d) (x := .slk l i.size 0 (n + news.length) c0) (v := .slice (some ⟨g,0 * i.size,none⟩) (n + news.length) c0) (by simpa using hd)
                   (fun _ => by
                     simp only [RV]
                     exact ⟨_,rfl,sV,h3,N7,fun _ => .inr ⟨g,Sz,g1,rfl,by rw [w3]; exact g3,g4⟩⟩) (fun _ q hq => by simp [AV.an] at hq; subst hq; simp)
                 refine ⟨_,_,_,_,?_,.inl rfl,FI⟩
                 rw [fQ,h1,iS]
                 simp only [addr_add,I2,bM,w1,Result.andThen_ok]
           · simp at hy
         · rename_i sV
           split at hy
           · rename_i nM
             obtain ⟨hb,hu⟩ := nM
             simp only [di,eS] at hy
             obtain ⟨rfl,rfl⟩ := hy
             have qS := grownCap_ge w (n + news.length) c0 e
             have qC := grownCap_le_maxLen w (n + news.length) c0 e (by
               have := fJ (n + news.length) oK
               simp only [maxLen]; omega)
             have olds : ∃ olds : List Value,olds.length = n * i.size ∧ (∀ i' j cs x0,(r.els.take n)[i']? = some cs → cs[j]? = some x0 → ∃ v,olds[i' * i.size + j]? = some v ∧ RV w β H (Im K β H) x0 v) ∧
                 (Builtin.firstCells i.size n (.slice ad n c0)).run K.P w.drew = .ok olds.toArray w.drew := by
               by_cases zJ : c0 = 0
               · have wq : n = 0 := by omega
                 subst wq
                 exact ⟨[],N7,N7,by simpa using qW ad c0⟩
               · rcases h5 ⟨r,hl⟩ with h6 | ⟨g,Sz,g1,rfl,g3,g4⟩
                 · exact absurd h6 zJ
                 · obtain ⟨cur,e0,cap,k1,k2,k3,k4,k5⟩ := (hr.rows l r hl).block g1
                   rw [kV] at k2
                   have FH : n * i.size ≤ cur.size := by rw [k2]; exact py _ tM
                   have kJ : (cur.toList.take (n * i.size)).length = n * i.size := by simp; omega
                   refine ⟨cur.toList.take (n * i.size),kJ,?_,?_⟩
                   · intro i' j cs x0 ed iX
                     rw [oe] at ed
                     split at ed
                     · rename_i bI
                       obtain ⟨v,q1,q2⟩ := k5 i' j cs x0 ed iX
                       rw [kV] at q1
                       refine ⟨v,?_,q2⟩
                       have CQ : j < i.size := by
                         have := (hr.rows l r hl).2.1 cs (dc ed)
                         have := (bd.1 iX).1
                         omega
                       have iG : i' * i.size + j < n * i.size := by
                         have := py i.size (show i' + 1 ≤ n by omega)
                         rw [uQ] at this; omega
                       rw [oe,eE iG]
                       simpa using q1
                     · simp at ed
                   · exact run_firstCells_some (P := K.P) w.drew i.size n ⟨g,0 * i.size,none⟩ n c0 _ kJ (fun j v hj => by
                       rw [addr_add,I2,bM]
                       have : w.cell? ⟨g,j,none⟩ = some v := by
                         rw [cell_of_row w g _ cur e0 (0,0) k1]
                         rw [oe] at hj
                         split at hj
                         · simpa using hj
                         · simp at hj
                       simpa using this)
             obtain ⟨olds,CU,ET,Ih⟩ := olds
             have iS := ew (ty := o.type) g_ hi hz qD hdx ad n c0 news.length (a.eval x) vals.toArray olds.toArray S.lenOf (S.cells w.drew (.inr rfl)) Ih tM hb oK
             have := fR hr hr (fun _ h => h) (fun _ h => h) (o := o) hd (e := e) (n := n) (m := news.length) (A := r.els.take n) (news := news) (olds := olds) (vals := vals)
               (rest := (Builtin.zeroCells z.cells (grownCap w (n + news.length) c0 e - (n + news.length))).toList) h0 hu hu ES rfl wO S.vd BX S.eI CU S.len ET S.rv
               (cap := grownCap w (n + news.length) c0 e) (by
                 have h9 := ZN (sz := i.size) qS
                 simp only [ko,CU,S.len,dG,mN]
                 rw [← uQ]
                 exact h9) qC qS (by
                 rw [fQ,h1,iS]
                 exact nJ _ _ N7)
             exact this
           · simp at hy
       · simp at hy
     · simp at hy
   · simp at hy
end
end Go.Am
