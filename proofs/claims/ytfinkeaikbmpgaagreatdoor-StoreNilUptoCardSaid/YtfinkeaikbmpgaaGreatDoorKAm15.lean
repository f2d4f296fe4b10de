import Derived.Test.YtfinkeaikbmpgaaGreatDoorKAm17
import Derived.Deep.LoopGhost
import Derived.IntWalk
set_option linter.unusedSimpArgs false
set_option linter.unusedVariables false
set_option linter.unnecessarySimpa false
set_option linter.defProp false
/- THE ABSTRACT MACHINE, part 15: code, walked. -/
namespace Go.Am
open Go Go.RowKit
inductive qX where
 |code (c:Code)
 |f_ (id:Nat)
def PH (P:Program) (Qh:Exit→Act→World→Prop):List qX→Exit→Act→World→Prop
 |[]=>Qh
 | .code c::k=>Exit.then (c.wp P (PH P Qh k)) (PH P Qh k)
 | .f_ id::k=>Exit.inBlock id (PH P Qh k)
def AC.bare:AC→AC
 | .seq a b=> .seq a.bare b.bare
 | .cond x a b=> .cond x a.bare b.bare
 | .block id c=> .block id c.bare
 | .loop c=> .loop c.bare
 | .ca is=> .ca (is.map aB.b')
 | .hX is es _=> .hX (is.map aB.b') es []
 | .gh _ c=>c.bare
 |c=>c
def dh (P:Program) (G:Nat→Option (List IV)) (ops:Array Oper):List Oper→Option (List aB)
 |[]=>some []
 |o::r=>(dE P G ops o).bind fun i=>(dh P G ops r).map fun s=>i::s
def aO (P:Program) (G:Nat→Option (List IV)):Code→Option AC
 | .skip=>some .skip
 | .seq a b=>(aO P G a).bind fun x=>(aO P G b).map fun y=> .seq x y
 | .cond c a b=>(co G c).bind fun c=>(aO P G a).bind fun x=>(aO P G b).map fun y=> .cond c x y
 | .block id c=>(aO P G c).map fun x=> .block id x
 | .loop c=>(aO P G c).map fun x=> .loop x
 | .exit id=>some (.exit id)
 | .ret=>some .ret
 | .region _ ops false=>(dh P G ops ops.toList).map .ca
 | .region _ ops true=>if P.follows .mixedOrders=true then(dh P G ops ops.toList).map fun is=> .hX is (bp ops) [] else none
 |_=>none
inductive pn (P:Program) (G:Nat→Option (List IV)):qX→It→Prop
 |code {c:Code} {x:AC}:aO P G c=some x.bare→pn P G (.code c) (.code x)
 |f_ (id:Nat):pn P G (.f_ id) (.f_ id)
def lift (K:Kx) (Q:dw) (e:Exit) (a:Act) (w:World):Prop:=∃env H β,Q e env H∧aj K β env H a w
def vj (K:Kx) (Q:dw) (ck:List qX) (env:Env) (H:Hp):Prop:=∀β a w,aj K β env H a w→PH K.P (lift K Q) ck .normal a w
def oq (S:St) (Q:dw) (c:AC) (k:List It) (env:Env) (H:Hp):Prop:=
 ∀(K:Kx),(⟨K.P,K.G,K.N⟩:St)=S→(∀l,live K.H0 l→l.entry=true)→∀c0 ck,aO S.P S.G c0=some c.bare→cz (pn S.P S.G) ck k→vj K Q (.code (.loop c0)::ck) env H
def po (S:St) (env:Env) (H:Hp) (env2:Env) (H2:Hp):Prop:=
 ∀(K:Kx) (β:Lb→Option Nat) (a:Act) (w:World),(⟨K.P,K.G,K.N⟩:St)=S→(∀l,live K.H0 l→l.entry=true)→aj K β env H a w→∃β',aj K β' env2 H2 a w
def Choice (S:St) (env:Env) (H:Hp) (T:Type) (E:T→Env) (HH:T→Hp):Prop:=
 ∀(K:Kx) (β:Lb→Option Nat) (a:Act) (w:World),(⟨K.P,K.G,K.N⟩:St)=S→(∀l,live K.H0 l→l.entry=true)→aj K β env H a w→∃t β',aj K β' (E t) (HH t) a w
def Cut (n:Nat) (f:Env→Hp→Prop) (env:Env) (H:Hp):Prop:=f env H
def go (S:St) (Q:dw):List It→Env→Hp→Prop
 |[]=>fun env H=>Q .normal env H
 | .f_ _::k=>go S Q k
 | .code .skip::k=>go S Q k
 | .code (.seq a b)::k=>go S Q (.code a:: .code b::k)
 | .code (.cond x a b)::k=>fun env H=>∃t,ev env x= .bool t∧(t=true→go S Q (.code a::k) env H)∧(t=false→go S Q (.code b::k) env H)
 | .code (.block id c)::k=>go S Q (.code c:: .f_ id::k)
 | .code (.loop c)::k=>oq S Q c k
 | .code (.exit id)::k=>match h:a_ id k with
  |some k'=>go S Q k'
  |none=>fun env H=>Q (.exit id) env H
 | .code .ret::_=>fun env H=>Q .ret env H
 | .code (.ca is)::k=>fun env H=>AO S is env H (go S Q k)
 | .code (.hX is es fs)::k=>fun env H=>jt is es fs=true∧c7 S (items 0 is fs) env H (go S Q k)
 | .code (.gh g c)::k=>match g with
  | .aT ns=>fun env H=>go S Q (.code c::k) (fl ns env) H
  | .ud l d=>fun env H=>∃sz xs i n,env d= .sl l sz i n∧H l= .live ⟨sz,cj xs⟩∧l.fresh=true∧i+n≤xs.length∧Flat xs ∧
   go S Q (.code c::k) (put env d (.list ((xs.drop i).take n))) (aD H l .dead)
  | .pk l q j=>fun env H=>∃sz xs i n cs,H q= .live ⟨cs.length,[cs]⟩∧cs[j]?=some (.sl l sz i n)∧H l= .live ⟨sz,cj xs⟩∧l.fresh=true∧l≠q∧i+n≤xs.length∧Flat xs ∧
   go S Q (.code c::k) env (aD (aD H l .dead) q (.live ⟨cs.length,[cs.set j (.list ((xs.drop i).take n))]⟩))
  | .own d sz=>fun env H=>env d= .nil0∧0<sz∧H (.loc d)= .unused∧go S Q (.code c::k) (put env d (.sl (.loc d) sz 0 0)) (aD H (.loc d) (.live ⟨sz,[]⟩))
  | .cut n=>Cut n (go S Q (.code c::k))
  | .mI=>fun env H=>∃env2 H2,po S env H env2 H2∧go S Q (.code c::k) env2 H2
  | .vi=>fun env H=>∃(T:Type) (E:T→Env) (HH:T→Hp),Choice S env H T E HH∧∀t,go S Q (.code c::k) (E t) (HH t)
termination_by k=>fw k
decreasing_by
 all_goals simp only[fw,It.sz,AC.sz]
 all_goals first|omega|(have:=eh h;omega)
theorem ei {S:St} {Q:dw} {id:Nat} {k k':List It} (h:a_ id k=some k'):go S Q (.code (.exit id)::k)=go S Q k':=by
 rw[go];split
 ·rename_i wq h2;rw[h] at h2;cases h2;rfl
 ·rename_i h2;rw[h] at h2;cases h2
theorem ej {S:St} {Q:dw} {id:Nat} {k:List It} (h:a_ id k=none):go S Q (.code (.exit id)::k)=Q (.exit id):=by
 rw[go];split
 ·rename_i wq h2;rw[h] at h2;cases h2
 ·rfl
section
variable {K:Kx} {β:Lb→Option Nat} {env:Env} {H:Hp} {a:Act} {w:World}
theorem iT (P:Program) (Qh:Exit→Act→World→Prop):∀(ck:List qX) (a:Act) (w:World),Qh .ret a w→PH P Qh ck .ret a w
 |[],a,w,h=>h
 | .code c::k,a,w,h=>by simp only[PH,Exit.then];exact iT P Qh k a w h
 | .f_ id::k,a,w,h=>by simp only[PH,Exit.inBlock];exact iT P Qh k a w h
theorem eD {P:Program} {G:Nat→Option (List IV)} (Qh:Exit→Act→World→Prop) {id:Nat}:∀(ck:List qX) (k:List It),cz (pn P G) ck k →
  match a_ id k with
  |some k'=>∃ot,cz (pn P G) ot k'∧∀a w,PH P Qh ot .normal a w→PH P Qh ck (.exit id) a w
  |none=>∀a w,Qh (.exit id) a w→PH P Qh ck (.exit id) a w
 |_,_,.nil=>by simp only[a_];exact fun a w h=>h
 |_,_,@cz.cons _ _ _ _ _ ck k h1 h2=>by
  cases h1 with
  |code hc=>
   have ih:=eD Qh (id:=id) ck k h2;simp only[a_];split<;>rename_i hp<;>rw[hp] at ih<;>simp only at ih
   ·obtain⟨ot,e1,e2⟩:=ih;exact⟨ot,e1,fun a w h=>by simp only[PH,Exit.then];exact e2 a w h⟩
   ·exact fun a w h=>by simp only[PH,Exit.then];exact ih a w h
  |f_ i=>
   have ih:=eD Qh (id:=id) ck k h2;simp only[a_];by_cases e:i=id
   ·simp only[e,if_true];exact⟨ck,h2,fun a w h=>by simp only[PH,Exit.inBlock,if_true];exact h⟩
   ·simp only[e,if_false];split<;>rename_i hp<;>rw[hp] at ih<;>simp only at ih
    ·obtain⟨ot,e1,e2⟩:=ih;exact⟨ot,e1,fun a w h=>by simp only[PH,Exit.inBlock,Ne.symm e,if_false];exact e2 a w h⟩
    ·exact fun a w h=>by simp only[PH,Exit.inBlock,Ne.symm e,if_false];exact ih a w h
theorem di {P:Program} {G:Nat→Option (List IV)} {ops:Array Oper}:∀(l:List Oper) (is:List aB),dh P G ops l=some (is.map aB.b')→cz (fun o i=>dE P G ops o=some (aB.b' i)) l is
 |[],is,h=>by
  simp[dh] at h;have:is=[]:=by cases is<;>simp_all
  subst this;exact .nil
 |o::r,is,h=>by
  simp only[dh] at h;obtain⟨i,h1,h⟩:=al h;obtain⟨s,h2,h3⟩:=ar h;cases is with
  |nil=>simp at h3
  |cons j is=>
   simp only[List.map_cons,List.cons.injEq] at h3;obtain⟨rfl,rfl⟩:=h3;exact .cons h1 (di r is h2)
theorem aj.fl (hr:aj K β env H a w) (ns:List Nat):aj K β (Am.fl ns env) H a w:=
 ⟨hr.defers,hr.size,fun n=>by unfold Am.fl;split;exact hr.cd n;simp[RV],hr.rows,hr.own,hr.inj,fun n l hl=>by
  unfold Am.fl at hl;split at hl
  ·exact hr.bB n l hl
  ·simp[AV.aw] at hl,hr.aK,hr.frame,hr.cf,hr.cx,hr.fr⟩
theorem jv (hr : aj K β env H a w) (d : Nat) {x : AV} (hx : RV w β H (Im K β H) x (a.tmps.getD d undef)) (hm : ∀ l ∈ x.aw, H l ≠ .unused) : aj K β (put env d x) H a w :=
  ⟨hr.defers, hr.size, fun n => by unfold put; split; · next h => subst h; exact hx
                                   · exact hr.cd n,hr.rows,hr.own,hr.inj,fun n l hl=>by
    unfold put at hl;split at hl
    · exact hm l hl
    · exact hr.bB n l hl,hr.aK,hr.frame,hr.cf,hr.cx,hr.fr⟩
theorem kS (hr:aj K β env H a w) {l:Lb} {sz:Nat} {xs:List IV} {i n:Nat} {v:Value} (hl:H l= .live ⟨sz,cj xs⟩) (hf:l.fresh=true) (jI:i+n≤xs.length) (r6:Flat xs)
  (hv:RV w β H (Im K β H) (.sl l sz i n) v):RV w β (aD H l .dead) (Im K β (aD H l .dead)) (.list ((xs.drop i).take n)) v:=by
 have aq:∀q,live (aD H l .dead) q→live H q∧q≠l:=by
  rintro q ⟨r,h⟩;by_cases e:q=l
  ·subst e;simp at h
  ·rw[ah _ _ e] at h;exact⟨⟨r,h⟩,e⟩
 have hk:bW w w (Im K β H) (Im K β (aD H l .dead)):=⟨fun k hk hs=>⟨⟨hk.1,fun q hq=>hk.2 q (aq q hq).1⟩,hs,rfl⟩⟩;simp only[RV] at hv;obtain⟨ad,c,rfl,h2,h3,h4,h5⟩:=hv;simp only[RV,bA];have hlen:((xs.drop i).take n).length=n:=by simp;omega
 rw[hlen];refine⟨ad,c,rfl,h2,h3,?_⟩;by_cases hn:n=0
 ·exact .inl hn
 ·right;rcases h5 ⟨_,hl⟩ with h6|⟨g,S,e1,e2,e3,e4⟩
  ·omega
  ·obtain⟨cur,e0,cap,k1,k2,k3,k4,k5⟩:=(hr.rows l _ hl).block e1;have cV:0<sz:=(hr.rows l _ hl).1;have qP:Im K β (aD H l .dead) g:=⟨.inr (hr.fr l g ⟨_,hl⟩ hf e1),fun q hq hb=>(aq q hq).2 (hr.inj q l g (aq q hq).1 ⟨_,hl⟩ hb e1)⟩;refine⟨g,i*sz,sz,e2,qP,(Array.getElem?_eq_some_iff.1 k1).1,cV,cD _ _ _ (fun k y hy=> ?_)⟩
   have pb:xs[i+k]?=some y:=by
    rw[List.getElem?_take] at hy;split at hy
    ·rwa[List.getElem?_drop] at hy
    ·simp at hy
   rw[bx]
   have jj:y.cells.length=sz:=by
    have:=(hr.rows l _ hl).2.1 (y.cells.map IV.bV) (by
     simp only[cj];exact List.mem_map_of_mem (f:=fun y:IV=>y.cells.map IV.bV) (List.mem_of_getElem? pb))
    simpa using this
   refine⟨jj.symm,cC _ _ _ (fun j z hz=> ?_)⟩;obtain⟨u,q1,q2⟩:=k5 (i+k) j (y.cells.map IV.bV) z.bV (by simp[cj,pb]) (by simp[hz]);refine⟨u,?_,iQ hk (r6 y (List.mem_of_getElem? pb) z (List.mem_of_getElem? hz)) q2⟩;rw[cell_of_row w g _ cur e0 (0,0) k1,←q1]
   congr 1
   rw[Nat.add_mul]
theorem bq {P:Program} {G:Nat→Option (List IV)} {c0:Code} {x:AC} (h:aO P G c0=some x) :
  match x with
  | .skip=>c0= .skip
  | .seq x y=>∃a b,c0= .seq a b∧aO P G a=some x∧aO P G b=some y
  | .cond o x y=>∃c a b,c0= .cond c a b∧co G c=some o∧aO P G a=some x∧aO P G b=some y
  | .block id x=>∃a,c0= .block id a∧aO P G a=some x
  | .loop x=>∃a,c0= .loop a∧aO P G a=some x
  | .exit id=>c0= .exit id
  | .ret=>c0= .ret
  | .ca is=>∃id ops,c0= .region id ops false∧dh P G ops ops.toList=some is
  | .hX is es fs=>∃id ops,c0= .region id ops true∧P.follows .mixedOrders=true∧es=bp ops∧dh P G ops ops.toList=some is
  | .gh _ _=>False:=by
 cases c0 with
 |skip=>simp only[aO,Option.some.injEq] at h;subst h;rfl
 |seq a b=>
  simp only[aO] at h;obtain⟨x1,h1,h⟩:=al h;obtain⟨y1,h2,rfl⟩:=ar h;exact⟨a,b,rfl,h1,h2⟩
 |cond c a b=>
  simp only[aO] at h;obtain⟨c1,h0,h⟩:=al h;obtain⟨x1,h1,h⟩:=al h;obtain⟨y1,h2,rfl⟩:=ar h;exact⟨c,a,b,rfl,h0,h1,h2⟩
 |block id a=>
  simp only[aO] at h;obtain⟨y1,h2,rfl⟩:=ar h;exact⟨a,rfl,h2⟩
 |loop a=>
  simp only[aO] at h;obtain⟨y1,h2,rfl⟩:=ar h;exact⟨a,rfl,h2⟩
 |exit id=>simp only[aO,Option.some.injEq] at h;subst h;rfl
 |ret=>simp only[aO,Option.some.injEq] at h;subst h;rfl
 |region id ops draw=>
  cases draw with
  |true=>
   simp only[aO] at h;split at h
   ·rename_i hm;obtain⟨is,h2,rfl⟩:=ar h;exact⟨id,ops,rfl,hm,rfl,h2⟩
   ·simp at h
  |false=>
   simp only[aO] at h;obtain⟨is,h2,rfl⟩:=ar h;exact⟨id,ops,rfl,h2⟩
 |rangeFunc _ _ _ _=>simp[aO] at h
 |scope _=>simp[aO] at h
 |label _=>simp[aO] at h
 |goto _=>simp[aO] at h
 |refuse _=>simp[aO] at h
theorem go_sound (hS : ∀ l,live K.H0 l → l.entry = true) (Q : dw) : ∀ (n : Nat) (k : List It) (ck : List qX),fw k ≤ n → cz (pn K.P K.G) ck k →
   ∀env H,go ⟨K.P,K.G,K.N⟩ Q k env H→vj K Q ck env H:=by
 intro n
 induction n with
 |zero=>
   intro k ck hn hc env H hg β a w hr
   cases hc with
   |nil=>
     rw[go] at hg
     exact⟨env,H,β,hg,hr⟩
   |@cons x i ck k h1 h2=>
     cases i with
     |code c=>have:=c.kR;simp only[fw,It.sz] at hn;omega
     |f_ id=>simp only[fw,It.sz] at hn;omega
 |succ n ih=>
   intro k ck hn hc env H hg β a w hr
   cases hc with
   |nil=>
     rw[go] at hg
     exact⟨env,H,β,hg,hr⟩
   |@cons x i ck k h1 h2=>
     cases h1 with
     |f_ id=>
       rw[go] at hg
       simp only[PH,Exit.inBlock]
       exact ih k ck (by simp only[fw,It.sz] at hn;omega) h2 env H hg β a w hr
     |@code c0 c b_=>
       simp only[PH,Exit.then]
       have pq:=c.kR
       cases c with
       |skip=>
         rw[go] at hg
         simp only[AC.bare] at b_
         have e:=bq b_
         simp only at e
         subst e
         exact wp_skip (ih k ck (by simp only[fw,It.sz,AC.sz] at hn;omega) h2 env H hg β a w hr)
       |seq x y=>
         rw[go] at hg
         obtain⟨x0,y0,rfl,e1,e2⟩:=bq b_
         refine wp_seq ?_
         have:=ih (.code x:: .code y::k) (.code x0:: .code y0::ck) (by simp only[fw,It.sz,AC.sz] at hn ⊢;omega) (.cons (.code e1) (.cons (.code e2) h2)) env H hg β a w hr
         simpa only[PH,Exit.then] using this
       |cond x y z=>
         rw[go] at hg
         obtain⟨o0,y0,z0,rfl,e0,e1,e2⟩:=bq b_
         obtain⟨t,ht,g1,g2⟩:=hg
         have hv:=hr.ev e0
         rw[ht] at hv
         simp only[RV] at hv
         refine wp_cond_split hv ?_ ?_<;>intro h
         · have:=ih (.code y::k) (.code y0::ck) (by simp only[fw,It.sz,AC.sz] at hn ⊢;omega) (.cons (.code e1) h2) env H (g1 h) β a w hr
           simpa only[PH,Exit.then] using this
         · have:=ih (.code z::k) (.code z0::ck) (by simp only[fw,It.sz,AC.sz] at hn ⊢;omega) (.cons (.code e2) h2) env H (g2 h) β a w hr
           simpa only[PH,Exit.then] using this
       |block id c=>
         rw[go] at hg
         obtain⟨c1,rfl,e1⟩:=bq b_
         refine wp_block ?_
         have:=ih (.code c:: .f_ id::k) (.code c1:: .f_ id::ck) (by simp only[fw,It.sz,AC.sz] at hn ⊢;omega) (.cons (.code e1) (.cons (.f_ id) h2)) env H hg β a w hr
         simpa only[PH,Exit.then] using this
       |loop c=>
         rw[go] at hg
         obtain⟨c1,rfl,e1⟩:=bq b_
         have:=hg K rfl hS c1 ck e1 h2 β a w hr
         simpa only[PH,Exit.then] using this
       |exit id=>
         simp only[AC.bare] at b_
         have e:=bq b_
         simp only at e
         subst e
         have hp:=eD (P:=K.P) (G:=K.G) (lift K Q) (id:=id) ck k h2
         refine wp_exit ?_
         cases pj:a_ id k with
         |some k'=>
           rw[ei pj] at hg
           rw[pj] at hp
           obtain⟨ot,e1,e2⟩:=hp
           have:=eh pj
           exact e2 a w (ih k' ot (by simp only[fw,It.sz,AC.sz] at hn;omega) e1 env H hg β a w hr)
         |none=>
           rw[ej pj] at hg
           rw[pj] at hp
           exact hp a w ⟨env,H,β,hg,hr⟩
       |ret=>
         simp only[AC.bare] at b_
         have e:=bq b_
         simp only at e
         subst e
         rw[go] at hg
         exact wp_ret (iT _ _ _ _ _ ⟨env,H,β,hg,hr⟩)
       |ca is=>
         obtain⟨id,ops,rfl,e1⟩:=bq b_
         rw[go] at hg
         refine wp_region_list ?_
         refine hL (fun env' H' β' a' w' q1 q2=> ?_) ops.toList is env H a w β (di _ _ e1) hg hr
         exact ih k ck (by simp only[fw,It.sz,AC.sz] at hn;omega) h2 env' H' q1 β' a' w' q2
       |hX is es fs=>
         obtain⟨id,ops,rfl,hm,rfl,e1⟩:=bq b_
         rw[go] at hg
         refine hU hr hm (di _ _ e1) hg.1 (fun env' H' β' a' w' q1 q2=> ?_) hg.2
         exact ih k ck (by simp only[fw,It.sz,AC.sz] at hn;omega) h2 env' H' q1 β' a' w' q2
       |gh g c=>
         have pr:aO K.P K.G c0=some c.bare:=b_
         have dB:∀env' H',go ⟨K.P,K.G,K.N⟩ Q (.code c::k) env' H'→∀β',aj K β' env' H' a w→c0.wp K.P (PH K.P (lift K Q) ck) a w:=by
           intro env' H' h β' jK
           have:=ih (.code c::k) (.code c0::ck) (by simp only[fw,It.sz,AC.sz] at hn ⊢;omega) (.cons (.code pr) h2) env' H' h β' a w jK
           simpa only[PH,Exit.then] using this
         cases g with
         |aT ns=>rw[go] at hg;exact dB _ _ hg β (hr.fl ns)
         |cut m=>rw[go] at hg;exact dB _ _ hg β hr
         |mI=>
           rw[go] at hg
           obtain⟨env2,H2,g1,g2⟩:=hg
           obtain⟨β',jK⟩:=g1 K β a w rfl hS hr
           exact dB _ _ g2 β' jK
         |vi=>
           rw[go] at hg
           obtain⟨T,E,HH,g1,g2⟩:=hg
           obtain⟨t,β',jK⟩:=g1 K β a w rfl hS hr
           exact dB _ _ (g2 t) β' jK
         |own d sz=>
           rw[go] at hg
           obtain⟨g1,g2,g3,g4⟩:=hg
           have h3:=hr.ew (.loc d) g3 (r:=⟨sz,[]⟩) (Below.refl _ _) none (by simp) (by simp) ⟨g2,by simp,by simp⟩
           have hv:=h3.cd d
           rw[g1] at hv
           simp only[RV] at hv
           obtain⟨ad,hv⟩:=hv
           exact dB _ _ g4 _ (jv h3 d (by rw[hv];simp only[RV];exact⟨ad,0,rfl,Nat.le_refl _,by simp[maxLen],by simp,fun _=> .inl rfl⟩) (by simp[AV.aw]))
         |ud l d=>
           rw[go] at hg
           obtain⟨sz,xs,i,n,g1,g2,g3,g4,g5,g6⟩:=hg
           have hv:=hr.cd d
           rw[g1] at hv
           exact dB _ _ g6 _ (jv (hr.kill l (by rw[g2];simp)) d (kS hr g2 g3 g4 g5 hv) (by simp[AV.aw]))
         |pk l q j=>
           rw[go] at hg
           obtain⟨sz,xs,i,n,cs,g1,g2,g3,g4,g5,g6,g7,g8⟩:=hg
           have hk:=hr.kill l (by rw[g3];simp)
           have hq:aD H l .dead q= .live ⟨cs.length,[cs]⟩:=by rw[ah _ _ (Ne.symm g5)];exact g1
           have cV:0<cs.length:=(hr.rows q _ g1).1
           cases hb:β q with
           |none=>
             have:=(hr.rows q _ g1).2.2
             simp[hb] at this
           |some g=>
             obtain⟨cur,e0,cap,k1,k2,k3,k4,k5⟩:=(hr.rows q _ g1).block hb
             obtain⟨cur',xd,wu,vk,xe,xf,xg,wv⟩:=(hk.rows q _ hq).block hb
             rw[k1] at vk
             cases vk
             have n9:j<cs.length:=(List.getElem?_eq_some_iff.1 g2).1
             have jQ := hk.setRow q (r' := ⟨cs.length,[cs.set j (.list ((xs.drop i).take n))]⟩) (cur' := cur) (cap := cap) hq hb k1 rfl rfl k2 k3 (by simpa using k4) (by simp)
               (by
                 intro ds l5 p hp
                 simp at l5;subst l5
                 have:p∈ak cs:=by
                   obtain⟨y,hy,vl⟩:∃y∈cs.set j (.list ((xs.drop i).take n)),p∈y.aw:=by
                     generalize cs.set j (.list ((xs.drop i).take n))=ds at hp
                     induction ds with
                     |nil=>simp[ak] at hp
                     |cons y r wx=>
                       simp only[ak,List.mem_append] at hp
                       rcases hp with hp|hp
                       · exact⟨y,by simp,hp⟩
                       · obtain⟨z,hz,wy⟩:=wx hp
                         exact⟨z,by simp[hz],wy⟩
                   rcases List.mem_or_eq_of_mem_set hy with hy|rfl
                   · obtain⟨m,hm⟩:=List.getElem?_of_mem hy
                     exact aL _ _ _ hm p vl
                   · simp[AV.aw] at vl
                 have:=hk.aK q _ hq cs (by simp) p this
                 exact this)
               (by
                 intro i' j' ds x0 a7 cB
                 cases i' with
                 |succ i'=>simp at a7
                 |zero=>
                   simp at a7;subst a7
                   by_cases e:j'=j
                   · subst e
                     rw[List.getElem?_set_self n9] at cB
                     cases cB
                     obtain⟨v,q1,q2⟩:=k5 0 j' cs _ (by simp) g2
                     exact⟨v,q1,kS hr g3 g4 g6 g7 q2⟩
                   · rw[List.getElem?_set_ne (Ne.symm e)] at cB
                     exact wv 0 j' cs x0 (by simp) cB)
             have hG:w.setRow g cur=w:=setRow_self w g cur e0 (0,0) k1
             rw[hG] at jQ
             exact dB _ _ g8 _ jQ
end
end Go.Am

/- THE ABSTRACT MACHINE, part 16: functions. -/
namespace Go.Am
open Go Go.RowKit
abbrev RO:=Option (Option Nat)×Nat
def jw (P:Program):ResultVar→Option RO
 | .tmp t=>some (none,t)
 | .cell a t=>(jG P t).map fun m=>(some m,a)
def eE (P:Program):List ResultVar→Option (List RO)
 |[]=>some []
 |r::s=>(jw P r).bind fun x=>(eE P s).map fun y=>x::y
def hY (r:RO) (env:Env) (H:Hp):Option AV:=
 match r.1 with
 |none=>some (env r.2)
 |some m=>bt m (env r.2) H
def dF (env:Env) (H:Hp):List RO→Option (List AV)
 |[]=>some []
 |r::s=>(hY r env H).bind fun x=>(dF env H s).map fun y=>x::y
def fH:List AV→AV
 |[x]=>x
 |xs=> .eN xs
def ek (rs:List RO) (R:AV→Hp→Prop):dw:=fun e env H=>(e= .normal∨e= .ret)∧∃xs,dF env H rs=some xs∧R (fH xs) H
def hZ (args:List AV):Env:=fun n=>args.getD n .un
def dj (P:Program) (G:Nat→Option (List IV)) (f:Nat):Option (Nat×List RO×AC):=
 (P.funcs[f]?).bind fun fn=>fn.body.bind fun c=>(eE P fn.results.toList).bind fun rs=>(aO P G c).map fun x=>(fn.ntmps,rs,x)
section
variable {K:Kx} {β:Lb→Option Nat} {env:Env} {H:Hp} {a:Act} {w:World}
theorem iU (hr:aj K β env H a w) {rv:ResultVar} {r:RO} (hc:jw K.P rv=some r) {x:AV} (hx:hY r env H=some x) :
  ∃v,(match rv with
   | .tmp t=>(pure (a.tmps.getD t undef):Sem Value)
   | .cell b t=>do loadVar t (←asAddr (a.tmps.getD b undef))).run K.P w= .ok v w∧RV w β H (Im K β H) x v∧∀l∈x.aw,H l≠ .unused:=by
 cases rv with
 |tmp t=>
  simp only[jw,Option.some.injEq] at hc;subst hc;simp only[hY,Option.some.injEq] at hx;subst hx;exact⟨_,by simp,hr.cd t,hr.bB t⟩
 |cell b t=>
  simp only[jw] at hc;obtain⟨m,h1,rfl⟩:=ar hc;simp only[hY] at hx;obtain⟨v,q1,q3,q4⟩:=ji (o:={(default:Oper) with op:= .load t (.tmp b)}) (x':= .t b) hr rfl h1 rfl hx;have hv:=hr.cd b;cases he:env b with
  |ptr l sz i j=>
   rw[he] at hv;simp only[RV] at hv;obtain⟨ad,e1,e2⟩:=hv;simp only[execOp,Act.eval,e1,Instr.loadAt,Instr.sureAddr,Sem.run_bind,Sem.run_pure,Result.andThen_ok] at q1;refine⟨v,?_,q3,q4⟩;simp only[e1,asAddr,Sem.run_bind,Sem.run_pure,Result.andThen_ok];cases hl:(loadVar t ad).run K.P w with
   |ok u w2=>
    rw[hl] at q1;simp only[Result.andThen_ok,Result.ok.injEq] at q1;obtain⟨q1,rfl⟩:=q1;cases q1;rfl
   |_=>rw[hl] at q1;simp at q1
  |_=>rw[he] at hx;simp[bt] at hx
theorem eL (hr:aj K β env H a w):∀(s6:List ResultVar) (rs:List RO) (xs:List AV),eE K.P s6=some rs→dF env H rs=some xs →
  ∃vs,(s6.mapM (m:=Sem) fun
   | .tmp t=>(pure (a.tmps.getD t undef):Sem Value)
   | .cell b t=>do loadVar t (←asAddr (a.tmps.getD b undef))).run K.P w= .ok vs w∧au w β H (Im K β H) xs vs∧∀l∈ak xs,H l≠ .unused
 |[],rs,xs,hc,hx=>by
  simp only[eE,Option.some.injEq] at hc;subst hc;simp only[dF,Option.some.injEq] at hx;subst hx;exact⟨[],by simp,by simp[au],by simp[ak]⟩
 |rv::s6,rs,xs,hc,hx=>by
  simp only[eE] at hc;obtain⟨r,h1,hc⟩:=al hc;obtain⟨qY,h2,rfl⟩:=ar hc;simp only[dF] at hx;obtain⟨x,h3,hx⟩:=al hx;obtain⟨wz,h4,rfl⟩:=ar hx;obtain⟨v,e1,e2,e3⟩:=iU hr h1 h3;obtain⟨vs,k1,k2,k3⟩:=eL hr s6 qY wz h2 h4;refine⟨v::vs,?_,⟨v,vs,rfl,e2,k2⟩,?_⟩
  ·rw[List.mapM_cons];simp only[Sem.run_bind,e1,Result.andThen_ok,k1,Sem.run_pure]
  ·intro l hl;simp only[ak,List.mem_append] at hl;rcases hl with hl|hl
   ·exact e3 l hl
   ·exact k3 l hl
theorem fI (hr:aj K β env H a w) {fn:Func} {rs:List RO} {xs:List AV} (hc:eE K.P fn.results.toList=some rs) (hx:dF env H rs=some xs) :
  ∃v,(results fn a.tmps).run K.P w= .ok v w∧RV w β H (Im K β H) (fH xs) v∧∀l∈(fH xs).aw,H l≠ .unused:=by
 obtain⟨vs,h1,h2,h3⟩:=eL hr _ _ _ hc hx;have hlen:=au.len _ _ h2
 have cJ:(results fn a.tmps).run K.P w= .ok (if h:vs.toArray.size=1 then vs.toArray[0] else .tuple vs.toArray) w:=by
  unfold results;rw[Array.mapM_eq_mapM_toList];simp only[Sem.run_bind,Sem.run_pure,map_eq_pure_bind];exact(congrArg (fun r:Result (List Value)=>(r.andThen fun a w'=>Result.ok a.toArray w').andThen fun a w'=>Result.ok (if h:a.size=1 then a[0] else Value.tuple a) w') h1).trans rfl
 refine⟨_,cJ,?_⟩
 match xs,h2,h3,hlen with
 |[],h2,h3,hlen=>
  simp only[au] at h2;subst h2;simp[fH,RV,au,AV.aw,ak]
 |[x],h2,h3,hlen=>
  simp only[au] at h2;obtain⟨v,us,rfl,e1,rfl⟩:=h2;simp only[fH];exact⟨by simpa using e1,fun l hl=>h3 l (by simp[ak,hl])⟩
 |x::y::r,h2,h3,hlen=>
  have:vs.toArray.size≠1:=by simp;simp at hlen;omega
  rw[dif_neg this];simp only[fH,RV,AV.aw];exact⟨⟨vs,rfl,h2⟩,h3⟩
theorem kT (args:List AV) (n:Nat) (l:Lb) (h:l∈(hZ args n).aw):l∈ak args:=by
 unfold hZ at h;rw[List.getD_eq_getElem?_getD] at h;cases hx:args[n]? with
 |none=>rw[hx] at h;simp[AV.aw] at h
 |some x=>rw[hx] at h;exact aL _ _ _ hx l (by simpa using h)
theorem iV {P:Program} {G:Nat→Option (List IV)} {f:Nat} {n:Nat} {rs:List RO} {ac:AC} {args:List AV} {R:AV→Hp→Prop}
   (hF:dj P G f=some (n,rs,ac.bare)) (hn:args.length≤n) (ue:∀l,live H l→l.entry=true) (hm:∀l∈ak args,H l≠ .unused)
   (hg:go ⟨P,G,n⟩ (ek rs R) [.code ac] (hZ args) H):bQ P G f args H R:=by
 unfold dj at hF
 obtain⟨fn,hf,hF⟩:=al hF
 obtain⟨c,hb,hF⟩:=al hF
 obtain⟨qY,dL,hF⟩:=al hF
 obtain⟨x,wA,hF⟩:=ar hF
 simp only[Prod.mk.injEq] at hF
 obtain⟨rfl,rfl,rfl⟩:=hF
 intro w A β vs hr hv
 have hlen:=au.len _ _ hv
 refine calls_of_wp hf hb ?_
 have cV:vs.toArray.size=args.length:=by simpa using hlen
 let K:Kx:=⟨P,G,w,A,oe β H,fn.ntmps,H,β⟩
 have eR:aj K β (hZ args) H {tmps:=vs.toArray++Array.replicate (fn.ntmps - vs.toArray.size) undef,defers:=[]} w:=
   { defers := rfl
     size:=by simp only[Array.size_append,Array.size_replicate,cV,K];omega
     cd := fun m => by
       have ec:(vs.toArray++Array.replicate (fn.ntmps - vs.toArray.size) undef).getD m undef=(vs[m]?).getD undef:=by
         rw[Array.getD_eq_getD_getElem?]
         by_cases wB:m<vs.length
         · rw[Array.getElem?_append_left (by simpa using wB)];simp
         · rw[Array.getElem?_append_right (by simp;omega),Array.getElem?_replicate]
           rw[List.getElem?_eq_none (by omega)]
           split<;>simp
       simp only
       rw[ec]
       unfold hZ
       rw[List.getD_eq_getElem?_getD]
       cases hx:args[m]? with
       |none=>
         have:vs[m]?=none:=by
           rw[List.getElem?_eq_none_iff] at hx ⊢;omega
         rw[this];simp[RV,undef]
       |some y=>
         obtain⟨u,h1,h2⟩:=au.get _ _ _ _ hv hx
         rw[h1];exact h2
     rows:=hr.rows
     own:=hr.own
     inj:=hr.inj
     bB:=fun m l hl=>hm l (kT args m l hl)
     aK:=hr.aK
     frame:=hr.frame
     cf:=hr.cf
     cx:=hr.cx
     fr:=hr.fr}
 have c6:cz (pn P G) [.code c] [.code ac]:= .cons (.code wA) .nil
 have:=go_sound (K:=K) ue (ek qY R) (fw [.code ac]) [.code ac] [.code c] (Nat.le_refl _) c6 (hZ args) H hg β _ w eR
 simp only[PH,Exit.then] at this
 refine wp_mono this ?_
 intro e a' w' hq
 have key:∀a' w',(lift K (ek qY R) .normal a' w'∨lift K (ek qY R) .ret a' w')→a'.defers=[]∧∃v,(results fn a'.tmps).run P w'= .ok v w' ∧
     ∃v' x H' β',Ending.returned v= .returned v'∧R x H'∧aj (bh P G w A β H) β' Env.any H' fi w' ∧
     RV w' β' H' (Im (bh P G w A β H) β' H') x v'∧∀l∈x.aw,H' l≠ .unused:=by
   intro a' w' h
   have:∃e env' H' β',ek qY R e env' H'∧aj K β' env' H' a' w':=by
     rcases h with⟨env',H',β',h⟩|⟨env',H',β',h⟩<;>exact⟨_,env',H',β',h⟩
   obtain⟨e,env',H',β',⟨_,xs,h1,h2⟩,h3⟩:=this
   obtain⟨v,k1,k2,k3⟩:=fI h3 dL h1
   refine⟨h3.defers,v,k1,v,_,H',β',rfl,h2,?_,k2,k3⟩
   exact
     { defers := rfl
       size:=rfl
       cd:=fun m=>by simp[Env.any,RV]
       rows:=h3.rows
       own:=h3.own
       inj:=h3.inj
       bB:=fun m=>by simp[Env.any,AV.aw]
       aK:=h3.aK
       frame:=h3.frame
       cf:=h3.cf
       cx:=h3.cx
       fr:=h3.fr}
 cases e with
 |normal=>exact key a' w' (.inl hq)
 |ret=>exact key a' w' (.inr hq)
 |panic ch=>obtain⟨_,_,_,⟨h,_⟩,_⟩:=hq;simp at h
 |exit id=>obtain⟨_,_,_,⟨h,_⟩,_⟩:=hq;simp at h
 |goto l=>obtain⟨_,_,_,⟨h,_⟩,_⟩:=hq;simp at h
 |outgrown=>obtain⟨_,_,_,⟨h,_⟩,_⟩:=hq;simp at h
theorem cO {P:Program} {G:Nat→Option (List IV)} {f:Nat} {n:Nat} {rs:List RO} {ac:AC} {args:List AV} {res:AV}
  (hF:dj P G f=some (n,rs,ac.bare)) (hn:args.length≤n) (hl:ak args=[]) (wC:res.aw=[])
  (hg:go ⟨P,G,n⟩ (ek rs fun x _=>x=res) [.code ac] (hZ args) Hp.none):aW P G f args res:=
 ⟨hl,wC,iV hF hn (fun l ⟨r,h⟩=>by simp[Hp.none] at h) (by simp[hl]) hg⟩
end
end Go.Am

/- THE ABSTRACT MACHINE, part 21: loops. -/
namespace Go.Am
open Go Go.RowKit
structure Wk (ρ:Lb→Lb) (env:Env) (H:Hp) (env2:Env) (H2:Hp):Prop where
 e:∀n,env2 n= .any∨env n=ba ρ (env2 n)
 h:∀l r,H2 l= .live r→H (ρ l)= .live (b9 ρ r)
 inj:∀l l',live H2 l→live H2 l'→ρ l=ρ l'→l=l'
 m:∀n,∀l∈(env2 n).aw,H2 l≠ .unused
 rm:∀l r,H2 l= .live r→∀cs∈r.aQ,∀q∈ak cs,H2 q≠ .unused
 st:∀l,l.entry=true→(H l≠ .unused→H2 l≠ .unused)∧(live H2 l→ρ l=l)
 fr:∀l,live H2 l→l.fresh=true→(ρ l).fresh=true
def kU {σ:Type} (S:St) (Q:dw) (k:List It) (E:σ→Env) (HH:σ→Hp) (μ:σ→Nat) (n:Nat):dw:=fun e env H=>
 match e with
 | .normal=>∃s,μ s<n∧∃ρ,Wk ρ env H (E s) (HH s)
 | .exit id=>match a_ id k with
  |some k'=>go S Q k' env H
  |none=>Q (.exit id) env H
 | .ret=>Q .ret env H
 |_=>False
end Go.Am

/- THE ABSTRACT MACHINE, part 22: how code is evaluated: equations. -/
namespace Go.Am
open Go Go.RowKit
inductive Tk {α:Type 1} (a:α):Type
 |mk
inductive Tp (a c:Prop):Type
 |mk
inductive Tv {α:Type} (a:α→Prop):Type
 |mk
inductive Tw (a:AV→Hp→Prop):Type
 |mk
def aG (o:Option AV) (k:AV→Prop) (_:Tv k):Prop:=∃x,o=some x∧k x
def gB (x:AV) (t:Bool) (A B:Prop) (_:Tp A B):Prop:=
 match x with
 | .bool b=>if b=t then A else B
 | .un=>B
 |_=>False
def cK (x:AV) (A B:Prop) (_:Tp A B):Prop:=
 match x with
 | .bool b=>if b=true then A else B
 |_=>False
def hK (o:Option Hp) (k:Hp→Prop) (_:Tv k):Prop:=∃x,o=some x∧k x
def pK (o:Option (AV×Hp)) (k:AV→Hp→Prop) (_:Tw k):Prop:=∃x h,o=some (x,h)∧k x h
def s7 (S:St) (f:Nat) (args:List AV) (H:Hp) (k:AV→Hp→Prop) (_:Tw k):Prop:=cY S f args H k
def vm (S:St) (f:Nat) (args:List AV) (k:AV→Prop) (_:Tv k):Prop:=∃x,aW S.P S.G f args x∧k x
section
variable {S:St} {Q:dw} {env:Env} {H:Hp} {k:List It}
theorem kV (x:AV) (k:AV→Prop) (u:Tv k):aG (some x) k u=k x:=by simp[aG]
theorem mL (x:Hp) (k:Hp→Prop) (u:Tv k):hK (some x) k u=k x:=by simp[hK]
theorem mM (x:AV) (h:Hp) (k:AV→Hp→Prop) (u:Tw k):pK (some (x,h)) k u=k x h:=by
 simp only[pK,Option.some.injEq,Prod.mk.injEq];apply propext;constructor
 ·rintro⟨_,_,⟨rfl,rfl⟩,h⟩;exact h
 ·intro h;exact⟨_,_,⟨rfl,rfl⟩,h⟩
theorem uf (A B:Prop) (u:Tp A B):gB (.bool true) true A B u=A:=by simp[gB]
theorem uh (A B:Prop) (u:Tp A B):gB (.bool false) true A B u=B:=by simp[gB]
theorem sf (A B:Prop) (u:Tp A B):gB (.bool true) false A B u=B:=by simp[gB]
theorem sg (A B:Prop) (u:Tp A B):gB (.bool false) false A B u=A:=by simp[gB]
theorem ui (t:Bool) (A B:Prop) (u:Tp A B):gB .un t A B u=B:=by simp[gB]
theorem uj (A B:Prop) (u:Tp A B):cK (.bool true) A B u=A:=by simp[cK]
theorem uk (A B:Prop) (u:Tp A B):cK (.bool false) A B u=B:=by simp[cK]
theorem pt (k:Env→Hp→Prop):AO S [] env H k=k env H:=rfl
theorem mN (n:Nat) (i:az) (r:List aB) (k:Env→Hp→Prop) :
  AO S (⟨some n,none,i⟩::r) env H k=(n<S.N∧an S (some n) i env H fun x H'=>AO S r (put env n x) H' k):=by
 simp[AO,gW,aM]
theorem mO (i:az) (r:List aB) (k:Env→Hp→Prop) :
  AO S (⟨none,none,i⟩::r) env H k=an S none i env H fun x H'=>AO S r env H' k:=by
 simp[AO,gW,aM]
theorem kW (n s:Nat) (t:Bool) (i:az) (r:List aB) (k:Env→Hp→Prop) :
  AO S (⟨some n,some (s,t),i⟩::r) env H k=(n<S.N∧gB (env s) t (an S (some n) i env H fun x H'=>AO S r (put env n x) H' k) (AO S r (put env n .un) H k) .mk):=by
 simp only[AO,gW,aM];cases he:env s<;>simp[gB,he];rename_i b;cases b<;>cases t<;>simp
theorem j7 (s:Nat) (t:Bool) (i:az) (r:List aB) (k:Env→Hp→Prop) :
  AO S (⟨none,some (s,t),i⟩::r) env H k=gB (env s) t (an S none i env H fun x H'=>AO S r env H' k) (AO S r env H k) .mk:=by
 simp only[AO,gW,aM];cases he:env s<;>simp[gB,he];rename_i b;cases b<;>cases t<;>simp
theorem kX (j n:Nat) (i:az) (f:Fp) (r:List (Nat×aB×Fp)) (k:Env→Hp→Prop) :
  c7 S ((j,⟨some n,none,i⟩,f)::r) env H k=(n<S.N∧ae S f (some n) i env H fun x H'=>c7 S r (put env n x) H' k):=by
 simp[c7,gL,gW,aM]
theorem kY (j:Nat) (i:az) (f:Fp) (r:List (Nat×aB×Fp)) (k:Env→Hp→Prop) :
  c7 S ((j,⟨none,none,i⟩,f)::r) env H k=ae S f none i env H fun x H'=>c7 S r env H' k:=by
 simp[c7,gL,gW,aM]
theorem j8 (j n s:Nat) (t:Bool) (i:az) (f:Fp) (r:List (Nat×aB×Fp)) (k:Env→Hp→Prop) :
  c7 S ((j,⟨some n,some (s,t),i⟩,f)::r) env H k=(n<S.N∧gB (env s) t (ae S f (some n) i env H fun x H'=>c7 S r (put env n x) H' k) (c7 S r (put env n .un) H k) .mk):=by
 simp only[c7,gL,gW,aM];cases he:env s<;>simp[gB,he];rename_i b;cases b<;>cases t<;>simp
theorem pw:go S Q [] env H=Q .normal env H:=by rw[go]
theorem px (id:Nat):go S Q (.f_ id::k) env H=go S Q k env H:=by rw[go]
theorem mQ:go S Q (.code .skip::k) env H=go S Q k env H:=by rw[go]
theorem py (a b:AC):go S Q (.code (.seq a b)::k) env H=go S Q (.code a:: .code b::k) env H:=by rw[go]
theorem mR (x:O) (a b:AC):go S Q (.code (.cond x a b)::k) env H=cK (ev env x) (go S Q (.code a::k) env H) (go S Q (.code b::k) env H) .mk:=by
 rw[go];unfold cK;apply propext;constructor
 ·rintro⟨t,h1,h2,h3⟩;rw[h1];cases t
  ·simpa using h3 rfl
  ·simpa using h2 rfl
 ·intro h;split at h
  ·rename_i t e;refine⟨t,e,fun e2=> ?_,fun e2=> ?_⟩<;>subst e2<;>simpa using h
  ·exact h.elim
theorem kZ (id:Nat) (c:AC):go S Q (.code (.block id c)::k) env H=go S Q (.code c:: .f_ id::k) env H:=by rw[go]
theorem mS (c:AC):go S Q (.code (.loop c)::k) env H=oq S Q c k env H:=by rw[go]
theorem pz:go S Q (.code .ret::k) env H=Q .ret env H:=by rw[go]
theorem pA (is:List aB):go S Q (.code (.ca is)::k) env H=AO S is env H (go S Q k):=by rw[go]
theorem mT (ns:List Nat) (c:AC):go S Q (.code (.gh (.aT ns) c)::k) env H=go S Q (.code c::k) (fl ns env) H:=by rw[go]
theorem pB (l:Lb) (d:Nat) (c:AC):go S Q (.code (.gh (.ud l d) c)::k) env H=∃sz xs i n,env d= .sl l sz i n∧H l= .live ⟨sz,cj xs⟩∧l.fresh=true∧i+n≤xs.length∧Flat xs ∧
 go S Q (.code c::k) (put env d (.list ((xs.drop i).take n))) (aD H l .dead):=by rw[go]
theorem pC (d sz:Nat) (c:AC):go S Q (.code (.gh (.own d sz) c)::k) env H=(env d= .nil0∧0<sz∧H (.loc d)= .unused∧go S Q (.code c::k) (put env d (.sl (.loc d) sz 0 0)) (aD H (.loc d) (.live ⟨sz,[]⟩))):=by rw[go]
theorem mU (id:Nat):go S Q (.code (.exit id)::k) env H=match a_ id k with
  |some k'=>go S Q k' env H
  |none=>Q (.exit id) env H:=by
 cases h:a_ id k with
 |some k'=>rw[ei h]
 |none=>rw[ej h]
theorem dP (n:Nat) (i:aB) (is:List aB) (f:Fp) (fs:List Fp):items n (i::is) (f::fs)=(n,i,f)::items (n+1) is fs:=rfl
theorem pD d x (k:AV→Hp→Prop):an S d (.bT x) env H k=aG (aa (.bT x) env) (fun x=>k x H) .mk:=rfl
theorem mV d c a b (k:AV→Hp→Prop):an S d (.pick c a b) env H k=aG (aa (.pick c a b) env) (fun x=>k x H) .mk:=rfl
theorem pE d a off (k:AV→Hp→Prop):an S d (.dU a off) env H k=aG (aa (.dU a off) env) (fun x=>k x H) .mk:=rfl
theorem pF d x i n sz (k:AV→Hp→Prop):an S d (.mj x i n sz) env H k=aG (aa (.mj x i n sz) env) (fun x=>k x H) .mk:=rfl
theorem pG d x i sz (k:AV→Hp→Prop):an S d (.kr x i sz) env H k=aG (aa (.kr x i sz) env) (fun x=>k x H) .mk:=rfl
theorem pH d x i (k:AV→Hp→Prop):an S d (.ma x i) env H k=aG (aa (.ma x i) env) (fun x=>k x H) .mk:=rfl
theorem pI d x (k:AV→Hp→Prop):an S d (.len x) env H k=aG (aa (.len x) env) (fun x=>k x H) .mk:=rfl
theorem mW d x (k:AV→Hp→Prop):an S d (.lens x) env H k=aG (aa (.lens x) env) (fun x=>k x H) .mk:=rfl
theorem pJ d x lo hi mx sz (k:AV→Hp→Prop):an S d (.mb x lo hi mx sz) env H k=aG (aa (.mb x lo hi mx sz) env) (fun x=>k x H) .mk:=rfl
theorem mY d x lo hi (k:AV→Hp→Prop):an S d (.gg x lo hi) env H k=aG (aa (.gg x lo hi) env) (fun x=>k x H) .mk:=rfl
theorem pL d op x y (k:AV→Hp→Prop):an S d (.bin op x y) env H k=aG (aa (.bin op x y) env) (fun x=>k x H) .mk:=rfl
theorem pM d n x y (k:AV→Hp→Prop):an S d (.mc n x y) env H k=aG (aa (.mc n x y) env) (fun x=>k x H) .mk:=rfl
theorem pN d n x y (k:AV→Hp→Prop):an S d (.kt n x y) env H k=aG (aa (.kt n x y) env) (fun x=>k x H) .mk:=rfl
theorem pO d n x y (k:AV→Hp→Prop):an S d (.me n x y) env H k=aG (aa (.me n x y) env) (fun x=>k x H) .mk:=rfl
theorem mZ d n ks x y (k:AV→Hp→Prop):an S d (.fx n ks x y) env H k=aG (aa (.fx n ks x y) env) (fun x=>k x H) .mk:=rfl
theorem pP d x (k:AV→Hp→Prop):an S d (.not x) env H k=aG (aa (.not x) env) (fun x=>k x H) .mk:=rfl
theorem pQ d x (k:AV→Hp→Prop):an S d (.neg x) env H k=aG (aa (.neg x) env) (fun x=>k x H) .mk:=rfl
theorem pR d x y (k:AV→Hp→Prop):an S d (.max x y) env H k=aG (aa (.max x y) env) (fun x=>k x H) .mk:=rfl
theorem pS d x y (k:AV→Hp→Prop):an S d (.min x y) env H k=aG (aa (.min x y) env) (fun x=>k x H) .mk:=rfl
theorem pT d x i (k:AV→Hp→Prop):an S d (.ext x i) env H k=aG (aa (.ext x i) env) (fun x=>k x H) .mk:=rfl
theorem pU d z ps (k:AV→Hp→Prop):an S d (.jb z ps) env H k=aG (aa (.jb z ps) env) (fun x=>k x H) .mk:=rfl
theorem m_ d x off m (k:AV→Hp→Prop):an S d (.fy x off m) env H k=aG (aa (.fy x off m) env) (fun x=>k x H) .mk:=rfl
theorem na d n sz z ps (k:AV→Hp→Prop):an S d (.lits n sz z ps) env H k=aG (aa (.lits n sz z ps) env) (fun x=>k x H) .mk:=rfl
theorem nb d x (k:AV→Hp→Prop):an S d (.fz x) env H k=aG (aa (.fz x) env) (fun x=>k x H) .mk:=rfl
theorem nc d x (k:AV→Hp→Prop):an S d (.c_ x) env H k=aG (aa (.c_ x) env) (fun x=>k x H) .mk:=rfl
theorem pV d f cap (k:AV→Hp→Prop):an S d (.mf f cap) env H k=aG (aa (.mf f cap) env) (fun x=>k x H) .mk:=rfl
theorem pX d kd x (k:AV→Hp→Prop):an S d (.mg kd x) env H k=aG (aa (.mg kd x) env) (fun x=>k x H) .mk:=rfl
theorem pY d x (k:AV→Hp→Prop):an S d (.dr x) env H k=aG (aa (.dr x) env) (fun x=>k x H) .mk:=rfl
theorem pZ d x (k:AV→Hp→Prop):an S d (.mh x) env H k=aG (aa (.mh x) env) (fun x=>k x H) .mk:=rfl
theorem p9 d x (k:AV→Hp→Prop):an S d (.mi x) env H k=aG (aa (.mi x) env) (fun x=>k x H) .mk:=rfl
theorem nd d t x (k:AV→Hp→Prop):an S d (.gi t x) env H k=aG (aa (.gi t x) env) (fun x=>k x H) .mk:=rfl
theorem ng (d:Option Nat) (m:Option Nat) (a:O) (k:AV→Hp→Prop):an S d (.load m a) env H k=(aG (aa (.load m a) env) (fun x=>k x H) .mk∨aG (bt m (ev env a) H) (fun x=>k x H) .mk):=rfl
def sh (m:Option Nat) (x:AV) (H:Hp):Option AV:=
 match x with
 | .lptr cs=>match m with
  |none=>cs[0]?.map IV.bV
  |some k=>if k≤cs.length then some (.agg ((cs.take k).map IV.bV)) else none
 |x=>bt m x H
theorem si (d:Option Nat) (m:Option Nat) (a:O) (k:AV→Hp→Prop):an S d (.load m a) env H k=aG (sh m (ev env a) H) (fun x=>k x H) .mk:=by
 rw[ng];unfold sh;split
 ·rename_i cs e;simp only[aa,e,bt,aG];apply propext;constructor
  ·rintro(h|⟨x,h,_⟩)
   ·exact h
   ·simp at h
  ·exact .inl
 ·rename_i x dm
  have:aa (.load m a) env=none:=by
   simp only[aa]
  rw[this];simp[aG]
theorem p_ (n:Nat) (cs:List AV) (k:AV→Hp→Prop):an S (some n) (.new cs) env H k=(H (.loc n)= .unused∧0<cs.length∧cs.length≤maxLen ∧
  k (.ptr (.loc n) cs.length 0 0) (aD H (.loc n) (.live ⟨cs.length,[cs]⟩))):=by
 simp[an]
def k8 (x:AV) (n:Nat) (H:Hp) (k:AV→Hp→Prop):Prop:=H (.loc n)= .unused∧x.jH=true∧0<x.cells.length∧x.cells.length≤maxLen ∧
 k (.ptr (.loc n) x.cells.length 0 0) (aD H (.loc n) (.live ⟨x.cells.length,[x.cells]⟩))
theorem qa (n:Nat) (x:O) (k:AV→Hp→Prop):an S (some n) (.box x) env H k=k8 (ev env x) n H k:=by
 simp[an,k8]
theorem k9 (m:Nat) (a x:O) (k:AV→Hp→Prop):an S none (.store m a x) env H k=hK (cM m (ev env a) (ev env x) H) (fun H'=>k .un H') .mk:=by
 simp[an,hK]
theorem qb (n:Nat) (s x:O) (sz b:Nat) (k:AV→Hp→Prop):an S (some n) (.app s x sz b) env H k=pK (iK sz b n (ev env s) (ev env x) H) k .mk:=by
 simp only[an,pK,Option.some.injEq];apply propext;constructor
 ·rintro⟨_,rfl,h⟩;exact h
 ·intro h;exact⟨_,rfl,h⟩
theorem nh (d:Option Nat) (f:Nat) (args:List O) (k:AV→Hp→Prop):an S d (.call f args) env H k=s7 S f (args.map (ev env)) H k .mk:=rfl
theorem dQ {f:Nat} {args:List AV} {res:AV} {k:AV→Hp→Prop} (h:aW S.P S.G f args res) (hk:k res H) {u:Tw k}:s7 S f args H k u:= .inl ⟨res,h,hk⟩
theorem ni d x (k:AV→Hp→Prop):ae S .no d (.bT x) env H k=aG (aa (.bT x) env) (fun x=>k x H) .mk:=by simp only[ae,Quiet,aG,or_false]
theorem k_ d c a b (k:AV→Hp→Prop):ae S .no d (.pick c a b) env H k=aG (aa (.pick c a b) env) (fun x=>k x H) .mk:=by simp only[ae,Quiet,aG,or_false]
theorem nj d a off (k:AV→Hp→Prop):ae S .no d (.dU a off) env H k=aG (aa (.dU a off) env) (fun x=>k x H) .mk:=by simp only[ae,Quiet,aG,or_false]
theorem nk d x i sz (k:AV→Hp→Prop):ae S .no d (.kr x i sz) env H k=aG (aa (.kr x i sz) env) (fun x=>k x H) .mk:=by simp only[ae,Quiet,aG,or_false]
theorem nm d x i n sz (k:AV→Hp→Prop):ae S .no d (.mj x i n sz) env H k=aG (aa (.mj x i n sz) env) (fun x=>k x H) .mk:=by simp only[ae,Quiet,aG,or_false]
theorem nn d x i (k:AV→Hp→Prop):ae S .no d (.ma x i) env H k=aG (aa (.ma x i) env) (fun x=>k x H) .mk:=by simp only[ae,Quiet,aG,or_false]
theorem np d x (k:AV→Hp→Prop):ae S .no d (.len x) env H k=aG (aa (.len x) env) (fun x=>k x H) .mk:=by simp only[ae,Quiet,aG,or_false]
theorem la d x (k:AV→Hp→Prop):ae S .no d (.lens x) env H k=aG (aa (.lens x) env) (fun x=>k x H) .mk:=by simp only[ae,Quiet,aG,or_false]
theorem nq d x lo hi mx sz (k:AV→Hp→Prop):ae S .no d (.mb x lo hi mx sz) env H k=aG (aa (.mb x lo hi mx sz) env) (fun x=>k x H) .mk:=by simp only[ae,Quiet,aG,or_false]
theorem ld d x lo hi (k:AV→Hp→Prop):ae S .no d (.gg x lo hi) env H k=aG (aa (.gg x lo hi) env) (fun x=>k x H) .mk:=by simp only[ae,Quiet,aG,or_false]
theorem nr d op x y (k:AV→Hp→Prop):ae S .no d (.bin op x y) env H k=aG (aa (.bin op x y) env) (fun x=>k x H) .mk:=by simp only[ae,Quiet,aG,or_false]
theorem nt d n x y (k:AV→Hp→Prop):ae S .no d (.mc n x y) env H k=aG (aa (.mc n x y) env) (fun x=>k x H) .mk:=by simp only[ae,Quiet,aG,or_false]
theorem nu d n x y (k:AV→Hp→Prop):ae S .no d (.kt n x y) env H k=aG (aa (.kt n x y) env) (fun x=>k x H) .mk:=by simp only[ae,Quiet,aG,or_false]
theorem nv d n x y (k:AV→Hp→Prop):ae S .no d (.me n x y) env H k=aG (aa (.me n x y) env) (fun x=>k x H) .mk:=by simp only[ae,Quiet,aG,or_false]
theorem lf d n ks x y (k:AV→Hp→Prop):ae S .no d (.fx n ks x y) env H k=aG (aa (.fx n ks x y) env) (fun x=>k x H) .mk:=by simp only[ae,Quiet,aG,or_false]
theorem nw d x (k:AV→Hp→Prop):ae S .no d (.not x) env H k=aG (aa (.not x) env) (fun x=>k x H) .mk:=by simp only[ae,Quiet,aG,or_false]
theorem ny d x (k:AV→Hp→Prop):ae S .no d (.neg x) env H k=aG (aa (.neg x) env) (fun x=>k x H) .mk:=by simp only[ae,Quiet,aG,or_false]
theorem nz d x y (k:AV→Hp→Prop):ae S .no d (.max x y) env H k=aG (aa (.max x y) env) (fun x=>k x H) .mk:=by simp only[ae,Quiet,aG,or_false]
theorem nA d x y (k:AV→Hp→Prop):ae S .no d (.min x y) env H k=aG (aa (.min x y) env) (fun x=>k x H) .mk:=by simp only[ae,Quiet,aG,or_false]
theorem nB d x i (k:AV→Hp→Prop):ae S .no d (.ext x i) env H k=aG (aa (.ext x i) env) (fun x=>k x H) .mk:=by simp only[ae,Quiet,aG,or_false]
theorem nC d z ps (k:AV→Hp→Prop):ae S .no d (.jb z ps) env H k=aG (aa (.jb z ps) env) (fun x=>k x H) .mk:=by simp only[ae,Quiet,aG,or_false]
theorem lh d x off m (k:AV→Hp→Prop):ae S .no d (.fy x off m) env H k=aG (aa (.fy x off m) env) (fun x=>k x H) .mk:=by simp only[ae,Quiet,aG,or_false]
theorem lj d n sz z ps (k:AV→Hp→Prop):ae S .no d (.lits n sz z ps) env H k=aG (aa (.lits n sz z ps) env) (fun x=>k x H) .mk:=by simp only[ae,Quiet,aG,or_false]
theorem lk d x (k:AV→Hp→Prop):ae S .no d (.fz x) env H k=aG (aa (.fz x) env) (fun x=>k x H) .mk:=by simp only[ae,Quiet,aG,or_false]
theorem ll d x (k:AV→Hp→Prop):ae S .no d (.c_ x) env H k=aG (aa (.c_ x) env) (fun x=>k x H) .mk:=by simp only[ae,Quiet,aG,or_false]
theorem nD d f cap (k:AV→Hp→Prop):ae S .no d (.mf f cap) env H k=aG (aa (.mf f cap) env) (fun x=>k x H) .mk:=by simp only[ae,Quiet,aG,or_false]
theorem nE d kd x (k:AV→Hp→Prop):ae S .no d (.mg kd x) env H k=aG (aa (.mg kd x) env) (fun x=>k x H) .mk:=by simp only[ae,Quiet,aG,or_false]
theorem nF d x (k:AV→Hp→Prop):ae S .no d (.dr x) env H k=aG (aa (.dr x) env) (fun x=>k x H) .mk:=by simp only[ae,Quiet,aG,or_false]
theorem nG d x (k:AV→Hp→Prop):ae S .no d (.mh x) env H k=aG (aa (.mh x) env) (fun x=>k x H) .mk:=by simp only[ae,Quiet,aG,or_false]
theorem nH d x (k:AV→Hp→Prop):ae S .no d (.mi x) env H k=aG (aa (.mi x) env) (fun x=>k x H) .mk:=by simp only[ae,Quiet,aG,or_false]
theorem ln d t x (k:AV→Hp→Prop):ae S .no d (.gi t x) env H k=aG (aa (.gi t x) env) (fun x=>k x H) .mk:=by simp only[ae,Quiet,aG,or_false]
theorem lr d m a (k:AV→Hp→Prop):ae S .no d (.load m a) env H k=aG (aa (.load m a) env) (fun x=>k x H) .mk:=by simp only[ae,Quiet,aG,or_false]
theorem nI (d:Option Nat) (f:Nat) (args:List O) (k:AV→Hp→Prop):ae S .no d (.call f args) env H k=vm S f (args.map (ev env)) (fun x=>k x H) .mk:=by
 simp[ae,Quiet,aa,vm]
theorem qc (env:Env) (n m:Nat) (x:AV):put env n x m=if m=n then x else env m:=rfl
end
def lu:=And.intro @pF<|And.intro @pD (And.intro @mV (And.intro @pE (And.intro @pG (And.intro @pH (And.intro @pI (And.intro @mW (And.intro @pJ (And.intro @mY (And.intro @pL (And.intro @pM (And.intro @pN (And.intro @pO (And.intro @mZ (And.intro @pP (And.intro @pQ (And.intro @pR (And.intro @pS (And.intro @pT (And.intro @pU (And.intro @m_ (And.intro @na (And.intro @nb (And.intro @nc (And.intro @pV (And.intro @pX (And.intro @pY (And.intro @pZ (And.intro @p9 (@nd)))))))))))))))))))))))))))))
def lv:=And.intro @nm<|And.intro @ni (And.intro @k_ (And.intro @nj (And.intro @nk (And.intro @nn (And.intro @np (And.intro @la (And.intro @nq (And.intro @ld (And.intro @nr (And.intro @nt (And.intro @nu (And.intro @nv (And.intro @lf (And.intro @nw (And.intro @ny (And.intro @nz (And.intro @nA (And.intro @nB (And.intro @nC (And.intro @lh (And.intro @lj (And.intro @lk (And.intro @ll (And.intro @nD (And.intro @nE (And.intro @nF (And.intro @nG (And.intro @nH (And.intro @ln (@lr))))))))))))))))))))))))))))))
end Go.Am

/- THE ABSTRACT MACHINE, part 23: states seen as others. -/
namespace Go.Am
open Go Go.RowKit
mutual
theorem gC:∀x:AV,ba id x=x
 | .sl ..| .slk ..| .ptr ..| .any| .un| .bool _| .int ..| .str _| .list _| .nil0| .bY| .cT| .lptr _=>by simp[ba]
 | .agg cs=>by simp[ba,dp cs]
 | .eN cs=>by simp[ba,dp cs]
 | .fn f fs cs=>by simp[ba,dp fs,dp cs]
 | .ifc t x=>by simp[ba,gC x]
theorem dp:∀xs:List AV,bn id xs=xs
 |[]=>by simp[bn]
 |x::r=>by simp[bn,gC x,dp r]
end
theorem gD (r:Row):b9 id r=r:=by
 obtain⟨sz,aQ⟩:=r;simp only[b9,Row.mk.injEq,true_and];rw[show bn id=id from funext dp];simp
theorem Wk.same {env:Env} {H:Hp} {env2:Env} (e:∀n,env2 n= .any∨env n=ba id (env2 n)) (m:∀n,∀l∈(env2 n).aw,H l≠ .unused)
  (rm:∀l r,H l= .live r→∀cs∈r.aQ,∀q∈ak cs,H q≠ .unused):Wk id env H env2 H:=
 ⟨e,fun l r h=>by rw[gD];exact h,fun _ _ _ _ h=>h,m,rm,fun l _=>⟨id,fun _=>rfl⟩,fun _ _ h=>h⟩
theorem Wk.none {env env2:Env} (e:∀n,env2 n= .any∨env n=ba id (env2 n)) (m:∀n,∀l∈(env2 n).aw,Hp.none l≠ .unused):Wk id env Hp.none env2 Hp.none:=
 .same e m (by simp[Hp.none])
section
variable {σ:Type} {S:St} {Q:dw} {k:List It} {E:σ→Env} {HH:σ→Hp} {μ:σ→Nat} {n:Nat} {env:Env} {H:Hp}
theorem um:kU S Q k E HH μ n .normal env H=∃s,μ s<n∧∃ρ,Wk ρ env H (E s) (HH s):=rfl
theorem uo (id:Nat):kU S Q k E HH μ n (.exit id) env H=match a_ id k with
 |some k'=>go S Q k' env H
 |none=>Q (.exit id) env H:=rfl
theorem uq:kU S Q k E HH μ n .ret env H=Q .ret env H:=rfl
theorem nJ (id:Nat):a_ id []=none:=rfl
theorem nK (id i:Nat) (r:List It):a_ id (.f_ i::r)=if i=id then some r else a_ id r:=rfl
theorem lx (id:Nat) (c:AC) (r:List It):a_ id (.code c::r)=a_ id r:=rfl
theorem ly (is:List aB) (es:List (List Nat)) (fs:List Fp):go S Q (.code (.hX is es fs)::k) env H=(jt is es fs=true∧c7 S (items 0 is fs) env H (go S Q k)):=by rw[go]
theorem nL (l q:Lb) (j:Nat) (c:AC):go S Q (.code (.gh (.pk l q j) c)::k) env H=∃sz xs i n cs,H q= .live ⟨cs.length,[cs]⟩∧cs[j]?=some (.sl l sz i n)∧H l= .live ⟨sz,cj xs⟩∧l.fresh=true∧l≠q∧i+n≤xs.length∧Flat xs ∧
 go S Q (.code c::k) env (aD (aD H l .dead) q (.live ⟨cs.length,[cs.set j (.list ((xs.drop i).take n))]⟩)):=by rw[go]
theorem qd (t:Nat) (R:AV→Hp→Prop):ek [(none,t)] R .ret env H=R (env t) H:=by simp[ek,dF,hY,fH]
theorem nM (m:Option Nat) (t:Nat) (R:AV→Hp→Prop):ek [(some m,t)] R .ret env H=aG (bt m (env t) H) (fun x=>R x H) .mk:=by
 simp only[ek,dF,hY,aG];cases bt m (env t) H<;>simp[fH]
theorem nN (m:Option Nat) (t:Nat) (R:AV→Hp→Prop):ek [(some m,t)] R .normal env H=aG (bt m (env t) H) (fun x=>R x H) .mk:=by
 simp only[ek,dF,hY,aG];cases bt m (env t) H<;>simp[fH]
theorem qe (t:Nat) (R:AV→Hp→Prop):ek [(none,t)] R .normal env H=R (env t) H:=by simp[ek,dF,hY,fH]
end
section
variable {S:St} {env:Env} {H:Hp}
theorem nO (j:Nat) (f:List Fp) (k:Env→Hp→Prop):c7 S (items j [] f) env H k=k env H:=rfl
theorem lz (j n:Nat) (i:az) (f:Fp) (r:List aB) (fs:List Fp) (k:Env→Hp→Prop) :
 c7 S (items j (⟨some n,none,i⟩::r) (f::fs)) env H k=(n<S.N∧ae S f (some n) i env H fun x H'=>c7 S (items (j+1) r fs) (put env n x) H' k):=by rw[dP,kX]
theorem lA (j:Nat) (i:az) (f:Fp) (r:List aB) (fs:List Fp) (k:Env→Hp→Prop) :
 c7 S (items j (⟨none,none,i⟩::r) (f::fs)) env H k=ae S f none i env H fun x H'=>c7 S (items (j+1) r fs) env H' k:=by rw[dP,kY]
theorem j9 (j n s:Nat) (t:Bool) (i:az) (f:Fp) (r:List aB) (fs:List Fp) (k:Env→Hp→Prop) :
 c7 S (items j (⟨some n,some (s,t),i⟩::r) (f::fs)) env H k=(n<S.N∧gB (env s) t (ae S f (some n) i env H fun x H'=>c7 S (items (j+1) r fs) (put env n x) H' k) (c7 S (items (j+1) r fs) (put env n .un) H k) .mk):=by rw[dP,j8]
end
def wD:=And.intro @pw (And.intro @px (And.intro @mQ (And.intro @py (And.intro @kZ (And.intro @mS (And.intro @pz (And.intro @pA (And.intro @mT (And.intro @pC (And.intro @pB (And.intro @nL (And.intro @ly (And.intro @mR (And.intro @mU (And.intro @pt (And.intro @mN (And.intro @mO (And.intro @kW (And.intro @j7 (And.intro @nO (And.intro @lz (And.intro @lA (And.intro @j9 (And.intro @si (And.intro @p_ (And.intro @qa (And.intro @k9 (And.intro @qb (And.intro @nh (And.intro @nI (And.intro @qd (And.intro @qe (And.intro @nM (And.intro @nN (And.intro @um (And.intro @uo (@uq)))))))))))))))))))))))))))))))))))))
def wE:=And.intro @kV (And.intro @mL (And.intro @mM (And.intro @uf (And.intro @uh (And.intro @sf (And.intro @sg (And.intro @ui (And.intro @uj (And.intro @uk (And.intro @qc (And.intro @nJ (And.intro @nK (@lx)))))))))))))
end Go.Am

/- THE ABSTRACT MACHINE, part 24: lists that grow. -/
namespace Go.Am
open Go Go.RowKit
theorem Flat.one {xs:List IV} (h:Flat xs):∀cs∈cj xs,AV.gq cs:=by
 intro cs aN y hy;simp only[cj,List.mem_map] at aN;obtain⟨z,hz,rfl⟩:=aN;obtain⟨c,hc,rfl⟩:=List.mem_map.1 hy;have:=h z hz c hc;cases c<;>simp[IV.bV,AV.one];exact absurd rfl (this _)
theorem nP (ρ:Lb→Lb) (x:IV):ba ρ x.bV=x.bV:=by cases x<;>simp[IV.bV,ba]
theorem h_ (ρ:Lb→Lb):∀xs:List IV,bn ρ (xs.map IV.bV)=xs.map IV.bV
 |[]=>by simp[bn]
 |x::r=>by simp[bn,nP,h_ ρ r]
theorem lB (ρ:Lb→Lb) (sz:Nat) (xs:List IV):b9 ρ ⟨sz,cj xs⟩=⟨sz,cj xs⟩:=by
 simp[b9,cj,h_]
theorem nQ (x:IV):x.bV.aw=[]:=by cases x<;>simp[IV.bV,AV.aw]
theorem ia:∀xs:List IV,ak (xs.map IV.bV)=[]
 |[]=>rfl
 |x::r=>by simp[ak,nQ,ia r]
theorem j_ {xs:List IV} {cs:List AV} (h:cs∈cj xs):ak cs=[]:=by
 simp only[cj,List.mem_map] at h;obtain⟨y,_,rfl⟩:=h;exact ia _
theorem Wk.one {env env2:Env} {H:Hp} {l0 l1:Lb} {sz:Nat} {xs:List IV} (he:∀n,env2 n= .any∨env n=ba (fun _=>l1) (env2 n)) (hm:∀n,∀l∈(env2 n).aw,aD Hp.none l0 (.live ⟨sz,cj xs⟩) l≠ .unused)
  (h1:H l1= .live ⟨sz,cj xs⟩) (wF:l0.fresh=true) (s5:l1.fresh=true) (hn:∀l,l.fresh=false→H l= .unused):Wk (fun _=>l1) env H env2 (aD Hp.none l0 (.live ⟨sz,cj xs⟩)):=by
 have hl:∀l r,aD Hp.none l0 (.live ⟨sz,cj xs⟩) l= .live r→l=l0∧r=⟨sz,cj xs⟩:=by
  intro l r h;by_cases e:l=l0
  ·subst e;simp at h;exact⟨rfl,h.symm⟩
  ·rw[ah _ _ e] at h;simp[Hp.none] at h
 refine⟨he,fun l r h=> ?_,fun l l' ⟨r,h⟩ ⟨r',h'⟩ _=>(hl l r h).1.trans (hl l' r' h').1.symm,hm,fun l r h cs aN q hq=> ?_,fun l hle=>⟨fun h=>absurd (hn l (Lb.eY hle)) h,fun⟨r,h⟩=> ?_⟩,fun _ _ _=>s5⟩
 ·obtain⟨rfl,rfl⟩:=hl l r h;rw[lB];exact h1
 ·obtain⟨rfl,rfl⟩:=hl l r h;rw[j_ aN] at hq;simp at hq
 ·obtain⟨rfl,_⟩:=hl l r h;have vn:=Lb.eY hle;rw[wF] at vn;simp at vn
theorem qf {H:Hp} {n:Nat} {s:Slot} (h:∀l:Lb,l.fresh=false→H l= .unused):∀l:Lb,l.fresh=false→aD H (.loc n) s l= .unused:=by
 intro l hl;have:l≠ .loc n:=by rintro rfl;simp[Lb.fresh] at hl
 rw[ah _ _ this];exact h l hl
theorem lC (H:Hp) (l q:Lb) (s:Slot):aD H l s q=if q=l then s else H q:=rfl
section
variable {S:St} {env:Env} {H:Hp}
theorem nR (R W:List Lb) (d:Option Nat) (m:Option Nat) (a:O) (k:AV→Hp→Prop):ae S (.rw R W) d (.load m a) env H k=aG (bt m (ev env a) H) (fun x=>(∀l∈bU (ev env a),l.c8∈R∨l.c8∈W)∧k x H) .mk:=by
 apply propext;simp only[ae,aP,aE,af,aG];constructor
 ·rintro⟨x,H',h1,h2,_,h3⟩;simp only[Option.map_eq_some_iff,Prod.mk.injEq] at h1;obtain⟨y,h1,rfl,rfl⟩:=h1;exact⟨y,h1,h2,h3⟩
 ·rintro⟨x,h1,h2,h3⟩;exact⟨x,H,by simp[h1],h2,by simp,h3⟩
theorem lD (R W:List Lb) (m:Nat) (a x:O) (k:AV→Hp→Prop):ae S (.rw R W) none (.store m a x) env H k=hK (cM m (ev env a) (ev env x) H) (fun H'=>(∀l∈bU (ev env a),l.c8∈W)∧k .un H') .mk:=by
 apply propext;simp only[ae,aP,aE,af,hK,if_true];constructor
 ·rintro⟨x,H',h1,_,h2,h3⟩;simp only[Option.map_eq_some_iff,Prod.mk.injEq] at h1;obtain⟨y,h1,rfl,rfl⟩:=h1;exact⟨_,h1,h2,h3⟩
 ·rintro⟨x,h1,h2,h3⟩;exact⟨.un,x,by simp[h1],by simp,h2,h3⟩
theorem qg (R W:List Lb) (n:Nat) (cs:List AV) (k:AV→Hp→Prop):ae S (.rw R W) (some n) (.new cs) env H k=(H (.loc n)= .unused∧0<cs.length∧cs.length≤maxLen∧(Lb.loc n)∈W ∧
  k (.ptr (.loc n) cs.length 0 0) (aD H (.loc n) (.live ⟨cs.length,[cs]⟩))):=by
 apply propext;simp only[ae,aP,aE,af,Option.bind_some];constructor
 ·rintro⟨x,H',h1,_,h2,h3⟩;split at h1
  ·rename_i hc;simp only[Option.some.injEq,Prod.mk.injEq] at h1;obtain⟨rfl,rfl⟩:=h1;exact⟨hc.1,hc.2.1,hc.2.2,h2 (.loc n) (by simp),h3⟩
  ·simp at h1
 ·rintro⟨h1,h2,h3,h4,h5⟩;exact⟨_,_,by rw[if_pos ⟨h1,h2,h3⟩],by simp,by simpa[Lb.c8] using h4,h5⟩
theorem qh (R W:List Lb) (n:Nat) (x:O) (k:AV→Hp→Prop):ae S (.rw R W) (some n) (.box x) env H k=(Lb.loc n∈W∧k8 (ev env x) n H k):=by
 apply propext;simp only[ae,aP,aE,af,Option.bind_some,k8];constructor
 ·rintro⟨y,H',h1,_,h2,h3⟩;split at h1
  ·rename_i hc;simp only[Option.some.injEq,Prod.mk.injEq] at h1;obtain⟨rfl,rfl⟩:=h1;exact⟨h2 (.loc n) (by simp),hc.1,hc.2.1,hc.2.2.1,hc.2.2.2,h3⟩
  ·simp at h1
 ·rintro⟨h4,h1,h2,h3,h6,h5⟩;exact⟨_,_,by rw[if_pos ⟨h1,h2,h3,h6⟩],by simp,by simpa[Lb.c8] using h4,h5⟩
def ka (n:Nat) (s:AV):List Lb:=
 match s with
 | .sl l _ _ _=>[l,l.app n]
 | .slk l _ _ _ _=>[l,.loc n]
 |_=>[.loc n]
theorem qi (R W:List Lb) (n:Nat) (s x:O) (sz b:Nat) (k:AV→Hp→Prop):ae S (.rw R W) (some n) (.app s x sz b) env H k =
  pK (iK sz b n (ev env s) (ev env x) H) (fun y H'=>(∀l∈bU (ev env x),l.c8∈R∨l.c8∈W)∧(∀l∈ka n (ev env s),l.c8∈W)∧k y H') .mk:=by
 apply propext
 have:af (some n) (.app s x sz b) env=ka n (ev env s):=by
  simp only[af,ka];cases ev env s<;>simp
 simp only[ae,aP,this,aE,Option.bind_some,pK]
end
end Go.Am
