import Derived.Test.YtfinkeaikbmpgaaKAm17
import Derived.Deep.LoopGhost
import Derived.IntWalk
set_option linter.unusedSimpArgs false
set_option linter.unusedVariables false
set_option linter.unnecessarySimpa false
set_option linter.defProp false
/- THE ABSTRACT MACHINE, part 15: code, walked. -/
namespace Go.Am
open Go Go.RowKit
inductive Ku where
 |code (c:Code)
 |tf (id:Nat)
def PH (P:Program) (Qh:Exit→Act→World→Prop):List Ku→Exit→Act→World→Prop
 |[]=>Qh
 | .code c::k=>Exit.then (c.wp P (PH P Qh k)) (PH P Qh k)
 | .tf id::k=>Exit.inBlock id (PH P Qh k)
def AC.bare:AC→AC
 | .seq a b=> .seq a.bare b.bare
 | .cond x a b=> .cond x a.bare b.bare
 | .block id c=> .block id c.bare
 | .loop c=> .loop c.bare
 | .aM is=> .aM (is.map dn.j9)
 | .eY is es _=> .eY (is.map dn.j9) es []
 | .gh _ c=>c.bare
 |c=>c
def my (P:Program) (G:Nat→Option (List IV)) (ops:Array Oper):List Oper→Option (List dn)
 |[]=>some []
 |o::r=>(nB P G ops o).bind fun i=>(my P G ops r).map fun s=>i::s
def en (P:Program) (G:Nat→Option (List IV)):Code→Option AC
 | .skip=>some .skip
 | .seq a b=>(en P G a).bind fun x=>(en P G b).map fun y=> .seq x y
 | .cond c a b=>(co G c).bind fun c=>(en P G a).bind fun x=>(en P G b).map fun y=> .cond c x y
 | .block id c=>(en P G c).map fun x=> .block id x
 | .loop c=>(en P G c).map fun x=> .loop x
 | .exit id=>some (.exit id)
 | .ret=>some .ret
 | .region _ ops false=>(my P G ops ops.toList).map .aM
 | .region _ ops true=>if P.follows .mixedOrders=true then(my P G ops ops.toList).map fun is=> .eY is (gz ops) [] else none
 |_=>none
inductive Iq (P:Program) (G:Nat→Option (List IV)):Ku→It→Prop
 |code {c:Code} {x:AC}:en P G c=some x.bare→Iq P G (.code c) (.code x)
 |tf (id:Nat):Iq P G (.tf id) (.tf id)
def lift (K:Kx) (Q:ka) (e:Exit) (a:Act) (w:World):Prop:=∃env H β,Q e env H∧bj K β env H a w
def PX (K:Kx) (Q:ka) (ck:List Ku) (env:Env) (H:Hp):Prop:=∀β a w,bj K β env H a w→PH K.P (lift K Q) ck .normal a w
def oq (S:St) (Q:ka) (c:AC) (k:List It) (env:Env) (H:Hp):Prop:=
 ∀(K:Kx),(⟨K.P,K.G,K.N⟩:St)=S→(∀l,live K.H0 l→l.entry=true)→∀c0 ck,en S.P S.G c0=some c.bare→dP (Iq S.P S.G) ck k→PX K Q (.code (.loop c0)::ck) env H
def iz (S:St) (env:Env) (H:Hp) (env2:Env) (H2:Hp):Prop:=
 ∀(K:Kx) (β:Lb→Option Nat) (a:Act) (w:World),(⟨K.P,K.G,K.N⟩:St)=S→(∀l,live K.H0 l→l.entry=true)→bj K β env H a w→∃β',bj K β' env2 H2 a w
def Choice (S:St) (env:Env) (H:Hp) (T:Type) (E:T→Env) (HH:T→Hp):Prop:=
 ∀(K:Kx) (β:Lb→Option Nat) (a:Act) (w:World),(⟨K.P,K.G,K.N⟩:St)=S→(∀l,live K.H0 l→l.entry=true)→bj K β env H a w→∃t β',bj K β' (E t) (HH t) a w
def Cut (n:Nat) (f:Env→Hp→Prop) (env:Env) (H:Hp):Prop:=f env H
def go (S:St) (Q:ka):List It→Env→Hp→Prop
 |[]=>fun env H=>Q .normal env H
 | .tf _::k=>go S Q k
 | .code .skip::k=>go S Q k
 | .code (.seq a b)::k=>go S Q (.code a:: .code b::k)
 | .code (.cond x a b)::k=>fun env H=>∃t,ev env x= .bool t∧(t=true→go S Q (.code a::k) env H)∧(t=false→go S Q (.code b::k) env H)
 | .code (.block id c)::k=>go S Q (.code c:: .tf id::k)
 | .code (.loop c)::k=>oq S Q c k
 | .code (.exit id)::k=>match h:fe id k with
  |some k'=>go S Q k'
  |none=>fun env H=>Q (.exit id) env H
 | .code .ret::_=>fun env H=>Q .ret env H
 | .code (.aM is)::k=>fun env H=>AO S is env H (go S Q k)
 | .code (.eY is es fs)::k=>fun env H=>y5 is es fs=true∧mi S (items 0 is fs) env H (go S Q k)
 | .code (.gh g c)::k=>match g with
  | .eM ns=>fun env H=>go S Q (.code c::k) (rb ns env) H
  | .Ez l d=>fun env H=>∃sz xs i n,env d= .sl l sz i n∧H l= .live ⟨sz,ay xs⟩∧l.fresh=true∧i+n≤xs.length∧Flat xs ∧
   go S Q (.code c::k) (put env d (.list ((xs.drop i).take n))) (bG H l .dead)
  | .As l q j=>fun env H=>∃sz xs i n cs,H q= .live ⟨cs.length,[cs]⟩∧cs[j]?=some (.sl l sz i n)∧H l= .live ⟨sz,ay xs⟩∧l.fresh=true∧l≠q∧i+n≤xs.length∧Flat xs ∧
   go S Q (.code c::k) env (bG (bG H l .dead) q (.live ⟨cs.length,[cs.set j (.list ((xs.drop i).take n))]⟩))
  | .own d sz=>fun env H=>env d= .nil0∧0<sz∧H (.loc d)= .unused∧go S Q (.code c::k) (put env d (.sl (.loc d) sz 0 0)) (bG H (.loc d) (.live ⟨sz,[]⟩))
  | .cut n=>Cut n (go S Q (.code c::k))
  | .qn=>fun env H=>∃env2 H2,iz S env H env2 H2∧go S Q (.code c::k) env2 H2
  | .Ip=>fun env H=>∃(T:Type) (E:T→Env) (HH:T→Hp),Choice S env H T E HH∧∀t,go S Q (.code c::k) (E t) (HH t)
termination_by k=>pR k
decreasing_by
 all_goals simp only[pR,It.sz,AC.sz]
 all_goals first|omega|(have:=oo h;omega)
theorem ot {S:St} {Q:ka} {id:Nat} {k k':List It} (h:fe id k=some k'):go S Q (.code (.exit id)::k)=go S Q k':=by
 rw[go];split
 ·rename_i QY h2;rw[h] at h2;cases h2;rfl
 ·rename_i h2;rw[h] at h2;cases h2
theorem ou {S:St} {Q:ka} {id:Nat} {k:List It} (h:fe id k=none):go S Q (.code (.exit id)::k)=Q (.exit id):=by
 rw[go];split
 ·rename_i QY h2;rw[h] at h2;cases h2
 ·rfl
section
variable {K:Kx} {β:Lb→Option Nat} {env:Env} {H:Hp} {a:Act} {w:World}
theorem re (P:Program) (Qh:Exit→Act→World→Prop):∀(ck:List Ku) (a:Act) (w:World),Qh .ret a w→PH P Qh ck .ret a w
 |[],a,w,h=>h
 | .code c::k,a,w,h=>by simp only[PH,Exit.then];exact re P Qh k a w h
 | .tf id::k,a,w,h=>by simp only[PH,Exit.inBlock];exact re P Qh k a w h
theorem lk {P:Program} {G:Nat→Option (List IV)} (Qh:Exit→Act→World→Prop) {id:Nat}:∀(ck:List Ku) (k:List It),dP (Iq P G) ck k →
  match fe id k with
  |some k'=>∃Bp,dP (Iq P G) Bp k'∧∀a w,PH P Qh Bp .normal a w→PH P Qh ck (.exit id) a w
  |none=>∀a w,Qh (.exit id) a w→PH P Qh ck (.exit id) a w
 |_,_,.nil=>by simp only[fe];exact fun a w h=>h
 |_,_,@dP.cons _ _ _ _ _ ck k h1 h2=>by
  cases h1 with
  |code hc=>
   have ih:=lk Qh (id:=id) ck k h2;simp only[fe];split<;>rename_i hp<;>rw[hp] at ih<;>simp only at ih
   ·obtain⟨Bp,e1,e2⟩:=ih;exact⟨Bp,e1,fun a w h=>by simp only[PH,Exit.then];exact e2 a w h⟩
   ·exact fun a w h=>by simp only[PH,Exit.then];exact ih a w h
  |tf i=>
   have ih:=lk Qh (id:=id) ck k h2;simp only[fe];by_cases e:i=id
   ·simp only[e,if_true];exact⟨ck,h2,fun a w h=>by simp only[PH,Exit.inBlock,if_true];exact h⟩
   ·simp only[e,if_false];split<;>rename_i hp<;>rw[hp] at ih<;>simp only at ih
    ·obtain⟨Bp,e1,e2⟩:=ih;exact⟨Bp,e1,fun a w h=>by simp only[PH,Exit.inBlock,Ne.symm e,if_false];exact e2 a w h⟩
    ·exact fun a w h=>by simp only[PH,Exit.inBlock,Ne.symm e,if_false];exact ih a w h
theorem mz {P:Program} {G:Nat→Option (List IV)} {ops:Array Oper}:∀(l:List Oper) (is:List dn),my P G ops l=some (is.map dn.j9)→dP (fun o i=>nB P G ops o=some (dn.j9 i)) l is
 |[],is,h=>by
  simp[my] at h;have:is=[]:=by cases is<;>simp_all
  subst this;exact .nil
 |o::r,is,h=>by
  simp only[my] at h;obtain⟨i,h1,h⟩:=bT h;obtain⟨s,h2,h3⟩:=cd h;cases is with
  |nil=>simp at h3
  |cons j is=>
   simp only[List.map_cons,List.cons.injEq] at h3;obtain⟨rfl,rfl⟩:=h3;exact .cons h1 (mz r is h2)
theorem bj.rb (hr:bj K β env H a w) (ns:List Nat):bj K β (Am.rb ns env) H a w:=
 ⟨hr.defers,hr.size,fun n=>by unfold Am.rb;split;exact hr.jj n;simp[RV],hr.rows,hr.own,hr.inj,fun n l hl=>by
  unfold Am.rb at hl;split at hl
  ·exact hr.gO n l hl
  ·simp[AV.aI] at hl,hr.dA,hr.frame,hr.jI,hr.jJ,hr.fr⟩
theorem qy (hr : bj K β env H a w) (d : Nat) {x : AV} (hx : RV w β H (Im K β H) x (a.tmps.getD d undef)) (hm : ∀ l ∈ x.aI, H l ≠ .unused) : bj K β (put env d x) H a w :=
  ⟨hr.defers, hr.size, fun n => by unfold put; split; · next h => subst h; exact hx
                                   · exact hr.jj n,hr.rows,hr.own,hr.inj,fun n l hl=>by
    unfold put at hl;split at hl
    · exact hm l hl
    · exact hr.gO n l hl,hr.dA,hr.frame,hr.jI,hr.jJ,hr.fr⟩
theorem xI (hr:bj K β env H a w) {l:Lb} {sz:Nat} {xs:List IV} {i n:Nat} {v:Value} (hl:H l= .live ⟨sz,ay xs⟩) (hf:l.fresh=true) (mn:i+n≤xs.length) (vD:Flat xs)
  (hv:RV w β H (Im K β H) (.sl l sz i n) v):RV w β (bG H l .dead) (Im K β (bG H l .dead)) (.list ((xs.drop i).take n)) v:=by
 have bz:∀q,live (bG H l .dead) q→live H q∧q≠l:=by
  rintro q ⟨r,h⟩;by_cases e:q=l
  ·subst e;simp at h
  ·rw[aq _ _ e] at h;exact⟨⟨r,h⟩,e⟩
 have hk:jH w w (Im K β H) (Im K β (bG H l .dead)):=⟨fun k hk hs=>⟨⟨hk.1,fun q hq=>hk.2 q (bz q hq).1⟩,hs,rfl⟩⟩;simp only[RV] at hv;obtain⟨ad,c,rfl,h2,h3,h4,h5⟩:=hv;simp only[RV,ic];have hlen:((xs.drop i).take n).length=n:=by simp;omega
 rw[hlen];refine⟨ad,c,rfl,h2,h3,?_⟩;by_cases hn:n=0
 ·exact .inl hn
 ·right;rcases h5 ⟨_,hl⟩ with h6|⟨g,S,e1,e2,e3,e4⟩
  ·omega
  ·obtain⟨cur,e0,cap,k1,k2,k3,k4,k5⟩:=(hr.rows l _ hl).block e1;have k8:0<sz:=(hr.rows l _ hl).1;have GI:Im K β (bG H l .dead) g:=⟨.inr (hr.fr l g ⟨_,hl⟩ hf e1),fun q hq hb=>(bz q hq).2 (hr.inj q l g (bz q hq).1 ⟨_,hl⟩ hb e1)⟩;refine⟨g,i*sz,sz,e2,GI,(Array.getElem?_eq_some_iff.1 k1).1,k8,lf _ _ _ (fun k y hy=> ?_)⟩
   have nS:xs[i+k]?=some y:=by
    rw[List.getElem?_take] at hy;split at hy
    ·rwa[List.getElem?_drop] at hy
    ·simp at hy
   rw[gx]
   have xB:y.cells.length=sz:=by
    have:=(hr.rows l _ hl).2.1 (y.cells.map IV.cW) (by
     simp only[ay];exact List.mem_map_of_mem (f:=fun y:IV=>y.cells.map IV.cW) (List.mem_of_getElem? nS))
    simpa using this
   refine⟨xB.symm,jU _ _ _ (fun j z hz=> ?_)⟩;obtain⟨u,q1,q2⟩:=k5 (i+k) j (y.cells.map IV.cW) z.cW (by simp[ay,nS]) (by simp[hz]);refine⟨u,?_,uv hk (vD y (List.mem_of_getElem? nS) z (List.mem_of_getElem? hz)) q2⟩;rw[cell_of_row w g _ cur e0 (0,0) k1,←q1]
   congr 1
   rw[Nat.add_mul]
theorem gA {P:Program} {G:Nat→Option (List IV)} {c0:Code} {x:AC} (h:en P G c0=some x) :
  match x with
  | .skip=>c0= .skip
  | .seq x y=>∃a b,c0= .seq a b∧en P G a=some x∧en P G b=some y
  | .cond o x y=>∃c a b,c0= .cond c a b∧co G c=some o∧en P G a=some x∧en P G b=some y
  | .block id x=>∃a,c0= .block id a∧en P G a=some x
  | .loop x=>∃a,c0= .loop a∧en P G a=some x
  | .exit id=>c0= .exit id
  | .ret=>c0= .ret
  | .aM is=>∃id ops,c0= .region id ops false∧my P G ops ops.toList=some is
  | .eY is es fs=>∃id ops,c0= .region id ops true∧P.follows .mixedOrders=true∧es=gz ops∧my P G ops ops.toList=some is
  | .gh _ _=>False:=by
 cases c0 with
 |skip=>simp only[en,Option.some.injEq] at h;subst h;rfl
 |seq a b=>
  simp only[en] at h;obtain⟨x1,h1,h⟩:=bT h;obtain⟨y1,h2,rfl⟩:=cd h;exact⟨a,b,rfl,h1,h2⟩
 |cond c a b=>
  simp only[en] at h;obtain⟨c1,h0,h⟩:=bT h;obtain⟨x1,h1,h⟩:=bT h;obtain⟨y1,h2,rfl⟩:=cd h;exact⟨c,a,b,rfl,h0,h1,h2⟩
 |block id a=>
  simp only[en] at h;obtain⟨y1,h2,rfl⟩:=cd h;exact⟨a,rfl,h2⟩
 |loop a=>
  simp only[en] at h;obtain⟨y1,h2,rfl⟩:=cd h;exact⟨a,rfl,h2⟩
 |exit id=>simp only[en,Option.some.injEq] at h;subst h;rfl
 |ret=>simp only[en,Option.some.injEq] at h;subst h;rfl
 |region id ops draw=>
  cases draw with
  |true=>
   simp only[en] at h;split at h
   ·rename_i hm;obtain⟨is,h2,rfl⟩:=cd h;exact⟨id,ops,rfl,hm,rfl,h2⟩
   ·simp at h
  |false=>
   simp only[en] at h;obtain⟨is,h2,rfl⟩:=cd h;exact⟨id,ops,rfl,h2⟩
 |rangeFunc _ _ _ _=>simp[en] at h
 |scope _=>simp[en] at h
 |label _=>simp[en] at h
 |goto _=>simp[en] at h
 |refuse _=>simp[en] at h
theorem go_sound (hS : ∀ l,live K.H0 l → l.entry = true) (Q : ka) : ∀ (n : Nat) (k : List It) (ck : List Ku),pR k ≤ n → dP (Iq K.P K.G) ck k →
   ∀env H,go ⟨K.P,K.G,K.N⟩ Q k env H→PX K Q ck env H:=by
 intro n
 induction n with
 |zero=>
   intro k ck hn hc env H hg β a w hr
   cases hc with
   |nil=>
     rw[go] at hg
     exact⟨env,H,β,hg,hr⟩
   |@cons x i ck k h1 h2=>
     cases i with
     |code c=>have:=c.BT;simp only[pR,It.sz] at hn;omega
     |tf id=>simp only[pR,It.sz] at hn;omega
 |succ n ih=>
   intro k ck hn hc env H hg β a w hr
   cases hc with
   |nil=>
     rw[go] at hg
     exact⟨env,H,β,hg,hr⟩
   |@cons x i ck k h1 h2=>
     cases h1 with
     |tf id=>
       rw[go] at hg
       simp only[PH,Exit.inBlock]
       exact ih k ck (by simp only[pR,It.sz] at hn;omega) h2 env H hg β a w hr
     |@code c0 c j_=>
       simp only[PH,Exit.then]
       have BU:=c.BT
       cases c with
       |skip=>
         rw[go] at hg
         simp only[AC.bare] at j_
         have e:=gA j_
         simp only at e
         subst e
         exact wp_skip (ih k ck (by simp only[pR,It.sz,AC.sz] at hn;omega) h2 env H hg β a w hr)
       |seq x y=>
         rw[go] at hg
         obtain⟨x0,y0,rfl,e1,e2⟩:=gA j_
         refine wp_seq ?_
         have:=ih (.code x:: .code y::k) (.code x0:: .code y0::ck) (by simp only[pR,It.sz,AC.sz] at hn ⊢;omega) (.cons (.code e1) (.cons (.code e2) h2)) env H hg β a w hr
         simpa only[PH,Exit.then] using this
       |cond x y z=>
         rw[go] at hg
         obtain⟨o0,y0,z0,rfl,e0,e1,e2⟩:=gA j_
         obtain⟨t,ht,g1,g2⟩:=hg
         have hv:=hr.ev e0
         rw[ht] at hv
         simp only[RV] at hv
         refine wp_cond_split hv ?_ ?_<;>intro h
         · have:=ih (.code y::k) (.code y0::ck) (by simp only[pR,It.sz,AC.sz] at hn ⊢;omega) (.cons (.code e1) h2) env H (g1 h) β a w hr
           simpa only[PH,Exit.then] using this
         · have:=ih (.code z::k) (.code z0::ck) (by simp only[pR,It.sz,AC.sz] at hn ⊢;omega) (.cons (.code e2) h2) env H (g2 h) β a w hr
           simpa only[PH,Exit.then] using this
       |block id c=>
         rw[go] at hg
         obtain⟨c1,rfl,e1⟩:=gA j_
         refine wp_block ?_
         have:=ih (.code c:: .tf id::k) (.code c1:: .tf id::ck) (by simp only[pR,It.sz,AC.sz] at hn ⊢;omega) (.cons (.code e1) (.cons (.tf id) h2)) env H hg β a w hr
         simpa only[PH,Exit.then] using this
       |loop c=>
         rw[go] at hg
         obtain⟨c1,rfl,e1⟩:=gA j_
         have:=hg K rfl hS c1 ck e1 h2 β a w hr
         simpa only[PH,Exit.then] using this
       |exit id=>
         simp only[AC.bare] at j_
         have e:=gA j_
         simp only at e
         subst e
         have hp:=lk (P:=K.P) (G:=K.G) (lift K Q) (id:=id) ck k h2
         refine wp_exit ?_
         cases nV:fe id k with
         |some k'=>
           rw[ot nV] at hg
           rw[nV] at hp
           obtain⟨Bp,e1,e2⟩:=hp
           have:=oo nV
           exact e2 a w (ih k' Bp (by simp only[pR,It.sz,AC.sz] at hn;omega) e1 env H hg β a w hr)
         |none=>
           rw[ou nV] at hg
           rw[nV] at hp
           exact hp a w ⟨env,H,β,hg,hr⟩
       |ret=>
         simp only[AC.bare] at j_
         have e:=gA j_
         simp only at e
         subst e
         rw[go] at hg
         exact wp_ret (re _ _ _ _ _ ⟨env,H,β,hg,hr⟩)
       |aM is=>
         obtain⟨id,ops,rfl,e1⟩:=gA j_
         rw[go] at hg
         refine wp_region_list ?_
         refine vH (fun env' H' β' a' w' q1 q2=> ?_) ops.toList is env H a w β (mz _ _ e1) hg hr
         exact ih k ck (by simp only[pR,It.sz,AC.sz] at hn;omega) h2 env' H' q1 β' a' w' q2
       |eY is es fs=>
         obtain⟨id,ops,rfl,hm,rfl,e1⟩:=gA j_
         rw[go] at hg
         refine vM hr hm (mz _ _ e1) hg.1 (fun env' H' β' a' w' q1 q2=> ?_) hg.2
         exact ih k ck (by simp only[pR,It.sz,AC.sz] at hn;omega) h2 env' H' q1 β' a' w' q2
       |gh g c=>
         have Ir:en K.P K.G c0=some c.bare:=j_
         have gI:∀env' H',go ⟨K.P,K.G,K.N⟩ Q (.code c::k) env' H'→∀β',bj K β' env' H' a w→c0.wp K.P (PH K.P (lift K Q) ck) a w:=by
           intro env' H' h β' mq
           have:=ih (.code c::k) (.code c0::ck) (by simp only[pR,It.sz,AC.sz] at hn ⊢;omega) (.cons (.code Ir) h2) env' H' h β' a w mq
           simpa only[PH,Exit.then] using this
         cases g with
         |eM ns=>rw[go] at hg;exact gI _ _ hg β (hr.rb ns)
         |cut m=>rw[go] at hg;exact gI _ _ hg β hr
         |qn=>
           rw[go] at hg
           obtain⟨env2,H2,g1,g2⟩:=hg
           obtain⟨β',mq⟩:=g1 K β a w rfl hS hr
           exact gI _ _ g2 β' mq
         |Ip=>
           rw[go] at hg
           obtain⟨T,E,HH,g1,g2⟩:=hg
           obtain⟨t,β',mq⟩:=g1 K β a w rfl hS hr
           exact gI _ _ (g2 t) β' mq
         |own d sz=>
           rw[go] at hg
           obtain⟨g1,g2,g3,g4⟩:=hg
           have h3:=hr.mr (.loc d) g3 (r:=⟨sz,[]⟩) (Below.refl _ _) none (by simp) (by simp) ⟨g2,by simp,by simp⟩
           have hv:=h3.jj d
           rw[g1] at hv
           simp only[RV] at hv
           obtain⟨ad,hv⟩:=hv
           exact gI _ _ g4 _ (qy h3 d (by rw[hv];simp only[RV];exact⟨ad,0,rfl,Nat.le_refl _,by simp[maxLen],by simp,fun _=> .inl rfl⟩) (by simp[AV.aI]))
         |Ez l d=>
           rw[go] at hg
           obtain⟨sz,xs,i,n,g1,g2,g3,g4,g5,g6⟩:=hg
           have hv:=hr.jj d
           rw[g1] at hv
           exact gI _ _ g6 _ (qy (hr.kill l (by rw[g2];simp)) d (xI hr g2 g3 g4 g5 hv) (by simp[AV.aI]))
         |As l q j=>
           rw[go] at hg
           obtain⟨sz,xs,i,n,cs,g1,g2,g3,g4,g5,g6,g7,g8⟩:=hg
           have hk:=hr.kill l (by rw[g3];simp)
           have hq:bG H l .dead q= .live ⟨cs.length,[cs]⟩:=by rw[aq _ _ (Ne.symm g5)];exact g1
           have k8:0<cs.length:=(hr.rows q _ g1).1
           cases hb:β q with
           |none=>
             have:=(hr.rows q _ g1).2.2
             simp[hb] at this
           |some g=>
             obtain⟨cur,e0,cap,k1,k2,k3,k4,k5⟩:=(hr.rows q _ g1).block hb
             obtain⟨cur',Sq,QZ,PY,Sr,Ss,Su,Q0⟩:=(hk.rows q _ hq).block hb
             rw[k1] at PY
             cases PY
             have yR:j<cs.length:=(List.getElem?_eq_some_iff.1 g2).1
             have ld := hk.setRow q (r' := ⟨cs.length,[cs.set j (.list ((xs.drop i).take n))]⟩) (cur' := cur) (cap := cap) hq hb k1 rfl rfl k2 k3 (by simpa using k4) (by simp)
               (by
                 intro ds vy p hp
                 simp at vy;subst vy
                 have:p∈ax cs:=by
                   obtain⟨y,hy,D0⟩:∃y∈cs.set j (.list ((xs.drop i).take n)),p∈y.aI:=by
                     generalize cs.set j (.list ((xs.drop i).take n))=ds at hp
                     induction ds with
                     |nil=>simp[ax] at hp
                     |cons y r Q1=>
                       simp only[ax,List.mem_append] at hp
                       rcases hp with hp|hp
                       · exact⟨y,by simp,hp⟩
                       · obtain⟨z,hz,Q2⟩:=Q1 hp
                         exact⟨z,by simp[hz],Q2⟩
                   rcases List.mem_or_eq_of_mem_set hy with hy|rfl
                   · obtain⟨m,hm⟩:=List.getElem?_of_mem hy
                     exact dI _ _ _ hm p D0
                   · simp[AV.aI] at D0
                 have:=hk.dA q _ hq cs (by simp) p this
                 exact this)
               (by
                 intro i' j' ds x0 eJ jB
                 cases i' with
                 |succ i'=>simp at eJ
                 |zero=>
                   simp at eJ;subst eJ
                   by_cases e:j'=j
                   · subst e
                     rw[List.getElem?_set_self yR] at jB
                     cases jB
                     obtain⟨v,q1,q2⟩:=k5 0 j' cs _ (by simp) g2
                     exact⟨v,q1,xI hr g3 g4 g6 g7 q2⟩
                   · rw[List.getElem?_set_ne (Ne.symm e)] at jB
                     exact Q0 0 j' cs x0 (by simp) jB)
             have dM:w.setRow g cur=w:=setRow_self w g cur e0 (0,0) k1
             rw[dM] at ld
             exact gI _ _ g8 _ ld
end
end Go.Am

/- THE ABSTRACT MACHINE, part 16: functions. -/
namespace Go.Am
open Go Go.RowKit
abbrev RO:=Option (Option Nat)×Nat
def y7 (P:Program):ResultVar→Option RO
 | .tmp t=>some (none,t)
 | .cell a t=>(z5 P t).map fun m=>(some m,a)
def pg (P:Program):List ResultVar→Option (List RO)
 |[]=>some []
 |r::s=>(y7 P r).bind fun x=>(pg P s).map fun y=>x::y
def pj (r:RO) (env:Env) (H:Hp):Option AV:=
 match r.1 with
 |none=>some (env r.2)
 |some m=>bq m (env r.2) H
def jo (env:Env) (H:Hp):List RO→Option (List AV)
 |[]=>some []
 |r::s=>(pj r env H).bind fun x=>(jo env H s).map fun y=>x::y
def gQ:List AV→AV
 |[x]=>x
 |xs=> .dU xs
def iP (rs:List RO) (R:AV→Hp→Prop):ka:=fun e env H=>(e= .normal∨e= .ret)∧∃xs,jo env H rs=some xs∧R (gQ xs) H
def b7 (args:List AV):Env:=fun n=>args.getD n .un
def aA (P:Program) (G:Nat→Option (List IV)) (f:Nat):Option (Nat×List RO×AC):=
 (P.funcs[f]?).bind fun fn=>fn.body.bind fun c=>(pg P fn.results.toList).bind fun rs=>(en P G c).map fun x=>(fn.ntmps,rs,x)
section
variable {K:Kx} {β:Lb→Option Nat} {env:Env} {H:Hp} {a:Act} {w:World}
theorem xJ (hr:bj K β env H a w) {rv:ResultVar} {r:RO} (hc:y7 K.P rv=some r) {x:AV} (hx:pj r env H=some x) :
  ∃v,(match rv with
   | .tmp t=>(pure (a.tmps.getD t undef):Sem Value)
   | .cell b t=>do loadVar t (←asAddr (a.tmps.getD b undef))).run K.P w= .ok v w∧RV w β H (Im K β H) x v∧∀l∈x.aI,H l≠ .unused:=by
 cases rv with
 |tmp t=>
  simp only[y7,Option.some.injEq] at hc;subst hc;simp only[pj,Option.some.injEq] at hx;subst hx;exact⟨_,by simp,hr.jj t,hr.gO t⟩
 |cell b t=>
  simp only[y7] at hc;obtain⟨m,h1,rfl⟩:=cd hc;simp only[pj] at hx;obtain⟨v,q1,q3,q4⟩:=yT (o:={(default:Oper) with op:= .load t (.tmp b)}) (x':= .t b) hr rfl h1 rfl hx;have hv:=hr.jj b;cases he:env b with
  |ptr l sz i j=>
   rw[he] at hv;simp only[RV] at hv;obtain⟨ad,e1,e2⟩:=hv;simp only[execOp,Act.eval,e1,Instr.loadAt,Instr.sureAddr,Sem.run_bind,Sem.run_pure,Result.andThen_ok] at q1;refine⟨v,?_,q3,q4⟩;simp only[e1,asAddr,Sem.run_bind,Sem.run_pure,Result.andThen_ok];cases hl:(loadVar t ad).run K.P w with
   |ok u w2=>
    rw[hl] at q1;simp only[Result.andThen_ok,Result.ok.injEq] at q1;obtain⟨q1,rfl⟩:=q1;cases q1;rfl
   |_=>rw[hl] at q1;simp at q1
  |_=>rw[he] at hx;simp[bq] at hx
theorem pS (hr:bj K β env H a w):∀(Nn:List ResultVar) (rs:List RO) (xs:List AV),pg K.P Nn=some rs→jo env H rs=some xs →
  ∃vs,(Nn.mapM (m:=Sem) fun
   | .tmp t=>(pure (a.tmps.getD t undef):Sem Value)
   | .cell b t=>do loadVar t (←asAddr (a.tmps.getD b undef))).run K.P w= .ok vs w∧b8 w β H (Im K β H) xs vs∧∀l∈ax xs,H l≠ .unused
 |[],rs,xs,hc,hx=>by
  simp only[pg,Option.some.injEq] at hc;subst hc;simp only[jo,Option.some.injEq] at hx;subst hx;exact⟨[],by simp,by simp[b8],by simp[ax]⟩
 |rv::Nn,rs,xs,hc,hx=>by
  simp only[pg] at hc;obtain⟨r,h1,hc⟩:=bT hc;obtain⟨Kv,h2,rfl⟩:=cd hc;simp only[jo] at hx;obtain⟨x,h3,hx⟩:=bT hx;obtain⟨Lu,h4,rfl⟩:=cd hx;obtain⟨v,e1,e2,e3⟩:=xJ hr h1 h3;obtain⟨vs,k1,k2,k3⟩:=pS hr Nn Kv Lu h2 h4;refine⟨v::vs,?_,⟨v,vs,rfl,e2,k2⟩,?_⟩
  ·rw[List.mapM_cons];simp only[Sem.run_bind,e1,Result.andThen_ok,k1,Sem.run_pure]
  ·intro l hl;simp only[ax,List.mem_append] at hl;rcases hl with hl|hl
   ·exact e3 l hl
   ·exact k3 l hl
theorem sM (hr:bj K β env H a w) {fn:Func} {rs:List RO} {xs:List AV} (hc:pg K.P fn.results.toList=some rs) (hx:jo env H rs=some xs) :
  ∃v,(results fn a.tmps).run K.P w= .ok v w∧RV w β H (Im K β H) (gQ xs) v∧∀l∈(gQ xs).aI,H l≠ .unused:=by
 obtain⟨vs,h1,h2,h3⟩:=pS hr _ _ _ hc hx;have hlen:=b8.len _ _ h2
 have lG:(results fn a.tmps).run K.P w= .ok (if h:vs.toArray.size=1 then vs.toArray[0] else .tuple vs.toArray) w:=by
  unfold results;rw[Array.mapM_eq_mapM_toList];simp only[Sem.run_bind,Sem.run_pure,map_eq_pure_bind];exact(congrArg (fun r:Result (List Value)=>(r.andThen fun a w'=>Result.ok a.toArray w').andThen fun a w'=>Result.ok (if h:a.size=1 then a[0] else Value.tuple a) w') h1).trans rfl
 refine⟨_,lG,?_⟩
 match xs,h2,h3,hlen with
 |[],h2,h3,hlen=>
  simp only[b8] at h2;subst h2;simp[gQ,RV,b8,AV.aI,ax]
 |[x],h2,h3,hlen=>
  simp only[b8] at h2;obtain⟨v,us,rfl,e1,rfl⟩:=h2;simp only[gQ];exact⟨by simpa using e1,fun l hl=>h3 l (by simp[ax,hl])⟩
 |x::y::r,h2,h3,hlen=>
  have:vs.toArray.size≠1:=by simp;simp at hlen;omega
  rw[dif_neg this];simp only[gQ,RV,AV.aI];exact⟨⟨vs,rfl,h2⟩,h3⟩
theorem BV (args:List AV) (n:Nat) (l:Lb) (h:l∈(b7 args n).aI):l∈ax args:=by
 unfold b7 at h;rw[List.getD_eq_getElem?_getD] at h;cases hx:args[n]? with
 |none=>rw[hx] at h;simp[AV.aI] at h
 |some x=>rw[hx] at h;exact dI _ _ _ hx l (by simpa using h)
theorem hQ {P:Program} {G:Nat→Option (List IV)} {f:Nat} {n:Nat} {rs:List RO} {ac:AC} {args:List AV} {R:AV→Hp→Prop}
   (hF:aA P G f=some (n,rs,ac.bare)) (hn:args.length≤n) (Oc:∀l,live H l→l.entry=true) (hm:∀l∈ax args,H l≠ .unused)
   (hg:go ⟨P,G,n⟩ (iP rs R) [.code ac] (b7 args) H):eB P G f args H R:=by
 unfold aA at hF
 obtain⟨fn,hf,hF⟩:=bT hF
 obtain⟨c,hb,hF⟩:=bT hF
 obtain⟨Kv,nQ,hF⟩:=bT hF
 obtain⟨x,Kw,hF⟩:=cd hF
 simp only[Prod.mk.injEq] at hF
 obtain⟨rfl,rfl,rfl⟩:=hF
 intro w A β vs hr hv
 have hlen:=b8.len _ _ hv
 refine calls_of_wp hf hb ?_
 have k8:vs.toArray.size=args.length:=by simpa using hlen
 let K:Kx:=⟨P,G,w,A,GR β H,fn.ntmps,H,β⟩
 have nO:bj K β (b7 args) H {tmps:=vs.toArray++Array.replicate (fn.ntmps - vs.toArray.size) undef,defers:=[]} w:=
   { defers := rfl
     size:=by simp only[Array.size_append,Array.size_replicate,k8,K];omega
     jj := fun m => by
       have cM:(vs.toArray++Array.replicate (fn.ntmps - vs.toArray.size) undef).getD m undef=(vs[m]?).getD undef:=by
         rw[Array.getD_eq_getD_getElem?]
         by_cases Q3:m<vs.length
         · rw[Array.getElem?_append_left (by simpa using Q3)];simp
         · rw[Array.getElem?_append_right (by simp;omega),Array.getElem?_replicate]
           rw[List.getElem?_eq_none (by omega)]
           split<;>simp
       simp only
       rw[cM]
       unfold b7
       rw[List.getD_eq_getElem?_getD]
       cases hx:args[m]? with
       |none=>
         have:vs[m]?=none:=by
           rw[List.getElem?_eq_none_iff] at hx ⊢;omega
         rw[this];simp[RV,undef]
       |some y=>
         obtain⟨u,h1,h2⟩:=b8.get _ _ _ _ hv hx
         rw[h1];exact h2
     rows:=hr.rows
     own:=hr.own
     inj:=hr.inj
     gO:=fun m l hl=>hm l (BV args m l hl)
     dA:=hr.dA
     frame:=hr.frame
     jI:=hr.jI
     jJ:=hr.jJ
     fr:=hr.fr}
 have gf:dP (Iq P G) [.code c] [.code ac]:= .cons (.code Kw) .nil
 have:=go_sound (K:=K) Oc (iP Kv R) (pR [.code ac]) [.code ac] [.code c] (Nat.le_refl _) gf (b7 args) H hg β _ w nO
 simp only[PH,Exit.then] at this
 refine wp_mono this ?_
 intro e a' w' hq
 have key:∀a' w',(lift K (iP Kv R) .normal a' w'∨lift K (iP Kv R) .ret a' w')→a'.defers=[]∧∃v,(results fn a'.tmps).run P w'= .ok v w' ∧
     ∃v' x H' β',Ending.returned v= .returned v'∧R x H'∧bj (gi P G w A β H) β' Env.any H' qY w' ∧
     RV w' β' H' (Im (gi P G w A β H) β' H') x v'∧∀l∈x.aI,H' l≠ .unused:=by
   intro a' w' h
   have:∃e env' H' β',iP Kv R e env' H'∧bj K β' env' H' a' w':=by
     rcases h with⟨env',H',β',h⟩|⟨env',H',β',h⟩<;>exact⟨_,env',H',β',h⟩
   obtain⟨e,env',H',β',⟨_,xs,h1,h2⟩,h3⟩:=this
   obtain⟨v,k1,k2,k3⟩:=sM h3 nQ h1
   refine⟨h3.defers,v,k1,v,_,H',β',rfl,h2,?_,k2,k3⟩
   exact
     { defers := rfl
       size:=rfl
       jj:=fun m=>by simp[Env.any,RV]
       rows:=h3.rows
       own:=h3.own
       inj:=h3.inj
       gO:=fun m=>by simp[Env.any,AV.aI]
       dA:=h3.dA
       frame:=h3.frame
       jI:=h3.jI
       jJ:=h3.jJ
       fr:=h3.fr}
 cases e with
 |normal=>exact key a' w' (.inl hq)
 |ret=>exact key a' w' (.inr hq)
 |panic ch=>obtain⟨_,_,_,⟨h,_⟩,_⟩:=hq;simp at h
 |exit id=>obtain⟨_,_,_,⟨h,_⟩,_⟩:=hq;simp at h
 |goto l=>obtain⟨_,_,_,⟨h,_⟩,_⟩:=hq;simp at h
 |outgrown=>obtain⟨_,_,_,⟨h,_⟩,_⟩:=hq;simp at h
theorem bm {P:Program} {G:Nat→Option (List IV)} {f:Nat} {n:Nat} {rs:List RO} {ac:AC} {args:List AV} {res:AV}
  (hF:aA P G f=some (n,rs,ac.bare)) (hn:args.length≤n) (hl:ax args=[]) (At:res.aI=[])
  (hg:go ⟨P,G,n⟩ (iP rs fun x _=>x=res) [.code ac] (b7 args) Hp.none):az P G f args res:=
 ⟨hl,At,hQ hF hn (fun l ⟨r,h⟩=>by simp[Hp.none] at h) (by simp[hl]) hg⟩
end
end Go.Am

/- THE ABSTRACT MACHINE, part 21: loops. -/
namespace Go.Am
open Go Go.RowKit
structure Wk (ρ:Lb→Lb) (env:Env) (H:Hp) (env2:Env) (H2:Hp):Prop where
 e:∀n,env2 n= .any∨env n=cG ρ (env2 n)
 h:∀l r,H2 l= .live r→H (ρ l)= .live (dB ρ r)
 inj:∀l l',live H2 l→live H2 l'→ρ l=ρ l'→l=l'
 m:∀n,∀l∈(env2 n).aI,H2 l≠ .unused
 rm:∀l r,H2 l= .live r→∀cs∈r.els,∀q∈ax cs,H2 q≠ .unused
 st:∀l,l.entry=true→(H l≠ .unused→H2 l≠ .unused)∧(live H2 l→ρ l=l)
 fr:∀l,live H2 l→l.fresh=true→(ρ l).fresh=true
def vN {σ:Type} (S:St) (Q:ka) (k:List It) (E:σ→Env) (HH:σ→Hp) (μ:σ→Nat) (n:Nat):ka:=fun e env H=>
 match e with
 | .normal=>∃s,μ s<n∧∃ρ,Wk ρ env H (E s) (HH s)
 | .exit id=>match fe id k with
  |some k'=>go S Q k' env H
  |none=>Q (.exit id) env H
 | .ret=>Q .ret env H
 |_=>False
theorem Wk.rel {K:Kx} {β:Lb→Option Nat} {env:Env} {H:Hp} {a:Act} {w:World} {ρ:Lb→Lb} {env2:Env} {H2:Hp} (hS:∀l,live K.H0 l→l.entry=true) (h:Wk ρ env H env2 H2) (hr:bj K β env H a w) :
  bj K (fun l=>β (ρ l)) env2 H2 a w:=
 hr.qn ρ h.e h.h h.inj h.m h.rm (fun l hl=>⟨(h.st l (hS l hl)).1 (hr.jJ l hl).1,(h.st l (hS l hl)).2⟩) h.fr
theorem iQ {σ:Type} {S:St} {Q:ka} {c:AC} {k:List It} {env:Env} {H:Hp} (E:σ→Env) (HH:σ→Hp) (μ:σ→Nat) (s0:σ) (ρ:Lb→Lb) (h0:Wk ρ env H (E s0) (HH s0))
  (round:∀s,go S (vN S Q k E HH μ (μ s)) [.code c] (E s) (HH s)):oq S Q c k env H:=by
 intro K Lv hS c0 ck hc gf β a w hr;subst Lv;simp only[PH,Exit.then];refine wp_loop_ghost (fun n a w=>∃s β,μ s=n∧bj K β (E s) (HH s) a w) (μ s0) ⟨s0,_,rfl,h0.rel hS hr⟩ ?_;rintro n a w ⟨s,β,rfl,hr⟩;have hs:=go_sound (K:=K) hS _ (pR [.code c]) [.code c] [.code c0] (Nat.le_refl _) (.cons (.code hc) .nil) (E s) (HH s) (round s) β a w hr;simp only[PH,Exit.then] at hs;refine wp_mono hs ?_
 rintro e a' w' ⟨env',H',β',hq,mq⟩;cases e with
 |normal=>
  obtain⟨s',cj,ρ',hw⟩:=hq;exact⟨μ s',cj,s',_,rfl,hw.rel hS mq⟩
 |exit id=>
  have hp:=lk (P:=K.P) (G:=K.G) (lift K Q) (id:=id) ck k gf;simp only[vN] at hq;show PH K.P (lift K Q) ck (.exit id) a' w';cases nV:fe id k with
  |some k'=>
   rw[nV] at hp hq;obtain⟨Bp,e1,e2⟩:=hp;exact e2 a' w' (go_sound (K:=K) hS Q (pR k') k' Bp (Nat.le_refl _) e1 env' H' hq β' a' w' mq)
  |none=>
   rw[nV] at hp hq;exact hp a' w' ⟨env',H',β',hq,mq⟩
 |ret=>exact re _ _ _ _ _ ⟨env',H',β',hq,mq⟩
 |goto l=>exact hq.elim
 |panic ch=>exact hq.elim
 |outgrown=>exact hq.elim
end Go.Am

/- THE ABSTRACT MACHINE, part 22: how code is evaluated: equations. -/
namespace Go.Am
open Go Go.RowKit
inductive Tk {α:Type 1} (a:α):Type
 |mk
inductive Tp (a c:Prop):Type
 |mk
inductive Tv {α:Type} (a:α→Prop):Type
 |mk
inductive Tw (a:AV→Hp→Prop):Type
 |mk
def dC (o:Option AV) (k:AV→Prop) (_:Tv k):Prop:=∃x,o=some x∧k x
def gB (x:AV) (t:Bool) (A B:Prop) (_:Tp A B):Prop:=
 match x with
 | .bool b=>if b=t then A else B
 | .un=>B
 |_=>False
def cK (x:AV) (A B:Prop) (_:Tp A B):Prop:=
 match x with
 | .bool b=>if b=true then A else B
 |_=>False
def hK (o:Option Hp) (k:Hp→Prop) (_:Tv k):Prop:=∃x,o=some x∧k x
def pK (o:Option (AV×Hp)) (k:AV→Hp→Prop) (_:Tw k):Prop:=∃x h,o=some (x,h)∧k x h
def Bq (S:St) (f:Nat) (args:List AV) (H:Hp) (k:AV→Hp→Prop) (_:Tw k):Prop:=l7 S f args H k
def Od (S:St) (f:Nat) (args:List AV) (k:AV→Prop) (_:Tv k):Prop:=∃x,az S.P S.G f args x∧k x
section
variable {S:St} {Q:ka} {env:Env} {H:Hp} {k:List It}
theorem BW (x:AV) (k:AV→Prop) (u:Tv k):dC (some x) k u=k x:=by simp[dC]
theorem EA (x:Hp) (k:Hp→Prop) (u:Tv k):hK (some x) k u=k x:=by simp[hK]
theorem EB (x:AV) (h:Hp) (k:AV→Hp→Prop) (u:Tw k):pK (some (x,h)) k u=k x h:=by
 simp only[pK,Option.some.injEq,Prod.mk.injEq];apply propext;constructor
 ·rintro⟨_,_,⟨rfl,rfl⟩,h⟩;exact h
 ·intro h;exact⟨_,_,⟨rfl,rfl⟩,h⟩
theorem Lw (A B:Prop) (u:Tp A B):gB (.bool true) true A B u=A:=by simp[gB]
theorem Lx (A B:Prop) (u:Tp A B):gB (.bool false) true A B u=B:=by simp[gB]
theorem Ly (A B:Prop) (u:Tp A B):gB (.bool true) false A B u=B:=by simp[gB]
theorem Lz (A B:Prop) (u:Tp A B):gB (.bool false) false A B u=A:=by simp[gB]
theorem Oe (t:Bool) (A B:Prop) (u:Tp A B):gB .un t A B u=B:=by simp[gB]
theorem Of (A B:Prop) (u:Tp A B):cK (.bool true) A B u=A:=by simp[cK]
theorem Og (A B:Prop) (u:Tp A B):cK (.bool false) A B u=B:=by simp[cK]
theorem Is (k:Env→Hp→Prop):AO S [] env H k=k env H:=rfl
theorem EC (n:Nat) (i:cV) (r:List dn) (k:Env→Hp→Prop) :
  AO S (⟨some n,none,i⟩::r) env H k=(n<S.N∧bX S (some n) i env H fun x H'=>AO S r (put env n x) H' k):=by
 simp[AO,gW,d_]
theorem ED (i:cV) (r:List dn) (k:Env→Hp→Prop) :
  AO S (⟨none,none,i⟩::r) env H k=bX S none i env H fun x H'=>AO S r env H' k:=by
 simp[AO,gW,d_]
theorem BX (n s:Nat) (t:Bool) (i:cV) (r:List dn) (k:Env→Hp→Prop) :
  AO S (⟨some n,some (s,t),i⟩::r) env H k=(n<S.N∧gB (env s) t (bX S (some n) i env H fun x H'=>AO S r (put env n x) H' k) (AO S r (put env n .un) H k) .mk):=by
 simp only[AO,gW,d_];cases he:env s<;>simp[gB,he];rename_i b;cases b<;>cases t<;>simp
theorem Au (s:Nat) (t:Bool) (i:cV) (r:List dn) (k:Env→Hp→Prop) :
  AO S (⟨none,some (s,t),i⟩::r) env H k=gB (env s) t (bX S none i env H fun x H'=>AO S r env H' k) (AO S r env H k) .mk:=by
 simp only[AO,gW,d_];cases he:env s<;>simp[gB,he];rename_i b;cases b<;>cases t<;>simp
theorem BY (j n:Nat) (i:cV) (f:Fp) (r:List (Nat×dn×Fp)) (k:Env→Hp→Prop) :
  mi S ((j,⟨some n,none,i⟩,f)::r) env H k=(n<S.N∧aZ S f (some n) i env H fun x H'=>mi S r (put env n x) H' k):=by
 simp[mi,vo,gW,d_]
theorem BZ (j:Nat) (i:cV) (f:Fp) (r:List (Nat×dn×Fp)) (k:Env→Hp→Prop) :
  mi S ((j,⟨none,none,i⟩,f)::r) env H k=aZ S f none i env H fun x H'=>mi S r env H' k:=by
 simp[mi,vo,gW,d_]
theorem Av (j n s:Nat) (t:Bool) (i:cV) (f:Fp) (r:List (Nat×dn×Fp)) (k:Env→Hp→Prop) :
  mi S ((j,⟨some n,some (s,t),i⟩,f)::r) env H k=(n<S.N∧gB (env s) t (aZ S f (some n) i env H fun x H'=>mi S r (put env n x) H' k) (mi S r (put env n .un) H k) .mk):=by
 simp only[mi,vo,gW,d_];cases he:env s<;>simp[gB,he];rename_i b;cases b<;>cases t<;>simp
theorem Iu:go S Q [] env H=Q .normal env H:=by rw[go]
theorem Iv (id:Nat):go S Q (.tf id::k) env H=go S Q k env H:=by rw[go]
theorem EE:go S Q (.code .skip::k) env H=go S Q k env H:=by rw[go]
theorem Iw (a b:AC):go S Q (.code (.seq a b)::k) env H=go S Q (.code a:: .code b::k) env H:=by rw[go]
theorem EF (x:O) (a b:AC):go S Q (.code (.cond x a b)::k) env H=cK (ev env x) (go S Q (.code a::k) env H) (go S Q (.code b::k) env H) .mk:=by
 rw[go];unfold cK;apply propext;constructor
 ·rintro⟨t,h1,h2,h3⟩;rw[h1];cases t
  ·simpa using h3 rfl
  ·simpa using h2 rfl
 ·intro h;split at h
  ·rename_i t e;refine⟨t,e,fun e2=> ?_,fun e2=> ?_⟩<;>subst e2<;>simpa using h
  ·exact h.elim
theorem B0 (id:Nat) (c:AC):go S Q (.code (.block id c)::k) env H=go S Q (.code c:: .tf id::k) env H:=by rw[go]
theorem EG (c:AC):go S Q (.code (.loop c)::k) env H=oq S Q c k env H:=by rw[go]
theorem Ix:go S Q (.code .ret::k) env H=Q .ret env H:=by rw[go]
theorem Iy (is:List dn):go S Q (.code (.aM is)::k) env H=AO S is env H (go S Q k):=by rw[go]
theorem EH (ns:List Nat) (c:AC):go S Q (.code (.gh (.eM ns) c)::k) env H=go S Q (.code c::k) (rb ns env) H:=by rw[go]
theorem Iz (l:Lb) (d:Nat) (c:AC):go S Q (.code (.gh (.Ez l d) c)::k) env H=∃sz xs i n,env d= .sl l sz i n∧H l= .live ⟨sz,ay xs⟩∧l.fresh=true∧i+n≤xs.length∧Flat xs ∧
 go S Q (.code c::k) (put env d (.list ((xs.drop i).take n))) (bG H l .dead):=by rw[go]
theorem IA (d sz:Nat) (c:AC):go S Q (.code (.gh (.own d sz) c)::k) env H=(env d= .nil0∧0<sz∧H (.loc d)= .unused∧go S Q (.code c::k) (put env d (.sl (.loc d) sz 0 0)) (bG H (.loc d) (.live ⟨sz,[]⟩))):=by rw[go]
theorem mV (c:AC):go S Q (.code (.gh .qn c)::k) env H=∃env2 H2,iz S env H env2 H2∧go S Q (.code c::k) env2 H2:=by rw[go]
theorem uE (c:AC):go S Q (.code (.gh .Ip c)::k) env H=∃(T:Type) (E:T→Env) (HH:T→Hp),Choice S env H T E HH∧∀t,go S Q (.code c::k) (E t) (HH t):=by rw[go]
theorem EI (id:Nat):go S Q (.code (.exit id)::k) env H=match fe id k with
  |some k'=>go S Q k' env H
  |none=>Q (.exit id) env H:=by
 cases h:fe id k with
 |some k'=>rw[ot h]
 |none=>rw[ou h]
theorem nW (n:Nat) (i:dn) (is:List dn) (f:Fp) (fs:List Fp):items n (i::is) (f::fs)=(n,i,f)::items (n+1) is fs:=rfl
theorem IB d x (k:AV→Hp→Prop):bX S d (.ak x) env H k=dC (ae (.ak x) env) (fun x=>k x H) .mk:=rfl
theorem EJ d c a b (k:AV→Hp→Prop):bX S d (.pick c a b) env H k=dC (ae (.pick c a b) env) (fun x=>k x H) .mk:=rfl
theorem IC d a off (k:AV→Hp→Prop):bX S d (.bV a off) env H k=dC (ae (.bV a off) env) (fun x=>k x H) .mk:=rfl
theorem ID d x i n sz (k:AV→Hp→Prop):bX S d (.Ec x i n sz) env H k=dC (ae (.Ec x i n sz) env) (fun x=>k x H) .mk:=rfl
theorem IE d x i sz (k:AV→Hp→Prop):bX S d (.fJ x i sz) env H k=dC (ae (.fJ x i sz) env) (fun x=>k x H) .mk:=rfl
theorem IF d x i (k:AV→Hp→Prop):bX S d (.yM x i) env H k=dC (ae (.yM x i) env) (fun x=>k x H) .mk:=rfl
theorem IG d x (k:AV→Hp→Prop):bX S d (.len x) env H k=dC (ae (.len x) env) (fun x=>k x H) .mk:=rfl
theorem EK d x (k:AV→Hp→Prop):bX S d (.lens x) env H k=dC (ae (.lens x) env) (fun x=>k x H) .mk:=rfl
theorem IH d x lo hi mx sz (k:AV→Hp→Prop):bX S d (.kX x lo hi mx sz) env H k=dC (ae (.kX x lo hi mx sz) env) (fun x=>k x H) .mk:=rfl
theorem EL d x lo hi (k:AV→Hp→Prop):bX S d (.ud x lo hi) env H k=dC (ae (.ud x lo hi) env) (fun x=>k x H) .mk:=rfl
theorem II d op x y (k:AV→Hp→Prop):bX S d (.bin op x y) env H k=dC (ae (.bin op x y) env) (fun x=>k x H) .mk:=rfl
theorem IJ d n x y (k:AV→Hp→Prop):bX S d (.Bu n x y) env H k=dC (ae (.Bu n x y) env) (fun x=>k x H) .mk:=rfl
theorem IK d n x y (k:AV→Hp→Prop):bX S d (.D' n x y) env H k=dC (ae (.D' n x y) env) (fun x=>k x H) .mk:=rfl
theorem IL d n x y (k:AV→Hp→Prop):bX S d (.D_ n x y) env H k=dC (ae (.D_ n x y) env) (fun x=>k x H) .mk:=rfl
theorem EM d n ks x y (k:AV→Hp→Prop):bX S d (.qJ n ks x y) env H k=dC (ae (.qJ n ks x y) env) (fun x=>k x H) .mk:=rfl
theorem IM d x (k:AV→Hp→Prop):bX S d (.not x) env H k=dC (ae (.not x) env) (fun x=>k x H) .mk:=rfl
theorem IN d x (k:AV→Hp→Prop):bX S d (.neg x) env H k=dC (ae (.neg x) env) (fun x=>k x H) .mk:=rfl
theorem IP d x y (k:AV→Hp→Prop):bX S d (.max x y) env H k=dC (ae (.max x y) env) (fun x=>k x H) .mk:=rfl
theorem IQ d x y (k:AV→Hp→Prop):bX S d (.min x y) env H k=dC (ae (.min x y) env) (fun x=>k x H) .mk:=rfl
theorem IS d x i (k:AV→Hp→Prop):bX S d (.ext x i) env H k=dC (ae (.ext x i) env) (fun x=>k x H) .mk:=rfl
theorem IT d z ps (k:AV→Hp→Prop):bX S d (.o7 z ps) env H k=dC (ae (.o7 z ps) env) (fun x=>k x H) .mk:=rfl
theorem EN d x off m (k:AV→Hp→Prop):bX S d (.ue x off m) env H k=dC (ae (.ue x off m) env) (fun x=>k x H) .mk:=rfl
theorem EO d n sz z ps (k:AV→Hp→Prop):bX S d (.lits n sz z ps) env H k=dC (ae (.lits n sz z ps) env) (fun x=>k x H) .mk:=rfl
theorem EP d x (k:AV→Hp→Prop):bX S d (.sF x) env H k=dC (ae (.sF x) env) (fun x=>k x H) .mk:=rfl
theorem ER d x (k:AV→Hp→Prop):bX S d (.ef x) env H k=dC (ae (.ef x) env) (fun x=>k x H) .mk:=rfl
theorem IU d f cap (k:AV→Hp→Prop):bX S d (.DW f cap) env H k=dC (ae (.DW f cap) env) (fun x=>k x H) .mk:=rfl
theorem IW d kd x (k:AV→Hp→Prop):bX S d (.Bv kd x) env H k=dC (ae (.Bv kd x) env) (fun x=>k x H) .mk:=rfl
theorem IX d x (k:AV→Hp→Prop):bX S d (.np x) env H k=dC (ae (.np x) env) (fun x=>k x H) .mk:=rfl
theorem IY d x (k:AV→Hp→Prop):bX S d (.Ea x) env H k=dC (ae (.Ea x) env) (fun x=>k x H) .mk:=rfl
theorem IZ d x (k:AV→Hp→Prop):bX S d (.Eb x) env H k=dC (ae (.Eb x) env) (fun x=>k x H) .mk:=rfl
theorem ES d t x (k:AV→Hp→Prop):bX S d (.uf t x) env H k=dC (ae (.uf t x) env) (fun x=>k x H) .mk:=rfl
theorem ET (d:Option Nat) (m:Option Nat) (a:O) (k:AV→Hp→Prop):bX S d (.load m a) env H k=(dC (ae (.load m a) env) (fun x=>k x H) .mk∨dC (bq m (ev env a) H) (fun x=>k x H) .mk):=rfl
def e_ (m:Option Nat) (x:AV) (H:Hp):Option AV:=
 match x with
 | .lptr cs=>match m with
  |none=>cs[0]?.map IV.cW
  |some k=>if k≤cs.length then some (.agg ((cs.take k).map IV.cW)) else none
 |x=>bq m x H
theorem LA (d:Option Nat) (m:Option Nat) (a:O) (k:AV→Hp→Prop):bX S d (.load m a) env H k=dC (e_ m (ev env a) H) (fun x=>k x H) .mk:=by
 rw[ET];unfold e_;split
 ·rename_i cs e;simp only[ae,e,bq,dC];apply propext;constructor
  ·rintro(h|⟨x,h,_⟩)
   ·exact h
   ·simp at h
  ·exact .inl
 ·rename_i x dm
  have:ae (.load m a) env=none:=by
   simp only[ae]
  rw[this];simp[dC]
theorem I0 (n:Nat) (cs:List AV) (k:AV→Hp→Prop):bX S (some n) (.new cs) env H k=(H (.loc n)= .unused∧0<cs.length∧cs.length≤maxLen ∧
  k (.ptr (.loc n) cs.length 0 0) (bG H (.loc n) (.live ⟨cs.length,[cs]⟩))):=by
 simp[bX]
def cF (x:AV) (n:Nat) (H:Hp) (k:AV→Hp→Prop):Prop:=H (.loc n)= .unused∧x.ew=true∧0<x.cells.length∧x.cells.length≤maxLen ∧
 k (.ptr (.loc n) x.cells.length 0 0) (bG H (.loc n) (.live ⟨x.cells.length,[x.cells]⟩))
theorem I1 (n:Nat) (x:O) (k:AV→Hp→Prop):bX S (some n) (.box x) env H k=cF (ev env x) n H k:=by
 simp[bX,cF]
theorem B1 (m:Nat) (a x:O) (k:AV→Hp→Prop):bX S none (.store m a x) env H k=hK (a_ m (ev env a) (ev env x) H) (fun H'=>k .un H') .mk:=by
 simp[bX,hK]
theorem I2 (n:Nat) (s x:O) (sz b:Nat) (k:AV→Hp→Prop):bX S (some n) (.app s x sz b) env H k=pK (j8 sz b n (ev env s) (ev env x) H) k .mk:=by
 simp only[bX,pK,Option.some.injEq];apply propext;constructor
 ·rintro⟨_,rfl,h⟩;exact h
 ·intro h;exact⟨_,rfl,h⟩
theorem EU (d:Option Nat) (f:Nat) (args:List O) (k:AV→Hp→Prop):bX S d (.call f args) env H k=Bq S f (args.map (ev env)) H k .mk:=rfl
theorem aO {f:Nat} {args:List AV} {res:AV} {k:AV→Hp→Prop} (h:az S.P S.G f args res) (hk:k res H) {u:Tw k}:Bq S f args H k u:= .inl ⟨res,h,hk⟩
theorem xK {f:Nat} {args cO:List AV} {res:AV} {k:AV→Hp→Prop} (h:az S.P S.G f cO res) (ha:dP (uw H) args cO) (hs:res.scalar=true) (hk:k res H) {u:Tw k}:Bq S f args H k u:= .inr (.inl ⟨cO,res,ha,h,hs,hk⟩)
theorem kb {f:Nat} {args:List AV} {res:AV} {k:AV→Prop} (h:az S.P S.G f args res) (hk:k res) {u:Tv k}:Od S f args k u:=⟨res,h,hk⟩
theorem EV d x (k:AV→Hp→Prop):aZ S .no d (.ak x) env H k=dC (ae (.ak x) env) (fun x=>k x H) .mk:=by simp only[aZ,cA,dC,or_false]
theorem B2 d c a b (k:AV→Hp→Prop):aZ S .no d (.pick c a b) env H k=dC (ae (.pick c a b) env) (fun x=>k x H) .mk:=by simp only[aZ,cA,dC,or_false]
theorem EW d a off (k:AV→Hp→Prop):aZ S .no d (.bV a off) env H k=dC (ae (.bV a off) env) (fun x=>k x H) .mk:=by simp only[aZ,cA,dC,or_false]
theorem EX d x i sz (k:AV→Hp→Prop):aZ S .no d (.fJ x i sz) env H k=dC (ae (.fJ x i sz) env) (fun x=>k x H) .mk:=by simp only[aZ,cA,dC,or_false]
theorem EY d x i n sz (k:AV→Hp→Prop):aZ S .no d (.Ec x i n sz) env H k=dC (ae (.Ec x i n sz) env) (fun x=>k x H) .mk:=by simp only[aZ,cA,dC,or_false]
theorem EZ d x i (k:AV→Hp→Prop):aZ S .no d (.yM x i) env H k=dC (ae (.yM x i) env) (fun x=>k x H) .mk:=by simp only[aZ,cA,dC,or_false]
theorem E0 d x (k:AV→Hp→Prop):aZ S .no d (.len x) env H k=dC (ae (.len x) env) (fun x=>k x H) .mk:=by simp only[aZ,cA,dC,or_false]
theorem B3 d x (k:AV→Hp→Prop):aZ S .no d (.lens x) env H k=dC (ae (.lens x) env) (fun x=>k x H) .mk:=by simp only[aZ,cA,dC,or_false]
theorem E1 d x lo hi mx sz (k:AV→Hp→Prop):aZ S .no d (.kX x lo hi mx sz) env H k=dC (ae (.kX x lo hi mx sz) env) (fun x=>k x H) .mk:=by simp only[aZ,cA,dC,or_false]
theorem B4 d x lo hi (k:AV→Hp→Prop):aZ S .no d (.ud x lo hi) env H k=dC (ae (.ud x lo hi) env) (fun x=>k x H) .mk:=by simp only[aZ,cA,dC,or_false]
theorem E2 d op x y (k:AV→Hp→Prop):aZ S .no d (.bin op x y) env H k=dC (ae (.bin op x y) env) (fun x=>k x H) .mk:=by simp only[aZ,cA,dC,or_false]
theorem E3 d n x y (k:AV→Hp→Prop):aZ S .no d (.Bu n x y) env H k=dC (ae (.Bu n x y) env) (fun x=>k x H) .mk:=by simp only[aZ,cA,dC,or_false]
theorem E4 d n x y (k:AV→Hp→Prop):aZ S .no d (.D' n x y) env H k=dC (ae (.D' n x y) env) (fun x=>k x H) .mk:=by simp only[aZ,cA,dC,or_false]
theorem E5 d n x y (k:AV→Hp→Prop):aZ S .no d (.D_ n x y) env H k=dC (ae (.D_ n x y) env) (fun x=>k x H) .mk:=by simp only[aZ,cA,dC,or_false]
theorem B5 d n ks x y (k:AV→Hp→Prop):aZ S .no d (.qJ n ks x y) env H k=dC (ae (.qJ n ks x y) env) (fun x=>k x H) .mk:=by simp only[aZ,cA,dC,or_false]
theorem E6 d x (k:AV→Hp→Prop):aZ S .no d (.not x) env H k=dC (ae (.not x) env) (fun x=>k x H) .mk:=by simp only[aZ,cA,dC,or_false]
theorem E7 d x (k:AV→Hp→Prop):aZ S .no d (.neg x) env H k=dC (ae (.neg x) env) (fun x=>k x H) .mk:=by simp only[aZ,cA,dC,or_false]
theorem E8 d x y (k:AV→Hp→Prop):aZ S .no d (.max x y) env H k=dC (ae (.max x y) env) (fun x=>k x H) .mk:=by simp only[aZ,cA,dC,or_false]
theorem E9 d x y (k:AV→Hp→Prop):aZ S .no d (.min x y) env H k=dC (ae (.min x y) env) (fun x=>k x H) .mk:=by simp only[aZ,cA,dC,or_false]
theorem E' d x i (k:AV→Hp→Prop):aZ S .no d (.ext x i) env H k=dC (ae (.ext x i) env) (fun x=>k x H) .mk:=by simp only[aZ,cA,dC,or_false]
theorem E_ d z ps (k:AV→Hp→Prop):aZ S .no d (.o7 z ps) env H k=dC (ae (.o7 z ps) env) (fun x=>k x H) .mk:=by simp only[aZ,cA,dC,or_false]
theorem B6 d x off m (k:AV→Hp→Prop):aZ S .no d (.ue x off m) env H k=dC (ae (.ue x off m) env) (fun x=>k x H) .mk:=by simp only[aZ,cA,dC,or_false]
theorem B7 d n sz z ps (k:AV→Hp→Prop):aZ S .no d (.lits n sz z ps) env H k=dC (ae (.lits n sz z ps) env) (fun x=>k x H) .mk:=by simp only[aZ,cA,dC,or_false]
theorem B8 d x (k:AV→Hp→Prop):aZ S .no d (.sF x) env H k=dC (ae (.sF x) env) (fun x=>k x H) .mk:=by simp only[aZ,cA,dC,or_false]
theorem B9 d x (k:AV→Hp→Prop):aZ S .no d (.ef x) env H k=dC (ae (.ef x) env) (fun x=>k x H) .mk:=by simp only[aZ,cA,dC,or_false]
theorem Fa d f cap (k:AV→Hp→Prop):aZ S .no d (.DW f cap) env H k=dC (ae (.DW f cap) env) (fun x=>k x H) .mk:=by simp only[aZ,cA,dC,or_false]
theorem Fb d kd x (k:AV→Hp→Prop):aZ S .no d (.Bv kd x) env H k=dC (ae (.Bv kd x) env) (fun x=>k x H) .mk:=by simp only[aZ,cA,dC,or_false]
theorem Fc d x (k:AV→Hp→Prop):aZ S .no d (.np x) env H k=dC (ae (.np x) env) (fun x=>k x H) .mk:=by simp only[aZ,cA,dC,or_false]
theorem Fe d x (k:AV→Hp→Prop):aZ S .no d (.Ea x) env H k=dC (ae (.Ea x) env) (fun x=>k x H) .mk:=by simp only[aZ,cA,dC,or_false]
theorem Ff d x (k:AV→Hp→Prop):aZ S .no d (.Eb x) env H k=dC (ae (.Eb x) env) (fun x=>k x H) .mk:=by simp only[aZ,cA,dC,or_false]
theorem B_ d t x (k:AV→Hp→Prop):aZ S .no d (.uf t x) env H k=dC (ae (.uf t x) env) (fun x=>k x H) .mk:=by simp only[aZ,cA,dC,or_false]
theorem Ca d m a (k:AV→Hp→Prop):aZ S .no d (.load m a) env H k=dC (ae (.load m a) env) (fun x=>k x H) .mk:=by simp only[aZ,cA,dC,or_false]
theorem Fg (d:Option Nat) (f:Nat) (args:List O) (k:AV→Hp→Prop):aZ S .no d (.call f args) env H k=Od S f (args.map (ev env)) (fun x=>k x H) .mk:=by
 simp[aZ,cA,ae,Od]
theorem nX (env:Env) (n m:Nat) (x:AV):put env n x m=if m=n then x else env m:=rfl
end
def aE:=And.intro @ID<|And.intro @IB (And.intro @EJ (And.intro @IC (And.intro @IE (And.intro @IF (And.intro @IG (And.intro @EK (And.intro @IH (And.intro @EL (And.intro @II (And.intro @IJ (And.intro @IK (And.intro @IL (And.intro @EM (And.intro @IM (And.intro @IN (And.intro @IP (And.intro @IQ (And.intro @IS (And.intro @IT (And.intro @EN (And.intro @EO (And.intro @EP (And.intro @ER (And.intro @IU (And.intro @IW (And.intro @IX (And.intro @IY (And.intro @IZ (@ES)))))))))))))))))))))))))))))
def aF:=And.intro @EY<|And.intro @EV (And.intro @B2 (And.intro @EW (And.intro @EX (And.intro @EZ (And.intro @E0 (And.intro @B3 (And.intro @E1 (And.intro @B4 (And.intro @E2 (And.intro @E3 (And.intro @E4 (And.intro @E5 (And.intro @B5 (And.intro @E6 (And.intro @E7 (And.intro @E8 (And.intro @E9 (And.intro @E' (And.intro @E_ (And.intro @B6 (And.intro @B7 (And.intro @B8 (And.intro @B9 (And.intro @Fa (And.intro @Fb (And.intro @Fc (And.intro @Fe (And.intro @Ff (And.intro @B_ (@Ca))))))))))))))))))))))))))))))
end Go.Am

/- THE ABSTRACT MACHINE, part 23: states seen as others. -/
namespace Go.Am
open Go Go.RowKit
theorem gk (ρ:Lb→Lb) (env:Env):∀n,Env.any n= .any∨env n=cG ρ (Env.any n):=fun _=> .inl rfl
theorem bJ {ρ:Lb→Lb} {env e:Env} {d:Nat} {x:AV} (h1:env d=cG ρ x) (h2:∀n,e n= .any∨env n=cG ρ (e n)):∀n,put e d x n= .any∨env n=cG ρ (put e d x n):=by
 intro n;unfold put;split
 ·next h=>subst h;exact .inr h1
 ·exact h2 n
theorem gl (H:Hp):∀n,∀l∈(Env.any n).aI,H l≠ .unused:=by simp[Env.any,AV.aI]
theorem bK {H:Hp} {e:Env} {d:Nat} {x:AV} (h1:∀l∈x.aI,H l≠ .unused) (h2:∀n,∀l∈(e n).aI,H l≠ .unused):∀n,∀l∈(put e d x n).aI,H l≠ .unused:=by
 intro n;unfold put;split
 ·exact h1
 ·exact h2 n
mutual
theorem uF:∀x:AV,cG id x=x
 | .sl ..| .slk ..| .ptr ..| .any| .un| .bool _| .int ..| .str _| .list _| .nil0| .kL| .jG| .lptr _=>by simp[cG]
 | .agg cs=>by simp[cG,mW cs]
 | .dU cs=>by simp[cG,mW cs]
 | .fn f fs cs=>by simp[cG,mW fs,mW cs]
 | .ifc t x=>by simp[cG,uF x]
theorem mW:∀xs:List AV,cn id xs=xs
 |[]=>by simp[cn]
 |x::r=>by simp[cn,uF x,mW r]
end
theorem uG (r:Row):dB id r=r:=by
 obtain⟨sz,els⟩:=r;simp only[dB,Row.mk.injEq,true_and];rw[show cn id=id from funext mW];simp
theorem Wk.same {env:Env} {H:Hp} {env2:Env} (e:∀n,env2 n= .any∨env n=cG id (env2 n)) (m:∀n,∀l∈(env2 n).aI,H l≠ .unused)
  (rm:∀l r,H l= .live r→∀cs∈r.els,∀q∈ax cs,H q≠ .unused):Wk id env H env2 H:=
 ⟨e,fun l r h=>by rw[uG];exact h,fun _ _ _ _ h=>h,m,rm,fun l _=>⟨id,fun _=>rfl⟩,fun _ _ h=>h⟩
theorem Wk.none {env env2:Env} (e:∀n,env2 n= .any∨env n=cG id (env2 n)) (m:∀n,∀l∈(env2 n).aI,Hp.none l≠ .unused):Wk id env Hp.none env2 Hp.none:=
 .same e m (by simp[Hp.none])
theorem wrap64 {n:Int} (h1: -9223372036854775808≤n) (h2:n≤9223372036854775807):IntKind.i64.wrap n=n:=by rw[IntKind.wrap_i64];omega
section
variable {σ:Type} {S:St} {Q:ka} {k:List It} {E:σ→Env} {HH:σ→Hp} {μ:σ→Nat} {n:Nat} {env:Env} {H:Hp}
theorem Oh:vN S Q k E HH μ n .normal env H=∃s,μ s<n∧∃ρ,Wk ρ env H (E s) (HH s):=rfl
theorem Oi (id:Nat):vN S Q k E HH μ n (.exit id) env H=match fe id k with
 |some k'=>go S Q k' env H
 |none=>Q (.exit id) env H:=rfl
theorem Oj:vN S Q k E HH μ n .ret env H=Q .ret env H:=rfl
theorem Fh (id:Nat):fe id []=none:=rfl
theorem Fi (id i:Nat) (r:List It):fe id (.tf i::r)=if i=id then some r else fe id r:=rfl
theorem Cb (id:Nat) (c:AC) (r:List It):fe id (.code c::r)=fe id r:=rfl
theorem Cc (is:List dn) (es:List (List Nat)) (fs:List Fp):go S Q (.code (.eY is es fs)::k) env H=(y5 is es fs=true∧mi S (items 0 is fs) env H (go S Q k)):=by rw[go]
theorem Fj (l q:Lb) (j:Nat) (c:AC):go S Q (.code (.gh (.As l q j) c)::k) env H=∃sz xs i n cs,H q= .live ⟨cs.length,[cs]⟩∧cs[j]?=some (.sl l sz i n)∧H l= .live ⟨sz,ay xs⟩∧l.fresh=true∧l≠q∧i+n≤xs.length∧Flat xs ∧
 go S Q (.code c::k) env (bG (bG H l .dead) q (.live ⟨cs.length,[cs.set j (.list ((xs.drop i).take n))]⟩)):=by rw[go]
theorem y8 (rs:List RO) (R:AV→Hp→Prop):iP rs R .ret env H=∃xs,jo env H rs=some xs∧R (gQ xs) H:=by simp[iP]
theorem gJ (rs:List RO) (R:AV→Hp→Prop):iP rs R .normal env H=∃xs,jo env H rs=some xs∧R (gQ xs) H:=by simp[iP]
theorem iR (t:Nat) (R:AV→Hp→Prop):iP [(none,t)] R .ret env H=R (env t) H:=by simp[iP,jo,pj,gQ]
theorem Fk (m:Option Nat) (t:Nat) (R:AV→Hp→Prop):iP [(some m,t)] R .ret env H=dC (bq m (env t) H) (fun x=>R x H) .mk:=by
 simp only[iP,jo,pj,dC];cases bq m (env t) H<;>simp[gQ]
theorem Fl (m:Option Nat) (t:Nat) (R:AV→Hp→Prop):iP [(some m,t)] R .normal env H=dC (bq m (env t) H) (fun x=>R x H) .mk:=by
 simp only[iP,jo,pj,dC];cases bq m (env t) H<;>simp[gQ]
theorem I3 (t:Nat) (R:AV→Hp→Prop):iP [(none,t)] R .normal env H=R (env t) H:=by simp[iP,jo,pj,gQ]
end
section
variable {S:St} {env:Env} {H:Hp}
theorem Fm (j:Nat) (f:List Fp) (k:Env→Hp→Prop):mi S (items j [] f) env H k=k env H:=rfl
theorem Cd (j n:Nat) (i:cV) (f:Fp) (r:List dn) (fs:List Fp) (k:Env→Hp→Prop) :
 mi S (items j (⟨some n,none,i⟩::r) (f::fs)) env H k=(n<S.N∧aZ S f (some n) i env H fun x H'=>mi S (items (j+1) r fs) (put env n x) H' k):=by rw[nW,BY]
theorem Ce (j:Nat) (i:cV) (f:Fp) (r:List dn) (fs:List Fp) (k:Env→Hp→Prop) :
 mi S (items j (⟨none,none,i⟩::r) (f::fs)) env H k=aZ S f none i env H fun x H'=>mi S (items (j+1) r fs) env H' k:=by rw[nW,BZ]
theorem Aw (j n s:Nat) (t:Bool) (i:cV) (f:Fp) (r:List dn) (fs:List Fp) (k:Env→Hp→Prop) :
 mi S (items j (⟨some n,some (s,t),i⟩::r) (f::fs)) env H k=(n<S.N∧gB (env s) t (aZ S f (some n) i env H fun x H'=>mi S (items (j+1) r fs) (put env n x) H' k) (mi S (items (j+1) r fs) (put env n .un) H k) .mk):=by rw[nW,Av]
end
def fk:=And.intro @Iu (And.intro @Iv (And.intro @EE (And.intro @Iw (And.intro @B0 (And.intro @EG (And.intro @Ix (And.intro @Iy (And.intro @EH (And.intro @IA (And.intro @Iz (And.intro @Fj (And.intro @Cc (And.intro @EF (And.intro @EI (And.intro @Is (And.intro @EC (And.intro @ED (And.intro @BX (And.intro @Au (And.intro @Fm (And.intro @Cd (And.intro @Ce (And.intro @Aw (And.intro @LA (And.intro @I0 (And.intro @I1 (And.intro @B1 (And.intro @I2 (And.intro @EU (And.intro @Fg (And.intro @iR (And.intro @I3 (And.intro @Fk (And.intro @Fl (And.intro @Oh (And.intro @Oi (@Oj)))))))))))))))))))))))))))))))))))))
def fl:=And.intro @BW (And.intro @EA (And.intro @EB (And.intro @Lw (And.intro @Lx (And.intro @Ly (And.intro @Lz (And.intro @Oe (And.intro @Of (And.intro @Og (And.intro @nX (And.intro @Fh (And.intro @Fi (@Cb)))))))))))))
end Go.Am

/- THE ABSTRACT MACHINE, part 24: lists that grow. -/
namespace Go.Am
open Go Go.RowKit
theorem Flat.one {xs:List IV} (h:Flat xs):∀cs∈ay xs,AV.la cs:=by
 intro cs b5 y hy;simp only[ay,List.mem_map] at b5;obtain⟨z,hz,rfl⟩:=b5;obtain⟨c,hc,rfl⟩:=List.mem_map.1 hy;have:=h z hz c hc;cases c<;>simp[IV.cW,AV.one];exact absurd rfl (this _)
theorem ig {sz:Nat} {xs:List IV} {H:Hp} (h:iw sz xs):jL sz (.list xs) H=some (ay xs):=by
 simp[jL,h,ay]
theorem Fo {sz b d:Nat} {xs:List IV} {H:Hp} (he:iw sz xs) (hf:Flat xs) (hb:xs.length*b≤140737488355328) (h0:0<b) (hu:H (.loc d)= .unused) :
  j8 sz b d .nil0 (.list xs) H=some (.sl (.loc d) sz 0 xs.length,bG H (.loc d) (.live ⟨sz,ay xs⟩)):=by
 unfold j8;rw[ig he,Option.bind_some,if_neg (by simpa using hf.one)];have:(ay xs).length=xs.length:=by simp[ay]
 simp only;rw[if_pos ⟨by rw[this];exact hb,h0,hu⟩,this]
theorem Cf {sz b d n:Nat} {l:Lb} {els:List (List AV)} {xs:List IV} {H:Hp} (hl:H l= .live ⟨sz,els⟩) (hn:n≤els.length) (he:iw sz xs) (hf:Flat xs) (hb:(n+xs.length)*b≤140737488355328) (h0:0<b)
  (hd:l≠l.app d) (hu:H (l.app d)= .unused) :
  j8 sz b d (.sl l sz 0 n) (.list xs) H=some (.sl (l.app d) sz 0 (n+xs.length),bG (bG H l .dead) (l.app d) (.live ⟨sz,els.take n++ay xs⟩)):=by
 unfold j8;rw[ig he,Option.bind_some,if_neg (by simpa using hf.one)];have:(ay xs).length=xs.length:=by simp[ay]
 simp only[hl];rw[if_pos ⟨rfl,rfl,rfl,hn,by rw[this];exact hb,h0,hd,hu⟩,this]
theorem Fq (ρ:Lb→Lb) (x:IV):cG ρ x.cW=x.cW:=by cases x<;>simp[IV.cW,cG]
theorem ll (ρ:Lb→Lb):∀xs:List IV,cn ρ (xs.map IV.cW)=xs.map IV.cW
 |[]=>by simp[cn]
 |x::r=>by simp[cn,Fq,ll ρ r]
theorem vO (ρ:Lb→Lb) (sz:Nat) (xs:List IV):dB ρ ⟨sz,ay xs⟩=⟨sz,ay xs⟩:=by
 simp[dB,ay,ll]
theorem Fs (x:IV):x.cW.aI=[]:=by cases x<;>simp[IV.cW,AV.aI]
theorem vP:∀xs:List IV,ax (xs.map IV.cW)=[]
 |[]=>rfl
 |x::r=>by simp[ax,Fs,vP r]
theorem dK {xs:List IV} {cs:List AV} (h:cs∈ay xs):ax cs=[]:=by
 simp only[ay,List.mem_map] at h;obtain⟨y,_,rfl⟩:=h;exact vP _
theorem Wk.one {env env2:Env} {H:Hp} {l0 l1:Lb} {sz:Nat} {xs:List IV} (he:∀n,env2 n= .any∨env n=cG (fun _=>l1) (env2 n)) (hm:∀n,∀l∈(env2 n).aI,bG Hp.none l0 (.live ⟨sz,ay xs⟩) l≠ .unused)
  (h1:H l1= .live ⟨sz,ay xs⟩) (LB:l0.fresh=true) (Kt:l1.fresh=true) (hn:∀l,l.fresh=false→H l= .unused):Wk (fun _=>l1) env H env2 (bG Hp.none l0 (.live ⟨sz,ay xs⟩)):=by
 have hl:∀l r,bG Hp.none l0 (.live ⟨sz,ay xs⟩) l= .live r→l=l0∧r=⟨sz,ay xs⟩:=by
  intro l r h;by_cases e:l=l0
  ·subst e;simp at h;exact⟨rfl,h.symm⟩
  ·rw[aq _ _ e] at h;simp[Hp.none] at h
 refine⟨he,fun l r h=> ?_,fun l l' ⟨r,h⟩ ⟨r',h'⟩ _=>(hl l r h).1.trans (hl l' r' h').1.symm,hm,fun l r h cs b5 q hq=> ?_,fun l hle=>⟨fun h=>absurd (hn l (Lb.jg hle)) h,fun⟨r,h⟩=> ?_⟩,fun _ _ _=>Kt⟩
 ·obtain⟨rfl,rfl⟩:=hl l r h;rw[vO];exact h1
 ·obtain⟨rfl,rfl⟩:=hl l r h;rw[dK b5] at hq;simp at hq
 ·obtain⟨rfl,_⟩:=hl l r h;have PZ:=Lb.jg hle;rw[LB] at PZ;simp at PZ
theorem lJ:∀l:Lb,l.fresh=false→Hp.none l= .unused:=fun _ _=>rfl
theorem iA {H:Hp} {n:Nat} {s:Slot} (h:∀l:Lb,l.fresh=false→H l= .unused):∀l:Lb,l.fresh=false→bG H (.loc n) s l= .unused:=by
 intro l hl;have:l≠ .loc n:=by rintro rfl;simp[Lb.fresh] at hl
 rw[aq _ _ this];exact h l hl
theorem ai (H:Hp) (l q:Lb) (s:Slot):bG H l s q=if q=l then s else H q:=rfl
section
variable {S:St} {env:Env} {H:Hp}
theorem aT (R W:List Lb) (d:Option Nat) (m:Option Nat) (a:O) (k:AV→Hp→Prop):aZ S (.rw R W) d (.load m a) env H k=dC (bq m (ev env a) H) (fun x=>(∀l∈bU (ev env a),l.iJ∈R∨l.iJ∈W)∧k x H) .mk:=by
 apply propext;simp only[aZ,ek,dz,a7,dC];constructor
 ·rintro⟨x,H',h1,h2,_,h3⟩;simp only[Option.map_eq_some_iff,Prod.mk.injEq] at h1;obtain⟨y,h1,rfl,rfl⟩:=h1;exact⟨y,h1,h2,h3⟩
 ·rintro⟨x,h1,h2,h3⟩;exact⟨x,H,by simp[h1],h2,by simp,h3⟩
theorem aG (R W:List Lb) (m:Nat) (a x:O) (k:AV→Hp→Prop):aZ S (.rw R W) none (.store m a x) env H k=hK (a_ m (ev env a) (ev env x) H) (fun H'=>(∀l∈bU (ev env a),l.iJ∈W)∧k .un H') .mk:=by
 apply propext;simp only[aZ,ek,dz,a7,hK,if_true];constructor
 ·rintro⟨x,H',h1,_,h2,h3⟩;simp only[Option.map_eq_some_iff,Prod.mk.injEq] at h1;obtain⟨y,h1,rfl,rfl⟩:=h1;exact⟨_,h1,h2,h3⟩
 ·rintro⟨x,h1,h2,h3⟩;exact⟨.un,x,by simp[h1],by simp,h2,h3⟩
theorem bn (R W:List Lb) (n:Nat) (cs:List AV) (k:AV→Hp→Prop):aZ S (.rw R W) (some n) (.new cs) env H k=(H (.loc n)= .unused∧0<cs.length∧cs.length≤maxLen∧(Lb.loc n)∈W ∧
  k (.ptr (.loc n) cs.length 0 0) (bG H (.loc n) (.live ⟨cs.length,[cs]⟩))):=by
 apply propext;simp only[aZ,ek,dz,a7,Option.bind_some];constructor
 ·rintro⟨x,H',h1,_,h2,h3⟩;split at h1
  ·rename_i hc;simp only[Option.some.injEq,Prod.mk.injEq] at h1;obtain⟨rfl,rfl⟩:=h1;exact⟨hc.1,hc.2.1,hc.2.2,h2 (.loc n) (by simp),h3⟩
  ·simp at h1
 ·rintro⟨h1,h2,h3,h4,h5⟩;exact⟨_,_,by rw[if_pos ⟨h1,h2,h3⟩],by simp,by simpa[Lb.iJ] using h4,h5⟩
theorem bo (R W:List Lb) (n:Nat) (x:O) (k:AV→Hp→Prop):aZ S (.rw R W) (some n) (.box x) env H k=(Lb.loc n∈W∧cF (ev env x) n H k):=by
 apply propext;simp only[aZ,ek,dz,a7,Option.bind_some,cF];constructor
 ·rintro⟨y,H',h1,_,h2,h3⟩;split at h1
  ·rename_i hc;simp only[Option.some.injEq,Prod.mk.injEq] at h1;obtain⟨rfl,rfl⟩:=h1;exact⟨h2 (.loc n) (by simp),hc.1,hc.2.1,hc.2.2.1,hc.2.2.2,h3⟩
  ·simp at h1
 ·rintro⟨h4,h1,h2,h3,h6,h5⟩;exact⟨_,_,by rw[if_pos ⟨h1,h2,h3,h6⟩],by simp,by simpa[Lb.iJ] using h4,h5⟩
def cw (n:Nat) (s:AV):List Lb:=
 match s with
 | .sl l _ _ _=>[l,l.app n]
 | .slk l _ _ _ _=>[l,.loc n]
 |_=>[.loc n]
theorem bp (R W:List Lb) (n:Nat) (s x:O) (sz b:Nat) (k:AV→Hp→Prop):aZ S (.rw R W) (some n) (.app s x sz b) env H k =
  pK (j8 sz b n (ev env s) (ev env x) H) (fun y H'=>(∀l∈bU (ev env x),l.iJ∈R∨l.iJ∈W)∧(∀l∈cw n (ev env s),l.iJ∈W)∧k y H') .mk:=by
 apply propext
 have:a7 (some n) (.app s x sz b) env=cw n (ev env s):=by
  simp only[a7,cw];cases ev env s<;>simp
 simp only[aZ,ek,this,dz,Option.bind_some,pK]
end
end Go.Am
