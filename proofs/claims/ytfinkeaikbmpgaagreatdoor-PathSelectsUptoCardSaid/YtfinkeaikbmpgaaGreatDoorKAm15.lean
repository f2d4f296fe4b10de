import Derived.Test.YtfinkeaikbmpgaaGreatDoorKAm17
import Derived.Deep.LoopGhost
import Derived.IntWalk
set_option linter.unusedSimpArgs false
set_option linter.unusedVariables false
set_option linter.unnecessarySimpa false
set_option linter.defProp false
/- THE ABSTRACT MACHINE, part 15: code, walked. -/
namespace Go.Am
open Go Go.RowKit
inductive E6 where
 |code (c:Code)
 |pF (id:Nat)
def PH (P:Program) (Qh:Exit→Act→World→Prop):List E6→Exit→Act→World→Prop
 |[]=>Qh
 | .code c::k=>Exit.then (c.wp P (PH P Qh k)) (PH P Qh k)
 | .pF id::k=>Exit.inBlock id (PH P Qh k)
def AC.bare:AC→AC
 | .seq a b=> .seq a.bare b.bare
 | .cond x a b=> .cond x a.bare b.bare
 | .block id c=> .block id c.bare
 | .loop c=> .loop c.bare
 | .au is=> .au (is.map cx.ie)
 | .fY is es _=> .fY (is.map cx.ie) es []
 | .gh _ c=>c.bare
 |c=>c
def j_ (P:Program) (G:Nat→Option (List IV)) (ops:Array Oper):List Oper→Option (List cx)
 |[]=>some []
 |o::r=>(kT P G ops o).bind fun i=>(j_ P G ops r).map fun s=>i::s
def dm (P:Program) (G:Nat→Option (List IV)):Code→Option AC
 | .skip=>some .skip
 | .seq a b=>(dm P G a).bind fun x=>(dm P G b).map fun y=> .seq x y
 | .cond c a b=>(co G c).bind fun c=>(dm P G a).bind fun x=>(dm P G b).map fun y=> .cond c x y
 | .block id c=>(dm P G c).map fun x=> .block id x
 | .loop c=>(dm P G c).map fun x=> .loop x
 | .exit id=>some (.exit id)
 | .ret=>some .ret
 | .region _ ops false=>(j_ P G ops ops.toList).map .au
 | .region _ ops true=>if P.follows .mixedOrders=true then(j_ P G ops ops.toList).map fun is=> .fY is (eV ops) [] else none
 |_=>none
inductive Df (P:Program) (G:Nat→Option (List IV)):E6→It→Prop
 |code {c:Code} {x:AC}:dm P G c=some x.bare→Df P G (.code c) (.code x)
 |pF (id:Nat):Df P G (.pF id) (.pF id)
def lift (K:Kx) (Q:iC) (e:Exit) (a:Act) (w:World):Prop:=∃env H β,Q e env H∧aM K β env H a w
def JE (K:Kx) (Q:iC) (ck:List E6) (env:Env) (H:Hp):Prop:=∀β a w,aM K β env H a w→PH K.P (lift K Q) ck .normal a w
def m_ (S:St) (Q:iC) (c:AC) (k:List It) (env:Env) (H:Hp):Prop:=
 ∀(K:Kx),(⟨K.P,K.G,K.N⟩:St)=S→(∀l,live K.H0 l→l.entry=true)→∀c0 ck,dm S.P S.G c0=some c.bare→i_ (Df S.P S.G) ck k→JE K Q (.code (.loop c0)::ck) env H
def gj (S:St) (env:Env) (H:Hp) (env2:Env) (H2:Hp):Prop:=
 ∀(K:Kx) (β:Lb→Option Nat) (a:Act) (w:World),(⟨K.P,K.G,K.N⟩:St)=S→(∀l,live K.H0 l→l.entry=true)→aM K β env H a w→∃β',aM K β' env2 H2 a w
def Choice (S:St) (env:Env) (H:Hp) (T:Type) (E:T→Env) (HH:T→Hp):Prop:=
 ∀(K:Kx) (β:Lb→Option Nat) (a:Act) (w:World),(⟨K.P,K.G,K.N⟩:St)=S→(∀l,live K.H0 l→l.entry=true)→aM K β env H a w→∃t β',aM K β' (E t) (HH t) a w
def Cut (n:Nat) (f:Env→Hp→Prop) (env:Env) (H:Hp):Prop:=f env H
def go (S:St) (Q:iC):List It→Env→Hp→Prop
 |[]=>fun env H=>Q .normal env H
 | .pF _::k=>go S Q k
 | .code .skip::k=>go S Q k
 | .code (.seq a b)::k=>go S Q (.code a:: .code b::k)
 | .code (.cond x a b)::k=>fun env H=>∃t,ev env x= .bool t∧(t=true→go S Q (.code a::k) env H)∧(t=false→go S Q (.code b::k) env H)
 | .code (.block id c)::k=>go S Q (.code c:: .pF id::k)
 | .code (.loop c)::k=>m_ S Q c k
 | .code (.exit id)::k=>match h:dS id k with
  |some k'=>go S Q k'
  |none=>fun env H=>Q (.exit id) env H
 | .code .ret::_=>fun env H=>Q .ret env H
 | .code (.au is)::k=>fun env H=>AO S is env H (go S Q k)
 | .code (.fY is es fs)::k=>fun env H=>va is es fs=true∧jV S (items 0 is fs) env H (go S Q k)
 | .code (.gh g c)::k=>match g with
  | .dc ns=>fun env H=>go S Q (.code c::k) (n_ ns env) H
  | .xQ l d=>fun env H=>∃sz xs i n,env d= .sl l sz i n∧H l= .live ⟨sz,aG xs⟩∧l.fresh=true∧i+n≤xs.length∧Flat xs ∧
   go S Q (.code c::k) (put env d (.list ((xs.drop i).take n))) (bL H l .dead)
  | .tF l q j=>fun env H=>∃sz xs i n cs,H q= .live ⟨cs.length,[cs]⟩∧cs[j]?=some (.sl l sz i n)∧H l= .live ⟨sz,aG xs⟩∧l.fresh=true∧l≠q∧i+n≤xs.length∧Flat xs ∧
   go S Q (.code c::k) env (bL (bL H l .dead) q (.live ⟨cs.length,[cs.set j (.list ((xs.drop i).take n))]⟩))
  | .own d sz=>fun env H=>env d= .nil0∧0<sz∧H (.loc d)= .unused∧go S Q (.code c::k) (put env d (.sl (.loc d) sz 0 0)) (bL H (.loc d) (.live ⟨sz,[]⟩))
  | .cut n=>Cut n (go S Q (.code c::k))
  | .nF=>fun env H=>∃env2 H2,gj S env H env2 H2∧go S Q (.code c::k) env2 H2
  | .JD=>fun env H=>∃(T:Type) (E:T→Env) (HH:T→Hp),Choice S env H T E HH∧∀t,go S Q (.code c::k) (E t) (HH t)
termination_by k=>mZ k
decreasing_by
 all_goals simp only[mZ,It.sz,AC.sz]
 all_goals first|omega|(have:=lO h;omega)
theorem lP {S:St} {Q:iC} {id:Nat} {k k':List It} (h:dS id k=some k'):go S Q (.code (.exit id)::k)=go S Q k':=by
 rw[go];split
 ·rename_i KA h2;rw[h] at h2;cases h2;rfl
 ·rename_i h2;rw[h] at h2;cases h2
theorem lQ {S:St} {Q:iC} {id:Nat} {k:List It} (h:dS id k=none):go S Q (.code (.exit id)::k)=Q (.exit id):=by
 rw[go];split
 ·rename_i KA h2;rw[h] at h2;cases h2
 ·rfl
section
variable {K:Kx} {β:Lb→Option Nat} {env:Env} {H:Hp} {a:Act} {w:World}
theorem oa (P:Program) (Qh:Exit→Act→World→Prop):∀(ck:List E6) (a:Act) (w:World),Qh .ret a w→PH P Qh ck .ret a w
 |[],a,w,h=>h
 | .code c::k,a,w,h=>by simp only[PH,Exit.then];exact oa P Qh k a w h
 | .pF id::k,a,w,h=>by simp only[PH,Exit.inBlock];exact oa P Qh k a w h
theorem jg {P:Program} {G:Nat→Option (List IV)} (Qh:Exit→Act→World→Prop) {id:Nat}:∀(ck:List E6) (k:List It),i_ (Df P G) ck k →
  match dS id k with
  |some k'=>∃xg,i_ (Df P G) xg k'∧∀a w,PH P Qh xg .normal a w→PH P Qh ck (.exit id) a w
  |none=>∀a w,Qh (.exit id) a w→PH P Qh ck (.exit id) a w
 |_,_,.nil=>by simp only[dS];exact fun a w h=>h
 |_,_,@i_.cons _ _ _ _ _ ck k h1 h2=>by
  cases h1 with
  |code hc=>
   have ih:=jg Qh (id:=id) ck k h2;simp only[dS];split<;>rename_i hp<;>rw[hp] at ih<;>simp only at ih
   ·obtain⟨xg,e1,e2⟩:=ih;exact⟨xg,e1,fun a w h=>by simp only[PH,Exit.then];exact e2 a w h⟩
   ·exact fun a w h=>by simp only[PH,Exit.then];exact ih a w h
  |pF i=>
   have ih:=jg Qh (id:=id) ck k h2;simp only[dS];by_cases e:i=id
   ·simp only[e,if_true];exact⟨ck,h2,fun a w h=>by simp only[PH,Exit.inBlock,if_true];exact h⟩
   ·simp only[e,if_false];split<;>rename_i hp<;>rw[hp] at ih<;>simp only at ih
    ·obtain⟨xg,e1,e2⟩:=ih;exact⟨xg,e1,fun a w h=>by simp only[PH,Exit.inBlock,Ne.symm e,if_false];exact e2 a w h⟩
    ·exact fun a w h=>by simp only[PH,Exit.inBlock,Ne.symm e,if_false];exact ih a w h
theorem ka {P:Program} {G:Nat→Option (List IV)} {ops:Array Oper}:∀(l:List Oper) (is:List cx),j_ P G ops l=some (is.map cx.ie)→i_ (fun o i=>kT P G ops o=some (cx.ie i)) l is
 |[],is,h=>by
  simp[j_] at h;have:is=[]:=by cases is<;>simp_all
  subst this;exact .nil
 |o::r,is,h=>by
  simp only[j_] at h;obtain⟨i,h1,h⟩:=bh h;obtain⟨s,h2,h3⟩:=bB h;cases is with
  |nil=>simp at h3
  |cons j is=>
   simp only[List.map_cons,List.cons.injEq] at h3;obtain⟨rfl,rfl⟩:=h3;exact .cons h1 (ka r is h2)
theorem aM.n_ (hr:aM K β env H a w) (ns:List Nat):aM K β (Am.n_ ns env) H a w:=
 ⟨hr.defers,hr.size,fun n=>by unfold Am.n_;split;exact hr.gg n;simp[RV],hr.rows,hr.own,hr.inj,fun n l hl=>by
  unfold Am.n_ at hl;split at hl
  ·exact hr.eB n l hl
  ·simp[AV.ar] at hl,hr.cB,hr.frame,hr.fI,hr.fX,hr.fr⟩
theorem vc (hr : aM K β env H a w) (d : Nat) {x : AV} (hx : RV w β H (Im K β H) x (a.tmps.getD d undef)) (hm : ∀ l ∈ x.ar, H l ≠ .unused) : aM K β (put env d x) H a w :=
  ⟨hr.defers, hr.size, fun n => by unfold put; split; · next h => subst h; exact hx
                                   · exact hr.gg n,hr.rows,hr.own,hr.inj,fun n l hl=>by
    unfold put at hl;split at hl
    · exact hm l hl
    · exact hr.eB n l hl,hr.cB,hr.frame,hr.fI,hr.fX,hr.fr⟩
theorem tG (hr:aM K β env H a w) {l:Lb} {sz:Nat} {xs:List IV} {i n:Nat} {v:Value} (hl:H l= .live ⟨sz,aG xs⟩) (hf:l.fresh=true) (te:i+n≤xs.length) (FY:Flat xs)
  (hv:RV w β H (Im K β H) (.sl l sz i n) v):RV w β (bL H l .dead) (Im K β (bL H l .dead)) (.list ((xs.drop i).take n)) v:=by
 have a8:∀q,live (bL H l .dead) q→live H q∧q≠l:=by
  rintro q ⟨r,h⟩;by_cases e:q=l
  ·subst e;simp at h
  ·rw[aA _ _ e] at h;exact⟨⟨r,h⟩,e⟩
 have hk:gE w w (Im K β H) (Im K β (bL H l .dead)):=⟨fun k hk hs=>⟨⟨hk.1,fun q hq=>hk.2 q (a8 q hq).1⟩,hs,rfl⟩⟩;simp only[RV] at hv;obtain⟨ad,c,rfl,h2,h3,h4,h5⟩:=hv;simp only[RV,eT];have hlen:((xs.drop i).take n).length=n:=by simp;omega
 rw[hlen];refine⟨ad,c,rfl,h2,h3,?_⟩;by_cases hn:n=0
 ·exact .inl hn
 ·right;rcases h5 ⟨_,hl⟩ with h6|⟨g,S,e1,e2,e3,e4⟩
  ·omega
  ·obtain⟨cur,e0,cap,k1,k2,k3,k4,k5⟩:=(hr.rows l _ hl).block e1;have iO:0<sz:=(hr.rows l _ hl).1;have Aj:Im K β (bL H l .dead) g:=⟨.inr (hr.fr l g ⟨_,hl⟩ hf e1),fun q hq hb=>(a8 q hq).2 (hr.inj q l g (a8 q hq).1 ⟨_,hl⟩ hb e1)⟩;refine⟨g,i*sz,sz,e2,Aj,(Array.getElem?_eq_some_iff.1 k1).1,iO,jc _ _ _ (fun k y hy=> ?_)⟩
   have C_:xs[i+k]?=some y:=by
    rw[List.getElem?_take] at hy;split at hy
    ·rwa[List.getElem?_drop] at hy
    ·simp at hy
   rw[fB]
   have qo:y.cells.length=sz:=by
    have:=(hr.rows l _ hl).2.1 (y.cells.map IV.b7) (by
     simp only[aG];exact List.mem_map_of_mem (f:=fun y:IV=>y.cells.map IV.b7) (List.mem_of_getElem? C_))
    simpa using this
   refine⟨qo.symm,jb _ _ _ (fun j z hz=> ?_)⟩;obtain⟨u,q1,q2⟩:=k5 (i+k) j (y.cells.map IV.b7) z.b7 (by simp[aG,C_]) (by simp[hz]);refine⟨u,?_,tz hk (FY y (List.mem_of_getElem? C_) z (List.mem_of_getElem? hz)) q2⟩;rw[cell_of_row w g _ cur e0 (0,0) k1,←q1]
   congr 1
   rw[Nat.add_mul]
theorem eW {P:Program} {G:Nat→Option (List IV)} {c0:Code} {x:AC} (h:dm P G c0=some x) :
  match x with
  | .skip=>c0= .skip
  | .seq x y=>∃a b,c0= .seq a b∧dm P G a=some x∧dm P G b=some y
  | .cond o x y=>∃c a b,c0= .cond c a b∧co G c=some o∧dm P G a=some x∧dm P G b=some y
  | .block id x=>∃a,c0= .block id a∧dm P G a=some x
  | .loop x=>∃a,c0= .loop a∧dm P G a=some x
  | .exit id=>c0= .exit id
  | .ret=>c0= .ret
  | .au is=>∃id ops,c0= .region id ops false∧j_ P G ops ops.toList=some is
  | .fY is es fs=>∃id ops,c0= .region id ops true∧P.follows .mixedOrders=true∧es=eV ops∧j_ P G ops ops.toList=some is
  | .gh _ _=>False:=by
 cases c0 with
 |skip=>simp only[dm,Option.some.injEq] at h;subst h;rfl
 |seq a b=>
  simp only[dm] at h;obtain⟨x1,h1,h⟩:=bh h;obtain⟨y1,h2,rfl⟩:=bB h;exact⟨a,b,rfl,h1,h2⟩
 |cond c a b=>
  simp only[dm] at h;obtain⟨c1,h0,h⟩:=bh h;obtain⟨x1,h1,h⟩:=bh h;obtain⟨y1,h2,rfl⟩:=bB h;exact⟨c,a,b,rfl,h0,h1,h2⟩
 |block id a=>
  simp only[dm] at h;obtain⟨y1,h2,rfl⟩:=bB h;exact⟨a,rfl,h2⟩
 |loop a=>
  simp only[dm] at h;obtain⟨y1,h2,rfl⟩:=bB h;exact⟨a,rfl,h2⟩
 |exit id=>simp only[dm,Option.some.injEq] at h;subst h;rfl
 |ret=>simp only[dm,Option.some.injEq] at h;subst h;rfl
 |region id ops draw=>
  cases draw with
  |true=>
   simp only[dm] at h;split at h
   ·rename_i hm;obtain⟨is,h2,rfl⟩:=bB h;exact⟨id,ops,rfl,hm,rfl,h2⟩
   ·simp at h
  |false=>
   simp only[dm] at h;obtain⟨is,h2,rfl⟩:=bB h;exact⟨id,ops,rfl,h2⟩
 |rangeFunc _ _ _ _=>simp[dm] at h
 |scope _=>simp[dm] at h
 |label _=>simp[dm] at h
 |goto _=>simp[dm] at h
 |refuse _=>simp[dm] at h
theorem go_sound (hS : ∀ l,live K.H0 l → l.entry = true) (Q : iC) : ∀ (n : Nat) (k : List It) (ck : List E6),mZ k ≤ n → i_ (Df K.P K.G) ck k →
   ∀env H,go ⟨K.P,K.G,K.N⟩ Q k env H→JE K Q ck env H:=by
 intro n
 induction n with
 |zero=>
   intro k ck hn hc env H hg β a w hr
   cases hc with
   |nil=>
     rw[go] at hg
     exact⟨env,H,β,hg,hr⟩
   |@cons x i ck k h1 h2=>
     cases i with
     |code c=>have:=c.xR;simp only[mZ,It.sz] at hn;omega
     |pF id=>simp only[mZ,It.sz] at hn;omega
 |succ n ih=>
   intro k ck hn hc env H hg β a w hr
   cases hc with
   |nil=>
     rw[go] at hg
     exact⟨env,H,β,hg,hr⟩
   |@cons x i ck k h1 h2=>
     cases h1 with
     |pF id=>
       rw[go] at hg
       simp only[PH,Exit.inBlock]
       exact ih k ck (by simp only[mZ,It.sz] at hn;omega) h2 env H hg β a w hr
     |@code c0 c ig=>
       simp only[PH,Exit.then]
       have xS:=c.xR
       cases c with
       |skip=>
         rw[go] at hg
         simp only[AC.bare] at ig
         have e:=eW ig
         simp only at e
         subst e
         exact wp_skip (ih k ck (by simp only[mZ,It.sz,AC.sz] at hn;omega) h2 env H hg β a w hr)
       |seq x y=>
         rw[go] at hg
         obtain⟨x0,y0,rfl,e1,e2⟩:=eW ig
         refine wp_seq ?_
         have:=ih (.code x:: .code y::k) (.code x0:: .code y0::ck) (by simp only[mZ,It.sz,AC.sz] at hn ⊢;omega) (.cons (.code e1) (.cons (.code e2) h2)) env H hg β a w hr
         simpa only[PH,Exit.then] using this
       |cond x y z=>
         rw[go] at hg
         obtain⟨o0,y0,z0,rfl,e0,e1,e2⟩:=eW ig
         obtain⟨t,ht,g1,g2⟩:=hg
         have hv:=hr.ev e0
         rw[ht] at hv
         simp only[RV] at hv
         refine wp_cond_split hv ?_ ?_<;>intro h
         · have:=ih (.code y::k) (.code y0::ck) (by simp only[mZ,It.sz,AC.sz] at hn ⊢;omega) (.cons (.code e1) h2) env H (g1 h) β a w hr
           simpa only[PH,Exit.then] using this
         · have:=ih (.code z::k) (.code z0::ck) (by simp only[mZ,It.sz,AC.sz] at hn ⊢;omega) (.cons (.code e2) h2) env H (g2 h) β a w hr
           simpa only[PH,Exit.then] using this
       |block id c=>
         rw[go] at hg
         obtain⟨c1,rfl,e1⟩:=eW ig
         refine wp_block ?_
         have:=ih (.code c:: .pF id::k) (.code c1:: .pF id::ck) (by simp only[mZ,It.sz,AC.sz] at hn ⊢;omega) (.cons (.code e1) (.cons (.pF id) h2)) env H hg β a w hr
         simpa only[PH,Exit.then] using this
       |loop c=>
         rw[go] at hg
         obtain⟨c1,rfl,e1⟩:=eW ig
         have:=hg K rfl hS c1 ck e1 h2 β a w hr
         simpa only[PH,Exit.then] using this
       |exit id=>
         simp only[AC.bare] at ig
         have e:=eW ig
         simp only at e
         subst e
         have hp:=jg (P:=K.P) (G:=K.G) (lift K Q) (id:=id) ck k h2
         refine wp_exit ?_
         cases wg:dS id k with
         |some k'=>
           rw[lP wg] at hg
           rw[wg] at hp
           obtain⟨xg,e1,e2⟩:=hp
           have:=lO wg
           exact e2 a w (ih k' xg (by simp only[mZ,It.sz,AC.sz] at hn;omega) e1 env H hg β a w hr)
         |none=>
           rw[lQ wg] at hg
           rw[wg] at hp
           exact hp a w ⟨env,H,β,hg,hr⟩
       |ret=>
         simp only[AC.bare] at ig
         have e:=eW ig
         simp only at e
         subst e
         rw[go] at hg
         exact wp_ret (oa _ _ _ _ _ ⟨env,H,β,hg,hr⟩)
       |au is=>
         obtain⟨id,ops,rfl,e1⟩:=eW ig
         rw[go] at hg
         refine wp_region_list ?_
         refine rJ (fun env' H' β' a' w' q1 q2=> ?_) ops.toList is env H a w β (ka _ _ e1) hg hr
         exact ih k ck (by simp only[mZ,It.sz,AC.sz] at hn;omega) h2 env' H' q1 β' a' w' q2
       |fY is es fs=>
         obtain⟨id,ops,rfl,hm,rfl,e1⟩:=eW ig
         rw[go] at hg
         refine rO hr hm (ka _ _ e1) hg.1 (fun env' H' β' a' w' q1 q2=> ?_) hg.2
         exact ih k ck (by simp only[mZ,It.sz,AC.sz] at hn;omega) h2 env' H' q1 β' a' w' q2
       |gh g c=>
         have Dg:dm K.P K.G c0=some c.bare:=ig
         have kQ:∀env' H',go ⟨K.P,K.G,K.N⟩ Q (.code c::k) env' H'→∀β',aM K β' env' H' a w→c0.wp K.P (PH K.P (lift K Q) ck) a w:=by
           intro env' H' h β' nD
           have:=ih (.code c::k) (.code c0::ck) (by simp only[mZ,It.sz,AC.sz] at hn ⊢;omega) (.cons (.code Dg) h2) env' H' h β' a w nD
           simpa only[PH,Exit.then] using this
         cases g with
         |dc ns=>rw[go] at hg;exact kQ _ _ hg β (hr.n_ ns)
         |cut m=>rw[go] at hg;exact kQ _ _ hg β hr
         |nF=>
           rw[go] at hg
           obtain⟨env2,H2,g1,g2⟩:=hg
           obtain⟨β',nD⟩:=g1 K β a w rfl hS hr
           exact kQ _ _ g2 β' nD
         |JD=>
           rw[go] at hg
           obtain⟨T,E,HH,g1,g2⟩:=hg
           obtain⟨t,β',nD⟩:=g1 K β a w rfl hS hr
           exact kQ _ _ (g2 t) β' nD
         |own d sz=>
           rw[go] at hg
           obtain⟨g1,g2,g3,g4⟩:=hg
           have h3:=hr.k_ (.loc d) g3 (r:=⟨sz,[]⟩) (Below.refl _ _) none (by simp) (by simp) ⟨g2,by simp,by simp⟩
           have hv:=h3.gg d
           rw[g1] at hv
           simp only[RV] at hv
           obtain⟨ad,hv⟩:=hv
           exact kQ _ _ g4 _ (vc h3 d (by rw[hv];simp only[RV];exact⟨ad,0,rfl,Nat.le_refl _,by simp[maxLen],by simp,fun _=> .inl rfl⟩) (by simp[AV.ar]))
         |xQ l d=>
           rw[go] at hg
           obtain⟨sz,xs,i,n,g1,g2,g3,g4,g5,g6⟩:=hg
           have hv:=hr.gg d
           rw[g1] at hv
           exact kQ _ _ g6 _ (vc (hr.kill l (by rw[g2];simp)) d (tG hr g2 g3 g4 g5 hv) (by simp[AV.ar]))
         |tF l q j=>
           rw[go] at hg
           obtain⟨sz,xs,i,n,cs,g1,g2,g3,g4,g5,g6,g7,g8⟩:=hg
           have hk:=hr.kill l (by rw[g3];simp)
           have hq:bL H l .dead q= .live ⟨cs.length,[cs]⟩:=by rw[aA _ _ (Ne.symm g5)];exact g1
           have iO:0<cs.length:=(hr.rows q _ g1).1
           cases hb:β q with
           |none=>
             have:=(hr.rows q _ g1).2.2
             simp[hb] at this
           |some g=>
             obtain⟨cur,e0,cap,k1,k2,k3,k4,k5⟩:=(hr.rows q _ g1).block hb
             obtain⟨cur',LS,KB,JF,LU,LV,LW,KC⟩:=(hk.rows q _ hq).block hb
             rw[k1] at JF
             cases JF
             have re:j<cs.length:=(List.getElem?_eq_some_iff.1 g2).1
             have lJ := hk.setRow q (r' := ⟨cs.length,[cs.set j (.list ((xs.drop i).take n))]⟩) (cur' := cur) (cap := cap) hq hb k1 rfl rfl k2 k3 (by simpa using k4) (by simp)
               (by
                 intro ds vR p hp
                 simp at vR;subst vR
                 have:p∈ah cs:=by
                   obtain⟨y,hy,E7⟩:∃y∈cs.set j (.list ((xs.drop i).take n)),p∈y.ar:=by
                     generalize cs.set j (.list ((xs.drop i).take n))=ds at hp
                     induction ds with
                     |nil=>simp[ah] at hp
                     |cons y r KD=>
                       simp only[ah,List.mem_append] at hp
                       rcases hp with hp|hp
                       · exact⟨y,by simp,hp⟩
                       · obtain⟨z,hz,KE⟩:=KD hp
                         exact⟨z,by simp[hz],KE⟩
                   rcases List.mem_or_eq_of_mem_set hy with hy|rfl
                   · obtain⟨m,hm⟩:=List.getElem?_of_mem hy
                     exact cR _ _ _ hm p E7
                   · simp[AV.ar] at E7
                 have:=hk.cB q _ hq cs (by simp) p this
                 exact this)
               (by
                 intro i' j' ds x0 dX iB
                 cases i' with
                 |succ i'=>simp at dX
                 |zero=>
                   simp at dX;subst dX
                   by_cases e:j'=j
                   · subst e
                     rw[List.getElem?_set_self re] at iB
                     cases iB
                     obtain⟨v,q1,q2⟩:=k5 0 j' cs _ (by simp) g2
                     exact⟨v,q1,tG hr g3 g4 g6 g7 q2⟩
                   · rw[List.getElem?_set_ne (Ne.symm e)] at iB
                     exact KC 0 j' cs x0 (by simp) iB)
             have n7:w.setRow g cur=w:=setRow_self w g cur e0 (0,0) k1
             rw[n7] at lJ
             exact kQ _ _ g8 _ lJ
end
end Go.Am

/- THE ABSTRACT MACHINE, part 16: functions. -/
namespace Go.Am
open Go Go.RowKit
abbrev RO:=Option (Option Nat)×Nat
def vd (P:Program):ResultVar→Option RO
 | .tmp t=>some (none,t)
 | .cell a t=>(vL P t).map fun m=>(some m,a)
def mD (P:Program):List ResultVar→Option (List RO)
 |[]=>some []
 |r::s=>(vd P r).bind fun x=>(mD P s).map fun y=>x::y
def ob (r:RO) (env:Env) (H:Hp):Option AV:=
 match r.1 with
 |none=>some (env r.2)
 |some m=>aN m (env r.2) H
def jh (env:Env) (H:Hp):List RO→Option (List AV)
 |[]=>some []
 |r::s=>(ob r env H).bind fun x=>(jh env H s).map fun y=>x::y
def mE:List AV→AV
 |[x]=>x
 |xs=> .ei xs
def ij (rs:List RO) (R:AV→Hp→Prop):iC:=fun e env H=>(e= .normal∨e= .ret)∧∃xs,jh env H rs=some xs∧R (mE xs) H
def bE (args:List AV):Env:=fun n=>args.getD n .un
def aB (P:Program) (G:Nat→Option (List IV)) (f:Nat):Option (Nat×List RO×AC):=
 (P.funcs[f]?).bind fun fn=>fn.body.bind fun c=>(mD P fn.results.toList).bind fun rs=>(dm P G c).map fun x=>(fn.ntmps,rs,x)
section
variable {K:Kx} {β:Lb→Option Nat} {env:Env} {H:Hp} {a:Act} {w:World}
theorem tH (hr:aM K β env H a w) {rv:ResultVar} {r:RO} (hc:vd K.P rv=some r) {x:AV} (hx:ob r env H=some x) :
  ∃v,(match rv with
   | .tmp t=>(pure (a.tmps.getD t undef):Sem Value)
   | .cell b t=>do loadVar t (←asAddr (a.tmps.getD b undef))).run K.P w= .ok v w∧RV w β H (Im K β H) x v∧∀l∈x.ar,H l≠ .unused:=by
 cases rv with
 |tmp t=>
  simp only[vd,Option.some.injEq] at hc;subst hc;simp only[ob,Option.some.injEq] at hx;subst hx;exact⟨_,by simp,hr.gg t,hr.eB t⟩
 |cell b t=>
  simp only[vd] at hc;obtain⟨m,h1,rfl⟩:=bB hc;simp only[ob] at hx;obtain⟨v,q1,q3,q4⟩:=uY (o:={(default:Oper) with op:= .load t (.tmp b)}) (x':= .t b) hr rfl h1 rfl hx;have hv:=hr.gg b;cases he:env b with
  |ptr l sz i j=>
   rw[he] at hv;simp only[RV] at hv;obtain⟨ad,e1,e2⟩:=hv;simp only[execOp,Act.eval,e1,Instr.loadAt,Instr.sureAddr,Sem.run_bind,Sem.run_pure,Result.andThen_ok] at q1;refine⟨v,?_,q3,q4⟩;simp only[e1,asAddr,Sem.run_bind,Sem.run_pure,Result.andThen_ok];cases hl:(loadVar t ad).run K.P w with
   |ok u w2=>
    rw[hl] at q1;simp only[Result.andThen_ok,Result.ok.injEq] at q1;obtain⟨q1,rfl⟩:=q1;cases q1;rfl
   |_=>rw[hl] at q1;simp at q1
  |_=>rw[he] at hx;simp[aN] at hx
theorem na (hr:aM K β env H a w):∀(Hj:List ResultVar) (rs:List RO) (xs:List AV),mD K.P Hj=some rs→jh env H rs=some xs →
  ∃vs,(Hj.mapM (m:=Sem) fun
   | .tmp t=>(pure (a.tmps.getD t undef):Sem Value)
   | .cell b t=>do loadVar t (←asAddr (a.tmps.getD b undef))).run K.P w= .ok vs w∧bo w β H (Im K β H) xs vs∧∀l∈ah xs,H l≠ .unused
 |[],rs,xs,hc,hx=>by
  simp only[mD,Option.some.injEq] at hc;subst hc;simp only[jh,Option.some.injEq] at hx;subst hx;exact⟨[],by simp,by simp[bo],by simp[ah]⟩
 |rv::Hj,rs,xs,hc,hx=>by
  simp only[mD] at hc;obtain⟨r,h1,hc⟩:=bh hc;obtain⟨E8,h2,rfl⟩:=bB hc;simp only[jh] at hx;obtain⟨x,h3,hx⟩:=bh hx;obtain⟨jZ,h4,rfl⟩:=bB hx;obtain⟨v,e1,e2,e3⟩:=tH hr h1 h3;obtain⟨vs,k1,k2,k3⟩:=na hr Hj E8 jZ h2 h4;refine⟨v::vs,?_,⟨v,vs,rfl,e2,k2⟩,?_⟩
  ·rw[List.mapM_cons];simp only[Sem.run_bind,e1,Result.andThen_ok,k1,Sem.run_pure]
  ·intro l hl;simp only[ah,List.mem_append] at hl;rcases hl with hl|hl
   ·exact e3 l hl
   ·exact k3 l hl
theorem pn (hr:aM K β env H a w) {fn:Func} {rs:List RO} {xs:List AV} (hc:mD K.P fn.results.toList=some rs) (hx:jh env H rs=some xs) :
  ∃v,(results fn a.tmps).run K.P w= .ok v w∧RV w β H (Im K β H) (mE xs) v∧∀l∈(mE xs).ar,H l≠ .unused:=by
 obtain⟨vs,h1,h2,h3⟩:=na hr _ _ _ hc hx;have hlen:=bo.len _ _ h2
 have jx:(results fn a.tmps).run K.P w= .ok (if h:vs.toArray.size=1 then vs.toArray[0] else .tuple vs.toArray) w:=by
  unfold results;rw[Array.mapM_eq_mapM_toList];simp only[Sem.run_bind,Sem.run_pure,map_eq_pure_bind];exact(congrArg (fun r:Result (List Value)=>(r.andThen fun a w'=>Result.ok a.toArray w').andThen fun a w'=>Result.ok (if h:a.size=1 then a[0] else Value.tuple a) w') h1).trans rfl
 refine⟨_,jx,?_⟩
 match xs,h2,h3,hlen with
 |[],h2,h3,hlen=>
  simp only[bo] at h2;subst h2;simp[mE,RV,bo,AV.ar,ah]
 |[x],h2,h3,hlen=>
  simp only[bo] at h2;obtain⟨v,us,rfl,e1,rfl⟩:=h2;simp only[mE];exact⟨by simpa using e1,fun l hl=>h3 l (by simp[ah,hl])⟩
 |x::y::r,h2,h3,hlen=>
  have:vs.toArray.size≠1:=by simp;simp at hlen;omega
  rw[dif_neg this];simp only[mE,RV,AV.ar];exact⟨⟨vs,rfl,h2⟩,h3⟩
theorem xT (args:List AV) (n:Nat) (l:Lb) (h:l∈(bE args n).ar):l∈ah args:=by
 unfold bE at h;rw[List.getD_eq_getElem?_getD] at h;cases hx:args[n]? with
 |none=>rw[hx] at h;simp[AV.ar] at h
 |some x=>rw[hx] at h;exact cR _ _ _ hx l (by simpa using h)
theorem jC {P:Program} {G:Nat→Option (List IV)} {f:Nat} {n:Nat} {rs:List RO} {ac:AC} {args:List AV} {R:AV→Hp→Prop}
   (hF:aB P G f=some (n,rs,ac.bare)) (hn:args.length≤n) (Ih:∀l,live H l→l.entry=true) (hm:∀l∈ah args,H l≠ .unused)
   (hg:go ⟨P,G,n⟩ (ij rs R) [.code ac] (bE args) H):gd P G f args H R:=by
 unfold aB at hF
 obtain⟨fn,hf,hF⟩:=bh hF
 obtain⟨c,hb,hF⟩:=bh hF
 obtain⟨E8,ld,hF⟩:=bh hF
 obtain⟨x,KF,hF⟩:=bB hF
 simp only[Prod.mk.injEq] at hF
 obtain⟨rfl,rfl,rfl⟩:=hF
 intro w A β vs hr hv
 have hlen:=bo.len _ _ hv
 refine calls_of_wp hf hb ?_
 have iO:vs.toArray.size=args.length:=by simpa using hlen
 let K:Kx:=⟨P,G,w,A,Ck β H,fn.ntmps,H,β⟩
 have j6:aM K β (bE args) H {tmps:=vs.toArray++Array.replicate (fn.ntmps - vs.toArray.size) undef,defers:=[]} w:=
   { defers := rfl
     size:=by simp only[Array.size_append,Array.size_replicate,iO,K];omega
     gg := fun m => by
       have jz:(vs.toArray++Array.replicate (fn.ntmps - vs.toArray.size) undef).getD m undef=(vs[m]?).getD undef:=by
         rw[Array.getD_eq_getD_getElem?]
         by_cases Hl:m<vs.length
         · rw[Array.getElem?_append_left (by simpa using Hl)];simp
         · rw[Array.getElem?_append_right (by simp;omega),Array.getElem?_replicate]
           rw[List.getElem?_eq_none (by omega)]
           split<;>simp
       simp only
       rw[jz]
       unfold bE
       rw[List.getD_eq_getElem?_getD]
       cases hx:args[m]? with
       |none=>
         have:vs[m]?=none:=by
           rw[List.getElem?_eq_none_iff] at hx ⊢;omega
         rw[this];simp[RV,undef]
       |some y=>
         obtain⟨u,h1,h2⟩:=bo.get _ _ _ _ hv hx
         rw[h1];exact h2
     rows:=hr.rows
     own:=hr.own
     inj:=hr.inj
     eB:=fun m l hl=>hm l (xT args m l hl)
     cB:=hr.cB
     frame:=hr.frame
     fI:=hr.fI
     fX:=hr.fX
     fr:=hr.fr}
 have dN:i_ (Df P G) [.code c] [.code ac]:= .cons (.code KF) .nil
 have:=go_sound (K:=K) Ih (ij E8 R) (mZ [.code ac]) [.code ac] [.code c] (Nat.le_refl _) dN (bE args) H hg β _ w j6
 simp only[PH,Exit.then] at this
 refine wp_mono this ?_
 intro e a' w' hq
 have key:∀a' w',(lift K (ij E8 R) .normal a' w'∨lift K (ij E8 R) .ret a' w')→a'.defers=[]∧∃v,(results fn a'.tmps).run P w'= .ok v w' ∧
     ∃v' x H' β',Ending.returned v= .returned v'∧R x H'∧aM (cV P G w A β H) β' Env.any H' mW w' ∧
     RV w' β' H' (Im (cV P G w A β H) β' H') x v'∧∀l∈x.ar,H' l≠ .unused:=by
   intro a' w' h
   have:∃e env' H' β',ij E8 R e env' H'∧aM K β' env' H' a' w':=by
     rcases h with⟨env',H',β',h⟩|⟨env',H',β',h⟩<;>exact⟨_,env',H',β',h⟩
   obtain⟨e,env',H',β',⟨_,xs,h1,h2⟩,h3⟩:=this
   obtain⟨v,k1,k2,k3⟩:=pn h3 ld h1
   refine⟨h3.defers,v,k1,v,_,H',β',rfl,h2,?_,k2,k3⟩
   exact
     { defers := rfl
       size:=rfl
       gg:=fun m=>by simp[Env.any,RV]
       rows:=h3.rows
       own:=h3.own
       inj:=h3.inj
       eB:=fun m=>by simp[Env.any,AV.ar]
       cB:=h3.cB
       frame:=h3.frame
       fI:=h3.fI
       fX:=h3.fX
       fr:=h3.fr}
 cases e with
 |normal=>exact key a' w' (.inl hq)
 |ret=>exact key a' w' (.inr hq)
 |panic ch=>obtain⟨_,_,_,⟨h,_⟩,_⟩:=hq;simp at h
 |exit id=>obtain⟨_,_,_,⟨h,_⟩,_⟩:=hq;simp at h
 |goto l=>obtain⟨_,_,_,⟨h,_⟩,_⟩:=hq;simp at h
 |outgrown=>obtain⟨_,_,_,⟨h,_⟩,_⟩:=hq;simp at h
theorem aC {P:Program} {G:Nat→Option (List IV)} {f:Nat} {n:Nat} {rs:List RO} {ac:AC} {args:List AV} {res:AV}
  (hF:aB P G f=some (n,rs,ac.bare)) (hn:args.length≤n) (hl:ah args=[]) (qx:res.ar=[])
  (hg:go ⟨P,G,n⟩ (ij rs fun x _=>x=res) [.code ac] (bE args) Hp.none):ai P G f args res:=
 ⟨hl,qx,jC hF hn (fun l ⟨r,h⟩=>by simp[Hp.none] at h) (by simp[hl]) hg⟩
end
end Go.Am

/- THE ABSTRACT MACHINE, part 21: loops. -/
namespace Go.Am
open Go Go.RowKit
structure Wk (ρ:Lb→Lb) (env:Env) (H:Hp) (env2:Env) (H2:Hp):Prop where
 e:∀n,env2 n= .any∨env n=bQ ρ (env2 n)
 h:∀l r,H2 l= .live r→H (ρ l)= .live (bX ρ r)
 inj:∀l l',live H2 l→live H2 l'→ρ l=ρ l'→l=l'
 m:∀n,∀l∈(env2 n).ar,H2 l≠ .unused
 rm:∀l r,H2 l= .live r→∀cs∈r.els,∀q∈ah cs,H2 q≠ .unused
 st:∀l,l.entry=true→(H l≠ .unused→H2 l≠ .unused)∧(live H2 l→ρ l=l)
 fr:∀l,live H2 l→l.fresh=true→(ρ l).fresh=true
def rP {σ:Type} (S:St) (Q:iC) (k:List It) (E:σ→Env) (HH:σ→Hp) (μ:σ→Nat) (n:Nat):iC:=fun e env H=>
 match e with
 | .normal=>∃s,μ s<n∧∃ρ,Wk ρ env H (E s) (HH s)
 | .exit id=>match dS id k with
  |some k'=>go S Q k' env H
  |none=>Q (.exit id) env H
 | .ret=>Q .ret env H
 |_=>False
theorem Wk.rel {K:Kx} {β:Lb→Option Nat} {env:Env} {H:Hp} {a:Act} {w:World} {ρ:Lb→Lb} {env2:Env} {H2:Hp} (hS:∀l,live K.H0 l→l.entry=true) (h:Wk ρ env H env2 H2) (hr:aM K β env H a w) :
  aM K (fun l=>β (ρ l)) env2 H2 a w:=
 hr.nF ρ h.e h.h h.inj h.m h.rm (fun l hl=>⟨(h.st l (hS l hl)).1 (hr.fX l hl).1,(h.st l (hS l hl)).2⟩) h.fr
theorem gk {σ:Type} {S:St} {Q:iC} {c:AC} {k:List It} {env:Env} {H:Hp} (E:σ→Env) (HH:σ→Hp) (μ:σ→Nat) (s0:σ) (ρ:Lb→Lb) (h0:Wk ρ env H (E s0) (HH s0))
  (round:∀s,go S (rP S Q k E HH μ (μ s)) [.code c] (E s) (HH s)):m_ S Q c k env H:=by
 intro K Hm hS c0 ck hc dN β a w hr;subst Hm;simp only[PH,Exit.then];refine wp_loop_ghost (fun n a w=>∃s β,μ s=n∧aM K β (E s) (HH s) a w) (μ s0) ⟨s0,_,rfl,h0.rel hS hr⟩ ?_;rintro n a w ⟨s,β,rfl,hr⟩;have hs:=go_sound (K:=K) hS _ (mZ [.code c]) [.code c] [.code c0] (Nat.le_refl _) (.cons (.code hc) .nil) (E s) (HH s) (round s) β a w hr;simp only[PH,Exit.then] at hs;refine wp_mono hs ?_
 rintro e a' w' ⟨env',H',β',hq,nD⟩;cases e with
 |normal=>
  obtain⟨s',bz,ρ',hw⟩:=hq;exact⟨μ s',bz,s',_,rfl,hw.rel hS nD⟩
 |exit id=>
  have hp:=jg (P:=K.P) (G:=K.G) (lift K Q) (id:=id) ck k dN;simp only[rP] at hq;show PH K.P (lift K Q) ck (.exit id) a' w';cases wg:dS id k with
  |some k'=>
   rw[wg] at hp hq;obtain⟨xg,e1,e2⟩:=hp;exact e2 a' w' (go_sound (K:=K) hS Q (mZ k') k' xg (Nat.le_refl _) e1 env' H' hq β' a' w' nD)
  |none=>
   rw[wg] at hp hq;exact hp a' w' ⟨env',H',β',hq,nD⟩
 |ret=>exact oa _ _ _ _ _ ⟨env',H',β',hq,nD⟩
 |goto l=>exact hq.elim
 |panic ch=>exact hq.elim
 |outgrown=>exact hq.elim
end Go.Am

/- THE ABSTRACT MACHINE, part 22: how code is evaluated: equations. -/
namespace Go.Am
open Go Go.RowKit
inductive Tk {α:Type 1} (a:α):Type
 |mk
inductive Tp (a c:Prop):Type
 |mk
inductive Tv {α:Type} (a:α→Prop):Type
 |mk
inductive Tw (a:AV→Hp→Prop):Type
 |mk
def cD (o:Option AV) (k:AV→Prop) (_:Tv k):Prop:=∃x,o=some x∧k x
def gB (x:AV) (t:Bool) (A B:Prop) (_:Tp A B):Prop:=
 match x with
 | .bool b=>if b=t then A else B
 | .un=>B
 |_=>False
def cK (x:AV) (A B:Prop) (_:Tp A B):Prop:=
 match x with
 | .bool b=>if b=true then A else B
 |_=>False
def hK (o:Option Hp) (k:Hp→Prop) (_:Tv k):Prop:=∃x,o=some x∧k x
def pK (o:Option (AV×Hp)) (k:AV→Hp→Prop) (_:Tw k):Prop:=∃x h,o=some (x,h)∧k x h
def Hn (S:St) (f:Nat) (args:List AV) (H:Hp) (k:AV→Hp→Prop) (_:Tw k):Prop:=j7 S f args H k
def Ii (S:St) (f:Nat) (args:List AV) (k:AV→Prop) (_:Tv k):Prop:=∃x,ai S.P S.G f args x∧k x
section
variable {S:St} {Q:iC} {env:Env} {H:Hp} {k:List It}
theorem xU (x:AV) (k:AV→Prop) (u:Tv k):cD (some x) k u=k x:=by simp[cD]
theorem Az (x:Hp) (k:Hp→Prop) (u:Tv k):hK (some x) k u=k x:=by simp[hK]
theorem AA (x:AV) (h:Hp) (k:AV→Hp→Prop) (u:Tw k):pK (some (x,h)) k u=k x h:=by
 simp only[pK,Option.some.injEq,Prod.mk.injEq];apply propext;constructor
 ·rintro⟨_,_,⟨rfl,rfl⟩,h⟩;exact h
 ·intro h;exact⟨_,_,⟨rfl,rfl⟩,h⟩
theorem Ij (A B:Prop) (u:Tp A B):gB (.bool true) true A B u=A:=by simp[gB]
theorem Ik (A B:Prop) (u:Tp A B):gB (.bool false) true A B u=B:=by simp[gB]
theorem F7 (A B:Prop) (u:Tp A B):gB (.bool true) false A B u=B:=by simp[gB]
theorem F8 (A B:Prop) (u:Tp A B):gB (.bool false) false A B u=A:=by simp[gB]
theorem Il (t:Bool) (A B:Prop) (u:Tp A B):gB .un t A B u=B:=by simp[gB]
theorem Io (A B:Prop) (u:Tp A B):cK (.bool true) A B u=A:=by simp[cK]
theorem Ip (A B:Prop) (u:Tp A B):cK (.bool false) A B u=B:=by simp[cK]
theorem Dh (k:Env→Hp→Prop):AO S [] env H k=k env H:=rfl
theorem AB (n:Nat) (i:b6) (r:List cx) (k:Env→Hp→Prop) :
  AO S (⟨some n,none,i⟩::r) env H k=(n<S.N∧bt S (some n) i env H fun x H'=>AO S r (put env n x) H' k):=by
 simp[AO,gW,db]
theorem AD (i:b6) (r:List cx) (k:Env→Hp→Prop) :
  AO S (⟨none,none,i⟩::r) env H k=bt S none i env H fun x H'=>AO S r env H' k:=by
 simp[AO,gW,db]
theorem xV (n s:Nat) (t:Bool) (i:b6) (r:List cx) (k:Env→Hp→Prop) :
  AO S (⟨some n,some (s,t),i⟩::r) env H k=(n<S.N∧gB (env s) t (bt S (some n) i env H fun x H'=>AO S r (put env n x) H' k) (AO S r (put env n .un) H k) .mk):=by
 simp only[AO,gW,db];cases he:env s<;>simp[gB,he];rename_i b;cases b<;>cases t<;>simp
theorem wi (s:Nat) (t:Bool) (i:b6) (r:List cx) (k:Env→Hp→Prop) :
  AO S (⟨none,some (s,t),i⟩::r) env H k=gB (env s) t (bt S none i env H fun x H'=>AO S r env H' k) (AO S r env H k) .mk:=by
 simp only[AO,gW,db];cases he:env s<;>simp[gB,he];rename_i b;cases b<;>cases t<;>simp
theorem xW (j n:Nat) (i:b6) (f:Fp) (r:List (Nat×cx×Fp)) (k:Env→Hp→Prop) :
  jV S ((j,⟨some n,none,i⟩,f)::r) env H k=(n<S.N∧aD S f (some n) i env H fun x H'=>jV S r (put env n x) H' k):=by
 simp[jV,rj,gW,db]
theorem xX (j:Nat) (i:b6) (f:Fp) (r:List (Nat×cx×Fp)) (k:Env→Hp→Prop) :
  jV S ((j,⟨none,none,i⟩,f)::r) env H k=aD S f none i env H fun x H'=>jV S r env H' k:=by
 simp[jV,rj,gW,db]
theorem wj (j n s:Nat) (t:Bool) (i:b6) (f:Fp) (r:List (Nat×cx×Fp)) (k:Env→Hp→Prop) :
  jV S ((j,⟨some n,some (s,t),i⟩,f)::r) env H k=(n<S.N∧gB (env s) t (aD S f (some n) i env H fun x H'=>jV S r (put env n x) H' k) (jV S r (put env n .un) H k) .mk):=by
 simp only[jV,rj,gW,db];cases he:env s<;>simp[gB,he];rename_i b;cases b<;>cases t<;>simp
theorem Di:go S Q [] env H=Q .normal env H:=by rw[go]
theorem Dj (id:Nat):go S Q (.pF id::k) env H=go S Q k env H:=by rw[go]
theorem AE:go S Q (.code .skip::k) env H=go S Q k env H:=by rw[go]
theorem Dk (a b:AC):go S Q (.code (.seq a b)::k) env H=go S Q (.code a:: .code b::k) env H:=by rw[go]
theorem AF (x:O) (a b:AC):go S Q (.code (.cond x a b)::k) env H=cK (ev env x) (go S Q (.code a::k) env H) (go S Q (.code b::k) env H) .mk:=by
 rw[go];unfold cK;apply propext;constructor
 ·rintro⟨t,h1,h2,h3⟩;rw[h1];cases t
  ·simpa using h3 rfl
  ·simpa using h2 rfl
 ·intro h;split at h
  ·rename_i t e;refine⟨t,e,fun e2=> ?_,fun e2=> ?_⟩<;>subst e2<;>simpa using h
  ·exact h.elim
theorem xY (id:Nat) (c:AC):go S Q (.code (.block id c)::k) env H=go S Q (.code c:: .pF id::k) env H:=by rw[go]
theorem AG (c:AC):go S Q (.code (.loop c)::k) env H=m_ S Q c k env H:=by rw[go]
theorem Dl:go S Q (.code .ret::k) env H=Q .ret env H:=by rw[go]
theorem Dm (is:List cx):go S Q (.code (.au is)::k) env H=AO S is env H (go S Q k):=by rw[go]
theorem AH (ns:List Nat) (c:AC):go S Q (.code (.gh (.dc ns) c)::k) env H=go S Q (.code c::k) (n_ ns env) H:=by rw[go]
theorem Dn (l:Lb) (d:Nat) (c:AC):go S Q (.code (.gh (.xQ l d) c)::k) env H=∃sz xs i n,env d= .sl l sz i n∧H l= .live ⟨sz,aG xs⟩∧l.fresh=true∧i+n≤xs.length∧Flat xs ∧
 go S Q (.code c::k) (put env d (.list ((xs.drop i).take n))) (bL H l .dead):=by rw[go]
theorem Dp (d sz:Nat) (c:AC):go S Q (.code (.gh (.own d sz) c)::k) env H=(env d= .nil0∧0<sz∧H (.loc d)= .unused∧go S Q (.code c::k) (put env d (.sl (.loc d) sz 0 0)) (bL H (.loc d) (.live ⟨sz,[]⟩))):=by rw[go]
theorem kx (c:AC):go S Q (.code (.gh .nF c)::k) env H=∃env2 H2,gj S env H env2 H2∧go S Q (.code c::k) env2 H2:=by rw[go]
theorem AI (id:Nat):go S Q (.code (.exit id)::k) env H=match dS id k with
  |some k'=>go S Q k' env H
  |none=>Q (.exit id) env H:=by
 cases h:dS id k with
 |some k'=>rw[lP h]
 |none=>rw[lQ h]
theorem lk (n:Nat) (i:cx) (is:List cx) (f:Fp) (fs:List Fp):items n (i::is) (f::fs)=(n,i,f)::items (n+1) is fs:=rfl
theorem Dq d x (k:AV→Hp→Prop):bt S d (.af x) env H k=cD (aa (.af x) env) (fun x=>k x H) .mk:=rfl
theorem AJ d c a b (k:AV→Hp→Prop):bt S d (.pick c a b) env H k=cD (aa (.pick c a b) env) (fun x=>k x H) .mk:=rfl
theorem Dr d a off (k:AV→Hp→Prop):bt S d (.bU a off) env H k=cD (aa (.bU a off) env) (fun x=>k x H) .mk:=rfl
theorem Ds d x i n sz (k:AV→Hp→Prop):bt S d (.xi x i n sz) env H k=cD (aa (.xi x i n sz) env) (fun x=>k x H) .mk:=rfl
theorem Dt d x i sz (k:AV→Hp→Prop):bt S d (.fH x i sz) env H k=cD (aa (.fH x i sz) env) (fun x=>k x H) .mk:=rfl
theorem Du d x i (k:AV→Hp→Prop):bt S d (.mR x i) env H k=cD (aa (.mR x i) env) (fun x=>k x H) .mk:=rfl
theorem Dv d x (k:AV→Hp→Prop):bt S d (.len x) env H k=cD (aa (.len x) env) (fun x=>k x H) .mk:=rfl
theorem AK d x (k:AV→Hp→Prop):bt S d (.lens x) env H k=cD (aa (.lens x) env) (fun x=>k x H) .mk:=rfl
theorem Dw d x lo hi mx sz (k:AV→Hp→Prop):bt S d (.uM x lo hi mx sz) env H k=cD (aa (.uM x lo hi mx sz) env) (fun x=>k x H) .mk:=rfl
theorem AL d x lo hi (k:AV→Hp→Prop):bt S d (.gV x lo hi) env H k=cD (aa (.gV x lo hi) env) (fun x=>k x H) .mk:=rfl
theorem Dx d op x y (k:AV→Hp→Prop):bt S d (.bin op x y) env H k=cD (aa (.bin op x y) env) (fun x=>k x H) .mk:=rfl
theorem Dy d n x y (k:AV→Hp→Prop):bt S d (.xa n x y) env H k=cD (aa (.xa n x y) env) (fun x=>k x H) .mk:=rfl
theorem Dz d n x y (k:AV→Hp→Prop):bt S d (.z7 n x y) env H k=cD (aa (.z7 n x y) env) (fun x=>k x H) .mk:=rfl
theorem DA d n x y (k:AV→Hp→Prop):bt S d (.zP n x y) env H k=cD (aa (.zP n x y) env) (fun x=>k x H) .mk:=rfl
theorem AM d n ks x y (k:AV→Hp→Prop):bt S d (.ny n ks x y) env H k=cD (aa (.ny n ks x y) env) (fun x=>k x H) .mk:=rfl
theorem DB d x (k:AV→Hp→Prop):bt S d (.not x) env H k=cD (aa (.not x) env) (fun x=>k x H) .mk:=rfl
theorem DC d x (k:AV→Hp→Prop):bt S d (.neg x) env H k=cD (aa (.neg x) env) (fun x=>k x H) .mk:=rfl
theorem DD d x y (k:AV→Hp→Prop):bt S d (.max x y) env H k=cD (aa (.max x y) env) (fun x=>k x H) .mk:=rfl
theorem DE d x y (k:AV→Hp→Prop):bt S d (.min x y) env H k=cD (aa (.min x y) env) (fun x=>k x H) .mk:=rfl
theorem DF d x i (k:AV→Hp→Prop):bt S d (.ext x i) env H k=cD (aa (.ext x i) env) (fun x=>k x H) .mk:=rfl
theorem DG d z ps (k:AV→Hp→Prop):bt S d (.rp z ps) env H k=cD (aa (.rp z ps) env) (fun x=>k x H) .mk:=rfl
theorem AN d x off m (k:AV→Hp→Prop):bt S d (.qg x off m) env H k=cD (aa (.qg x off m) env) (fun x=>k x H) .mk:=rfl
theorem AP d n sz z ps (k:AV→Hp→Prop):bt S d (.lits n sz z ps) env H k=cD (aa (.lits n sz z ps) env) (fun x=>k x H) .mk:=rfl
theorem AQ d x (k:AV→Hp→Prop):bt S d (.pd x) env H k=cD (aa (.pd x) env) (fun x=>k x H) .mk:=rfl
theorem AR d x (k:AV→Hp→Prop):bt S d (.mq x) env H k=cD (aa (.mq x) env) (fun x=>k x H) .mk:=rfl
theorem DH d f cap (k:AV→Hp→Prop):bt S d (.z8 f cap) env H k=cD (aa (.z8 f cap) env) (fun x=>k x H) .mk:=rfl
theorem DI d kd x (k:AV→Hp→Prop):bt S d (.z' kd x) env H k=cD (aa (.z' kd x) env) (fun x=>k x H) .mk:=rfl
theorem DJ d x (k:AV→Hp→Prop):bt S d (.kJ x) env H k=cD (aa (.kJ x) env) (fun x=>k x H) .mk:=rfl
theorem DK d x (k:AV→Hp→Prop):bt S d (.zQ x) env H k=cD (aa (.zQ x) env) (fun x=>k x H) .mk:=rfl
theorem DL d x (k:AV→Hp→Prop):bt S d (.z_ x) env H k=cD (aa (.z_ x) env) (fun x=>k x H) .mk:=rfl
theorem AS d t x (k:AV→Hp→Prop):bt S d (.qh t x) env H k=cD (aa (.qh t x) env) (fun x=>k x H) .mk:=rfl
theorem AT (d:Option Nat) (m:Option Nat) (a:O) (k:AV→Hp→Prop):bt S d (.load m a) env H k=(cD (aa (.load m a) env) (fun x=>k x H) .mk∨cD (aN m (ev env a) H) (fun x=>k x H) .mk):=rfl
def dO (m:Option Nat) (x:AV) (H:Hp):Option AV:=
 match x with
 | .lptr cs=>match m with
  |none=>cs[0]?.map IV.b7
  |some k=>if k≤cs.length then some (.agg ((cs.take k).map IV.b7)) else none
 |x=>aN m x H
theorem F9 (d:Option Nat) (m:Option Nat) (a:O) (k:AV→Hp→Prop):bt S d (.load m a) env H k=cD (dO m (ev env a) H) (fun x=>k x H) .mk:=by
 rw[AT];unfold dO;split
 ·rename_i cs e;simp only[aa,e,aN,cD];apply propext;constructor
  ·rintro(h|⟨x,h,_⟩)
   ·exact h
   ·simp at h
  ·exact .inl
 ·rename_i x eg
  have:aa (.load m a) env=none:=by
   simp only[aa]
  rw[this];simp[cD]
theorem DM (n:Nat) (cs:List AV) (k:AV→Hp→Prop):bt S (some n) (.new cs) env H k=(H (.loc n)= .unused∧0<cs.length∧cs.length≤maxLen ∧
  k (.ptr (.loc n) cs.length 0 0) (bL H (.loc n) (.live ⟨cs.length,[cs]⟩))):=by
 simp[bt]
def bK (x:AV) (n:Nat) (H:Hp) (k:AV→Hp→Prop):Prop:=H (.loc n)= .unused∧x.dk=true∧0<x.cells.length∧x.cells.length≤maxLen ∧
 k (.ptr (.loc n) x.cells.length 0 0) (bL H (.loc n) (.live ⟨x.cells.length,[x.cells]⟩))
theorem DN (n:Nat) (x:O) (k:AV→Hp→Prop):bt S (some n) (.box x) env H k=bK (ev env x) n H k:=by
 simp[bt,bK]
theorem xZ (m:Nat) (a x:O) (k:AV→Hp→Prop):bt S none (.store m a x) env H k=hK (aE m (ev env a) (ev env x) H) (fun H'=>k .un H') .mk:=by
 simp[bt,hK]
theorem DO (n:Nat) (s x:O) (sz b:Nat) (k:AV→Hp→Prop):bt S (some n) (.app s x sz b) env H k=pK (jA sz b n (ev env s) (ev env x) H) k .mk:=by
 simp only[bt,pK,Option.some.injEq];apply propext;constructor
 ·rintro⟨_,rfl,h⟩;exact h
 ·intro h;exact⟨_,rfl,h⟩
theorem AU (d:Option Nat) (f:Nat) (args:List O) (k:AV→Hp→Prop):bt S d (.call f args) env H k=Hn S f (args.map (ev env)) H k .mk:=rfl
theorem aj {f:Nat} {args:List AV} {res:AV} {k:AV→Hp→Prop} (h:ai S.P S.G f args res) (hk:k res H) {u:Tw k}:Hn S f args H k u:= .inl ⟨res,h,hk⟩
theorem ik {f:Nat} {args:List AV} {res:AV} {k:AV→Prop} (h:ai S.P S.G f args res) (hk:k res) {u:Tv k}:Ii S f args k u:=⟨res,h,hk⟩
theorem AW d x (k:AV→Hp→Prop):aD S .no d (.af x) env H k=cD (aa (.af x) env) (fun x=>k x H) .mk:=by simp only[aD,Quiet,cD,or_false]
theorem x4 d c a b (k:AV→Hp→Prop):aD S .no d (.pick c a b) env H k=cD (aa (.pick c a b) env) (fun x=>k x H) .mk:=by simp only[aD,Quiet,cD,or_false]
theorem AX d a off (k:AV→Hp→Prop):aD S .no d (.bU a off) env H k=cD (aa (.bU a off) env) (fun x=>k x H) .mk:=by simp only[aD,Quiet,cD,or_false]
theorem AY d x i sz (k:AV→Hp→Prop):aD S .no d (.fH x i sz) env H k=cD (aa (.fH x i sz) env) (fun x=>k x H) .mk:=by simp only[aD,Quiet,cD,or_false]
theorem AZ d x i n sz (k:AV→Hp→Prop):aD S .no d (.xi x i n sz) env H k=cD (aa (.xi x i n sz) env) (fun x=>k x H) .mk:=by simp only[aD,Quiet,cD,or_false]
theorem A0 d x i (k:AV→Hp→Prop):aD S .no d (.mR x i) env H k=cD (aa (.mR x i) env) (fun x=>k x H) .mk:=by simp only[aD,Quiet,cD,or_false]
theorem A1 d x (k:AV→Hp→Prop):aD S .no d (.len x) env H k=cD (aa (.len x) env) (fun x=>k x H) .mk:=by simp only[aD,Quiet,cD,or_false]
theorem x5 d x (k:AV→Hp→Prop):aD S .no d (.lens x) env H k=cD (aa (.lens x) env) (fun x=>k x H) .mk:=by simp only[aD,Quiet,cD,or_false]
theorem A2 d x lo hi mx sz (k:AV→Hp→Prop):aD S .no d (.uM x lo hi mx sz) env H k=cD (aa (.uM x lo hi mx sz) env) (fun x=>k x H) .mk:=by simp only[aD,Quiet,cD,or_false]
theorem x6 d x lo hi (k:AV→Hp→Prop):aD S .no d (.gV x lo hi) env H k=cD (aa (.gV x lo hi) env) (fun x=>k x H) .mk:=by simp only[aD,Quiet,cD,or_false]
theorem A3 d op x y (k:AV→Hp→Prop):aD S .no d (.bin op x y) env H k=cD (aa (.bin op x y) env) (fun x=>k x H) .mk:=by simp only[aD,Quiet,cD,or_false]
theorem A4 d n x y (k:AV→Hp→Prop):aD S .no d (.xa n x y) env H k=cD (aa (.xa n x y) env) (fun x=>k x H) .mk:=by simp only[aD,Quiet,cD,or_false]
theorem A5 d n x y (k:AV→Hp→Prop):aD S .no d (.z7 n x y) env H k=cD (aa (.z7 n x y) env) (fun x=>k x H) .mk:=by simp only[aD,Quiet,cD,or_false]
theorem A6 d n x y (k:AV→Hp→Prop):aD S .no d (.zP n x y) env H k=cD (aa (.zP n x y) env) (fun x=>k x H) .mk:=by simp only[aD,Quiet,cD,or_false]
theorem x7 d n ks x y (k:AV→Hp→Prop):aD S .no d (.ny n ks x y) env H k=cD (aa (.ny n ks x y) env) (fun x=>k x H) .mk:=by simp only[aD,Quiet,cD,or_false]
theorem A7 d x (k:AV→Hp→Prop):aD S .no d (.not x) env H k=cD (aa (.not x) env) (fun x=>k x H) .mk:=by simp only[aD,Quiet,cD,or_false]
theorem A8 d x (k:AV→Hp→Prop):aD S .no d (.neg x) env H k=cD (aa (.neg x) env) (fun x=>k x H) .mk:=by simp only[aD,Quiet,cD,or_false]
theorem A9 d x y (k:AV→Hp→Prop):aD S .no d (.max x y) env H k=cD (aa (.max x y) env) (fun x=>k x H) .mk:=by simp only[aD,Quiet,cD,or_false]
theorem A' d x y (k:AV→Hp→Prop):aD S .no d (.min x y) env H k=cD (aa (.min x y) env) (fun x=>k x H) .mk:=by simp only[aD,Quiet,cD,or_false]
theorem A_ d x i (k:AV→Hp→Prop):aD S .no d (.ext x i) env H k=cD (aa (.ext x i) env) (fun x=>k x H) .mk:=by simp only[aD,Quiet,cD,or_false]
theorem Ba d z ps (k:AV→Hp→Prop):aD S .no d (.rp z ps) env H k=cD (aa (.rp z ps) env) (fun x=>k x H) .mk:=by simp only[aD,Quiet,cD,or_false]
theorem x8 d x off m (k:AV→Hp→Prop):aD S .no d (.qg x off m) env H k=cD (aa (.qg x off m) env) (fun x=>k x H) .mk:=by simp only[aD,Quiet,cD,or_false]
theorem x9 d n sz z ps (k:AV→Hp→Prop):aD S .no d (.lits n sz z ps) env H k=cD (aa (.lits n sz z ps) env) (fun x=>k x H) .mk:=by simp only[aD,Quiet,cD,or_false]
theorem x_ d x (k:AV→Hp→Prop):aD S .no d (.pd x) env H k=cD (aa (.pd x) env) (fun x=>k x H) .mk:=by simp only[aD,Quiet,cD,or_false]
theorem ya d x (k:AV→Hp→Prop):aD S .no d (.mq x) env H k=cD (aa (.mq x) env) (fun x=>k x H) .mk:=by simp only[aD,Quiet,cD,or_false]
theorem Bb d f cap (k:AV→Hp→Prop):aD S .no d (.z8 f cap) env H k=cD (aa (.z8 f cap) env) (fun x=>k x H) .mk:=by simp only[aD,Quiet,cD,or_false]
theorem Bc d kd x (k:AV→Hp→Prop):aD S .no d (.z' kd x) env H k=cD (aa (.z' kd x) env) (fun x=>k x H) .mk:=by simp only[aD,Quiet,cD,or_false]
theorem Bd d x (k:AV→Hp→Prop):aD S .no d (.kJ x) env H k=cD (aa (.kJ x) env) (fun x=>k x H) .mk:=by simp only[aD,Quiet,cD,or_false]
theorem Be d x (k:AV→Hp→Prop):aD S .no d (.zQ x) env H k=cD (aa (.zQ x) env) (fun x=>k x H) .mk:=by simp only[aD,Quiet,cD,or_false]
theorem Bf d x (k:AV→Hp→Prop):aD S .no d (.z_ x) env H k=cD (aa (.z_ x) env) (fun x=>k x H) .mk:=by simp only[aD,Quiet,cD,or_false]
theorem yb d t x (k:AV→Hp→Prop):aD S .no d (.qh t x) env H k=cD (aa (.qh t x) env) (fun x=>k x H) .mk:=by simp only[aD,Quiet,cD,or_false]
theorem yc d m a (k:AV→Hp→Prop):aD S .no d (.load m a) env H k=cD (aa (.load m a) env) (fun x=>k x H) .mk:=by simp only[aD,Quiet,cD,or_false]
theorem Bg (d:Option Nat) (f:Nat) (args:List O) (k:AV→Hp→Prop):aD S .no d (.call f args) env H k=Ii S f (args.map (ev env)) (fun x=>k x H) .mk:=by
 simp[aD,Quiet,aa,Ii]
theorem oc (env:Env) (n m:Nat) (x:AV):put env n x m=if m=n then x else env m:=rfl
end
def al:=And.intro @Ds<|And.intro @Dq (And.intro @AJ (And.intro @Dr (And.intro @Dt (And.intro @Du (And.intro @Dv (And.intro @AK (And.intro @Dw (And.intro @AL (And.intro @Dx (And.intro @Dy (And.intro @Dz (And.intro @DA (And.intro @AM (And.intro @DB (And.intro @DC (And.intro @DD (And.intro @DE (And.intro @DF (And.intro @DG (And.intro @AN (And.intro @AP (And.intro @AQ (And.intro @AR (And.intro @DH (And.intro @DI (And.intro @DJ (And.intro @DK (And.intro @DL (@AS)))))))))))))))))))))))))))))
def an:=And.intro @AZ<|And.intro @AW (And.intro @x4 (And.intro @AX (And.intro @AY (And.intro @A0 (And.intro @A1 (And.intro @x5 (And.intro @A2 (And.intro @x6 (And.intro @A3 (And.intro @A4 (And.intro @A5 (And.intro @A6 (And.intro @x7 (And.intro @A7 (And.intro @A8 (And.intro @A9 (And.intro @A' (And.intro @A_ (And.intro @Ba (And.intro @x8 (And.intro @x9 (And.intro @x_ (And.intro @ya (And.intro @Bb (And.intro @Bc (And.intro @Bd (And.intro @Be (And.intro @Bf (And.intro @yb (@yc))))))))))))))))))))))))))))))
end Go.Am

/- THE ABSTRACT MACHINE, part 23: states seen as others. -/
namespace Go.Am
open Go Go.RowKit
theorem eF (ρ:Lb→Lb) (env:Env):∀n,Env.any n= .any∨env n=bQ ρ (Env.any n):=fun _=> .inl rfl
theorem aZ {ρ:Lb→Lb} {env e:Env} {d:Nat} {x:AV} (h1:env d=bQ ρ x) (h2:∀n,e n= .any∨env n=bQ ρ (e n)):∀n,put e d x n= .any∨env n=bQ ρ (put e d x n):=by
 intro n;unfold put;split
 ·next h=>subst h;exact .inr h1
 ·exact h2 n
theorem eG (H:Hp):∀n,∀l∈(Env.any n).ar,H l≠ .unused:=by simp[Env.any,AV.ar]
theorem a6 {H:Hp} {e:Env} {d:Nat} {x:AV} (h1:∀l∈x.ar,H l≠ .unused) (h2:∀n,∀l∈(e n).ar,H l≠ .unused):∀n,∀l∈(put e d x n).ar,H l≠ .unused:=by
 intro n;unfold put;split
 ·exact h1
 ·exact h2 n
mutual
theorem qy:∀x:AV,bQ id x=x
 | .sl ..| .slk ..| .ptr ..| .any| .un| .bool _| .int ..| .str _| .list _| .nil0| .iN| .fy| .lptr _=>by simp[bQ]
 | .agg cs=>by simp[bQ,ky cs]
 | .ei cs=>by simp[bQ,ky cs]
 | .fn f fs cs=>by simp[bQ,ky fs,ky cs]
 | .ifc t x=>by simp[bQ,qy x]
theorem ky:∀xs:List AV,bT id xs=xs
 |[]=>by simp[bT]
 |x::r=>by simp[bT,qy x,ky r]
end
theorem qz (r:Row):bX id r=r:=by
 obtain⟨sz,els⟩:=r;simp only[bX,Row.mk.injEq,true_and];rw[show bT id=id from funext ky];simp
theorem Wk.same {env:Env} {H:Hp} {env2:Env} (e:∀n,env2 n= .any∨env n=bQ id (env2 n)) (m:∀n,∀l∈(env2 n).ar,H l≠ .unused)
  (rm:∀l r,H l= .live r→∀cs∈r.els,∀q∈ah cs,H q≠ .unused):Wk id env H env2 H:=
 ⟨e,fun l r h=>by rw[qz];exact h,fun _ _ _ _ h=>h,m,rm,fun l _=>⟨id,fun _=>rfl⟩,fun _ _ h=>h⟩
theorem Wk.none {env env2:Env} (e:∀n,env2 n= .any∨env n=bQ id (env2 n)) (m:∀n,∀l∈(env2 n).ar,Hp.none l≠ .unused):Wk id env Hp.none env2 Hp.none:=
 .same e m (by simp[Hp.none])
theorem wrap64 {n:Int} (h1: -9223372036854775808≤n) (h2:n≤9223372036854775807):IntKind.i64.wrap n=n:=by rw[IntKind.wrap_i64];omega
section
variable {σ:Type} {S:St} {Q:iC} {k:List It} {E:σ→Env} {HH:σ→Hp} {μ:σ→Nat} {n:Nat} {env:Env} {H:Hp}
theorem Iq:rP S Q k E HH μ n .normal env H=∃s,μ s<n∧∃ρ,Wk ρ env H (E s) (HH s):=rfl
theorem Ir (id:Nat):rP S Q k E HH μ n (.exit id) env H=match dS id k with
 |some k'=>go S Q k' env H
 |none=>Q (.exit id) env H:=rfl
theorem Is:rP S Q k E HH μ n .ret env H=Q .ret env H:=rfl
theorem Bh (id:Nat):dS id []=none:=rfl
theorem Bi (id i:Nat) (r:List It):dS id (.pF i::r)=if i=id then some r else dS id r:=rfl
theorem yd (id:Nat) (c:AC) (r:List It):dS id (.code c::r)=dS id r:=rfl
theorem ye (is:List cx) (es:List (List Nat)) (fs:List Fp):go S Q (.code (.fY is es fs)::k) env H=(va is es fs=true∧jV S (items 0 is fs) env H (go S Q k)):=by rw[go]
theorem Bj (l q:Lb) (j:Nat) (c:AC):go S Q (.code (.gh (.tF l q j) c)::k) env H=∃sz xs i n cs,H q= .live ⟨cs.length,[cs]⟩∧cs[j]?=some (.sl l sz i n)∧H l= .live ⟨sz,aG xs⟩∧l.fresh=true∧l≠q∧i+n≤xs.length∧Flat xs ∧
 go S Q (.code c::k) env (bL (bL H l .dead) q (.live ⟨cs.length,[cs.set j (.list ((xs.drop i).take n))]⟩)):=by rw[go]
theorem DP (t:Nat) (R:AV→Hp→Prop):ij [(none,t)] R .ret env H=R (env t) H:=by simp[ij,jh,ob,mE]
theorem Bl (m:Option Nat) (t:Nat) (R:AV→Hp→Prop):ij [(some m,t)] R .ret env H=cD (aN m (env t) H) (fun x=>R x H) .mk:=by
 simp only[ij,jh,ob,cD];cases aN m (env t) H<;>simp[mE]
theorem Bm (m:Option Nat) (t:Nat) (R:AV→Hp→Prop):ij [(some m,t)] R .normal env H=cD (aN m (env t) H) (fun x=>R x H) .mk:=by
 simp only[ij,jh,ob,cD];cases aN m (env t) H<;>simp[mE]
theorem DQ (t:Nat) (R:AV→Hp→Prop):ij [(none,t)] R .normal env H=R (env t) H:=by simp[ij,jh,ob,mE]
end
section
variable {S:St} {env:Env} {H:Hp}
theorem Bn (j:Nat) (f:List Fp) (k:Env→Hp→Prop):jV S (items j [] f) env H k=k env H:=rfl
theorem yf (j n:Nat) (i:b6) (f:Fp) (r:List cx) (fs:List Fp) (k:Env→Hp→Prop) :
 jV S (items j (⟨some n,none,i⟩::r) (f::fs)) env H k=(n<S.N∧aD S f (some n) i env H fun x H'=>jV S (items (j+1) r fs) (put env n x) H' k):=by rw[lk,xW]
theorem yg (j:Nat) (i:b6) (f:Fp) (r:List cx) (fs:List Fp) (k:Env→Hp→Prop) :
 jV S (items j (⟨none,none,i⟩::r) (f::fs)) env H k=aD S f none i env H fun x H'=>jV S (items (j+1) r fs) env H' k:=by rw[lk,xX]
theorem wm (j n s:Nat) (t:Bool) (i:b6) (f:Fp) (r:List cx) (fs:List Fp) (k:Env→Hp→Prop) :
 jV S (items j (⟨some n,some (s,t),i⟩::r) (f::fs)) env H k=(n<S.N∧gB (env s) t (aD S f (some n) i env H fun x H'=>jV S (items (j+1) r fs) (put env n x) H' k) (jV S (items (j+1) r fs) (put env n .un) H k) .mk):=by rw[lk,wj]
end
def dY:=And.intro @Di (And.intro @Dj (And.intro @AE (And.intro @Dk (And.intro @xY (And.intro @AG (And.intro @Dl (And.intro @Dm (And.intro @AH (And.intro @Dp (And.intro @Dn (And.intro @Bj (And.intro @ye (And.intro @AF (And.intro @AI (And.intro @Dh (And.intro @AB (And.intro @AD (And.intro @xV (And.intro @wi (And.intro @Bn (And.intro @yf (And.intro @yg (And.intro @wm (And.intro @F9 (And.intro @DM (And.intro @DN (And.intro @xZ (And.intro @DO (And.intro @AU (And.intro @Bg (And.intro @DP (And.intro @DQ (And.intro @Bl (And.intro @Bm (And.intro @Iq (And.intro @Ir (@Is)))))))))))))))))))))))))))))))))))))
def dZ:=And.intro @xU (And.intro @Az (And.intro @AA (And.intro @Ij (And.intro @Ik (And.intro @F7 (And.intro @F8 (And.intro @Il (And.intro @Io (And.intro @Ip (And.intro @oc (And.intro @Bh (And.intro @Bi (@yd)))))))))))))
end Go.Am

/- THE ABSTRACT MACHINE, part 24: lists that grow. -/
namespace Go.Am
open Go Go.RowKit
theorem Flat.one {xs:List IV} (h:Flat xs):∀cs∈aG xs,AV.pf cs:=by
 intro cs bx y hy;simp only[aG,List.mem_map] at bx;obtain⟨z,hz,rfl⟩:=bx;obtain⟨c,hc,rfl⟩:=List.mem_map.1 hy;have:=h z hz c hc;cases c<;>simp[IV.b7,AV.one];exact absurd rfl (this _)
theorem pG {sz:Nat} {xs:List IV} {H:Hp} (h:ia sz xs):jU sz (.list xs) H=some (aG xs):=by
 simp[jU,h,aG]
theorem Bo {sz b d:Nat} {xs:List IV} {H:Hp} (he:ia sz xs) (hf:Flat xs) (hb:xs.length*b≤140737488355328) (h0:0<b) (hu:H (.loc d)= .unused) :
  jA sz b d .nil0 (.list xs) H=some (.sl (.loc d) sz 0 xs.length,bL H (.loc d) (.live ⟨sz,aG xs⟩)):=by
 unfold jA;rw[pG he,Option.bind_some,if_neg (by simpa using hf.one)];have:(aG xs).length=xs.length:=by simp[aG]
 simp only;rw[if_pos ⟨by rw[this];exact hb,h0,hu⟩,this]
theorem yh {sz b d n:Nat} {l:Lb} {els:List (List AV)} {xs:List IV} {H:Hp} (hl:H l= .live ⟨sz,els⟩) (hn:n≤els.length) (he:ia sz xs) (hf:Flat xs) (hb:(n+xs.length)*b≤140737488355328) (h0:0<b)
  (hd:l≠l.app d) (hu:H (l.app d)= .unused) :
  jA sz b d (.sl l sz 0 n) (.list xs) H=some (.sl (l.app d) sz 0 (n+xs.length),bL (bL H l .dead) (l.app d) (.live ⟨sz,els.take n++aG xs⟩)):=by
 unfold jA;rw[pG he,Option.bind_some,if_neg (by simpa using hf.one)];have:(aG xs).length=xs.length:=by simp[aG]
 simp only[hl];rw[if_pos ⟨rfl,rfl,rfl,hn,by rw[this];exact hb,h0,hd,hu⟩,this]
theorem Bp (ρ:Lb→Lb) (x:IV):bQ ρ x.b7=x.b7:=by cases x<;>simp[IV.b7,bQ]
theorem lR (ρ:Lb→Lb):∀xs:List IV,bT ρ (xs.map IV.b7)=xs.map IV.b7
 |[]=>by simp[bT]
 |x::r=>by simp[bT,Bp,lR ρ r]
theorem rQ (ρ:Lb→Lb) (sz:Nat) (xs:List IV):bX ρ ⟨sz,aG xs⟩=⟨sz,aG xs⟩:=by
 simp[bX,aG,lR]
theorem Bq (x:IV):x.b7.ar=[]:=by cases x<;>simp[IV.b7,AV.ar]
theorem rR:∀xs:List IV,ah (xs.map IV.b7)=[]
 |[]=>rfl
 |x::r=>by simp[ah,Bq,rR r]
theorem bY {xs:List IV} {cs:List AV} (h:cs∈aG xs):ah cs=[]:=by
 simp only[aG,List.mem_map] at h;obtain⟨y,_,rfl⟩:=h;exact rR _
theorem Wk.one {env env2:Env} {H:Hp} {l0 l1:Lb} {sz:Nat} {xs:List IV} (he:∀n,env2 n= .any∨env n=bQ (fun _=>l1) (env2 n)) (hm:∀n,∀l∈(env2 n).ar,bL Hp.none l0 (.live ⟨sz,aG xs⟩) l≠ .unused)
  (h1:H l1= .live ⟨sz,aG xs⟩) (KG:l0.fresh=true) (Cp:l1.fresh=true) (hn:∀l,l.fresh=false→H l= .unused):Wk (fun _=>l1) env H env2 (bL Hp.none l0 (.live ⟨sz,aG xs⟩)):=by
 have hl:∀l r,bL Hp.none l0 (.live ⟨sz,aG xs⟩) l= .live r→l=l0∧r=⟨sz,aG xs⟩:=by
  intro l r h;by_cases e:l=l0
  ·subst e;simp at h;exact⟨rfl,h.symm⟩
  ·rw[aA _ _ e] at h;simp[Hp.none] at h
 refine⟨he,fun l r h=> ?_,fun l l' ⟨r,h⟩ ⟨r',h'⟩ _=>(hl l r h).1.trans (hl l' r' h').1.symm,hm,fun l r h cs bx q hq=> ?_,fun l hle=>⟨fun h=>absurd (hn l (Lb.gD hle)) h,fun⟨r,h⟩=> ?_⟩,fun _ _ _=>Cp⟩
 ·obtain⟨rfl,rfl⟩:=hl l r h;rw[rQ];exact h1
 ·obtain⟨rfl,rfl⟩:=hl l r h;rw[bY bx] at hq;simp at hq
 ·obtain⟨rfl,_⟩:=hl l r h;have JG:=Lb.gD hle;rw[KG] at JG;simp at JG
theorem jD:∀l:Lb,l.fresh=false→Hp.none l= .unused:=fun _ _=>rfl
theorem fJ {H:Hp} {n:Nat} {s:Slot} (h:∀l:Lb,l.fresh=false→H l= .unused):∀l:Lb,l.fresh=false→bL H (.loc n) s l= .unused:=by
 intro l hl;have:l≠ .loc n:=by rintro rfl;simp[Lb.fresh] at hl
 rw[aA _ _ this];exact h l hl
theorem ae (H:Hp) (l q:Lb) (s:Slot):bL H l s q=if q=l then s else H q:=rfl
section
variable {S:St} {env:Env} {H:Hp}
theorem az (R W:List Lb) (d:Option Nat) (m:Option Nat) (a:O) (k:AV→Hp→Prop):aD S (.rw R W) d (.load m a) env H k=cD (aN m (ev env a) H) (fun x=>(∀l∈bp (ev env a),l.iM∈R∨l.iM∈W)∧k x H) .mk:=by
 apply propext;simp only[aD,dw,cC,aF,cD];constructor
 ·rintro⟨x,H',h1,h2,_,h3⟩;simp only[Option.map_eq_some_iff,Prod.mk.injEq] at h1;obtain⟨y,h1,rfl,rfl⟩:=h1;exact⟨y,h1,h2,h3⟩
 ·rintro⟨x,h1,h2,h3⟩;exact⟨x,H,by simp[h1],h2,by simp,h3⟩
theorem aq (R W:List Lb) (m:Nat) (a x:O) (k:AV→Hp→Prop):aD S (.rw R W) none (.store m a x) env H k=hK (aE m (ev env a) (ev env x) H) (fun H'=>(∀l∈bp (ev env a),l.iM∈W)∧k .un H') .mk:=by
 apply propext;simp only[aD,dw,cC,aF,hK,if_true];constructor
 ·rintro⟨x,H',h1,_,h2,h3⟩;simp only[Option.map_eq_some_iff,Prod.mk.injEq] at h1;obtain⟨y,h1,rfl,rfl⟩:=h1;exact⟨_,h1,h2,h3⟩
 ·rintro⟨x,h1,h2,h3⟩;exact⟨.un,x,by simp[h1],by simp,h2,h3⟩
theorem aI (R W:List Lb) (n:Nat) (cs:List AV) (k:AV→Hp→Prop):aD S (.rw R W) (some n) (.new cs) env H k=(H (.loc n)= .unused∧0<cs.length∧cs.length≤maxLen∧(Lb.loc n)∈W ∧
  k (.ptr (.loc n) cs.length 0 0) (bL H (.loc n) (.live ⟨cs.length,[cs]⟩))):=by
 apply propext;simp only[aD,dw,cC,aF,Option.bind_some];constructor
 ·rintro⟨x,H',h1,_,h2,h3⟩;split at h1
  ·rename_i hc;simp only[Option.some.injEq,Prod.mk.injEq] at h1;obtain⟨rfl,rfl⟩:=h1;exact⟨hc.1,hc.2.1,hc.2.2,h2 (.loc n) (by simp),h3⟩
  ·simp at h1
 ·rintro⟨h1,h2,h3,h4,h5⟩;exact⟨_,_,by rw[if_pos ⟨h1,h2,h3⟩],by simp,by simpa[Lb.iM] using h4,h5⟩
theorem aJ (R W:List Lb) (n:Nat) (x:O) (k:AV→Hp→Prop):aD S (.rw R W) (some n) (.box x) env H k=(Lb.loc n∈W∧bK (ev env x) n H k):=by
 apply propext;simp only[aD,dw,cC,aF,Option.bind_some,bK];constructor
 ·rintro⟨y,H',h1,_,h2,h3⟩;split at h1
  ·rename_i hc;simp only[Option.some.injEq,Prod.mk.injEq] at h1;obtain⟨rfl,rfl⟩:=h1;exact⟨h2 (.loc n) (by simp),hc.1,hc.2.1,hc.2.2.1,hc.2.2.2,h3⟩
  ·simp at h1
 ·rintro⟨h4,h1,h2,h3,h6,h5⟩;exact⟨_,_,by rw[if_pos ⟨h1,h2,h3,h6⟩],by simp,by simpa[Lb.iM] using h4,h5⟩
def bJ (n:Nat) (s:AV):List Lb:=
 match s with
 | .sl l _ _ _=>[l,l.app n]
 | .slk l _ _ _ _=>[l,.loc n]
 |_=>[.loc n]
theorem aK (R W:List Lb) (n:Nat) (s x:O) (sz b:Nat) (k:AV→Hp→Prop):aD S (.rw R W) (some n) (.app s x sz b) env H k =
  pK (jA sz b n (ev env s) (ev env x) H) (fun y H'=>(∀l∈bp (ev env x),l.iM∈R∨l.iM∈W)∧(∀l∈bJ n (ev env s),l.iM∈W)∧k y H') .mk:=by
 apply propext
 have:aF (some n) (.app s x sz b) env=bJ n (ev env s):=by
  simp only[aF,bJ];cases ev env s<;>simp
 simp only[aD,dw,this,cC,Option.bind_some,pK]
end
end Go.Am
