import Derived.Test.YtfinkeaikbmpgaaGreatDoorKAm17
import Derived.Deep.LoopGhost
import Derived.IntWalk
set_option linter.unusedSimpArgs false
set_option linter.unusedVariables false
set_option linter.unnecessarySimpa false
set_option linter.defProp false
/- THE ABSTRACT MACHINE, part 15: code, walked. -/
namespace Go.Am
open Go Go.RowKit
inductive Yl where
 |code (c:Code)
 |Ci (id:Nat)
def PH (P:Program) (Qh:Exit→Act→World→Prop):List Yl→Exit→Act→World→Prop
 |[]=>Qh
 | .code c::k=>Exit.then (c.wp P (PH P Qh k)) (PH P Qh k)
 | .Ci id::k=>Exit.inBlock id (PH P Qh k)
def AC.bare:AC→AC
 | .seq a b=> .seq a.bare b.bare
 | .cond x a b=> .cond x a.bare b.bare
 | .block id c=> .block id c.bare
 | .loop c=> .loop c.bare
 | .ec is=> .ec (is.map dD.pG)
 | .fg is es _=> .fg (is.map dD.pG) es []
 | .gh _ c=>c.bare
 |c=>c
def td (P:Program) (G:Nat→Option (List IV)) (ops:Array Oper):List Oper→Option (List dD)
 |[]=>some []
 |o::r=>(vh P G ops o).bind fun i=>(td P G ops r).map fun s=>i::s
def iL (P:Program) (G:Nat→Option (List IV)):Code→Option AC
 | .skip=>some .skip
 | .seq a b=>(iL P G a).bind fun x=>(iL P G b).map fun y=> .seq x y
 | .cond c a b=>(co G c).bind fun c=>(iL P G a).bind fun x=>(iL P G b).map fun y=> .cond c x y
 | .block id c=>(iL P G c).map fun x=> .block id x
 | .loop c=>(iL P G c).map fun x=> .loop x
 | .exit id=>some (.exit id)
 | .ret=>some .ret
 | .region _ ops false=>(td P G ops ops.toList).map .ec
 | .region _ ops true=>if P.follows .mixedOrders=true then(td P G ops ops.toList).map fun is=> .fg is (lC ops) [] else none
 |_=>none
inductive Vn (P:Program) (G:Nat→Option (List IV)):Yl→It→Prop
 |code {c:Code} {x:AC}:iL P G c=some x.bare→Vn P G (.code c) (.code x)
 |Ci (id:Nat):Vn P G (.Ci id) (.Ci id)
def lift (K:Kx) (Q:oW) (e:Exit) (a:Act) (w:World):Prop:=∃env H β,Q e env H∧bu K β env H a w
def SOK (K:Kx) (Q:oW) (ck:List Yl) (env:Env) (H:Hp):Prop:=∀β a w,bu K β env H a w→PH K.P (lift K Q) ck .normal a w
def vk (S:St) (Q:oW) (c:AC) (k:List It) (env:Env) (H:Hp):Prop:=
 ∀(K:Kx),(⟨K.P,K.G,K.N⟩:St)=S→(∀l,live K.H0 l→l.entry=true)→∀c0 ck,iL S.P S.G c0=some c.bare→gT (Vn S.P S.G) ck k→SOK K Q (.code (.loop c0)::ck) env H
def nb (S:St) (env:Env) (H:Hp) (env2:Env) (H2:Hp):Prop:=
 ∀(K:Kx) (β:Lb→Option Nat) (a:Act) (w:World),(⟨K.P,K.G,K.N⟩:St)=S→(∀l,live K.H0 l→l.entry=true)→bu K β env H a w→∃β',bu K β' env2 H2 a w
def Choice (S:St) (env:Env) (H:Hp) (T:Type) (E:T→Env) (HH:T→Hp):Prop:=
 ∀(K:Kx) (β:Lb→Option Nat) (a:Act) (w:World),(⟨K.P,K.G,K.N⟩:St)=S→(∀l,live K.H0 l→l.entry=true)→bu K β env H a w→∃t β',bu K β' (E t) (HH t) a w
def Cut (n:Nat) (f:Env→Hp→Prop) (env:Env) (H:Hp):Prop:=f env H
def go (S:St) (Q:oW):List It→Env→Hp→Prop
 |[]=>fun env H=>Q .normal env H
 | .Ci _::k=>go S Q k
 | .code .skip::k=>go S Q k
 | .code (.seq a b)::k=>go S Q (.code a:: .code b::k)
 | .code (.cond x a b)::k=>fun env H=>∃t,ev env x= .bool t∧(t=true→go S Q (.code a::k) env H)∧(t=false→go S Q (.code b::k) env H)
 | .code (.block id c)::k=>go S Q (.code c:: .Ci id::k)
 | .code (.loop c)::k=>vk S Q c k
 | .code (.exit id)::k=>match h:jS id k with
  |some k'=>go S Q k'
  |none=>fun env H=>Q (.exit id) env H
 | .code .ret::_=>fun env H=>Q .ret env H
 | .code (.ec is)::k=>fun env H=>AO S is env H (go S Q k)
 | .code (.fg is es fs)::k=>fun env H=>I6 is es fs=true∧sZ S (items 0 is fs) env H (go S Q k)
 | .code (.gh g c)::k=>match g with
  | .ik ns=>fun env H=>go S Q (.code c::k) (Ad ns env) H
  | .Ch l d=>fun env H=>∃sz xs i n,env d= .sl l sz i n∧H l= .live ⟨sz,ar xs⟩∧l.fresh=true∧i+n≤xs.length∧Flat xs ∧
   go S Q (.code c::k) (put env d (.list ((xs.drop i).take n))) (bF H l .dead)
  | .Ha l q j=>fun env H=>∃sz xs i n cs,H q= .live ⟨cs.length,[cs]⟩∧cs[j]?=some (.sl l sz i n)∧H l= .live ⟨sz,ar xs⟩∧l.fresh=true∧l≠q∧i+n≤xs.length∧Flat xs ∧
   go S Q (.code c::k) env (bF (bF H l .dead) q (.live ⟨cs.length,[cs.set j (.list ((xs.drop i).take n))]⟩))
  | .own d sz=>fun env H=>env d= .nil0∧0<sz∧H (.loc d)= .unused∧go S Q (.code c::k) (put env d (.sl (.loc d) sz 0 0)) (bF H (.loc d) (.live ⟨sz,[]⟩))
  | .cut n=>Cut n (go S Q (.code c::k))
  | .xD=>fun env H=>∃env2 H2,nb S env H env2 H2∧go S Q (.code c::k) env2 H2
  | .Vm=>fun env H=>∃(T:Type) (E:T→Env) (HH:T→Hp),Choice S env H T E HH∧∀t,go S Q (.code c::k) (E t) (HH t)
termination_by k=>yy k
decreasing_by
 all_goals simp only[yy,It.sz,AC.sz]
 all_goals first|omega|(have:=wB h;omega)
def wC {S:St} {Q:oW} {id:Nat} {k k':List It} (h:jS id k=some k'):go S Q (.code (.exit id)::k)=go S Q k':=by
 rw[go];split
 ·rename_i k'' h2;rw[h] at h2;cases h2;rfl
 rename_i h2;rw[h] at h2;cases h2
def wD {S:St} {Q:oW} {id:Nat} {k:List It} (h:jS id k=none):go S Q (.code (.exit id)::k)=Q (.exit id):=by
 rw[go];split
 ·rename_i k'' h2;rw[h] at h2;cases h2
 rfl
section
variable {K:Kx} {β:Lb→Option Nat} {env:Env} {H:Hp} {a:Act} {w:World}
theorem Ae (P:Program) (Qh:Exit→Act→World→Prop):∀(ck:List Yl) (a:Act) (w:World),Qh .ret a w→PH P Qh ck .ret a w
 |[],a,w,h=>h
 | .code c::k,a,w,h=>by simp only[PH,Exit.then];exact Ae P Qh k a w h
 | .Ci id::k,a,w,h=>by simp only[PH,Exit.inBlock];exact Ae P Qh k a w h
theorem rb {P:Program} {G:Nat→Option (List IV)} (Qh:Exit→Act→World→Prop) {id:Nat}:∀(ck:List Yl) (k:List It),gT (Vn P G) ck k →
  match jS id k with
  |some k'=>∃Mu,gT (Vn P G) Mu k'∧∀a w,PH P Qh Mu .normal a w→PH P Qh ck (.exit id) a w
  |none=>∀a w,Qh (.exit id) a w→PH P Qh ck (.exit id) a w
 |_,_,.nil=>by simp only[jS];exact fun a w h=>h
 |_,_,@gT.cons _ _ _ _ _ ck k h1 h2=>by
  cases h1 with
  |code hc=>
   have ih:=rb Qh (id:=id) ck k h2;simp only[jS];split<;>rename_i hp<;>rw[hp] at ih<;>simp only at ih
   ·obtain⟨Mu,e1,e2⟩:=ih;exact⟨Mu,e1,fun a w h=>by simp only[PH,Exit.then];exact e2 a w h⟩
   exact fun a w h=>by simp only[PH,Exit.then];exact ih a w h
  |Ci i=>
  have ih:=rb Qh (id:=id) ck k h2;simp only[jS];by_cases e:i=id
  ·simp only[e,adH];exact⟨ck,h2,fun a w h=>by simp only[PH,Exit.inBlock,adH];exact h⟩
  simp only[e,adS];split<;>rename_i hp<;>rw[hp] at ih<;>simp only at ih
  ·obtain⟨Mu,e1,e2⟩:=ih;exact⟨Mu,e1,fun a w h=>by simp only[PH,Exit.inBlock,aef e,adS];exact e2 a w h⟩
  exact fun a w h=>by simp only[PH,Exit.inBlock,aef e,adS];exact ih a w h
theorem te {P:Program} {G:Nat→Option (List IV)} {ops:Array Oper}:∀(l:List Oper) (is:List dD),td P G ops l=some (is.map dD.pG)→gT (fun o i=>vh P G ops o=some (dD.pG i)) l is
 |[],is,h=>by
  simp[td] at h;have:is=[]:=by cases is<;>simp_all
  subst this;exact .nil
 |o::r,is,h=>by
  simp only[td] at h;obtain⟨i,h1,h⟩:=cB h;obtain⟨s,h2,h3⟩:=dr h;cases is with
  |nil=>simp at h3
  |cons j is=>
  simp only[ad5,aeu] at h3;obtain⟨rfl,rfl⟩:=h3;exact .cons h1 (te r is h2)
def bu.Ad (hr:bu K β env H a w) (ns:List Nat):bu K β (Am.Ad ns env) H a w:=
 ⟨hr.defers,hr.size,fun n=>by unfold Am.Ad;split;exact hr.mS n;simp[RV],hr.rows,hr.own,hr.inj,fun n l hl=>by
  unfold Am.Ad at hl;split at hl
  ·exact hr.kL n l hl
  simp[AV.aB] at hl,hr.fk,hr.frame,hr.l_,hr.nF,hr.fr⟩
def zv (hr:bu K β env H a w) (d:Nat) {x:AV} (hx:RV w β H (Im K β H) x (a.tmps.getD d undef)) (hm:∀l∈x.aB,H l≠ .unused):bu K β (put env d x) H a w:=
  ⟨hr.defers, hr.size, fun n => by unfold put; split; · next h => subst h; exact hx
                                   exact hr.mS n,hr.rows,hr.own,hr.inj,fun n l hl=>by
    unfold put at hl;split at hl
    · exact hm l hl
    exact hr.kL n l hl,hr.fk,hr.frame,hr.l_,hr.nF,hr.fr⟩
def Hb (hr:bu K β env H a w) {l:Lb} {sz:Nat} {xs:List IV} {i n:Nat} {v:Value} (hl:H l= .live ⟨sz,ar xs⟩) (hf:l.fresh=true) (qW:i+n≤xs.length) (B_:Flat xs)
  (hv:RV w β H (Im K β H) (.sl l sz i n) v):RV w β (bF H l .dead) (Im K β (bF H l .dead)) (.list ((xs.drop i).take n)) v:=by
 have bo:∀q,live (bF H l .dead) q→live H q∧q≠l:=by
  rintro q ⟨r,h⟩;by_cases e:q=l
  ·subst e;simp at h
  rw[ax _ _ e] at h;exact⟨⟨r,h⟩,e⟩
 have hk:mV w w (Im K β H) (Im K β (bF H l .dead)):=⟨fun k hk hs=>⟨⟨hk.1,fun q hq=>hk.2 q (bo q hq).1⟩,hs,rfl⟩⟩;simp only[RV] at hv;obtain⟨ad,c,rfl,h2,h3,h4,h5⟩:=hv;simp only[RV,kP];have hlen:((xs.drop i).take n).length=n:=by simp;omega
 rw[hlen];refine⟨ad,c,rfl,h2,h3,?_⟩;by_cases hn:n=0
 ·exact .inl hn
 right;rcases h5 ⟨_,hl⟩ with h6|⟨g,S,e1,e2,e3,e4⟩
 ·omega
 obtain⟨cur,e0,cap,k1,k2,k3,k4,k5⟩:=(hr.rows l _ hl).block e1;have pC:0<sz:=(hr.rows l _ hl).1;have TD:Im K β (bF H l .dead) g:=⟨.inr (hr.fr l g ⟨_,hl⟩ hf e1),fun q hq hb=>(bo q hq).2 (hr.inj q l g (bo q hq).1 ⟨_,hl⟩ hb e1)⟩;refine⟨g,i*sz,sz,e2,TD,(aed.1 k1).1,pC,pg _ _ _ (fun k y hy=> ?_)⟩;have vH:xs[i+k]?=some y:=by
  rw[adT] at hy;split at hy
  ·rwa[aeD] at hy
  simp at hy
 rw[ku];have BE:y.cells.length=sz:=by
  have:=(hr.rows l _ hl).2.1 (y.cells.map IV.gK) (by
   simp only[ar];exact afd (f:=fun y:IV=>y.cells.map IV.gK) (adu vH))
  simpa using this
 refine⟨BE.symm,nS _ _ _ (fun j z hz=> ?_)⟩;obtain⟨u,q1,q2⟩:=k5 (i+k) j (y.cells.map IV.gK) z.gK (by simp[ar,vH]) (by simp[hz]);refine⟨u,?_,z_ hk (B_ y (adu vH) z (adu hz)) q2⟩;rw[cell_of_row w g _ cur e0 (0,0) k1,←q1];congr 1;rw[ad_]
theorem lD {P:Program} {G:Nat→Option (List IV)} {c0:Code} {x:AC} (h:iL P G c0=some x) :
  match x with
  | .skip=>c0= .skip
  | .seq x y=>∃a b,c0= .seq a b∧iL P G a=some x∧iL P G b=some y
  | .cond o x y=>∃c a b,c0= .cond c a b∧co G c=some o∧iL P G a=some x∧iL P G b=some y
  | .block id x=>∃a,c0= .block id a∧iL P G a=some x
  | .loop x=>∃a,c0= .loop a∧iL P G a=some x
  | .exit id=>c0= .exit id
  | .ret=>c0= .ret
  | .ec is=>∃id ops,c0= .region id ops false∧td P G ops ops.toList=some is
  | .fg is es fs=>∃id ops,c0= .region id ops true∧P.follows .mixedOrders=true∧es=lC ops∧td P G ops ops.toList=some is
  | .gh _ _=>False:=by
 cases c0 with
 |skip=>simp only[iL,jl] at h;subst h;rfl
 |seq a b=>
  simp only[iL] at h;obtain⟨x1,h1,h⟩:=cB h;obtain⟨y1,h2,rfl⟩:=dr h;exact⟨a,b,rfl,h1,h2⟩
 |cond c a b=>
  simp only[iL] at h;obtain⟨c1,h0,h⟩:=cB h;obtain⟨x1,h1,h⟩:=cB h;obtain⟨y1,h2,rfl⟩:=dr h;exact⟨c,a,b,rfl,h0,h1,h2⟩
 |block id a=>
  simp only[iL] at h;obtain⟨y1,h2,rfl⟩:=dr h;exact⟨a,rfl,h2⟩
 |loop a=>
  simp only[iL] at h;obtain⟨y1,h2,rfl⟩:=dr h;exact⟨a,rfl,h2⟩
 |exit id=>simp only[iL,jl] at h;subst h;rfl
 |ret=>simp only[iL,jl] at h;subst h;rfl
 |region id ops draw=>
  cases draw with
  |true=>
   simp only[iL] at h;split at h
   ·rename_i hm;obtain⟨is,h2,rfl⟩:=dr h;exact⟨id,ops,rfl,hm,rfl,h2⟩
   simp at h
  |false=>
  simp only[iL] at h;obtain⟨is,h2,rfl⟩:=dr h;exact⟨id,ops,rfl,h2⟩
 |rangeFunc _ _ _ _=>simp[iL] at h
 |scope _=>simp[iL] at h
 |label _=>simp[iL] at h
 |goto _=>simp[iL] at h
 |refuse _=>simp[iL] at h
def go_sound (hS:∀l,live K.H0 l→l.entry=true) (Q:oW):∀(n:Nat) (k:List It) (ck:List Yl),yy k≤n→gT (Vn K.P K.G) ck k →
  ∀env H,go ⟨K.P,K.G,K.N⟩ Q k env H→SOK K Q ck env H:=by
 intro n;induction n with
 |zero=>
  intro k ck hn hc env H hg β a w hr;cases hc with
  |nil=>
   rw[go] at hg;exact⟨env,H,β,hg,hr⟩
  |@cons x i ck k h1 h2=>
  cases i with
  |code c=>have:=c.M7;simp only[yy,It.sz] at hn;omega
  |Ci id=>simp only[yy,It.sz] at hn;omega
 |succ n ih=>
 intro k ck hn hc env H hg β a w hr;cases hc with
 |nil=>
  rw[go] at hg;exact⟨env,H,β,hg,hr⟩
 |@cons x i ck k h1 h2=>
 cases h1 with
 |Ci id=>
  rw[go] at hg;simp only[PH,Exit.inBlock];exact ih k ck (by simp only[yy,It.sz] at hn;omega) h2 env H hg β a w hr
 |@code c0 c pH=>
 simp only[PH,Exit.then];have M8:=c.M7;cases c with
 |skip=>
  rw[go] at hg;simp only[AC.bare] at pH;have e:=lD pH;simp only at e;subst e;exact wp_skip (ih k ck (by simp only[yy,It.sz,AC.sz] at hn;omega) h2 env H hg β a w hr)
 |seq x y=>
  rw[go] at hg;obtain⟨x0,y0,rfl,e1,e2⟩:=lD pH;refine wp_seq ?_;have:=ih (.code x:: .code y::k) (.code x0:: .code y0::ck) (by simp only[yy,It.sz,AC.sz] at hn ⊢;omega) (.cons (.code e1) (.cons (.code e2) h2)) env H hg β a w hr;simpa only[PH,Exit.then] using this
 |cond x y z=>
  rw[go] at hg;obtain⟨o0,y0,z0,rfl,e0,e1,e2⟩:=lD pH;obtain⟨t,ht,g1,g2⟩:=hg;have hv:=hr.ev e0;rw[ht] at hv;simp only[RV] at hv;refine wp_cond_split hv ?_ ?_<;>intro h
  ·have:=ih (.code y::k) (.code y0::ck) (by simp only[yy,It.sz,AC.sz] at hn ⊢;omega) (.cons (.code e1) h2) env H (g1 h) β a w hr;simpa only[PH,Exit.then] using this
  have:=ih (.code z::k) (.code z0::ck) (by simp only[yy,It.sz,AC.sz] at hn ⊢;omega) (.cons (.code e2) h2) env H (g2 h) β a w hr;simpa only[PH,Exit.then] using this
 |block id c=>
  rw[go] at hg;obtain⟨c1,rfl,e1⟩:=lD pH;refine wp_block ?_;have:=ih (.code c:: .Ci id::k) (.code c1:: .Ci id::ck) (by simp only[yy,It.sz,AC.sz] at hn ⊢;omega) (.cons (.code e1) (.cons (.Ci id) h2)) env H hg β a w hr;simpa only[PH,Exit.then] using this
 |loop c=>
  rw[go] at hg;obtain⟨c1,rfl,e1⟩:=lD pH;have:=hg K rfl hS c1 ck e1 h2 β a w hr;simpa only[PH,Exit.then] using this
 |exit id=>
  simp only[AC.bare] at pH;have e:=lD pH;simp only at e;subst e;have hp:=rb (P:=K.P) (G:=K.G) (lift K Q) (id:=id) ck k h2;refine wp_exit ?_;cases vL:jS id k with
  |some k'=>
   rw[wC vL] at hg;rw[vL] at hp;obtain⟨Mu,e1,e2⟩:=hp;have:=wB vL;exact e2 a w (ih k' Mu (by simp only[yy,It.sz,AC.sz] at hn;omega) e1 env H hg β a w hr)
  |none=>
  rw[wD vL] at hg;rw[vL] at hp;exact hp a w ⟨env,H,β,hg,hr⟩
 |ret=>
  simp only[AC.bare] at pH;have e:=lD pH;simp only at e;subst e;rw[go] at hg;exact wp_ret (Ae _ _ _ _ _ ⟨env,H,β,hg,hr⟩)
 |ec is=>
  obtain⟨id,ops,rfl,e1⟩:=lD pH;rw[go] at hg;refine wp_region_list ?_;refine EN (fun env' H' β' a' w' q1 q2=> ?_) ops.toList is env H a w β (te _ _ e1) hg hr;exact ih k ck (by simp only[yy,It.sz,AC.sz] at hn;omega) h2 env' H' q1 β' a' w' q2
 |fg is es fs=>
  obtain⟨id,ops,rfl,hm,rfl,e1⟩:=lD pH;rw[go] at hg;refine ET hr hm (te _ _ e1) hg.1 (fun env' H' β' a' w' q1 q2=> ?_) hg.2;exact ih k ck (by simp only[yy,It.sz,AC.sz] at hn;omega) h2 env' H' q1 β' a' w' q2
 |gh g c=>
 have Vo:iL K.P K.G c0=some c.bare:=pH;have lP:∀env' H',go ⟨K.P,K.G,K.N⟩ Q (.code c::k) env' H'→∀β',bu K β' env' H' a w→c0.wp K.P (PH K.P (lift K Q) ck) a w:=by
  intro env' H' h β' sY;have:=ih (.code c::k) (.code c0::ck) (by simp only[yy,It.sz,AC.sz] at hn ⊢;omega) (.cons (.code Vo) h2) env' H' h β' a w sY;simpa only[PH,Exit.then] using this
 cases g with
 |ik ns=>rw[go] at hg;exact lP _ _ hg β (hr.Ad ns)
 |cut m=>rw[go] at hg;exact lP _ _ hg β hr
 |xD=>
  rw[go] at hg;obtain⟨env2,H2,g1,g2⟩:=hg;obtain⟨β',sY⟩:=g1 K β a w rfl hS hr;exact lP _ _ g2 β' sY
 |Vm=>
  rw[go] at hg;obtain⟨T,E,HH,g1,g2⟩:=hg;obtain⟨t,β',sY⟩:=g1 K β a w rfl hS hr;exact lP _ _ (g2 t) β' sY
 |own d sz=>
  rw[go] at hg;obtain⟨g1,g2,g3,g4⟩:=hg;have h3:=hr.s9 (.loc d) g3 (r:=⟨sz,[]⟩) (Below.refl _ _) none (by simp) (by simp) ⟨g2,by simp,by simp⟩;have hv:=h3.mS d;rw[g1] at hv;simp only[RV] at hv;obtain⟨ad,hv⟩:=hv;exact lP _ _ g4 _ (zv h3 d (by rw[hv];simp only[RV];exact⟨ad,0,rfl,adw _,by simp[maxLen],by simp,fun _=> .inl rfl⟩) (by simp[AV.aB]))
 |Ch l d=>
  rw[go] at hg;obtain⟨sz,xs,i,n,g1,g2,g3,g4,g5,g6⟩:=hg;have hv:=hr.mS d;rw[g1] at hv;exact lP _ _ g6 _ (zv (hr.kill l (by rw[g2];simp)) d (Hb hr g2 g3 g4 g5 hv) (by simp[AV.aB]))
 |Ha l q j=>
 rw[go] at hg;obtain⟨sz,xs,i,n,cs,g1,g2,g3,g4,g5,g6,g7,g8⟩:=hg;have hk:=hr.kill l (by rw[g3];simp);have hq:bF H l .dead q= .live ⟨cs.length,[cs]⟩:=by rw[ax _ _ (aef g5)];exact g1
 have pC:0<cs.length:=(hr.rows q _ g1).1;cases hb:β q with
 |none=>
  have:=(hr.rows q _ g1).2.2;simp[hb] at this
 |some g=>
 obtain⟨cur,e0,cap,k1,k2,k3,k4,k5⟩:=(hr.rows q _ g1).block hb;obtain⟨cur',e0',ac',k1',k2',k3',k4',k5'⟩:=(hk.rows q _ hq).block hb;rw[k1] at k1';cases k1';have wu:j<cs.length:=(ag6.1 g2).1;have oV:=hk.setRow q (r':=⟨cs.length,[cs.set j (.list ((xs.drop i).take n))]⟩) (cur':=cur) (cap:=cap) hq hb k1 rfl rfl k2 k3 (by simpa using k4) (by simp)
  (by
   intro ds ED p hp;simp at ED;subst ED;have:p∈ah cs:=by
    obtain⟨y,hy,Qs⟩:∃y∈cs.set j (.list ((xs.drop i).take n)),p∈y.aB:=by
     generalize cs.set j (.list ((xs.drop i).take n))=ds at hp;induction ds with
     |nil=>simp[ah] at hp
     |cons y r ih2=>
     simp only[ah,adD] at hp;rcases hp with hp|hp
     ·exact⟨y,by simp,hp⟩
     obtain⟨z,hz,hpz⟩:=ih2 hp;exact⟨z,by simp[hz],hpz⟩
    rcases aeY hy with hy|rfl
    ·obtain⟨m,hm⟩:=aeh hy;exact gL _ _ _ hm p Qs
    simp[AV.aB] at Qs
   have:=hk.fk q _ hq cs (by simp) p this;exact this)
  (by
   intro i' j' ds x0 jz oO;cases i' with
   |succ i'=>simp at jz
   |zero=>
   simp at jz;subst jz;by_cases e:j'=j
   ·subst e;rw[aeA wu] at oO;cases oO;obtain⟨v,q1,q2⟩:=k5 0 j' cs _ (by simp) g2;exact⟨v,q1,Hb hr g3 g4 g6 g7 q2⟩
   rw[aeH (aef e)] at oO;exact k5' 0 j' cs x0 (by simp) oO)
 have fH:w.setRow g cur=w:=setRow_self w g cur e0 (0,0) k1;rw[fH] at oV;exact lP _ _ g8 _ oV
end

abbrev RO:=Option (Option Nat)×Nat
def I8 (P:Program):ResultVar→Option RO
 | .tmp t=>some (none,t)
 | .cell a t=>(Kl P t).map fun m=>(some m,a)
def xH (P:Program):List ResultVar→Option (List RO)
 |[]=>some []
 |r::s=>(I8 P r).bind fun x=>(xH P s).map fun y=>x::y
def vM (r:RO) (env:Env) (H:Hp):Option AV:=
 match r.1 with
 |none=>some (env r.2)
 |some m=>jR m (env r.2) H
def jc (env:Env) (H:Hp):List RO→Option (List AV)
 |[]=>some []
 |r::s=>(vM r env H).bind fun x=>(jc env H s).map fun y=>x::y
def jf:List AV→AV
 |[x]=>x
 |xs=> .dM xs
def kX (rs:List RO) (R:AV→Hp→Prop):oW:=fun e env H=>(e= .normal∨e= .ret)∧∃xs,jc env H rs=some xs∧R (jf xs) H
def lE (args:List AV):Env:=fun n=>args.getD n .un
def an (P:Program) (G:Nat→Option (List IV)) (f:Nat):Option (Nat×List RO×AC):=
 (P.funcs[f]?).bind fun fn=>fn.body.bind fun c=>(xH P fn.results.toList).bind fun rs=>(iL P G c).map fun x=>(fn.ntmps,rs,x)
section
variable {K:Kx} {β:Lb→Option Nat} {env:Env} {H:Hp} {a:Act} {w:World}
theorem Hc (hr:bu K β env H a w) {rv:ResultVar} {r:RO} (hc:I8 K.P rv=some r) {x:AV} (hx:vM r env H=some x) :
  ∃v,(match rv with
   | .tmp t=>(pure (a.tmps.getD t undef):Sem Value)
   | .cell b t=>do loadVar t (←asAddr (a.tmps.getD b undef))).run K.P w= .ok v w∧RV w β H (Im K β H) x v∧∀l∈x.aB,H l≠ .unused:=by
 cases rv with
 |tmp t=>
  simp only[I8,jl] at hc;subst hc;simp only[vM,jl] at hx;subst hx;exact⟨_,by simp,hr.mS t,hr.kL t⟩
 |cell b t=>
 simp only[I8] at hc;obtain⟨m,h1,rfl⟩:=dr hc;simp only[vM] at hx;obtain⟨v,q1,q3,q4⟩:=IY (o:={(default:Oper) with op:= .load t (.tmp b)}) (x':= .t b) hr rfl h1 rfl hx;have hv:=hr.mS b;cases he:env b with
 |ptr l sz i j=>
  rw[he] at hv;simp only[RV] at hv;obtain⟨ad,e1,e2⟩:=hv;simp only[execOp,Act.eval,e1,Instr.loadAt,Instr.sureAddr,Sem.run_bind,Sem.run_pure,Result.andThen_ok] at q1;refine⟨v,?_,q3,q4⟩;simp only[e1,asAddr,Sem.run_bind,Sem.run_pure,Result.andThen_ok];cases hl:(loadVar t ad).run K.P w with
  |ok u w2=>
   rw[hl] at q1;simp only[Result.andThen_ok,Result.ok.injEq] at q1;obtain⟨q1,rfl⟩:=q1;cases q1;rfl
  |_=>rw[hl] at q1;simp at q1
 |_=>rw[he] at hx;simp[jR] at hx
theorem yz (hr:bu K β env H a w):∀(rvs:List ResultVar) (rs:List RO) (xs:List AV),xH K.P rvs=some rs→jc env H rs=some xs →
  ∃vs,(rvs.mapM (m:=Sem) fun
   | .tmp t=>(pure (a.tmps.getD t undef):Sem Value)
   | .cell b t=>do loadVar t (←asAddr (a.tmps.getD b undef))).run K.P w= .ok vs w∧cM w β H (Im K β H) xs vs∧∀l∈ah xs,H l≠ .unused
 |[],rs,xs,hc,hx=>by
  simp only[xH,jl] at hc;subst hc;simp only[jc,jl] at hx;subst hx;exact⟨[],by simp,by simp[cM],by simp[ah]⟩
 |rv::rvs,rs,xs,hc,hx=>by
  simp only[xH] at hc;obtain⟨r,h1,hc⟩:=cB hc;obtain⟨Ym,h2,rfl⟩:=dr hc;simp only[jc] at hx;obtain⟨x,h3,hx⟩:=cB hx;obtain⟨Es,h4,rfl⟩:=dr hx;obtain⟨v,e1,e2,e3⟩:=Hc hr h1 h3;obtain⟨vs,k1,k2,k3⟩:=yz hr rvs Ym Es h2 h4;refine⟨v::vs,?_,⟨v,vs,rfl,e2,k2⟩,?_⟩
  ·rw[List.mapM_cons];simp only[Sem.run_bind,e1,Result.andThen_ok,k1,Sem.run_pure]
  intro l hl;simp only[ah,adD] at hl;rcases hl with hl|hl
  ·exact e3 l hl
  exact k3 l hl
def BP (hr:bu K β env H a w) {fn:Func} {rs:List RO} {xs:List AV} (hc:xH K.P fn.results.toList=some rs) (hx:jc env H rs=some xs) :
  ∃v,(results fn a.tmps).run K.P w= .ok v w∧RV w β H (Im K β H) (jf xs) v∧∀l∈(jf xs).aB,H l≠ .unused:=by
 obtain⟨vs,h1,h2,h3⟩:=yz hr _ _ _ hc hx;have hlen:=cM.len _ _ h2;have rO:(results fn a.tmps).run K.P w= .ok (if h:vs.toArray.size=1 then vs.toArray[0] else .tuple vs.toArray) w:=by
  unfold results;rw[Array.mapM_eq_mapM_toList];simp only[Sem.run_bind,Sem.run_pure,map_eq_pure_bind];exact(afb (fun r:Result (List Value)=>(r.andThen fun a w'=>Result.ok a.toArray w').andThen fun a w'=>Result.ok (if h:a.size=1 then a[0] else Value.tuple a) w') h1).trans rfl
 refine⟨_,rO,?_⟩
 match xs,h2,h3,hlen with
 |[],h2,h3,hlen=>
  simp only[cM] at h2;subst h2;simp[jf,RV,cM,AV.aB,ah]
 |[x],h2,h3,hlen=>
  simp only[cM] at h2;obtain⟨v,us,rfl,e1,rfl⟩:=h2;simp only[jf];exact⟨by simpa using e1,fun l hl=>h3 l (by simp[ah,hl])⟩
 |x::y::r,h2,h3,hlen=>
  have:vs.toArray.size≠1:=by simp;simp at hlen;omega
  rw[dif_neg this];simp only[jf,RV,AV.aB];exact⟨⟨vs,rfl,h2⟩,h3⟩
def M9 (args:List AV) (n:Nat) (l:Lb) (h:l∈(lE args n).aB):l∈ah args:=by
 unfold lE at h;rw[aex] at h;cases hx:args[n]? with
 |none=>rw[hx] at h;simp[AV.aB] at h
 |some x=>rw[hx] at h;exact gL _ _ _ hx l (by simpa using h)
def jB {P:Program} {G:Nat→Option (List IV)} {f:Nat} {n:Nat} {rs:List RO} {ac:AC} {args:List AV} {R:AV→Hp→Prop}
   (hF:an P G f=some (n,rs,ac.bare)) (hn:args.length≤n) (abL:∀l,live H l→l.entry=true) (hm:∀l∈ah args,H l≠ .unused)
   (hg:go ⟨P,G,n⟩ (kX rs R) [.code ac] (lE args) H):jb P G f args H R:=by
 unfold an at hF
 obtain⟨fn,hf,hF⟩:=cB hF
 obtain⟨c,hb,hF⟩:=cB hF
 obtain⟨Ym,uo,hF⟩:=cB hF
 obtain⟨x,Zo,hF⟩:=dr hF
 simp only[adJ] at hF
 obtain⟨rfl,rfl,rfl⟩:=hF
 intro w A β vs hr hv
 have hlen:=cM.len _ _ hv
 refine calls_of_wp hf hb ?_
 have pC:vs.toArray.size=args.length:=by simpa using hlen
 let K:Kx:=⟨P,G,w,A,MX β H,fn.ntmps,H,β⟩
 have qD:bu K β (lE args) H {tmps:=vs.toArray++Array.replicate (fn.ntmps - vs.toArray.size) undef,defers:=[]} w:=
   { defers := rfl
     size:=by simp only[Array.size_append,Array.size_replicate,pC,K];omega
     mS := fun m => by
       have dO:(vs.toArray++Array.replicate (fn.ntmps - vs.toArray.size) undef).getD m undef=(vs[m]?).getD undef:=by
         rw[ad9]
         by_cases hmm:m<vs.length
         · rw[afC (by simpa using hmm)];simp
         rw[Array.getElem?_append_right (by simp;omega),af1]
         rw[aes (by omega)]
         split<;>simp
       simp only
       rw[dO]
       unfold lE
       rw[aex]
       cases hx:args[m]? with
       |none=>
         have:vs[m]?=none:=by
           rw[afX] at hx ⊢;omega
         rw[this];simp[RV,undef]
       |some y=>
       obtain⟨u,h1,h2⟩:=cM.get _ _ _ _ hv hx
       rw[h1];exact h2
     rows:=hr.rows
     own:=hr.own
     inj:=hr.inj
     kL:=fun m l hl=>hm l (M9 args m l hl)
     fk:=hr.fk
     frame:=hr.frame
     l_:=hr.l_
     nF:=hr.nF
     fr:=hr.fr}
 have fX:gT (Vn P G) [.code c] [.code ac]:= .cons (.code Zo) .nil
 have:=go_sound (K:=K) abL (kX Ym R) (yy [.code ac]) [.code ac] [.code c] (adw _) fX (lE args) H hg β _ w qD
 simp only[PH,Exit.then] at this
 refine wp_mono this ?_
 intro e a' w' hq
 have key:∀a' w',(lift K (kX Ym R) .normal a' w'∨lift K (kX Ym R) .ret a' w')→a'.defers=[]∧∃v,(results fn a'.tmps).run P w'= .ok v w' ∧
     ∃v' x H' β',Ending.returned v= .returned v'∧R x H'∧bu (fm P G w A β H) β' Env.any H' wv w' ∧
     RV w' β' H' (Im (fm P G w A β H) β' H') x v'∧∀l∈x.aB,H' l≠ .unused:=by
   intro a' w' h
   have:∃e env' H' β',kX Ym R e env' H'∧bu K β' env' H' a' w':=by
     rcases h with⟨env',H',β',h⟩|⟨env',H',β',h⟩<;>exact⟨_,env',H',β',h⟩
   obtain⟨e,env',H',β',⟨_,xs,h1,h2⟩,h3⟩:=this
   obtain⟨v,k1,k2,k3⟩:=BP h3 uo h1
   refine⟨h3.defers,v,k1,v,_,H',β',rfl,h2,?_,k2,k3⟩
   exact
     { defers := rfl
       size:=rfl
       mS:=fun m=>by simp[Env.any,RV]
       rows:=h3.rows
       own:=h3.own
       inj:=h3.inj
       kL:=fun m=>by simp[Env.any,AV.aB]
       fk:=h3.fk
       frame:=h3.frame
       l_:=h3.l_
       nF:=h3.nF
       fr:=h3.fr}
 cases e with
 |normal=>exact key a' w' (.inl hq)
 |ret=>exact key a' w' (.inr hq)
 |panic ch=>obtain⟨_,_,_,⟨h,_⟩,_⟩:=hq;simp at h
 |exit id=>obtain⟨_,_,_,⟨h,_⟩,_⟩:=hq;simp at h
 |goto l=>obtain⟨_,_,_,⟨h,_⟩,_⟩:=hq;simp at h
 |outgrown=>obtain⟨_,_,_,⟨h,_⟩,_⟩:=hq;simp at h
def aM {P:Program} {G:Nat→Option (List IV)} {f:Nat} {n:Nat} {rs:List RO} {ac:AC} {args:List AV} {res:AV}
  (hF:an P G f=some (n,rs,ac.bare)) (hn:args.length≤n) (hl:ah args=[]) (EU:res.aB=[])
  (hg:go ⟨P,G,n⟩ (kX rs fun x _=>x=res) [.code ac] (lE args) Hp.none):aw P G f args res:=
 ⟨hl,EU,jB hF hn (fun l ⟨r,h⟩=>by simp[Hp.none] at h) (by simp[hl]) hg⟩
end

structure Wk (ρ:Lb→Lb) (env:Env) (H:Hp) (env2:Env) (H2:Hp):Prop where
 e:∀n,env2 n= .any∨env n=e7 ρ (env2 n)
 h:∀l r,H2 l= .live r→H (ρ l)= .live (cV ρ r)
 inj:∀l l',live H2 l→live H2 l'→ρ l=ρ l'→l=l'
 m:∀n,∀l∈(env2 n).aB,H2 l≠ .unused
 rm:∀l r,H2 l= .live r→∀cs∈r.els,∀q∈ah cs,H2 q≠ .unused
 st:∀l,l.entry=true→(H l≠ .unused→H2 l≠ .unused)∧(live H2 l→ρ l=l)
 fr:∀l,live H2 l→l.fresh=true→(ρ l).fresh=true
def EV {σ:Type} (S:St) (Q:oW) (k:List It) (E:σ→Env) (HH:σ→Hp) (μ:σ→Nat) (n:Nat):oW:=fun e env H=>
 match e with
 | .normal=>∃s,μ s<n∧∃ρ,Wk ρ env H (E s) (HH s)
 | .exit id=>match jS id k with
  |some k'=>go S Q k' env H
  |none=>Q (.exit id) env H
 | .ret=>Q .ret env H
 |_=>False
def Wk.rel {K:Kx} {β:Lb→Option Nat} {env:Env} {H:Hp} {a:Act} {w:World} {ρ:Lb→Lb} {env2:Env} {H2:Hp} (hS:∀l,live K.H0 l→l.entry=true) (h:Wk ρ env H env2 H2) (hr:bu K β env H a w) :
  bu K (fun l=>β (ρ l)) env2 H2 a w:=
 hr.xD ρ h.e h.h h.inj h.m h.rm (fun l hl=>⟨(h.st l (hS l hl)).1 (hr.nF l hl).1,(h.st l (hS l hl)).2⟩) h.fr
def pI {σ:Type} {S:St} {Q:oW} {c:AC} {k:List It} {env:Env} {H:Hp} (E:σ→Env) (HH:σ→Hp) (μ:σ→Nat) (s0:σ) (ρ:Lb→Lb) (h0:Wk ρ env H (E s0) (HH s0))
  (round:∀s,go S (EV S Q k E HH μ (μ s)) [.code c] (E s) (HH s)):vk S Q c k env H:=by
 intro K Zp hS c0 ck hc fX β a w hr;subst Zp;simp only[PH,Exit.then];refine wp_loop_ghost (fun n a w=>∃s β,μ s=n∧bu K β (E s) (HH s) a w) (μ s0) ⟨s0,_,rfl,h0.rel hS hr⟩ ?_;rintro n a w ⟨s,β,rfl,hr⟩;have hs:=go_sound (K:=K) hS _ (yy [.code c]) [.code c] [.code c0] (adw _) (.cons (.code hc) .nil) (E s) (HH s) (round s) β a w hr;simp only[PH,Exit.then] at hs;refine wp_mono hs ?_;rintro e a' w' ⟨env',H',β',hq,sY⟩;cases e with
 |normal=>
  obtain⟨s',bO,ρ',hw⟩:=hq;exact⟨μ s',bO,s',_,rfl,hw.rel hS sY⟩
 |exit id=>
  have hp:=rb (P:=K.P) (G:=K.G) (lift K Q) (id:=id) ck k fX;simp only[EV] at hq;show PH K.P (lift K Q) ck (.exit id) a' w';cases vL:jS id k with
  |some k'=>
   rw[vL] at hp hq;obtain⟨Mu,e1,e2⟩:=hp;exact e2 a' w' (go_sound (K:=K) hS Q (yy k') k' Mu (adw _) e1 env' H' hq β' a' w' sY)
  |none=>
  rw[vL] at hp hq;exact hp a' w' ⟨env',H',β',hq,sY⟩
 |ret=>exact Ae _ _ _ _ _ ⟨env',H',β',hq,sY⟩
 |goto l=>exact hq.elim
 |panic ch=>exact hq.elim
 |outgrown=>exact hq.elim

inductive Tk {α:Type 1} (a:α):Type
 |mk
inductive Tp (a c:Prop):Type
 |mk
inductive Tv {α:Type} (a:α→Prop):Type
 |mk
inductive Tw (a:AV→Hp→Prop):Type
 |mk
def ga (o:Option AV) (k:AV→Prop) (_:Tv k):Prop:=∃x,o=some x∧k x
def gB (x:AV) (t:Bool) (A B:Prop) (_:Tp A B):Prop:=
 match x with
 | .bool b=>if b=t then A else B
 | .un=>B
 |_=>False
def cK (x:AV) (A B:Prop) (_:Tp A B):Prop:=
 match x with
 | .bool b=>if b=true then A else B
 |_=>False
def hK (o:Option Hp) (k:Hp→Prop) (_:Tv k):Prop:=∃x,o=some x∧k x
def pK (o:Option (AV×Hp)) (k:AV→Hp→Prop) (_:Tw k):Prop:=∃x h,o=some (x,h)∧k x h
def He (S:St) (f:Nat) (args:List AV) (H:Hp) (k:AV→Hp→Prop) (_:Tw k):Prop:=sM S f args H k
def Zq (S:St) (f:Nat) (args:List AV) (k:AV→Prop) (_:Tv k):Prop:=∃x,aw S.P S.G f args x∧k x
section
variable {S:St} {Q:oW} {env:Env} {H:Hp} {k:List It}
def M_ (x:AV) (k:AV→Prop) (u:Tv k):ga (some x) k u=k x:=by simp[ga]
def QW (x:Hp) (k:Hp→Prop) (u:Tv k):hK (some x) k u=k x:=by simp[hK]
def QX (x:AV) (h:Hp) (k:AV→Hp→Prop) (u:Tw k):pK (some (x,h)) k u=k x h:=by
 simp only[pK,jl,adJ];apply propext;constructor
 ·rintro⟨_,_,⟨rfl,rfl⟩,h⟩;exact h
 intro h;exact⟨_,_,⟨rfl,rfl⟩,h⟩
def Zr (A B:Prop) (u:Tp A B):gB (.bool true) true A B u=A:=by simp[gB]
def Zs (A B:Prop) (u:Tp A B):gB (.bool false) true A B u=B:=by simp[gB]
def Zt (A B:Prop) (u:Tp A B):gB (.bool true) false A B u=B:=by simp[gB]
def Zu (A B:Prop) (u:Tp A B):gB (.bool false) false A B u=A:=by simp[gB]
def abM (t:Bool) (A B:Prop) (u:Tp A B):gB .un t A B u=B:=by simp[gB]
def abN (A B:Prop) (u:Tp A B):cK (.bool true) A B u=A:=by simp[cK]
def abO (A B:Prop) (u:Tp A B):cK (.bool false) A B u=B:=by simp[cK]
def Vp (k:Env→Hp→Prop):AO S [] env H k=k env H:=rfl
def QY (n:Nat) (i:eF) (r:List dD) (k:Env→Hp→Prop) :
  AO S (⟨some n,none,i⟩::r) env H k=(n<S.N∧cT S (some n) i env H fun x H'=>AO S r (put env n x) H' k):=by
 simp[AO,gW,iw]
def QZ (i:eF) (r:List dD) (k:Env→Hp→Prop) :
  AO S (⟨none,none,i⟩::r) env H k=cT S none i env H fun x H'=>AO S r env H' k:=by
 simp[AO,gW,iw]
def Na (n s:Nat) (t:Bool) (i:eF) (r:List dD) (k:Env→Hp→Prop) :
  AO S (⟨some n,some (s,t),i⟩::r) env H k=(n<S.N∧gB (env s) t (cT S (some n) i env H fun x H'=>AO S r (put env n x) H' k) (AO S r (put env n .un) H k) .mk):=by
 simp only[AO,gW,iw];cases he:env s<;>simp[gB,he];rename_i b;cases b<;>cases t<;>simp
def KI (s:Nat) (t:Bool) (i:eF) (r:List dD) (k:Env→Hp→Prop) :
  AO S (⟨none,some (s,t),i⟩::r) env H k=gB (env s) t (cT S none i env H fun x H'=>AO S r env H' k) (AO S r env H k) .mk:=by
 simp only[AO,gW,iw];cases he:env s<;>simp[gB,he];rename_i b;cases b<;>cases t<;>simp
def Nb (j n:Nat) (i:eF) (f:Fp) (r:List (Nat×dD×Fp)) (k:Env→Hp→Prop) :
  sZ S ((j,⟨some n,none,i⟩,f)::r) env H k=(n<S.N∧a_ S f (some n) i env H fun x H'=>sZ S r (put env n x) H' k):=by
 simp[sZ,Er,gW,iw]
def Nc (j:Nat) (i:eF) (f:Fp) (r:List (Nat×dD×Fp)) (k:Env→Hp→Prop) :
  sZ S ((j,⟨none,none,i⟩,f)::r) env H k=a_ S f none i env H fun x H'=>sZ S r env H' k:=by
 simp[sZ,Er,gW,iw]
def KJ (j n s:Nat) (t:Bool) (i:eF) (f:Fp) (r:List (Nat×dD×Fp)) (k:Env→Hp→Prop) :
  sZ S ((j,⟨some n,some (s,t),i⟩,f)::r) env H k=(n<S.N∧gB (env s) t (a_ S f (some n) i env H fun x H'=>sZ S r (put env n x) H' k) (sZ S r (put env n .un) H k) .mk):=by
 simp only[sZ,Er,gW,iw];cases he:env s<;>simp[gB,he];rename_i b;cases b<;>cases t<;>simp
def Vq:go S Q [] env H=Q .normal env H:=by rw[go]
def Vr (id:Nat):go S Q (.Ci id::k) env H=go S Q k env H:=by rw[go]
def Q0:go S Q (.code .skip::k) env H=go S Q k env H:=by rw[go]
def Vs (a b:AC):go S Q (.code (.seq a b)::k) env H=go S Q (.code a:: .code b::k) env H:=by rw[go]
def Q1 (x:O) (a b:AC):go S Q (.code (.cond x a b)::k) env H=cK (ev env x) (go S Q (.code a::k) env H) (go S Q (.code b::k) env H) .mk:=by
 rw[go];unfold cK;apply propext;constructor
 ·rintro⟨t,h1,h2,h3⟩;rw[h1];cases t
  ·simpa using h3 rfl
  simpa using h2 rfl
 intro h;split at h
 ·rename_i t e;refine⟨t,e,fun e2=> ?_,fun e2=> ?_⟩<;>subst e2<;>simpa using h
 exact h.elim
def Nd (id:Nat) (c:AC):go S Q (.code (.block id c)::k) env H=go S Q (.code c:: .Ci id::k) env H:=by rw[go]
def Q2 (c:AC):go S Q (.code (.loop c)::k) env H=vk S Q c k env H:=by rw[go]
def Vt:go S Q (.code .ret::k) env H=Q .ret env H:=by rw[go]
def Vu (is:List dD):go S Q (.code (.ec is)::k) env H=AO S is env H (go S Q k):=by rw[go]
def Q3 (ns:List Nat) (c:AC):go S Q (.code (.gh (.ik ns) c)::k) env H=go S Q (.code c::k) (Ad ns env) H:=by rw[go]
def Vv (l:Lb) (d:Nat) (c:AC):go S Q (.code (.gh (.Ch l d) c)::k) env H=∃sz xs i n,env d= .sl l sz i n∧H l= .live ⟨sz,ar xs⟩∧l.fresh=true∧i+n≤xs.length∧Flat xs ∧
 go S Q (.code c::k) (put env d (.list ((xs.drop i).take n))) (bF H l .dead):=by rw[go]
def Vw (d sz:Nat) (c:AC):go S Q (.code (.gh (.own d sz) c)::k) env H=(env d= .nil0∧0<sz∧H (.loc d)= .unused∧go S Q (.code c::k) (put env d (.sl (.loc d) sz 0 0)) (bF H (.loc d) (.live ⟨sz,[]⟩))):=by rw[go]
def rS (c:AC):go S Q (.code (.gh .xD c)::k) env H=∃env2 H2,nb S env H env2 H2∧go S Q (.code c::k) env2 H2:=by rw[go]
def Dz (c:AC):go S Q (.code (.gh .Vm c)::k) env H=∃(T:Type) (E:T→Env) (HH:T→Hp),Choice S env H T E HH∧∀t,go S Q (.code c::k) (E t) (HH t):=by rw[go]
theorem Q4 (id:Nat):go S Q (.code (.exit id)::k) env H=match jS id k with
  |some k'=>go S Q k' env H
  |none=>Q (.exit id) env H:=by
 cases h:jS id k with
 |some k'=>rw[wC h]
 |none=>rw[wD h]
def vN (n:Nat) (i:dD) (is:List dD) (f:Fp) (fs:List Fp):items n (i::is) (f::fs)=(n,i,f)::items (n+1) is fs:=rfl
def Vx d x (k:AV→Hp→Prop):cT S d (.nE x) env H k=ga (aj (.nE x) env) (fun x=>k x H) .mk:=rfl
def Q5 d c a b (k:AV→Hp→Prop):cT S d (.pick c a b) env H k=ga (aj (.pick c a b) env) (fun x=>k x H) .mk:=rfl
def Vy d a off (k:AV→Hp→Prop):cT S d (.Mq a off) env H k=ga (aj (.Mq a off) env) (fun x=>k x H) .mk:=rfl
def Vz d x i n sz (k:AV→Hp→Prop):cT S d (.ME x i n sz) env H k=ga (aj (.ME x i n sz) env) (fun x=>k x H) .mk:=rfl
def VA d x i sz (k:AV→Hp→Prop):cT S d (.Dg x i sz) env H k=ga (aj (.Dg x i sz) env) (fun x=>k x H) .mk:=rfl
def VB d x i (k:AV→Hp→Prop):cT S d (.vd x i) env H k=ga (aj (.vd x i) env) (fun x=>k x H) .mk:=rfl
def VC d x (k:AV→Hp→Prop):cT S d (.len x) env H k=ga (aj (.len x) env) (fun x=>k x H) .mk:=rfl
def Q6 d x (k:AV→Hp→Prop):cT S d (.lens x) env H k=ga (aj (.lens x) env) (fun x=>k x H) .mk:=rfl
def VD d x lo hi mx sz (k:AV→Hp→Prop):cT S d (.qd x lo hi mx sz) env H k=ga (aj (.qd x lo hi mx sz) env) (fun x=>k x H) .mk:=rfl
def Q7 d x lo hi (k:AV→Hp→Prop):cT S d (.ot x lo hi) env H k=ga (aj (.ot x lo hi) env) (fun x=>k x H) .mk:=rfl
def VE d op x y (k:AV→Hp→Prop):cT S d (.bin op x y) env H k=ga (aj (.bin op x y) env) (fun x=>k x H) .mk:=rfl
def VF d n x y (k:AV→Hp→Prop):cT S d (.Mr n x y) env H k=ga (aj (.Mr n x y) env) (fun x=>k x H) .mk:=rfl
def VG d n x y (k:AV→Hp→Prop):cT S d (.Kj n x y) env H k=ga (aj (.Kj n x y) env) (fun x=>k x H) .mk:=rfl
def VH d n x y (k:AV→Hp→Prop):cT S d (.Qn n x y) env H k=ga (aj (.Qn n x y) env) (fun x=>k x H) .mk:=rfl
def Q8 d n ks x y (k:AV→Hp→Prop):cT S d (.zc n ks x y) env H k=ga (aj (.zc n ks x y) env) (fun x=>k x H) .mk:=rfl
def VI d x (k:AV→Hp→Prop):cT S d (.not x) env H k=ga (aj (.not x) env) (fun x=>k x H) .mk:=rfl
def VJ d x (k:AV→Hp→Prop):cT S d (.neg x) env H k=ga (aj (.neg x) env) (fun x=>k x H) .mk:=rfl
def VK d x y (k:AV→Hp→Prop):cT S d (.max x y) env H k=ga (aj (.max x y) env) (fun x=>k x H) .mk:=rfl
def VL d x y (k:AV→Hp→Prop):cT S d (.min x y) env H k=ga (aj (.min x y) env) (fun x=>k x H) .mk:=rfl
def VM d x i (k:AV→Hp→Prop):cT S d (.ext x i) env H k=ga (aj (.ext x i) env) (fun x=>k x H) .mk:=rfl
def VN d z ps (k:AV→Hp→Prop):cT S d (.oa z ps) env H k=ga (aj (.oa z ps) env) (fun x=>k x H) .mk:=rfl
def Q9 d x off m (k:AV→Hp→Prop):cT S d (.zM x off m) env H k=ga (aj (.zM x off m) env) (fun x=>k x H) .mk:=rfl
def Q_ d n sz z ps (k:AV→Hp→Prop):cT S d (.lits n sz z ps) env H k=ga (aj (.lits n sz z ps) env) (fun x=>k x H) .mk:=rfl
def Ra d x (k:AV→Hp→Prop):cT S d (.BK x) env H k=ga (aj (.BK x) env) (fun x=>k x H) .mk:=rfl
def Rb d x (k:AV→Hp→Prop):cT S d (.dc x) env H k=ga (aj (.dc x) env) (fun x=>k x H) .mk:=rfl
def VO d f cap (k:AV→Hp→Prop):cT S d (.Qo f cap) env H k=ga (aj (.Qo f cap) env) (fun x=>k x H) .mk:=rfl
def VP d kd x (k:AV→Hp→Prop):cT S d (.Dh kd x) env H k=ga (aj (.Dh kd x) env) (fun x=>k x H) .mk:=rfl
def VQ d x (k:AV→Hp→Prop):cT S d (.u6 x) env H k=ga (aj (.u6 x) env) (fun x=>k x H) .mk:=rfl
def VR d x (k:AV→Hp→Prop):cT S d (.QE x) env H k=ga (aj (.QE x) env) (fun x=>k x H) .mk:=rfl
def VS d x (k:AV→Hp→Prop):cT S d (.Ms x) env H k=ga (aj (.Ms x) env) (fun x=>k x H) .mk:=rfl
def Rc d t x (k:AV→Hp→Prop):cT S d (.Di t x) env H k=ga (aj (.Di t x) env) (fun x=>k x H) .mk:=rfl
def Rd (d:Option Nat) (m:Option Nat) (a:O) (k:AV→Hp→Prop):cT S d (.load m a) env H k=(ga (aj (.load m a) env) (fun x=>k x H) .mk∨ga (jR m (ev env a) H) (fun x=>k x H) .mk):=rfl
def TS (m:Option Nat) (x:AV) (H:Hp):Option AV:=
 match x with
 | .lptr cs=>match m with
  |none=>cs[0]?.map IV.gK
  |some k=>if k≤cs.length then some (.agg ((cs.take k).map IV.gK)) else none
 |x=>jR m x H
def Zv (d:Option Nat) (m:Option Nat) (a:O) (k:AV→Hp→Prop):cT S d (.load m a) env H k=ga (TS m (ev env a) H) (fun x=>k x H) .mk:=by
 rw[Rd];unfold TS;split
 ·rename_i cs e;simp only[aj,e,jR,ga];apply propext;constructor
  ·rintro(h|⟨x,h,_⟩)
   ·exact h
   simp at h
  exact .inl
 rename_i x ff;have:aj (.load m a) env=none:=by
  simp only[aj]
 rw[this];simp[ga]
def VT (n:Nat) (cs:List AV) (k:AV→Hp→Prop):cT S (some n) (.new cs) env H k=(H (.loc n)= .unused∧0<cs.length∧cs.length≤maxLen ∧
  k (.ptr (.loc n) cs.length 0 0) (bF H (.loc n) (.live ⟨cs.length,[cs]⟩))):=by
 simp[cT]
def KL (x:AV) (n:Nat) (H:Hp) (k:AV→Hp→Prop):Prop:=H (.loc n)= .unused∧x.GF=true∧0<x.cells.length∧x.cells.length≤maxLen ∧
 k (.ptr (.loc n) x.cells.length 0 0) (bF H (.loc n) (.live ⟨x.cells.length,[x.cells]⟩))
def VU (n:Nat) (x:O) (k:AV→Hp→Prop):cT S (some n) (.box x) env H k=KL (ev env x) n H k:=by
 simp[cT,KL]
def Nf (m:Nat) (a x:O) (k:AV→Hp→Prop):cT S none (.store m a x) env H k=hK (pE m (ev env a) (ev env x) H) (fun H'=>k .un H') .mk:=by
 simp[cT,hK]
def VV (n:Nat) (s x:O) (sz b:Nat) (k:AV→Hp→Prop):cT S (some n) (.app s x sz b) env H k=pK (nH sz b n (ev env s) (ev env x) H) k .mk:=by
 simp only[cT,pK,jl];apply propext;constructor
 ·rintro⟨_,rfl,h⟩;exact h
 intro h;exact⟨_,rfl,h⟩
def Re (d:Option Nat) (f:Nat) (args:List O) (k:AV→Hp→Prop):cT S d (.call f args) env H k=He S f (args.map (ev env)) H k .mk:=rfl
def aq {f:Nat} {args:List AV} {res:AV} {k:AV→Hp→Prop} (h:aw S.P S.G f args res) (hk:k res H) {u:Tw k}:He S f args H k u:= .inl ⟨res,h,hk⟩
def Hf {f:Nat} {args dG:List AV} {res:AV} {k:AV→Hp→Prop} (h:aw S.P S.G f dG res) (ha:gT (Du H) args dG) (hs:res.scalar=true) (hk:k res H) {u:Tw k}:He S f args H k u:= .inr (.inl ⟨dG,res,ha,h,hs,hk⟩)
def gJ {f:Nat} {args:List AV} {res:AV} {k:AV→Prop} (h:aw S.P S.G f args res) (hk:k res) {u:Tv k}:Zq S f args k u:=⟨res,h,hk⟩
def Rf d x (k:AV→Hp→Prop):a_ S .no d (.nE x) env H k=ga (aj (.nE x) env) (fun x=>k x H) .mk:=by simp only[a_,Quiet,ga,adO]
def Ng d c a b (k:AV→Hp→Prop):a_ S .no d (.pick c a b) env H k=ga (aj (.pick c a b) env) (fun x=>k x H) .mk:=by simp only[a_,Quiet,ga,adO]
def Rg d a off (k:AV→Hp→Prop):a_ S .no d (.Mq a off) env H k=ga (aj (.Mq a off) env) (fun x=>k x H) .mk:=by simp only[a_,Quiet,ga,adO]
def Rh d x i sz (k:AV→Hp→Prop):a_ S .no d (.Dg x i sz) env H k=ga (aj (.Dg x i sz) env) (fun x=>k x H) .mk:=by simp only[a_,Quiet,ga,adO]
def Ri d x i n sz (k:AV→Hp→Prop):a_ S .no d (.ME x i n sz) env H k=ga (aj (.ME x i n sz) env) (fun x=>k x H) .mk:=by simp only[a_,Quiet,ga,adO]
def Rj d x i (k:AV→Hp→Prop):a_ S .no d (.vd x i) env H k=ga (aj (.vd x i) env) (fun x=>k x H) .mk:=by simp only[a_,Quiet,ga,adO]
def Rk d x (k:AV→Hp→Prop):a_ S .no d (.len x) env H k=ga (aj (.len x) env) (fun x=>k x H) .mk:=by simp only[a_,Quiet,ga,adO]
def Nh d x (k:AV→Hp→Prop):a_ S .no d (.lens x) env H k=ga (aj (.lens x) env) (fun x=>k x H) .mk:=by simp only[a_,Quiet,ga,adO]
def Rl d x lo hi mx sz (k:AV→Hp→Prop):a_ S .no d (.qd x lo hi mx sz) env H k=ga (aj (.qd x lo hi mx sz) env) (fun x=>k x H) .mk:=by simp only[a_,Quiet,ga,adO]
def Ni d x lo hi (k:AV→Hp→Prop):a_ S .no d (.ot x lo hi) env H k=ga (aj (.ot x lo hi) env) (fun x=>k x H) .mk:=by simp only[a_,Quiet,ga,adO]
def Rm d op x y (k:AV→Hp→Prop):a_ S .no d (.bin op x y) env H k=ga (aj (.bin op x y) env) (fun x=>k x H) .mk:=by simp only[a_,Quiet,ga,adO]
def Rn d n x y (k:AV→Hp→Prop):a_ S .no d (.Mr n x y) env H k=ga (aj (.Mr n x y) env) (fun x=>k x H) .mk:=by simp only[a_,Quiet,ga,adO]
def Ro d n x y (k:AV→Hp→Prop):a_ S .no d (.Kj n x y) env H k=ga (aj (.Kj n x y) env) (fun x=>k x H) .mk:=by simp only[a_,Quiet,ga,adO]
def Rq d n x y (k:AV→Hp→Prop):a_ S .no d (.Qn n x y) env H k=ga (aj (.Qn n x y) env) (fun x=>k x H) .mk:=by simp only[a_,Quiet,ga,adO]
def Nj d n ks x y (k:AV→Hp→Prop):a_ S .no d (.zc n ks x y) env H k=ga (aj (.zc n ks x y) env) (fun x=>k x H) .mk:=by simp only[a_,Quiet,ga,adO]
def Rr d x (k:AV→Hp→Prop):a_ S .no d (.not x) env H k=ga (aj (.not x) env) (fun x=>k x H) .mk:=by simp only[a_,Quiet,ga,adO]
def Rs d x (k:AV→Hp→Prop):a_ S .no d (.neg x) env H k=ga (aj (.neg x) env) (fun x=>k x H) .mk:=by simp only[a_,Quiet,ga,adO]
def Ru d x y (k:AV→Hp→Prop):a_ S .no d (.max x y) env H k=ga (aj (.max x y) env) (fun x=>k x H) .mk:=by simp only[a_,Quiet,ga,adO]
def Rv d x y (k:AV→Hp→Prop):a_ S .no d (.min x y) env H k=ga (aj (.min x y) env) (fun x=>k x H) .mk:=by simp only[a_,Quiet,ga,adO]
def Rw d x i (k:AV→Hp→Prop):a_ S .no d (.ext x i) env H k=ga (aj (.ext x i) env) (fun x=>k x H) .mk:=by simp only[a_,Quiet,ga,adO]
def Rx d z ps (k:AV→Hp→Prop):a_ S .no d (.oa z ps) env H k=ga (aj (.oa z ps) env) (fun x=>k x H) .mk:=by simp only[a_,Quiet,ga,adO]
def Nk d x off m (k:AV→Hp→Prop):a_ S .no d (.zM x off m) env H k=ga (aj (.zM x off m) env) (fun x=>k x H) .mk:=by simp only[a_,Quiet,ga,adO]
def Nl d n sz z ps (k:AV→Hp→Prop):a_ S .no d (.lits n sz z ps) env H k=ga (aj (.lits n sz z ps) env) (fun x=>k x H) .mk:=by simp only[a_,Quiet,ga,adO]
def Nn d x (k:AV→Hp→Prop):a_ S .no d (.BK x) env H k=ga (aj (.BK x) env) (fun x=>k x H) .mk:=by simp only[a_,Quiet,ga,adO]
def No d x (k:AV→Hp→Prop):a_ S .no d (.dc x) env H k=ga (aj (.dc x) env) (fun x=>k x H) .mk:=by simp only[a_,Quiet,ga,adO]
def Ry d f cap (k:AV→Hp→Prop):a_ S .no d (.Qo f cap) env H k=ga (aj (.Qo f cap) env) (fun x=>k x H) .mk:=by simp only[a_,Quiet,ga,adO]
def Rz d kd x (k:AV→Hp→Prop):a_ S .no d (.Dh kd x) env H k=ga (aj (.Dh kd x) env) (fun x=>k x H) .mk:=by simp only[a_,Quiet,ga,adO]
def RA d x (k:AV→Hp→Prop):a_ S .no d (.u6 x) env H k=ga (aj (.u6 x) env) (fun x=>k x H) .mk:=by simp only[a_,Quiet,ga,adO]
def RB d x (k:AV→Hp→Prop):a_ S .no d (.QE x) env H k=ga (aj (.QE x) env) (fun x=>k x H) .mk:=by simp only[a_,Quiet,ga,adO]
def RC d x (k:AV→Hp→Prop):a_ S .no d (.Ms x) env H k=ga (aj (.Ms x) env) (fun x=>k x H) .mk:=by simp only[a_,Quiet,ga,adO]
def Np d t x (k:AV→Hp→Prop):a_ S .no d (.Di t x) env H k=ga (aj (.Di t x) env) (fun x=>k x H) .mk:=by simp only[a_,Quiet,ga,adO]
def Nq d m a (k:AV→Hp→Prop):a_ S .no d (.load m a) env H k=ga (aj (.load m a) env) (fun x=>k x H) .mk:=by simp only[a_,Quiet,ga,adO]
def RD (d:Option Nat) (f:Nat) (args:List O) (k:AV→Hp→Prop):a_ S .no d (.call f args) env H k=Zq S f (args.map (ev env)) (fun x=>k x H) .mk:=by
 simp[a_,Quiet,aj,Zq]
def Af (env:Env) (n m:Nat) (x:AV):put env n x m=if m=n then x else env m:=rfl
end
def aS:=And.intro @Vz<|And.intro @Vx (And.intro @Q5 (And.intro @Vy (And.intro @VA (And.intro @VB (And.intro @VC (And.intro @Q6 (And.intro @VD (And.intro @Q7 (And.intro @VE (And.intro @VF (And.intro @VG (And.intro @VH (And.intro @Q8 (And.intro @VI (And.intro @VJ (And.intro @VK (And.intro @VL (And.intro @VM (And.intro @VN (And.intro @Q9 (And.intro @Q_ (And.intro @Ra (And.intro @Rb (And.intro @VO (And.intro @VP (And.intro @VQ (And.intro @VR (And.intro @VS (@Rc)))))))))))))))))))))))))))))
def aT:=And.intro @Ri<|And.intro @Rf (And.intro @Ng (And.intro @Rg (And.intro @Rh (And.intro @Rj (And.intro @Rk (And.intro @Nh (And.intro @Rl (And.intro @Ni (And.intro @Rm (And.intro @Rn (And.intro @Ro (And.intro @Rq (And.intro @Nj (And.intro @Rr (And.intro @Rs (And.intro @Ru (And.intro @Rv (And.intro @Rw (And.intro @Rx (And.intro @Nk (And.intro @Nl (And.intro @Nn (And.intro @No (And.intro @Ry (And.intro @Rz (And.intro @RA (And.intro @RB (And.intro @RC (And.intro @Np (@Nq))))))))))))))))))))))))))))))

def mn (ρ:Lb→Lb) (env:Env):∀n,Env.any n= .any∨env n=e7 ρ (Env.any n):=fun _=> .inl rfl
def cJ {ρ:Lb→Lb} {env e:Env} {d:Nat} {x:AV} (h1:env d=e7 ρ x) (h2:∀n,e n= .any∨env n=e7 ρ (e n)):∀n,put e d x n= .any∨env n=e7 ρ (put e d x n):=by
 intro n;unfold put;split
 ·next h=>subst h;exact .inr h1
 exact h2 n
def mo (H:Hp):∀n,∀l∈(Env.any n).aB,H l≠ .unused:=by simp[Env.any,AV.aB]
def cL {H:Hp} {e:Env} {d:Nat} {x:AV} (h1:∀l∈x.aB,H l≠ .unused) (h2:∀n,∀l∈(e n).aB,H l≠ .unused):∀n,∀l∈(put e d x n).aB,H l≠ .unused:=by
 intro n;unfold put;split
 ·exact h1
 exact h2 n
mutual
theorem DA:∀x:AV,e7 id x=x
 | .sl ..| .slk ..| .ptr ..| .any| .un| .bool _| .int ..| .str _| .list _| .nil0| .nD| .mH| .lptr _=>by simp[e7]
 | .agg cs=>by simp[e7,ur cs]
 | .dM cs=>by simp[e7,ur cs]
 | .fn f fs cs=>by simp[e7,ur fs,ur cs]
 | .ifc t x=>by simp[e7,DA x]
theorem ur:∀xs:List AV,aY id xs=xs
 |[]=>by simp[aY]
 |x::r=>by simp[aY,DA x,ur r]
end
def DB (r:Row):cV id r=r:=by
 obtain⟨sz,els⟩:=r;simp only[cV,Row.mk.injEq,adF];rw[show aY id=id from funext ur];simp
def Wk.same {env:Env} {H:Hp} {env2:Env} (e:∀n,env2 n= .any∨env n=e7 id (env2 n)) (m:∀n,∀l∈(env2 n).aB,H l≠ .unused)
  (rm:∀l r,H l= .live r→∀cs∈r.els,∀q∈ah cs,H q≠ .unused):Wk id env H env2 H:=
 ⟨e,fun l r h=>by rw[DB];exact h,fun _ _ _ _ h=>h,m,rm,fun l _=>⟨id,fun _=>rfl⟩,fun _ _ h=>h⟩
def Wk.none {env env2:Env} (e:∀n,env2 n= .any∨env n=e7 id (env2 n)) (m:∀n,∀l∈(env2 n).aB,Hp.none l≠ .unused):Wk id env Hp.none env2 Hp.none:=
 .same e m (by simp[Hp.none])
def wrap64 {n:Int} (h1: -9223372036854775808≤n) (h2:n≤9223372036854775807):IntKind.i64.wrap n=n:=by rw[IntKind.wrap_i64];omega
section
variable {σ:Type} {S:St} {Q:oW} {k:List It} {E:σ→Env} {HH:σ→Hp} {μ:σ→Nat} {n:Nat} {env:Env} {H:Hp}
def abP:EV S Q k E HH μ n .normal env H=∃s,μ s<n∧∃ρ,Wk ρ env H (E s) (HH s):=rfl
theorem abQ (id:Nat):EV S Q k E HH μ n (.exit id) env H=match jS id k with
 |some k'=>go S Q k' env H
 |none=>Q (.exit id) env H:=rfl
def abR:EV S Q k E HH μ n .ret env H=Q .ret env H:=rfl
def RE (id:Nat):jS id []=none:=rfl
def RF (id i:Nat) (r:List It):jS id (.Ci i::r)=if i=id then some r else jS id r:=rfl
def Nr (id:Nat) (c:AC) (r:List It):jS id (.code c::r)=jS id r:=rfl
def Ns (is:List dD) (es:List (List Nat)) (fs:List Fp):go S Q (.code (.fg is es fs)::k) env H=(I6 is es fs=true∧sZ S (items 0 is fs) env H (go S Q k)):=by rw[go]
def RG (l q:Lb) (j:Nat) (c:AC):go S Q (.code (.gh (.Ha l q j) c)::k) env H=∃sz xs i n cs,H q= .live ⟨cs.length,[cs]⟩∧cs[j]?=some (.sl l sz i n)∧H l= .live ⟨sz,ar xs⟩∧l.fresh=true∧l≠q∧i+n≤xs.length∧Flat xs ∧
 go S Q (.code c::k) env (bF (bF H l .dead) q (.live ⟨cs.length,[cs.set j (.list ((xs.drop i).take n))]⟩)):=by rw[go]
def Cj (rs:List RO) (R:AV→Hp→Prop):kX rs R .ret env H=∃xs,jc env H rs=some xs∧R (jf xs) H:=by simp[kX]
def iM (rs:List RO) (R:AV→Hp→Prop):kX rs R .normal env H=∃xs,jc env H rs=some xs∧R (jf xs) H:=by simp[kX]
def dB (t:Nat) (R:AV→Hp→Prop):kX [(none,t)] R .ret env H=R (env t) H:=by simp[kX,jc,vM,jf]
def uu (m:Option Nat) (t:Nat) (R:AV→Hp→Prop):kX [(some m,t)] R .ret env H=ga (jR m (env t) H) (fun x=>R x H) .mk:=by
 simp only[kX,jc,vM,ga];cases jR m (env t) H<;>simp[jf]
def RH (m:Option Nat) (t:Nat) (R:AV→Hp→Prop):kX [(some m,t)] R .normal env H=ga (jR m (env t) H) (fun x=>R x H) .mk:=by
 simp only[kX,jc,vM,ga];cases jR m (env t) H<;>simp[jf]
def VW (t:Nat) (R:AV→Hp→Prop):kX [(none,t)] R .normal env H=R (env t) H:=by simp[kX,jc,vM,jf]
end
section
variable {S:St} {env:Env} {H:Hp}
def RI (j:Nat) (f:List Fp) (k:Env→Hp→Prop):sZ S (items j [] f) env H k=k env H:=rfl
def Nt (j n:Nat) (i:eF) (f:Fp) (r:List dD) (fs:List Fp) (k:Env→Hp→Prop) :
 sZ S (items j (⟨some n,none,i⟩::r) (f::fs)) env H k=(n<S.N∧a_ S f (some n) i env H fun x H'=>sZ S (items (j+1) r fs) (put env n x) H' k):=by rw[vN,Nb]
def Nu (j:Nat) (i:eF) (f:Fp) (r:List dD) (fs:List Fp) (k:Env→Hp→Prop) :
 sZ S (items j (⟨none,none,i⟩::r) (f::fs)) env H k=a_ S f none i env H fun x H'=>sZ S (items (j+1) r fs) env H' k:=by rw[vN,Nc]
def KM (j n s:Nat) (t:Bool) (i:eF) (f:Fp) (r:List dD) (fs:List Fp) (k:Env→Hp→Prop) :
 sZ S (items j (⟨some n,some (s,t),i⟩::r) (f::fs)) env H k=(n<S.N∧gB (env s) t (a_ S f (some n) i env H fun x H'=>sZ S (items (j+1) r fs) (put env n x) H' k) (sZ S (items (j+1) r fs) (put env n .un) H k) .mk):=by rw[vN,KJ]
end
def kM:=And.intro @Vq (And.intro @Vr (And.intro @Q0 (And.intro @Vs (And.intro @Nd (And.intro @Q2 (And.intro @Vt (And.intro @Vu (And.intro @Q3 (And.intro @Vw (And.intro @Vv (And.intro @RG (And.intro @Ns (And.intro @Q1 (And.intro @Q4 (And.intro @Vp (And.intro @QY (And.intro @QZ (And.intro @Na (And.intro @KI (And.intro @RI (And.intro @Nt (And.intro @Nu (And.intro @KM (And.intro @Zv (And.intro @VT (And.intro @VU (And.intro @Nf (And.intro @VV (And.intro @Re (And.intro @RD (And.intro @dB (And.intro @VW (And.intro @uu (And.intro @RH (And.intro @abP (And.intro @abQ (@abR)))))))))))))))))))))))))))))))))))))
def evp:=And.intro @M_ (And.intro @QW (And.intro @QX (And.intro @Zr (And.intro @Zs (And.intro @Zt (And.intro @Zu (And.intro @abM (And.intro @abN (And.intro @abO (And.intro @Af (And.intro @RE (And.intro @RF (@Nr)))))))))))))

def Flat.one {xs:List IV} (h:Flat xs):∀cs∈ar xs,AV.qE cs:=by
 intro cs bS y hy;simp only[ar,adY] at bS;obtain⟨z,hz,rfl⟩:=bS;obtain⟨c,hc,rfl⟩:=adY.1 hy;have:=h z hz c hc;cases c<;>simp[IV.gK,AV.one];exact absurd rfl (this _)
def mJ {sz:Nat} {xs:List IV} {H:Hp} (h:ko sz xs):oT sz (.list xs) H=some (ar xs):=by
 simp[oT,h,ar]
def RJ {sz b d:Nat} {xs:List IV} {H:Hp} (he:ko sz xs) (hf:Flat xs) (hb:xs.length*b≤140737488355328) (h0:0<b) (hu:H (.loc d)= .unused) :
  nH sz b d .nil0 (.list xs) H=some (.sl (.loc d) sz 0 xs.length,bF H (.loc d) (.live ⟨sz,ar xs⟩)):=by
 unfold nH;rw[mJ he,adA,ag8 (by simpa using hf.one)];have:(ar xs).length=xs.length:=by simp[ar]
 simp only;rw[adv ⟨by rw[this];exact hb,h0,hu⟩,this]
def Hg {sz b d n:Nat} {l:Lb} {els:List (List AV)} {xs:List IV} {H:Hp} (hl:H l= .live ⟨sz,els⟩) (hn:n≤els.length) (he:ko sz xs) (hf:Flat xs) (hb:(n+xs.length)*b≤140737488355328) (h0:0<b)
  (hd:l≠l.app d) (hu:H (l.app d)= .unused) :
  nH sz b d (.sl l sz 0 n) (.list xs) H=some (.sl (l.app d) sz 0 (n+xs.length),bF (bF H l .dead) (l.app d) (.live ⟨sz,els.take n++ar xs⟩)):=by
 unfold nH;rw[mJ he,adA,ag8 (by simpa using hf.one)];have:(ar xs).length=xs.length:=by simp[ar]
 simp only[hl];rw[adv ⟨rfl,rfl,rfl,hn,by rw[this];exact hb,h0,hd,hu⟩,this]
def RL (ρ:Lb→Lb) (x:IV):e7 ρ x.gK=x.gK:=by cases x<;>simp[IV.gK,e7]
theorem pJ (ρ:Lb→Lb):∀xs:List IV,aY ρ (xs.map IV.gK)=xs.map IV.gK
 |[]=>by simp[aY]
 |x::r=>by simp[aY,RL,pJ ρ r]
def EW (ρ:Lb→Lb) (sz:Nat) (xs:List IV):cV ρ ⟨sz,ar xs⟩=⟨sz,ar xs⟩:=by
 simp[cV,ar,pJ]
def RM (x:IV):x.gK.aB=[]:=by cases x<;>simp[IV.gK,AV.aB]
theorem wE:∀xs:List IV,ah (xs.map IV.gK)=[]
 |[]=>rfl
 |x::r=>by simp[ah,RM,wE r]
def bT {xs:List IV} {cs:List AV} (h:cs∈ar xs):ah cs=[]:=by
 simp only[ar,adY] at h;obtain⟨y,_,rfl⟩:=h;exact wE _
def Wk.one {env env2:Env} {H:Hp} {l0 l1:Lb} {sz:Nat} {xs:List IV} (he:∀n,env2 n= .any∨env n=e7 (fun _=>l1) (env2 n)) (hm:∀n,∀l∈(env2 n).aB,bF Hp.none l0 (.live ⟨sz,ar xs⟩) l≠ .unused)
  (h1:H l1= .live ⟨sz,ar xs⟩) (Zw:l0.fresh=true) (Yj:l1.fresh=true) (hn:∀l,l.fresh=false→H l= .unused):Wk (fun _=>l1) env H env2 (bF Hp.none l0 (.live ⟨sz,ar xs⟩)):=by
 have hl:∀l r,bF Hp.none l0 (.live ⟨sz,ar xs⟩) l= .live r→l=l0∧r=⟨sz,ar xs⟩:=by
  intro l r h;by_cases e:l=l0
  ·subst e;simp at h;exact⟨rfl,h.symm⟩
  rw[ax _ _ e] at h;simp[Hp.none] at h
 refine⟨he,fun l r h=> ?_,fun l l' ⟨r,h⟩ ⟨r',h'⟩ _=>(hl l r h).1.trans (hl l' r' h').1.symm,hm,fun l r h cs bS q hq=> ?_,fun l hle=>⟨fun h=>absurd (hn l (Lb.oq hle)) h,fun⟨r,h⟩=> ?_⟩,fun _ _ _=>Yj⟩
 ·obtain⟨rfl,rfl⟩:=hl l r h;rw[EW];exact h1
 ·obtain⟨rfl,rfl⟩:=hl l r h;rw[bT bS] at hq;simp at hq
 obtain⟨rfl,_⟩:=hl l r h;have yA:=Lb.oq hle;rw[Zw] at yA;simp at yA
def rT:∀l:Lb,l.fresh=false→Hp.none l= .unused:=fun _ _=>rfl
def nc {H:Hp} {n:Nat} {s:Slot} (h:∀l:Lb,l.fresh=false→H l= .unused):∀l:Lb,l.fresh=false→bF H (.loc n) s l= .unused:=by
 intro l hl;have:l≠ .loc n:=by rintro rfl;simp[Lb.fresh] at hl
 rw[ax _ _ this];exact h l hl
def ae (H:Hp) (l q:Lb) (s:Slot):bF H l s q=if q=l then s else H q:=rfl
section
variable {S:St} {env:Env} {H:Hp}
def ba (R W:List Lb) (d:Option Nat) (m:Option Nat) (a:O) (k:AV→Hp→Prop):a_ S (.rw R W) d (.load m a) env H k=ga (jR m (ev env a) H) (fun x=>(∀l∈j4 (ev env a),l.kQ∈R∨l.kQ∈W)∧k x H) .mk:=by
 apply propext;simp only[a_,iK,fY,bc,ga];constructor
 ·rintro⟨x,H',h1,h2,_,h3⟩;simp only[ag4,adJ] at h1;obtain⟨y,h1,rfl,rfl⟩:=h1;exact⟨y,h1,h2,h3⟩
 rintro⟨x,h1,h2,h3⟩;exact⟨x,H,by simp[h1],h2,by simp,h3⟩
def aU (R W:List Lb) (m:Nat) (a x:O) (k:AV→Hp→Prop):a_ S (.rw R W) none (.store m a x) env H k=hK (pE m (ev env a) (ev env x) H) (fun H'=>(∀l∈j4 (ev env a),l.kQ∈W)∧k .un H') .mk:=by
 apply propext;simp only[a_,iK,fY,bc,hK,adH];constructor
 ·rintro⟨x,H',h1,_,h2,h3⟩;simp only[ag4,adJ] at h1;obtain⟨y,h1,rfl,rfl⟩:=h1;exact⟨_,h1,h2,h3⟩
 rintro⟨x,h1,h2,h3⟩;exact⟨.un,x,by simp[h1],by simp,h2,h3⟩
def bH (R W:List Lb) (n:Nat) (cs:List AV) (k:AV→Hp→Prop):a_ S (.rw R W) (some n) (.new cs) env H k=(H (.loc n)= .unused∧0<cs.length∧cs.length≤maxLen∧(Lb.loc n)∈W ∧
  k (.ptr (.loc n) cs.length 0 0) (bF H (.loc n) (.live ⟨cs.length,[cs]⟩))):=by
 apply propext;simp only[a_,iK,fY,bc,adA];constructor
 ·rintro⟨x,H',h1,_,h2,h3⟩;split at h1
  ·rename_i hc;simp only[jl,adJ] at h1;obtain⟨rfl,rfl⟩:=h1;exact⟨hc.1,hc.2.1,hc.2.2,h2 (.loc n) (by simp),h3⟩
  simp at h1
 rintro⟨h1,h2,h3,h4,h5⟩;exact⟨_,_,by rw[adv ⟨h1,h2,h3⟩],by simp,by simpa[Lb.kQ] using h4,h5⟩
def bI (R W:List Lb) (n:Nat) (x:O) (k:AV→Hp→Prop):a_ S (.rw R W) (some n) (.box x) env H k=(Lb.loc n∈W∧KL (ev env x) n H k):=by
 apply propext;simp only[a_,iK,fY,bc,adA,KL];constructor
 ·rintro⟨y,H',h1,_,h2,h3⟩;split at h1
  ·rename_i hc;simp only[jl,adJ] at h1;obtain⟨rfl,rfl⟩:=h1;exact⟨h2 (.loc n) (by simp),hc.1,hc.2.1,hc.2.2.1,hc.2.2.2,h3⟩
  simp at h1
 rintro⟨h4,h1,h2,h3,h6,h5⟩;exact⟨_,_,by rw[adv ⟨h1,h2,h3,h6⟩],by simp,by simpa[Lb.kQ] using h4,h5⟩
def Ag (n:Nat) (s:AV):List Lb:=
 match s with
 | .sl l _ _ _=>[l,l.app n]
 | .slk l _ _ _ _=>[l,.loc n]
 |_=>[.loc n]
def bJ (R W:List Lb) (n:Nat) (s x:O) (sz b:Nat) (k:AV→Hp→Prop):a_ S (.rw R W) (some n) (.app s x sz b) env H k =
  pK (nH sz b n (ev env s) (ev env x) H) (fun y H'=>(∀l∈j4 (ev env x),l.kQ∈R∨l.kQ∈W)∧(∀l∈Ag n (ev env s),l.kQ∈W)∧k y H') .mk:=by
 apply propext;have:bc (some n) (.app s x sz b) env=Ag n (ev env s):=by
  simp only[bc,Ag];cases ev env s<;>simp
 simp only[a_,iK,this,fY,adA,pK]
end
end Go.Am
