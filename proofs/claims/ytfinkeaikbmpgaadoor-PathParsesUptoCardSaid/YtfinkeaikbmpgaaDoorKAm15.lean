import Derived.Test.YtfinkeaikbmpgaaDoorKAm17
import Derived.Deep.LoopGhost
import Derived.IntWalk
set_option linter.unusedSimpArgs false
set_option linter.unusedVariables false
set_option linter.unnecessarySimpa false
set_option linter.defProp false
/- THE ABSTRACT MACHINE, part 15: code, walked. -/
namespace Go.Am
open Go Go.RowKit
inductive zq where
 |code (c:Code)
 |lk (id:Nat)
def PH (P:Program) (Qh:Exit→Act→World→Prop):List zq→Exit→Act→World→Prop
 |[]=>Qh
 | .code c::k=>Exit.then (c.wp P (PH P Qh k)) (PH P Qh k)
 | .lk id::k=>Exit.inBlock id (PH P Qh k)
def AC.bare:AC→AC
 | .seq a b=> .seq a.bare b.bare
 | .cond x a b=> .cond x a.bare b.bare
 | .block id c=> .block id c.bare
 | .loop c=> .loop c.bare
 | .fU is=> .fU (is.map aP.eH)
 | .ix is es _=> .ix (is.map aP.eH) es []
 | .gh _ c=>c.bare
 |c=>c
def gj (P:Program) (G:Nat→Option (List IV)) (ops:Array Oper):List Oper→Option (List aP)
 |[]=>some []
 |o::r=>(gN P G ops o).bind fun i=>(gj P G ops r).map fun s=>i::s
def bX (P:Program) (G:Nat→Option (List IV)):Code→Option AC
 | .skip=>some .skip
 | .seq a b=>(bX P G a).bind fun x=>(bX P G b).map fun y=> .seq x y
 | .cond c a b=>(co G c).bind fun c=>(bX P G a).bind fun x=>(bX P G b).map fun y=> .cond c x y
 | .block id c=>(bX P G c).map fun x=> .block id x
 | .loop c=>(bX P G c).map fun x=> .loop x
 | .exit id=>some (.exit id)
 | .ret=>some .ret
 | .region _ ops false=>(gj P G ops ops.toList).map .fU
 | .region _ ops true=>if P.follows .mixedOrders=true then(gj P G ops ops.toList).map fun is=> .ix is (c_ ops) [] else none
 |_=>none
inductive xr (P:Program) (G:Nat→Option (List IV)):zq→It→Prop
 |code {c:Code} {x:AC}:bX P G c=some x.bare→xr P G (.code c) (.code x)
 |lk (id:Nat):xr P G (.lk id) (.lk id)
def lift (K:Kx) (Q:eQ) (e:Exit) (a:Act) (w:World):Prop:=∃env H β,Q e env H∧au K β env H a w
def Df (K:Kx) (Q:eQ) (ck:List zq) (env:Env) (H:Hp):Prop:=∀β a w,au K β env H a w→PH K.P (lift K Q) ck .normal a w
def kj (S:St) (Q:eQ) (c:AC) (k:List It) (env:Env) (H:Hp):Prop:=
 ∀(K:Kx),(⟨K.P,K.G,K.N⟩:St)=S→(∀l,live K.H0 l→l.entry=true)→∀c0 ck,bX S.P S.G c0=some c.bare→fl (xr S.P S.G) ck k→Df K Q (.code (.loop c0)::ck) env H
def kk (S:St) (env:Env) (H:Hp) (env2:Env) (H2:Hp):Prop:=
 ∀(K:Kx) (β:Lb→Option Nat) (a:Act) (w:World),(⟨K.P,K.G,K.N⟩:St)=S→(∀l,live K.H0 l→l.entry=true)→au K β env H a w→∃β',au K β' env2 H2 a w
def Choice (S:St) (env:Env) (H:Hp) (T:Type) (E:T→Env) (HH:T→Hp):Prop:=
 ∀(K:Kx) (β:Lb→Option Nat) (a:Act) (w:World),(⟨K.P,K.G,K.N⟩:St)=S→(∀l,live K.H0 l→l.entry=true)→au K β env H a w→∃t β',au K β' (E t) (HH t) a w
def Cut (n:Nat) (f:Env→Hp→Prop) (env:Env) (H:Hp):Prop:=f env H
def go (S:St) (Q:eQ):List It→Env→Hp→Prop
 |[]=>fun env H=>Q .normal env H
 | .lk _::k=>go S Q k
 | .code .skip::k=>go S Q k
 | .code (.seq a b)::k=>go S Q (.code a:: .code b::k)
 | .code (.cond x a b)::k=>fun env H=>∃t,ev env x= .bool t∧(t=true→go S Q (.code a::k) env H)∧(t=false→go S Q (.code b::k) env H)
 | .code (.block id c)::k=>go S Q (.code c:: .lk id::k)
 | .code (.loop c)::k=>kj S Q c k
 | .code (.exit id)::k=>match h:cy id k with
  |some k'=>go S Q k'
  |none=>fun env H=>Q (.exit id) env H
 | .code .ret::_=>fun env H=>Q .ret env H
 | .code (.fU is)::k=>fun env H=>AO S is env H (go S Q k)
 | .code (.ix is es fs)::k=>fun env H=>o_ is es fs=true∧fX S (items 0 is fs) env H (go S Q k)
 | .code (.gh g c)::k=>match g with
  | .ca ns=>fun env H=>go S Q (.code c::k) (ki ns env) H
  | .zp l d=>fun env H=>∃sz xs i n,env d= .sl l sz i n∧H l= .live ⟨sz,bK xs⟩∧l.fresh=true∧i+n≤xs.length∧Flat xs ∧
   go S Q (.code c::k) (put env d (.list ((xs.drop i).take n))) (bb H l .dead)
  | .uj l q j=>fun env H=>∃sz xs i n cs,H q= .live ⟨cs.length,[cs]⟩∧cs[j]?=some (.sl l sz i n)∧H l= .live ⟨sz,bK xs⟩∧l.fresh=true∧l≠q∧i+n≤xs.length∧Flat xs ∧
   go S Q (.code c::k) env (bb (bb H l .dead) q (.live ⟨cs.length,[cs.set j (.list ((xs.drop i).take n))]⟩))
  | .own d sz=>fun env H=>env d= .nil0∧0<sz∧H (.loc d)= .unused∧go S Q (.code c::k) (put env d (.sl (.loc d) sz 0 0)) (bb H (.loc d) (.live ⟨sz,[]⟩))
  | .cut n=>Cut n (go S Q (.code c::k))
  | .pN=>fun env H=>∃env2 H2,kk S env H env2 H2∧go S Q (.code c::k) env2 H2
  | .De=>fun env H=>∃(T:Type) (E:T→Env) (HH:T→Hp),Choice S env H T E HH∧∀t,go S Q (.code c::k) (E t) (HH t)
termination_by k=>ju k
decreasing_by
 all_goals simp only[ju,It.sz,AC.sz]
 all_goals first|omega|(have:=iy h;omega)
def iz {S:St} {Q:eQ} {id:Nat} {k k':List It} (h:cy id k=some k'):go S Q (.code (.exit id)::k)=go S Q k':=by
 rw[go];split
 ·rename_i Ec h2;rw[h] at h2;cases h2;rfl
 rename_i h2;rw[h] at h2;cases h2
def iA {S:St} {Q:eQ} {id:Nat} {k:List It} (h:cy id k=none):go S Q (.code (.exit id)::k)=Q (.exit id):=by
 rw[go];split
 ·rename_i Ec h2;rw[h] at h2;cases h2
 rfl
section
variable {K:Kx} {β:Lb→Option Nat} {env:Env} {H:Hp} {a:Act} {w:World}
theorem kl (P:Program) (Qh:Exit→Act→World→Prop):∀(ck:List zq) (a:Act) (w:World),Qh .ret a w→PH P Qh ck .ret a w
 |[],a,w,h=>h
 | .code c::k,a,w,h=>by simp only[PH,Exit.then];exact kl P Qh k a w h
 | .lk id::k,a,w,h=>by simp only[PH,Exit.inBlock];exact kl P Qh k a w h
theorem fx {P:Program} {G:Nat→Option (List IV)} (Qh:Exit→Act→World→Prop) {id:Nat}:∀(ck:List zq) (k:List It),fl (xr P G) ck k →
  match cy id k with
  |some k'=>∃qN,fl (xr P G) qN k'∧∀a w,PH P Qh qN .normal a w→PH P Qh ck (.exit id) a w
  |none=>∀a w,Qh (.exit id) a w→PH P Qh ck (.exit id) a w
 |_,_,.nil=>by simp only[cy];exact fun a w h=>h
 |_,_,@fl.cons _ _ _ _ _ ck k h1 h2=>by
  cases h1 with
  |code hc=>
   have ih:=fx Qh (id:=id) ck k h2;simp only[cy];split<;>rename_i hp<;>rw[hp] at ih<;>simp only at ih
   ·obtain⟨qN,e1,e2⟩:=ih;exact⟨qN,e1,fun a w h=>by simp only[PH,Exit.then];exact e2 a w h⟩
   exact fun a w h=>by simp only[PH,Exit.then];exact ih a w h
  |lk i=>
  have ih:=fx Qh (id:=id) ck k h2;simp only[cy];by_cases e:i=id
  ·simp only[e,Gv];exact⟨ck,h2,fun a w h=>by simp only[PH,Exit.inBlock,Gv];exact h⟩
  simp only[e,GM];split<;>rename_i hp<;>rw[hp] at ih<;>simp only at ih
  ·obtain⟨qN,e1,e2⟩:=ih;exact⟨qN,e1,fun a w h=>by simp only[PH,Exit.inBlock,GP e,GM];exact e2 a w h⟩
  exact fun a w h=>by simp only[PH,Exit.inBlock,GP e,GM];exact ih a w h
theorem gk {P:Program} {G:Nat→Option (List IV)} {ops:Array Oper}:∀(l:List Oper) (is:List aP),gj P G ops l=some (is.map aP.eH)→fl (fun o i=>gN P G ops o=some (aP.eH i)) l is
 |[],is,h=>by
  simp[gj] at h;have:is=[]:=by cases is<;>simp_all
  subst this;exact .nil
 |o::r,is,h=>by
  simp only[gj] at h;obtain⟨i,h1,h⟩:=aE h;obtain⟨s,h2,h3⟩:=aL h;cases is with
  |nil=>simp at h3
  |cons j is=>
  simp only[FY,GH] at h3;obtain⟨rfl,rfl⟩:=h3;exact .cons h1 (gk r is h2)
def au.ki (hr:au K β env H a w) (ns:List Nat):au K β (Am.ki ns env) H a w:=
 ⟨hr.defers,hr.size,fun n=>by unfold Am.ki;split;exact hr.ey n;simp[RV],hr.rows,hr.own,hr.inj,fun n l hl=>by
  unfold Am.ki at hl;split at hl
  ·exact hr.dp n l hl
  simp[AV.ax] at hl,hr.bL,hr.frame,hr.eh,hr.eD,hr.fr⟩
def pb (hr:au K β env H a w) (d:Nat) {x:AV} (hx:RV w β H (Im K β H) x (a.tmps.getD d undef)) (hm:∀l∈x.ax,H l≠ .unused):au K β (put env d x) H a w:=
  ⟨hr.defers, hr.size, fun n => by unfold put; split; · next h => subst h; exact hx
                                   exact hr.ey n,hr.rows,hr.own,hr.inj,fun n l hl=>by
    unfold put at hl;split at hl
    · exact hm l hl
    exact hr.dp n l hl,hr.bL,hr.frame,hr.eh,hr.eD,hr.fr⟩
def rD (hr:au K β env H a w) {l:Lb} {sz:Nat} {xs:List IV} {i n:Nat} {v:Value} (hl:H l= .live ⟨sz,bK xs⟩) (hf:l.fresh=true) (pA:i+n≤xs.length) (rj:Flat xs)
  (hv:RV w β H (Im K β H) (.sl l sz i n) v):RV w β (bb H l .dead) (Im K β (bb H l .dead)) (.list ((xs.drop i).take n)) v:=by
 have aF:∀q,live (bb H l .dead) q→live H q∧q≠l:=by
  rintro q ⟨r,h⟩;by_cases e:q=l
  ·subst e;simp at h
  rw[ai _ _ e] at h;exact⟨⟨r,h⟩,e⟩
 have hk:ef w w (Im K β H) (Im K β (bb H l .dead)):=⟨fun k hk hs=>⟨⟨hk.1,fun q hq=>hk.2 q (aF q hq).1⟩,hs,rfl⟩⟩;simp only[RV] at hv;obtain⟨ad,c,rfl,h2,h3,h4,h5⟩:=hv;simp only[RV,de];have hlen:((xs.drop i).take n).length=n:=by simp;omega
 rw[hlen];refine⟨ad,c,rfl,h2,h3,?_⟩;by_cases hn:n=0
 ·exact .inl hn
 right;rcases h5 ⟨_,hl⟩ with h6|⟨g,S,e1,e2,e3,e4⟩
 ·omega
 obtain⟨cur,e0,cap,k1,k2,k3,k4,k5⟩:=(hr.rows l _ hl).block e1;have fh:0<sz:=(hr.rows l _ hl).1;have zg:Im K β (bb H l .dead) g:=⟨.inr (hr.fr l g ⟨_,hl⟩ hf e1),fun q hq hb=>(aF q hq).2 (hr.inj q l g (aF q hq).1 ⟨_,hl⟩ hb e1)⟩;refine⟨g,i*sz,sz,e2,zg,(FL.1 k1).1,fh,fu _ _ _ (fun k y hy=> ?_)⟩;have xl:xs[i+k]?=some y:=by
  rw[FA] at hy;split at hy
  ·rwa[F6] at hy
  simp at hy
 rw[dB];have nO:y.cells.length=sz:=by
  have:=(hr.rows l _ hl).2.1 (y.cells.map IV.dQ) (by
   simp only[bK];exact Gz (f:=fun y:IV=>y.cells.map IV.dQ) (Fx xl))
  simpa using this
 refine⟨nO.symm,ft _ _ _ (fun j z hz=> ?_)⟩;obtain⟨u,q1,q2⟩:=k5 (i+k) j (y.cells.map IV.dQ) z.dQ (by simp[bK,xl]) (by simp[hz]);refine⟨u,?_,oa hk (rj y (Fx xl) z (Fx hz)) q2⟩;rw[cell_of_row w g _ cur e0 (0,0) k1,←q1];congr 1;rw[FI]
theorem da {P:Program} {G:Nat→Option (List IV)} {c0:Code} {x:AC} (h:bX P G c0=some x) :
  match x with
  | .skip=>c0= .skip
  | .seq x y=>∃a b,c0= .seq a b∧bX P G a=some x∧bX P G b=some y
  | .cond o x y=>∃c a b,c0= .cond c a b∧co G c=some o∧bX P G a=some x∧bX P G b=some y
  | .block id x=>∃a,c0= .block id a∧bX P G a=some x
  | .loop x=>∃a,c0= .loop a∧bX P G a=some x
  | .exit id=>c0= .exit id
  | .ret=>c0= .ret
  | .fU is=>∃id ops,c0= .region id ops false∧gj P G ops ops.toList=some is
  | .ix is es fs=>∃id ops,c0= .region id ops true∧P.follows .mixedOrders=true∧es=c_ ops∧gj P G ops ops.toList=some is
  | .gh _ _=>False:=by
 cases c0 with
 |skip=>simp only[bX,cQ] at h;subst h;rfl
 |seq a b=>
  simp only[bX] at h;obtain⟨x1,h1,h⟩:=aE h;obtain⟨y1,h2,rfl⟩:=aL h;exact⟨a,b,rfl,h1,h2⟩
 |cond c a b=>
  simp only[bX] at h;obtain⟨c1,h0,h⟩:=aE h;obtain⟨x1,h1,h⟩:=aE h;obtain⟨y1,h2,rfl⟩:=aL h;exact⟨c,a,b,rfl,h0,h1,h2⟩
 |block id a=>
  simp only[bX] at h;obtain⟨y1,h2,rfl⟩:=aL h;exact⟨a,rfl,h2⟩
 |loop a=>
  simp only[bX] at h;obtain⟨y1,h2,rfl⟩:=aL h;exact⟨a,rfl,h2⟩
 |exit id=>simp only[bX,cQ] at h;subst h;rfl
 |ret=>simp only[bX,cQ] at h;subst h;rfl
 |region id ops draw=>
  cases draw with
  |true=>
   simp only[bX] at h;split at h
   ·rename_i hm;obtain⟨is,h2,rfl⟩:=aL h;exact⟨id,ops,rfl,hm,rfl,h2⟩
   simp at h
  |false=>
  simp only[bX] at h;obtain⟨is,h2,rfl⟩:=aL h;exact⟨id,ops,rfl,h2⟩
 |rangeFunc _ _ _ _=>simp[bX] at h
 |scope _=>simp[bX] at h
 |label _=>simp[bX] at h
 |goto _=>simp[bX] at h
 |refuse _=>simp[bX] at h
def go_sound (hS:∀l,live K.H0 l→l.entry=true) (Q:eQ):∀(n:Nat) (k:List It) (ck:List zq),ju k≤n→fl (xr K.P K.G) ck k →
  ∀env H,go ⟨K.P,K.G,K.N⟩ Q k env H→Df K Q ck env H:=by
 intro n;induction n with
 |zero=>
  intro k ck hn hc env H hg β a w hr;cases hc with
  |nil=>
   rw[go] at hg;exact⟨env,H,β,hg,hr⟩
  |@cons x i ck k h1 h2=>
  cases i with
  |code c=>have:=c.rC;simp only[ju,It.sz] at hn;omega
  |lk id=>simp only[ju,It.sz] at hn;omega
 |succ n ih=>
 intro k ck hn hc env H hg β a w hr;cases hc with
 |nil=>
  rw[go] at hg;exact⟨env,H,β,hg,hr⟩
 |@cons x i ck k h1 h2=>
 cases h1 with
 |lk id=>
  rw[go] at hg;simp only[PH,Exit.inBlock];exact ih k ck (by simp only[ju,It.sz] at hn;omega) h2 env H hg β a w hr
 |@code c0 c eI=>
 simp only[PH,Exit.then];have xu:=c.rC;cases c with
 |skip=>
  rw[go] at hg;simp only[AC.bare] at eI;have e:=da eI;simp only at e;subst e;exact wp_skip (ih k ck (by simp only[ju,It.sz,AC.sz] at hn;omega) h2 env H hg β a w hr)
 |seq x y=>
  rw[go] at hg;obtain⟨x0,y0,rfl,e1,e2⟩:=da eI;refine wp_seq ?_;have:=ih (.code x:: .code y::k) (.code x0:: .code y0::ck) (by simp only[ju,It.sz,AC.sz] at hn ⊢;omega) (.cons (.code e1) (.cons (.code e2) h2)) env H hg β a w hr;simpa only[PH,Exit.then] using this
 |cond x y z=>
  rw[go] at hg;obtain⟨o0,y0,z0,rfl,e0,e1,e2⟩:=da eI;obtain⟨t,ht,g1,g2⟩:=hg;have hv:=hr.ev e0;rw[ht] at hv;simp only[RV] at hv;refine wp_cond_split hv ?_ ?_<;>intro h
  ·have:=ih (.code y::k) (.code y0::ck) (by simp only[ju,It.sz,AC.sz] at hn ⊢;omega) (.cons (.code e1) h2) env H (g1 h) β a w hr;simpa only[PH,Exit.then] using this
  have:=ih (.code z::k) (.code z0::ck) (by simp only[ju,It.sz,AC.sz] at hn ⊢;omega) (.cons (.code e2) h2) env H (g2 h) β a w hr;simpa only[PH,Exit.then] using this
 |block id c=>
  rw[go] at hg;obtain⟨c1,rfl,e1⟩:=da eI;refine wp_block ?_;have:=ih (.code c:: .lk id::k) (.code c1:: .lk id::ck) (by simp only[ju,It.sz,AC.sz] at hn ⊢;omega) (.cons (.code e1) (.cons (.lk id) h2)) env H hg β a w hr;simpa only[PH,Exit.then] using this
 |loop c=>
  rw[go] at hg;obtain⟨c1,rfl,e1⟩:=da eI;have:=hg K rfl hS c1 ck e1 h2 β a w hr;simpa only[PH,Exit.then] using this
 |exit id=>
  simp only[AC.bare] at eI;have e:=da eI;simp only at e;subst e;have hp:=fx (P:=K.P) (G:=K.G) (lift K Q) (id:=id) ck k h2;refine wp_exit ?_;cases pY:cy id k with
  |some k'=>
   rw[iz pY] at hg;rw[pY] at hp;obtain⟨qN,e1,e2⟩:=hp;have:=iy pY;exact e2 a w (ih k' qN (by simp only[ju,It.sz,AC.sz] at hn;omega) e1 env H hg β a w hr)
  |none=>
  rw[iA pY] at hg;rw[pY] at hp;exact hp a w ⟨env,H,β,hg,hr⟩
 |ret=>
  simp only[AC.bare] at eI;have e:=da eI;simp only at e;subst e;rw[go] at hg;exact wp_ret (kl _ _ _ _ _ ⟨env,H,β,hg,hr⟩)
 |fU is=>
  obtain⟨id,ops,rfl,e1⟩:=da eI;rw[go] at hg;refine wp_region_list ?_;refine mT (fun env' H' β' a' w' q1 q2=> ?_) ops.toList is env H a w β (gk _ _ e1) hg hr;exact ih k ck (by simp only[ju,It.sz,AC.sz] at hn;omega) h2 env' H' q1 β' a' w' q2
 |ix is es fs=>
  obtain⟨id,ops,rfl,hm,rfl,e1⟩:=da eI;rw[go] at hg;refine m_ hr hm (gk _ _ e1) hg.1 (fun env' H' β' a' w' q1 q2=> ?_) hg.2;exact ih k ck (by simp only[ju,It.sz,AC.sz] at hn;omega) h2 env' H' q1 β' a' w' q2
 |gh g c=>
 have xw:bX K.P K.G c0=some c.bare:=eI;have gK:∀env' H',go ⟨K.P,K.G,K.N⟩ Q (.code c::k) env' H'→∀β',au K β' env' H' a w→c0.wp K.P (PH K.P (lift K Q) ck) a w:=by
  intro env' H' h β' jP;have:=ih (.code c::k) (.code c0::ck) (by simp only[ju,It.sz,AC.sz] at hn ⊢;omega) (.cons (.code xw) h2) env' H' h β' a w jP;simpa only[PH,Exit.then] using this
 cases g with
 |ca ns=>rw[go] at hg;exact gK _ _ hg β (hr.ki ns)
 |cut m=>rw[go] at hg;exact gK _ _ hg β hr
 |pN=>
  rw[go] at hg;obtain⟨env2,H2,g1,g2⟩:=hg;obtain⟨β',jP⟩:=g1 K β a w rfl hS hr;exact gK _ _ g2 β' jP
 |De=>
  rw[go] at hg;obtain⟨T,E,HH,g1,g2⟩:=hg;obtain⟨t,β',jP⟩:=g1 K β a w rfl hS hr;exact gK _ _ (g2 t) β' jP
 |own d sz=>
  rw[go] at hg;obtain⟨g1,g2,g3,g4⟩:=hg;have h3:=hr.iP (.loc d) g3 (r:=⟨sz,[]⟩) (Below.refl _ _) none (by simp) (by simp) ⟨g2,by simp,by simp⟩;have hv:=h3.ey d;rw[g1] at hv;simp only[RV] at hv;obtain⟨ad,hv⟩:=hv;exact gK _ _ g4 _ (pb h3 d (by rw[hv];simp only[RV];exact⟨ad,0,rfl,FJ _,by simp[maxLen],by simp,fun _=> .inl rfl⟩) (by simp[AV.ax]))
 |zp l d=>
  rw[go] at hg;obtain⟨sz,xs,i,n,g1,g2,g3,g4,g5,g6⟩:=hg;have hv:=hr.ey d;rw[g1] at hv;exact gK _ _ g6 _ (pb (hr.kill l (by rw[g2];simp)) d (rD hr g2 g3 g4 g5 hv) (by simp[AV.ax]))
 |uj l q j=>
 rw[go] at hg;obtain⟨sz,xs,i,n,cs,g1,g2,g3,g4,g5,g6,g7,g8⟩:=hg;have hk:=hr.kill l (by rw[g3];simp);have hq:bb H l .dead q= .live ⟨cs.length,[cs]⟩:=by rw[ai _ _ (GP g5)];exact g1
 have fh:0<cs.length:=(hr.rows q _ g1).1;cases hb:β q with
 |none=>
  have:=(hr.rows q _ g1).2.2;simp[hb] at this
 |some g=>
 obtain⟨cur,e0,cap,k1,k2,k3,k4,k5⟩:=(hr.rows q _ g1).block hb;obtain⟨cur',E7,Ed,Dg,E8,E9,E',Ee⟩:=(hk.rows q _ hq).block hb;rw[k1] at Dg;cases Dg;have v8:j<cs.length:=(Fw.1 g2).1;have kb:=hk.setRow q (r':=⟨cs.length,[cs.set j (.list ((xs.drop i).take n))]⟩) (cur':=cur) (cap:=cap) hq hb k1 rfl rfl k2 k3 (by simpa using k4) (by simp)
  (by
   intro ds th p hp;simp at th;subst th;have:p∈af cs:=by
    obtain⟨y,hy,Dh⟩:∃y∈cs.set j (.list ((xs.drop i).take n)),p∈y.ax:=by
     generalize cs.set j (.list ((xs.drop i).take n))=ds at hp;induction ds with
     |nil=>simp[af] at hp
     |cons y r Ef=>
     simp only[af,Fz] at hp;rcases hp with hp|hp
     ·exact⟨y,by simp,hp⟩
     obtain⟨z,hz,Eg⟩:=Ef hp;exact⟨z,by simp[hz],Eg⟩
    rcases G1 hy with hy|rfl
    ·obtain⟨m,hm⟩:=Gl hy;exact bT _ _ _ hm p Dh
    simp[AV.ax] at Dh
   have:=hk.bL q _ hq cs (by simp) p this;exact this)
  (by
   intro i' j' ds x0 cM fo;cases i' with
   |succ i'=>simp at cM
   |zero=>
   simp at cM;subst cM;by_cases e:j'=j
   ·subst e;rw[HJ v8] at fo;cases fo;obtain⟨v,q1,q2⟩:=k5 0 j' cs _ (by simp) g2;exact⟨v,q1,rD hr g3 g4 g6 g7 q2⟩
   rw[HP (GP e)] at fo;exact Ee 0 j' cs x0 (by simp) fo)
 have mR:w.setRow g cur=w:=setRow_self w g cur e0 (0,0) k1;rw[mR] at kb;exact gK _ _ g8 _ kb
end

abbrev RO:=Option (Option Nat)×Nat
def pc (P:Program):ResultVar→Option RO
 | .tmp t=>some (none,t)
 | .cell a t=>(pz P t).map fun m=>(some m,a)
def iX (P:Program):List ResultVar→Option (List RO)
 |[]=>some []
 |r::s=>(pc P r).bind fun x=>(iX P s).map fun y=>x::y
def km (r:RO) (env:Env) (H:Hp):Option AV:=
 match r.1 with
 |none=>some (env r.2)
 |some m=>cN m (env r.2) H
def fy (env:Env) (H:Hp):List RO→Option (List AV)
 |[]=>some []
 |r::s=>(km r env H).bind fun x=>(fy env H s).map fun y=>x::y
def iY:List AV→AV
 |[x]=>x
 |xs=> .dG xs
def fc (rs:List RO) (R:AV→Hp→Prop):eQ:=fun e env H=>(e= .normal∨e= .ret)∧∃xs,fy env H rs=some xs∧R (iY xs) H
def kO (args:List AV):Env:=fun n=>args.getD n .un
def aM (P:Program) (G:Nat→Option (List IV)) (f:Nat):Option (Nat×List RO×AC):=
 (P.funcs[f]?).bind fun fn=>fn.body.bind fun c=>(iX P fn.results.toList).bind fun rs=>(bX P G c).map fun x=>(fn.ntmps,rs,x)
section
variable {K:Kx} {β:Lb→Option Nat} {env:Env} {H:Hp} {a:Act} {w:World}
theorem od (hr:au K β env H a w) {rv:ResultVar} {r:RO} (hc:pc K.P rv=some r) {x:AV} (hx:km r env H=some x) :
  ∃v,(match rv with
   | .tmp t=>(pure (a.tmps.getD t undef):Sem Value)
   | .cell b t=>do loadVar t (←asAddr (a.tmps.getD b undef))).run K.P w= .ok v w∧RV w β H (Im K β H) x v∧∀l∈x.ax,H l≠ .unused:=by
 cases rv with
 |tmp t=>
  simp only[pc,cQ] at hc;subst hc;simp only[km,cQ] at hx;subst hx;exact⟨_,by simp,hr.ey t,hr.dp t⟩
 |cell b t=>
 simp only[pc] at hc;obtain⟨m,h1,rfl⟩:=aL hc;simp only[km] at hx;obtain⟨v,q1,q3,q4⟩:=o2 (o:={(default:Oper) with op:= .load t (.tmp b)}) (x':= .t b) hr rfl h1 rfl hx;have hv:=hr.ey b;cases he:env b with
 |ptr l sz i j=>
  rw[he] at hv;simp only[RV] at hv;obtain⟨ad,e1,e2⟩:=hv;simp only[execOp,Act.eval,e1,Instr.loadAt,Instr.sureAddr,Sem.run_bind,Sem.run_pure,Result.andThen_ok] at q1;refine⟨v,?_,q3,q4⟩;simp only[e1,asAddr,Sem.run_bind,Sem.run_pure,Result.andThen_ok];cases hl:(loadVar t ad).run K.P w with
  |ok u w2=>
   rw[hl] at q1;simp only[Result.andThen_ok,Result.ok.injEq] at q1;obtain⟨q1,rfl⟩:=q1;cases q1;rfl
  |_=>rw[hl] at q1;simp at q1
 |_=>rw[he] at hx;simp[cN] at hx
theorem jv (hr:au K β env H a w):∀(Bz:List ResultVar) (rs:List RO) (xs:List AV),iX K.P Bz=some rs→fy env H rs=some xs →
  ∃vs,(Bz.mapM (m:=Sem) fun
   | .tmp t=>(pure (a.tmps.getD t undef):Sem Value)
   | .cell b t=>do loadVar t (←asAddr (a.tmps.getD b undef))).run K.P w= .ok vs w∧aI w β H (Im K β H) xs vs∧∀l∈af xs,H l≠ .unused
 |[],rs,xs,hc,hx=>by
  simp only[iX,cQ] at hc;subst hc;simp only[fy,cQ] at hx;subst hx;exact⟨[],by simp,by simp[aI],by simp[af]⟩
 |rv::Bz,rs,xs,hc,hx=>by
  simp only[iX] at hc;obtain⟨r,h1,hc⟩:=aE hc;obtain⟨zr,h2,rfl⟩:=aL hc;simp only[fy] at hx;obtain⟨x,h3,hx⟩:=aE hx;obtain⟨Av,h4,rfl⟩:=aL hx;obtain⟨v,e1,e2,e3⟩:=od hr h1 h3;obtain⟨vs,k1,k2,k3⟩:=jv hr Bz zr Av h2 h4;refine⟨v::vs,?_,⟨v,vs,rfl,e2,k2⟩,?_⟩
  ·rw[List.mapM_cons];simp only[Sem.run_bind,e1,Result.andThen_ok,k1,Sem.run_pure]
  intro l hl;simp only[af,Fz] at hl;rcases hl with hl|hl
  ·exact e3 l hl
  exact k3 l hl
def kP (hr:au K β env H a w) {fn:Func} {rs:List RO} {xs:List AV} (hc:iX K.P fn.results.toList=some rs) (hx:fy env H rs=some xs) :
  ∃v,(results fn a.tmps).run K.P w= .ok v w∧RV w β H (Im K β H) (iY xs) v∧∀l∈(iY xs).ax,H l≠ .unused:=by
 obtain⟨vs,h1,h2,h3⟩:=jv hr _ _ _ hc hx;have hlen:=aI.len _ _ h2;have fG:(results fn a.tmps).run K.P w= .ok (if h:vs.toArray.size=1 then vs.toArray[0] else .tuple vs.toArray) w:=by
  unfold results;rw[Array.mapM_eq_mapM_toList];simp only[Sem.run_bind,Sem.run_pure,map_eq_pure_bind];exact(FK (fun r:Result (List Value)=>(r.andThen fun a w'=>Result.ok a.toArray w').andThen fun a w'=>Result.ok (if h:a.size=1 then a[0] else Value.tuple a) w') h1).trans rfl
 refine⟨_,fG,?_⟩
 match xs,h2,h3,hlen with
 |[],h2,h3,hlen=>
  simp only[aI] at h2;subst h2;simp[iY,RV,aI,AV.ax,af]
 |[x],h2,h3,hlen=>
  simp only[aI] at h2;obtain⟨v,us,rfl,e1,rfl⟩:=h2;simp only[iY];exact⟨by simpa using e1,fun l hl=>h3 l (by simp[af,hl])⟩
 |x::y::r,h2,h3,hlen=>
  have:vs.toArray.size≠1:=by simp;simp at hlen;omega
  rw[dif_neg this];simp only[iY,RV,AV.ax];exact⟨⟨vs,rfl,h2⟩,h3⟩
def rE (args:List AV) (n:Nat) (l:Lb) (h:l∈(kO args n).ax):l∈af args:=by
 unfold kO at h;rw[Gd] at h;cases hx:args[n]? with
 |none=>rw[hx] at h;simp[AV.ax] at h
 |some x=>rw[hx] at h;exact bT _ _ _ hx l (by simpa using h)
def kn {P:Program} {G:Nat→Option (List IV)} {f:Nat} {n:Nat} {rs:List RO} {ac:AC} {args:List AV} {R:AV→Hp→Prop}
   (hF:aM P G f=some (n,rs,ac.bare)) (hn:args.length≤n) (Ce:∀l,live H l→l.entry=true) (hm:∀l∈af args,H l≠ .unused)
   (hg:go ⟨P,G,n⟩ (fc rs R) [.code ac] (kO args) H):dT P G f args H R:=by
 unfold aM at hF
 obtain⟨fn,hf,hF⟩:=aE hF
 obtain⟨c,hb,hF⟩:=aE hF
 obtain⟨zr,gV,hF⟩:=aE hF
 obtain⟨x,Eh,hF⟩:=aL hF
 simp only[FB] at hF
 obtain⟨rfl,rfl,rfl⟩:=hF
 intro w A β vs hr hv
 have hlen:=aI.len _ _ hv
 refine calls_of_wp hf hb ?_
 have fh:vs.toArray.size=args.length:=by simpa using hlen
 let K:Kx:=⟨P,G,w,A,wh β H,fn.ntmps,H,β⟩
 have gf:au K β (kO args) H {tmps:=vs.toArray++Array.replicate (fn.ntmps - vs.toArray.size) undef,defers:=[]} w:=
   { defers := rfl
     size:=by simp only[Array.size_append,Array.size_replicate,fh,K];omega
     ey := fun m => by
       have fI:(vs.toArray++Array.replicate (fn.ntmps - vs.toArray.size) undef).getD m undef=(vs[m]?).getD undef:=by
         rw[FD]
         by_cases Ei:m<vs.length
         · rw[GN (by simpa using Ei)];simp
         rw[Array.getElem?_append_right (by simp;omega),G8]
         rw[GD (by omega)]
         split<;>simp
       simp only
       rw[fI]
       unfold kO
       rw[Gd]
       cases hx:args[m]? with
       |none=>
         have:vs[m]?=none:=by
           rw[List.getElem?_eq_none_iff] at hx ⊢;omega
         rw[this];simp[RV,undef]
       |some y=>
       obtain⟨u,h1,h2⟩:=aI.get _ _ _ _ hv hx
       rw[h1];exact h2
     rows:=hr.rows
     own:=hr.own
     inj:=hr.inj
     dp:=fun m l hl=>hm l (rE args m l hl)
     bL:=hr.bL
     frame:=hr.frame
     eh:=hr.eh
     eD:=hr.eD
     fr:=hr.fr}
 have bG:fl (xr P G) [.code c] [.code ac]:= .cons (.code Eh) .nil
 have:=go_sound (K:=K) Ce (fc zr R) (ju [.code ac]) [.code ac] [.code c] (FJ _) bG (kO args) H hg β _ w gf
 simp only[PH,Exit.then] at this
 refine wp_mono this ?_
 intro e a' w' hq
 have key:∀a' w',(lift K (fc zr R) .normal a' w'∨lift K (fc zr R) .ret a' w')→a'.defers=[]∧∃v,(results fn a'.tmps).run P w'= .ok v w' ∧
     ∃v' x H' β',Ending.returned v= .returned v'∧R x H'∧au (bO P G w A β H) β' Env.any H' jq w' ∧
     RV w' β' H' (Im (bO P G w A β H) β' H') x v'∧∀l∈x.ax,H' l≠ .unused:=by
   intro a' w' h
   have:∃e env' H' β',fc zr R e env' H'∧au K β' env' H' a' w':=by
     rcases h with⟨env',H',β',h⟩|⟨env',H',β',h⟩<;>exact⟨_,env',H',β',h⟩
   obtain⟨e,env',H',β',⟨_,xs,h1,h2⟩,h3⟩:=this
   obtain⟨v,k1,k2,k3⟩:=kP h3 gV h1
   refine⟨h3.defers,v,k1,v,_,H',β',rfl,h2,?_,k2,k3⟩
   exact
     { defers := rfl
       size:=rfl
       ey:=fun m=>by simp[Env.any,RV]
       rows:=h3.rows
       own:=h3.own
       inj:=h3.inj
       dp:=fun m=>by simp[Env.any,AV.ax]
       bL:=h3.bL
       frame:=h3.frame
       eh:=h3.eh
       eD:=h3.eD
       fr:=h3.fr}
 cases e with
 |normal=>exact key a' w' (.inl hq)
 |ret=>exact key a' w' (.inr hq)
 |panic ch=>obtain⟨_,_,_,⟨h,_⟩,_⟩:=hq;simp at h
 |exit id=>obtain⟨_,_,_,⟨h,_⟩,_⟩:=hq;simp at h
 |goto l=>obtain⟨_,_,_,⟨h,_⟩,_⟩:=hq;simp at h
 |outgrown=>obtain⟨_,_,_,⟨h,_⟩,_⟩:=hq;simp at h
def aG {P:Program} {G:Nat→Option (List IV)} {f:Nat} {n:Nat} {rs:List RO} {ac:AC} {args:List AV} {res:AV}
  (hF:aM P G f=some (n,rs,ac.bare)) (hn:args.length≤n) (hl:af args=[]) (Ej:res.ax=[])
  (hg:go ⟨P,G,n⟩ (fc rs fun x _=>x=res) [.code ac] (kO args) Hp.none):aw P G f args res:=
 ⟨hl,Ej,kn hF hn (fun l ⟨r,h⟩=>by simp[Hp.none] at h) (by simp[hl]) hg⟩
end

structure Wk (ρ:Lb→Lb) (env:Env) (H:Hp) (env2:Env) (H2:Hp):Prop where
 e:∀n,env2 n= .any∨env n=bw ρ (env2 n)
 h:∀l r,H2 l= .live r→H (ρ l)= .live (cC ρ r)
 inj:∀l l',live H2 l→live H2 l'→ρ l=ρ l'→l=l'
 m:∀n,∀l∈(env2 n).ax,H2 l≠ .unused
 rm:∀l r,H2 l= .live r→∀cs∈r.bN,∀q∈af cs,H2 q≠ .unused
 st:∀l,l.entry=true→(H l≠ .unused→H2 l≠ .unused)∧(live H2 l→ρ l=l)
 fr:∀l,live H2 l→l.fresh=true→(ρ l).fresh=true
def na {σ:Type} (S:St) (Q:eQ) (k:List It) (E:σ→Env) (HH:σ→Hp) (μ:σ→Nat) (n:Nat):eQ:=fun e env H=>
 match e with
 | .normal=>∃s,μ s<n∧∃ρ,Wk ρ env H (E s) (HH s)
 | .exit id=>match cy id k with
  |some k'=>go S Q k' env H
  |none=>Q (.exit id) env H
 | .ret=>Q .ret env H
 |_=>False
def Wk.rel {K:Kx} {β:Lb→Option Nat} {env:Env} {H:Hp} {a:Act} {w:World} {ρ:Lb→Lb} {env2:Env} {H2:Hp} (hS:∀l,live K.H0 l→l.entry=true) (h:Wk ρ env H env2 H2) (hr:au K β env H a w) :
  au K (fun l=>β (ρ l)) env2 H2 a w:=
 hr.pN ρ h.e h.h h.inj h.m h.rm (fun l hl=>⟨(h.st l (hS l hl)).1 (hr.eD l hl).1,(h.st l (hS l hl)).2⟩) h.fr
def oe {σ:Type} {S:St} {Q:eQ} {c:AC} {k:List It} {env:Env} {H:Hp} (E:σ→Env) (HH:σ→Hp) (μ:σ→Nat) (s0:σ) (ρ:Lb→Lb) (h0:Wk ρ env H (E s0) (HH s0))
  (round:∀s,go S (na S Q k E HH μ (μ s)) [.code c] (E s) (HH s)):kj S Q c k env H:=by
 intro K Cf hS c0 ck hc bG β a w hr;subst Cf;simp only[PH,Exit.then];refine wp_loop_ghost (fun n a w=>∃s β,μ s=n∧au K β (E s) (HH s) a w) (μ s0) ⟨s0,_,rfl,h0.rel hS hr⟩ ?_;rintro n a w ⟨s,β,rfl,hr⟩;have hs:=go_sound (K:=K) hS _ (ju [.code c]) [.code c] [.code c0] (FJ _) (.cons (.code hc) .nil) (E s) (HH s) (round s) β a w hr;simp only[PH,Exit.then] at hs;refine wp_mono hs ?_;rintro e a' w' ⟨env',H',β',hq,jP⟩;cases e with
 |normal=>
  obtain⟨s',cD,ρ',hw⟩:=hq;exact⟨μ s',cD,s',_,rfl,hw.rel hS jP⟩
 |exit id=>
  have hp:=fx (P:=K.P) (G:=K.G) (lift K Q) (id:=id) ck k bG;simp only[na] at hq;show PH K.P (lift K Q) ck (.exit id) a' w';cases pY:cy id k with
  |some k'=>
   rw[pY] at hp hq;obtain⟨qN,e1,e2⟩:=hp;exact e2 a' w' (go_sound (K:=K) hS Q (ju k') k' qN (FJ _) e1 env' H' hq β' a' w' jP)
  |none=>
  rw[pY] at hp hq;exact hp a' w' ⟨env',H',β',hq,jP⟩
 |ret=>exact kl _ _ _ _ _ ⟨env',H',β',hq,jP⟩
 |goto l=>exact hq.elim
 |panic ch=>exact hq.elim
 |outgrown=>exact hq.elim

inductive Tk {α:Type 1} (a:α):Type
 |mk
inductive Tp (a c:Prop):Type
 |mk
inductive Tv {α:Type} (a:α→Prop):Type
 |mk
inductive Tw (a:AV→Hp→Prop):Type
 |mk
def bz (o:Option AV) (k:AV→Prop) (_:Tv k):Prop:=∃x,o=some x∧k x
def gB (x:AV) (t:Bool) (A B:Prop) (_:Tp A B):Prop:=
 match x with
 | .bool b=>if b=t then A else B
 | .un=>B
 |_=>False
def cK (x:AV) (A B:Prop) (_:Tp A B):Prop:=
 match x with
 | .bool b=>if b=true then A else B
 |_=>False
def hK (o:Option Hp) (k:Hp→Prop) (_:Tv k):Prop:=∃x,o=some x∧k x
def pK (o:Option (AV×Hp)) (k:AV→Hp→Prop) (_:Tw k):Prop:=∃x h,o=some (x,h)∧k x h
def Aw (S:St) (f:Nat) (args:List AV) (H:Hp) (k:AV→Hp→Prop) (_:Tw k):Prop:=fS S f args H k
def Di (S:St) (f:Nat) (args:List AV) (k:AV→Prop) (_:Tv k):Prop:=∃x,aw S.P S.G f args x∧k x
section
variable {S:St} {Q:eQ} {env:Env} {H:Hp} {k:List It}
def rF (x:AV) (k:AV→Prop) (u:Tv k):bz (some x) k u=k x:=by simp[bz]
def uk (x:Hp) (k:Hp→Prop) (u:Tv k):hK (some x) k u=k x:=by simp[hK]
def um (x:AV) (h:Hp) (k:AV→Hp→Prop) (u:Tw k):pK (some (x,h)) k u=k x h:=by
 simp only[pK,cQ,FB];apply propext;constructor
 ·rintro⟨_,_,⟨rfl,rfl⟩,h⟩;exact h
 intro h;exact⟨_,_,⟨rfl,rfl⟩,h⟩
def Cg (A B:Prop) (u:Tp A B):gB (.bool true) true A B u=A:=by simp[gB]
def Ch (A B:Prop) (u:Tp A B):gB (.bool false) true A B u=B:=by simp[gB]
def Ax (A B:Prop) (u:Tp A B):gB (.bool true) false A B u=B:=by simp[gB]
def Ay (A B:Prop) (u:Tp A B):gB (.bool false) false A B u=A:=by simp[gB]
def Ci (t:Bool) (A B:Prop) (u:Tp A B):gB .un t A B u=B:=by simp[gB]
def Cj (A B:Prop) (u:Tp A B):cK (.bool true) A B u=A:=by simp[cK]
def Ck (A B:Prop) (u:Tp A B):cK (.bool false) A B u=B:=by simp[cK]
def xx (k:Env→Hp→Prop):AO S [] env H k=k env H:=rfl
def uo (n:Nat) (i:a8) (r:List aP) (k:Env→Hp→Prop) :
  AO S (⟨some n,none,i⟩::r) env H k=(n<S.N∧aH S (some n) i env H fun x H'=>AO S r (put env n x) H' k):=by
 simp[AO,gW,bV]
def uq (i:a8) (r:List aP) (k:Env→Hp→Prop) :
  AO S (⟨none,none,i⟩::r) env H k=aH S none i env H fun x H'=>AO S r env H' k:=by
 simp[AO,gW,bV]
def rG (n s:Nat) (t:Bool) (i:a8) (r:List aP) (k:Env→Hp→Prop) :
  AO S (⟨some n,some (s,t),i⟩::r) env H k=(n<S.N∧gB (env s) t (aH S (some n) i env H fun x H'=>AO S r (put env n x) H' k) (AO S r (put env n .un) H k) .mk):=by
 simp only[AO,gW,bV];cases he:env s<;>simp[gB,he];rename_i b;cases b<;>cases t<;>simp
def p9 (s:Nat) (t:Bool) (i:a8) (r:List aP) (k:Env→Hp→Prop) :
  AO S (⟨none,some (s,t),i⟩::r) env H k=gB (env s) t (aH S none i env H fun x H'=>AO S r env H' k) (AO S r env H k) .mk:=by
 simp only[AO,gW,bV];cases he:env s<;>simp[gB,he];rename_i b;cases b<;>cases t<;>simp
def rH (j n:Nat) (i:a8) (f:Fp) (r:List (Nat×aP×Fp)) (k:Env→Hp→Prop) :
  fX S ((j,⟨some n,none,i⟩,f)::r) env H k=(n<S.N∧aj S f (some n) i env H fun x H'=>fX S r (put env n x) H' k):=by
 simp[fX,my,gW,bV]
def rI (j:Nat) (i:a8) (f:Fp) (r:List (Nat×aP×Fp)) (k:Env→Hp→Prop) :
  fX S ((j,⟨none,none,i⟩,f)::r) env H k=aj S f none i env H fun x H'=>fX S r env H' k:=by
 simp[fX,my,gW,bV]
def p_ (j n s:Nat) (t:Bool) (i:a8) (f:Fp) (r:List (Nat×aP×Fp)) (k:Env→Hp→Prop) :
  fX S ((j,⟨some n,some (s,t),i⟩,f)::r) env H k=(n<S.N∧gB (env s) t (aj S f (some n) i env H fun x H'=>fX S r (put env n x) H' k) (fX S r (put env n .un) H k) .mk):=by
 simp only[fX,my,gW,bV];cases he:env s<;>simp[gB,he];rename_i b;cases b<;>cases t<;>simp
def xy:go S Q [] env H=Q .normal env H:=by rw[go]
def xz (id:Nat):go S Q (.lk id::k) env H=go S Q k env H:=by rw[go]
def ur:go S Q (.code .skip::k) env H=go S Q k env H:=by rw[go]
def xA (a b:AC):go S Q (.code (.seq a b)::k) env H=go S Q (.code a:: .code b::k) env H:=by rw[go]
def uu (x:O) (a b:AC):go S Q (.code (.cond x a b)::k) env H=cK (ev env x) (go S Q (.code a::k) env H) (go S Q (.code b::k) env H) .mk:=by
 rw[go];unfold cK;apply propext;constructor
 ·rintro⟨t,h1,h2,h3⟩;rw[h1];cases t
  ·simpa using h3 rfl
  simpa using h2 rfl
 intro h;split at h
 ·rename_i t e;refine⟨t,e,fun e2=> ?_,fun e2=> ?_⟩<;>subst e2<;>simpa using h
 exact h.elim
def rJ (id:Nat) (c:AC):go S Q (.code (.block id c)::k) env H=go S Q (.code c:: .lk id::k) env H:=by rw[go]
def uv (c:AC):go S Q (.code (.loop c)::k) env H=kj S Q c k env H:=by rw[go]
def xB:go S Q (.code .ret::k) env H=Q .ret env H:=by rw[go]
def xC (is:List aP):go S Q (.code (.fU is)::k) env H=AO S is env H (go S Q k):=by rw[go]
def uw (ns:List Nat) (c:AC):go S Q (.code (.gh (.ca ns) c)::k) env H=go S Q (.code c::k) (ki ns env) H:=by rw[go]
def xD (l:Lb) (d:Nat) (c:AC):go S Q (.code (.gh (.zp l d) c)::k) env H=∃sz xs i n,env d= .sl l sz i n∧H l= .live ⟨sz,bK xs⟩∧l.fresh=true∧i+n≤xs.length∧Flat xs ∧
 go S Q (.code c::k) (put env d (.list ((xs.drop i).take n))) (bb H l .dead):=by rw[go]
def xE (d sz:Nat) (c:AC):go S Q (.code (.gh (.own d sz) c)::k) env H=(env d= .nil0∧0<sz∧H (.loc d)= .unused∧go S Q (.code c::k) (put env d (.sl (.loc d) sz 0 0)) (bb H (.loc d) (.live ⟨sz,[]⟩))):=by rw[go]
theorem ux (id:Nat):go S Q (.code (.exit id)::k) env H=match cy id k with
  |some k'=>go S Q k' env H
  |none=>Q (.exit id) env H:=by
 cases h:cy id k with
 |some k'=>rw[iz h]
 |none=>rw[iA h]
def hJ (n:Nat) (i:aP) (is:List aP) (f:Fp) (fs:List Fp):items n (i::is) (f::fs)=(n,i,f)::items (n+1) is fs:=rfl
def xF d x (k:AV→Hp→Prop):aH S d (.gG x) env H k=bz (aa (.gG x) env) (fun x=>k x H) .mk:=rfl
def uy d c a b (k:AV→Hp→Prop):aH S d (.pick c a b) env H k=bz (aa (.pick c a b) env) (fun x=>k x H) .mk:=rfl
def xG d a off (k:AV→Hp→Prop):aH S d (.qJ a off) env H k=bz (aa (.qJ a off) env) (fun x=>k x H) .mk:=rfl
def xH d x i n sz (k:AV→Hp→Prop):aH S d (.qO x i n sz) env H k=bz (aa (.qO x i n sz) env) (fun x=>k x H) .mk:=rfl
def xI d x i sz (k:AV→Hp→Prop):aH S d (.qK x i sz) env H k=bz (aa (.qK x i sz) env) (fun x=>k x H) .mk:=rfl
def xJ d x i (k:AV→Hp→Prop):aH S d (.f_ x i) env H k=bz (aa (.f_ x i) env) (fun x=>k x H) .mk:=rfl
def xK d x (k:AV→Hp→Prop):aH S d (.len x) env H k=bz (aa (.len x) env) (fun x=>k x H) .mk:=rfl
def uz d x (k:AV→Hp→Prop):aH S d (.lens x) env H k=bz (aa (.lens x) env) (fun x=>k x H) .mk:=rfl
def xL d x lo hi mx sz (k:AV→Hp→Prop):aH S d (.td x lo hi mx sz) env H k=bz (aa (.td x lo hi mx sz) env) (fun x=>k x H) .mk:=rfl
def uC d x lo hi (k:AV→Hp→Prop):aH S d (.en x lo hi) env H k=bz (aa (.en x lo hi) env) (fun x=>k x H) .mk:=rfl
def xM d op x y (k:AV→Hp→Prop):aH S d (.bin op x y) env H k=bz (aa (.bin op x y) env) (fun x=>k x H) .mk:=rfl
def xN d n x y (k:AV→Hp→Prop):aH S d (.tr n x y) env H k=bz (aa (.tr n x y) env) (fun x=>k x H) .mk:=rfl
def xO d n x y (k:AV→Hp→Prop):aH S d (.tt n x y) env H k=bz (aa (.tt n x y) env) (fun x=>k x H) .mk:=rfl
def xP d n x y (k:AV→Hp→Prop):aH S d (.te n x y) env H k=bz (aa (.te n x y) env) (fun x=>k x H) .mk:=rfl
def uE d n ks x y (k:AV→Hp→Prop):aH S d (.jI n ks x y) env H k=bz (aa (.jI n ks x y) env) (fun x=>k x H) .mk:=rfl
def xQ d x (k:AV→Hp→Prop):aH S d (.not x) env H k=bz (aa (.not x) env) (fun x=>k x H) .mk:=rfl
def xR d x (k:AV→Hp→Prop):aH S d (.neg x) env H k=bz (aa (.neg x) env) (fun x=>k x H) .mk:=rfl
def xS d x y (k:AV→Hp→Prop):aH S d (.max x y) env H k=bz (aa (.max x y) env) (fun x=>k x H) .mk:=rfl
def xT d x y (k:AV→Hp→Prop):aH S d (.min x y) env H k=bz (aa (.min x y) env) (fun x=>k x H) .mk:=rfl
def xU d x i (k:AV→Hp→Prop):aH S d (.ext x i) env H k=bz (aa (.ext x i) env) (fun x=>k x H) .mk:=rfl
def xV d z ps (k:AV→Hp→Prop):aH S d (.qL z ps) env H k=bz (aa (.qL z ps) env) (fun x=>k x H) .mk:=rfl
def uF d x off m (k:AV→Hp→Prop):aH S d (.lJ x off m) env H k=bz (aa (.lJ x off m) env) (fun x=>k x H) .mk:=rfl
def uG d n sz z ps (k:AV→Hp→Prop):aH S d (.lits n sz z ps) env H k=bz (aa (.lits n sz z ps) env) (fun x=>k x H) .mk:=rfl
def uH d x (k:AV→Hp→Prop):aH S d (.kH x) env H k=bz (aa (.kH x) env) (fun x=>k x H) .mk:=rfl
def uJ d x (k:AV→Hp→Prop):aH S d (.kI x) env H k=bz (aa (.kI x) env) (fun x=>k x H) .mk:=rfl
def xW d f cap (k:AV→Hp→Prop):aH S d (.tu f cap) env H k=bz (aa (.tu f cap) env) (fun x=>k x H) .mk:=rfl
def xX d kd x (k:AV→Hp→Prop):aH S d (.tf kd x) env H k=bz (aa (.tf kd x) env) (fun x=>k x H) .mk:=rfl
def xY d x (k:AV→Hp→Prop):aH S d (.gF x) env H k=bz (aa (.gF x) env) (fun x=>k x H) .mk:=rfl
def xZ d x (k:AV→Hp→Prop):aH S d (.tv x) env H k=bz (aa (.tv x) env) (fun x=>k x H) .mk:=rfl
def x4 d x (k:AV→Hp→Prop):aH S d (.tw x) env H k=bz (aa (.tw x) env) (fun x=>k x H) .mk:=rfl
def uK d t x (k:AV→Hp→Prop):aH S d (.lL t x) env H k=bz (aa (.lL t x) env) (fun x=>k x H) .mk:=rfl
def uL (d:Option Nat) (m:Option Nat) (a:O) (k:AV→Hp→Prop):aH S d (.load m a) env H k=(bz (aa (.load m a) env) (fun x=>k x H) .mk∨bz (cN m (ev env a) H) (fun x=>k x H) .mk):=rfl
def wv (m:Option Nat) (x:AV) (H:Hp):Option AV:=
 match x with
 | .lptr cs=>match m with
  |none=>cs[0]?.map IV.dQ
  |some k=>if k≤cs.length then some (.agg ((cs.take k).map IV.dQ)) else none
 |x=>cN m x H
def Az (d:Option Nat) (m:Option Nat) (a:O) (k:AV→Hp→Prop):aH S d (.load m a) env H k=bz (wv m (ev env a) H) (fun x=>k x H) .mk:=by
 rw[uL];unfold wv;split
 ·rename_i cs e;simp only[aa,e,cN,bz];apply propext;constructor
  ·rintro(h|⟨x,h,_⟩)
   ·exact h
   simp at h
  exact .inl
 rename_i x fa;have:aa (.load m a) env=none:=by
  simp only[aa]
 rw[this];simp[bz]
def x5 (n:Nat) (cs:List AV) (k:AV→Hp→Prop):aH S (some n) (.new cs) env H k=(H (.loc n)= .unused∧0<cs.length∧cs.length≤maxLen ∧
  k (.ptr (.loc n) cs.length 0 0) (bb H (.loc n) (.live ⟨cs.length,[cs]⟩))):=by
 simp[aH]
def qa (x:AV) (n:Nat) (H:Hp) (k:AV→Hp→Prop):Prop:=H (.loc n)= .unused∧x.nX=true∧0<x.cells.length∧x.cells.length≤maxLen ∧
 k (.ptr (.loc n) x.cells.length 0 0) (bb H (.loc n) (.live ⟨x.cells.length,[x.cells]⟩))
def x6 (n:Nat) (x:O) (k:AV→Hp→Prop):aH S (some n) (.box x) env H k=qa (ev env x) n H k:=by
 simp[aH,qa]
def rK (m:Nat) (a x:O) (k:AV→Hp→Prop):aH S none (.store m a x) env H k=hK (eF m (ev env a) (ev env x) H) (fun H'=>k .un H') .mk:=by
 simp[aH,hK]
def x7 (n:Nat) (s x:O) (sz b:Nat) (k:AV→Hp→Prop):aH S (some n) (.app s x sz b) env H k=pK (j8 sz b n (ev env s) (ev env x) H) k .mk:=by
 simp only[aH,pK,cQ];apply propext;constructor
 ·rintro⟨_,rfl,h⟩;exact h
 intro h;exact⟨_,rfl,h⟩
def uM (d:Option Nat) (f:Nat) (args:List O) (k:AV→Hp→Prop):aH S d (.call f args) env H k=Aw S f (args.map (ev env)) H k .mk:=rfl
def ae {f:Nat} {args:List AV} {res:AV} {k:AV→Hp→Prop} (h:aw S.P S.G f args res) (hk:k res H) {u:Tw k}:Aw S f args H k u:= .inl ⟨res,h,hk⟩
def uO d x (k:AV→Hp→Prop):aj S .no d (.gG x) env H k=bz (aa (.gG x) env) (fun x=>k x H) .mk:=by simp only[aj,Quiet,bz,FR]
def rL d c a b (k:AV→Hp→Prop):aj S .no d (.pick c a b) env H k=bz (aa (.pick c a b) env) (fun x=>k x H) .mk:=by simp only[aj,Quiet,bz,FR]
def uQ d a off (k:AV→Hp→Prop):aj S .no d (.qJ a off) env H k=bz (aa (.qJ a off) env) (fun x=>k x H) .mk:=by simp only[aj,Quiet,bz,FR]
def uR d x i sz (k:AV→Hp→Prop):aj S .no d (.qK x i sz) env H k=bz (aa (.qK x i sz) env) (fun x=>k x H) .mk:=by simp only[aj,Quiet,bz,FR]
def uU d x i n sz (k:AV→Hp→Prop):aj S .no d (.qO x i n sz) env H k=bz (aa (.qO x i n sz) env) (fun x=>k x H) .mk:=by simp only[aj,Quiet,bz,FR]
def uV d x i (k:AV→Hp→Prop):aj S .no d (.f_ x i) env H k=bz (aa (.f_ x i) env) (fun x=>k x H) .mk:=by simp only[aj,Quiet,bz,FR]
def uW d x (k:AV→Hp→Prop):aj S .no d (.len x) env H k=bz (aa (.len x) env) (fun x=>k x H) .mk:=by simp only[aj,Quiet,bz,FR]
def rM d x (k:AV→Hp→Prop):aj S .no d (.lens x) env H k=bz (aa (.lens x) env) (fun x=>k x H) .mk:=by simp only[aj,Quiet,bz,FR]
def uX d x lo hi mx sz (k:AV→Hp→Prop):aj S .no d (.td x lo hi mx sz) env H k=bz (aa (.td x lo hi mx sz) env) (fun x=>k x H) .mk:=by simp only[aj,Quiet,bz,FR]
def rN d x lo hi (k:AV→Hp→Prop):aj S .no d (.en x lo hi) env H k=bz (aa (.en x lo hi) env) (fun x=>k x H) .mk:=by simp only[aj,Quiet,bz,FR]
def uY d op x y (k:AV→Hp→Prop):aj S .no d (.bin op x y) env H k=bz (aa (.bin op x y) env) (fun x=>k x H) .mk:=by simp only[aj,Quiet,bz,FR]
def uZ d n x y (k:AV→Hp→Prop):aj S .no d (.tr n x y) env H k=bz (aa (.tr n x y) env) (fun x=>k x H) .mk:=by simp only[aj,Quiet,bz,FR]
def u0 d n x y (k:AV→Hp→Prop):aj S .no d (.tt n x y) env H k=bz (aa (.tt n x y) env) (fun x=>k x H) .mk:=by simp only[aj,Quiet,bz,FR]
def u5 d n x y (k:AV→Hp→Prop):aj S .no d (.te n x y) env H k=bz (aa (.te n x y) env) (fun x=>k x H) .mk:=by simp only[aj,Quiet,bz,FR]
def rO d n ks x y (k:AV→Hp→Prop):aj S .no d (.jI n ks x y) env H k=bz (aa (.jI n ks x y) env) (fun x=>k x H) .mk:=by simp only[aj,Quiet,bz,FR]
def u6 d x (k:AV→Hp→Prop):aj S .no d (.not x) env H k=bz (aa (.not x) env) (fun x=>k x H) .mk:=by simp only[aj,Quiet,bz,FR]
def u7 d x (k:AV→Hp→Prop):aj S .no d (.neg x) env H k=bz (aa (.neg x) env) (fun x=>k x H) .mk:=by simp only[aj,Quiet,bz,FR]
def u9 d x y (k:AV→Hp→Prop):aj S .no d (.max x y) env H k=bz (aa (.max x y) env) (fun x=>k x H) .mk:=by simp only[aj,Quiet,bz,FR]
def u_ d x y (k:AV→Hp→Prop):aj S .no d (.min x y) env H k=bz (aa (.min x y) env) (fun x=>k x H) .mk:=by simp only[aj,Quiet,bz,FR]
def va d x i (k:AV→Hp→Prop):aj S .no d (.ext x i) env H k=bz (aa (.ext x i) env) (fun x=>k x H) .mk:=by simp only[aj,Quiet,bz,FR]
def vb d z ps (k:AV→Hp→Prop):aj S .no d (.qL z ps) env H k=bz (aa (.qL z ps) env) (fun x=>k x H) .mk:=by simp only[aj,Quiet,bz,FR]
def rP d x off m (k:AV→Hp→Prop):aj S .no d (.lJ x off m) env H k=bz (aa (.lJ x off m) env) (fun x=>k x H) .mk:=by simp only[aj,Quiet,bz,FR]
def rQ d n sz z ps (k:AV→Hp→Prop):aj S .no d (.lits n sz z ps) env H k=bz (aa (.lits n sz z ps) env) (fun x=>k x H) .mk:=by simp only[aj,Quiet,bz,FR]
def rR d x (k:AV→Hp→Prop):aj S .no d (.kH x) env H k=bz (aa (.kH x) env) (fun x=>k x H) .mk:=by simp only[aj,Quiet,bz,FR]
def rS d x (k:AV→Hp→Prop):aj S .no d (.kI x) env H k=bz (aa (.kI x) env) (fun x=>k x H) .mk:=by simp only[aj,Quiet,bz,FR]
def vc d f cap (k:AV→Hp→Prop):aj S .no d (.tu f cap) env H k=bz (aa (.tu f cap) env) (fun x=>k x H) .mk:=by simp only[aj,Quiet,bz,FR]
def vd d kd x (k:AV→Hp→Prop):aj S .no d (.tf kd x) env H k=bz (aa (.tf kd x) env) (fun x=>k x H) .mk:=by simp only[aj,Quiet,bz,FR]
def ve d x (k:AV→Hp→Prop):aj S .no d (.gF x) env H k=bz (aa (.gF x) env) (fun x=>k x H) .mk:=by simp only[aj,Quiet,bz,FR]
def vf d x (k:AV→Hp→Prop):aj S .no d (.tv x) env H k=bz (aa (.tv x) env) (fun x=>k x H) .mk:=by simp only[aj,Quiet,bz,FR]
def vg d x (k:AV→Hp→Prop):aj S .no d (.tw x) env H k=bz (aa (.tw x) env) (fun x=>k x H) .mk:=by simp only[aj,Quiet,bz,FR]
def rT d t x (k:AV→Hp→Prop):aj S .no d (.lL t x) env H k=bz (aa (.lL t x) env) (fun x=>k x H) .mk:=by simp only[aj,Quiet,bz,FR]
def rU d m a (k:AV→Hp→Prop):aj S .no d (.load m a) env H k=bz (aa (.load m a) env) (fun x=>k x H) .mk:=by simp only[aj,Quiet,bz,FR]
def vh (d:Option Nat) (f:Nat) (args:List O) (k:AV→Hp→Prop):aj S .no d (.call f args) env H k=Di S f (args.map (ev env)) (fun x=>k x H) .mk:=by
 simp[aj,Quiet,aa,Di]
def x8 (env:Env) (n m:Nat) (x:AV):put env n x m=if m=n then x else env m:=rfl
end
def cV:=And.intro @xH<|And.intro @xF (And.intro @uy (And.intro @xG (And.intro @xI (And.intro @xJ (And.intro @xK (And.intro @uz (And.intro @xL (And.intro @uC (And.intro @xM (And.intro @xN (And.intro @xO (And.intro @xP (And.intro @uE (And.intro @xQ (And.intro @xR (And.intro @xS (And.intro @xT (And.intro @xU (And.intro @xV (And.intro @uF (And.intro @uG (And.intro @uH (And.intro @uJ (And.intro @xW (And.intro @xX (And.intro @xY (And.intro @xZ (And.intro @x4 (@uK)))))))))))))))))))))))))))))
def cW:=And.intro @uU<|And.intro @uO (And.intro @rL (And.intro @uQ (And.intro @uR (And.intro @uV (And.intro @uW (And.intro @rM (And.intro @uX (And.intro @rN (And.intro @uY (And.intro @uZ (And.intro @u0 (And.intro @u5 (And.intro @rO (And.intro @u6 (And.intro @u7 (And.intro @u9 (And.intro @u_ (And.intro @va (And.intro @vb (And.intro @rP (And.intro @rQ (And.intro @rR (And.intro @rS (And.intro @vc (And.intro @vd (And.intro @ve (And.intro @vf (And.intro @vg (And.intro @rT (@rU))))))))))))))))))))))))))))))

def og (ρ:Lb→Lb) (env:Env):∀n,Env.any n= .any∨env n=bw ρ (Env.any n):=fun _=> .inl rfl
def hO {ρ:Lb→Lb} {env e:Env} {d:Nat} {x:AV} (h1:env d=bw ρ x) (h2:∀n,e n= .any∨env n=bw ρ (e n)):∀n,put e d x n= .any∨env n=bw ρ (put e d x n):=by
 intro n;unfold put;split
 ·next h=>subst h;exact .inr h1
 exact h2 n
def oh (H:Hp):∀n,∀l∈(Env.any n).ax,H l≠ .unused:=by simp[Env.any,AV.ax]
def hP {H:Hp} {e:Env} {d:Nat} {x:AV} (h1:∀l∈x.ax,H l≠ .unused) (h2:∀n,∀l∈(e n).ax,H l≠ .unused):∀n,∀l∈(put e d x n).ax,H l≠ .unused:=by
 intro n;unfold put;split
 ·exact h1
 exact h2 n
mutual
theorem lZ:∀x:AV,bw id x=x
 | .sl ..| .slk ..| .ptr ..| .any| .un| .bool _| .int ..| .str _| .list _| .nil0| .fV| .ee| .lptr _=>by simp[bw]
 | .agg cs=>by simp[bw,gx cs]
 | .dG cs=>by simp[bw,gx cs]
 | .fn f fs cs=>by simp[bw,gx fs,gx cs]
 | .ifc t x=>by simp[bw,lZ x]
theorem gx:∀xs:List AV,bo id xs=xs
 |[]=>by simp[bo]
 |x::r=>by simp[bo,lZ x,gx r]
end
def l3 (r:Row):cC id r=r:=by
 obtain⟨sz,bN⟩:=r;simp only[cC,Row.mk.injEq,Gp];rw[show bo id=id from funext gx];simp
def Wk.same {env:Env} {H:Hp} {env2:Env} (e:∀n,env2 n= .any∨env n=bw id (env2 n)) (m:∀n,∀l∈(env2 n).ax,H l≠ .unused)
  (rm:∀l r,H l= .live r→∀cs∈r.bN,∀q∈af cs,H q≠ .unused):Wk id env H env2 H:=
 ⟨e,fun l r h=>by rw[l3];exact h,fun _ _ _ _ h=>h,m,rm,fun l _=>⟨id,fun _=>rfl⟩,fun _ _ h=>h⟩
def Wk.none {env env2:Env} (e:∀n,env2 n= .any∨env n=bw id (env2 n)) (m:∀n,∀l∈(env2 n).ax,Hp.none l≠ .unused):Wk id env Hp.none env2 Hp.none:=
 .same e m (by simp[Hp.none])
def wrap64 {n:Int} (h1: -9223372036854775808≤n) (h2:n≤9223372036854775807):IntKind.i64.wrap n=n:=by rw[IntKind.wrap_i64];omega
section
variable {σ:Type} {S:St} {Q:eQ} {k:List It} {E:σ→Env} {HH:σ→Hp} {μ:σ→Nat} {n:Nat} {env:Env} {H:Hp}
def Cl:na S Q k E HH μ n .normal env H=∃s,μ s<n∧∃ρ,Wk ρ env H (E s) (HH s):=rfl
theorem Cm (id:Nat):na S Q k E HH μ n (.exit id) env H=match cy id k with
 |some k'=>go S Q k' env H
 |none=>Q (.exit id) env H:=rfl
def Cn:na S Q k E HH μ n .ret env H=Q .ret env H:=rfl
def vi (id:Nat):cy id []=none:=rfl
def vj (id i:Nat) (r:List It):cy id (.lk i::r)=if i=id then some r else cy id r:=rfl
def rV (id:Nat) (c:AC) (r:List It):cy id (.code c::r)=cy id r:=rfl
def rW (is:List aP) (es:List (List Nat)) (fs:List Fp):go S Q (.code (.ix is es fs)::k) env H=(o_ is es fs=true∧fX S (items 0 is fs) env H (go S Q k)):=by rw[go]
def vk (l q:Lb) (j:Nat) (c:AC):go S Q (.code (.gh (.uj l q j) c)::k) env H=∃sz xs i n cs,H q= .live ⟨cs.length,[cs]⟩∧cs[j]?=some (.sl l sz i n)∧H l= .live ⟨sz,bK xs⟩∧l.fresh=true∧l≠q∧i+n≤xs.length∧Flat xs ∧
 go S Q (.code c::k) env (bb (bb H l .dead) q (.live ⟨cs.length,[cs.set j (.list ((xs.drop i).take n))]⟩)):=by rw[go]
def x9 (t:Nat) (R:AV→Hp→Prop):fc [(none,t)] R .ret env H=R (env t) H:=by simp[fc,fy,km,iY]
def vl (m:Option Nat) (t:Nat) (R:AV→Hp→Prop):fc [(some m,t)] R .ret env H=bz (cN m (env t) H) (fun x=>R x H) .mk:=by
 simp only[fc,fy,km,bz];cases cN m (env t) H<;>simp[iY]
def vm (m:Option Nat) (t:Nat) (R:AV→Hp→Prop):fc [(some m,t)] R .normal env H=bz (cN m (env t) H) (fun x=>R x H) .mk:=by
 simp only[fc,fy,km,bz];cases cN m (env t) H<;>simp[iY]
def x_ (t:Nat) (R:AV→Hp→Prop):fc [(none,t)] R .normal env H=R (env t) H:=by simp[fc,fy,km,iY]
end
section
variable {S:St} {env:Env} {H:Hp}
def vn (j:Nat) (f:List Fp) (k:Env→Hp→Prop):fX S (items j [] f) env H k=k env H:=rfl
def rX (j n:Nat) (i:a8) (f:Fp) (r:List aP) (fs:List Fp) (k:Env→Hp→Prop) :
 fX S (items j (⟨some n,none,i⟩::r) (f::fs)) env H k=(n<S.N∧aj S f (some n) i env H fun x H'=>fX S (items (j+1) r fs) (put env n x) H' k):=by rw[hJ,rH]
def rY (j:Nat) (i:a8) (f:Fp) (r:List aP) (fs:List Fp) (k:Env→Hp→Prop) :
 fX S (items j (⟨none,none,i⟩::r) (f::fs)) env H k=aj S f none i env H fun x H'=>fX S (items (j+1) r fs) env H' k:=by rw[hJ,rI]
def qb (j n s:Nat) (t:Bool) (i:a8) (f:Fp) (r:List aP) (fs:List Fp) (k:Env→Hp→Prop) :
 fX S (items j (⟨some n,some (s,t),i⟩::r) (f::fs)) env H k=(n<S.N∧gB (env s) t (aj S f (some n) i env H fun x H'=>fX S (items (j+1) r fs) (put env n x) H' k) (fX S (items (j+1) r fs) (put env n .un) H k) .mk):=by rw[hJ,p_]
end
def rZ:=And.intro @xy (And.intro @xz (And.intro @ur (And.intro @xA (And.intro @rJ (And.intro @uv (And.intro @xB (And.intro @xC (And.intro @uw (And.intro @xE (And.intro @xD (And.intro @vk (And.intro @rW (And.intro @uu (And.intro @ux (And.intro @xx (And.intro @uo (And.intro @uq (And.intro @rG (And.intro @p9 (And.intro @vn (And.intro @rX (And.intro @rY (And.intro @qb (And.intro @Az (And.intro @x5 (And.intro @x6 (And.intro @rK (And.intro @x7 (And.intro @uM (And.intro @vh (And.intro @x9 (And.intro @x_ (And.intro @vl (And.intro @vm (And.intro @Cl (And.intro @Cm (@Cn)))))))))))))))))))))))))))))))))))))
def Dj:=And.intro @rF (And.intro @uk (And.intro @um (And.intro @Cg (And.intro @Ch (And.intro @Ax (And.intro @Ay (And.intro @Ci (And.intro @Cj (And.intro @Ck (And.intro @x8 (And.intro @vi (And.intro @vj (@rV)))))))))))))

def Flat.one {xs:List IV} (h:Flat xs):∀cs∈bK xs,AV.lS cs:=by
 intro cs bt y hy;simp only[bK,F2] at bt;obtain⟨z,hz,rfl⟩:=bt;obtain⟨c,hc,rfl⟩:=F2.1 hy;have:=h z hz c hc;cases c<;>simp[IV.dQ,AV.one];exact absurd rfl (this _)
def qc {sz:Nat} {xs:List IV} {H:Hp} (h:jK sz xs):il sz (.list xs) H=some (bK xs):=by
 simp[il,h,bK]
def ya {sz b d n:Nat} {l:Lb} {bN:List (List AV)} {xs:List IV} {H:Hp} (hl:H l= .live ⟨sz,bN⟩) (hn:n≤bN.length) (he:jK sz xs) (hf:Flat xs) (hb:(n+xs.length)*b≤140737488355328) (h0:0<b)
  (hd:l≠l.app d) (hu:H (l.app d)= .unused) :
  j8 sz b d (.sl l sz 0 n) (.list xs) H=some (.sl (l.app d) sz 0 (n+xs.length),bb (bb H l .dead) (l.app d) (.live ⟨sz,bN.take n++bK xs⟩)):=by
 unfold j8;rw[qc he,Fy,FU (by simpa using hf.one)];have:(bK xs).length=xs.length:=by simp[bK]
 simp only[hl];rw[FG ⟨rfl,rfl,rfl,hn,by rw[this];exact hb,h0,hd,hu⟩,this]
def vo (ρ:Lb→Lb) (x:IV):bw ρ x.dQ=x.dQ:=by cases x<;>simp[IV.dQ,bw]
theorem nb (ρ:Lb→Lb):∀xs:List IV,bo ρ (xs.map IV.dQ)=xs.map IV.dQ
 |[]=>by simp[bo]
 |x::r=>by simp[bo,vo,nb ρ r]
def nc (ρ:Lb→Lb) (sz:Nat) (xs:List IV):cC ρ ⟨sz,bK xs⟩=⟨sz,bK xs⟩:=by
 simp[cC,bK,nb]
def vp (x:IV):x.dQ.ax=[]:=by cases x<;>simp[IV.dQ,AV.ax]
theorem nd:∀xs:List IV,af (xs.map IV.dQ)=[]
 |[]=>rfl
 |x::r=>by simp[af,vp,nd r]
def dX {xs:List IV} {cs:List AV} (h:cs∈bK xs):af cs=[]:=by
 simp only[bK,F2] at h;obtain⟨y,_,rfl⟩:=h;exact nd _
def Wk.one {env env2:Env} {H:Hp} {l0 l1:Lb} {sz:Nat} {xs:List IV} (he:∀n,env2 n= .any∨env n=bw (fun _=>l1) (env2 n)) (hm:∀n,∀l∈(env2 n).ax,bb Hp.none l0 (.live ⟨sz,bK xs⟩) l≠ .unused)
  (h1:H l1= .live ⟨sz,bK xs⟩) (Ek:l0.fresh=true) (By:l1.fresh=true) (hn:∀l,l.fresh=false→H l= .unused):Wk (fun _=>l1) env H env2 (bb Hp.none l0 (.live ⟨sz,bK xs⟩)):=by
 have hl:∀l r,bb Hp.none l0 (.live ⟨sz,bK xs⟩) l= .live r→l=l0∧r=⟨sz,bK xs⟩:=by
  intro l r h;by_cases e:l=l0
  ·subst e;simp at h;exact⟨rfl,h.symm⟩
  rw[ai _ _ e] at h;simp[Hp.none] at h
 refine⟨he,fun l r h=> ?_,fun l l' ⟨r,h⟩ ⟨r',h'⟩ _=>(hl l r h).1.trans (hl l' r' h').1.symm,hm,fun l r h cs bt q hq=> ?_,fun l hle=>⟨fun h=>absurd (hn l (Lb.ed hle)) h,fun⟨r,h⟩=> ?_⟩,fun _ _ _=>By⟩
 ·obtain⟨rfl,rfl⟩:=hl l r h;rw[nc];exact h1
 ·obtain⟨rfl,rfl⟩:=hl l r h;rw[dX bt] at hq;simp at hq
 obtain⟨rfl,_⟩:=hl l r h;have Dk:=Lb.ed hle;rw[Ek] at Dk;simp at Dk
def yb {H:Hp} {n:Nat} {s:Slot} (h:∀l:Lb,l.fresh=false→H l= .unused):∀l:Lb,l.fresh=false→bb H (.loc n) s l= .unused:=by
 intro l hl;have:l≠ .loc n:=by rintro rfl;simp[Lb.fresh] at hl
 rw[ai _ _ this];exact h l hl
def al (H:Hp) (l q:Lb) (s:Slot):bb H l s q=if q=l then s else H q:=rfl
section
variable {S:St} {env:Env} {H:Hp}
def dI (R W:List Lb) (d:Option Nat) (m:Option Nat) (a:O) (k:AV→Hp→Prop):aj S (.rw R W) d (.load m a) env H k=bz (cN m (ev env a) H) (fun x=>(∀l∈dH (ev env a),l.fZ∈R∨l.fZ∈W)∧k x H) .mk:=by
 apply propext;simp only[aj,b7,bx,ak,bz];constructor
 ·rintro⟨x,H',h1,h2,_,h3⟩;simp only[Fu,FB] at h1;obtain⟨y,h1,rfl,rfl⟩:=h1;exact⟨y,h1,h2,h3⟩
 rintro⟨x,h1,h2,h3⟩;exact⟨x,H,by simp[h1],h2,by simp,h3⟩
def cX (R W:List Lb) (m:Nat) (a x:O) (k:AV→Hp→Prop):aj S (.rw R W) none (.store m a x) env H k=hK (eF m (ev env a) (ev env x) H) (fun H'=>(∀l∈dH (ev env a),l.fZ∈W)∧k .un H') .mk:=by
 apply propext;simp only[aj,b7,bx,ak,hK,Gv];constructor
 ·rintro⟨x,H',h1,_,h2,h3⟩;simp only[Fu,FB] at h1;obtain⟨y,h1,rfl,rfl⟩:=h1;exact⟨_,h1,h2,h3⟩
 rintro⟨x,h1,h2,h3⟩;exact⟨.un,x,by simp[h1],by simp,h2,h3⟩
def eJ (R W:List Lb) (n:Nat) (cs:List AV) (k:AV→Hp→Prop):aj S (.rw R W) (some n) (.new cs) env H k=(H (.loc n)= .unused∧0<cs.length∧cs.length≤maxLen∧(Lb.loc n)∈W ∧
  k (.ptr (.loc n) cs.length 0 0) (bb H (.loc n) (.live ⟨cs.length,[cs]⟩))):=by
 apply propext;simp only[aj,b7,bx,ak,Fy];constructor
 ·rintro⟨x,H',h1,_,h2,h3⟩;split at h1
  ·rename_i hc;simp only[cQ,FB] at h1;obtain⟨rfl,rfl⟩:=h1;exact⟨hc.1,hc.2.1,hc.2.2,h2 (.loc n) (by simp),h3⟩
  simp at h1
 rintro⟨h1,h2,h3,h4,h5⟩;exact⟨_,_,by rw[FG ⟨h1,h2,h3⟩],by simp,by simpa[Lb.fZ] using h4,h5⟩
def eK (R W:List Lb) (n:Nat) (x:O) (k:AV→Hp→Prop):aj S (.rw R W) (some n) (.box x) env H k=(Lb.loc n∈W∧qa (ev env x) n H k):=by
 apply propext;simp only[aj,b7,bx,ak,Fy,qa];constructor
 ·rintro⟨y,H',h1,_,h2,h3⟩;split at h1
  ·rename_i hc;simp only[cQ,FB] at h1;obtain⟨rfl,rfl⟩:=h1;exact⟨h2 (.loc n) (by simp),hc.1,hc.2.1,hc.2.2.1,hc.2.2.2,h3⟩
  simp at h1
 rintro⟨h4,h1,h2,h3,h6,h5⟩;exact⟨_,_,by rw[FG ⟨h1,h2,h3,h6⟩],by simp,by simpa[Lb.fZ] using h4,h5⟩
def l4 (n:Nat) (s:AV):List Lb:=
 match s with
 | .sl l _ _ _=>[l,l.app n]
 | .slk l _ _ _ _=>[l,.loc n]
 |_=>[.loc n]
def eL (R W:List Lb) (n:Nat) (s x:O) (sz b:Nat) (k:AV→Hp→Prop):aj S (.rw R W) (some n) (.app s x sz b) env H k =
  pK (j8 sz b n (ev env s) (ev env x) H) (fun y H'=>(∀l∈dH (ev env x),l.fZ∈R∨l.fZ∈W)∧(∀l∈l4 n (ev env s),l.fZ∈W)∧k y H') .mk:=by
 apply propext;have:ak (some n) (.app s x sz b) env=l4 n (ev env s):=by
  simp only[ak,l4];cases ev env s<;>simp
 simp only[aj,b7,this,bx,Fy,pK]
end
end Go.Am
