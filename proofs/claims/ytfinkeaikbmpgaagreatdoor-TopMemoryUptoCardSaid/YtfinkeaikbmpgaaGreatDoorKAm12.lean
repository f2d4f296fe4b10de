import Derived.Test.YtfinkeaikbmpgaaGreatDoorAm38
import Derived.Test.YtfinkeaikbmpgaaGreatDoorKAm7
set_option linter.unusedSimpArgs false
set_option linter.unusedVariables false
set_option linter.unnecessarySimpa false
set_option linter.defProp false
/- THE ABSTRACT MACHINE, part 12: contracts of calls; a region's operations in their order. -/
namespace Go.Am
open Go Go.RowKit
def aB (xs:List IV):List (List AV):=xs.map fun y=>y.cells.map IV.dQ
def Qt {p:Prop} (h:p:=by simp[aB]):p:=h
def Flat (xs:List IV):Prop:=∀y∈xs,∀z∈y.cells,∀cs,z≠ .agg cs
def Hp.none:Hp:=fun _=> .unused
def Env.any:Env:=fun _=> .any
def lB:Act:={tmps:=#[],defers:=[]}
def wU (β:Lb→Option Nat) (H:Hp) (k:Nat):Prop:=∃l,live H l∧β l=some k
def b8 (P:Program) (G:Nat→Option (List IV)) (w:World) (A:Nat→Prop) (β:Lb→Option Nat) (H:Hp):Kx:=⟨P,G,w,A,wU β H,0,H,β⟩
def ey (P:Program) (G:Nat→Option (List IV)) (f:Nat) (args:List AV) (H:Hp) (Q:AV→Hp→Prop):Prop:=
 ∀(w:World) (A:Nat→Prop) (β:Lb→Option Nat) (vs:List Value),aH (b8 P G w A β H) β Env.any H lB w→br w β H (Im (b8 P G w A β H) β H) args vs →
  Calls P f vs.toArray w fun e w'=>∃v x H' β',e= .returned v∧Q x H'∧aH (b8 P G w A β H) β' Env.any H' lB w' ∧
   RV w' β' H' (Im (b8 P G w A β H) β' H') x v∧∀l∈x.an,H' l≠ .unused
def au (P:Program) (G:Nat→Option (List IV)) (f:Nat) (args:List AV) (res:AV):Prop:=
 ah args=[]∧res.an=[]∧ey P G f args Hp.none fun x _=>x=res
def ey.mono {P:Program} {G:Nat→Option (List IV)} {f:Nat} {args:List AV} {H:Hp} {Q Q':AV→Hp→Prop} (h:ey P G f args H Q) (hq:∀x H,Q x H→Q' x H):ey P G f args H Q':=
 fun w A β vs hr hv=>(h w A β vs hr hv).mono fun e w' ⟨v,x,H',β',h1,h2,h3⟩=>⟨v,x,H',β',h1,hq _ _ h2,h3⟩
def gW (g:Option (Nat×Bool)) (env:Env):Option Bool:=
 match g with
 |none=>some true
 |some (s,t)=>match env s with
  | .bool b=>some (b==t)
  | .un=>some false
  |_=>none
structure St where
 P:Program
 G:Nat→Option (List IV)
 N:Nat
mutual
def bJ (ρ:Lb→Lb):AV→AV
 | .sl l sz i n=> .sl (ρ l) sz i n
 | .slk l sz i n c=> .slk (ρ l) sz i n c
 | .ptr l sz i j=> .ptr (ρ l) sz i j
 | .agg cs=> .agg (bu ρ cs)
 | .gf cs=> .gf (bu ρ cs)
 | .fn f fs cs=> .fn f (bu ρ fs) (bu ρ cs)
 | .ifc t x=> .ifc t (bJ ρ x)
 |x=>x
def bu (ρ:Lb→Lb):List AV→List AV
 |[]=>[]
 |x::r=>bJ ρ x::bu ρ r
end
def dO (ρ:Lb→Lb) (r:Row):Row:=⟨r.sz,r.els.map (bu ρ)⟩
structure Pass (S:St) (f:Nat) (args:List AV) (H:Hp) (k:AV→Hp→Prop):Prop where
 h:∃(ρ:Lb→Lb) (iu:Hp) (U6:List AV) (Q:AV→Hp→Prop),ey S.P S.G f U6 iu Q∧args=bu ρ U6 ∧
  (∀l r,iu l= .live r→H (ρ l)= .live (dO ρ r))∧(∀l,iu l≠ .unused→live iu l) ∧
  (∀l l',live iu l→live iu l'→ρ l=ρ l'→l=l')∧(∀l∈ah U6,iu l≠ .unused)∧(∀l,live iu l→l.fresh=false)∧(∀l r,iu l= .live r→∀cs∈r.els,∀q∈ah cs,iu q≠ .unused) ∧
  ∀x H',Q x H'→∃(ρ':Lb→Lb) (kK:Hp),(∀l,live iu l→live H' l→ρ' l=ρ l) ∧
   (∀q r,kK q= .live r→(H q= .live r∧∀l,live iu l→ρ l≠q)∨∃l r',H' l= .live r'∧ρ' l=q∧r=dO ρ' r') ∧
   (∀l l',live H' l→live H' l'→ρ' l=ρ' l'→l=l') ∧
   (∀q,H q≠ .unused→kK q≠ .unused)∧(∀l∈x.an,kK (ρ' l)≠ .unused) ∧
   (∀l r',H' l= .live r'→∀cs∈r'.els,∀q∈ah cs,kK (ρ' q)≠ .unused) ∧
   (∀l,live H' l→live iu l∨(H (ρ' l)= .unused∧((ρ' l).fresh=true→l.fresh=true∨∀z,live iu z→(ρ z).fresh=true))) ∧
   (∀l,(l∈x.an∨∃l1 r1 cs,H' l1= .live r1∧cs∈r1.els∧l∈ah cs)→live kK (ρ' l)→live H' l)∧k (bJ ρ' x) kK
mutual
def AV.scalar:AV→Bool
 | .bool _| .int _ _| .str _| .jK| .iT=>true
 | .gf cs=>scalars cs
 |_=>false
def scalars:List AV→Bool
 |[]=>true
 |x::r=>x.scalar&&scalars r
end
inductive wV (H:Hp):AV→AV→Prop where
 |same (x:AV):wV H x x
 |row (l:Lb) (sz i n:Nat) (xs:List IV):H l= .live ⟨sz,aB xs⟩→i+n≤xs.length→Flat xs→wV H (.sl l sz i n) (.list ((xs.drop i).take n))
structure Ir (S:St) (f:Nat) (args:List AV) (H:Hp) (k:AV→Hp→Prop):Prop where
 h:∃U6 res,iF (wV H) args U6∧au S.P S.G f U6 res∧res.scalar=true∧k res H
def jJ (S:St) (f:Nat) (args:List AV) (H:Hp) (k:AV→Hp→Prop):Prop:=
 (∃res,au S.P S.G f args res∧k res H)∨Ir S f args H k∨Pass S f args H k
def qY:AV→Option (List Bool)
 | .list []=>some [true,false]
 | .list (_::_)=>some [false]
 | .nil0=>some [true,false]
 | .sl _ _ _ n=>some (if 0<n then [false] else [true,false])
 | .slk _ _ _ n _=>some (if 0<n then [false] else [true,false])
 |_=>none
def sZ (S:St) (f:Nat) (args:List AV) (H:Hp) (res:AV):Prop:=
 ∀(K:Kx) (β:Lb→Option Nat) (env:Env) (a:Act) (w:World) (vs:List Value),(⟨K.P,K.G,K.N⟩:St)=S→aH K β env H a w→br w β H (Im K β H) args vs →
  ∃v w',(callFunc f vs.toArray).run K.P w= .ok (.value v) w'∧iU w w'∧RV w' β H (Im K β H) res v∧∀l∈res.an,H l≠ .unused
def bg (S:St) (d:Option Nat) (i:U7) (env:Env) (H:Hp) (k:AV→Hp→Prop):Prop:=
 match i with
 | .load m a=>(∃x,af (.load m a) env=some x∧k x H)∨(∃x,Wl m (ev env a) H=some x∧k x H)
 | .box x=>∃n,d=some n∧H (.loc n)= .unused∧(ev env x).sI=true∧0<(ev env x).cells.length∧(ev env x).cells.length≤maxLen ∧
  k (.ptr (.loc n) (ev env x).cells.length 0 0) (bD H (.loc n) (.live ⟨(ev env x).cells.length,[(ev env x).cells]⟩))
 | .new cs=>∃n,d=some n∧H (.loc n)= .unused∧0<cs.length∧cs.length≤maxLen∧k (.ptr (.loc n) cs.length 0 0) (bD H (.loc n) (.live ⟨cs.length,[cs]⟩))
 | .store m a x=>d=none∧∃H',gZ m (ev env a) (ev env x) H=some H'∧k .un H'
 | .app s x sz bytes=>∃n,d=some n∧∃y H',jN sz bytes n (ev env s) (ev env x) H=some (y,H')∧k y H'
 | .call f args=>jJ S f (args.map (ev env)) H k
 | .fM x args=>∃f first cap,ev env x= .fn f first cap∧fU S.P f=true∧jJ S f (first++args.map (ev env)++cap) H k
 | .BJ n x=>∃bs,qY (ev env x)=some bs∧∀b∈bs,k (.bool (n ^^ b)) H
 | .cap x=>∃R,zK (ev env x)=some R∧∀m,R m→m≤maxLen→k (.int .i64 (m:Int)) H
 | .qL s x sz=>∃y H',sW sz (ev env s) (ev env x) H=some (y,H')∧k y H'
 | .si x sz z=>∃H',sX sz z (ev env x) H=some H'∧k (.gf []) H'
 | .tU n c sz bytes z=>∃q,d=some q∧∃y H',vg sz bytes q z (ev env n) (ev env c) H=some (y,H')∧k y H'
 | .kE f args=>∃res,sZ S f (args.map (ev env)) H res∧k res H
 | .pP s n sz bytes z=>∃q,d=some q∧∃y H',ud sz bytes q z (ev env s) (ev env n) H=some (y,H')∧k y H'
 | .gG sz z ps=>∃q,d=some q∧∃y H',sY sz q z (ps.map fun p=>(p.1,ev env p.2)) H=some (y,H')∧k y H'
 |i=>∃x,af i env=some x∧k x H
def AO (S:St):List bh→Env→Hp→(Env→Hp→Prop)→Prop
 |[],env,H,k=>k env H
 |i::r,env,H,k=>(gW i.g env=some true∧(∀n,i.d=some n→n<S.N)∧bg S i.d i.i env H fun x H'=>AO S r (cV env i.d x) H' k) ∨
  (gW i.g env=some false∧(∀n,i.d=some n→n<S.N)∧AO S r (cV env i.d .un) H k)
def iY (P:Program) (G:Nat→Option (List IV)) (ops:Array Oper) (o:Oper):Option bh:=
 match o.guard with
 |none=>(comp P G o).map fun i=>⟨o.dst,none,i⟩
 |some (j,t)=>((ops[j]?).bind (·.dst)).bind fun s=>(comp P G o).map fun i=>⟨o.dst,some (s,t),i⟩
def U7.fV:U7→U7
 | .oC x=> .box x
 | .oE s x sz b=> .app s x sz b
 | .gG sz z ps=> .lits 1 sz z ps
 |i=>i
def bh.fV (i:bh):bh:={i with i:=i.i.fV}
section
variable {K:Kx} {β:Lb→Option Nat} {env:Env} {H:Hp} {a:Act} {w:World}
mutual
theorem pY (ρ:Lb→Lb):∀x:AV,(bJ ρ x).an=x.an.map ρ
 | .sl ..| .slk ..| .ptr ..| .any| .un| .bool _| .int ..| .str _| .list _| .nil0| .jK| .iT| .lptr _| .mis _=>by simp[bJ,AV.an]
 | .agg cs=>by simp[bJ,AV.an,iZ ρ cs]
 | .gf cs=>by simp[bJ,AV.an,iZ ρ cs]
 | .fn f fs cs=>by simp[bJ,AV.an,iZ ρ fs,iZ ρ cs]
 | .ifc t x=>by simp[bJ,AV.an,pY ρ x]
theorem iZ (ρ:Lb→Lb):∀xs:List AV,ah (bu ρ xs)=(ah xs).map ρ
 |[]=>by simp[bu,ah]
 |x::r=>by simp[bu,ah,pY ρ x,iZ ρ r]
end
theorem lC (ρ:Lb→Lb):∀(xs:List AV) (i:Nat),(bu ρ xs)[i]?=xs[i]?.map (bJ ρ)
 |[],i=>by simp[bu]
 |x::r,0=>by simp[bu]
 |x::r,i+1=>by simp[bu,lC ρ r i]
theorem lD (ρ:Lb→Lb):∀(xs:List AV),(bu ρ xs).length=xs.length
 |[]=>rfl
 |x::r=>by simp[bu,lD ρ r]
structure kW (w w':World) (β β':Lb→Option Nat) (H H':Hp) (I I':Nat→Prop) (ρ:Lb→Lb) (ls:List Lb):Prop extends W4 w w' I I' where
 lb:∀l∈ls,live H' l→live H (ρ l)∧β' l=β (ρ l)∧∀g S,β (ρ l)=some g→jl w g=some S→jl w' g=some S
def kW.sub {w w':World} {β β':Lb→Option Nat} {H H':Hp} {I I':Nat→Prop} {ρ:Lb→Lb} {ls E':List Lb} (h:kW w w' β β' H H' I I' ρ ls) (hs:∀l∈E',l∈ls) :
 kW w w' β β' H H' I I' ρ E':=⟨h.toW4,fun l hl=>h.lb l (hs l hl)⟩
mutual
theorem RV.bJ {w w':World} {β β':Lb→Option Nat} {H H':Hp} {I I':Nat→Prop} {ρ:Lb→Lb}:∀(x:AV) (v:Value),kW w w' β β' H H' I I' ρ x.an→RV w β H I (Am.bJ ρ x) v→RV w' β' H' I' x v
 | .any,_,_,_=>by simp[RV]
 | .un,_,_,hv=>by simpa[RV,Am.bJ] using hv
 | .bool _,_,_,hv=>by simpa[RV,Am.bJ] using hv
 | .int _ _,_,_,hv=>by simpa[RV,Am.bJ] using hv
 | .str _,_,_,hv=>by simpa[RV,Am.bJ] using hv
 | .nil0,_,_,hv=>by simpa[RV,Am.bJ] using hv
 | .jK,_,_,hv=>by simpa[RV,Am.bJ] using hv
 | .iT,_,_,hv=>by simpa[RV,Am.bJ] using hv
 | .list xs,v,h,hv=>by simp only[RV,Am.bJ] at hv ⊢;exact NN.mono h.toW4 _ _ hv
 | .agg cs,v,h,hv=>by
  simp only[RV,Am.bJ] at hv ⊢;obtain⟨vs,rfl,h1⟩:=hv;exact⟨vs,rfl,br.bJ cs vs (by simpa[AV.an] using h) h1⟩
 | .gf cs,v,h,hv=>by
  simp only[RV,Am.bJ] at hv ⊢;obtain⟨vs,rfl,h1⟩:=hv;exact⟨vs,rfl,br.bJ cs vs (by simpa[AV.an] using h) h1⟩
 | .slk l sz i n c,v,h,hv=>by
  simp only[RV,Am.bJ] at hv ⊢;obtain⟨a,h1,h2,h3,h4,h5⟩:=hv;refine⟨a,h1,h2,h3,h4,fun hl=> ?_⟩;obtain⟨k1,k2,k3⟩:=h.lb l Pv hl;rcases h5 k1 with h6|⟨g,S,e1,e2,e3,e4⟩
  ·exact .inl h6
  exact .inr ⟨g,S,k2.trans e1,e2,k3 g S e1 e3,e4⟩
 | .sl l sz i n,v,h,hv=>by
  simp only[RV,Am.bJ] at hv ⊢;obtain⟨a,c,h1,h2,h3,h4,h5⟩:=hv;refine⟨a,c,h1,h2,h3,h4,fun hl=> ?_⟩;obtain⟨k1,k2,k3⟩:=h.lb l Pv hl;rcases h5 k1 with h6|⟨g,S,e1,e2,e3,e4⟩
  ·exact .inl h6
  exact .inr ⟨g,S,k2.trans e1,e2,k3 g S e1 e3,e4⟩
 | .ptr l sz i j,v,h,hv=>by
  simp only[RV,Am.bJ] at hv ⊢;obtain⟨a,h1,h2⟩:=hv;refine⟨a,h1,fun hl=> ?_⟩;obtain⟨k1,k2,k3⟩:=h.lb l Pv hl;obtain⟨g,e1,e2⟩:=h2 k1;exact⟨g,k2.trans e1,e2⟩
 | .lptr cs,v,h,hv=>by
  simp only[RV,Am.bJ] at hv ⊢;obtain⟨b,o,h1,h2,h3,h4⟩:=hv;obtain⟨k1,k2,_⟩:=h.im b h2 h3;exact⟨b,o,h1,k1,k2,bK.mono h.toW4 cs b o h2 h3 h4⟩
 | .fn f fs cs,v,h,hv=>by
  simp only[RV,Am.bJ] at hv ⊢;obtain⟨vs,us,rfl,h1,h2⟩:=hv;exact⟨vs,us,rfl,br.bJ fs vs (h.sub (by simp[AV.an];intro l hl;exact .inl hl)) h1,br.bJ cs us (h.sub (by simp[AV.an];intro l hl;exact .inr hl)) h2⟩
 | .ifc t x,v,h,hv=>by
  simp only[RV,Am.bJ] at hv ⊢;obtain⟨u,rfl,h1⟩:=hv;exact⟨u,rfl,RV.bJ x u (by simpa[AV.an] using h) h1⟩
 | .mis es,v,h,hv=>by simp only[RV,Am.bJ] at hv ⊢;exact aok.mono h.toW4 hv
theorem br.bJ {w w':World} {β β':Lb→Option Nat} {H H':Hp} {I I':Nat→Prop} {ρ:Lb→Lb}:∀(xs:List AV) (vs:List Value),kW w w' β β' H H' I I' ρ (ah xs)→br w β H I (bu ρ xs) vs→br w' β' H' I' xs vs
 |[],_,_,hv=>by simpa[br,bu] using hv
 |x::r,vs,h,hv=>by
  simp only[br,bu] at hv ⊢;obtain⟨v,us,rfl,h1,h2⟩:=hv;exact⟨v,us,rfl,RV.bJ x v (h.sub (by simp[ah];intro l hl;exact .inl hl)) h1,br.bJ r us (h.sub (by simp[ah];intro l hl;exact .inr hl)) h2⟩
end
mutual
theorem RV.oL {w w':World} {β β':Lb→Option Nat} {H H':Hp} {I I':Nat→Prop} {ρ:Lb→Lb}:∀(x:AV) (v:Value),W4 w w' I I' →
  (∀l∈x.an,live H' (ρ l)→live H l∧β' (ρ l)=β l∧∀g S,β l=some g→jl w g=some S→jl w' g=some S)→RV w β H I x v→RV w' β' H' I' (Am.bJ ρ x) v
 | .any,_,_,_,_=>by simp[RV,Am.bJ]
 | .un,_,_,_,hv=>by simpa[RV,Am.bJ] using hv
 | .bool _,_,_,_,hv=>by simpa[RV,Am.bJ] using hv
 | .int _ _,_,_,_,hv=>by simpa[RV,Am.bJ] using hv
 | .str _,_,_,_,hv=>by simpa[RV,Am.bJ] using hv
 | .nil0,_,_,_,hv=>by simpa[RV,Am.bJ] using hv
 | .jK,_,_,_,hv=>by simpa[RV,Am.bJ] using hv
 | .iT,_,_,_,hv=>by simpa[RV,Am.bJ] using hv
 | .list xs,v,h,_,hv=>by simp only[RV,Am.bJ] at hv ⊢;exact NN.mono h _ _ hv
 | .agg cs,v,h,hl,hv=>by
  simp only[RV,Am.bJ] at hv ⊢;obtain⟨vs,rfl,h1⟩:=hv;exact⟨vs,rfl,br.oL cs vs h (by simpa[AV.an] using hl) h1⟩
 | .gf cs,v,h,hl,hv=>by
  simp only[RV,Am.bJ] at hv ⊢;obtain⟨vs,rfl,h1⟩:=hv;exact⟨vs,rfl,br.oL cs vs h (by simpa[AV.an] using hl) h1⟩
 | .slk l sz i n c,v,h,hl,hv=>by
  simp only[RV,Am.bJ] at hv ⊢;obtain⟨a,h1,h2,h3,h4,h5⟩:=hv;refine⟨a,h1,h2,h3,h4,fun hq=> ?_⟩;obtain⟨k1,k2,k3⟩:=hl l Pv hq;rcases h5 k1 with h6|⟨g,S,e1,e2,e3,e4⟩
  ·exact .inl h6
  exact .inr ⟨g,S,k2.trans e1,e2,k3 g S e1 e3,e4⟩
 | .sl l sz i n,v,h,hl,hv=>by
  simp only[RV,Am.bJ] at hv ⊢;obtain⟨a,c,h1,h2,h3,h4,h5⟩:=hv;refine⟨a,c,h1,h2,h3,h4,fun hq=> ?_⟩;obtain⟨k1,k2,k3⟩:=hl l Pv hq;rcases h5 k1 with h6|⟨g,S,e1,e2,e3,e4⟩
  ·exact .inl h6
  exact .inr ⟨g,S,k2.trans e1,e2,k3 g S e1 e3,e4⟩
 | .ptr l sz i j,v,h,hl,hv=>by
  simp only[RV,Am.bJ] at hv ⊢;obtain⟨a,h1,h2⟩:=hv;refine⟨a,h1,fun hq=> ?_⟩;obtain⟨k1,k2,k3⟩:=hl l Pv hq;obtain⟨g,e1,e2⟩:=h2 k1;exact⟨g,k2.trans e1,e2⟩
 | .lptr cs,v,h,_,hv=>by
  simp only[RV,Am.bJ] at hv ⊢;obtain⟨b,o,h1,h2,h3,h4⟩:=hv;obtain⟨k1,k2,_⟩:=h.im b h2 h3;exact⟨b,o,h1,k1,k2,bK.mono h cs b o h2 h3 h4⟩
 | .fn f fs cs,v,h,hl,hv=>by
  simp only[RV,Am.bJ] at hv ⊢;obtain⟨vs,us,rfl,h1,h2⟩:=hv;exact⟨vs,us,rfl,br.oL fs vs h (fun l q=>hl l (by simp[AV.an,q])) h1,br.oL cs us h (fun l q=>hl l (by simp[AV.an,q])) h2⟩
 | .ifc t x,v,h,hl,hv=>by
  simp only[RV,Am.bJ] at hv ⊢;obtain⟨u,rfl,h1⟩:=hv;exact⟨u,rfl,RV.oL x u h (by simpa[AV.an] using hl) h1⟩
 | .mis es,v,h,_,hv=>by simp only[RV,Am.bJ] at hv ⊢;exact aok.mono h hv
theorem br.oL {w w':World} {β β':Lb→Option Nat} {H H':Hp} {I I':Nat→Prop} {ρ:Lb→Lb}:∀(xs:List AV) (vs:List Value),W4 w w' I I' →
  (∀l∈ah xs,live H' (ρ l)→live H l∧β' (ρ l)=β l∧∀g S,β l=some g→jl w g=some S→jl w' g=some S)→br w β H I xs vs→br w' β' H' I' (bu ρ xs) vs
 |[],_,_,_,hv=>by simpa[br,bu] using hv
 |x::r,vs,h,hl,hv=>by
  simp only[br,bu] at hv ⊢;obtain⟨v,us,rfl,h1,h2⟩:=hv;exact⟨v,us,rfl,RV.oL x v h (fun l q=>hl l (by simp[ah,q])) h1,br.oL r us h (fun l q=>hl l (by simp[ah,q])) h2⟩
end
def aH.vk (hr:aH K β env H a w) (ρ:Lb→Lb) {env2:Env} {H2:Hp} (hE:∀n,env2 n= .any∨env n=bJ ρ (env2 n)) (hH:∀l r,H2 l= .live r→H (ρ l)= .live (dO ρ r))
   (CZ:∀l l',live H2 l→live H2 l'→ρ l=ρ l'→l=l') (hm:∀n,∀l∈(env2 n).an,H2 l≠ .unused) (Is:∀l r,H2 l= .live r→∀cs∈r.els,∀q∈ah cs,H2 q≠ .unused)
   (g_:∀l,live K.H0 l→H2 l≠ .unused∧(live H2 l→ρ l=l)) (Hr:∀l,live H2 l→l.fresh=true→(ρ l).fresh=true):aH K (fun l=>β (ρ l)) env2 H2 a w:=by
 have aK:∀l,live H2 l→live H (ρ l):=fun l ⟨r,h⟩=>⟨_,hH l r h⟩
 have cX:∀ls,kW w w β (fun l=>β (ρ l)) H H2 (Im K β H) (Im K (fun l=>β (ρ l)) H2) ρ ls:=fun ls=>
   { im := fun k hk hs => ⟨⟨hk.1,fun l hl => hk.2 (ρ l) (aK l hl)⟩,hs,rfl⟩
     lb:=fun l _ hl=>⟨aK l hl,rfl,fun _ _ _ h=>h⟩}
 refine⟨hr.defers,hr.size,?_,?_,fun l g hl hb=>hr.own (ρ l) g (aK l hl) hb,fun l l' g h1 h2 g1 g2=>CZ l l' h1 h2 (hr.inj _ _ g (aK l h1) (aK l' h2) g1 g2),hm,Is,hr.frame,?_,?_,fun l g hl hf hb=>hr.fr (ρ l) g (aK l hl) (Hr l hl hf) hb⟩
 · intro n
   rcases hE n with h|h
   · rw[h];simp[RV]
   exact RV.bJ _ _ (cX _) (by rw[←h];exact hr.N8 n)
 · intro l r h
   obtain⟨h1,h2,h3⟩:=hr.rows (ρ l) _ (hH l r h)
   refine⟨h1,fun cs bV=> ?_,?_⟩
   · have:=h2 (bu ρ cs) (GF bV)
     rwa[lD] at this
   cases hb:β (ρ l) with
   |none=>simp only[hb] at h3 ⊢;simpa[dO] using h3
   |some g=>
   simp only[hb] at h3 ⊢
   obtain⟨cur,e,cap,e1,e2,e3,e4,e5⟩:=h3
   refine⟨cur,e,cap,e1,e2,e3,by simpa[dO] using e4,fun i j cs x hi hj=> ?_⟩
   obtain⟨v,k1,k2⟩:=e5 i j (bu ρ cs) (bJ ρ x) (by simp[dO,hi]) (by rw[lC,hj];rfl)
   exact⟨v,k1,RV.bJ _ _ (cX _) k2⟩
 · intro g cs hg
   obtain⟨h1,h2,h3⟩:=hr.W5 g cs hg
   exact⟨((cX []).im g h1 h2).1,h2,da.mono (cX []).toW4 h1 h2 h3⟩
 intro l hl
 obtain⟨h1,h2⟩:=g_ l hl
 refine⟨h1,fun h=> ?_⟩
 have e:=h2 h
 simp only[e]
 exact(hr.gA l hl).2 (e▸aK l h)
def ml (hr:aH K β env H a w) {f:Nat} {args:List AV} {vs:List Value} {res:AV} (hp:au K.P K.G f args res) (hv:br w β H (Im K β H) args vs)
   (J1:True):Calls K.P f vs.toArray w fun e w'=>∃v,e= .returned v∧iU w w'∧RV w' β H (Im K β H) res v:=by
 obtain⟨h1,h2,h3⟩:=hp
 have ju:aH (b8 K.P K.G w (Im K β H) β Hp.none) β Env.any Hp.none lB w:=
   { defers := rfl,size := rfl
     N8:=fun n=>by simp[Env.any,RV]
     rows:=fun l r h=>by simp[Hp.none] at h
     own:=fun l g ⟨r,h⟩=>by simp[Hp.none] at h
     inj:=fun l l' g ⟨r,h⟩=>by simp[Hp.none] at h
     eI:=fun n=>by simp[Env.any,AV.an]
     cH:=fun l r h=>by simp[Hp.none] at h
     frame:=⟨rfl,rfl,rfl,eM _,fun _ _ _=>rfl,fun _ _ h=>h⟩
     gA:=fun l ⟨r,h⟩=>by simp[b8,Hp.none] at h
     fr:=fun l g ⟨r,h⟩=>by simp[Hp.none] at h
     W5:=fun g cs hg=>by
       obtain⟨k1,k2,k3⟩:=hr.W5 g cs hg
       have kp:W4 w w (Im K β H) (Im (b8 K.P K.G w (Im K β H) β Hp.none) β Hp.none):=⟨fun k hk hs=>⟨⟨.inl hk,fun l ⟨r,h⟩=>by simp[Hp.none] at h⟩,hs,rfl⟩⟩
       exact⟨(kp.im g k1 k2).1,k2,da.mono kp k1 k2 k3⟩}
 have kp:ND w w β β H Hp.none (Im K β H) (Im (b8 K.P K.G w (Im K β H) β Hp.none) β Hp.none) (ah args):=
   { im := fun k hk hs => ⟨⟨.inl hk,fun l ⟨r,h⟩ => by simp [Hp.none] at h⟩,hs,rfl⟩
     lb:=fun l hl=>by rw[h1] at hl;simp at hl}
 refine(h3 w (Im K β H) β vs ju (br.mono _ _ kp hv)).mono ?_
 rintro e w' ⟨v,x,H',β',rfl,rfl,k1,k2,_⟩
 have gw:iU w w':=by
   refine⟨k1.frame.os,k1.frame.tape,k1.frame.output,k1.frame.size,fun k hk=>k1.frame.block k hk ?_⟩
   rintro⟨l,⟨r,h⟩,_⟩
   simp[Hp.none] at h
 refine⟨v,rfl,gw,RV.mono _ _ ?_ k2⟩
 refine {im:=fun k hk hs=>⟨?_,hs,rfl⟩,lb:=fun l hl=>by rw[h2] at hl;simp at hl}
 rcases hk.1 with h|h
 · exact h
 refine⟨.inr (D' hr.frame.size h),fun l hl hb=> ?_⟩
 have:=hr.YR hl hb
 have h':w.heap.size≤k:=h
 omega
mutual
theorem RV.scalar {w w':World} {β β':Lb→Option Nat} {H H':Hp} {I I':Nat→Prop}:∀(x:AV) (v:Value),x.scalar=true→RV w β H I x v→RV w' β' H' I' x v
 | .bool _,_,_,h| .int _ _,_,_,h| .str _,_,_,h| .jK,_,_,h| .iT,_,_,h=>by simpa[RV] using h
 | .gf cs,v,hs,h=>by
  simp only[RV] at h ⊢;obtain⟨vs,h1,h2⟩:=h;exact⟨vs,h1,br.scalar cs vs (by simpa[AV.scalar] using hs) h2⟩
 | .any,_,hs,_| .un,_,hs,_| .list _,_,hs,_| .nil0,_,hs,_| .agg _,_,hs,_| .sl ..,_,hs,_| .slk ..,_,hs,_| .ptr ..,_,hs,_| .lptr _,_,hs,_| .fn ..,_,hs,_| .ifc ..,_,hs,_| .mis _,_,hs,_=>by simp[AV.scalar] at hs
theorem br.scalar {w w':World} {β β':Lb→Option Nat} {H H':Hp} {I I':Nat→Prop}:∀(xs:List AV) (vs:List Value),scalars xs=true→br w β H I xs vs→br w' β' H' I' xs vs
 |[],_,_,h=>by simpa[br] using h
 |x::r,vs,hs,h=>by
  simp only[scalars,de] at hs;simp only[br] at h ⊢;obtain⟨v,us,h1,h2,h3⟩:=h;exact⟨v,us,h1,RV.scalar x v hs.1 h2,br.scalar r us hs.2 h3⟩
end
theorem qZ (hr:aH K β env H a w) {I:Nat→Prop} (hI:∀k,Im K β H k→I k) (hB:∀l g,live H l→β l=some g→I g):∀(args U6:List AV) (vs:List Value),iF (wV H) args U6→ah U6=[]→br w β H (Im K β H) args vs→br w β Hp.none I U6 vs
 |_,_,vs,.nil,_,hv=>by simpa[br] using hv
 |_,_,vs,@iF.cons _ _ _ x y args U6 KW ht,hl,hv=>by
  simp only[ah,mb] at hl;simp only[br] at hv ⊢;obtain⟨v,us,h1,h2,h3⟩:=hv;refine⟨v,us,h1,?_,qZ hr hI hB _ _ us ht hl.2 h3⟩;have hk:W4 w w (Im K β H) I:=⟨fun k hk hs=>⟨hI k hk,hs,rfl⟩⟩;cases KW with
  |same=>
   exact RV.mono x v {im:=hk.im,lb:=fun l hq=>by rw[hl.1] at hq;simp at hq} h2
  |row l sz i n xs hH qB FO=>
  simp only[RV] at h2;obtain⟨ad,c,rfl,g2,g3,g4,g5⟩:=h2;simp only[RV,NN];have hlen:((xs.drop i).take n).length=n:=PJ
  rw[hlen];refine⟨ad,c,rfl,g2,g3,?_⟩;by_cases hn:n=0
  ·exact .inl hn
  right;rcases g5 ⟨_,hH⟩ with h6|⟨g,Sz,e1,e2,e3,e4⟩
  ·omega
  obtain⟨cur,e0,cap,k1,k2,k3,k4,k5⟩:=(hr.rows l _ hH).block e1;have gm:0<sz:=(hr.rows l _ hH).1;refine⟨g,i*sz,sz,e2,hB l g ⟨_,hH⟩ e1,(vN.1 k1).1,gm,ajy _ _ _ (fun k y hy=> ?_)⟩;have C0:xs[i+k]?=some y:=by
   rw[oe] at hy;split at hy
   ·rwa[Ba] at hy
   simp at hy
  rw[eH];have qT:y.cells.length=sz:=by
   have:=(hr.rows l _ hH).2.1 (y.cells.map IV.dQ) (by
    simp only[aB];exact GF (f:=fun y:IV=>y.cells.map IV.dQ) (dc C0))
   simpa using this
  refine⟨qT.symm,Xz _ _ _ (fun j z hz=> ?_)⟩;obtain⟨u,q1,q2⟩:=k5 (i+k) j (y.cells.map IV.dQ) z.dQ (by simp[aB,C0]) (by simp[hz]);refine⟨u,?_,pX hk (FO y (dc C0) z (dc hz)) q2⟩;rw[cell_of_row w g _ cur e0 (0,0) k1,←q1];congr 1;rw[uQ]
def vl (hr:aH K β env H a w) {f:Nat} {args U6:List AV} {vs:List Value} {res:AV} (ha:iF (wV H) args U6) (hp:au K.P K.G f U6 res) (q_:res.scalar=true) (hv:br w β H (Im K β H) args vs) :
   Calls K.P f vs.toArray w fun e w'=>∃v,e= .returned v∧iU w w'∧RV w' β H (Im K β H) res v:=by
 obtain⟨h1,h2,h3⟩:=hp
 obtain⟨A,hA⟩:∃A:Nat→Prop,A=fun k=>Im K β H k∨∃l,live H l∧β l=some k:=⟨_,rfl⟩
 have Iu:∀k,A k→Im (b8 K.P K.G w A β Hp.none) β Hp.none k:=fun k hk=>⟨.inl hk,fun l ⟨r,h⟩=>by simp[Hp.none] at h⟩
 have ju:aH (b8 K.P K.G w A β Hp.none) β Env.any Hp.none lB w:=
   { defers := rfl,size := rfl
     N8:=fun n=>by simp[Env.any,RV]
     rows:=fun l r h=>by simp[Hp.none] at h
     own:=fun l g ⟨r,h⟩=>by simp[Hp.none] at h
     inj:=fun l l' g ⟨r,h⟩=>by simp[Hp.none] at h
     eI:=fun n=>by simp[Env.any,AV.an]
     cH:=fun l r h=>by simp[Hp.none] at h
     frame:=⟨rfl,rfl,rfl,eM _,fun _ _ _=>rfl,fun _ _ h=>h⟩
     gA:=fun l ⟨r,h⟩=>by simp[b8,Hp.none] at h
     fr:=fun l g ⟨r,h⟩=>by simp[Hp.none] at h
     W5:=fun g cs hg=>by
       obtain⟨k1,k2,k3⟩:=hr.W5 g cs hg
       have kp:W4 w w (Im K β H) (Im (b8 K.P K.G w A β Hp.none) β Hp.none):=⟨fun k hk hs=>⟨Iu k (by rw[hA];exact .inl hk),hs,rfl⟩⟩
       exact⟨(kp.im g k1 k2).1,k2,da.mono kp k1 k2 k3⟩}
 have wW:=qZ hr (I:=Im (b8 K.P K.G w A β Hp.none) β Hp.none) (fun k hk=>Iu k (by rw[hA];exact .inl hk)) (fun l g hl hg=>Iu g (by rw[hA];exact .inr ⟨l,hl,hg⟩)) args U6 vs ha h1 hv
 refine(h3 w A β vs ju wW).mono ?_
 rintro e w' ⟨v,x,H',β',rfl,rfl,k1,k2,_⟩
 have gw:iU w w':=by
   refine⟨k1.frame.os,k1.frame.tape,k1.frame.output,k1.frame.size,fun k hk=>k1.frame.block k hk ?_⟩
   rintro⟨l,⟨r,h⟩,_⟩
   simp[Hp.none] at h
 exact⟨v,rfl,gw,RV.scalar _ _ q_ k2⟩
open Classical in
def vm (hr:aH K β env H a w) {f:Nat} {U6:List AV} {vs:List Value} {iu:Hp} {Q:AV→Hp→Prop} {ρ:Lb→Lb} (hs:ey K.P K.G f U6 iu Q)
   (hH:∀l r,iu l= .live r→H (ρ l)= .live (dO ρ r)) (Mc:∀l,iu l≠ .unused→live iu l)
   (CZ:∀l l',live iu l→live iu l'→ρ l=ρ l'→l=l') (qC:∀l∈ah U6,iu l≠ .unused) (B2:∀l,live iu l→l.fresh=false) (Is:∀l r,iu l= .live r→∀cs∈r.els,∀q∈ah cs,iu q≠ .unused)
   (hv:br w β H (Im K β H) (bu ρ U6) vs):Calls K.P f vs.toArray w fun e w'=>∃v x H',e= .returned v∧Q x H' ∧
     ∀(ρ':Lb→Lb) (kK:Hp),(∀l,live iu l→live H' l→ρ' l=ρ l) →
     (∀q r,kK q= .live r→(H q= .live r∧∀l,live iu l→ρ l≠q)∨∃l r',H' l= .live r'∧ρ' l=q∧r=dO ρ' r') →
     (∀l l',live H' l→live H' l'→ρ' l=ρ' l'→l=l') →
     (∀q,H q≠ .unused→kK q≠ .unused)→(∀l∈x.an,kK (ρ' l)≠ .unused) →
     (∀l r',H' l= .live r'→∀cs∈r'.els,∀q∈ah cs,kK (ρ' q)≠ .unused) →
     (∀l,live H' l→live iu l∨(H (ρ' l)= .unused∧((ρ' l).fresh=true→l.fresh=true∨∀z,live iu z→(ρ z).fresh=true))) →
     (∀l,(l∈x.an∨∃l1 r1 cs,H' l1= .live r1∧cs∈r1.els∧l∈ah cs)→live kK (ρ' l)→live H' l) →
     ∃jZ,aH K jZ env kK a w'∧RV w' jZ kK (Im K jZ kK) (bJ ρ' x) v:=by
 have aK:∀l,live iu l→live H (ρ l):=fun l ⟨r,h⟩=>⟨_,hH l r h⟩
 have Hs:∀ls,kW w w β (fun l=>β (ρ l)) H iu (Im K β H) (Im (b8 K.P K.G w (Im K β H) (fun l=>β (ρ l)) iu) (fun l=>β (ρ l)) iu) ρ ls:=fun ls=>
   { im := fun k hk hs => ⟨⟨.inl hk,fun l hl => hk.2 (ρ l) (aK l hl)⟩,hs,rfl⟩
     lb:=fun l _ hl=>⟨aK l hl,rfl,fun _ _ _ h=>h⟩}
 have ju:aH (b8 K.P K.G w (Im K β H) (fun l=>β (ρ l)) iu) (fun l=>β (ρ l)) Env.any iu lB w:=
   { defers := rfl,size := rfl
     N8:=fun n=>by simp[Env.any,RV]
     rows:=fun l r h=>by
       obtain⟨h1,h2,h3⟩:=hr.rows (ρ l) _ (hH l r h)
       refine⟨h1,fun cs bV=> ?_,?_⟩
       · have:=h2 (bu ρ cs) (List.mem_map_of_mem bV)
         rwa[lD] at this
       cases hb:β (ρ l) with
       |none=>simp only[hb] at h3 ⊢;simpa[dO] using h3
       |some g=>
       simp only[hb] at h3 ⊢
       obtain⟨cur,e,cap,e1,e2,e3,e4,e5⟩:=h3
       refine⟨cur,e,cap,e1,e2,e3,by simpa[dO] using e4,fun i j cs x hi hj=> ?_⟩
       obtain⟨v,k1,k2⟩:=e5 i j (bu ρ cs) (bJ ρ x) (by simp[dO,hi]) (by rw[lC,hj];rfl)
       exact⟨v,k1,RV.bJ _ _ (Hs _) k2⟩
     own:=fun l g hl hb=> .inl ⟨l,hl,hb⟩
     inj:=fun l l' g h1 h2 g1 g2=>CZ l l' h1 h2 (hr.inj _ _ g (aK l h1) (aK l' h2) g1 g2)
     eI:=fun n=>by simp[Env.any,AV.an]
     cH:=Is
     frame:=⟨rfl,rfl,rfl,Nat.le_refl _,fun _ _ _=>rfl,fun _ _ h=>h⟩
     W5:=fun g cs hg=>by
       obtain⟨k1,k2,k3⟩:=hr.W5 g cs hg
       exact⟨((Hs []).im g k1 k2).1,k2,da.mono (Hs []).toW4 k1 k2 k3⟩
     gA:=fun l hl=>⟨by obtain⟨r,h⟩:=hl;simp only[b8] at h;simp[h],fun _=>rfl⟩
     fr:=fun l g hl hf=>by rw[B2 l hl] at hf;cases hf}
 refine(hs w (Im K β H) (fun l=>β (ρ l)) vs ju (br.bJ _ _ (Hs _) hv)).mono ?_
 rintro e w' ⟨v,x,H',β',rfl,hq,hc,wT,hxm⟩
 refine⟨v,x,H',rfl,hq,?_⟩
 intro ρ' kK p1 p2 p3 p4 p5 p6 p7 p8
 let jZ:Lb→Option Nat:=fun q=>if h:∃l,live H' l∧ρ' l=q then β' (Classical.choose h) else β q
 have qE:∀l,live H' l→jZ (ρ' l)=β' l:=by
   intro l hl
   have h:∃l',live H' l'∧ρ' l'=ρ' l:=⟨l,hl,rfl⟩
   have bV:=Classical.choose_spec h
   have e:Classical.choose h=l:=p3 _ _ bV.1 hl bV.2
   show(if h:∃l',live H' l'∧ρ' l'=ρ' l then β' (Classical.choose h) else β (ρ' l))=β' l
   rw[dif_pos h,e]
 have nL:∀q,live H q→(∀l,live iu l→ρ l≠q)→jZ q=β q:=by
   intro q oX FQ
   have h:¬∃l,live H' l∧ρ' l=q:=by
     rintro⟨l,hl,rfl⟩
     rcases p7 l hl with h|⟨h,_⟩
     · exact FQ l h (p1 l h hl).symm
     obtain⟨r,h'⟩:=oX;rw[h] at h';cases h'
   show(if h:∃l,live H' l∧ρ' l=q then β' (Classical.choose h) else β q)=β q
   rw[dif_neg h]
 have pZ:∀q,live kK q→(live H q∧(∀l,live iu l→ρ l≠q)∧jZ q=β q)∨∃l,live H' l∧ρ' l=q∧jZ q=β' l:=by
   rintro q ⟨r,h⟩
   rcases p2 q r h with⟨h1,h2⟩|⟨l,r',h1,rfl,_⟩
   · exact .inl ⟨⟨r,h1⟩,h2,nL q ⟨r,h1⟩ h2⟩
   exact .inr ⟨l,⟨r',h1⟩,rfl,qE l ⟨r',h1⟩⟩
 have ra:∀l g,live H' l→β' l=some g→(∃l0,live iu l0∧β (ρ l0)=some g)∨w.heap.size≤g:=by
   intro l g hl hg
   rcases hc.own l g hl hg with h|h
   · exact .inl h
   exact .inr h
 have B3:∀l,live iu l→live H' l→β' l=β (ρ l):=fun l h1 h2=>(hc.gA l h1).2 h2
 have j0:∀k,k<w.heap.size→(∀l,live iu l→β (ρ l)≠some k)→w'.heap[k]?=w.heap[k]?:=by
   intro k hk FQ
   refine hc.frame.block k hk ?_
   rintro⟨l,hl,hb⟩
   exact FQ l hl hb
 have EN:∀k,Im K β H k→k<w.heap.size→Im K jZ kK k∧k<w'.heap.size∧w'.heap[k]?=w.heap[k]?:=by
   intro k hk hks
   refine⟨⟨hk.1,fun q oX hb=> ?_⟩,Nat.lt_of_lt_of_le hks hc.frame.size,j0 k hks (fun l hl=>hk.2 _ (aK l hl))⟩
   rcases pZ q oX with⟨h1,h2,h3⟩|⟨l,h1,h2,h3⟩
   · rw[h3] at hb;exact hk.2 q h1 hb
   rw[h3] at hb
   rcases ra l k h1 hb with⟨l0,h4,h5⟩|h4
   · exact hk.2 _ (aK l0 h4) h5
   omega
 have J2:∀q,H q≠ .unused→live kK q→live H q∧jZ q=β q∧∀g S,β q=some g→jl w g=some S→jl w' g=some S:=by
   intro q hu oX
   refine⟨?_,?_,fun g S _ h=>hc.frame.bs g S h⟩
   · rcases pZ q oX with⟨h1,h2,h3⟩|⟨l,h1,h2,h3⟩
     · exact h1
     rcases p7 l h1 with h|⟨h,_⟩
     · have e:=p1 l h h1;rw[←h2,e];exact aK l h
     rw[h2] at h;exact absurd h hu
   rcases pZ q oX with⟨h1,h2,h3⟩|⟨l,h1,h2,h3⟩
   · exact h3
   rcases p7 l h1 with h|⟨h,_⟩
   · rw[h3,B3 l h h1,←h2,p1 l h h1]
   rw[h2] at h;exact absurd h hu
 have cX:∀ls,(∀q∈ls,H q≠ .unused)→ND w w' β jZ H kK (Im K β H) (Im K jZ kK) ls:=fun ls lr=>
   {im:=EN,lb:=fun q wX wx=>J2 q (lr q wX) wx}
 have FR:W4 w' w' (Im (b8 K.P K.G w (Im K β H) (fun l=>β (ρ l)) iu) β' H') (Im K jZ kK):=⟨by
   intro k hk hks
   refine⟨⟨?_,fun q oX hb=> ?_⟩,hks,rfl⟩
   · rcases hk.1 with h|h
     · exact h.1
     exact .inr (Nat.le_trans hr.frame.size h)
   rcases pZ q oX with⟨h1,h2,h3⟩|⟨l,h1,h2,h3⟩
   · rw[h3] at hb
     rcases hk.1 with h|h
     · exact h.2 q h1 hb
     have:=hr.YR h1 hb
     have h':w.heap.size≤k:=h
     omega
   rw[h3] at hb
   exact hk.2 l h1 hb⟩
 have qT:∀l,(l∈x.an∨∃l1 r1 cs,H' l1= .live r1∧cs∈r1.els∧l∈ah cs)→live kK (ρ' l)→live H' l∧jZ (ρ' l)=β' l∧∀g S,β' l=some g→jl w' g=some S→jl w' g=some S:=by
   intro l h1 h2
   have h3:=p8 l h1 h2
   exact⟨h3,qE l h3,fun _ _ _ h=>h⟩
 refine⟨jZ,⟨hr.defers,hr.size,fun n=>RV.mono _ _ (cX _ (hr.eI n)) (hr.N8 n),?_,?_,?_,fun n q oX=>p4 q (hr.eI n q oX),?_,?_,?_,?_,?_⟩,RV.oL x v FR (fun l hl=>qT l (.inl hl)) wT⟩
 · intro q r Iv
   rcases p2 q r Iv with⟨h1,h2⟩|⟨l,r',h1,rfl,rfl⟩
   · obtain⟨e1,e2,e3⟩:=hr.rows q r h1
     refine⟨e1,e2,?_⟩
     rw[nL q ⟨r,h1⟩ h2]
     cases hb:β q with
     |none=>simpa only[hb] using e3
     |some g=>
     simp only[hb] at e3 ⊢
     obtain⟨cur,e,cap,f1,f2,f3,f4,f5⟩:=e3
     have hg:g<w.heap.size:=(Array.getElem?_eq_some_iff.1 f1).1
     refine⟨cur,e,cap,(j0 g hg (fun l hl KX=>h2 l hl (hr.inj _ _ g (aK l hl) ⟨r,h1⟩ KX hb))).trans f1,f2,f3,f4,fun i j cs y hi hj=> ?_⟩
     obtain⟨u,k1,k2⟩:=f5 i j cs y hi hj
     exact⟨u,k1,RV.mono _ _ (cX _ (fun p hp=>hr.cH q r h1 cs (List.mem_of_getElem? hi) p (cW _ _ _ hj p hp))) k2⟩
   obtain⟨e1,e2,e3⟩:=hc.rows l r' h1
   refine⟨e1,?_,?_⟩
   · intro cs bV
     simp only[dO,List.mem_map] at bV
     obtain⟨wy,h0,rfl⟩:=bV
     rw[lD];exact e2 wy h0
   rw[qE l ⟨r',h1⟩]
   cases hb:β' l with
   |none=>simp only[hb] at e3;simp[dO,e3]
   |some g=>
   simp only[hb] at e3 ⊢
   obtain⟨cur,e,cap,f1,f2,f3,f4,f5⟩:=e3
   refine⟨cur,e,cap,f1,f2,f3,by simpa[dO] using f4,fun i j cs y hi hj=> ?_⟩
   simp only[dO,List.getElem?_map,Option.map_eq_some_iff] at hi
   obtain⟨wy,hi,rfl⟩:=hi
   rw[lC,Option.map_eq_some_iff] at hj
   obtain⟨y0,hj,rfl⟩:=hj
   obtain⟨u,k1,k2⟩:=f5 i j wy y0 hi hj
   exact⟨u,k1,RV.oL _ _ FR (fun p hp=>qT p (.inr ⟨l,r',wy,h1,List.mem_of_getElem? hi,cW _ _ _ hj p hp⟩)) k2⟩
 · intro q g oX hb
   rcases pZ q oX with⟨h1,h2,h3⟩|⟨l,h1,h2,h3⟩
   · rw[h3] at hb;exact hr.own q g h1 hb
   rw[h3] at hb
   rcases ra l g h1 hb with⟨l0,h4,h5⟩|h4
   · exact hr.own _ g (aK l0 h4) h5
   exact .inr (Nat.le_trans hr.frame.size h4)
 · intro q1 q2 g wX wx g1 g2
   rcases pZ q1 wX with⟨h1,h2,h3⟩|⟨l,h1,h2,h3⟩
   · rw[h3] at g1
     rcases pZ q2 wx with⟨k1,k2,k3⟩|⟨l',k1,k2,k3⟩
     · rw[k3] at g2;exact hr.inj q1 q2 g h1 k1 g1 g2
     rw[k3] at g2
     rcases ra l' g k1 g2 with⟨l0,h4,h5⟩|h4
     · exact absurd (hr.inj _ _ g (aK l0 h4) h1 h5 g1) (h2 l0 h4)
     have:=hr.YR h1 g1;omega
   rw[h3] at g1
   rcases pZ q2 wx with⟨k1,k2,k3⟩|⟨l',k1,k2,k3⟩
   · rw[k3] at g2
     rcases ra l g h1 g1 with⟨l0,h4,h5⟩|h4
     · exact absurd (hr.inj _ _ g (aK l0 h4) k1 h5 g2) (k2 l0 h4)
     have:=hr.YR k1 g2;omega
   rw[k3] at g2
   rw[←h2,←k2,hc.inj l l' g h1 k1 g1 g2]
 · intro q r Iv cs bV p hp
   rcases p2 q r Iv with⟨h1,h2⟩|⟨l,r',h1,rfl,rfl⟩
   · exact p4 p (hr.cH q r h1 cs bV p hp)
   simp only[dO,List.mem_map] at bV
   obtain⟨wy,h0,rfl⟩:=bV
   rw[iZ,List.mem_map] at hp
   obtain⟨p0,KY,rfl⟩:=hp
   exact p6 l r' h1 wy h0 p0 KY
 · refine⟨hc.frame.os.trans hr.frame.os,hc.frame.tape.trans hr.frame.tape,hc.frame.output.trans hr.frame.output,Nat.le_trans hr.frame.size hc.frame.size,fun k hk hd=> ?_,fun k S hS=>hc.frame.bs k S (hr.frame.bs k S hS)⟩
   refine(j0 k (Nat.lt_of_lt_of_le hk hr.frame.size) (fun l hl hb=> ?_)).trans (hr.frame.block k hk hd)
   rcases hr.own _ k (aK l hl) hb with h|h
   · exact hd h
   omega
 · intro g cs hg
   obtain⟨h1,h2,h3⟩:=hr.W5 g cs hg
   obtain⟨k1,k2,k3⟩:=EN g h1 h2
   exact⟨k1,k2,da.mono (cX [] (by simp)).toW4 h1 h2 h3⟩
 · intro l hl
   obtain⟨h1,h2⟩:=hr.gA l hl
   refine⟨p4 l h1,fun h=> ?_⟩
   obtain⟨k1,k2,_⟩:=J2 l h1 h
   rw[k2];exact h2 k1
 intro q g oX hf hb
 rcases pZ q oX with⟨h1,h2,h3⟩|⟨l,h1,h2,h3⟩
 · rw[h3] at hb;exact hr.fr q g h1 hf hb
 rw[h3] at hb
 rcases p7 l h1 with h|⟨h,h'⟩
 · rw[B3 l h h1] at hb
   have e:ρ l=q:=by rw[←h2,p1 l h h1]
   rw[e] at hb
   exact hr.fr q g (e▸aK l h) hf hb
 rcases h' (by rw[h2];exact hf) with Iw|Iw
 · exact Nat.le_trans hr.frame.size (hc.fr l g h1 Iw hb)
 rcases ra l g h1 hb with⟨l0,h4,h5⟩|h4
 · exact hr.fr _ g (aK l0 h4) (Iw l0 h4) h5
 exact Nat.le_trans hr.frame.size h4
end
end Go.Am

namespace Go.Am
open Go Go.RowKit
section
variable {K:Kx} {β:Lb→Option Nat} {env:Env} {H:Hp} {a:Act} {w:World}
def P0 (K:Kx) (env:Env) (d:Option Nat) (k:AV→Hp→Prop) (a':Act) (w':World):Prop:=∃x H',k x H'∧∃β',aH K β' (cV env d x) H' a' w'
def dz (hr:aH K β env H a w) {o:Oper} (hd:∀n,o.dst=some n→n<K.N) {x:AV} {k:AV→Hp→Prop} {Q:Exit→Act→World→Prop} (h:aJ K β H a w o x) (hk:k x H) :
  o.wp K.P a w (P0 K env o.dst k) Q:=by
 obtain⟨v,w',h1,h2,h3,h4⟩:=h;unfold Oper.wp;rw[h1];exact⟨x,H,hk,β,hr.step h2 hd (fun _=>h3) (fun _=>h4)⟩
def dA {o:Oper} {x:AV} {H':Hp} {k:AV→Hp→Prop} {Q:Exit→Act→World→Prop} (h:iq K env a w o o.dst x H') (hk:k x H') :
  o.wp K.P a w (P0 K env o.dst k) Q:=by
 obtain⟨nx,w',β',v,h1,h2,h3⟩:=h;unfold Oper.wp;rw[h1];rcases h2 with rfl|⟨rfl,rfl⟩
 ·exact⟨x,H',hk,β',h3⟩
 exact⟨x,H',hk,β',h3⟩
def uf (hr:aH K β env H a w) {o:Oper} (hd:∀n,o.dst=some n→n<K.N) {f:Nat} {args:List AV} {vs:List Value} {k:AV→Hp→Prop} {Q:Exit→Act→World→Prop}
  (gY:(execOp a.eval o).run K.P w= .ok (.enter f vs.toArray) w) (hv:br w β H (Im K β H) args vs) (hc:jJ ⟨K.P,K.G,K.N⟩ f args H k):o.wp K.P a w (P0 K env o.dst k) Q:=by
 unfold Oper.wp;rw[gY];rcases hc with⟨res,hp,hk⟩|⟨U6,res,ha,hp,q_,hk⟩|⟨ρ,iu,U6,Q',h1,rfl,h3,h4,h5,h6,KZ,h7,h8⟩
 ·refine(ml hr hp hv trivial).mono ?_;rintro e w' ⟨v,rfl,gw,hx⟩;exact⟨res,H,hk,β,hr.step gw hd (fun _=>hx) (fun _ l hl=>by rw[hp.2.1] at hl;simp at hl)⟩
 ·refine(vl hr ha hp q_ hv).mono ?_;rintro e w' ⟨v,rfl,gw,hx⟩;exact⟨res,H,hk,β,hr.step gw hd (fun _=>hx) (fun _ l hl=>by rw[hp.2.1] at hl;simp at hl)⟩
 refine(vm hr h1 h3 h4 h5 h6 KZ h7 hv).mono ?_;rintro e w' ⟨v,x,H',rfl,hq,dN⟩;obtain⟨ρ',kK,p1,p2,p3,p4,p5,p6,p7,p8,hk⟩:=h8 x H' hq;obtain⟨jZ,q1,q2⟩:=dN ρ' kK p1 p2 p3 p4 p5 p6 p7 p8;exact⟨_,kK,hk,jZ,q1.step (Below.refl _ _) hd (fun _=>q2) (fun _ l hl=>by
  rw[pY,pb] at hl;obtain⟨l0,h0,rfl⟩:=hl;exact p5 l0 h0)⟩
def ba {α γ:Type} {x:Option α} {f:α→Option γ} {y:γ} (h:x.bind f=some y):∃a,x=some a∧f a=some y:=dJ.1 h
def wh {α γ:Type} {x:Option α} {f:α→γ} {y:γ} (h:x.map f=some y):∃a,x=some a∧f a=y:=bR.1 h
def wY {i:U7} {x:O} (h:i.fV= .box x):i= .box x∨i= .oC x:=by
 cases i<;>simp[U7.fV] at h<;>simp[h]
def wZ {i:U7} {s x:O} {sz b:Nat} (h:i.fV= .app s x sz b):i= .app s x sz b∨i= .oE s x sz b:=by
 cases i<;>simp[U7.fV] at h<;>simp[h]
def vn {i:U7} {n sz:Nat} {z:List AV} {ps:List (Nat×O)} (h:i.fV= .lits n sz z ps):i= .lits n sz z ps∨(n=1∧i= .gG sz z ps):=by
 cases i<;>simp[U7.fV] at h<;>simp[h]
def U7.C1:U7→Bool
 | .box _| .app ..| .lits ..=>true
 |_=>false
def cM {i j:U7} (h:i.fV=j) (hj:j.C1=false):i=j:=by
 subst h;cases i<;>first|rfl|(simp[U7.fV,U7.C1] at hj)
def U7.plain:U7→Bool
 | .load ..| .box _| .new _| .store ..| .app ..| .call ..| .fM ..| .tU ..| .qL ..| .BJ ..| .cap ..| .si ..| .kE ..| .pP ..| .gG ..=>false
 |_=>true
def i_ {S:St} {d:Option Nat} {i:U7} {k:AV→Hp→Prop} (h:i.plain=true) (ha:bg S d i env H k):∃x,af i env=some x∧k x H:=by
 cases i<;>simp[U7.plain] at h<;>exact ha
def oM (d:Nat) {P:Program} {t e:TypeId} (ht:P.underlying t=some (.slice e)) (a:Option Addr) (n c:Nat) :
  (Op.equalIn (d+1) t (.slice a n c) (.slice none 0 0)).run P w= .ok a.isNone w:=by
 cases a<;>simp[Op.equalIn,run_underlying ht]
def FT (hr:aH K β env H a w) {o:Oper} {op:BinOp} {t t2 e:TypeId} {x y:Operand} {x':O} {n:Bool} (ho:o.op= .binOp op t x y t2) (hn:jG op=some n)
  (ht:K.P.underlying t=some (.slice e)) (hc:sG y=true) (hx:co K.G x=some x') {bs:List Bool} (hz:qY (ev env x')=some bs):∃b,b∈bs∧aJ K β H a w o (.bool (n ^^ b)):=by
 have h:=hr.ev hx;have hy:a.eval y= .slice none 0 0:=by
  unfold sG at hc;split at hc
  ·rfl
  cases hc
 have key:∀(ad:Option Addr) (m c:Nat),a.eval x= .slice ad m c→ad.isNone∈bs→∃b,b∈bs∧aJ K β H a w o (.bool (n ^^ b)):=by
  intro ad m c h3 h4;refine⟨ad.isNone,h4,aJ.same (v:= .bool (n ^^ ad.isNone)) ?_ PT Pv⟩;have h5:(Op.equal t (.slice ad m c) (.slice none 0 0)).run K.P w= .ok ad.isNone w:=oM 9999 ht ad m c;rcases iW hn with⟨rfl,rfl⟩|⟨rfl,rfl⟩
  ·simp[execOp,ho,h3,hy,eqGuard,binOp,h5]
  simp[execOp,ho,h3,hy,eqGuard,binOp,h5]
 have zN:∀b:Bool,b∈[true,false]:=by intro b;cases b<;>simp
 cases e1:ev env x'<;>rw[e1] at h hz
 case list xs=>
  simp only[RV,NN] at h;obtain⟨ad,c,h1,_,_,h4⟩:=h;cases xs with
  |nil=>simp only[qY,di] at hz;subst hz;exact key _ _ _ h1 (zN _)
  |cons y0 r=>
  simp only[qY,di] at hz;subst hz;rcases h4 with h4|⟨b,o',sz,h4,_⟩
  ·simp at h4
  refine key _ _ _ h1 ?_;rw[h4];simp
 case nil0=>
  simp only[RV] at h;obtain⟨ad,h1⟩:=h;simp only[qY,di] at hz;subst hz;exact key _ _ _ h1 (zN _)
 case slk l sz i m c=>
  simp only[RV] at h;obtain⟨ad,h1,h2,_,h4,_⟩:=h;simp only[qY,di] at hz;subst hz;refine key _ _ _ h1 ?_;by_cases hm:0<m
  ·rw[eE hm];have:=h4 tM;cases ad with
   |none=>simp at this
   |some q=>simp
  rw[cY hm];exact zN _
 case sl l sz i m=>
  simp only[RV] at h;obtain⟨ad,c,h1,_,_,h4,_⟩:=h;simp only[qY,di] at hz;subst hz;refine key _ _ _ h1 ?_;by_cases hm:0<m
  ·rw[eE hm];have:=h4 hm;cases ad with
   |none=>simp at this
   |some q=>simp
  rw[cY hm];exact zN _
 all_goals simp[qY] at hz
set_option maxHeartbeats 1000000 in
def ab6 (hr : aH K β env H a w) {o : Oper} {i : U7} {k : AV → Hp → Prop} {Q : Exit → Act → World → Prop} (hd : ∀ n,o.dst = some n → n < K.N) (hc : wG K.P K.G o = some i.fV)
   (ha : bg ⟨K.P,K.G,K.N⟩ o.dst i env H k) : o.wp K.P a w (P0 K env o.dst k) Q := by
 have plain : ∀ j : U7,i.fV = j → j.C1 = false → j.plain = true → (∀ x,af j env = some x → aJ K β H a w o x) → o.wp K.P a w (P0 K env o.dst k) Q := by
   intro j hj K0 hp hs
   have e := cM hj K0
   subst e
   obtain ⟨x,h1,h2⟩ := i_ hp ha
   exact dz hr hd (hs x h1) h2
 unfold wG at hc
 split at hc
 · rename_i x ho
   obtain ⟨y,h1,h2⟩ := wh hc
   exact plain _ h2.symm rfl rfl (fun z hz => by simp only [af,Option.some.injEq] at hz; subst hz; exact BM hr (.inl ho) h1)
 · rename_i x ho
   obtain ⟨y,h1,h2⟩ := wh hc
   exact plain _ h2.symm rfl rfl (fun z hz => by simp only [af,Option.some.injEq] at hz; subst hz; exact BM hr (.inr ho) h1)
 · rename_i c x y ho
   obtain ⟨c',h1,hc⟩ := ba hc
   obtain ⟨x',h2,hc⟩ := ba hc
   obtain ⟨y',h3,h4⟩ := wh hc
   refine plain _ h4.symm rfl rfl (fun z hz => ?_)
   simp only [af] at hz
   split at hz
   · rename_i t ht
     simp only [Option.some.injEq] at hz; subst hz
     exact Ct hr ho h1 h2 h3 ht
   · simp at hz
 · rename_i t x f ho
   split at hc
   · rename_i fs ht
     obtain ⟨fd,h1,hc⟩ := ba hc
     obtain ⟨s,h2,hc⟩ := ba hc
     split at hc
     · simp at hc
     · rename_i wo
       obtain ⟨x',h3,h4⟩ := wh hc
       exact plain _ h4.symm rfl rfl (fun z hz => Fa hr ho ht h1 h2 wo h3 hz)
   · simp at hc
 · rename_i t x j ho
   split at hc
   · rename_i e ht
     obtain ⟨s,h2,hc⟩ := ba hc
     obtain ⟨x',h3,hc⟩ := ba hc
     obtain ⟨j',h4,h5⟩ := wh hc
     exact plain _ h5.symm rfl rfl (fun z hz => Fc hr ho ht h2 h3 h4 hz)
   · rename_i n e ht
     obtain ⟨s,h2,hc⟩ := ba hc
     obtain ⟨x',h3,hc⟩ := ba hc
     obtain ⟨j',h4,h5⟩ := wh hc
     exact plain _ h5.symm rfl rfl (fun z hz => Fb hr ho ht h2 h3 h4 hz)
   · simp at hc
 · rename_i t x j ho
   split at hc
   · rename_i ht
     obtain ⟨x',h3,hc⟩ := ba hc
     obtain ⟨j',h4,h5⟩ := wh hc
     exact plain _ h5.symm rfl rfl (fun z hz => Fe hr ho ht h3 h4 hz)
   · simp at hc
 · rename_i t x lo hi mx ho
   split at hc
   · rename_i e ht
     obtain ⟨s,h2,hc⟩ := ba hc
     obtain ⟨x',h3,hc⟩ := ba hc
     obtain ⟨pR,h4,hc⟩ := ba hc
     obtain ⟨ed,h5,hc⟩ := ba hc
     obtain ⟨mx',h6,h7⟩ := wh hc
     exact plain _ h7.symm rfl rfl (fun z hz => Fg hr ho ht h2 h3 h4 h5 h6 hz)
   · rename_i ht
     split at hc
     · simp at hc
     · rename_i sK
       obtain ⟨x',h3,hc⟩ := ba hc
       obtain ⟨pR,h4,hc⟩ := ba hc
       obtain ⟨ed,h5,h7⟩ := wh hc
       have : mx = none := by cases mx <;> simp_all
       subst this
       exact plain _ h7.symm rfl rfl (fun z hz => Cz hr ho ht h3 h4 h5 hz)
   · rename_i n e ht
     split at hc
     · rename_i B4
       simp only [Bool.and_eq_true,Option.isNone_iff_eq_none] at B4
       obtain ⟨⟨rfl,rfl⟩,rfl⟩ := B4
       obtain ⟨s,h2,hc⟩ := ba hc
       split at hc
       · simp at hc
       · rename_i wo
         obtain ⟨x',h3,h5⟩ := wh hc
         exact plain _ h5.symm rfl rfl (fun z hz => CW hr ho ht h2 wo h3 hz)
     · simp at hc
   · simp at hc
 · -- makeSlice
   rename_i t n c ho
   split at hc
   · rename_i e ht
     split at hc
     · rename_i ti su
       split at hc
       · rename_i z hz
         split at hc
         · rename_i cP
           obtain ⟨zs,h1,hc⟩ := ba hc
           obtain ⟨n',h2,hc⟩ := ba hc
           obtain ⟨c',h3,h5⟩ := wh hc
           have e5 := cM h5.symm rfl
           subst e5
           obtain ⟨q,g1,y,H',g2,g3⟩ := ha
           exact dA (by rw [g1]; exact FM hr (hd q g1) ho ht su hz cP.1 cP.2.1 cP.2.2 h1 h2 h3 g2) g3
         · simp at hc
       · simp at hc
     · simp at hc
   · simp at hc
 · rename_i op t x y t2 ho
   split at hc
   · obtain ⟨x',h3,hc⟩ := ba hc
     obtain ⟨y',h4,h5⟩ := wh hc
     exact plain _ h5.symm rfl rfl (fun z hz => BN hr ho h3 h4 hz)
   · obtain ⟨x',h3,hc⟩ := ba hc
     obtain ⟨y',h4,h5⟩ := wh hc
     exact plain _ h5.symm rfl rfl (fun z hz => BN hr ho h3 h4 hz)
   · rename_i ht
     obtain ⟨n,h2,hc⟩ := ba hc
     obtain ⟨x',h3,hc⟩ := ba hc
     obtain ⟨y',h4,h5⟩ := wh hc
     exact plain _ h5.symm rfl rfl (fun z hz => Fv hr ho h2 ht h3 h4 hz)
   · rename_i e ht
     obtain ⟨n,h2,hc⟩ := ba hc
     obtain ⟨x',h3,hc⟩ := ba hc
     obtain ⟨y',h4,h5⟩ := wh hc
     exact plain _ h5.symm rfl rfl (fun z hz => Fw hr ho h2 ht h3 h4 hz)
   · rename_i ms ht
     split at hc
     · rename_i s4
       obtain ⟨n,h2,hc⟩ := ba hc
       obtain ⟨x',h3,hc⟩ := ba hc
       obtain ⟨y',h4,h5⟩ := wh hc
       exact plain _ h5.symm rfl rfl (fun z hz => Fx hr ho h2 ht s4 h3 hz)
     · simp at hc
   · rename_i fs ht
     obtain ⟨ks,h1,hc⟩ := ba hc
     obtain ⟨n,h2,hc⟩ := ba hc
     obtain ⟨x',h3,hc⟩ := ba hc
     obtain ⟨y',h4,h5⟩ := wh hc
     exact plain _ h5.symm rfl rfl (fun z hz => CH hr ho h2 h1 h3 h4 hz)
   · -- a slice,held against nil
     rename_i e ht
     split at hc
     · rename_i s4
       obtain ⟨n,h2,hc⟩ := ba hc
       obtain ⟨x',h3,h5⟩ := wh hc
       have e5 := cM h5.symm rfl
       subst e5
       obtain ⟨bs,g1,g2⟩ := ha
       obtain ⟨b,hb,g_⟩ := FT hr ho h2 ht s4 h3 g1
       exact dz hr hd g_ (g2 b hb)
     · simp at hc
   · simp at hc
 · rename_i t x ho
   obtain ⟨x',h3,h5⟩ := wh hc
   exact plain _ h5.symm rfl rfl (fun z hz => Fh hr ho h3 hz)
 · rename_i t x ho
   obtain ⟨x',h3,h5⟩ := wh hc
   exact plain _ h5.symm rfl rfl (fun z hz => Fi hr ho h3 hz)
 · rename_i x j ho
   obtain ⟨x',h3,h5⟩ := wh hc
   exact plain _ h5.symm rfl rfl (fun z hz => Fl hr ho h3 hz)
 · rename_i x ho
   obtain ⟨x',h3,h5⟩ := wh hc
   exact plain _ h5.symm rfl rfl (fun z hz => CA hr ho h3 hz)
 · -- box
   rename_i t x ho
   obtain ⟨x',h3,h5⟩ := wh hc
   rcases wY h5.symm with rfl | rfl
   · obtain ⟨n,g1,g2,g3,g4,g5,g6⟩ := ha
     exact dA (by rw [g1]; exact FC hr (hd n g1) ho h3 g3 g4 g5 g2) g6
   · obtain ⟨y,h1,h2⟩ := i_ rfl ha
     exact dz hr hd (CC hr ho h3 h1) h2
 · rename_i f first cap ho
   split at hc
   · rename_i hf
     obtain ⟨cs,h3,h5⟩ := wh hc
     exact plain _ h5.symm rfl rfl (fun z hz => Fm hr ho hf h3 hz)
   · obtain ⟨qs,h2,hc⟩ := ba hc
     obtain ⟨cs,h3,h5⟩ := wh hc
     exact plain _ h5.symm rfl rfl (fun z hz => Fo hr ho h2 h3 hz)
 · -- load
   rename_i t x ho
   obtain ⟨m,h1,hc⟩ := ba hc
   obtain ⟨x',h3,h5⟩ := wh hc
   have e := cM h5.symm rfl
   subst e
   rcases ha with ⟨y,g1,g2⟩ | ⟨y,g1,g2⟩
   · exact dz hr hd (zz hr ho h1 h3 g1) g2
   · exact dz hr hd (CL hr ho h1 h3 g1) g2
 · -- alloc
   rename_i t ho
   split at hc
   · rename_i ti su
     split at hc
     · rename_i z hz
       split at hc
       · obtain ⟨cs,h3,h5⟩ := wh hc
         have e := cM h5.symm rfl
         subst e
         obtain ⟨n,g1,g2,g3,g4,g5⟩ := ha
         exact dA (by rw [g1]; exact zF hr (hd n g1) ho su hz h3 g3 g4 g2) g5
       · simp at hc
     · simp at hc
   · simp at hc
 · -- store
   rename_i t x y ho
   obtain ⟨s,h1,hc⟩ := ba hc
   obtain ⟨x',h3,hc⟩ := ba hc
   obtain ⟨y',h4,h5⟩ := wh hc
   have e := cM h5.symm rfl
   subst e
   obtain ⟨g1,H',g2,g3⟩ := ha
   exact dA (by rw [g1]; exact zG hr ho h1 h3 h4 g2) g3
 · -- convert
   rename_i s d x ho
   split at hc
   · rename_i k1 k2 hs B5
     obtain ⟨x',h3,h5⟩ := wh hc
     exact plain _ h5.symm rfl rfl (fun z hz => Fq hr ho hs B5 h3 hz)
   · rename_i hs B5
     obtain ⟨x',h3,h5⟩ := wh hc
     exact plain _ h5.symm rfl rfl (fun z hz => Fs hr ho hs B5 h3 hz)
   · rename_i e hs B5
     split at hc
     · rename_i he
       obtain ⟨x',h3,h5⟩ := wh hc
       exact plain _ h5.symm rfl rfl (fun z hz => Fy hr ho hs B5 he h3 hz)
     · simp at hc
   · rename_i e hs B5
     split at hc
     · rename_i he
       obtain ⟨x',h3,h5⟩ := wh hc
       exact plain _ h5.symm rfl rfl (fun z hz => Fz hr ho hs he B5 h3 hz)
     · simp at hc
   · simp at hc
 · rename_i t x ho
   split at hc
   · simp at hc
   · rename_i d Ht ht
     obtain ⟨x',h3,h5⟩ := wh hc
     exact plain _ h5.symm rfl rfl (fun z hz => CB hr ho ht (fun ms e => Ht ms e) h3 hz)
   · simp at hc
 · rename_i t x i ok ho
   split at hc
   · simp at hc
   · rename_i j4
     split at hc
     · rename_i k e ht
       split at hc
       · rename_i kd z hk hz
         split at hc
         · rename_i Hg
           obtain ⟨x',h3,hc⟩ := ba hc
           obtain ⟨i',h4,h5⟩ := wh hc
           exact plain _ h5.symm rfl rfl (fun y hy => Cx hr (by rw [ho,Bool.eq_false_iff.2 j4]) ht hk hz Hg h3 h4 hy)
         · simp at hc
       · simp at hc
     · simp at hc
 · rename_i t x f ho
   split at hc
   · rename_i fs ht
     obtain ⟨fd,h1,hc⟩ := ba hc
     obtain ⟨m,h2,hc⟩ := ba hc
     obtain ⟨x',h3,h5⟩ := wh hc
     exact plain _ h5.symm rfl rfl (fun z hz => CG hr ho ht h1 h2 h3 hz)
   · simp at hc
 · -- buildSlice
   rename_i t n ps ho
   split at hc
   · rename_i e ht
     split at hc
     · rename_i ti su
       split at hc
       · rename_i z hz
         split at hc
         · rename_i cP
           obtain ⟨zs,h1,hc⟩ := ba hc
           obtain ⟨xs,h2,h5⟩ := wh hc
           rcases vn h5.symm with rfl | ⟨rfl,rfl⟩
           · obtain ⟨y,g1,g2⟩ := i_ rfl ha
             exact dz hr hd (CE hr ho ht su hz cP.1 cP.2.1 cP.2.2 h1 h2 g1) g2
           · obtain ⟨q,g1,y,H',g2,g3⟩ := ha
             exact dA (by rw [g1]; exact zM hr (hd q g1) ho ht su hz cP.1 cP.2.1 cP.2.2 h1 h2 g2) g3
         · simp at hc
       · simp at hc
     · simp at hc
   · simp at hc
 · -- build
   rename_i t ps ho
   split at hc
   · rename_i ti fs su ht
     split at hc
     · rename_i z pl hz BS
       obtain ⟨zs,h1,hc⟩ := ba hc
       obtain ⟨xs,h2,hc⟩ := ba hc
       obtain ⟨qs,h3,h5⟩ := wh hc
       exact plain _ h5.symm rfl rfl (fun y hy => Fu hr ho ht su hz BS h1 h2 h3 hy)
     · simp at hc
   · simp at hc
 · -- call
   rename_i c ho
   split at hc
   · -- len
     rename_i iH
     split at hc
     · rename_i x h1 h2
       obtain ⟨x',h3,h5⟩ := wh hc
       exact plain _ h5.symm rfl rfl (fun z hz => Cw hr ho iH h1 h2 h3 hz)
     · rename_i x e h1 h2
       obtain ⟨x',h3,h5⟩ := wh hc
       exact plain _ h5.symm rfl rfl (fun z hz => Ff hr ho iH h1 h2 h3 hz)
     · simp at hc
   · -- max
     rename_i iH
     split at hc
     · rename_i x y h1
       obtain ⟨x',h3,hc⟩ := ba hc
       obtain ⟨y',h4,h5⟩ := wh hc
       exact plain _ h5.symm rfl rfl (fun z hz => Fj hr ho iH h1 h3 h4 hz)
     · simp at hc
   · -- min
     rename_i iH
     split at hc
     · rename_i x y h1
       obtain ⟨x',h3,hc⟩ := ba hc
       obtain ⟨y',h4,h5⟩ := wh hc
       exact plain _ h5.symm rfl rfl (fun z hz => Fk hr ho iH h1 h3 h4 hz)
     · simp at hc
   · -- append
     rename_i iH
     split at hc
     · rename_i s x st xt h1 h2
       split at hc
       · rename_i e g_
         split at hc
         · rename_i ti su
           split at hc
           · rename_i cP
             simp only [Bool.and_eq_true,beq_iff_eq,decide_eq_true_eq] at cP
             obtain ⟨⟨q1,q2⟩,q3⟩ := cP
             obtain ⟨z,hz,oz⟩ := wh q1
             obtain ⟨s',h3,hc⟩ := ba hc
             obtain ⟨x',h4,h5⟩ := wh hc
             obtain ⟨dx,qD,hdx⟩ : ∃ dx,K.P.underlying xt = some dx ∧ (dx = .string ∨ ∃ e2,dx = .slice e2) := by
               unfold E_ at q3
               split at q3
               · rename_i hh; exact ⟨_,hh,.inl rfl⟩
               · rename_i hh; exact ⟨_,hh,.inr ⟨_,rfl⟩⟩
               · simp at q3
             rcases wZ h5.symm with rfl | rfl
             · obtain ⟨n,g1,y,H',g3,g4⟩ := ha
               exact dA (by rw [g1]; exact FG hr (hd n g1) ho iH h1 h2 g_ su hz oz q2 qD hdx h3 h4 g3) g4
             · obtain ⟨y,g3,g4⟩ := i_ rfl ha
               exact dz hr hd (CX hr ho iH h1 h2 g_ su hz oz q2 qD hdx h3 h4 g3) g4
           · split at hc
             · rename_i k0 z qD hz
               split at hc
               · rename_i nM
                 obtain ⟨zs,h5,hc⟩ := ba hc
                 obtain ⟨s',h3,hc⟩ := ba hc
                 obtain ⟨x',h4,h6⟩ := wh hc
                 have e6 := cM h6.symm rfl
                 subst e6
                 obtain ⟨n,g1,y,H',g3,g4⟩ := ha
                 exact dA (by rw [g1]; exact CY hr (hd n g1) ho iH h1 h2 g_ su hz nM.1 nM.2.1 nM.2.2 qD h5 h3 h4 g3) g4
               · simp at hc
             · simp at hc
         · simp at hc
       · simp at hc
     · simp at hc
   · -- cap
     rename_i iH
     split at hc
     · rename_i x e h1 h2
       obtain ⟨x',h3,h5⟩ := wh hc
       have e5 := cM h5.symm rfl
       subst e5
       obtain ⟨R,g1,g2⟩ := ha
       obtain ⟨m,q1,q2,q3⟩ := FN hr ho iH h1 h2 h3 g1
       exact dz hr hd q3 (g2 m q1 q2)
     · simp at hc
   · -- copy
     rename_i iH
     split at hc
     · rename_i dd x dt xt h1 h2
       split at hc
       · rename_i e Hq
         obtain ⟨s,h3,hc⟩ := ba hc
         split at hc
         · simp at hc
         · rename_i wo
           obtain ⟨d',h4,hc⟩ := ba hc
           obtain ⟨x',h6,h5⟩ := wh hc
           have e5 := cM h5.symm rfl
           subst e5
           obtain ⟨y,H',g1,g2⟩ := ha
           exact dA (FK hr hd ho iH h1 h2 Hq h3 wo h4 h6 g1) g2
       · simp at hc
     · simp at hc
   · -- clear
     rename_i iH
     split at hc
     · rename_i x e h1 h2
       split at hc
       · rename_i ti su
         split at hc
         · rename_i z hz
           split at hc
           · rename_i cP
             obtain ⟨zs,h3,hc⟩ := ba hc
             obtain ⟨x',h4,h5⟩ := wh hc
             have e5 := cM h5.symm rfl
             subst e5
             obtain ⟨H',g1,g2⟩ := ha
             exact dA (FL hr hd ho iH h1 h2 su hz cP.1 cP.2 h3 h4 g1) g2
           · simp at hc
         · simp at hc
       · simp at hc
     · simp at hc
   · simp at hc
   · simp at hc
   · -- a function
     rename_i f iH
     split at hc
     · rename_i hb
       obtain ⟨xs,h3,h5⟩ := wh hc
       have e := cM h5.symm rfl
       subst e
       obtain ⟨fn, hf, w5⟩ : ∃ fn, K.P.funcs[f]? = some fn ∧ (fn.body.isSome = true ∧ (fn.name != "runtime.NumGoroutine") = true) := by
         unfold fU at hb
         cases hq : K.P.funcs[f]? with
         | none => simp [hq] at hb
         | some fn => simp only [hq,Option.any_some,Bool.and_eq_true] at hb; exact ⟨fn,rfl,hb⟩
       refine uf hr hd (vs := c.args.toList.map a.eval) ?_ (iE hr _ _ h3) ha
       have h1 : ¬ fn.name = "runtime.NumGoroutine" := by simpa using w5.2
       have h2 : ¬ fn.body = none := by intro hh; simp [hh] at w5
       simp [execOp,ho,resolve,iH,Act.eval,Deferred.ofValue,invoke,callFunc,hf,h1,h2]
       cases c.args
       simp
     · -- without a body
       obtain ⟨xs,h3,h5⟩ := wh hc
       have e5 := cM h5.symm rfl
       subst e5
       obtain ⟨res,g1,g2⟩ := ha
       obtain ⟨v,w',q1,q2,q3,q4⟩ := g1 K β env a w (c.args.toList.map a.eval) rfl hr (iE hr _ _ h3)
       refine dz hr hd ⟨v,w',?_,q2,q3,q4⟩ g2
       have uh : (c.args.toList.map a.eval).toArray = c.args.map a.eval := by cases c.args; simp
       rw [uh] at q1
       simp [execOp,ho,resolve,iH,Act.eval,Deferred.ofValue,invoke,q1]
   · -- a function value
     rename_i f B2 iH
     obtain ⟨y,h2,hc⟩ := ba hc
     obtain ⟨xs,h3,h5⟩ := wh hc
     have e := cM h5.symm rfl
     subst e
     obtain ⟨f',first,cap,g1,hb,g2⟩ := ha
     have hv := hr.ev h2
     rw [g1] at hv
     simp only [RV] at hv
     obtain ⟨vs,us,k1,k2,k3⟩ := hv
     obtain ⟨fn, hf, w5⟩ : ∃ fn, K.P.funcs[f']? = some fn ∧ (fn.body.isSome = true ∧ (fn.name != "runtime.NumGoroutine") = true) := by
       unfold fU at hb
       cases hq : K.P.funcs[f']? with
       | none => simp [hq] at hb
       | some fn => simp only [hq,Option.any_some,Bool.and_eq_true] at hb; exact ⟨fn,rfl,hb⟩
     refine uf hr hd (vs := vs ++ c.args.toList.map a.eval ++ us) ?_ (br.append _ _ _ _ (br.append _ _ _ _ k2 (iE hr _ _ h3)) k3) g2
     have h1 : ¬ fn.name = "runtime.NumGoroutine" := by simpa using w5.2
     have h2 : ¬ fn.body = none := by intro hh; simp [hh] at w5
     simp [execOp,ho,resolve,iH,k1,Deferred.ofValue,invoke,callFunc,hf,h1,h2]
 · simp at hc
def vo (hr:aH K β env H a w) {o:Oper} {i:U7} {k:AV→Hp→Prop} {Q:Exit→Act→World→Prop} (hd:∀n,o.dst=some n→n<K.N) (hc:comp K.P K.G o=some i.fV)
  (ha:bg ⟨K.P,K.G,K.N⟩ o.dst i env H k):o.wp K.P a w (P0 K env o.dst k) Q:=by
 unfold comp at hc;split at hc
 ·rename_i j hj;simp only[di] at hc;exact ab6 hr hd (by rw[hj,hc]) ha
 simp only[di] at hc;have e:i= .stuck:=cM hc.symm rfl;subst e;obtain⟨x,h1,_⟩:=i_ rfl ha;simp[af] at h1
end
end Go.Am
