import Derived.Test.YtfinkeaikbmpgaaAm38
import Derived.Test.YtfinkeaikbmpgaaKAm36
set_option linter.unusedSimpArgs false
set_option linter.unusedVariables false
set_option linter.unnecessarySimpa false
set_option linter.defProp false
/- THE ABSTRACT MACHINE, part 12: contracts of calls; a region's operations in their order. -/
namespace Go.Am
open Go Go.RowKit
def ay (xs:List IV):List (List AV):=xs.map fun y=>y.cells.map IV.cW
def Flat (xs:List IV):Prop:=∀y∈xs,∀z∈y.cells,∀cs,z≠ .agg cs
def Hp.none:Hp:=fun _=> .unused
def Env.any:Env:=fun _=> .any
def qY:Act:={tmps:=#[],defers:=[]}
def GR (β:Lb→Option Nat) (H:Hp) (k:Nat):Prop:=∃l,live H l∧β l=some k
def gi (P:Program) (G:Nat→Option (List IV)) (w:World) (A:Nat→Prop) (β:Lb→Option Nat) (H:Hp):Kx:=⟨P,G,w,A,GR β H,0,H,β⟩
def eB (P:Program) (G:Nat→Option (List IV)) (f:Nat) (args:List AV) (H:Hp) (Q:AV→Hp→Prop):Prop:=
 ∀ (w : World) (A : Nat → Prop) (β : Lb → Option Nat) (vs : List Value),bj (gi P G w A β H) β Env.any H qY w → b8 w β H (Im (gi P G w A β H) β H) args vs →
   Calls P f vs.toArray w fun e w'=>∃v x H' β',e= .returned v∧Q x H'∧bj (gi P G w A β H) β' Env.any H' qY w' ∧
     RV w' β' H' (Im (gi P G w A β H) β' H') x v∧∀l∈x.aI,H' l≠ .unused
def az (P:Program) (G:Nat→Option (List IV)) (f:Nat) (args:List AV) (res:AV):Prop:=
 ax args=[]∧res.aI=[]∧eB P G f args Hp.none fun x _=>x=res
theorem eB.mono {P:Program} {G:Nat→Option (List IV)} {f:Nat} {args:List AV} {H:Hp} {Q Q':AV→Hp→Prop} (h:eB P G f args H Q) (hq:∀x H,Q x H→Q' x H):eB P G f args H Q':=
 fun w A β vs hr hv=>(h w A β vs hr hv).mono fun e w' ⟨v,x,H',β',h1,h2,h3⟩=>⟨v,x,H',β',h1,hq _ _ h2,h3⟩
def gW (g:Option (Nat×Bool)) (env:Env):Option Bool:=
 match g with
 |none=>some true
 |some (s,t)=>match env s with
  | .bool b=>some (b==t)
  | .un=>some false
  |_=>none
structure St where
 P:Program
 G:Nat→Option (List IV)
 N:Nat
mutual
def cG (ρ:Lb→Lb):AV→AV
 | .sl l sz i n=> .sl (ρ l) sz i n
 | .slk l sz i n c=> .slk (ρ l) sz i n c
 | .ptr l sz i j=> .ptr (ρ l) sz i j
 | .agg cs=> .agg (cn ρ cs)
 | .dU cs=> .dU (cn ρ cs)
 | .fn f fs cs=> .fn f (cn ρ fs) (cn ρ cs)
 | .ifc t x=> .ifc t (cG ρ x)
 |x=>x
def cn (ρ:Lb→Lb):List AV→List AV
 |[]=>[]
 |x::r=>cG ρ x::cn ρ r
end
def dB (ρ:Lb→Lb) (r:Row):Row:=⟨r.sz,r.els.map (cn ρ)⟩
structure Pass (S:St) (f:Nat) (args:List AV) (H:Hp) (k:AV→Hp→Prop):Prop where
 h:∃(ρ:Lb→Lb) (kA:Hp) (cO:List AV) (Q:AV→Hp→Prop),eB S.P S.G f cO kA Q∧args=cn ρ cO ∧
  (∀l r,kA l= .live r→H (ρ l)= .live (dB ρ r))∧(∀l,kA l≠ .unused→live kA l) ∧
  (∀l l',live kA l→live kA l'→ρ l=ρ l'→l=l')∧(∀l∈ax cO,kA l≠ .unused)∧(∀l,live kA l→l.fresh=false)∧(∀l r,kA l= .live r→∀cs∈r.els,∀q∈ax cs,kA q≠ .unused) ∧
  ∀x H',Q x H'→∃(ρ':Lb→Lb) (iy:Hp),(∀l,live kA l→live H' l→ρ' l=ρ l) ∧
   (∀q r,iy q= .live r→(H q= .live r∧∀l,live kA l→ρ l≠q)∨∃l r',H' l= .live r'∧ρ' l=q∧r=dB ρ' r') ∧
   (∀l l',live H' l→live H' l'→ρ' l=ρ' l'→l=l') ∧
   (∀q,H q≠ .unused→iy q≠ .unused)∧(∀l∈x.aI,iy (ρ' l)≠ .unused) ∧
   (∀l r',H' l= .live r'→∀cs∈r'.els,∀q∈ax cs,iy (ρ' q)≠ .unused) ∧
   (∀l,live H' l→live kA l∨(H (ρ' l)= .unused∧((ρ' l).fresh=true→l.fresh=true∨∀z,live kA z→(ρ z).fresh=true))) ∧
   (∀l,(l∈x.aI∨∃l1 r1 cs,H' l1= .live r1∧cs∈r1.els∧l∈ax cs)→live iy (ρ' l)→live H' l)∧k (cG ρ' x) iy
mutual
def AV.scalar:AV→Bool
 | .bool _| .int _ _| .str _| .kL| .jG=>true
 | .dU cs=>qu cs
 |_=>false
def qu:List AV→Bool
 |[]=>true
 |x::r=>x.scalar&&qu r
end
inductive uw (H:Hp):AV→AV→Prop where
 |same (x:AV):uw H x x
 |row (l:Lb) (sz i n:Nat) (xs:List IV):H l= .live ⟨sz,ay xs⟩→i+n≤xs.length→Flat xs→uw H (.sl l sz i n) (.list ((xs.drop i).take n))
structure N0 (S:St) (f:Nat) (args:List AV) (H:Hp) (k:AV→Hp→Prop):Prop where
 h:∃cO res,dP (uw H) args cO∧az S.P S.G f cO res∧res.scalar=true∧k res H
def l7 (S:St) (f:Nat) (args:List AV) (H:Hp) (k:AV→Hp→Prop):Prop:=
 (∃res,az S.P S.G f args res∧k res H)∨N0 S f args H k∨Pass S f args H k
def sI:AV→Option (List Bool)
 | .list []=>some [true,false]
 | .list (_::_)=>some [false]
 | .nil0=>some [true,false]
 | .sl _ _ _ n=>some (if 0<n then [false] else [true,false])
 | .slk _ _ _ n _=>some (if 0<n then [false] else [true,false])
 |_=>none
def mu (S:St) (f:Nat) (args:List AV) (H:Hp) (res:AV):Prop:=
 ∀(K:Kx) (β:Lb→Option Nat) (env:Env) (a:Act) (w:World) (vs:List Value),(⟨K.P,K.G,K.N⟩:St)=S→bj K β env H a w→b8 w β H (Im K β H) args vs →
  ∃v w',(callFunc f vs.toArray).run K.P w= .ok (.value v) w'∧mh w w'∧RV w' β H (Im K β H) res v∧∀l∈res.aI,H l≠ .unused
def bX (S:St) (d:Option Nat) (i:cV) (env:Env) (H:Hp) (k:AV→Hp→Prop):Prop:=
 match i with
 | .load m a=>(∃x,ae (.load m a) env=some x∧k x H)∨(∃x,bq m (ev env a) H=some x∧k x H)
 | .box x=>∃n,d=some n∧H (.loc n)= .unused∧(ev env x).ew=true∧0<(ev env x).cells.length∧(ev env x).cells.length≤maxLen ∧
  k (.ptr (.loc n) (ev env x).cells.length 0 0) (bG H (.loc n) (.live ⟨(ev env x).cells.length,[(ev env x).cells]⟩))
 | .new cs=>∃n,d=some n∧H (.loc n)= .unused∧0<cs.length∧cs.length≤maxLen∧k (.ptr (.loc n) cs.length 0 0) (bG H (.loc n) (.live ⟨cs.length,[cs]⟩))
 | .store m a x=>d=none∧∃H',a_ m (ev env a) (ev env x) H=some H'∧k .un H'
 | .app s x sz bytes=>∃n,d=some n∧∃y H',j8 sz bytes n (ev env s) (ev env x) H=some (y,H')∧k y H'
 | .call f args=>l7 S f (args.map (ev env)) H k
 | .j4 x args=>∃f first cap,ev env x= .fn f first cap∧j5 S.P f=true∧l7 S f (first++args.map (ev env)++cap) H k
 | .zZ n x=>∃bs,sI (ev env x)=some bs∧∀b∈bs,k (.bool (n ^^ b)) H
 | .cap x=>∃R,BJ (ev env x)=some R∧∀m,R m→m≤maxLen→k (.int .i64 (m:Int)) H
 | .o8 s x sz=>∃y H',uo sz (ev env s) (ev env x) H=some (y,H')∧k y H'
 | .vl x sz z=>∃H',uq sz z (ev env x) H=some H'∧k (.dU []) H'
 | .vt n c sz bytes z=>∃q,d=some q∧∃y H',ur sz bytes q z (ev env n) (ev env c) H=some (y,H')∧k y H'
 | .lZ f args=>∃res,mu S f (args.map (ev env)) H res∧k res H
 | .qK s n sz bytes z=>∃q,d=some q∧∃y H',s6 sz bytes q z (ev env s) (ev env n) H=some (y,H')∧k y H'
 | .ji sz z ps=>∃q,d=some q∧∃y H',uu sz q z (ps.map fun p=>(p.1,ev env p.2)) H=some (y,H')∧k y H'
 |i=>∃x,ae i env=some x∧k x H
def AO (S:St):List dn→Env→Hp→(Env→Hp→Prop)→Prop
 |[],env,H,k=>k env H
 |i::r,env,H,k=>(gW i.g env=some true∧(∀n,i.d=some n→n<S.N)∧bX S i.d i.i env H fun x H'=>AO S r (d_ env i.d x) H' k) ∨
  (gW i.g env=some false∧(∀n,i.d=some n→n<S.N)∧AO S r (d_ env i.d .un) H k)
def nB (P:Program) (G:Nat→Option (List IV)) (ops:Array Oper) (o:Oper):Option dn:=
 match o.guard with
 |none=>(comp P G o).map fun i=>⟨o.dst,none,i⟩
 |some (j,t)=>((ops[j]?).bind (·.dst)).bind fun s=>(comp P G o).map fun i=>⟨o.dst,some (s,t),i⟩
def cV.j9:cV→cV
 | .sF x=> .box x
 | .sG s x sz b=> .app s x sz b
 | .ji sz z ps=> .lits 1 sz z ps
 |i=>i
def dn.j9 (i:dn):dn:={i with i:=i.i.j9}
section
variable {K:Kx} {β:Lb→Option Nat} {env:Env} {H:Hp} {a:Act} {w:World}
mutual
theorem ux (ρ:Lb→Lb):∀x:AV,(cG ρ x).aI=x.aI.map ρ
 | .sl ..| .slk ..| .ptr ..| .any| .un| .bool _| .int ..| .str _| .list _| .nil0| .kL| .jG| .lptr _=>by simp[cG,AV.aI]
 | .agg cs=>by simp[cG,AV.aI,lh ρ cs]
 | .dU cs=>by simp[cG,AV.aI,lh ρ cs]
 | .fn f fs cs=>by simp[cG,AV.aI,lh ρ fs,lh ρ cs]
 | .ifc t x=>by simp[cG,AV.aI,ux ρ x]
theorem lh (ρ:Lb→Lb):∀xs:List AV,ax (cn ρ xs)=(ax xs).map ρ
 |[]=>by simp[cn,ax]
 |x::r=>by simp[cn,ax,ux ρ x,lh ρ r]
end
theorem oh (ρ:Lb→Lb):∀(xs:List AV) (i:Nat),(cn ρ xs)[i]?=xs[i]?.map (cG ρ)
 |[],i=>by simp[cn]
 |x::r,0=>by simp[cn]
 |x::r,i+1=>by simp[cn,oh ρ r i]
theorem oi (ρ:Lb→Lb):∀(xs:List AV),(cn ρ xs).length=xs.length
 |[]=>rfl
 |x::r=>by simp[cn,oi ρ r]
structure nR (w w':World) (β β':Lb→Option Nat) (H H':Hp) (I I':Nat→Prop) (ρ:Lb→Lb) (ls:List Lb):Prop extends jH w w' I I' where
 lb:∀l∈ls,live H' l→live H (ρ l)∧β' l=β (ρ l)∧∀g S,β (ρ l)=some g→lY w g=some S→lY w' g=some S
theorem nR.sub {w w':World} {β β':Lb→Option Nat} {H H':Hp} {I I':Nat→Prop} {ρ:Lb→Lb} {ls KE:List Lb} (h:nR w w' β β' H H' I I' ρ ls) (hs:∀l∈KE,l∈ls) :
 nR w w' β β' H H' I I' ρ KE:=⟨h.tojH,fun l hl=>h.lb l (hs l hl)⟩
mutual
theorem RV.cG {w w':World} {β β':Lb→Option Nat} {H H':Hp} {I I':Nat→Prop} {ρ:Lb→Lb}:∀(x:AV) (v:Value),nR w w' β β' H H' I I' ρ x.aI→RV w β H I (Am.cG ρ x) v→RV w' β' H' I' x v
 | .any,_,_,_=>by simp[RV]
 | .un,_,_,hv=>by simpa[RV,Am.cG] using hv
 | .bool _,_,_,hv=>by simpa[RV,Am.cG] using hv
 | .int _ _,_,_,hv=>by simpa[RV,Am.cG] using hv
 | .str _,_,_,hv=>by simpa[RV,Am.cG] using hv
 | .nil0,_,_,hv=>by simpa[RV,Am.cG] using hv
 | .kL,_,_,hv=>by simpa[RV,Am.cG] using hv
 | .jG,_,_,hv=>by simpa[RV,Am.cG] using hv
 | .list xs,v,h,hv=>by simp only[RV,Am.cG] at hv ⊢;exact ic.mono h.tojH _ _ hv
 | .agg cs,v,h,hv=>by
  simp only[RV,Am.cG] at hv ⊢;obtain⟨vs,rfl,h1⟩:=hv;exact⟨vs,rfl,b8.cG cs vs (by simpa[AV.aI] using h) h1⟩
 | .dU cs,v,h,hv=>by
  simp only[RV,Am.cG] at hv ⊢;obtain⟨vs,rfl,h1⟩:=hv;exact⟨vs,rfl,b8.cG cs vs (by simpa[AV.aI] using h) h1⟩
 | .slk l sz i n c,v,h,hv=>by
  simp only[RV,Am.cG] at hv ⊢;obtain⟨a,h1,h2,h3,h4,h5⟩:=hv;refine⟨a,h1,h2,h3,h4,fun hl=> ?_⟩;obtain⟨k1,k2,k3⟩:=h.lb l (by simp[AV.aI]) hl;rcases h5 k1 with h6|⟨g,S,e1,e2,e3,e4⟩
  ·exact .inl h6
  ·exact .inr ⟨g,S,k2.trans e1,e2,k3 g S e1 e3,e4⟩
 | .sl l sz i n,v,h,hv=>by
  simp only[RV,Am.cG] at hv ⊢;obtain⟨a,c,h1,h2,h3,h4,h5⟩:=hv;refine⟨a,c,h1,h2,h3,h4,fun hl=> ?_⟩;obtain⟨k1,k2,k3⟩:=h.lb l (by simp[AV.aI]) hl;rcases h5 k1 with h6|⟨g,S,e1,e2,e3,e4⟩
  ·exact .inl h6
  ·exact .inr ⟨g,S,k2.trans e1,e2,k3 g S e1 e3,e4⟩
 | .ptr l sz i j,v,h,hv=>by
  simp only[RV,Am.cG] at hv ⊢;obtain⟨a,h1,h2⟩:=hv;refine⟨a,h1,fun hl=> ?_⟩;obtain⟨k1,k2,k3⟩:=h.lb l (by simp[AV.aI]) hl;obtain⟨g,e1,e2⟩:=h2 k1;exact⟨g,k2.trans e1,e2⟩
 | .lptr cs,v,h,hv=>by
  simp only[RV,Am.cG] at hv ⊢;obtain⟨b,o,h1,h2,h3,h4⟩:=hv;obtain⟨k1,k2,_⟩:=h.im b h2 h3;exact⟨b,o,h1,k1,k2,ca.mono h.tojH cs b o h2 h3 h4⟩
 | .fn f fs cs,v,h,hv=>by
  simp only[RV,Am.cG] at hv ⊢;obtain⟨vs,us,rfl,h1,h2⟩:=hv;exact⟨vs,us,rfl,b8.cG fs vs (h.sub (by simp[AV.aI];intro l hl;exact .inl hl)) h1,b8.cG cs us (h.sub (by simp[AV.aI];intro l hl;exact .inr hl)) h2⟩
 | .ifc t x,v,h,hv=>by
  simp only[RV,Am.cG] at hv ⊢;obtain⟨u,rfl,h1⟩:=hv;exact⟨u,rfl,RV.cG x u (by simpa[AV.aI] using h) h1⟩
theorem b8.cG {w w':World} {β β':Lb→Option Nat} {H H':Hp} {I I':Nat→Prop} {ρ:Lb→Lb}:∀(xs:List AV) (vs:List Value),nR w w' β β' H H' I I' ρ (ax xs)→b8 w β H I (cn ρ xs) vs→b8 w' β' H' I' xs vs
 |[],_,_,hv=>by simpa[b8,cn] using hv
 |x::r,vs,h,hv=>by
  simp only[b8,cn] at hv ⊢;obtain⟨v,us,rfl,h1,h2⟩:=hv;exact⟨v,us,rfl,RV.cG x v (h.sub (by simp[ax];intro l hl;exact .inl hl)) h1,b8.cG r us (h.sub (by simp[ax];intro l hl;exact .inr hl)) h2⟩
end
mutual
theorem RV.sJ {w w':World} {β β':Lb→Option Nat} {H H':Hp} {I I':Nat→Prop} {ρ:Lb→Lb}:∀(x:AV) (v:Value),jH w w' I I' →
  (∀l∈x.aI,live H' (ρ l)→live H l∧β' (ρ l)=β l∧∀g S,β l=some g→lY w g=some S→lY w' g=some S)→RV w β H I x v→RV w' β' H' I' (Am.cG ρ x) v
 | .any,_,_,_,_=>by simp[RV,Am.cG]
 | .un,_,_,_,hv=>by simpa[RV,Am.cG] using hv
 | .bool _,_,_,_,hv=>by simpa[RV,Am.cG] using hv
 | .int _ _,_,_,_,hv=>by simpa[RV,Am.cG] using hv
 | .str _,_,_,_,hv=>by simpa[RV,Am.cG] using hv
 | .nil0,_,_,_,hv=>by simpa[RV,Am.cG] using hv
 | .kL,_,_,_,hv=>by simpa[RV,Am.cG] using hv
 | .jG,_,_,_,hv=>by simpa[RV,Am.cG] using hv
 | .list xs,v,h,_,hv=>by simp only[RV,Am.cG] at hv ⊢;exact ic.mono h _ _ hv
 | .agg cs,v,h,hl,hv=>by
  simp only[RV,Am.cG] at hv ⊢;obtain⟨vs,rfl,h1⟩:=hv;exact⟨vs,rfl,b8.sJ cs vs h (by simpa[AV.aI] using hl) h1⟩
 | .dU cs,v,h,hl,hv=>by
  simp only[RV,Am.cG] at hv ⊢;obtain⟨vs,rfl,h1⟩:=hv;exact⟨vs,rfl,b8.sJ cs vs h (by simpa[AV.aI] using hl) h1⟩
 | .slk l sz i n c,v,h,hl,hv=>by
  simp only[RV,Am.cG] at hv ⊢;obtain⟨a,h1,h2,h3,h4,h5⟩:=hv;refine⟨a,h1,h2,h3,h4,fun hq=> ?_⟩;obtain⟨k1,k2,k3⟩:=hl l (by simp[AV.aI]) hq;rcases h5 k1 with h6|⟨g,S,e1,e2,e3,e4⟩
  ·exact .inl h6
  ·exact .inr ⟨g,S,k2.trans e1,e2,k3 g S e1 e3,e4⟩
 | .sl l sz i n,v,h,hl,hv=>by
  simp only[RV,Am.cG] at hv ⊢;obtain⟨a,c,h1,h2,h3,h4,h5⟩:=hv;refine⟨a,c,h1,h2,h3,h4,fun hq=> ?_⟩;obtain⟨k1,k2,k3⟩:=hl l (by simp[AV.aI]) hq;rcases h5 k1 with h6|⟨g,S,e1,e2,e3,e4⟩
  ·exact .inl h6
  ·exact .inr ⟨g,S,k2.trans e1,e2,k3 g S e1 e3,e4⟩
 | .ptr l sz i j,v,h,hl,hv=>by
  simp only[RV,Am.cG] at hv ⊢;obtain⟨a,h1,h2⟩:=hv;refine⟨a,h1,fun hq=> ?_⟩;obtain⟨k1,k2,k3⟩:=hl l (by simp[AV.aI]) hq;obtain⟨g,e1,e2⟩:=h2 k1;exact⟨g,k2.trans e1,e2⟩
 | .lptr cs,v,h,_,hv=>by
  simp only[RV,Am.cG] at hv ⊢;obtain⟨b,o,h1,h2,h3,h4⟩:=hv;obtain⟨k1,k2,_⟩:=h.im b h2 h3;exact⟨b,o,h1,k1,k2,ca.mono h cs b o h2 h3 h4⟩
 | .fn f fs cs,v,h,hl,hv=>by
  simp only[RV,Am.cG] at hv ⊢;obtain⟨vs,us,rfl,h1,h2⟩:=hv;exact⟨vs,us,rfl,b8.sJ fs vs h (fun l q=>hl l (by simp[AV.aI,q])) h1,b8.sJ cs us h (fun l q=>hl l (by simp[AV.aI,q])) h2⟩
 | .ifc t x,v,h,hl,hv=>by
  simp only[RV,Am.cG] at hv ⊢;obtain⟨u,rfl,h1⟩:=hv;exact⟨u,rfl,RV.sJ x u h (by simpa[AV.aI] using hl) h1⟩
theorem b8.sJ {w w':World} {β β':Lb→Option Nat} {H H':Hp} {I I':Nat→Prop} {ρ:Lb→Lb}:∀(xs:List AV) (vs:List Value),jH w w' I I' →
  (∀l∈ax xs,live H' (ρ l)→live H l∧β' (ρ l)=β l∧∀g S,β l=some g→lY w g=some S→lY w' g=some S)→b8 w β H I xs vs→b8 w' β' H' I' (cn ρ xs) vs
 |[],_,_,_,hv=>by simpa[b8,cn] using hv
 |x::r,vs,h,hl,hv=>by
  simp only[b8,cn] at hv ⊢;obtain⟨v,us,rfl,h1,h2⟩:=hv;exact⟨v,us,rfl,RV.sJ x v h (fun l q=>hl l (by simp[ax,q])) h1,b8.sJ r us h (fun l q=>hl l (by simp[ax,q])) h2⟩
end
theorem bj.qn (hr:bj K β env H a w) (ρ:Lb→Lb) {env2:Env} {H2:Hp} (hE:∀n,env2 n= .any∨env n=cG ρ (env2 n)) (hH:∀l r,H2 l= .live r→H (ρ l)= .live (dB ρ r))
   (Ii:∀l l',live H2 l→live H2 l'→ρ l=ρ l'→l=l') (hm:∀n,∀l∈(env2 n).aI,H2 l≠ .unused) (N1:∀l r,H2 l= .live r→∀cs∈r.els,∀q∈ax cs,H2 q≠ .unused)
   (mS:∀l,live K.H0 l→H2 l≠ .unused∧(live H2 l→ρ l=l)) (Nj:∀l,live H2 l→l.fresh=true→(ρ l).fresh=true):bj K (fun l=>β (ρ l)) env2 H2 a w:=by
 have bz:∀l,live H2 l→live H (ρ l):=fun l ⟨r,h⟩=>⟨_,hH l r h⟩
 have eM:∀ls,nR w w β (fun l=>β (ρ l)) H H2 (Im K β H) (Im K (fun l=>β (ρ l)) H2) ρ ls:=fun ls=>
   { im := fun k hk hs => ⟨⟨hk.1,fun l hl => hk.2 (ρ l) (bz l hl)⟩,hs,rfl⟩
     lb:=fun l _ hl=>⟨bz l hl,rfl,fun _ _ _ h=>h⟩}
 refine⟨hr.defers,hr.size,?_,?_,fun l g hl hb=>hr.own (ρ l) g (bz l hl) hb,fun l l' g h1 h2 g1 g2=>Ii l l' h1 h2 (hr.inj _ _ g (bz l h1) (bz l' h2) g1 g2),hm,N1,hr.frame,?_,?_,fun l g hl hf hb=>hr.fr (ρ l) g (bz l hl) (Nj l hl hf) hb⟩
 · intro n
   rcases hE n with h|h
   · rw[h];simp[RV]
   · exact RV.cG _ _ (eM _) (by rw[←h];exact hr.jj n)
 · intro l r h
   obtain⟨h1,h2,h3⟩:=hr.rows (ρ l) _ (hH l r h)
   refine⟨h1,fun cs b5=> ?_,?_⟩
   · have:=h2 (cn ρ cs) (List.mem_map_of_mem b5)
     rwa[oi] at this
   · cases hb:β (ρ l) with
     |none=>simp only[hb] at h3 ⊢;simpa[dB] using h3
     |some g=>
       simp only[hb] at h3 ⊢
       obtain⟨cur,e,cap,e1,e2,e3,e4,e5⟩:=h3
       refine⟨cur,e,cap,e1,e2,e3,by simpa[dB] using e4,fun i j cs x hi hj=> ?_⟩
       obtain⟨v,k1,k2⟩:=e5 i j (cn ρ cs) (cG ρ x) (by simp[dB,hi]) (by rw[oh,hj];rfl)
       exact⟨v,k1,RV.cG _ _ (eM _) k2⟩
 · intro g cs hg
   obtain⟨h1,h2,h3⟩:=hr.jI g cs hg
   exact⟨((eM []).im g h1 h2).1,h2,ca.mono (eM []).tojH cs g 0 h1 h2 h3⟩
 · intro l hl
   obtain⟨h1,h2⟩:=mS l hl
   refine⟨h1,fun h=> ?_⟩
   have e:=h2 h
   simp only[e]
   exact(hr.jJ l hl).2 (e▸bz l h)
theorem s8 (hr:bj K β env H a w) {f:Nat} {args:List AV} {vs:List Value} {res:AV} (hp:az K.P K.G f args res) (hv:b8 w β H (Im K β H) args vs)
   (PO:True):Calls K.P f vs.toArray w fun e w'=>∃v,e= .returned v∧mh w w'∧RV w' β H (Im K β H) res v:=by
 obtain⟨h1,h2,h3⟩:=hp
 have nO:bj (gi K.P K.G w (Im K β H) β Hp.none) β Env.any Hp.none qY w:=
   { defers := rfl,size := rfl
     jj:=fun n=>by simp[Env.any,RV]
     rows:=fun l r h=>by simp[Hp.none] at h
     own:=fun l g ⟨r,h⟩=>by simp[Hp.none] at h
     inj:=fun l l' g ⟨r,h⟩=>by simp[Hp.none] at h
     gO:=fun n=>by simp[Env.any,AV.aI]
     dA:=fun l r h=>by simp[Hp.none] at h
     frame:=⟨rfl,rfl,rfl,Nat.le_refl _,fun _ _ _=>rfl,fun _ _ h=>h⟩
     jJ:=fun l ⟨r,h⟩=>by simp[gi,Hp.none] at h
     fr:=fun l g ⟨r,h⟩=>by simp[Hp.none] at h
     jI:=fun g cs hg=>by
       obtain⟨k1,k2,k3⟩:=hr.jI g cs hg
       have kp:jH w w (Im K β H) (Im (gi K.P K.G w (Im K β H) β Hp.none) β Hp.none):=⟨fun k hk hs=>⟨⟨.inl hk,fun l ⟨r,h⟩=>by simp[Hp.none] at h⟩,hs,rfl⟩⟩
       exact⟨(kp.im g k1 k2).1,k2,ca.mono kp cs g 0 k1 k2 k3⟩}
 have kp:g_ w w β β H Hp.none (Im K β H) (Im (gi K.P K.G w (Im K β H) β Hp.none) β Hp.none) (ax args):=
   { im := fun k hk hs => ⟨⟨.inl hk,fun l ⟨r,h⟩ => by simp [Hp.none] at h⟩,hs,rfl⟩
     lb:=fun l hl=>by rw[h1] at hl;simp at hl}
 refine(h3 w (Im K β H) β vs nO (b8.mono _ _ kp hv)).mono ?_
 rintro e w' ⟨v,x,H',β',rfl,rfl,k1,k2,_⟩
 have gw:mh w w':=by
   refine⟨k1.frame.os,k1.frame.tape,k1.frame.output,k1.frame.size,fun k hk=>k1.frame.block k hk ?_⟩
   rintro⟨l,⟨r,h⟩,_⟩
   simp[Hp.none] at h
 refine⟨v,rfl,gw,RV.mono _ _ ?_ k2⟩
 refine {im:=fun k hk hs=>⟨?_,hs,rfl⟩,lb:=fun l hl=>by rw[h2] at hl;simp at hl}
 rcases hk.1 with h|h
 · exact h
 · refine⟨.inr (Nat.le_trans hr.frame.size h),fun l hl hb=> ?_⟩
   have:=hr.pa hl hb
   have h':w.heap.size≤k:=h
   omega
mutual
theorem RV.scalar {w w':World} {β β':Lb→Option Nat} {H H':Hp} {I I':Nat→Prop}:∀(x:AV) (v:Value),x.scalar=true→RV w β H I x v→RV w' β' H' I' x v
 | .bool _,_,_,h| .int _ _,_,_,h| .str _,_,_,h| .kL,_,_,h| .jG,_,_,h=>by simpa[RV] using h
 | .dU cs,v,hs,h=>by
  simp only[RV] at h ⊢;obtain⟨vs,h1,h2⟩:=h;exact⟨vs,h1,b8.scalar cs vs (by simpa[AV.scalar] using hs) h2⟩
 | .any,_,hs,_| .un,_,hs,_| .list _,_,hs,_| .nil0,_,hs,_| .agg _,_,hs,_| .sl ..,_,hs,_| .slk ..,_,hs,_| .ptr ..,_,hs,_| .lptr _,_,hs,_| .fn ..,_,hs,_| .ifc ..,_,hs,_=>by simp[AV.scalar] at hs
theorem b8.scalar {w w':World} {β β':Lb→Option Nat} {H H':Hp} {I I':Nat→Prop}:∀(xs:List AV) (vs:List Value),qu xs=true→b8 w β H I xs vs→b8 w' β' H' I' xs vs
 |[],_,_,h=>by simpa[b8] using h
 |x::r,vs,hs,h=>by
  simp only[qu,Bool.and_eq_true] at hs;simp only[b8] at h ⊢;obtain⟨v,us,h1,h2,h3⟩:=h;exact⟨v,us,h1,RV.scalar x v hs.1 h2,b8.scalar r us hs.2 h3⟩
end
theorem vE (hr : bj K β env H a w) {I : Nat → Prop} (hI : ∀ k,Im K β H k → I k) (hB : ∀ l g,live H l → β l = some g → I g) : ∀ (args cO : List AV) (vs : List Value),dP (uw H) args cO → ax cO = [] → b8 w β H (Im K β H) args vs → b8 w β Hp.none I cO vs
 |_,_,vs,.nil,_,hv=>by simpa[b8] using hv
 |_,_,vs,@dP.cons _ _ _ x y args cO xE ht,hl,hv=>by
   simp only[ax,List.append_eq_nil_iff] at hl
   simp only[b8] at hv ⊢
   obtain⟨v,us,h1,h2,h3⟩:=hv
   refine⟨v,us,h1,?_,vE hr hI hB _ _ us ht hl.2 h3⟩
   have hk:jH w w (Im K β H) I:=⟨fun k hk hs=>⟨hI k hk,hs,rfl⟩⟩
   cases xE with
   |same=>
     exact RV.mono x v {im:=hk.im,lb:=fun l hq=>by rw[hl.1] at hq;simp at hq} h2
   |row l sz i n xs hH mn vD=>
     simp only[RV] at h2
     obtain⟨ad,c,rfl,g2,g3,g4,g5⟩:=h2
     simp only[RV,ic]
     have hlen:((xs.drop i).take n).length=n:=by simp;omega
     rw[hlen]
     refine⟨ad,c,rfl,g2,g3,?_⟩
     by_cases hn:n=0
     · exact .inl hn
     · right
       rcases g5 ⟨_,hH⟩ with h6|⟨g,Sz,e1,e2,e3,e4⟩
       · omega
       · obtain⟨cur,e0,cap,k1,k2,k3,k4,k5⟩:=(hr.rows l _ hH).block e1
         have k8:0<sz:=(hr.rows l _ hH).1
         refine⟨g,i*sz,sz,e2,hB l g ⟨_,hH⟩ e1,(Array.getElem?_eq_some_iff.1 k1).1,k8,lf _ _ _ (fun k y hy=> ?_)⟩
         have nS:xs[i+k]?=some y:=by
           rw[List.getElem?_take] at hy
           split at hy
           · rwa[List.getElem?_drop] at hy
           · simp at hy
         rw[gx]
         have xB:y.cells.length=sz:=by
           have:=(hr.rows l _ hH).2.1 (y.cells.map IV.cW) (by
             simp only[ay]
             exact List.mem_map_of_mem (f:=fun y:IV=>y.cells.map IV.cW) (List.mem_of_getElem? nS))
           simpa using this
         refine⟨xB.symm,jU _ _ _ (fun j z hz=> ?_)⟩
         obtain⟨u,q1,q2⟩:=k5 (i+k) j (y.cells.map IV.cW) z.cW (by simp[ay,nS]) (by simp[hz])
         refine⟨u,?_,uv hk (vD y (List.mem_of_getElem? nS) z (List.mem_of_getElem? hz)) q2⟩
         rw[cell_of_row w g _ cur e0 (0,0) k1,←q1]
         congr 1
         rw[Nat.add_mul]
theorem Ag (hr:bj K β env H a w) {f:Nat} {args cO:List AV} {vs:List Value} {res:AV} (ha:dP (uw H) args cO) (hp:az K.P K.G f cO res) (sK:res.scalar=true) (hv:b8 w β H (Im K β H) args vs) :
   Calls K.P f vs.toArray w fun e w'=>∃v,e= .returned v∧mh w w'∧RV w' β H (Im K β H) res v:=by
 obtain⟨h1,h2,h3⟩:=hp
 obtain⟨A,hA⟩:∃A:Nat→Prop,A=fun k=>Im K β H k∨∃l,live H l∧β l=some k:=⟨_,rfl⟩
 have N2:∀k,A k→Im (gi K.P K.G w A β Hp.none) β Hp.none k:=fun k hk=>⟨.inl hk,fun l ⟨r,h⟩=>by simp[Hp.none] at h⟩
 have nO:bj (gi K.P K.G w A β Hp.none) β Env.any Hp.none qY w:=
   { defers := rfl,size := rfl
     jj:=fun n=>by simp[Env.any,RV]
     rows:=fun l r h=>by simp[Hp.none] at h
     own:=fun l g ⟨r,h⟩=>by simp[Hp.none] at h
     inj:=fun l l' g ⟨r,h⟩=>by simp[Hp.none] at h
     gO:=fun n=>by simp[Env.any,AV.aI]
     dA:=fun l r h=>by simp[Hp.none] at h
     frame:=⟨rfl,rfl,rfl,Nat.le_refl _,fun _ _ _=>rfl,fun _ _ h=>h⟩
     jJ:=fun l ⟨r,h⟩=>by simp[gi,Hp.none] at h
     fr:=fun l g ⟨r,h⟩=>by simp[Hp.none] at h
     jI:=fun g cs hg=>by
       obtain⟨k1,k2,k3⟩:=hr.jI g cs hg
       have kp:jH w w (Im K β H) (Im (gi K.P K.G w A β Hp.none) β Hp.none):=⟨fun k hk hs=>⟨N2 k (by rw[hA];exact .inl hk),hs,rfl⟩⟩
       exact⟨(kp.im g k1 k2).1,k2,ca.mono kp cs g 0 k1 k2 k3⟩}
 have QR:=vE hr (I:=Im (gi K.P K.G w A β Hp.none) β Hp.none) (fun k hk=>N2 k (by rw[hA];exact .inl hk)) (fun l g hl hg=>N2 g (by rw[hA];exact .inr ⟨l,hl,hg⟩)) args cO vs ha h1 hv
 refine(h3 w A β vs nO QR).mono ?_
 rintro e w' ⟨v,x,H',β',rfl,rfl,k1,k2,_⟩
 have gw:mh w w':=by
   refine⟨k1.frame.os,k1.frame.tape,k1.frame.output,k1.frame.size,fun k hk=>k1.frame.block k hk ?_⟩
   rintro⟨l,⟨r,h⟩,_⟩
   simp[Hp.none] at h
 exact⟨v,rfl,gw,RV.scalar _ _ sK k2⟩
open Classical in
theorem Ah (hr:bj K β env H a w) {f:Nat} {cO:List AV} {vs:List Value} {kA:Hp} {Q:AV→Hp→Prop} {ρ:Lb→Lb} (hs:eB K.P K.G f cO kA Q)
   (hH:∀l r,kA l= .live r→H (ρ l)= .live (dB ρ r)) (Sm:∀l,kA l≠ .unused→live kA l)
   (Ii:∀l l',live kA l→live kA l'→ρ l=ρ l'→l=l') (vm:∀l∈ax cO,kA l≠ .unused) (PQ:∀l,live kA l→l.fresh=false) (N1:∀l r,kA l= .live r→∀cs∈r.els,∀q∈ax cs,kA q≠ .unused)
   (hv:b8 w β H (Im K β H) (cn ρ cO) vs):Calls K.P f vs.toArray w fun e w'=>∃v x H',e= .returned v∧Q x H' ∧
     ∀(ρ':Lb→Lb) (iy:Hp),(∀l,live kA l→live H' l→ρ' l=ρ l) →
     (∀q r,iy q= .live r→(H q= .live r∧∀l,live kA l→ρ l≠q)∨∃l r',H' l= .live r'∧ρ' l=q∧r=dB ρ' r') →
     (∀l l',live H' l→live H' l'→ρ' l=ρ' l'→l=l') →
     (∀q,H q≠ .unused→iy q≠ .unused)→(∀l∈x.aI,iy (ρ' l)≠ .unused) →
     (∀l r',H' l= .live r'→∀cs∈r'.els,∀q∈ax cs,iy (ρ' q)≠ .unused) →
     (∀l,live H' l→live kA l∨(H (ρ' l)= .unused∧((ρ' l).fresh=true→l.fresh=true∨∀z,live kA z→(ρ z).fresh=true))) →
     (∀l,(l∈x.aI∨∃l1 r1 cs,H' l1= .live r1∧cs∈r1.els∧l∈ax cs)→live iy (ρ' l)→live H' l) →
     ∃mv,bj K mv env iy a w'∧RV w' mv iy (Im K mv iy) (cG ρ' x) v:=by
 have bz:∀l,live kA l→live H (ρ l):=fun l ⟨r,h⟩=>⟨_,hH l r h⟩
 have Nk:∀ls,nR w w β (fun l=>β (ρ l)) H kA (Im K β H) (Im (gi K.P K.G w (Im K β H) (fun l=>β (ρ l)) kA) (fun l=>β (ρ l)) kA) ρ ls:=fun ls=>
   { im := fun k hk hs => ⟨⟨.inl hk,fun l hl => hk.2 (ρ l) (bz l hl)⟩,hs,rfl⟩
     lb:=fun l _ hl=>⟨bz l hl,rfl,fun _ _ _ h=>h⟩}
 have nO:bj (gi K.P K.G w (Im K β H) (fun l=>β (ρ l)) kA) (fun l=>β (ρ l)) Env.any kA qY w:=
   { defers := rfl,size := rfl
     jj:=fun n=>by simp[Env.any,RV]
     rows:=fun l r h=>by
       obtain⟨h1,h2,h3⟩:=hr.rows (ρ l) _ (hH l r h)
       refine⟨h1,fun cs b5=> ?_,?_⟩
       · have:=h2 (cn ρ cs) (List.mem_map_of_mem b5)
         rwa[oi] at this
       · cases hb:β (ρ l) with
         |none=>simp only[hb] at h3 ⊢;simpa[dB] using h3
         |some g=>
           simp only[hb] at h3 ⊢
           obtain⟨cur,e,cap,e1,e2,e3,e4,e5⟩:=h3
           refine⟨cur,e,cap,e1,e2,e3,by simpa[dB] using e4,fun i j cs x hi hj=> ?_⟩
           obtain⟨v,k1,k2⟩:=e5 i j (cn ρ cs) (cG ρ x) (by simp[dB,hi]) (by rw[oh,hj];rfl)
           exact⟨v,k1,RV.cG _ _ (Nk _) k2⟩
     own:=fun l g hl hb=> .inl ⟨l,hl,hb⟩
     inj:=fun l l' g h1 h2 g1 g2=>Ii l l' h1 h2 (hr.inj _ _ g (bz l h1) (bz l' h2) g1 g2)
     gO:=fun n=>by simp[Env.any,AV.aI]
     dA:=N1
     frame:=⟨rfl,rfl,rfl,Nat.le_refl _,fun _ _ _=>rfl,fun _ _ h=>h⟩
     jI:=fun g cs hg=>by
       obtain⟨k1,k2,k3⟩:=hr.jI g cs hg
       exact⟨((Nk []).im g k1 k2).1,k2,ca.mono (Nk []).tojH cs g 0 k1 k2 k3⟩
     jJ:=fun l hl=>⟨by obtain⟨r,h⟩:=hl;simp only[gi] at h;simp[h],fun _=>rfl⟩
     fr:=fun l g hl hf=>by rw[PQ l hl] at hf;cases hf}
 refine(hs w (Im K β H) (fun l=>β (ρ l)) vs nO (b8.cG _ _ (Nk _) hv)).mono ?_
 rintro e w' ⟨v,x,H',β',rfl,hq,hc,Bm,N3⟩
 refine⟨v,x,H',rfl,hq,?_⟩
 intro ρ' iy p1 p2 p3 p4 p5 p6 p7 p8
 let mv:Lb→Option Nat:=fun q=>if h:∃l,live H' l∧ρ' l=q then β' (Classical.choose h) else β q
 have Le:∀l,live H' l→mv (ρ' l)=β' l:=by
   intro l hl
   have h:∃l',live H' l'∧ρ' l'=ρ' l:=⟨l,hl,rfl⟩
   have b5:=Classical.choose_spec h
   have e:Classical.choose h=l:=p3 _ _ b5.1 hl b5.2
   show(if h:∃l',live H' l'∧ρ' l'=ρ' l then β' (Classical.choose h) else β (ρ' l))=β' l
   rw[dif_pos h,e]
 have Ng:∀q,live H q→(∀l,live kA l→ρ l≠q)→mv q=β q:=by
   intro q pP qv
   have h:¬∃l,live H' l∧ρ' l=q:=by
     rintro⟨l,hl,rfl⟩
     rcases p7 l hl with h|⟨h,_⟩
     · exact qv l h (p1 l h hl).symm
     · obtain⟨r,h'⟩:=pP;rw[h] at h';cases h'
   show(if h:∃l,live H' l∧ρ' l=q then β' (Classical.choose h) else β q)=β q
   rw[dif_neg h]
 have uy:∀q,live iy q→(live H q∧(∀l,live kA l→ρ l≠q)∧mv q=β q)∨∃l,live H' l∧ρ' l=q∧mv q=β' l:=by
   rintro q ⟨r,h⟩
   rcases p2 q r h with⟨h1,h2⟩|⟨l,r',h1,rfl,_⟩
   · exact .inl ⟨⟨r,h1⟩,h2,Ng q ⟨r,h1⟩ h2⟩
   · exact .inr ⟨l,⟨r',h1⟩,rfl,Le l ⟨r',h1⟩⟩
 have vF:∀l g,live H' l→β' l=some g→(∃l0,live kA l0∧β (ρ l0)=some g)∨w.heap.size≤g:=by
   intro l g hl hg
   rcases hc.own l g hl hg with h|h
   · exact .inl h
   · exact .inr h
 have GS:∀l,live kA l→live H' l→β' l=β (ρ l):=fun l h1 h2=>(hc.jJ l h1).2 h2
 have dM:∀k,k<w.heap.size→(∀l,live kA l→β (ρ l)≠some k)→w'.heap[k]?=w.heap[k]?:=by
   intro k hk qv
   refine hc.frame.block k hk ?_
   rintro⟨l,hl,hb⟩
   exact qv l hl hb
 have GI:∀k,Im K β H k→k<w.heap.size→Im K mv iy k∧k<w'.heap.size∧w'.heap[k]?=w.heap[k]?:=by
   intro k hk z'
   refine⟨⟨hk.1,fun q pP hb=> ?_⟩,Nat.lt_of_lt_of_le z' hc.frame.size,dM k z' (fun l hl=>hk.2 _ (bz l hl))⟩
   rcases uy q pP with⟨h1,h2,h3⟩|⟨l,h1,h2,h3⟩
   · rw[h3] at hb;exact hk.2 q h1 hb
   · rw[h3] at hb
     rcases vF l k h1 hb with⟨l0,h4,h5⟩|h4
     · exact hk.2 _ (bz l0 h4) h5
     · omega
 have Lm:∀q,H q≠ .unused→live iy q→live H q∧mv q=β q∧∀g S,β q=some g→lY w g=some S→lY w' g=some S:=by
   intro q hu pP
   refine⟨?_,?_,fun g S _ h=>hc.frame.bs g S h⟩
   · rcases uy q pP with⟨h1,h2,h3⟩|⟨l,h1,h2,h3⟩
     · exact h1
     · rcases p7 l h1 with h|⟨h,_⟩
       · have e:=p1 l h h1;rw[←h2,e];exact bz l h
       · rw[h2] at h;exact absurd h hu
   · rcases uy q pP with⟨h1,h2,h3⟩|⟨l,h1,h2,h3⟩
     · exact h3
     · rcases p7 l h1 with h|⟨h,_⟩
       · rw[h3,GS l h h1,←h2,p1 l h h1]
       · rw[h2] at h;exact absurd h hu
 have eM:∀ls,(∀q∈ls,H q≠ .unused)→g_ w w' β mv H iy (Im K β H) (Im K mv iy) ls:=fun ls nr=>
   {im:=GI,lb:=fun q GU Ai=>Lm q (nr q GU) Ai}
 have Ln:jH w' w' (Im (gi K.P K.G w (Im K β H) (fun l=>β (ρ l)) kA) β' H') (Im K mv iy):=⟨by
   intro k hk z'
   refine⟨⟨?_,fun q pP hb=> ?_⟩,z',rfl⟩
   · rcases hk.1 with h|h
     · exact h.1
     · exact .inr (Nat.le_trans hr.frame.size h)
   · rcases uy q pP with⟨h1,h2,h3⟩|⟨l,h1,h2,h3⟩
     · rw[h3] at hb
       rcases hk.1 with h|h
       · exact h.2 q h1 hb
       · have:=hr.pa h1 hb
         have h':w.heap.size≤k:=h
         omega
     · rw[h3] at hb
       exact hk.2 l h1 hb⟩
 have xB:∀l,(l∈x.aI∨∃l1 r1 cs,H' l1= .live r1∧cs∈r1.els∧l∈ax cs)→live iy (ρ' l)→live H' l∧mv (ρ' l)=β' l∧∀g S,β' l=some g→lY w' g=some S→lY w' g=some S:=by
   intro l h1 h2
   have h3:=p8 l h1 h2
   exact⟨h3,Le l h3,fun _ _ _ h=>h⟩
 refine⟨mv,⟨hr.defers,hr.size,fun n=>RV.mono _ _ (eM _ (hr.gO n)) (hr.jj n),?_,?_,?_,fun n q pP=>p4 q (hr.gO n q pP),?_,?_,?_,?_,?_⟩,RV.sJ x v Ln (fun l hl=>xB l (.inl hl)) Bm⟩
 · intro q r N4
   rcases p2 q r N4 with⟨h1,h2⟩|⟨l,r',h1,rfl,rfl⟩
   · obtain⟨e1,e2,e3⟩:=hr.rows q r h1
     refine⟨e1,e2,?_⟩
     rw[Ng q ⟨r,h1⟩ h2]
     cases hb:β q with
     |none=>simpa only[hb] using e3
     |some g=>
       simp only[hb] at e3 ⊢
       obtain⟨cur,e,cap,f1,f2,f3,f4,f5⟩:=e3
       have hg:g<w.heap.size:=(Array.getElem?_eq_some_iff.1 f1).1
       refine⟨cur,e,cap,(dM g hg (fun l hl PR=>h2 l hl (hr.inj _ _ g (bz l hl) ⟨r,h1⟩ PR hb))).trans f1,f2,f3,f4,fun i j cs y hi hj=> ?_⟩
       obtain⟨u,k1,k2⟩:=f5 i j cs y hi hj
       exact⟨u,k1,RV.mono _ _ (eM _ (fun p hp=>hr.dA q r h1 cs (List.mem_of_getElem? hi) p (dI _ _ _ hj p hp))) k2⟩
   · obtain⟨e1,e2,e3⟩:=hc.rows l r' h1
     refine⟨e1,?_,?_⟩
     · intro cs b5
       simp only[dB,List.mem_map] at b5
       obtain⟨BL,h0,rfl⟩:=b5
       rw[oi];exact e2 BL h0
     · rw[Le l ⟨r',h1⟩]
       cases hb:β' l with
       |none=>simp only[hb] at e3;simp[dB,e3]
       |some g=>
         simp only[hb] at e3 ⊢
         obtain⟨cur,e,cap,f1,f2,f3,f4,f5⟩:=e3
         refine⟨cur,e,cap,f1,f2,f3,by simpa[dB] using f4,fun i j cs y hi hj=> ?_⟩
         simp only[dB,List.getElem?_map,Option.map_eq_some_iff] at hi
         obtain⟨BL,hi,rfl⟩:=hi
         rw[oh,Option.map_eq_some_iff] at hj
         obtain⟨y0,hj,rfl⟩:=hj
         obtain⟨u,k1,k2⟩:=f5 i j BL y0 hi hj
         exact⟨u,k1,RV.sJ _ _ Ln (fun p hp=>xB p (.inr ⟨l,r',BL,h1,List.mem_of_getElem? hi,dI _ _ _ hj p hp⟩)) k2⟩
 · intro q g pP hb
   rcases uy q pP with⟨h1,h2,h3⟩|⟨l,h1,h2,h3⟩
   · rw[h3] at hb;exact hr.own q g h1 hb
   · rw[h3] at hb
     rcases vF l g h1 hb with⟨l0,h4,h5⟩|h4
     · exact hr.own _ g (bz l0 h4) h5
     · exact .inr (Nat.le_trans hr.frame.size h4)
 · intro q1 q2 g GU Ai g1 g2
   rcases uy q1 GU with⟨h1,h2,h3⟩|⟨l,h1,h2,h3⟩
   · rw[h3] at g1
     rcases uy q2 Ai with⟨k1,k2,k3⟩|⟨l',k1,k2,k3⟩
     · rw[k3] at g2;exact hr.inj q1 q2 g h1 k1 g1 g2
     · rw[k3] at g2
       rcases vF l' g k1 g2 with⟨l0,h4,h5⟩|h4
       · exact absurd (hr.inj _ _ g (bz l0 h4) h1 h5 g1) (h2 l0 h4)
       · have:=hr.pa h1 g1;omega
   · rw[h3] at g1
     rcases uy q2 Ai with⟨k1,k2,k3⟩|⟨l',k1,k2,k3⟩
     · rw[k3] at g2
       rcases vF l g h1 g1 with⟨l0,h4,h5⟩|h4
       · exact absurd (hr.inj _ _ g (bz l0 h4) k1 h5 g2) (k2 l0 h4)
       · have:=hr.pa k1 g2;omega
     · rw[k3] at g2
       rw[←h2,←k2,hc.inj l l' g h1 k1 g1 g2]
 · intro q r N4 cs b5 p hp
   rcases p2 q r N4 with⟨h1,h2⟩|⟨l,r',h1,rfl,rfl⟩
   · exact p4 p (hr.dA q r h1 cs b5 p hp)
   · simp only[dB,List.mem_map] at b5
     obtain⟨BL,h0,rfl⟩:=b5
     rw[lh,List.mem_map] at hp
     obtain⟨p0,QS,rfl⟩:=hp
     exact p6 l r' h1 BL h0 p0 QS
 · refine⟨hc.frame.os.trans hr.frame.os,hc.frame.tape.trans hr.frame.tape,hc.frame.output.trans hr.frame.output,Nat.le_trans hr.frame.size hc.frame.size,fun k hk hd=> ?_,fun k S hS=>hc.frame.bs k S (hr.frame.bs k S hS)⟩
   refine(dM k (Nat.lt_of_lt_of_le hk hr.frame.size) (fun l hl hb=> ?_)).trans (hr.frame.block k hk hd)
   rcases hr.own _ k (bz l hl) hb with h|h
   · exact hd h
   · omega
 · intro g cs hg
   obtain⟨h1,h2,h3⟩:=hr.jI g cs hg
   obtain⟨k1,k2,k3⟩:=GI g h1 h2
   exact⟨k1,k2,ca.mono (eM [] (by simp)).tojH cs g 0 h1 h2 h3⟩
 · intro l hl
   obtain⟨h1,h2⟩:=hr.jJ l hl
   refine⟨p4 l h1,fun h=> ?_⟩
   obtain⟨k1,k2,_⟩:=Lm l h1 h
   rw[k2];exact h2 k1
 · intro q g pP hf hb
   rcases uy q pP with⟨h1,h2,h3⟩|⟨l,h1,h2,h3⟩
   · rw[h3] at hb;exact hr.fr q g h1 hf hb
   · rw[h3] at hb
     rcases p7 l h1 with h|⟨h,h'⟩
     · rw[GS l h h1] at hb
       have e:ρ l=q:=by rw[←h2,p1 l h h1]
       rw[e] at hb
       exact hr.fr q g (e▸bz l h) hf hb
     · rcases h' (by rw[h2];exact hf) with N5|N5
       · exact Nat.le_trans hr.frame.size (hc.fr l g h1 N5 hb)
       · rcases vF l g h1 hb with⟨l0,h4,h5⟩|h4
         · exact hr.fr _ g (bz l0 h4) (N5 l0 h4) h5
         · exact Nat.le_trans hr.frame.size h4
end
end Go.Am

/- THE ABSTRACT MACHINE, part 13: a region's operations do what the instructions say. -/
namespace Go.Am
open Go Go.RowKit
section
variable {K:Kx} {β:Lb→Option Nat} {env:Env} {H:Hp} {a:Act} {w:World}
def s9 (K:Kx) (env:Env) (d:Option Nat) (k:AV→Hp→Prop) (a':Act) (w':World):Prop:=∃x H',k x H'∧∃β',bj K β' (d_ env d x) H' a' w'
theorem eN (hr:bj K β env H a w) {o:Oper} (hd:∀n,o.dst=some n→n<K.N) {x:AV} {k:AV→Hp→Prop} {Q:Exit→Act→World→Prop} (h:br K β H a w o x) (hk:k x H) :
  o.wp K.P a w (s9 K env o.dst k) Q:=by
 obtain⟨v,w',h1,h2,h3,h4⟩:=h;unfold Oper.wp;rw[h1];exact⟨x,H,hk,β,hr.step h2 hd (fun _=>h3) (fun _=>h4)⟩
theorem eO {o:Oper} {x:AV} {H':Hp} {k:AV→Hp→Prop} {Q:Exit→Act→World→Prop} (h:ky K env a w o o.dst x H') (hk:k x H') :
  o.wp K.P a w (s9 K env o.dst k) Q:=by
 obtain⟨nx,w',β',v,h1,h2,h3⟩:=h;unfold Oper.wp;rw[h1];rcases h2 with rfl|⟨rfl,rfl⟩
 ·exact⟨x,H',hk,β',h3⟩
 ·exact⟨x,H',hk,β',h3⟩
theorem yY (hr:bj K β env H a w) {o:Oper} (hd:∀n,o.dst=some n→n<K.N) {f:Nat} {args:List AV} {vs:List Value} {k:AV→Hp→Prop} {Q:Exit→Act→World→Prop}
  (lG:(execOp a.eval o).run K.P w= .ok (.enter f vs.toArray) w) (hv:b8 w β H (Im K β H) args vs) (hc:l7 ⟨K.P,K.G,K.N⟩ f args H k):o.wp K.P a w (s9 K env o.dst k) Q:=by
 unfold Oper.wp;rw[lG];rcases hc with⟨res,hp,hk⟩|⟨cO,res,ha,hp,sK,hk⟩|⟨ρ,kA,cO,Q',h1,rfl,h3,h4,h5,h6,QT,h7,h8⟩
 ·refine(s8 hr hp hv trivial).mono ?_;rintro e w' ⟨v,rfl,gw,hx⟩;exact⟨res,H,hk,β,hr.step gw hd (fun _=>hx) (fun _ l hl=>by rw[hp.2.1] at hl;simp at hl)⟩
 ·refine(Ag hr ha hp sK hv).mono ?_;rintro e w' ⟨v,rfl,gw,hx⟩;exact⟨res,H,hk,β,hr.step gw hd (fun _=>hx) (fun _ l hl=>by rw[hp.2.1] at hl;simp at hl)⟩
 ·refine(Ah hr h1 h3 h4 h5 h6 QT h7 hv).mono ?_;rintro e w' ⟨v,x,H',rfl,hq,gf⟩;obtain⟨ρ',iy,p1,p2,p3,p4,p5,p6,p7,p8,hk⟩:=h8 x H' hq;obtain⟨mv,q1,q2⟩:=gf ρ' iy p1 p2 p3 p4 p5 p6 p7 p8
  exact⟨_,iy,hk,mv,q1.step (Below.refl _ _) hd (fun _=>q2) (fun _ l hl=>by
   rw[ux,List.mem_map] at hl;obtain⟨l0,h0,rfl⟩:=hl;exact p5 l0 h0)⟩
theorem bT {α γ:Type} {x:Option α} {f:α→Option γ} {y:γ} (h:x.bind f=some y):∃a,x=some a∧f a=some y:=Option.bind_eq_some_iff.1 h
theorem cd {α γ:Type} {x:Option α} {f:α→γ} {y:γ} (h:x.map f=some y):∃a,x=some a∧f a=y:=Option.map_eq_some_iff.1 h
theorem BM {i:cV} {x:O} (h:i.j9= .box x):i= .box x∨i= .sF x:=by
 cases i<;>simp[cV.j9] at h<;>simp[h]
theorem BN {i:cV} {s x:O} {sz b:Nat} (h:i.j9= .app s x sz b):i= .app s x sz b∨i= .sG s x sz b:=by
 cases i<;>simp[cV.j9] at h<;>simp[h]
theorem Aj {i:cV} {n sz:Nat} {z:List AV} {ps:List (Nat×O)} (h:i.j9= .lits n sz z ps):i= .lits n sz z ps∨(n=1∧i= .ji sz z ps):=by
 cases i<;>simp[cV.j9] at h<;>simp[h]
def cV.Ij:cV→Bool
 | .box _| .app ..| .lits ..=>true
 |_=>false
theorem dW {i j:cV} (h:i.j9=j) (hj:j.Ij=false):i=j:=by
 subst h;cases i<;>first|rfl|(simp[cV.j9,cV.Ij] at hj)
def cV.plain:cV→Bool
 | .load ..| .box _| .new _| .store ..| .app ..| .call ..| .j4 ..| .vt ..| .o8 ..| .zZ ..| .cap ..| .vl ..| .lZ ..| .qK ..| .ji ..=>false
 |_=>true
theorem lj {S:St} {d:Option Nat} {i:cV} {k:AV→Hp→Prop} (h:i.plain=true) (ha:bX S d i env H k):∃x,ae i env=some x∧k x H:=by
 cases i<;>simp[cV.plain] at h<;>exact ha
theorem sL (d:Nat) {P:Program} {t e:TypeId} (ht:P.underlying t=some (.slice e)) (a:Option Addr) (n c:Nat) :
  (Op.equalIn (d+1) t (.slice a n c) (.slice none 0 0)).run P w= .ok a.isNone w:=by
 cases a<;>simp[Op.equalIn,run_underlying ht]
theorem Lp (hr:bj K β env H a w) {o:Oper} {op:BinOp} {t t2 e:TypeId} {x y:Operand} {x':O} {n:Bool} (ho:o.op= .binOp op t x y t2) (hn:l3 op=some n)
  (ht:K.P.underlying t=some (.slice e)) (hc:xq y=true) (hx:co K.G x=some x') {bs:List Bool} (hz:sI (ev env x')=some bs):∃b,b∈bs∧br K β H a w o (.bool (n ^^ b)):=by
 have h:=hr.ev hx
 have hy:a.eval y= .slice none 0 0:=by
  unfold xq at hc;split at hc
  ·rfl
  ·cases hc
 have key:∀(ad:Option Addr) (m c:Nat),a.eval x= .slice ad m c→ad.isNone∈bs→∃b,b∈bs∧br K β H a w o (.bool (n ^^ b)):=by
  intro ad m c h3 h4;refine⟨ad.isNone,h4,br.same (v:= .bool (n ^^ ad.isNone)) ?_ (by simp[RV]) (by simp[AV.aI])⟩;have h5:(Op.equal t (.slice ad m c) (.slice none 0 0)).run K.P w= .ok ad.isNone w:=sL 9999 ht ad m c;rcases k_ hn with⟨rfl,rfl⟩|⟨rfl,rfl⟩
  ·simp[execOp,ho,h3,hy,eqGuard,binOp,h5]
  ·simp[execOp,ho,h3,hy,eqGuard,binOp,h5]
 have Ex:∀b:Bool,b∈[true,false]:=by intro b;cases b<;>simp
 cases e1:ev env x'<;>rw[e1] at h hz
 case list xs=>
  simp only[RV,ic] at h;obtain⟨ad,c,h1,_,_,h4⟩:=h;cases xs with
  |nil=>simp only[sI,Option.some.injEq] at hz;subst hz;exact key _ _ _ h1 (Ex _)
  |cons y0 r=>
   simp only[sI,Option.some.injEq] at hz;subst hz;rcases h4 with h4|⟨b,o',sz,h4,_⟩
   ·simp at h4
   ·refine key _ _ _ h1 ?_;rw[h4];simp
 case nil0=>
  simp only[RV] at h;obtain⟨ad,h1⟩:=h;simp only[sI,Option.some.injEq] at hz;subst hz;exact key _ _ _ h1 (Ex _)
 case slk l sz i m c=>
  simp only[RV] at h;obtain⟨ad,h1,h2,_,h4,_⟩:=h;simp only[sI,Option.some.injEq] at hz;subst hz;refine key _ _ _ h1 ?_;by_cases hm:0<m
  ·rw[if_pos hm];have:=h4 (by omega);cases ad with
   |none=>simp at this
   |some q=>simp
  ·rw[if_neg hm];exact Ex _
 case sl l sz i m=>
  simp only[RV] at h;obtain⟨ad,c,h1,_,_,h4,_⟩:=h;simp only[sI,Option.some.injEq] at hz;subst hz;refine key _ _ _ h1 ?_;by_cases hm:0<m
  ·rw[if_pos hm];have:=h4 hm;cases ad with
   |none=>simp at this
   |some q=>simp
  ·rw[if_neg hm];exact Ex _
 all_goals simp[sI] at hz
set_option maxHeartbeats 1000000 in
theorem xF (hr : bj K β env H a w) {o : Oper} {i : cV} {k : AV → Hp → Prop} {Q : Exit → Act → World → Prop} (hd : ∀ n,o.dst = some n → n < K.N) (hc : Bz K.P K.G o = some i.j9)
   (ha : bX ⟨K.P,K.G,K.N⟩ o.dst i env H k) : o.wp K.P a w (s9 K env o.dst k) Q := by
 have plain : ∀ j : cV,i.j9 = j → j.Ij = false → j.plain = true → (∀ x,ae j env = some x → br K β H a w o x) → o.wp K.P a w (s9 K env o.dst k) Q := by
   intro j hj Ks hp hs
   have e := dW hj Ks
   subst e
   obtain ⟨x,h1,h2⟩ := lj hp ha
   exact eN hr hd (hs x h1) h2
 unfold Bz at hc
 split at hc
 · rename_i x ho
   obtain ⟨y,h1,h2⟩ := cd hc
   exact plain _ h2.symm rfl rfl (fun z hz => by simp only [ae,Option.some.injEq] at hz; subst hz; exact GA hr (.inl ho) h1)
 · rename_i x ho
   obtain ⟨y,h1,h2⟩ := cd hc
   exact plain _ h2.symm rfl rfl (fun z hz => by simp only [ae,Option.some.injEq] at hz; subst hz; exact GA hr (.inr ho) h1)
 · rename_i c x y ho
   obtain ⟨c',h1,hc⟩ := bT hc
   obtain ⟨x',h2,hc⟩ := bT hc
   obtain ⟨y',h3,h4⟩ := cd hc
   refine plain _ h4.symm rfl rfl (fun z hz => ?_)
   simp only [ae] at hz
   split at hz
   · rename_i t ht
     simp only [Option.some.injEq] at hz; subst hz
     exact HL hr ho h1 h2 h3 ht
   · simp at hz
 · rename_i t x f ho
   split at hc
   · rename_i fs ht
     obtain ⟨fd,h1,hc⟩ := bT hc
     obtain ⟨s,h2,hc⟩ := bT hc
     split at hc
     · simp at hc
     · rename_i GB
       obtain ⟨x',h3,h4⟩ := cd hc
       exact plain _ h4.symm rfl rfl (fun z hz => KH hr ho ht h1 h2 GB h3 hz)
   · simp at hc
 · rename_i t x j ho
   split at hc
   · rename_i e ht
     obtain ⟨s,h2,hc⟩ := bT hc
     obtain ⟨x',h3,hc⟩ := bT hc
     obtain ⟨j',h4,h5⟩ := cd hc
     exact plain _ h5.symm rfl rfl (fun z hz => KJ hr ho ht h2 h3 h4 hz)
   · rename_i n e ht
     obtain ⟨s,h2,hc⟩ := bT hc
     obtain ⟨x',h3,hc⟩ := bT hc
     obtain ⟨j',h4,h5⟩ := cd hc
     exact plain _ h5.symm rfl rfl (fun z hz => KI hr ho ht h2 h3 h4 hz)
   · simp at hc
 · rename_i t x j ho
   split at hc
   · rename_i ht
     obtain ⟨x',h3,hc⟩ := bT hc
     obtain ⟨j',h4,h5⟩ := cd hc
     exact plain _ h5.symm rfl rfl (fun z hz => KM hr ho ht h3 h4 hz)
   · simp at hc
 · rename_i t x lo hi mx ho
   split at hc
   · rename_i e ht
     obtain ⟨s,h2,hc⟩ := bT hc
     obtain ⟨x',h3,hc⟩ := bT hc
     obtain ⟨uj,h4,hc⟩ := bT hc
     obtain ⟨eJ,h5,hc⟩ := bT hc
     obtain ⟨mx',h6,h7⟩ := cd hc
     exact plain _ h7.symm rfl rfl (fun z hz => KO hr ho ht h2 h3 h4 h5 h6 hz)
   · rename_i ht
     split at hc
     · simp at hc
     · rename_i xr
       obtain ⟨x',h3,hc⟩ := bT hc
       obtain ⟨uj,h4,hc⟩ := bT hc
       obtain ⟨eJ,h5,h7⟩ := cd hc
       have : mx = none := by cases mx <;> simp_all
       subst this
       exact plain _ h7.symm rfl rfl (fun z hz => HP hr ho ht h3 h4 h5 hz)
   · rename_i n e ht
     split at hc
     · rename_i GV
       simp only [Bool.and_eq_true,Option.isNone_iff_eq_none] at GV
       obtain ⟨⟨rfl,rfl⟩,rfl⟩ := GV
       obtain ⟨s,h2,hc⟩ := bT hc
       split at hc
       · simp at hc
       · rename_i GB
         obtain ⟨x',h3,h5⟩ := cd hc
         exact plain _ h5.symm rfl rfl (fun z hz => Ie hr ho ht h2 GB h3 hz)
     · simp at hc
   · simp at hc
 · -- makeSlice
   rename_i t n c ho
   split at hc
   · rename_i e ht
     split at hc
     · rename_i ti qw
       split at hc
       · rename_i z hz
         split at hc
         · rename_i dV
           obtain ⟨zs,h1,hc⟩ := bT hc
           obtain ⟨n',h2,hc⟩ := bT hc
           obtain ⟨c',h3,h5⟩ := cd hc
           have e5 := dW h5.symm rfl
           subst e5
           obtain ⟨q,g1,y,H',g2,g3⟩ := ha
           exact eO (by rw [g1]; exact Lk hr (hd q g1) ho ht qw hz dV.1 dV.2.1 dV.2.2 h1 h2 h3 g2) g3
         · simp at hc
       · simp at hc
     · simp at hc
   · simp at hc
 · rename_i op t x y t2 ho
   split at hc
   · obtain ⟨x',h3,hc⟩ := bT hc
     obtain ⟨y',h4,h5⟩ := cd hc
     exact plain _ h5.symm rfl rfl (fun z hz => GD hr ho h3 h4 hz)
   · obtain ⟨x',h3,hc⟩ := bT hc
     obtain ⟨y',h4,h5⟩ := cd hc
     exact plain _ h5.symm rfl rfl (fun z hz => GD hr ho h3 h4 hz)
   · rename_i ht
     obtain ⟨n,h2,hc⟩ := bT hc
     obtain ⟨x',h3,hc⟩ := bT hc
     obtain ⟨y',h4,h5⟩ := cd hc
     exact plain _ h5.symm rfl rfl (fun z hz => K2 hr ho h2 ht h3 h4 hz)
   · rename_i e ht
     obtain ⟨n,h2,hc⟩ := bT hc
     obtain ⟨x',h3,hc⟩ := bT hc
     obtain ⟨y',h4,h5⟩ := cd hc
     exact plain _ h5.symm rfl rfl (fun z hz => K3 hr ho h2 ht h3 h4 hz)
   · rename_i ms ht
     split at hc
     · rename_i BO
       obtain ⟨n,h2,hc⟩ := bT hc
       obtain ⟨x',h3,hc⟩ := bT hc
       obtain ⟨y',h4,h5⟩ := cd hc
       exact plain _ h5.symm rfl rfl (fun z hz => K4 hr ho h2 ht BO h3 hz)
     · simp at hc
   · rename_i fs ht
     obtain ⟨ks,h1,hc⟩ := bT hc
     obtain ⟨n,h2,hc⟩ := bT hc
     obtain ⟨x',h3,hc⟩ := bT hc
     obtain ⟨y',h4,h5⟩ := cd hc
     exact plain _ h5.symm rfl rfl (fun z hz => HY hr ho h2 h1 h3 h4 hz)
   · -- a slice,held against nil
     rename_i e ht
     split at hc
     · rename_i BO
       obtain ⟨n,h2,hc⟩ := bT hc
       obtain ⟨x',h3,h5⟩ := cd hc
       have e5 := dW h5.symm rfl
       subst e5
       obtain ⟨bs,g1,g2⟩ := ha
       obtain ⟨b,hb,mS⟩ := Lp hr ho h2 ht BO h3 g1
       exact eN hr hd mS (g2 b hb)
     · simp at hc
   · simp at hc
 · rename_i t x ho
   obtain ⟨x',h3,h5⟩ := cd hc
   exact plain _ h5.symm rfl rfl (fun z hz => KP hr ho h3 hz)
 · rename_i t x ho
   obtain ⟨x',h3,h5⟩ := cd hc
   exact plain _ h5.symm rfl rfl (fun z hz => KQ hr ho h3 hz)
 · rename_i x j ho
   obtain ⟨x',h3,h5⟩ := cd hc
   exact plain _ h5.symm rfl rfl (fun z hz => KT hr ho h3 hz)
 · rename_i x ho
   obtain ⟨x',h3,h5⟩ := cd hc
   exact plain _ h5.symm rfl rfl (fun z hz => HQ hr ho h3 hz)
 · -- box
   rename_i t x ho
   obtain ⟨x',h3,h5⟩ := cd hc
   rcases BM h5.symm with rfl | rfl
   · obtain ⟨n,g1,g2,g3,g4,g5,g6⟩ := ha
     exact eO (by rw [g1]; exact K' hr (hd n g1) ho h3 g3 g4 g5 g2) g6
   · obtain ⟨y,h1,h2⟩ := lj rfl ha
     exact eN hr hd (HT hr ho h3 h1) h2
 · rename_i f first cap ho
   split at hc
   · rename_i hf
     obtain ⟨cs,h3,h5⟩ := cd hc
     exact plain _ h5.symm rfl rfl (fun z hz => KU hr ho hf h3 hz)
   · obtain ⟨qs,h2,hc⟩ := bT hc
     obtain ⟨cs,h3,h5⟩ := cd hc
     exact plain _ h5.symm rfl rfl (fun z hz => KV hr ho h2 h3 hz)
 · -- load
   rename_i t x ho
   obtain ⟨m,h1,hc⟩ := bT hc
   obtain ⟨x',h3,h5⟩ := cd hc
   have e := dW h5.symm rfl
   subst e
   rcases ha with ⟨y,g1,g2⟩ | ⟨y,g1,g2⟩
   · exact eN hr hd (Ej hr ho h1 h3 g1) g2
   · exact eN hr hd (H5 hr ho h1 h3 g1) g2
 · -- alloc
   rename_i t ho
   split at hc
   · rename_i ti qw
     split at hc
     · rename_i z hz
       split at hc
       · obtain ⟨cs,h3,h5⟩ := cd hc
         have e := dW h5.symm rfl
         subst e
         obtain ⟨n,g1,g2,g3,g4,g5⟩ := ha
         exact eO (by rw [g1]; exact Em hr (hd n g1) ho qw hz h3 g3 g4 g2) g5
       · simp at hc
     · simp at hc
   · simp at hc
 · -- store
   rename_i t x y ho
   obtain ⟨s,h1,hc⟩ := bT hc
   obtain ⟨x',h3,hc⟩ := bT hc
   obtain ⟨y',h4,h5⟩ := cd hc
   have e := dW h5.symm rfl
   subst e
   obtain ⟨g1,H',g2,g3⟩ := ha
   exact eO (by rw [g1]; exact En hr ho h1 h3 h4 g2) g3
 · -- convert
   rename_i s d x ho
   split at hc
   · rename_i k1 k2 hs GW
     obtain ⟨x',h3,h5⟩ := cd hc
     exact plain _ h5.symm rfl rfl (fun z hz => KW hr ho hs GW h3 hz)
   · rename_i hs GW
     obtain ⟨x',h3,h5⟩ := cd hc
     exact plain _ h5.symm rfl rfl (fun z hz => KX hr ho hs GW h3 hz)
   · rename_i e hs GW
     split at hc
     · rename_i he
       obtain ⟨x',h3,h5⟩ := cd hc
       exact plain _ h5.symm rfl rfl (fun z hz => K5 hr ho hs GW he h3 hz)
     · simp at hc
   · rename_i e hs GW
     split at hc
     · rename_i he
       obtain ⟨x',h3,h5⟩ := cd hc
       exact plain _ h5.symm rfl rfl (fun z hz => K7 hr ho hs he GW h3 hz)
     · simp at hc
   · simp at hc
 · rename_i t x ho
   split at hc
   · simp at hc
   · rename_i d Nl ht
     obtain ⟨x',h3,h5⟩ := cd hc
     exact plain _ h5.symm rfl rfl (fun z hz => HR hr ho ht (fun ms e => Nl ms e) h3 hz)
   · simp at hc
 · rename_i t x f ho
   split at hc
   · rename_i fs ht
     obtain ⟨fd,h1,hc⟩ := bT hc
     obtain ⟨m,h2,hc⟩ := bT hc
     obtain ⟨x',h3,h5⟩ := cd hc
     exact plain _ h5.symm rfl rfl (fun z hz => HX hr ho ht h1 h2 h3 hz)
   · simp at hc
 · -- buildSlice
   rename_i t n ps ho
   split at hc
   · rename_i e ht
     split at hc
     · rename_i ti qw
       split at hc
       · rename_i z hz
         split at hc
         · rename_i dV
           obtain ⟨zs,h1,hc⟩ := bT hc
           obtain ⟨xs,h2,h5⟩ := cd hc
           rcases Aj h5.symm with rfl | ⟨rfl,rfl⟩
           · obtain ⟨y,g1,g2⟩ := lj rfl ha
             exact eN hr hd (HU hr ho ht qw hz dV.1 dV.2.1 dV.2.2 h1 h2 g1) g2
           · obtain ⟨q,g1,y,H',g2,g3⟩ := ha
             exact eO (by rw [g1]; exact Ew hr (hd q g1) ho ht qw hz dV.1 dV.2.1 dV.2.2 h1 h2 g2) g3
         · simp at hc
       · simp at hc
     · simp at hc
   · simp at hc
 · -- build
   rename_i t ps ho
   split at hc
   · rename_i ti fs qw ht
     split at hc
     · rename_i z pl hz BD
       obtain ⟨zs,h1,hc⟩ := bT hc
       obtain ⟨xs,h2,hc⟩ := bT hc
       obtain ⟨qs,h3,h5⟩ := cd hc
       exact plain _ h5.symm rfl rfl (fun y hy => K0 hr ho ht qw hz BD h1 h2 h3 hy)
     · simp at hc
   · simp at hc
 · -- call
   rename_i c ho
   split at hc
   · -- len
     rename_i kQ
     split at hc
     · rename_i x h1 h2
       obtain ⟨x',h3,h5⟩ := cd hc
       exact plain _ h5.symm rfl rfl (fun z hz => HN hr ho kQ h1 h2 h3 hz)
     · rename_i x e h1 h2
       obtain ⟨x',h3,h5⟩ := cd hc
       exact plain _ h5.symm rfl rfl (fun z hz => KN hr ho kQ h1 h2 h3 hz)
     · simp at hc
   · -- max
     rename_i kQ
     split at hc
     · rename_i x y h1
       obtain ⟨x',h3,hc⟩ := bT hc
       obtain ⟨y',h4,h5⟩ := cd hc
       exact plain _ h5.symm rfl rfl (fun z hz => KR hr ho kQ h1 h3 h4 hz)
     · simp at hc
   · -- min
     rename_i kQ
     split at hc
     · rename_i x y h1
       obtain ⟨x',h3,hc⟩ := bT hc
       obtain ⟨y',h4,h5⟩ := cd hc
       exact plain _ h5.symm rfl rfl (fun z hz => KS hr ho kQ h1 h3 h4 hz)
     · simp at hc
   · -- append
     rename_i kQ
     split at hc
     · rename_i s x st xt h1 h2
       split at hc
       · rename_i e mS
         split at hc
         · rename_i ti qw
           split at hc
           · rename_i dV
             simp only [Bool.and_eq_true,beq_iff_eq,decide_eq_true_eq] at dV
             obtain ⟨⟨q1,q2⟩,q3⟩ := dV
             obtain ⟨z,hz,PS⟩ := cd q1
             obtain ⟨s',h3,hc⟩ := bT hc
             obtain ⟨x',h4,h5⟩ := cd hc
             obtain ⟨dx,s5,xl⟩ : ∃ dx,K.P.underlying xt = some dx ∧ (dx = .string ∨ ∃ e2,dx = .slice e2) := by
               unfold KF at q3
               split at q3
               · rename_i hh; exact ⟨_,hh,.inl rfl⟩
               · rename_i hh; exact ⟨_,hh,.inr ⟨_,rfl⟩⟩
               · simp at q3
             rcases BN h5.symm with rfl | rfl
             · obtain ⟨n,g1,y,H',g3,g4⟩ := ha
               exact eO (by rw [g1]; exact Ld hr (hd n g1) ho kQ h1 h2 mS qw hz PS q2 s5 xl h3 h4 g3) g4
             · obtain ⟨y,g3,g4⟩ := lj rfl ha
               exact eN hr hd (Ig hr ho kQ h1 h2 mS qw hz PS q2 s5 xl h3 h4 g3) g4
           · split at hc
             · rename_i k0 z s5 hz
               split at hc
               · rename_i qX
                 obtain ⟨zs,h5,hc⟩ := bT hc
                 obtain ⟨s',h3,hc⟩ := bT hc
                 obtain ⟨x',h4,h6⟩ := cd hc
                 have e6 := dW h6.symm rfl
                 subst e6
                 obtain ⟨n,g1,y,H',g3,g4⟩ := ha
                 exact eO (by rw [g1]; exact Ih hr (hd n g1) ho kQ h1 h2 mS qw hz qX.1 qX.2.1 qX.2.2 s5 h5 h3 h4 g3) g4
               · simp at hc
             · simp at hc
         · simp at hc
       · simp at hc
     · simp at hc
   · -- cap
     rename_i kQ
     split at hc
     · rename_i x e h1 h2
       obtain ⟨x',h3,h5⟩ := cd hc
       have e5 := dW h5.symm rfl
       subst e5
       obtain ⟨R,g1,g2⟩ := ha
       obtain ⟨m,q1,q2,q3⟩ := Ll hr ho kQ h1 h2 h3 g1
       exact eN hr hd q3 (g2 m q1 q2)
     · simp at hc
   · -- copy
     rename_i kQ
     split at hc
     · rename_i dd x dt xt h1 h2
       split at hc
       · rename_i e Nh
         obtain ⟨s,h3,hc⟩ := bT hc
         split at hc
         · simp at hc
         · rename_i GB
           obtain ⟨d',h4,hc⟩ := bT hc
           obtain ⟨x',h6,h5⟩ := cd hc
           have e5 := dW h5.symm rfl
           subst e5
           obtain ⟨y,H',g1,g2⟩ := ha
           exact eO (Lh hr hd ho kQ h1 h2 Nh h3 GB h4 h6 g1) g2
       · simp at hc
     · simp at hc
   · -- clear
     rename_i kQ
     split at hc
     · rename_i x e h1 h2
       split at hc
       · rename_i ti qw
         split at hc
         · rename_i z hz
           split at hc
           · rename_i dV
             obtain ⟨zs,h3,hc⟩ := bT hc
             obtain ⟨x',h4,h5⟩ := cd hc
             have e5 := dW h5.symm rfl
             subst e5
             obtain ⟨H',g1,g2⟩ := ha
             exact eO (Li hr hd ho kQ h1 h2 qw hz dV.1 dV.2 h3 h4 g1) g2
           · simp at hc
         · simp at hc
       · simp at hc
     · simp at hc
   · simp at hc
   · simp at hc
   · -- a function
     rename_i f kQ
     split at hc
     · rename_i hb
       obtain ⟨xs,h3,h5⟩ := cd hc
       have e := dW h5.symm rfl
       subst e
       obtain ⟨fn, hf, xm⟩ : ∃ fn, K.P.funcs[f]? = some fn ∧ (fn.body.isSome = true ∧ (fn.name != "runtime.NumGoroutine") = true) := by
         unfold j5 at hb
         cases hq : K.P.funcs[f]? with
         | none => simp [hq] at hb
         | some fn => simp only [hq,Option.any_some,Bool.and_eq_true] at hb; exact ⟨fn,rfl,hb⟩
       refine yY hr hd (vs := c.args.toList.map a.eval) ?_ (kO hr _ _ h3) ha
       have h1 : ¬ fn.name = "runtime.NumGoroutine" := by simpa using xm.2
       have h2 : ¬ fn.body = none := by intro hh; simp [hh] at xm
       simp [execOp,ho,resolve,kQ,Act.eval,Deferred.ofValue,invoke,callFunc,hf,h1,h2]
       cases c.args
       simp
     · -- without a body
       obtain ⟨xs,h3,h5⟩ := cd hc
       have e5 := dW h5.symm rfl
       subst e5
       obtain ⟨res,g1,g2⟩ := ha
       obtain ⟨v,w',q1,q2,q3,q4⟩ := g1 K β env a w (c.args.toList.map a.eval) rfl hr (kO hr _ _ h3)
       refine eN hr hd ⟨v,w',?_,q2,q3,q4⟩ g2
       have yZ : (c.args.toList.map a.eval).toArray = c.args.map a.eval := by cases c.args; simp
       rw [yZ] at q1
       simp [execOp,ho,resolve,kQ,Act.eval,Deferred.ofValue,invoke,q1]
   · -- a function value
     rename_i f PQ kQ
     obtain ⟨y,h2,hc⟩ := bT hc
     obtain ⟨xs,h3,h5⟩ := cd hc
     have e := dW h5.symm rfl
     subst e
     obtain ⟨f',first,cap,g1,hb,g2⟩ := ha
     have hv := hr.ev h2
     rw [g1] at hv
     simp only [RV] at hv
     obtain ⟨vs,us,k1,k2,k3⟩ := hv
     obtain ⟨fn, hf, xm⟩ : ∃ fn, K.P.funcs[f']? = some fn ∧ (fn.body.isSome = true ∧ (fn.name != "runtime.NumGoroutine") = true) := by
       unfold j5 at hb
       cases hq : K.P.funcs[f']? with
       | none => simp [hq] at hb
       | some fn => simp only [hq,Option.any_some,Bool.and_eq_true] at hb; exact ⟨fn,rfl,hb⟩
     refine yY hr hd (vs := vs ++ c.args.toList.map a.eval ++ us) ?_ (b8.append _ _ _ _ (b8.append _ _ _ _ k2 (kO hr _ _ h3)) k3) g2
     have h1 : ¬ fn.name = "runtime.NumGoroutine" := by simpa using xm.2
     have h2 : ¬ fn.body = none := by intro hh; simp [hh] at xm
     simp [execOp,ho,resolve,kQ,k1,Deferred.ofValue,invoke,callFunc,hf,h1,h2]
 · simp at hc
theorem Ak (hr:bj K β env H a w) {o:Oper} {i:cV} {k:AV→Hp→Prop} {Q:Exit→Act→World→Prop} (hd:∀n,o.dst=some n→n<K.N) (hc:comp K.P K.G o=some i.j9)
  (ha:bX ⟨K.P,K.G,K.N⟩ o.dst i env H k):o.wp K.P a w (s9 K env o.dst k) Q:=by
 unfold comp at hc;split at hc
 ·rename_i j hj;simp only[Option.some.injEq] at hc;exact xF hr hd (by rw[hj,hc]) ha
 ·simp only[Option.some.injEq] at hc;have e:i= .stuck:=dW hc.symm rfl;subst e;obtain⟨x,h1,_⟩:=lj rfl ha;simp[ae] at h1
end
end Go.Am

/- THE ABSTRACT MACHINE, part 14: regions. -/
namespace Go.Am
open Go Go.RowKit
section
variable {K:Kx} {env:Env} {H:Hp} {a:Act} {w:World}
theorem s_ {β:Lb→Option Nat} (hr:bj K β env H a w) {ops:Array Oper} {o:Oper} {i:dn} (hc:nB K.P K.G ops o=some i) {b:Bool} (hg:gW i.g env=some b) :
  Region.wanted o (yielded ops a.tmps)=b:=by
 unfold nB at hc;split at hc
 ·rename_i h0;obtain⟨j,_,rfl⟩:=cd hc;simp only[gW,Option.some.injEq] at hg;subst hg;simp[Region.wanted,h0]
 ·rename_i j t h0;obtain⟨s,h1,hc⟩:=bT hc;obtain⟨q,_,rfl⟩:=cd hc;simp only[gW] at hg;have hv:=hr.jj s;split at hg
  ·rename_i c e;simp only[Option.some.injEq] at hg;subst hg;rw[e] at hv;simp only[RV] at hv
   have:a.tmps[s]?=some (.bool c):=by
    rw[Array.getD_eq_getD_getElem?] at hv;cases hq:a.tmps[s]? with
    |none=>rw[hq] at hv;cases hv
    |some u=>rw[hq] at hv;simpa using hv
   simp[Region.wanted,h0,yielded,h1,this]
  ·rename_i e;simp only[Option.some.injEq] at hg;subst hg;rw[e] at hv;simp only[RV] at hv
   have:a.tmps[s]?=none∨a.tmps[s]?=some undef:=by
    rw[Array.getD_eq_getD_getElem?] at hv;cases hq:a.tmps[s]? with
    |none=>exact .inl rfl
    |some u=>rw[hq] at hv;right;simpa using hv
   rcases this with h|h<;>simp[Region.wanted,h0,yielded,h1,h,undef]
  ·simp at hg
theorem vG {P:Program} {G:Nat→Option (List IV)} {ops:Array Oper} {o:Oper} {i:dn} (hc:nB P G ops o=some i):i.d=o.dst∧comp P G o=some i.i:=by
 unfold nB at hc;split at hc
 ·obtain⟨j,h1,rfl⟩:=cd hc;exact⟨rfl,h1⟩
 ·obtain⟨s,_,hc⟩:=bT hc;obtain⟨q,h1,rfl⟩:=cd hc;exact⟨rfl,h1⟩
theorem qZ {β:Lb→Option Nat} (hr:bj K β env H a w) {ops:Array Oper} {o:Oper} {i:dn} (hc:nB K.P K.G ops o=some i.j9) {k:Env→Hp→Prop} {Q:Exit→Act→World→Prop} {KK:Act→World→Prop}
  (hk:∀env' H' β' a' w',k env' H'→bj K β' env' H' a' w'→KK a' w')
  (ha:(gW i.g env=some true∧(∀n,i.d=some n→n<K.N)∧bX ⟨K.P,K.G,K.N⟩ i.d i.i env H fun x H'=>k (d_ env i.d x) H') ∨
   (gW i.g env=some false∧(∀n,i.d=some n→n<K.N)∧k (d_ env i.d .un) H)) :
  if Region.wanted o (yielded ops a.tmps) then o.wp K.P a w KK Q∨(o.asks K.P a w∧LetsOut Q) else KK (a.put o.dst undef) w:=by
 obtain⟨h1,h2⟩:=vG hc;have PT:i.d=o.dst:=h1;rcases ha with⟨hg,hd,ha⟩|⟨hg,hd,ha⟩
 ·have hw:Region.wanted o (yielded ops a.tmps)=true:=s_ hr (i:=i.j9) hc hg;rw[if_pos hw];left;rw[PT] at ha hd;exact Oper.wp_mono (fun a' w' ⟨x,H',hx,β',mq⟩=>hk _ _ _ _ _ hx mq) (Ak hr hd h2 ha)
 ·have hw:Region.wanted o (yielded ops a.tmps)=false:=s_ hr (i:=i.j9) hc hg;rw[if_neg (by simp[hw])];rw[PT] at ha hd;exact hk _ _ _ _ _ ha (hr.step (Below.refl _ _) hd (fun _=>by simp[RV]) (fun _=>by simp[AV.aI]))
theorem vH {ops:Array Oper} {k:Env→Hp→Prop} {Q:Exit→Act→World→Prop} (hk:∀env' H' β' a' w',k env' H'→bj K β' env' H' a' w'→Q .normal a' w') :
  ∀(l:List Oper) (is:List dn) (env:Env) (H:Hp) (a:Act) (w:World) (β:Lb→Option Nat),dP (fun o i=>nB K.P K.G ops o=some (dn.j9 i)) l is→AO ⟨K.P,K.G,K.N⟩ is env H k→bj K β env H a w →
   wpList K.P ops Q l a w
 |[],_,env,H,a,w,β,h,ha,hr=>by
  cases h;exact hk _ _ _ _ _ ha hr
 |o::l,_,env,H,a,w,β,h,ha,hr=>by
  cases h with
  |@cons _ i _ is h1 h2=>
   simp only[AO] at ha;unfold wpList;exact qZ hr h1 (k:=fun env' H'=>AO ⟨K.P,K.G,K.N⟩ is env' H' k) (fun env' H' β' a' w' q1 q2=>vH hk l is env' H' a' w' β' h2 q1 q2) ha
end
end Go.Am
