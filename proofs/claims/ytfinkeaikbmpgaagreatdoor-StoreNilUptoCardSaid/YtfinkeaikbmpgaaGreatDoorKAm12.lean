import Derived.Test.YtfinkeaikbmpgaaGreatDoorAm38
import Derived.Test.YtfinkeaikbmpgaaGreatDoorKAm36
set_option linter.unusedSimpArgs false
set_option linter.unusedVariables false
set_option linter.unnecessarySimpa false
set_option linter.defProp false
/- THE ABSTRACT MACHINE, part 12: contracts of calls; a region's operations in their order. -/
namespace Go.Am
open Go Go.RowKit
def cj (xs:List IV):List (List AV):=xs.map fun y=>y.cells.map IV.bV
def Flat (xs:List IV):Prop:=∀y∈xs,∀z∈y.cells,∀cs,z≠ .agg cs
def Hp.none:Hp:=fun _=> .unused
def Env.any:Env:=fun _=> .any
def fi:Act:={tmps:=#[],defers:=[]}
def oe (β:Lb→Option Nat) (H:Hp) (k:Nat):Prop:=∃l,live H l∧β l=some k
def bh (P:Program) (G:Nat→Option (List IV)) (w:World) (A:Nat→Prop) (β:Lb→Option Nat) (H:Hp):Kx:=⟨P,G,w,A,oe β H,0,H,β⟩
def bQ (P:Program) (G:Nat→Option (List IV)) (f:Nat) (args:List AV) (H:Hp) (Q:AV→Hp→Prop):Prop:=
 ∀ (w : World) (A : Nat → Prop) (β : Lb → Option Nat) (vs : List Value),aj (bh P G w A β H) β Env.any H fi w → au w β H (Im (bh P G w A β H) β H) args vs →
   Calls P f vs.toArray w fun e w'=>∃v x H' β',e= .returned v∧Q x H'∧aj (bh P G w A β H) β' Env.any H' fi w' ∧
     RV w' β' H' (Im (bh P G w A β H) β' H') x v∧∀l∈x.aw,H' l≠ .unused
def aW (P:Program) (G:Nat→Option (List IV)) (f:Nat) (args:List AV) (res:AV):Prop:=
 ak args=[]∧res.aw=[]∧bQ P G f args Hp.none fun x _=>x=res
theorem bQ.mono {P:Program} {G:Nat→Option (List IV)} {f:Nat} {args:List AV} {H:Hp} {Q Q':AV→Hp→Prop} (h:bQ P G f args H Q) (hq:∀x H,Q x H→Q' x H):bQ P G f args H Q':=
 fun w A β vs hr hv=>(h w A β vs hr hv).mono fun e w' ⟨v,x,H',β',h1,h2,h3⟩=>⟨v,x,H',β',h1,hq _ _ h2,h3⟩
def gW (g:Option (Nat×Bool)) (env:Env):Option Bool:=
 match g with
 |none=>some true
 |some (s,t)=>match env s with
  | .bool b=>some (b==t)
  | .un=>some false
  |_=>none
structure St where
 P:Program
 G:Nat→Option (List IV)
 N:Nat
mutual
def ba (ρ:Lb→Lb):AV→AV
 | .sl l sz i n=> .sl (ρ l) sz i n
 | .slk l sz i n c=> .slk (ρ l) sz i n c
 | .ptr l sz i j=> .ptr (ρ l) sz i j
 | .agg cs=> .agg (bn ρ cs)
 | .eN cs=> .eN (bn ρ cs)
 | .fn f fs cs=> .fn f (bn ρ fs) (bn ρ cs)
 | .ifc t x=> .ifc t (ba ρ x)
 |x=>x
def bn (ρ:Lb→Lb):List AV→List AV
 |[]=>[]
 |x::r=>ba ρ x::bn ρ r
end
def b9 (ρ:Lb→Lb) (r:Row):Row:=⟨r.sz,r.aQ.map (bn ρ)⟩
structure Pass (S:St) (f:Nat) (args:List AV) (H:Hp) (k:AV→Hp→Prop):Prop where
 h:∃(ρ:Lb→Lb) (cq:Hp) (a8:List AV) (Q:AV→Hp→Prop),bQ S.P S.G f a8 cq Q∧args=bn ρ a8 ∧
  (∀l r,cq l= .live r→H (ρ l)= .live (b9 ρ r))∧(∀l,cq l≠ .unused→live cq l) ∧
  (∀l l',live cq l→live cq l'→ρ l=ρ l'→l=l')∧(∀l∈ak a8,cq l≠ .unused)∧(∀l,live cq l→l.fresh=false)∧(∀l r,cq l= .live r→∀cs∈r.aQ,∀q∈ak cs,cq q≠ .unused) ∧
  ∀x H',Q x H'→∃(ρ':Lb→Lb) (dD:Hp),(∀l,live cq l→live H' l→ρ' l=ρ l) ∧
   (∀q r,dD q= .live r→(H q= .live r∧∀l,live cq l→ρ l≠q)∨∃l r',H' l= .live r'∧ρ' l=q∧r=b9 ρ' r') ∧
   (∀l l',live H' l→live H' l'→ρ' l=ρ' l'→l=l') ∧
   (∀q,H q≠ .unused→dD q≠ .unused)∧(∀l∈x.aw,dD (ρ' l)≠ .unused) ∧
   (∀l r',H' l= .live r'→∀cs∈r'.aQ,∀q∈ak cs,dD (ρ' q)≠ .unused) ∧
   (∀l,live H' l→live cq l∨(H (ρ' l)= .unused∧((ρ' l).fresh=true→l.fresh=true∨∀z,live cq z→(ρ z).fresh=true))) ∧
   (∀l,(l∈x.aw∨∃l1 r1 cs,H' l1= .live r1∧cs∈r1.aQ∧l∈ak cs)→live dD (ρ' l)→live H' l)∧k (ba ρ' x) dD
mutual
def AV.scalar:AV→Bool
 | .bool _| .int _ _| .str _| .bY| .cT=>true
 | .eN cs=>scalars cs
 |_=>false
def scalars:List AV→Bool
 |[]=>true
 |x::r=>x.scalar&&scalars r
end
inductive kI (H:Hp):AV→AV→Prop where
 |same (x:AV):kI H x x
 |row (l:Lb) (sz i n:Nat) (xs:List IV):H l= .live ⟨sz,cj xs⟩→i+n≤xs.length→Flat xs→kI H (.sl l sz i n) (.list ((xs.drop i).take n))
structure tO (S:St) (f:Nat) (args:List AV) (H:Hp) (k:AV→Hp→Prop):Prop where
 h:∃a8 res,cz (kI H) args a8∧aW S.P S.G f a8 res∧res.scalar=true∧k res H
def cY (S:St) (f:Nat) (args:List AV) (H:Hp) (k:AV→Hp→Prop):Prop:=
 (∃res,aW S.P S.G f args res∧k res H)∨tO S f args H k∨Pass S f args H k
def gY:AV→Option (List Bool)
 | .list []=>some [true,false]
 | .list (_::_)=>some [false]
 | .nil0=>some [true,false]
 | .sl _ _ _ n=>some (if 0<n then [false] else [true,false])
 | .slk _ _ _ n _=>some (if 0<n then [false] else [true,false])
 |_=>none
def r7 (S:St) (f:Nat) (args:List AV) (H:Hp) (res:AV):Prop:=
 ∀(K:Kx) (β:Lb→Option Nat) (env:Env) (a:Act) (w:World) (vs:List Value),(⟨K.P,K.G,K.N⟩:St)=S→aj K β env H a w→au w β H (Im K β H) args vs →
  ∃v w',(callFunc f vs.toArray).run K.P w= .ok (.value v) w'∧cZ w w'∧RV w' β H (Im K β H) res v∧∀l∈res.aw,H l≠ .unused
def an (S:St) (d:Option Nat) (i:az) (env:Env) (H:Hp) (k:AV→Hp→Prop):Prop:=
 match i with
 | .load m a=>(∃x,aa (.load m a) env=some x∧k x H)∨(∃x,bt m (ev env a) H=some x∧k x H)
 | .box x=>∃n,d=some n∧H (.loc n)= .unused∧(ev env x).jH=true∧0<(ev env x).cells.length∧(ev env x).cells.length≤maxLen ∧
  k (.ptr (.loc n) (ev env x).cells.length 0 0) (aD H (.loc n) (.live ⟨(ev env x).cells.length,[(ev env x).cells]⟩))
 | .new cs=>∃n,d=some n∧H (.loc n)= .unused∧0<cs.length∧cs.length≤maxLen∧k (.ptr (.loc n) cs.length 0 0) (aD H (.loc n) (.live ⟨cs.length,[cs]⟩))
 | .store m a x=>d=none∧∃H',cM m (ev env a) (ev env x) H=some H'∧k .un H'
 | .app s x sz bytes=>∃n,d=some n∧∃y H',iK sz bytes n (ev env s) (ev env x) H=some (y,H')∧k y H'
 | .call f args=>cY S f (args.map (ev env)) H k
 | .bH x args=>∃f first cap,ev env x= .fn f first cap∧db S.P f=true∧cY S f (first++args.map (ev env)++cap) H k
 | .n1 n x=>∃bs,gY (ev env x)=some bs∧∀b∈bs,k (.bool (n ^^ b)) H
 | .cap x=>∃R,mG (ev env x)=some R∧∀m,R m→m≤maxLen→k (.int .i64 (m:Int)) H
 | .gO s x sz=>∃y H',iN sz (ev env s) (ev env x) H=some (y,H')∧k y H'
 | .ir x sz z=>∃H',iO sz z (ev env x) H=some H'∧k (.eN []) H'
 | .jc n c sz bytes z=>∃q,d=some q∧∃y H',jR sz bytes q z (ev env n) (ev env c) H=some (y,H')∧k y H'
 | .dW f args=>∃res,r7 S f (args.map (ev env)) H res∧k res H
 | .gk s n sz bytes z=>∃q,d=some q∧∃y H',jm sz bytes q z (ev env s) (ev env n) H=some (y,H')∧k y H'
 | .bX sz z ps=>∃q,d=some q∧∃y H',iP sz q z (ps.map fun p=>(p.1,ev env p.2)) H=some (y,H')∧k y H'
 |i=>∃x,aa i env=some x∧k x H
def AO (S:St):List aB→Env→Hp→(Env→Hp→Prop)→Prop
 |[],env,H,k=>k env H
 |i::r,env,H,k=>(gW i.g env=some true∧(∀n,i.d=some n→n<S.N)∧an S i.d i.i env H fun x H'=>AO S r (aM env i.d x) H' k) ∨
  (gW i.g env=some false∧(∀n,i.d=some n→n<S.N)∧AO S r (aM env i.d .un) H k)
def dE (P:Program) (G:Nat→Option (List IV)) (ops:Array Oper) (o:Oper):Option aB:=
 match o.guard with
 |none=>(comp P G o).map fun i=>⟨o.dst,none,i⟩
 |some (j,t)=>((ops[j]?).bind (·.dst)).bind fun s=>(comp P G o).map fun i=>⟨o.dst,some (s,t),i⟩
def az.b':az→az
 | .fz x=> .box x
 | .fB s x sz b=> .app s x sz b
 | .bX sz z ps=> .lits 1 sz z ps
 |i=>i
def aB.b' (i:aB):aB:={i with i:=i.i.b'}
section
variable {K:Kx} {β:Lb→Option Nat} {env:Env} {H:Hp} {a:Act} {w:World}
mutual
theorem gx (ρ:Lb→Lb):∀x:AV,(ba ρ x).aw=x.aw.map ρ
 | .sl ..| .slk ..| .ptr ..| .any| .un| .bool _| .int ..| .str _| .list _| .nil0| .bY| .cT| .lptr _=>by simp[ba,AV.aw]
 | .agg cs=>by simp[ba,AV.aw,cE ρ cs]
 | .eN cs=>by simp[ba,AV.aw,cE ρ cs]
 | .fn f fs cs=>by simp[ba,AV.aw,cE ρ fs,cE ρ cs]
 | .ifc t x=>by simp[ba,AV.aw,gx ρ x]
theorem cE (ρ:Lb→Lb):∀xs:List AV,ak (bn ρ xs)=(ak xs).map ρ
 |[]=>by simp[bn,ak]
 |x::r=>by simp[bn,ak,gx ρ x,cE ρ r]
end
theorem ed (ρ:Lb→Lb):∀(xs:List AV) (i:Nat),(bn ρ xs)[i]?=xs[i]?.map (ba ρ)
 |[],i=>by simp[bn]
 |x::r,0=>by simp[bn]
 |x::r,i+1=>by simp[bn,ed ρ r i]
theorem ee (ρ:Lb→Lb):∀(xs:List AV),(bn ρ xs).length=xs.length
 |[]=>rfl
 |x::r=>by simp[bn,ee ρ r]
structure dM (w w':World) (β β':Lb→Option Nat) (H H':Hp) (I I':Nat→Prop) (ρ:Lb→Lb) (ls:List Lb):Prop extends bW w w' I I' where
 lb:∀l∈ls,live H' l→live H (ρ l)∧β' l=β (ρ l)∧∀g S,β (ρ l)=some g→cG w g=some S→cG w' g=some S
theorem dM.sub {w w':World} {β β':Lb→Option Nat} {H H':Hp} {I I':Nat→Prop} {ρ:Lb→Lb} {ls ra:List Lb} (h:dM w w' β β' H H' I I' ρ ls) (hs:∀l∈ra,l∈ls) :
 dM w w' β β' H H' I I' ρ ra:=⟨h.tobW,fun l hl=>h.lb l (hs l hl)⟩
mutual
theorem RV.ba {w w':World} {β β':Lb→Option Nat} {H H':Hp} {I I':Nat→Prop} {ρ:Lb→Lb}:∀(x:AV) (v:Value),dM w w' β β' H H' I I' ρ x.aw→RV w β H I (Am.ba ρ x) v→RV w' β' H' I' x v
 | .any,_,_,_=>by simp[RV]
 | .un,_,_,hv=>by simpa[RV,Am.ba] using hv
 | .bool _,_,_,hv=>by simpa[RV,Am.ba] using hv
 | .int _ _,_,_,hv=>by simpa[RV,Am.ba] using hv
 | .str _,_,_,hv=>by simpa[RV,Am.ba] using hv
 | .nil0,_,_,hv=>by simpa[RV,Am.ba] using hv
 | .bY,_,_,hv=>by simpa[RV,Am.ba] using hv
 | .cT,_,_,hv=>by simpa[RV,Am.ba] using hv
 | .list xs,v,h,hv=>by simp only[RV,Am.ba] at hv ⊢;exact bA.mono h.tobW _ _ hv
 | .agg cs,v,h,hv=>by
  simp only[RV,Am.ba] at hv ⊢;obtain⟨vs,rfl,h1⟩:=hv;exact⟨vs,rfl,au.ba cs vs (by simpa[AV.aw] using h) h1⟩
 | .eN cs,v,h,hv=>by
  simp only[RV,Am.ba] at hv ⊢;obtain⟨vs,rfl,h1⟩:=hv;exact⟨vs,rfl,au.ba cs vs (by simpa[AV.aw] using h) h1⟩
 | .slk l sz i n c,v,h,hv=>by
  simp only[RV,Am.ba] at hv ⊢;obtain⟨a,h1,h2,h3,h4,h5⟩:=hv;refine⟨a,h1,h2,h3,h4,fun hl=> ?_⟩;obtain⟨k1,k2,k3⟩:=h.lb l (by simp[AV.aw]) hl;rcases h5 k1 with h6|⟨g,S,e1,e2,e3,e4⟩
  ·exact .inl h6
  ·exact .inr ⟨g,S,k2.trans e1,e2,k3 g S e1 e3,e4⟩
 | .sl l sz i n,v,h,hv=>by
  simp only[RV,Am.ba] at hv ⊢;obtain⟨a,c,h1,h2,h3,h4,h5⟩:=hv;refine⟨a,c,h1,h2,h3,h4,fun hl=> ?_⟩;obtain⟨k1,k2,k3⟩:=h.lb l (by simp[AV.aw]) hl;rcases h5 k1 with h6|⟨g,S,e1,e2,e3,e4⟩
  ·exact .inl h6
  ·exact .inr ⟨g,S,k2.trans e1,e2,k3 g S e1 e3,e4⟩
 | .ptr l sz i j,v,h,hv=>by
  simp only[RV,Am.ba] at hv ⊢;obtain⟨a,h1,h2⟩:=hv;refine⟨a,h1,fun hl=> ?_⟩;obtain⟨k1,k2,k3⟩:=h.lb l (by simp[AV.aw]) hl;obtain⟨g,e1,e2⟩:=h2 k1;exact⟨g,k2.trans e1,e2⟩
 | .lptr cs,v,h,hv=>by
  simp only[RV,Am.ba] at hv ⊢;obtain⟨b,o,h1,h2,h3,h4⟩:=hv;obtain⟨k1,k2,_⟩:=h.im b h2 h3;exact⟨b,o,h1,k1,k2,ay.mono h.tobW cs b o h2 h3 h4⟩
 | .fn f fs cs,v,h,hv=>by
  simp only[RV,Am.ba] at hv ⊢;obtain⟨vs,us,rfl,h1,h2⟩:=hv;exact⟨vs,us,rfl,au.ba fs vs (h.sub (by simp[AV.aw];intro l hl;exact .inl hl)) h1,au.ba cs us (h.sub (by simp[AV.aw];intro l hl;exact .inr hl)) h2⟩
 | .ifc t x,v,h,hv=>by
  simp only[RV,Am.ba] at hv ⊢;obtain⟨u,rfl,h1⟩:=hv;exact⟨u,rfl,RV.ba x u (by simpa[AV.aw] using h) h1⟩
theorem au.ba {w w':World} {β β':Lb→Option Nat} {H H':Hp} {I I':Nat→Prop} {ρ:Lb→Lb}:∀(xs:List AV) (vs:List Value),dM w w' β β' H H' I I' ρ (ak xs)→au w β H I (bn ρ xs) vs→au w' β' H' I' xs vs
 |[],_,_,hv=>by simpa[au,bn] using hv
 |x::r,vs,h,hv=>by
  simp only[au,bn] at hv ⊢;obtain⟨v,us,rfl,h1,h2⟩:=hv;exact⟨v,us,rfl,RV.ba x v (h.sub (by simp[ak];intro l hl;exact .inl hl)) h1,au.ba r us (h.sub (by simp[ak];intro l hl;exact .inr hl)) h2⟩
end
mutual
theorem RV.fF {w w':World} {β β':Lb→Option Nat} {H H':Hp} {I I':Nat→Prop} {ρ:Lb→Lb}:∀(x:AV) (v:Value),bW w w' I I' →
  (∀l∈x.aw,live H' (ρ l)→live H l∧β' (ρ l)=β l∧∀g S,β l=some g→cG w g=some S→cG w' g=some S)→RV w β H I x v→RV w' β' H' I' (Am.ba ρ x) v
 | .any,_,_,_,_=>by simp[RV,Am.ba]
 | .un,_,_,_,hv=>by simpa[RV,Am.ba] using hv
 | .bool _,_,_,_,hv=>by simpa[RV,Am.ba] using hv
 | .int _ _,_,_,_,hv=>by simpa[RV,Am.ba] using hv
 | .str _,_,_,_,hv=>by simpa[RV,Am.ba] using hv
 | .nil0,_,_,_,hv=>by simpa[RV,Am.ba] using hv
 | .bY,_,_,_,hv=>by simpa[RV,Am.ba] using hv
 | .cT,_,_,_,hv=>by simpa[RV,Am.ba] using hv
 | .list xs,v,h,_,hv=>by simp only[RV,Am.ba] at hv ⊢;exact bA.mono h _ _ hv
 | .agg cs,v,h,hl,hv=>by
  simp only[RV,Am.ba] at hv ⊢;obtain⟨vs,rfl,h1⟩:=hv;exact⟨vs,rfl,au.fF cs vs h (by simpa[AV.aw] using hl) h1⟩
 | .eN cs,v,h,hl,hv=>by
  simp only[RV,Am.ba] at hv ⊢;obtain⟨vs,rfl,h1⟩:=hv;exact⟨vs,rfl,au.fF cs vs h (by simpa[AV.aw] using hl) h1⟩
 | .slk l sz i n c,v,h,hl,hv=>by
  simp only[RV,Am.ba] at hv ⊢;obtain⟨a,h1,h2,h3,h4,h5⟩:=hv;refine⟨a,h1,h2,h3,h4,fun hq=> ?_⟩;obtain⟨k1,k2,k3⟩:=hl l (by simp[AV.aw]) hq;rcases h5 k1 with h6|⟨g,S,e1,e2,e3,e4⟩
  ·exact .inl h6
  ·exact .inr ⟨g,S,k2.trans e1,e2,k3 g S e1 e3,e4⟩
 | .sl l sz i n,v,h,hl,hv=>by
  simp only[RV,Am.ba] at hv ⊢;obtain⟨a,c,h1,h2,h3,h4,h5⟩:=hv;refine⟨a,c,h1,h2,h3,h4,fun hq=> ?_⟩;obtain⟨k1,k2,k3⟩:=hl l (by simp[AV.aw]) hq;rcases h5 k1 with h6|⟨g,S,e1,e2,e3,e4⟩
  ·exact .inl h6
  ·exact .inr ⟨g,S,k2.trans e1,e2,k3 g S e1 e3,e4⟩
 | .ptr l sz i j,v,h,hl,hv=>by
  simp only[RV,Am.ba] at hv ⊢;obtain⟨a,h1,h2⟩:=hv;refine⟨a,h1,fun hq=> ?_⟩;obtain⟨k1,k2,k3⟩:=hl l (by simp[AV.aw]) hq;obtain⟨g,e1,e2⟩:=h2 k1;exact⟨g,k2.trans e1,e2⟩
 | .lptr cs,v,h,_,hv=>by
  simp only[RV,Am.ba] at hv ⊢;obtain⟨b,o,h1,h2,h3,h4⟩:=hv;obtain⟨k1,k2,_⟩:=h.im b h2 h3;exact⟨b,o,h1,k1,k2,ay.mono h cs b o h2 h3 h4⟩
 | .fn f fs cs,v,h,hl,hv=>by
  simp only[RV,Am.ba] at hv ⊢;obtain⟨vs,us,rfl,h1,h2⟩:=hv;exact⟨vs,us,rfl,au.fF fs vs h (fun l q=>hl l (by simp[AV.aw,q])) h1,au.fF cs us h (fun l q=>hl l (by simp[AV.aw,q])) h2⟩
 | .ifc t x,v,h,hl,hv=>by
  simp only[RV,Am.ba] at hv ⊢;obtain⟨u,rfl,h1⟩:=hv;exact⟨u,rfl,RV.fF x u h (by simpa[AV.aw] using hl) h1⟩
theorem au.fF {w w':World} {β β':Lb→Option Nat} {H H':Hp} {I I':Nat→Prop} {ρ:Lb→Lb}:∀(xs:List AV) (vs:List Value),bW w w' I I' →
  (∀l∈ak xs,live H' (ρ l)→live H l∧β' (ρ l)=β l∧∀g S,β l=some g→cG w g=some S→cG w' g=some S)→au w β H I xs vs→au w' β' H' I' (bn ρ xs) vs
 |[],_,_,_,hv=>by simpa[au,bn] using hv
 |x::r,vs,h,hl,hv=>by
  simp only[au,bn] at hv ⊢;obtain⟨v,us,rfl,h1,h2⟩:=hv;exact⟨v,us,rfl,RV.fF x v h (fun l q=>hl l (by simp[ak,q])) h1,au.fF r us h (fun l q=>hl l (by simp[ak,q])) h2⟩
end
theorem aj.mI (hr:aj K β env H a w) (ρ:Lb→Lb) {env2:Env} {H2:Hp} (hE:∀n,env2 n= .any∨env n=ba ρ (env2 n)) (hH:∀l r,H2 l= .live r→H (ρ l)= .live (b9 ρ r))
   (pa:∀l l',live H2 l→live H2 l'→ρ l=ρ l'→l=l') (hm:∀n,∀l∈(env2 n).aw,H2 l≠ .unused) (tQ:∀l r,H2 l= .live r→∀cs∈r.aQ,∀q∈ak cs,H2 q≠ .unused)
   (dV:∀l,live K.H0 l→H2 l≠ .unused∧(live H2 l→ρ l=l)) (sZ:∀l,live H2 l→l.fresh=true→(ρ l).fresh=true):aj K (fun l=>β (ρ l)) env2 H2 a w:=by
 have aq:∀l,live H2 l→live H (ρ l):=fun l ⟨r,h⟩=>⟨_,hH l r h⟩
 have aT:∀ls,dM w w β (fun l=>β (ρ l)) H H2 (Im K β H) (Im K (fun l=>β (ρ l)) H2) ρ ls:=fun ls=>
   { im := fun k hk hs => ⟨⟨hk.1,fun l hl => hk.2 (ρ l) (aq l hl)⟩,hs,rfl⟩
     lb:=fun l _ hl=>⟨aq l hl,rfl,fun _ _ _ h=>h⟩}
 refine⟨hr.defers,hr.size,?_,?_,fun l g hl hb=>hr.own (ρ l) g (aq l hl) hb,fun l l' g h1 h2 g1 g2=>pa l l' h1 h2 (hr.inj _ _ g (aq l h1) (aq l' h2) g1 g2),hm,tQ,hr.frame,?_,?_,fun l g hl hf hb=>hr.fr (ρ l) g (aq l hl) (sZ l hl hf) hb⟩
 · intro n
   rcases hE n with h|h
   · rw[h];simp[RV]
   · exact RV.ba _ _ (aT _) (by rw[←h];exact hr.cd n)
 · intro l r h
   obtain⟨h1,h2,h3⟩:=hr.rows (ρ l) _ (hH l r h)
   refine⟨h1,fun cs aN=> ?_,?_⟩
   · have:=h2 (bn ρ cs) (List.mem_map_of_mem aN)
     rwa[ee] at this
   · cases hb:β (ρ l) with
     |none=>simp only[hb] at h3 ⊢;simpa[b9] using h3
     |some g=>
       simp only[hb] at h3 ⊢
       obtain⟨cur,e,cap,e1,e2,e3,e4,e5⟩:=h3
       refine⟨cur,e,cap,e1,e2,e3,by simpa[b9] using e4,fun i j cs x hi hj=> ?_⟩
       obtain⟨v,k1,k2⟩:=e5 i j (bn ρ cs) (ba ρ x) (by simp[b9,hi]) (by rw[ed,hj];rfl)
       exact⟨v,k1,RV.ba _ _ (aT _) k2⟩
 · intro g cs hg
   obtain⟨h1,h2,h3⟩:=hr.cf g cs hg
   exact⟨((aT []).im g h1 h2).1,h2,bD.mono (aT []).tobW h1 h2 h3⟩
 · intro l hl
   obtain⟨h1,h2⟩:=dV l hl
   refine⟨h1,fun h=> ?_⟩
   have e:=h2 h
   simp only[e]
   exact(hr.cx l hl).2 (e▸aq l h)
theorem fU (hr:aj K β env H a w) {f:Nat} {args:List AV} {vs:List Value} {res:AV} (hp:aW K.P K.G f args res) (hv:au w β H (Im K β H) args vs)
   (u_:True):Calls K.P f vs.toArray w fun e w'=>∃v,e= .returned v∧cZ w w'∧RV w' β H (Im K β H) res v:=by
 obtain⟨h1,h2,h3⟩:=hp
 have eR:aj (bh K.P K.G w (Im K β H) β Hp.none) β Env.any Hp.none fi w:=
   { defers := rfl,size := rfl
     cd:=fun n=>by simp[Env.any,RV]
     rows:=fun l r h=>by simp[Hp.none] at h
     own:=fun l g ⟨r,h⟩=>by simp[Hp.none] at h
     inj:=fun l l' g ⟨r,h⟩=>by simp[Hp.none] at h
     bB:=fun n=>by simp[Env.any,AV.aw]
     aK:=fun l r h=>by simp[Hp.none] at h
     frame:=⟨rfl,rfl,rfl,Nat.le_refl _,fun _ _ _=>rfl,fun _ _ h=>h⟩
     cx:=fun l ⟨r,h⟩=>by simp[bh,Hp.none] at h
     fr:=fun l g ⟨r,h⟩=>by simp[Hp.none] at h
     cf:=fun g cs hg=>by
       obtain⟨k1,k2,k3⟩:=hr.cf g cs hg
       have kp:bW w w (Im K β H) (Im (bh K.P K.G w (Im K β H) β Hp.none) β Hp.none):=⟨fun k hk hs=>⟨⟨.inl hk,fun l ⟨r,h⟩=>by simp[Hp.none] at h⟩,hs,rfl⟩⟩
       exact⟨(kp.im g k1 k2).1,k2,bD.mono kp k1 k2 k3⟩}
 have kp:bC w w β β H Hp.none (Im K β H) (Im (bh K.P K.G w (Im K β H) β Hp.none) β Hp.none) (ak args):=
   { im := fun k hk hs => ⟨⟨.inl hk,fun l ⟨r,h⟩ => by simp [Hp.none] at h⟩,hs,rfl⟩
     lb:=fun l hl=>by rw[h1] at hl;simp at hl}
 refine(h3 w (Im K β H) β vs eR (au.mono _ _ kp hv)).mono ?_
 rintro e w' ⟨v,x,H',β',rfl,rfl,k1,k2,_⟩
 have gw:cZ w w':=by
   refine⟨k1.frame.os,k1.frame.tape,k1.frame.output,k1.frame.size,fun k hk=>k1.frame.block k hk ?_⟩
   rintro⟨l,⟨r,h⟩,_⟩
   simp[Hp.none] at h
 refine⟨v,rfl,gw,RV.mono _ _ ?_ k2⟩
 refine {im:=fun k hk hs=>⟨?_,hs,rfl⟩,lb:=fun l hl=>by rw[h2] at hl;simp at hl}
 rcases hk.1 with h|h
 · exact h
 · refine⟨.inr (Nat.le_trans hr.frame.size h),fun l hl hb=> ?_⟩
   have:=hr.eu hl hb
   have h':w.heap.size≤k:=h
   omega
mutual
theorem RV.scalar {w w':World} {β β':Lb→Option Nat} {H H':Hp} {I I':Nat→Prop}:∀(x:AV) (v:Value),x.scalar=true→RV w β H I x v→RV w' β' H' I' x v
 | .bool _,_,_,h| .int _ _,_,_,h| .str _,_,_,h| .bY,_,_,h| .cT,_,_,h=>by simpa[RV] using h
 | .eN cs,v,hs,h=>by
  simp only[RV] at h ⊢;obtain⟨vs,h1,h2⟩:=h;exact⟨vs,h1,au.scalar cs vs (by simpa[AV.scalar] using hs) h2⟩
 | .any,_,hs,_| .un,_,hs,_| .list _,_,hs,_| .nil0,_,hs,_| .agg _,_,hs,_| .sl ..,_,hs,_| .slk ..,_,hs,_| .ptr ..,_,hs,_| .lptr _,_,hs,_| .fn ..,_,hs,_| .ifc ..,_,hs,_=>by simp[AV.scalar] at hs
theorem au.scalar {w w':World} {β β':Lb→Option Nat} {H H':Hp} {I I':Nat→Prop}:∀(xs:List AV) (vs:List Value),scalars xs=true→au w β H I xs vs→au w' β' H' I' xs vs
 |[],_,_,h=>by simpa[au] using h
 |x::r,vs,hs,h=>by
  simp only[scalars,Bool.and_eq_true] at hs;simp only[au] at h ⊢;obtain⟨v,us,h1,h2,h3⟩:=h;exact⟨v,us,h1,RV.scalar x v hs.1 h2,au.scalar r us hs.2 h3⟩
end
theorem gZ (hr : aj K β env H a w) {I : Nat → Prop} (hI : ∀ k,Im K β H k → I k) (hB : ∀ l g,live H l → β l = some g → I g) : ∀ (args a8 : List AV) (vs : List Value),cz (kI H) args a8 → ak a8 = [] → au w β H (Im K β H) args vs → au w β Hp.none I a8 vs
 |_,_,vs,.nil,_,hv=>by simpa[au] using hv
 |_,_,vs,@cz.cons _ _ _ x y args a8 v_ ht,hl,hv=>by
   simp only[ak,List.append_eq_nil_iff] at hl
   simp only[au] at hv ⊢
   obtain⟨v,us,h1,h2,h3⟩:=hv
   refine⟨v,us,h1,?_,gZ hr hI hB _ _ us ht hl.2 h3⟩
   have hk:bW w w (Im K β H) I:=⟨fun k hk hs=>⟨hI k hk,hs,rfl⟩⟩
   cases v_ with
   |same=>
     exact RV.mono x v {im:=hk.im,lb:=fun l hq=>by rw[hl.1] at hq;simp at hq} h2
   |row l sz i n xs hH jI r6=>
     simp only[RV] at h2
     obtain⟨ad,c,rfl,g2,g3,g4,g5⟩:=h2
     simp only[RV,bA]
     have hlen:((xs.drop i).take n).length=n:=by simp;omega
     rw[hlen]
     refine⟨ad,c,rfl,g2,g3,?_⟩
     by_cases hn:n=0
     · exact .inl hn
     · right
       rcases g5 ⟨_,hH⟩ with h6|⟨g,Sz,e1,e2,e3,e4⟩
       · omega
       · obtain⟨cur,e0,cap,k1,k2,k3,k4,k5⟩:=(hr.rows l _ hH).block e1
         have cV:0<sz:=(hr.rows l _ hH).1
         refine⟨g,i*sz,sz,e2,hB l g ⟨_,hH⟩ e1,(Array.getElem?_eq_some_iff.1 k1).1,cV,cD _ _ _ (fun k y hy=> ?_)⟩
         have pb:xs[i+k]?=some y:=by
           rw[List.getElem?_take] at hy
           split at hy
           · rwa[List.getElem?_drop] at hy
           · simp at hy
         rw[bx]
         have jj:y.cells.length=sz:=by
           have:=(hr.rows l _ hH).2.1 (y.cells.map IV.bV) (by
             simp only[cj]
             exact List.mem_map_of_mem (f:=fun y:IV=>y.cells.map IV.bV) (List.mem_of_getElem? pb))
           simpa using this
         refine⟨jj.symm,cC _ _ _ (fun j z hz=> ?_)⟩
         obtain⟨u,q1,q2⟩:=k5 (i+k) j (y.cells.map IV.bV) z.bV (by simp[cj,pb]) (by simp[hz])
         refine⟨u,?_,iQ hk (r6 y (List.mem_of_getElem? pb) z (List.mem_of_getElem? hz)) q2⟩
         rw[cell_of_row w g _ cur e0 (0,0) k1,←q1]
         congr 1
         rw[Nat.add_mul]
theorem jV (hr:aj K β env H a w) {f:Nat} {args a8:List AV} {vs:List Value} {res:AV} (ha:cz (kI H) args a8) (hp:aW K.P K.G f a8 res) (g_:res.scalar=true) (hv:au w β H (Im K β H) args vs) :
   Calls K.P f vs.toArray w fun e w'=>∃v,e= .returned v∧cZ w w'∧RV w' β H (Im K β H) res v:=by
 obtain⟨h1,h2,h3⟩:=hp
 obtain⟨A,hA⟩:∃A:Nat→Prop,A=fun k=>Im K β H k∨∃l,live H l∧β l=some k:=⟨_,rfl⟩
 have tR:∀k,A k→Im (bh K.P K.G w A β Hp.none) β Hp.none k:=fun k hk=>⟨.inl hk,fun l ⟨r,h⟩=>by simp[Hp.none] at h⟩
 have eR:aj (bh K.P K.G w A β Hp.none) β Env.any Hp.none fi w:=
   { defers := rfl,size := rfl
     cd:=fun n=>by simp[Env.any,RV]
     rows:=fun l r h=>by simp[Hp.none] at h
     own:=fun l g ⟨r,h⟩=>by simp[Hp.none] at h
     inj:=fun l l' g ⟨r,h⟩=>by simp[Hp.none] at h
     bB:=fun n=>by simp[Env.any,AV.aw]
     aK:=fun l r h=>by simp[Hp.none] at h
     frame:=⟨rfl,rfl,rfl,Nat.le_refl _,fun _ _ _=>rfl,fun _ _ h=>h⟩
     cx:=fun l ⟨r,h⟩=>by simp[bh,Hp.none] at h
     fr:=fun l g ⟨r,h⟩=>by simp[Hp.none] at h
     cf:=fun g cs hg=>by
       obtain⟨k1,k2,k3⟩:=hr.cf g cs hg
       have kp:bW w w (Im K β H) (Im (bh K.P K.G w A β Hp.none) β Hp.none):=⟨fun k hk hs=>⟨tR k (by rw[hA];exact .inl hk),hs,rfl⟩⟩
       exact⟨(kp.im g k1 k2).1,k2,bD.mono kp k1 k2 k3⟩}
 have wa:=gZ hr (I:=Im (bh K.P K.G w A β Hp.none) β Hp.none) (fun k hk=>tR k (by rw[hA];exact .inl hk)) (fun l g hl hg=>tR g (by rw[hA];exact .inr ⟨l,hl,hg⟩)) args a8 vs ha h1 hv
 refine(h3 w A β vs eR wa).mono ?_
 rintro e w' ⟨v,x,H',β',rfl,rfl,k1,k2,_⟩
 have gw:cZ w w':=by
   refine⟨k1.frame.os,k1.frame.tape,k1.frame.output,k1.frame.size,fun k hk=>k1.frame.block k hk ?_⟩
   rintro⟨l,⟨r,h⟩,_⟩
   simp[Hp.none] at h
 exact⟨v,rfl,gw,RV.scalar _ _ g_ k2⟩
open Classical in
theorem jW (hr:aj K β env H a w) {f:Nat} {a8:List AV} {vs:List Value} {cq:Hp} {Q:AV→Hp→Prop} {ρ:Lb→Lb} (hs:bQ K.P K.G f a8 cq Q)
   (hH:∀l r,cq l= .live r→H (ρ l)= .live (b9 ρ r)) (w9:∀l,cq l≠ .unused→live cq l)
   (pa:∀l l',live cq l→live cq l'→ρ l=ρ l'→l=l') (gI:∀l∈ak a8,cq l≠ .unused) (va:∀l,live cq l→l.fresh=false) (tQ:∀l r,cq l= .live r→∀cs∈r.aQ,∀q∈ak cs,cq q≠ .unused)
   (hv:au w β H (Im K β H) (bn ρ a8) vs):Calls K.P f vs.toArray w fun e w'=>∃v x H',e= .returned v∧Q x H' ∧
     ∀(ρ':Lb→Lb) (dD:Hp),(∀l,live cq l→live H' l→ρ' l=ρ l) →
     (∀q r,dD q= .live r→(H q= .live r∧∀l,live cq l→ρ l≠q)∨∃l r',H' l= .live r'∧ρ' l=q∧r=b9 ρ' r') →
     (∀l l',live H' l→live H' l'→ρ' l=ρ' l'→l=l') →
     (∀q,H q≠ .unused→dD q≠ .unused)→(∀l∈x.aw,dD (ρ' l)≠ .unused) →
     (∀l r',H' l= .live r'→∀cs∈r'.aQ,∀q∈ak cs,dD (ρ' q)≠ .unused) →
     (∀l,live H' l→live cq l∨(H (ρ' l)= .unused∧((ρ' l).fresh=true→l.fresh=true∨∀z,live cq z→(ρ z).fresh=true))) →
     (∀l,(l∈x.aw∨∃l1 r1 cs,H' l1= .live r1∧cs∈r1.aQ∧l∈ak cs)→live dD (ρ' l)→live H' l) →
     ∃de,aj K de env dD a w'∧RV w' de dD (Im K de dD) (ba ρ' x) v:=by
 have aq:∀l,live cq l→live H (ρ l):=fun l ⟨r,h⟩=>⟨_,hH l r h⟩
 have s3:∀ls,dM w w β (fun l=>β (ρ l)) H cq (Im K β H) (Im (bh K.P K.G w (Im K β H) (fun l=>β (ρ l)) cq) (fun l=>β (ρ l)) cq) ρ ls:=fun ls=>
   { im := fun k hk hs => ⟨⟨.inl hk,fun l hl => hk.2 (ρ l) (aq l hl)⟩,hs,rfl⟩
     lb:=fun l _ hl=>⟨aq l hl,rfl,fun _ _ _ h=>h⟩}
 have eR:aj (bh K.P K.G w (Im K β H) (fun l=>β (ρ l)) cq) (fun l=>β (ρ l)) Env.any cq fi w:=
   { defers := rfl,size := rfl
     cd:=fun n=>by simp[Env.any,RV]
     rows:=fun l r h=>by
       obtain⟨h1,h2,h3⟩:=hr.rows (ρ l) _ (hH l r h)
       refine⟨h1,fun cs aN=> ?_,?_⟩
       · have:=h2 (bn ρ cs) (List.mem_map_of_mem aN)
         rwa[ee] at this
       · cases hb:β (ρ l) with
         |none=>simp only[hb] at h3 ⊢;simpa[b9] using h3
         |some g=>
           simp only[hb] at h3 ⊢
           obtain⟨cur,e,cap,e1,e2,e3,e4,e5⟩:=h3
           refine⟨cur,e,cap,e1,e2,e3,by simpa[b9] using e4,fun i j cs x hi hj=> ?_⟩
           obtain⟨v,k1,k2⟩:=e5 i j (bn ρ cs) (ba ρ x) (by simp[b9,hi]) (by rw[ed,hj];rfl)
           exact⟨v,k1,RV.ba _ _ (s3 _) k2⟩
     own:=fun l g hl hb=> .inl ⟨l,hl,hb⟩
     inj:=fun l l' g h1 h2 g1 g2=>pa l l' h1 h2 (hr.inj _ _ g (aq l h1) (aq l' h2) g1 g2)
     bB:=fun n=>by simp[Env.any,AV.aw]
     aK:=tQ
     frame:=⟨rfl,rfl,rfl,Nat.le_refl _,fun _ _ _=>rfl,fun _ _ h=>h⟩
     cf:=fun g cs hg=>by
       obtain⟨k1,k2,k3⟩:=hr.cf g cs hg
       exact⟨((s3 []).im g k1 k2).1,k2,bD.mono (s3 []).tobW k1 k2 k3⟩
     cx:=fun l hl=>⟨by obtain⟨r,h⟩:=hl;simp only[bh] at h;simp[h],fun _=>rfl⟩
     fr:=fun l g hl hf=>by rw[va l hl] at hf;cases hf}
 refine(hs w (Im K β H) (fun l=>β (ρ l)) vs eR (au.ba _ _ (s3 _) hv)).mono ?_
 rintro e w' ⟨v,x,H',β',rfl,hq,hc,o6,w_⟩
 refine⟨v,x,H',rfl,hq,?_⟩
 intro ρ' dD p1 p2 p3 p4 p5 p6 p7 p8
 let de:Lb→Option Nat:=fun q=>if h:∃l,live H' l∧ρ' l=q then β' (Classical.choose h) else β q
 have rS:∀l,live H' l→de (ρ' l)=β' l:=by
   intro l hl
   have h:∃l',live H' l'∧ρ' l'=ρ' l:=⟨l,hl,rfl⟩
   have aN:=Classical.choose_spec h
   have e:Classical.choose h=l:=p3 _ _ aN.1 hl aN.2
   show(if h:∃l',live H' l'∧ρ' l'=ρ' l then β' (Classical.choose h) else β (ρ' l))=β' l
   rw[dif_pos h,e]
 have sW:∀q,live H q→(∀l,live cq l→ρ l≠q)→de q=β q:=by
   intro q gJ tU
   have h:¬∃l,live H' l∧ρ' l=q:=by
     rintro⟨l,hl,rfl⟩
     rcases p7 l hl with h|⟨h,_⟩
     · exact tU l h (p1 l h hl).symm
     · obtain⟨r,h'⟩:=gJ;rw[h] at h';cases h'
   show(if h:∃l,live H' l∧ρ' l=q then β' (Classical.choose h) else β q)=β q
   rw[dif_neg h]
 have gy:∀q,live dD q→(live H q∧(∀l,live cq l→ρ l≠q)∧de q=β q)∨∃l,live H' l∧ρ' l=q∧de q=β' l:=by
   rintro q ⟨r,h⟩
   rcases p2 q r h with⟨h1,h2⟩|⟨l,r',h1,rfl,_⟩
   · exact .inl ⟨⟨r,h1⟩,h2,sW q ⟨r,h1⟩ h2⟩
   · exact .inr ⟨l,⟨r',h1⟩,rfl,rS l ⟨r',h1⟩⟩
 have hC:∀l g,live H' l→β' l=some g→(∃l0,live cq l0∧β (ρ l0)=some g)∨w.heap.size≤g:=by
   intro l g hl hg
   rcases hc.own l g hl hg with h|h
   · exact .inl h
   · exact .inr h
 have og:∀l,live cq l→live H' l→β' l=β (ρ l):=fun l h1 h2=>(hc.cx l h1).2 h2
 have hG:∀k,k<w.heap.size→(∀l,live cq l→β (ρ l)≠some k)→w'.heap[k]?=w.heap[k]?:=by
   intro k hk tU
   refine hc.frame.block k hk ?_
   rintro⟨l,hl,hb⟩
   exact tU l hl hb
 have qP:∀k,Im K β H k→k<w.heap.size→Im K de dD k∧k<w'.heap.size∧w'.heap[k]?=w.heap[k]?:=by
   intro k hk kB
   refine⟨⟨hk.1,fun q gJ hb=> ?_⟩,Nat.lt_of_lt_of_le kB hc.frame.size,hG k kB (fun l hl=>hk.2 _ (aq l hl))⟩
   rcases gy q gJ with⟨h1,h2,h3⟩|⟨l,h1,h2,h3⟩
   · rw[h3] at hb;exact hk.2 q h1 hb
   · rw[h3] at hb
     rcases hC l k h1 hb with⟨l0,h4,h5⟩|h4
     · exact hk.2 _ (aq l0 h4) h5
     · omega
 have vb:∀q,H q≠ .unused→live dD q→live H q∧de q=β q∧∀g S,β q=some g→cG w g=some S→cG w' g=some S:=by
   intro q hu gJ
   refine⟨?_,?_,fun g S _ h=>hc.frame.bs g S h⟩
   · rcases gy q gJ with⟨h1,h2,h3⟩|⟨l,h1,h2,h3⟩
     · exact h1
     · rcases p7 l h1 with h|⟨h,_⟩
       · have e:=p1 l h h1;rw[←h2,e];exact aq l h
       · rw[h2] at h;exact absurd h hu
   · rcases gy q gJ with⟨h1,h2,h3⟩|⟨l,h1,h2,h3⟩
     · exact h3
     · rcases p7 l h1 with h|⟨h,_⟩
       · rw[h3,og l h h1,←h2,p1 l h h1]
       · rw[h2] at h;exact absurd h hu
 have aT:∀ls,(∀q∈ls,H q≠ .unused)→bC w w' β de H dD (Im K β H) (Im K de dD) ls:=fun ls oR=>
   {im:=qP,lb:=fun q oh l6=>vb q (oR q oh) l6}
 have r8:bW w' w' (Im (bh K.P K.G w (Im K β H) (fun l=>β (ρ l)) cq) β' H') (Im K de dD):=⟨by
   intro k hk kB
   refine⟨⟨?_,fun q gJ hb=> ?_⟩,kB,rfl⟩
   · rcases hk.1 with h|h
     · exact h.1
     · exact .inr (Nat.le_trans hr.frame.size h)
   · rcases gy q gJ with⟨h1,h2,h3⟩|⟨l,h1,h2,h3⟩
     · rw[h3] at hb
       rcases hk.1 with h|h
       · exact h.2 q h1 hb
       · have:=hr.eu h1 hb
         have h':w.heap.size≤k:=h
         omega
     · rw[h3] at hb
       exact hk.2 l h1 hb⟩
 have jj:∀l,(l∈x.aw∨∃l1 r1 cs,H' l1= .live r1∧cs∈r1.aQ∧l∈ak cs)→live dD (ρ' l)→live H' l∧de (ρ' l)=β' l∧∀g S,β' l=some g→cG w' g=some S→cG w' g=some S:=by
   intro l h1 h2
   have h3:=p8 l h1 h2
   exact⟨h3,rS l h3,fun _ _ _ h=>h⟩
 refine⟨de,⟨hr.defers,hr.size,fun n=>RV.mono _ _ (aT _ (hr.bB n)) (hr.cd n),?_,?_,?_,fun n q gJ=>p4 q (hr.bB n q gJ),?_,?_,?_,?_,?_⟩,RV.fF x v r8 (fun l hl=>jj l (.inl hl)) o6⟩
 · intro q r tV
   rcases p2 q r tV with⟨h1,h2⟩|⟨l,r',h1,rfl,rfl⟩
   · obtain⟨e1,e2,e3⟩:=hr.rows q r h1
     refine⟨e1,e2,?_⟩
     rw[sW q ⟨r,h1⟩ h2]
     cases hb:β q with
     |none=>simpa only[hb] using e3
     |some g=>
       simp only[hb] at e3 ⊢
       obtain⟨cur,e,cap,f1,f2,f3,f4,f5⟩:=e3
       have hg:g<w.heap.size:=(Array.getElem?_eq_some_iff.1 f1).1
       refine⟨cur,e,cap,(hG g hg (fun l hl wb=>h2 l hl (hr.inj _ _ g (aq l hl) ⟨r,h1⟩ wb hb))).trans f1,f2,f3,f4,fun i j cs y hi hj=> ?_⟩
       obtain⟨u,k1,k2⟩:=f5 i j cs y hi hj
       exact⟨u,k1,RV.mono _ _ (aT _ (fun p hp=>hr.aK q r h1 cs (List.mem_of_getElem? hi) p (aL _ _ _ hj p hp))) k2⟩
   · obtain⟨e1,e2,e3⟩:=hc.rows l r' h1
     refine⟨e1,?_,?_⟩
     · intro cs aN
       simp only[b9,List.mem_map] at aN
       obtain⟨qW,h0,rfl⟩:=aN
       rw[ee];exact e2 qW h0
     · rw[rS l ⟨r',h1⟩]
       cases hb:β' l with
       |none=>simp only[hb] at e3;simp[b9,e3]
       |some g=>
         simp only[hb] at e3 ⊢
         obtain⟨cur,e,cap,f1,f2,f3,f4,f5⟩:=e3
         refine⟨cur,e,cap,f1,f2,f3,by simpa[b9] using f4,fun i j cs y hi hj=> ?_⟩
         simp only[b9,List.getElem?_map,Option.map_eq_some_iff] at hi
         obtain⟨qW,hi,rfl⟩:=hi
         rw[ed,Option.map_eq_some_iff] at hj
         obtain⟨y0,hj,rfl⟩:=hj
         obtain⟨u,k1,k2⟩:=f5 i j qW y0 hi hj
         exact⟨u,k1,RV.fF _ _ r8 (fun p hp=>jj p (.inr ⟨l,r',qW,h1,List.mem_of_getElem? hi,aL _ _ _ hj p hp⟩)) k2⟩
 · intro q g gJ hb
   rcases gy q gJ with⟨h1,h2,h3⟩|⟨l,h1,h2,h3⟩
   · rw[h3] at hb;exact hr.own q g h1 hb
   · rw[h3] at hb
     rcases hC l g h1 hb with⟨l0,h4,h5⟩|h4
     · exact hr.own _ g (aq l0 h4) h5
     · exact .inr (Nat.le_trans hr.frame.size h4)
 · intro q1 q2 g oh l6 g1 g2
   rcases gy q1 oh with⟨h1,h2,h3⟩|⟨l,h1,h2,h3⟩
   · rw[h3] at g1
     rcases gy q2 l6 with⟨k1,k2,k3⟩|⟨l',k1,k2,k3⟩
     · rw[k3] at g2;exact hr.inj q1 q2 g h1 k1 g1 g2
     · rw[k3] at g2
       rcases hC l' g k1 g2 with⟨l0,h4,h5⟩|h4
       · exact absurd (hr.inj _ _ g (aq l0 h4) h1 h5 g1) (h2 l0 h4)
       · have:=hr.eu h1 g1;omega
   · rw[h3] at g1
     rcases gy q2 l6 with⟨k1,k2,k3⟩|⟨l',k1,k2,k3⟩
     · rw[k3] at g2
       rcases hC l g h1 g1 with⟨l0,h4,h5⟩|h4
       · exact absurd (hr.inj _ _ g (aq l0 h4) k1 h5 g2) (k2 l0 h4)
       · have:=hr.eu k1 g2;omega
     · rw[k3] at g2
       rw[←h2,←k2,hc.inj l l' g h1 k1 g1 g2]
 · intro q r tV cs aN p hp
   rcases p2 q r tV with⟨h1,h2⟩|⟨l,r',h1,rfl,rfl⟩
   · exact p4 p (hr.aK q r h1 cs aN p hp)
   · simp only[b9,List.mem_map] at aN
     obtain⟨qW,h0,rfl⟩:=aN
     rw[cE,List.mem_map] at hp
     obtain⟨p0,wc,rfl⟩:=hp
     exact p6 l r' h1 qW h0 p0 wc
 · refine⟨hc.frame.os.trans hr.frame.os,hc.frame.tape.trans hr.frame.tape,hc.frame.output.trans hr.frame.output,Nat.le_trans hr.frame.size hc.frame.size,fun k hk hd=> ?_,fun k S hS=>hc.frame.bs k S (hr.frame.bs k S hS)⟩
   refine(hG k (Nat.lt_of_lt_of_le hk hr.frame.size) (fun l hl hb=> ?_)).trans (hr.frame.block k hk hd)
   rcases hr.own _ k (aq l hl) hb with h|h
   · exact hd h
   · omega
 · intro g cs hg
   obtain⟨h1,h2,h3⟩:=hr.cf g cs hg
   obtain⟨k1,k2,k3⟩:=qP g h1 h2
   exact⟨k1,k2,bD.mono (aT [] (by simp)).tobW h1 h2 h3⟩
 · intro l hl
   obtain⟨h1,h2⟩:=hr.cx l hl
   refine⟨p4 l h1,fun h=> ?_⟩
   obtain⟨k1,k2,_⟩:=vb l h1 h
   rw[k2];exact h2 k1
 · intro q g gJ hf hb
   rcases gy q gJ with⟨h1,h2,h3⟩|⟨l,h1,h2,h3⟩
   · rw[h3] at hb;exact hr.fr q g h1 hf hb
   · rw[h3] at hb
     rcases p7 l h1 with h|⟨h,h'⟩
     · rw[og l h h1] at hb
       have e:ρ l=q:=by rw[←h2,p1 l h h1]
       rw[e] at hb
       exact hr.fr q g (e▸aq l h) hf hb
     · rcases h' (by rw[h2];exact hf) with tW|tW
       · exact Nat.le_trans hr.frame.size (hc.fr l g h1 tW hb)
       · rcases hC l g h1 hb with⟨l0,h4,h5⟩|h4
         · exact hr.fr _ g (aq l0 h4) (tW l0 h4) h5
         · exact Nat.le_trans hr.frame.size h4
end
end Go.Am

/- THE ABSTRACT MACHINE, part 13: a region's operations do what the instructions say. -/
namespace Go.Am
open Go Go.RowKit
section
variable {K:Kx} {β:Lb→Option Nat} {env:Env} {H:Hp} {a:Act} {w:World}
def fV (K:Kx) (env:Env) (d:Option Nat) (k:AV→Hp→Prop) (a':Act) (w':World):Prop:=∃x H',k x H'∧∃β',aj K β' (aM env d x) H' a' w'
theorem aR (hr:aj K β env H a w) {o:Oper} (hd:∀n,o.dst=some n→n<K.N) {x:AV} {k:AV→Hp→Prop} {Q:Exit→Act→World→Prop} (h:ai K β H a w o x) (hk:k x H) :
  o.wp K.P a w (fV K env o.dst k) Q:=by
 obtain⟨v,w',h1,h2,h3,h4⟩:=h;unfold Oper.wp;rw[h1];exact⟨x,H,hk,β,hr.step h2 hd (fun _=>h3) (fun _=>h4)⟩
theorem aS {o:Oper} {x:AV} {H':Hp} {k:AV→Hp→Prop} {Q:Exit→Act→World→Prop} (h:cn K env a w o o.dst x H') (hk:k x H') :
  o.wp K.P a w (fV K env o.dst k) Q:=by
 obtain⟨nx,w',β',v,h1,h2,h3⟩:=h;unfold Oper.wp;rw[h1];rcases h2 with rfl|⟨rfl,rfl⟩
 ·exact⟨x,H',hk,β',h3⟩
 ·exact⟨x,H',hk,β',h3⟩
theorem jo (hr:aj K β env H a w) {o:Oper} (hd:∀n,o.dst=some n→n<K.N) {f:Nat} {args:List AV} {vs:List Value} {k:AV→Hp→Prop} {Q:Exit→Act→World→Prop}
  (cJ:(execOp a.eval o).run K.P w= .ok (.enter f vs.toArray) w) (hv:au w β H (Im K β H) args vs) (hc:cY ⟨K.P,K.G,K.N⟩ f args H k):o.wp K.P a w (fV K env o.dst k) Q:=by
 unfold Oper.wp;rw[cJ];rcases hc with⟨res,hp,hk⟩|⟨a8,res,ha,hp,g_,hk⟩|⟨ρ,cq,a8,Q',h1,rfl,h3,h4,h5,h6,we,h7,h8⟩
 ·refine(fU hr hp hv trivial).mono ?_;rintro e w' ⟨v,rfl,gw,hx⟩;exact⟨res,H,hk,β,hr.step gw hd (fun _=>hx) (fun _ l hl=>by rw[hp.2.1] at hl;simp at hl)⟩
 ·refine(jV hr ha hp g_ hv).mono ?_;rintro e w' ⟨v,rfl,gw,hx⟩;exact⟨res,H,hk,β,hr.step gw hd (fun _=>hx) (fun _ l hl=>by rw[hp.2.1] at hl;simp at hl)⟩
 ·refine(jW hr h1 h3 h4 h5 h6 we h7 hv).mono ?_;rintro e w' ⟨v,x,H',rfl,hq,c6⟩;obtain⟨ρ',dD,p1,p2,p3,p4,p5,p6,p7,p8,hk⟩:=h8 x H' hq;obtain⟨de,q1,q2⟩:=c6 ρ' dD p1 p2 p3 p4 p5 p6 p7 p8
  exact⟨_,dD,hk,de,q1.step (Below.refl _ _) hd (fun _=>q2) (fun _ l hl=>by
   rw[gx,List.mem_map] at hl;obtain⟨l0,h0,rfl⟩:=hl;exact p5 l0 h0)⟩
theorem al {α γ:Type} {x:Option α} {f:α→Option γ} {y:γ} (h:x.bind f=some y):∃a,x=some a∧f a=some y:=Option.bind_eq_some_iff.1 h
theorem ar {α γ:Type} {x:Option α} {f:α→γ} {y:γ} (h:x.map f=some y):∃a,x=some a∧f a=y:=Option.map_eq_some_iff.1 h
theorem kJ {i:az} {x:O} (h:i.b'= .box x):i= .box x∨i= .fz x:=by
 cases i<;>simp[az.b'] at h<;>simp[h]
theorem kK {i:az} {s x:O} {sz b:Nat} (h:i.b'= .app s x sz b):i= .app s x sz b∨i= .fB s x sz b:=by
 cases i<;>simp[az.b'] at h<;>simp[h]
theorem jX {i:az} {n sz:Nat} {z:List AV} {ps:List (Nat×O)} (h:i.b'= .lits n sz z ps):i= .lits n sz z ps∨(n=1∧i= .bX sz z ps):=by
 cases i<;>simp[az.b'] at h<;>simp[h]
def az.pc:az→Bool
 | .box _| .app ..| .lits ..=>true
 |_=>false
theorem aJ {i j:az} (h:i.b'=j) (hj:j.pc=false):i=j:=by
 subst h;cases i<;>first|rfl|(simp[az.b',az.pc] at hj)
def az.plain:az→Bool
 | .load ..| .box _| .new _| .store ..| .app ..| .call ..| .bH ..| .jc ..| .gO ..| .n1 ..| .cap ..| .ir ..| .dW ..| .gk ..| .bX ..=>false
 |_=>true
theorem cF {S:St} {d:Option Nat} {i:az} {k:AV→Hp→Prop} (h:i.plain=true) (ha:an S d i env H k):∃x,aa i env=some x∧k x H:=by
 cases i<;>simp[az.plain] at h<;>exact ha
theorem fG (d:Nat) {P:Program} {t e:TypeId} (ht:P.underlying t=some (.slice e)) (a:Option Addr) (n c:Nat) :
  (Op.equalIn (d+1) t (.slice a n c) (.slice none 0 0)).run P w= .ok a.isNone w:=by
 cases a<;>simp[Op.equalIn,run_underlying ht]
theorem r9 (hr:aj K β env H a w) {o:Oper} {op:BinOp} {t t2 e:TypeId} {x y:Operand} {x':O} {n:Bool} (ho:o.op= .binOp op t x y t2) (hn:cU op=some n)
  (ht:K.P.underlying t=some (.slice e)) (hc:iA y=true) (hx:co K.G x=some x') {bs:List Bool} (hz:gY (ev env x')=some bs):∃b,b∈bs∧ai K β H a w o (.bool (n ^^ b)):=by
 have h:=hr.ev hx
 have hy:a.eval y= .slice none 0 0:=by
  unfold iA at hc;split at hc
  ·rfl
  ·cases hc
 have key:∀(ad:Option Addr) (m c:Nat),a.eval x= .slice ad m c→ad.isNone∈bs→∃b,b∈bs∧ai K β H a w o (.bool (n ^^ b)):=by
  intro ad m c h3 h4;refine⟨ad.isNone,h4,ai.same (v:= .bool (n ^^ ad.isNone)) ?_ (by simp[RV]) (by simp[AV.aw])⟩;have h5:(Op.equal t (.slice ad m c) (.slice none 0 0)).run K.P w= .ok ad.isNone w:=fG 9999 ht ad m c;rcases cA hn with⟨rfl,rfl⟩|⟨rfl,rfl⟩
  ·simp[execOp,ho,h3,hy,eqGuard,binOp,h5]
  ·simp[execOp,ho,h3,hy,eqGuard,binOp,h5]
 have mJ:∀b:Bool,b∈[true,false]:=by intro b;cases b<;>simp
 cases e1:ev env x'<;>rw[e1] at h hz
 case list xs=>
  simp only[RV,bA] at h;obtain⟨ad,c,h1,_,_,h4⟩:=h;cases xs with
  |nil=>simp only[gY,Option.some.injEq] at hz;subst hz;exact key _ _ _ h1 (mJ _)
  |cons y0 r=>
   simp only[gY,Option.some.injEq] at hz;subst hz;rcases h4 with h4|⟨b,o',sz,h4,_⟩
   ·simp at h4
   ·refine key _ _ _ h1 ?_;rw[h4];simp
 case nil0=>
  simp only[RV] at h;obtain⟨ad,h1⟩:=h;simp only[gY,Option.some.injEq] at hz;subst hz;exact key _ _ _ h1 (mJ _)
 case slk l sz i m c=>
  simp only[RV] at h;obtain⟨ad,h1,h2,_,h4,_⟩:=h;simp only[gY,Option.some.injEq] at hz;subst hz;refine key _ _ _ h1 ?_;by_cases hm:0<m
  ·rw[if_pos hm];have:=h4 (by omega);cases ad with
   |none=>simp at this
   |some q=>simp
  ·rw[if_neg hm];exact mJ _
 case sl l sz i m=>
  simp only[RV] at h;obtain⟨ad,c,h1,_,_,h4,_⟩:=h;simp only[gY,Option.some.injEq] at hz;subst hz;refine key _ _ _ h1 ?_;by_cases hm:0<m
  ·rw[if_pos hm];have:=h4 hm;cases ad with
   |none=>simp at this
   |some q=>simp
  ·rw[if_neg hm];exact mJ _
 all_goals simp[gY] at hz
set_option maxHeartbeats 1000000 in
theorem iR (hr : aj K β env H a w) {o : Oper} {i : az} {k : AV → Hp → Prop} {Q : Exit → Act → World → Prop} (hd : ∀ n,o.dst = some n → n < K.N) (hc : ky K.P K.G o = some i.b')
   (ha : an ⟨K.P,K.G,K.N⟩ o.dst i env H k) : o.wp K.P a w (fV K env o.dst k) Q := by
 have plain : ∀ j : az,i.b' = j → j.pc = false → j.plain = true → (∀ x,aa j env = some x → ai K β H a w o x) → o.wp K.P a w (fV K env o.dst k) Q := by
   intro j hj wg hp hs
   have e := aJ hj wg
   subst e
   obtain ⟨x,h1,h2⟩ := cF hp ha
   exact aR hr hd (hs x h1) h2
 unfold ky at hc
 split at hc
 · rename_i x ho
   obtain ⟨y,h1,h2⟩ := ar hc
   exact plain _ h2.symm rfl rfl (fun z hz => by simp only [aa,Option.some.injEq] at hz; subst hz; exact n4 hr (.inl ho) h1)
 · rename_i x ho
   obtain ⟨y,h1,h2⟩ := ar hc
   exact plain _ h2.symm rfl rfl (fun z hz => by simp only [aa,Option.some.injEq] at hz; subst hz; exact n4 hr (.inr ho) h1)
 · rename_i c x y ho
   obtain ⟨c',h1,hc⟩ := al hc
   obtain ⟨x',h2,hc⟩ := al hc
   obtain ⟨y',h3,h4⟩ := ar hc
   refine plain _ h4.symm rfl rfl (fun z hz => ?_)
   simp only [aa] at hz
   split at hz
   · rename_i t ht
     simp only [Option.some.injEq] at hz; subst hz
     exact oD hr ho h1 h2 h3 ht
   · simp at hz
 · rename_i t x f ho
   split at hc
   · rename_i fs ht
     obtain ⟨fd,h1,hc⟩ := al hc
     obtain ⟨s,h2,hc⟩ := al hc
     split at hc
     · simp at hc
     · rename_i n5
       obtain ⟨x',h3,h4⟩ := ar hc
       exact plain _ h4.symm rfl rfl (fun z hz => rf hr ho ht h1 h2 n5 h3 hz)
   · simp at hc
 · rename_i t x j ho
   split at hc
   · rename_i e ht
     obtain ⟨s,h2,hc⟩ := al hc
     obtain ⟨x',h3,hc⟩ := al hc
     obtain ⟨j',h4,h5⟩ := ar hc
     exact plain _ h5.symm rfl rfl (fun z hz => ri hr ho ht h2 h3 h4 hz)
   · rename_i n e ht
     obtain ⟨s,h2,hc⟩ := al hc
     obtain ⟨x',h3,hc⟩ := al hc
     obtain ⟨j',h4,h5⟩ := ar hc
     exact plain _ h5.symm rfl rfl (fun z hz => rh hr ho ht h2 h3 h4 hz)
   · simp at hc
 · rename_i t x j ho
   split at hc
   · rename_i ht
     obtain ⟨x',h3,hc⟩ := al hc
     obtain ⟨j',h4,h5⟩ := ar hc
     exact plain _ h5.symm rfl rfl (fun z hz => rk hr ho ht h3 h4 hz)
   · simp at hc
 · rename_i t x lo hi mx ho
   split at hc
   · rename_i e ht
     obtain ⟨s,h2,hc⟩ := al hc
     obtain ⟨x',h3,hc⟩ := al hc
     obtain ⟨gm,h4,hc⟩ := al hc
     obtain ⟨a7,h5,hc⟩ := al hc
     obtain ⟨mx',h6,h7⟩ := ar hc
     exact plain _ h7.symm rfl rfl (fun z hz => rn hr ho ht h2 h3 h4 h5 h6 hz)
   · rename_i ht
     split at hc
     · simp at hc
     · rename_i iD
       obtain ⟨x',h3,hc⟩ := al hc
       obtain ⟨gm,h4,hc⟩ := al hc
       obtain ⟨a7,h5,h7⟩ := ar hc
       have : mx = none := by cases mx <;> simp_all
       subst this
       exact plain _ h7.symm rfl rfl (fun z hz => oH hr ho ht h3 h4 h5 hz)
   · rename_i n e ht
     split at hc
     · rename_i oi
       simp only [Bool.and_eq_true,Option.isNone_iff_eq_none] at oi
       obtain ⟨⟨rfl,rfl⟩,rfl⟩ := oi
       obtain ⟨s,h2,hc⟩ := al hc
       split at hc
       · simp at hc
       · rename_i n5
         obtain ⟨x',h3,h5⟩ := ar hc
         exact plain _ h5.symm rfl rfl (fun z hz => o8 hr ho ht h2 n5 h3 hz)
     · simp at hc
   · simp at hc
 · -- makeSlice
   rename_i t n c ho
   split at hc
   · rename_i e ht
     split at hc
     · rename_i ti jq
       split at hc
       · rename_i z hz
         split at hc
         · rename_i aI
           obtain ⟨zs,h1,hc⟩ := al hc
           obtain ⟨n',h2,hc⟩ := al hc
           obtain ⟨c',h3,h5⟩ := ar hc
           have e5 := aJ h5.symm rfl
           subst e5
           obtain ⟨q,g1,y,H',g2,g3⟩ := ha
           exact aS (by rw [g1]; exact rZ hr (hd q g1) ho ht jq hz aI.1 aI.2.1 aI.2.2 h1 h2 h3 g2) g3
         · simp at hc
       · simp at hc
     · simp at hc
   · simp at hc
 · rename_i op t x y t2 ho
   split at hc
   · obtain ⟨x',h3,hc⟩ := al hc
     obtain ⟨y',h4,h5⟩ := ar hc
     exact plain _ h5.symm rfl rfl (fun z hz => n6 hr ho h3 h4 hz)
   · obtain ⟨x',h3,hc⟩ := al hc
     obtain ⟨y',h4,h5⟩ := ar hc
     exact plain _ h5.symm rfl rfl (fun z hz => n6 hr ho h3 h4 hz)
   · rename_i ht
     obtain ⟨n,h2,hc⟩ := al hc
     obtain ⟨x',h3,hc⟩ := al hc
     obtain ⟨y',h4,h5⟩ := ar hc
     exact plain _ h5.symm rfl rfl (fun z hz => rH hr ho h2 ht h3 h4 hz)
   · rename_i e ht
     obtain ⟨n,h2,hc⟩ := al hc
     obtain ⟨x',h3,hc⟩ := al hc
     obtain ⟨y',h4,h5⟩ := ar hc
     exact plain _ h5.symm rfl rfl (fun z hz => rI hr ho h2 ht h3 h4 hz)
   · rename_i ms ht
     split at hc
     · rename_i kL
       obtain ⟨n,h2,hc⟩ := al hc
       obtain ⟨x',h3,hc⟩ := al hc
       obtain ⟨y',h4,h5⟩ := ar hc
       exact plain _ h5.symm rfl rfl (fun z hz => rJ hr ho h2 ht kL h3 hz)
     · simp at hc
   · rename_i fs ht
     obtain ⟨ks,h1,hc⟩ := al hc
     obtain ⟨n,h2,hc⟩ := al hc
     obtain ⟨x',h3,hc⟩ := al hc
     obtain ⟨y',h4,h5⟩ := ar hc
     exact plain _ h5.symm rfl rfl (fun z hz => oP hr ho h2 h1 h3 h4 hz)
   · -- a slice,held against nil
     rename_i e ht
     split at hc
     · rename_i kL
       obtain ⟨n,h2,hc⟩ := al hc
       obtain ⟨x',h3,h5⟩ := ar hc
       have e5 := aJ h5.symm rfl
       subst e5
       obtain ⟨bs,g1,g2⟩ := ha
       obtain ⟨b,hb,dV⟩ := r9 hr ho h2 ht kL h3 g1
       exact aR hr hd dV (g2 b hb)
     · simp at hc
   · simp at hc
 · rename_i t x ho
   obtain ⟨x',h3,h5⟩ := ar hc
   exact plain _ h5.symm rfl rfl (fun z hz => rp hr ho h3 hz)
 · rename_i t x ho
   obtain ⟨x',h3,h5⟩ := ar hc
   exact plain _ h5.symm rfl rfl (fun z hz => rq hr ho h3 hz)
 · rename_i x j ho
   obtain ⟨x',h3,h5⟩ := ar hc
   exact plain _ h5.symm rfl rfl (fun z hz => rz hr ho h3 hz)
 · rename_i x ho
   obtain ⟨x',h3,h5⟩ := ar hc
   exact plain _ h5.symm rfl rfl (fun z hz => oI hr ho h3 hz)
 · -- box
   rename_i t x ho
   obtain ⟨x',h3,h5⟩ := ar hc
   rcases kJ h5.symm with rfl | rfl
   · obtain ⟨n,g1,g2,g3,g4,g5,g6⟩ := ha
     exact aS (by rw [g1]; exact rO hr (hd n g1) ho h3 g3 g4 g5 g2) g6
   · obtain ⟨y,h1,h2⟩ := cF rfl ha
     exact aR hr hd (oK hr ho h3 h1) h2
 · rename_i f first cap ho
   split at hc
   · rename_i hf
     obtain ⟨cs,h3,h5⟩ := ar hc
     exact plain _ h5.symm rfl rfl (fun z hz => rA hr ho hf h3 hz)
   · obtain ⟨qs,h2,hc⟩ := al hc
     obtain ⟨cs,h3,h5⟩ := ar hc
     exact plain _ h5.symm rfl rfl (fun z hz => rB hr ho h2 h3 hz)
 · -- load
   rename_i t x ho
   obtain ⟨m,h1,hc⟩ := al hc
   obtain ⟨x',h3,h5⟩ := ar hc
   have e := aJ h5.symm rfl
   subst e
   rcases ha with ⟨y,g1,g2⟩ | ⟨y,g1,g2⟩
   · exact aR hr hd (mu hr ho h1 h3 g1) g2
   · exact aR hr hd (oT hr ho h1 h3 g1) g2
 · -- alloc
   rename_i t ho
   split at hc
   · rename_i ti jq
     split at hc
     · rename_i z hz
       split at hc
       · obtain ⟨cs,h3,h5⟩ := ar hc
         have e := aJ h5.symm rfl
         subst e
         obtain ⟨n,g1,g2,g3,g4,g5⟩ := ha
         exact aS (by rw [g1]; exact mA hr (hd n g1) ho jq hz h3 g3 g4 g2) g5
       · simp at hc
     · simp at hc
   · simp at hc
 · -- store
   rename_i t x y ho
   obtain ⟨s,h1,hc⟩ := al hc
   obtain ⟨x',h3,hc⟩ := al hc
   obtain ⟨y',h4,h5⟩ := ar hc
   have e := aJ h5.symm rfl
   subst e
   obtain ⟨g1,H',g2,g3⟩ := ha
   exact aS (by rw [g1]; exact mB hr ho h1 h3 h4 g2) g3
 · -- convert
   rename_i s d x ho
   split at hc
   · rename_i k1 k2 hs pd
     obtain ⟨x',h3,h5⟩ := ar hc
     exact plain _ h5.symm rfl rfl (fun z hz => rC hr ho hs pd h3 hz)
   · rename_i hs pd
     obtain ⟨x',h3,h5⟩ := ar hc
     exact plain _ h5.symm rfl rfl (fun z hz => rD hr ho hs pd h3 hz)
   · rename_i e hs pd
     split at hc
     · rename_i he
       obtain ⟨x',h3,h5⟩ := ar hc
       exact plain _ h5.symm rfl rfl (fun z hz => rK hr ho hs pd he h3 hz)
     · simp at hc
   · rename_i e hs pd
     split at hc
     · rename_i he
       obtain ⟨x',h3,h5⟩ := ar hc
       exact plain _ h5.symm rfl rfl (fun z hz => rM hr ho hs he pd h3 hz)
     · simp at hc
   · simp at hc
 · rename_i t x ho
   split at hc
   · simp at hc
   · rename_i d wh ht
     obtain ⟨x',h3,h5⟩ := ar hc
     exact plain _ h5.symm rfl rfl (fun z hz => oJ hr ho ht (fun ms e => wh ms e) h3 hz)
   · simp at hc
 · rename_i t x f ho
   split at hc
   · rename_i fs ht
     obtain ⟨fd,h1,hc⟩ := al hc
     obtain ⟨m,h2,hc⟩ := al hc
     obtain ⟨x',h3,h5⟩ := ar hc
     exact plain _ h5.symm rfl rfl (fun z hz => oO hr ho ht h1 h2 h3 hz)
   · simp at hc
 · -- buildSlice
   rename_i t n ps ho
   split at hc
   · rename_i e ht
     split at hc
     · rename_i ti jq
       split at hc
       · rename_i z hz
         split at hc
         · rename_i aI
           obtain ⟨zs,h1,hc⟩ := al hc
           obtain ⟨xs,h2,h5⟩ := ar hc
           rcases jX h5.symm with rfl | ⟨rfl,rfl⟩
           · obtain ⟨y,g1,g2⟩ := cF rfl ha
             exact aR hr hd (oL hr ho ht jq hz aI.1 aI.2.1 aI.2.2 h1 h2 g1) g2
           · obtain ⟨q,g1,y,H',g2,g3⟩ := ha
             exact aS (by rw [g1]; exact mH hr (hd q g1) ho ht jq hz aI.1 aI.2.1 aI.2.2 h1 h2 g2) g3
         · simp at hc
       · simp at hc
     · simp at hc
   · simp at hc
 · -- build
   rename_i t ps ho
   split at hc
   · rename_i ti fs jq ht
     split at hc
     · rename_i z pl hz tp
       obtain ⟨zs,h1,hc⟩ := al hc
       obtain ⟨xs,h2,hc⟩ := al hc
       obtain ⟨qs,h3,h5⟩ := ar hc
       exact plain _ h5.symm rfl rfl (fun y hy => rG hr ho ht jq hz tp h1 h2 h3 hy)
     · simp at hc
   · simp at hc
 · -- call
   rename_i c ho
   split at hc
   · -- len
     rename_i cw
     split at hc
     · rename_i x h1 h2
       obtain ⟨x',h3,h5⟩ := ar hc
       exact plain _ h5.symm rfl rfl (fun z hz => oF hr ho cw h1 h2 h3 hz)
     · rename_i x e h1 h2
       obtain ⟨x',h3,h5⟩ := ar hc
       exact plain _ h5.symm rfl rfl (fun z hz => rl hr ho cw h1 h2 h3 hz)
     · simp at hc
   · -- max
     rename_i cw
     split at hc
     · rename_i x y h1
       obtain ⟨x',h3,hc⟩ := al hc
       obtain ⟨y',h4,h5⟩ := ar hc
       exact plain _ h5.symm rfl rfl (fun z hz => rr hr ho cw h1 h3 h4 hz)
     · simp at hc
   · -- min
     rename_i cw
     split at hc
     · rename_i x y h1
       obtain ⟨x',h3,hc⟩ := al hc
       obtain ⟨y',h4,h5⟩ := ar hc
       exact plain _ h5.symm rfl rfl (fun z hz => ru hr ho cw h1 h3 h4 hz)
     · simp at hc
   · -- append
     rename_i cw
     split at hc
     · rename_i s x st xt h1 h2
       split at hc
       · rename_i e dV
         split at hc
         · rename_i ti jq
           split at hc
           · rename_i aI
             simp only [Bool.and_eq_true,beq_iff_eq,decide_eq_true_eq] at aI
             obtain ⟨⟨q1,q2⟩,q3⟩ := aI
             obtain ⟨z,hz,vc⟩ := ar q1
             obtain ⟨s',h3,hc⟩ := al hc
             obtain ⟨x',h4,h5⟩ := ar hc
             obtain ⟨dx,gK,iw⟩ : ∃ dx,K.P.underlying xt = some dx ∧ (dx = .string ∨ ∃ e2,dx = .slice e2) := by
               unfold rb at q3
               split at q3
               · rename_i hh; exact ⟨_,hh,.inl rfl⟩
               · rename_i hh; exact ⟨_,hh,.inr ⟨_,rfl⟩⟩
               · simp at q3
             rcases kK h5.symm with rfl | rfl
             · obtain ⟨n,g1,y,H',g3,g4⟩ := ha
               exact aS (by rw [g1]; exact rR hr (hd n g1) ho cw h1 h2 dV jq hz vc q2 gK iw h3 h4 g3) g4
             · obtain ⟨y,g3,g4⟩ := cF rfl ha
               exact aR hr hd (o9 hr ho cw h1 h2 dV jq hz vc q2 gK iw h3 h4 g3) g4
           · split at hc
             · rename_i k0 z gK hz
               split at hc
               · rename_i fh
                 obtain ⟨zs,h5,hc⟩ := al hc
                 obtain ⟨s',h3,hc⟩ := al hc
                 obtain ⟨x',h4,h6⟩ := ar hc
                 have e6 := aJ h6.symm rfl
                 subst e6
                 obtain ⟨n,g1,y,H',g3,g4⟩ := ha
                 exact aS (by rw [g1]; exact o_ hr (hd n g1) ho cw h1 h2 dV jq hz fh.1 fh.2.1 fh.2.2 gK h5 h3 h4 g3) g4
               · simp at hc
             · simp at hc
         · simp at hc
       · simp at hc
     · simp at hc
   · -- cap
     rename_i cw
     split at hc
     · rename_i x e h1 h2
       obtain ⟨x',h3,h5⟩ := ar hc
       have e5 := aJ h5.symm rfl
       subst e5
       obtain ⟨R,g1,g2⟩ := ha
       obtain ⟨m,q1,q2,q3⟩ := r0 hr ho cw h1 h2 h3 g1
       exact aR hr hd q3 (g2 m q1 q2)
     · simp at hc
   · -- copy
     rename_i cw
     split at hc
     · rename_i dd x dt xt h1 h2
       split at hc
       · rename_i e sX
         obtain ⟨s,h3,hc⟩ := al hc
         split at hc
         · simp at hc
         · rename_i n5
           obtain ⟨d',h4,hc⟩ := al hc
           obtain ⟨x',h6,h5⟩ := ar hc
           have e5 := aJ h5.symm rfl
           subst e5
           obtain ⟨y,H',g1,g2⟩ := ha
           exact aS (rW hr hd ho cw h1 h2 sX h3 n5 h4 h6 g1) g2
       · simp at hc
     · simp at hc
   · -- clear
     rename_i cw
     split at hc
     · rename_i x e h1 h2
       split at hc
       · rename_i ti jq
         split at hc
         · rename_i z hz
           split at hc
           · rename_i aI
             obtain ⟨zs,h3,hc⟩ := al hc
             obtain ⟨x',h4,h5⟩ := ar hc
             have e5 := aJ h5.symm rfl
             subst e5
             obtain ⟨H',g1,g2⟩ := ha
             exact aS (rX hr hd ho cw h1 h2 jq hz aI.1 aI.2 h3 h4 g1) g2
           · simp at hc
         · simp at hc
       · simp at hc
     · simp at hc
   · simp at hc
   · simp at hc
   · -- a function
     rename_i f cw
     split at hc
     · rename_i hb
       obtain ⟨xs,h3,h5⟩ := ar hc
       have e := aJ h5.symm rfl
       subst e
       obtain ⟨fn, hf, kM⟩ : ∃ fn, K.P.funcs[f]? = some fn ∧ (fn.body.isSome = true ∧ (fn.name != "runtime.NumGoroutine") = true) := by
         unfold db at hb
         cases hq : K.P.funcs[f]? with
         | none => simp [hq] at hb
         | some fn => simp only [hq,Option.any_some,Bool.and_eq_true] at hb; exact ⟨fn,rfl,hb⟩
       refine jo hr hd (vs := c.args.toList.map a.eval) ?_ (cu hr _ _ h3) ha
       have h1 : ¬ fn.name = "runtime.NumGoroutine" := by simpa using kM.2
       have h2 : ¬ fn.body = none := by intro hh; simp [hh] at kM
       simp [execOp,ho,resolve,cw,Act.eval,Deferred.ofValue,invoke,callFunc,hf,h1,h2]
       cases c.args
       simp
     · -- without a body
       obtain ⟨xs,h3,h5⟩ := ar hc
       have e5 := aJ h5.symm rfl
       subst e5
       obtain ⟨res,g1,g2⟩ := ha
       obtain ⟨v,w',q1,q2,q3,q4⟩ := g1 K β env a w (c.args.toList.map a.eval) rfl hr (cu hr _ _ h3)
       refine aR hr hd ⟨v,w',?_,q2,q3,q4⟩ g2
       have jr : (c.args.toList.map a.eval).toArray = c.args.map a.eval := by cases c.args; simp
       rw [jr] at q1
       simp [execOp,ho,resolve,cw,Act.eval,Deferred.ofValue,invoke,q1]
   · -- a function value
     rename_i f va cw
     obtain ⟨y,h2,hc⟩ := al hc
     obtain ⟨xs,h3,h5⟩ := ar hc
     have e := aJ h5.symm rfl
     subst e
     obtain ⟨f',first,cap,g1,hb,g2⟩ := ha
     have hv := hr.ev h2
     rw [g1] at hv
     simp only [RV] at hv
     obtain ⟨vs,us,k1,k2,k3⟩ := hv
     obtain ⟨fn, hf, kM⟩ : ∃ fn, K.P.funcs[f']? = some fn ∧ (fn.body.isSome = true ∧ (fn.name != "runtime.NumGoroutine") = true) := by
       unfold db at hb
       cases hq : K.P.funcs[f']? with
       | none => simp [hq] at hb
       | some fn => simp only [hq,Option.any_some,Bool.and_eq_true] at hb; exact ⟨fn,rfl,hb⟩
     refine jo hr hd (vs := vs ++ c.args.toList.map a.eval ++ us) ?_ (au.append _ _ _ _ (au.append _ _ _ _ k2 (cu hr _ _ h3)) k3) g2
     have h1 : ¬ fn.name = "runtime.NumGoroutine" := by simpa using kM.2
     have h2 : ¬ fn.body = none := by intro hh; simp [hh] at kM
     simp [execOp,ho,resolve,cw,k1,Deferred.ofValue,invoke,callFunc,hf,h1,h2]
 · simp at hc
theorem jY (hr:aj K β env H a w) {o:Oper} {i:az} {k:AV→Hp→Prop} {Q:Exit→Act→World→Prop} (hd:∀n,o.dst=some n→n<K.N) (hc:comp K.P K.G o=some i.b')
  (ha:an ⟨K.P,K.G,K.N⟩ o.dst i env H k):o.wp K.P a w (fV K env o.dst k) Q:=by
 unfold comp at hc;split at hc
 ·rename_i j hj;simp only[Option.some.injEq] at hc;exact iR hr hd (by rw[hj,hc]) ha
 ·simp only[Option.some.injEq] at hc;have e:i= .stuck:=aJ hc.symm rfl;subst e;obtain⟨x,h1,_⟩:=cF rfl ha;simp[aa] at h1
end
end Go.Am

/- THE ABSTRACT MACHINE, part 14: regions. -/
namespace Go.Am
open Go Go.RowKit
section
variable {K:Kx} {env:Env} {H:Hp} {a:Act} {w:World}
theorem fW {β:Lb→Option Nat} (hr:aj K β env H a w) {ops:Array Oper} {o:Oper} {i:aB} (hc:dE K.P K.G ops o=some i) {b:Bool} (hg:gW i.g env=some b) :
  Region.wanted o (yielded ops a.tmps)=b:=by
 unfold dE at hc;split at hc
 ·rename_i h0;obtain⟨j,_,rfl⟩:=ar hc;simp only[gW,Option.some.injEq] at hg;subst hg;simp[Region.wanted,h0]
 ·rename_i j t h0;obtain⟨s,h1,hc⟩:=al hc;obtain⟨q,_,rfl⟩:=ar hc;simp only[gW] at hg;have hv:=hr.cd s;split at hg
  ·rename_i c e;simp only[Option.some.injEq] at hg;subst hg;rw[e] at hv;simp only[RV] at hv
   have:a.tmps[s]?=some (.bool c):=by
    rw[Array.getD_eq_getD_getElem?] at hv;cases hq:a.tmps[s]? with
    |none=>rw[hq] at hv;cases hv
    |some u=>rw[hq] at hv;simpa using hv
   simp[Region.wanted,h0,yielded,h1,this]
  ·rename_i e;simp only[Option.some.injEq] at hg;subst hg;rw[e] at hv;simp only[RV] at hv
   have:a.tmps[s]?=none∨a.tmps[s]?=some undef:=by
    rw[Array.getD_eq_getD_getElem?] at hv;cases hq:a.tmps[s]? with
    |none=>exact .inl rfl
    |some u=>rw[hq] at hv;right;simpa using hv
   rcases this with h|h<;>simp[Region.wanted,h0,yielded,h1,h,undef]
  ·simp at hg
theorem hJ {P:Program} {G:Nat→Option (List IV)} {ops:Array Oper} {o:Oper} {i:aB} (hc:dE P G ops o=some i):i.d=o.dst∧comp P G o=some i.i:=by
 unfold dE at hc;split at hc
 ·obtain⟨j,h1,rfl⟩:=ar hc;exact⟨rfl,h1⟩
 ·obtain⟨s,_,hc⟩:=al hc;obtain⟨q,h1,rfl⟩:=ar hc;exact⟨rfl,h1⟩
theorem fj {β:Lb→Option Nat} (hr:aj K β env H a w) {ops:Array Oper} {o:Oper} {i:aB} (hc:dE K.P K.G ops o=some i.b') {k:Env→Hp→Prop} {Q:Exit→Act→World→Prop} {KK:Act→World→Prop}
  (hk:∀env' H' β' a' w',k env' H'→aj K β' env' H' a' w'→KK a' w')
  (ha:(gW i.g env=some true∧(∀n,i.d=some n→n<K.N)∧an ⟨K.P,K.G,K.N⟩ i.d i.i env H fun x H'=>k (aM env i.d x) H') ∨
   (gW i.g env=some false∧(∀n,i.d=some n→n<K.N)∧k (aM env i.d .un) H)) :
  if Region.wanted o (yielded ops a.tmps) then o.wp K.P a w KK Q∨(o.asks K.P a w∧LetsOut Q) else KK (a.put o.dst undef) w:=by
 obtain⟨h1,h2⟩:=hJ hc;have vd:i.d=o.dst:=h1;rcases ha with⟨hg,hd,ha⟩|⟨hg,hd,ha⟩
 ·have hw:Region.wanted o (yielded ops a.tmps)=true:=fW hr (i:=i.b') hc hg;rw[if_pos hw];left;rw[vd] at ha hd;exact Oper.wp_mono (fun a' w' ⟨x,H',hx,β',jK⟩=>hk _ _ _ _ _ hx jK) (jY hr hd h2 ha)
 ·have hw:Region.wanted o (yielded ops a.tmps)=false:=fW hr (i:=i.b') hc hg;rw[if_neg (by simp[hw])];rw[vd] at ha hd;exact hk _ _ _ _ _ ha (hr.step (Below.refl _ _) hd (fun _=>by simp[RV]) (fun _=>by simp[AV.aw]))
theorem hL {ops:Array Oper} {k:Env→Hp→Prop} {Q:Exit→Act→World→Prop} (hk:∀env' H' β' a' w',k env' H'→aj K β' env' H' a' w'→Q .normal a' w') :
  ∀(l:List Oper) (is:List aB) (env:Env) (H:Hp) (a:Act) (w:World) (β:Lb→Option Nat),cz (fun o i=>dE K.P K.G ops o=some (aB.b' i)) l is→AO ⟨K.P,K.G,K.N⟩ is env H k→aj K β env H a w →
   wpList K.P ops Q l a w
 |[],_,env,H,a,w,β,h,ha,hr=>by
  cases h;exact hk _ _ _ _ _ ha hr
 |o::l,_,env,H,a,w,β,h,ha,hr=>by
  cases h with
  |@cons _ i _ is h1 h2=>
   simp only[AO] at ha;unfold wpList;exact fj hr h1 (k:=fun env' H'=>AO ⟨K.P,K.G,K.N⟩ is env' H' k) (fun env' H' β' a' w' q1 q2=>hL hk l is env' H' a' w' β' h2 q1 q2) ha
end
end Go.Am
