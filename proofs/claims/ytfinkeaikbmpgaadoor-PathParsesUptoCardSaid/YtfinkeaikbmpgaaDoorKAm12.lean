import Derived.Test.YtfinkeaikbmpgaaDoorAm38
import Derived.Test.YtfinkeaikbmpgaaDoorKAm5
set_option linter.unusedSimpArgs false
set_option linter.unusedVariables false
set_option linter.unnecessarySimpa false
set_option linter.defProp false
/- THE ABSTRACT MACHINE, part 12: contracts of calls; a region's operations in their order. -/
namespace Go.Am
open Go Go.RowKit
def bK (xs:List IV):List (List AV):=xs.map fun y=>y.cells.map IV.dQ
def Flat (xs:List IV):Prop:=∀y∈xs,∀z∈y.cells,∀cs,z≠ .agg cs
def Hp.none:Hp:=fun _=> .unused
def Env.any:Env:=fun _=> .any
def jq:Act:={tmps:=#[],defers:=[]}
def wh (β:Lb→Option Nat) (H:Hp) (k:Nat):Prop:=∃l,live H l∧β l=some k
def bO (P:Program) (G:Nat→Option (List IV)) (w:World) (A:Nat→Prop) (β:Lb→Option Nat) (H:Hp):Kx:=⟨P,G,w,A,wh β H,0,H,β⟩
def dT (P:Program) (G:Nat→Option (List IV)) (f:Nat) (args:List AV) (H:Hp) (Q:AV→Hp→Prop):Prop:=
 ∀(w:World) (A:Nat→Prop) (β:Lb→Option Nat) (vs:List Value),au (bO P G w A β H) β Env.any H jq w→aI w β H (Im (bO P G w A β H) β H) args vs →
  Calls P f vs.toArray w fun e w'=>∃v x H' β',e= .returned v∧Q x H'∧au (bO P G w A β H) β' Env.any H' jq w' ∧
   RV w' β' H' (Im (bO P G w A β H) β' H') x v∧∀l∈x.ax,H' l≠ .unused
def aw (P:Program) (G:Nat→Option (List IV)) (f:Nat) (args:List AV) (res:AV):Prop:=
 af args=[]∧res.ax=[]∧dT P G f args Hp.none fun x _=>x=res
def dT.mono {P:Program} {G:Nat→Option (List IV)} {f:Nat} {args:List AV} {H:Hp} {Q Q':AV→Hp→Prop} (h:dT P G f args H Q) (hq:∀x H,Q x H→Q' x H):dT P G f args H Q':=
 fun w A β vs hr hv=>(h w A β vs hr hv).mono fun e w' ⟨v,x,H',β',h1,h2,h3⟩=>⟨v,x,H',β',h1,hq _ _ h2,h3⟩
def gW (g:Option (Nat×Bool)) (env:Env):Option Bool:=
 match g with
 |none=>some true
 |some (s,t)=>match env s with
  | .bool b=>some (b==t)
  | .un=>some false
  |_=>none
structure St where
 P:Program
 G:Nat→Option (List IV)
 N:Nat
mutual
def bw (ρ:Lb→Lb):AV→AV
 | .sl l sz i n=> .sl (ρ l) sz i n
 | .slk l sz i n c=> .slk (ρ l) sz i n c
 | .ptr l sz i j=> .ptr (ρ l) sz i j
 | .agg cs=> .agg (bo ρ cs)
 | .dG cs=> .dG (bo ρ cs)
 | .fn f fs cs=> .fn f (bo ρ fs) (bo ρ cs)
 | .ifc t x=> .ifc t (bw ρ x)
 |x=>x
def bo (ρ:Lb→Lb):List AV→List AV
 |[]=>[]
 |x::r=>bw ρ x::bo ρ r
end
def cC (ρ:Lb→Lb) (r:Row):Row:=⟨r.sz,r.bN.map (bo ρ)⟩
structure Pass (S:St) (f:Nat) (args:List AV) (H:Hp) (k:AV→Hp→Prop):Prop where
 h:∃(ρ:Lb→Lb) (eV:Hp) (cb:List AV) (Q:AV→Hp→Prop),dT S.P S.G f cb eV Q∧args=bo ρ cb ∧
  (∀l r,eV l= .live r→H (ρ l)= .live (cC ρ r))∧(∀l,eV l≠ .unused→live eV l) ∧
  (∀l l',live eV l→live eV l'→ρ l=ρ l'→l=l')∧(∀l∈af cb,eV l≠ .unused)∧(∀l,live eV l→l.fresh=false)∧(∀l r,eV l= .live r→∀cs∈r.bN,∀q∈af cs,eV q≠ .unused) ∧
  ∀x H',Q x H'→∃(ρ':Lb→Lb) (gM:Hp),(∀l,live eV l→live H' l→ρ' l=ρ l) ∧
   (∀q r,gM q= .live r→(H q= .live r∧∀l,live eV l→ρ l≠q)∨∃l r',H' l= .live r'∧ρ' l=q∧r=cC ρ' r') ∧
   (∀l l',live H' l→live H' l'→ρ' l=ρ' l'→l=l') ∧
   (∀q,H q≠ .unused→gM q≠ .unused)∧(∀l∈x.ax,gM (ρ' l)≠ .unused) ∧
   (∀l r',H' l= .live r'→∀cs∈r'.bN,∀q∈af cs,gM (ρ' q)≠ .unused) ∧
   (∀l,live H' l→live eV l∨(H (ρ' l)= .unused∧((ρ' l).fresh=true→l.fresh=true∨∀z,live eV z→(ρ z).fresh=true))) ∧
   (∀l,(l∈x.ax∨∃l1 r1 cs,H' l1= .live r1∧cs∈r1.bN∧l∈af cs)→live gM (ρ' l)→live H' l)∧k (bw ρ' x) gM
mutual
def AV.scalar:AV→Bool
 | .bool _| .int _ _| .str _| .fV| .ee=>true
 | .dG cs=>scalars cs
 |_=>false
def scalars:List AV→Bool
 |[]=>true
 |x::r=>x.scalar&&scalars r
end
inductive rk (H:Hp):AV→AV→Prop where
 |same (x:AV):rk H x x
 |row (l:Lb) (sz i n:Nat) (xs:List IV):H l= .live ⟨sz,bK xs⟩→i+n≤xs.length→Flat xs→rk H (.sl l sz i n) (.list ((xs.drop i).take n))
structure B4 (S:St) (f:Nat) (args:List AV) (H:Hp) (k:AV→Hp→Prop):Prop where
 h:∃cb res,fl (rk H) args cb∧aw S.P S.G f cb res∧res.scalar=true∧k res H
def fS (S:St) (f:Nat) (args:List AV) (H:Hp) (k:AV→Hp→Prop):Prop:=
 (∃res,aw S.P S.G f args res∧k res H)∨B4 S f args H k∨Pass S f args H k
def mM:AV→Option (List Bool)
 | .list []=>some [true,false]
 | .list (_::_)=>some [false]
 | .nil0=>some [true,false]
 | .sl _ _ _ n=>some (if 0<n then [false] else [true,false])
 | .slk _ _ _ n _=>some (if 0<n then [false] else [true,false])
 |_=>none
def kL (S:St) (f:Nat) (args:List AV) (H:Hp) (res:AV):Prop:=
 ∀(K:Kx) (β:Lb→Option Nat) (env:Env) (a:Act) (w:World) (vs:List Value),(⟨K.P,K.G,K.N⟩:St)=S→au K β env H a w→aI w β H (Im K β H) args vs →
  ∃v w',(callFunc f vs.toArray).run K.P w= .ok (.value v) w'∧fW w w'∧RV w' β H (Im K β H) res v∧∀l∈res.ax,H l≠ .unused
def aH (S:St) (d:Option Nat) (i:a8) (env:Env) (H:Hp) (k:AV→Hp→Prop):Prop:=
 match i with
 | .load m a=>(∃x,aa (.load m a) env=some x∧k x H)∨(∃x,cN m (ev env a) H=some x∧k x H)
 | .box x=>∃n,d=some n∧H (.loc n)= .unused∧(ev env x).nX=true∧0<(ev env x).cells.length∧(ev env x).cells.length≤maxLen ∧
  k (.ptr (.loc n) (ev env x).cells.length 0 0) (bb H (.loc n) (.live ⟨(ev env x).cells.length,[(ev env x).cells]⟩))
 | .new cs=>∃n,d=some n∧H (.loc n)= .unused∧0<cs.length∧cs.length≤maxLen∧k (.ptr (.loc n) cs.length 0 0) (bb H (.loc n) (.live ⟨cs.length,[cs]⟩))
 | .store m a x=>d=none∧∃H',eF m (ev env a) (ev env x) H=some H'∧k .un H'
 | .app s x sz bytes=>∃n,d=some n∧∃y H',j8 sz bytes n (ev env s) (ev env x) H=some (y,H')∧k y H'
 | .call f args=>fS S f (args.map (ev env)) H k
 | .eg x args=>∃f first cap,ev env x= .fn f first cap∧fC S.P f=true∧fS S f (first++args.map (ev env)++cap) H k
 | .vT n x=>∃bs,mM (ev env x)=some bs∧∀b∈bs,k (.bool (n ^^ b)) H
 | .cap x=>∃R,ud (ev env x)=some R∧∀m,R m→m≤maxLen→k (.int .i64 (m:Int)) H
 | .mB s x sz=>∃y H',n8 sz (ev env s) (ev env x) H=some (y,H')∧k y H'
 | .nM x sz z=>∃H',n9 sz z (ev env x) H=some H'∧k (.dG []) H'
 | .nR n c sz bytes z=>∃q,d=some q∧∃y H',mK sz bytes q z (ev env n) (ev env c) H=some (y,H')∧k y H'
 | .fj f args=>∃res,kL S f (args.map (ev env)) H res∧k res H
 | .lN s n sz bytes z=>∃q,d=some q∧∃y H',o5 sz bytes q z (ev env s) (ev env n) H=some (y,H')∧k y H'
 | .et sz z ps=>∃q,d=some q∧∃y H',n_ sz q z (ps.map fun p=>(p.1,ev env p.2)) H=some (y,H')∧k y H'
 |i=>∃x,aa i env=some x∧k x H
def AO (S:St):List aP→Env→Hp→(Env→Hp→Prop)→Prop
 |[],env,H,k=>k env H
 |i::r,env,H,k=>(gW i.g env=some true∧(∀n,i.d=some n→n<S.N)∧aH S i.d i.i env H fun x H'=>AO S r (bV env i.d x) H' k) ∨
  (gW i.g env=some false∧(∀n,i.d=some n→n<S.N)∧AO S r (bV env i.d .un) H k)
def gN (P:Program) (G:Nat→Option (List IV)) (ops:Array Oper) (o:Oper):Option aP:=
 match o.guard with
 |none=>(comp P G o).map fun i=>⟨o.dst,none,i⟩
 |some (j,t)=>((ops[j]?).bind (·.dst)).bind fun s=>(comp P G o).map fun i=>⟨o.dst,some (s,t),i⟩
def a8.eH:a8→a8
 | .kH x=> .box x
 | .kJ s x sz b=> .app s x sz b
 | .et sz z ps=> .lits 1 sz z ps
 |i=>i
def aP.eH (i:aP):aP:={i with i:=i.i.eH}
section
variable {K:Kx} {β:Lb→Option Nat} {env:Env} {H:Hp} {a:Act} {w:World}
mutual
theorem lU (ρ:Lb→Lb):∀x:AV,(bw ρ x).ax=x.ax.map ρ
 | .sl ..| .slk ..| .ptr ..| .any| .un| .bool _| .int ..| .str _| .list _| .nil0| .fV| .ee| .lptr _=>by simp[bw,AV.ax]
 | .agg cs=>by simp[bw,AV.ax,fv ρ cs]
 | .dG cs=>by simp[bw,AV.ax,fv ρ cs]
 | .fn f fs cs=>by simp[bw,AV.ax,fv ρ fs,fv ρ cs]
 | .ifc t x=>by simp[bw,AV.ax,lU ρ x]
theorem fv (ρ:Lb→Lb):∀xs:List AV,af (bo ρ xs)=(af xs).map ρ
 |[]=>by simp[bo,af]
 |x::r=>by simp[bo,af,lU ρ x,fv ρ r]
end
theorem iq (ρ:Lb→Lb):∀(xs:List AV) (i:Nat),(bo ρ xs)[i]?=xs[i]?.map (bw ρ)
 |[],i=>by simp[bo]
 |x::r,0=>by simp[bo]
 |x::r,i+1=>by simp[bo,iq ρ r i]
theorem ir (ρ:Lb→Lb):∀(xs:List AV),(bo ρ xs).length=xs.length
 |[]=>rfl
 |x::r=>by simp[bo,ir ρ r]
structure gX (w w':World) (β β':Lb→Option Nat) (H H':Hp) (I I':Nat→Prop) (ρ:Lb→Lb) (ls:List Lb):Prop extends ef w w' I I' where
 lb:∀l∈ls,live H' l→live H (ρ l)∧β' l=β (ρ l)∧∀g S,β (ρ l)=some g→fi w g=some S→fi w' g=some S
def gX.sub {w w':World} {β β':Lb→Option Nat} {H H':Hp} {I I':Nat→Prop} {ρ:Lb→Lb} {ls zz:List Lb} (h:gX w w' β β' H H' I I' ρ ls) (hs:∀l∈zz,l∈ls) :
 gX w w' β β' H H' I I' ρ zz:=⟨h.toef,fun l hl=>h.lb l (hs l hl)⟩
mutual
theorem RV.bw {w w':World} {β β':Lb→Option Nat} {H H':Hp} {I I':Nat→Prop} {ρ:Lb→Lb}:∀(x:AV) (v:Value),gX w w' β β' H H' I I' ρ x.ax→RV w β H I (Am.bw ρ x) v→RV w' β' H' I' x v
 | .any,_,_,_=>by simp[RV]
 | .un,_,_,hv=>by simpa[RV,Am.bw] using hv
 | .bool _,_,_,hv=>by simpa[RV,Am.bw] using hv
 | .int _ _,_,_,hv=>by simpa[RV,Am.bw] using hv
 | .str _,_,_,hv=>by simpa[RV,Am.bw] using hv
 | .nil0,_,_,hv=>by simpa[RV,Am.bw] using hv
 | .fV,_,_,hv=>by simpa[RV,Am.bw] using hv
 | .ee,_,_,hv=>by simpa[RV,Am.bw] using hv
 | .list xs,v,h,hv=>by simp only[RV,Am.bw] at hv ⊢;exact de.mono h.toef _ _ hv
 | .agg cs,v,h,hv=>by
  simp only[RV,Am.bw] at hv ⊢;obtain⟨vs,rfl,h1⟩:=hv;exact⟨vs,rfl,aI.bw cs vs (by simpa[AV.ax] using h) h1⟩
 | .dG cs,v,h,hv=>by
  simp only[RV,Am.bw] at hv ⊢;obtain⟨vs,rfl,h1⟩:=hv;exact⟨vs,rfl,aI.bw cs vs (by simpa[AV.ax] using h) h1⟩
 | .slk l sz i n c,v,h,hv=>by
  simp only[RV,Am.bw] at hv ⊢;obtain⟨a,h1,h2,h3,h4,h5⟩:=hv;refine⟨a,h1,h2,h3,h4,fun hl=> ?_⟩;obtain⟨k1,k2,k3⟩:=h.lb l (by simp[AV.ax]) hl;rcases h5 k1 with h6|⟨g,S,e1,e2,e3,e4⟩
  ·exact .inl h6
  exact .inr ⟨g,S,k2.trans e1,e2,k3 g S e1 e3,e4⟩
 | .sl l sz i n,v,h,hv=>by
  simp only[RV,Am.bw] at hv ⊢;obtain⟨a,c,h1,h2,h3,h4,h5⟩:=hv;refine⟨a,c,h1,h2,h3,h4,fun hl=> ?_⟩;obtain⟨k1,k2,k3⟩:=h.lb l (by simp[AV.ax]) hl;rcases h5 k1 with h6|⟨g,S,e1,e2,e3,e4⟩
  ·exact .inl h6
  exact .inr ⟨g,S,k2.trans e1,e2,k3 g S e1 e3,e4⟩
 | .ptr l sz i j,v,h,hv=>by
  simp only[RV,Am.bw] at hv ⊢;obtain⟨a,h1,h2⟩:=hv;refine⟨a,h1,fun hl=> ?_⟩;obtain⟨k1,k2,k3⟩:=h.lb l (by simp[AV.ax]) hl;obtain⟨g,e1,e2⟩:=h2 k1;exact⟨g,k2.trans e1,e2⟩
 | .lptr cs,v,h,hv=>by
  simp only[RV,Am.bw] at hv ⊢;obtain⟨b,o,h1,h2,h3,h4⟩:=hv;obtain⟨k1,k2,_⟩:=h.im b h2 h3;exact⟨b,o,h1,k1,k2,aR.mono h.toef cs b o h2 h3 h4⟩
 | .fn f fs cs,v,h,hv=>by
  simp only[RV,Am.bw] at hv ⊢;obtain⟨vs,us,rfl,h1,h2⟩:=hv;exact⟨vs,us,rfl,aI.bw fs vs (h.sub (by simp[AV.ax];intro l hl;exact .inl hl)) h1,aI.bw cs us (h.sub (by simp[AV.ax];intro l hl;exact .inr hl)) h2⟩
 | .ifc t x,v,h,hv=>by
  simp only[RV,Am.bw] at hv ⊢;obtain⟨u,rfl,h1⟩:=hv;exact⟨u,rfl,RV.bw x u (by simpa[AV.ax] using h) h1⟩
theorem aI.bw {w w':World} {β β':Lb→Option Nat} {H H':Hp} {I I':Nat→Prop} {ρ:Lb→Lb}:∀(xs:List AV) (vs:List Value),gX w w' β β' H H' I I' ρ (af xs)→aI w β H I (bo ρ xs) vs→aI w' β' H' I' xs vs
 |[],_,_,hv=>by simpa[aI,bo] using hv
 |x::r,vs,h,hv=>by
  simp only[aI,bo] at hv ⊢;obtain⟨v,us,rfl,h1,h2⟩:=hv;exact⟨v,us,rfl,RV.bw x v (h.sub (by simp[af];intro l hl;exact .inl hl)) h1,aI.bw r us (h.sub (by simp[af];intro l hl;exact .inr hl)) h2⟩
end
mutual
theorem RV.kM {w w':World} {β β':Lb→Option Nat} {H H':Hp} {I I':Nat→Prop} {ρ:Lb→Lb}:∀(x:AV) (v:Value),ef w w' I I' →
  (∀l∈x.ax,live H' (ρ l)→live H l∧β' (ρ l)=β l∧∀g S,β l=some g→fi w g=some S→fi w' g=some S)→RV w β H I x v→RV w' β' H' I' (Am.bw ρ x) v
 | .any,_,_,_,_=>by simp[RV,Am.bw]
 | .un,_,_,_,hv=>by simpa[RV,Am.bw] using hv
 | .bool _,_,_,_,hv=>by simpa[RV,Am.bw] using hv
 | .int _ _,_,_,_,hv=>by simpa[RV,Am.bw] using hv
 | .str _,_,_,_,hv=>by simpa[RV,Am.bw] using hv
 | .nil0,_,_,_,hv=>by simpa[RV,Am.bw] using hv
 | .fV,_,_,_,hv=>by simpa[RV,Am.bw] using hv
 | .ee,_,_,_,hv=>by simpa[RV,Am.bw] using hv
 | .list xs,v,h,_,hv=>by simp only[RV,Am.bw] at hv ⊢;exact de.mono h _ _ hv
 | .agg cs,v,h,hl,hv=>by
  simp only[RV,Am.bw] at hv ⊢;obtain⟨vs,rfl,h1⟩:=hv;exact⟨vs,rfl,aI.kM cs vs h (by simpa[AV.ax] using hl) h1⟩
 | .dG cs,v,h,hl,hv=>by
  simp only[RV,Am.bw] at hv ⊢;obtain⟨vs,rfl,h1⟩:=hv;exact⟨vs,rfl,aI.kM cs vs h (by simpa[AV.ax] using hl) h1⟩
 | .slk l sz i n c,v,h,hl,hv=>by
  simp only[RV,Am.bw] at hv ⊢;obtain⟨a,h1,h2,h3,h4,h5⟩:=hv;refine⟨a,h1,h2,h3,h4,fun hq=> ?_⟩;obtain⟨k1,k2,k3⟩:=hl l (by simp[AV.ax]) hq;rcases h5 k1 with h6|⟨g,S,e1,e2,e3,e4⟩
  ·exact .inl h6
  exact .inr ⟨g,S,k2.trans e1,e2,k3 g S e1 e3,e4⟩
 | .sl l sz i n,v,h,hl,hv=>by
  simp only[RV,Am.bw] at hv ⊢;obtain⟨a,c,h1,h2,h3,h4,h5⟩:=hv;refine⟨a,c,h1,h2,h3,h4,fun hq=> ?_⟩;obtain⟨k1,k2,k3⟩:=hl l (by simp[AV.ax]) hq;rcases h5 k1 with h6|⟨g,S,e1,e2,e3,e4⟩
  ·exact .inl h6
  exact .inr ⟨g,S,k2.trans e1,e2,k3 g S e1 e3,e4⟩
 | .ptr l sz i j,v,h,hl,hv=>by
  simp only[RV,Am.bw] at hv ⊢;obtain⟨a,h1,h2⟩:=hv;refine⟨a,h1,fun hq=> ?_⟩;obtain⟨k1,k2,k3⟩:=hl l (by simp[AV.ax]) hq;obtain⟨g,e1,e2⟩:=h2 k1;exact⟨g,k2.trans e1,e2⟩
 | .lptr cs,v,h,_,hv=>by
  simp only[RV,Am.bw] at hv ⊢;obtain⟨b,o,h1,h2,h3,h4⟩:=hv;obtain⟨k1,k2,_⟩:=h.im b h2 h3;exact⟨b,o,h1,k1,k2,aR.mono h cs b o h2 h3 h4⟩
 | .fn f fs cs,v,h,hl,hv=>by
  simp only[RV,Am.bw] at hv ⊢;obtain⟨vs,us,rfl,h1,h2⟩:=hv;exact⟨vs,us,rfl,aI.kM fs vs h (fun l q=>hl l (by simp[AV.ax,q])) h1,aI.kM cs us h (fun l q=>hl l (by simp[AV.ax,q])) h2⟩
 | .ifc t x,v,h,hl,hv=>by
  simp only[RV,Am.bw] at hv ⊢;obtain⟨u,rfl,h1⟩:=hv;exact⟨u,rfl,RV.kM x u h (by simpa[AV.ax] using hl) h1⟩
theorem aI.kM {w w':World} {β β':Lb→Option Nat} {H H':Hp} {I I':Nat→Prop} {ρ:Lb→Lb}:∀(xs:List AV) (vs:List Value),ef w w' I I' →
  (∀l∈af xs,live H' (ρ l)→live H l∧β' (ρ l)=β l∧∀g S,β l=some g→fi w g=some S→fi w' g=some S)→aI w β H I xs vs→aI w' β' H' I' (bo ρ xs) vs
 |[],_,_,_,hv=>by simpa[aI,bo] using hv
 |x::r,vs,h,hl,hv=>by
  simp only[aI,bo] at hv ⊢;obtain⟨v,us,rfl,h1,h2⟩:=hv;exact⟨v,us,rfl,RV.kM x v h (fun l q=>hl l (by simp[af,q])) h1,aI.kM r us h (fun l q=>hl l (by simp[af,q])) h2⟩
end
def au.pN (hr:au K β env H a w) (ρ:Lb→Lb) {env2:Env} {H2:Hp} (hE:∀n,env2 n= .any∨env n=bw ρ (env2 n)) (hH:∀l r,H2 l= .live r→H (ρ l)= .live (cC ρ r))
   (xk:∀l l',live H2 l→live H2 l'→ρ l=ρ l'→l=l') (hm:∀n,∀l∈(env2 n).ax,H2 l≠ .unused) (B5:∀l r,H2 l= .live r→∀cs∈r.bN,∀q∈af cs,H2 q≠ .unused)
   (cL:∀l,live K.H0 l→H2 l≠ .unused∧(live H2 l→ρ l=l)) (Bv:∀l,live H2 l→l.fresh=true→(ρ l).fresh=true):au K (fun l=>β (ρ l)) env2 H2 a w:=by
 have aF:∀l,live H2 l→live H (ρ l):=fun l ⟨r,h⟩=>⟨_,hH l r h⟩
 have ca:∀ls,gX w w β (fun l=>β (ρ l)) H H2 (Im K β H) (Im K (fun l=>β (ρ l)) H2) ρ ls:=fun ls=>
   { im := fun k hk hs => ⟨⟨hk.1,fun l hl => hk.2 (ρ l) (aF l hl)⟩,hs,rfl⟩
     lb:=fun l _ hl=>⟨aF l hl,rfl,fun _ _ _ h=>h⟩}
 refine⟨hr.defers,hr.size,?_,?_,fun l g hl hb=>hr.own (ρ l) g (aF l hl) hb,fun l l' g h1 h2 g1 g2=>xk l l' h1 h2 (hr.inj _ _ g (aF l h1) (aF l' h2) g1 g2),hm,B5,hr.frame,?_,?_,fun l g hl hf hb=>hr.fr (ρ l) g (aF l hl) (Bv l hl hf) hb⟩
 · intro n
   rcases hE n with h|h
   · rw[h];simp[RV]
   exact RV.bw _ _ (ca _) (by rw[←h];exact hr.ey n)
 · intro l r h
   obtain⟨h1,h2,h3⟩:=hr.rows (ρ l) _ (hH l r h)
   refine⟨h1,fun cs bt=> ?_,?_⟩
   · have:=h2 (bo ρ cs) (Gz bt)
     rwa[ir] at this
   cases hb:β (ρ l) with
   |none=>simp only[hb] at h3 ⊢;simpa[cC] using h3
   |some g=>
   simp only[hb] at h3 ⊢
   obtain⟨cur,e,cap,e1,e2,e3,e4,e5⟩:=h3
   refine⟨cur,e,cap,e1,e2,e3,by simpa[cC] using e4,fun i j cs x hi hj=> ?_⟩
   obtain⟨v,k1,k2⟩:=e5 i j (bo ρ cs) (bw ρ x) (by simp[cC,hi]) (by rw[iq,hj];rfl)
   exact⟨v,k1,RV.bw _ _ (ca _) k2⟩
 · intro g cs hg
   obtain⟨h1,h2,h3⟩:=hr.eh g cs hg
   exact⟨((ca []).im g h1 h2).1,h2,b8.mono (ca []).toef h1 h2 h3⟩
 intro l hl
 obtain⟨h1,h2⟩:=cL l hl
 refine⟨h1,fun h=> ?_⟩
 have e:=h2 h
 simp only[e]
 exact(hr.eD l hl).2 (e▸aF l h)
def iU (hr:au K β env H a w) {f:Nat} {args:List AV} {vs:List Value} {res:AV} (hp:aw K.P K.G f args res) (hv:aI w β H (Im K β H) args vs)
   (C7:True):Calls K.P f vs.toArray w fun e w'=>∃v,e= .returned v∧fW w w'∧RV w' β H (Im K β H) res v:=by
 obtain⟨h1,h2,h3⟩:=hp
 have gf:au (bO K.P K.G w (Im K β H) β Hp.none) β Env.any Hp.none jq w:=
   { defers := rfl,size := rfl
     ey:=fun n=>by simp[Env.any,RV]
     rows:=fun l r h=>by simp[Hp.none] at h
     own:=fun l g ⟨r,h⟩=>by simp[Hp.none] at h
     inj:=fun l l' g ⟨r,h⟩=>by simp[Hp.none] at h
     dp:=fun n=>by simp[Env.any,AV.ax]
     bL:=fun l r h=>by simp[Hp.none] at h
     frame:=⟨rfl,rfl,rfl,FJ _,fun _ _ _=>rfl,fun _ _ h=>h⟩
     eD:=fun l ⟨r,h⟩=>by simp[bO,Hp.none] at h
     fr:=fun l g ⟨r,h⟩=>by simp[Hp.none] at h
     eh:=fun g cs hg=>by
       obtain⟨k1,k2,k3⟩:=hr.eh g cs hg
       have kp:ef w w (Im K β H) (Im (bO K.P K.G w (Im K β H) β Hp.none) β Hp.none):=⟨fun k hk hs=>⟨⟨.inl hk,fun l ⟨r,h⟩=>by simp[Hp.none] at h⟩,hs,rfl⟩⟩
       exact⟨(kp.im g k1 k2).1,k2,b8.mono kp k1 k2 k3⟩}
 have kp:dw w w β β H Hp.none (Im K β H) (Im (bO K.P K.G w (Im K β H) β Hp.none) β Hp.none) (af args):=
   { im := fun k hk hs => ⟨⟨.inl hk,fun l ⟨r,h⟩ => by simp [Hp.none] at h⟩,hs,rfl⟩
     lb:=fun l hl=>by rw[h1] at hl;simp at hl}
 refine(h3 w (Im K β H) β vs gf (aI.mono _ _ kp hv)).mono ?_
 rintro e w' ⟨v,x,H',β',rfl,rfl,k1,k2,_⟩
 have gw:fW w w':=by
   refine⟨k1.frame.os,k1.frame.tape,k1.frame.output,k1.frame.size,fun k hk=>k1.frame.block k hk ?_⟩
   rintro⟨l,⟨r,h⟩,_⟩
   simp[Hp.none] at h
 refine⟨v,rfl,gw,RV.mono _ _ ?_ k2⟩
 refine {im:=fun k hk hs=>⟨?_,hs,rfl⟩,lb:=fun l hl=>by rw[h2] at hl;simp at hl}
 rcases hk.1 with h|h
 · exact h
 refine⟨.inr (G3 hr.frame.size h),fun l hl hb=> ?_⟩
 have:=hr.iO hl hb
 have h':w.heap.size≤k:=h
 omega
mutual
theorem RV.scalar {w w':World} {β β':Lb→Option Nat} {H H':Hp} {I I':Nat→Prop}:∀(x:AV) (v:Value),x.scalar=true→RV w β H I x v→RV w' β' H' I' x v
 | .bool _,_,_,h| .int _ _,_,_,h| .str _,_,_,h| .fV,_,_,h| .ee,_,_,h=>by simpa[RV] using h
 | .dG cs,v,hs,h=>by
  simp only[RV] at h ⊢;obtain⟨vs,h1,h2⟩:=h;exact⟨vs,h1,aI.scalar cs vs (by simpa[AV.scalar] using hs) h2⟩
 | .any,_,hs,_| .un,_,hs,_| .list _,_,hs,_| .nil0,_,hs,_| .agg _,_,hs,_| .sl ..,_,hs,_| .slk ..,_,hs,_| .ptr ..,_,hs,_| .lptr _,_,hs,_| .fn ..,_,hs,_| .ifc ..,_,hs,_=>by simp[AV.scalar] at hs
theorem aI.scalar {w w':World} {β β':Lb→Option Nat} {H H':Hp} {I I':Nat→Prop}:∀(xs:List AV) (vs:List Value),scalars xs=true→aI w β H I xs vs→aI w' β' H' I' xs vs
 |[],_,_,h=>by simpa[aI] using h
 |x::r,vs,hs,h=>by
  simp only[scalars,FE] at hs;simp only[aI] at h ⊢;obtain⟨v,us,h1,h2,h3⟩:=h;exact⟨v,us,h1,RV.scalar x v hs.1 h2,aI.scalar r us hs.2 h3⟩
end
theorem mN (hr:au K β env H a w) {I:Nat→Prop} (hI:∀k,Im K β H k→I k) (hB:∀l g,live H l→β l=some g→I g):∀(args cb:List AV) (vs:List Value),fl (rk H) args cb→af cb=[]→aI w β H (Im K β H) args vs→aI w β Hp.none I cb vs
 |_,_,vs,.nil,_,hv=>by simpa[aI] using hv
 |_,_,vs,@fl.cons _ _ _ x y args cb D3 ht,hl,hv=>by
  simp only[af,Hb] at hl;simp only[aI] at hv ⊢;obtain⟨v,us,h1,h2,h3⟩:=hv;refine⟨v,us,h1,?_,mN hr hI hB _ _ us ht hl.2 h3⟩;have hk:ef w w (Im K β H) I:=⟨fun k hk hs=>⟨hI k hk,hs,rfl⟩⟩;cases D3 with
  |same=>
   exact RV.mono x v {im:=hk.im,lb:=fun l hq=>by rw[hl.1] at hq;simp at hq} h2
  |row l sz i n xs hH pA rj=>
  simp only[RV] at h2;obtain⟨ad,c,rfl,g2,g3,g4,g5⟩:=h2;simp only[RV,de];have hlen:((xs.drop i).take n).length=n:=by simp;omega
  rw[hlen];refine⟨ad,c,rfl,g2,g3,?_⟩;by_cases hn:n=0
  ·exact .inl hn
  right;rcases g5 ⟨_,hH⟩ with h6|⟨g,Sz,e1,e2,e3,e4⟩
  ·omega
  obtain⟨cur,e0,cap,k1,k2,k3,k4,k5⟩:=(hr.rows l _ hH).block e1;have fh:0<sz:=(hr.rows l _ hH).1;refine⟨g,i*sz,sz,e2,hB l g ⟨_,hH⟩ e1,(FL.1 k1).1,fh,fu _ _ _ (fun k y hy=> ?_)⟩;have xl:xs[i+k]?=some y:=by
   rw[FA] at hy;split at hy
   ·rwa[F6] at hy
   simp at hy
  rw[dB];have nO:y.cells.length=sz:=by
   have:=(hr.rows l _ hH).2.1 (y.cells.map IV.dQ) (by
    simp only[bK];exact Gz (f:=fun y:IV=>y.cells.map IV.dQ) (Fx xl))
   simpa using this
  refine⟨nO.symm,ft _ _ _ (fun j z hz=> ?_)⟩;obtain⟨u,q1,q2⟩:=k5 (i+k) j (y.cells.map IV.dQ) z.dQ (by simp[bK,xl]) (by simp[hz]);refine⟨u,?_,oa hk (rj y (Fx xl) z (Fx hz)) q2⟩;rw[cell_of_row w g _ cur e0 (0,0) k1,←q1];congr 1;rw[FI]
def pO (hr:au K β env H a w) {f:Nat} {args cb:List AV} {vs:List Value} {res:AV} (ha:fl (rk H) args cb) (hp:aw K.P K.G f cb res) (mO:res.scalar=true) (hv:aI w β H (Im K β H) args vs) :
   Calls K.P f vs.toArray w fun e w'=>∃v,e= .returned v∧fW w w'∧RV w' β H (Im K β H) res v:=by
 obtain⟨h1,h2,h3⟩:=hp
 obtain⟨A,hA⟩:∃A:Nat→Prop,A=fun k=>Im K β H k∨∃l,live H l∧β l=some k:=⟨_,rfl⟩
 have B6:∀k,A k→Im (bO K.P K.G w A β Hp.none) β Hp.none k:=fun k hk=>⟨.inl hk,fun l ⟨r,h⟩=>by simp[Hp.none] at h⟩
 have gf:au (bO K.P K.G w A β Hp.none) β Env.any Hp.none jq w:=
   { defers := rfl,size := rfl
     ey:=fun n=>by simp[Env.any,RV]
     rows:=fun l r h=>by simp[Hp.none] at h
     own:=fun l g ⟨r,h⟩=>by simp[Hp.none] at h
     inj:=fun l l' g ⟨r,h⟩=>by simp[Hp.none] at h
     dp:=fun n=>by simp[Env.any,AV.ax]
     bL:=fun l r h=>by simp[Hp.none] at h
     frame:=⟨rfl,rfl,rfl,FJ _,fun _ _ _=>rfl,fun _ _ h=>h⟩
     eD:=fun l ⟨r,h⟩=>by simp[bO,Hp.none] at h
     fr:=fun l g ⟨r,h⟩=>by simp[Hp.none] at h
     eh:=fun g cs hg=>by
       obtain⟨k1,k2,k3⟩:=hr.eh g cs hg
       have kp:ef w w (Im K β H) (Im (bO K.P K.G w A β Hp.none) β Hp.none):=⟨fun k hk hs=>⟨B6 k (by rw[hA];exact .inl hk),hs,rfl⟩⟩
       exact⟨(kp.im g k1 k2).1,k2,b8.mono kp k1 k2 k3⟩}
 have uf:=mN hr (I:=Im (bO K.P K.G w A β Hp.none) β Hp.none) (fun k hk=>B6 k (by rw[hA];exact .inl hk)) (fun l g hl hg=>B6 g (by rw[hA];exact .inr ⟨l,hl,hg⟩)) args cb vs ha h1 hv
 refine(h3 w A β vs gf uf).mono ?_
 rintro e w' ⟨v,x,H',β',rfl,rfl,k1,k2,_⟩
 have gw:fW w w':=by
   refine⟨k1.frame.os,k1.frame.tape,k1.frame.output,k1.frame.size,fun k hk=>k1.frame.block k hk ?_⟩
   rintro⟨l,⟨r,h⟩,_⟩
   simp[Hp.none] at h
 exact⟨v,rfl,gw,RV.scalar _ _ mO k2⟩
open Classical in
def pP (hr:au K β env H a w) {f:Nat} {cb:List AV} {vs:List Value} {eV:Hp} {Q:AV→Hp→Prop} {ρ:Lb→Lb} (hs:dT K.P K.G f cb eV Q)
   (hH:∀l r,eV l= .live r→H (ρ l)= .live (cC ρ r)) (E3:∀l,eV l≠ .unused→live eV l)
   (xk:∀l l',live eV l→live eV l'→ρ l=ρ l'→l=l') (mr:∀l∈af cb,eV l≠ .unused) (C8:∀l,live eV l→l.fresh=false) (B5:∀l r,eV l= .live r→∀cs∈r.bN,∀q∈af cs,eV q≠ .unused)
   (hv:aI w β H (Im K β H) (bo ρ cb) vs):Calls K.P f vs.toArray w fun e w'=>∃v x H',e= .returned v∧Q x H' ∧
     ∀(ρ':Lb→Lb) (gM:Hp),(∀l,live eV l→live H' l→ρ' l=ρ l) →
     (∀q r,gM q= .live r→(H q= .live r∧∀l,live eV l→ρ l≠q)∨∃l r',H' l= .live r'∧ρ' l=q∧r=cC ρ' r') →
     (∀l l',live H' l→live H' l'→ρ' l=ρ' l'→l=l') →
     (∀q,H q≠ .unused→gM q≠ .unused)→(∀l∈x.ax,gM (ρ' l)≠ .unused) →
     (∀l r',H' l= .live r'→∀cs∈r'.bN,∀q∈af cs,gM (ρ' q)≠ .unused) →
     (∀l,live H' l→live eV l∨(H (ρ' l)= .unused∧((ρ' l).fresh=true→l.fresh=true∨∀z,live eV z→(ρ z).fresh=true))) →
     (∀l,(l∈x.ax∨∃l1 r1 cs,H' l1= .live r1∧cs∈r1.bN∧l∈af cs)→live gM (ρ' l)→live H' l) →
     ∃gg,au K gg env gM a w'∧RV w' gg gM (Im K gg gM) (bw ρ' x) v:=by
 have aF:∀l,live eV l→live H (ρ l):=fun l ⟨r,h⟩=>⟨_,hH l r h⟩
 have Bw:∀ls,gX w w β (fun l=>β (ρ l)) H eV (Im K β H) (Im (bO K.P K.G w (Im K β H) (fun l=>β (ρ l)) eV) (fun l=>β (ρ l)) eV) ρ ls:=fun ls=>
   { im := fun k hk hs => ⟨⟨.inl hk,fun l hl => hk.2 (ρ l) (aF l hl)⟩,hs,rfl⟩
     lb:=fun l _ hl=>⟨aF l hl,rfl,fun _ _ _ h=>h⟩}
 have gf:au (bO K.P K.G w (Im K β H) (fun l=>β (ρ l)) eV) (fun l=>β (ρ l)) Env.any eV jq w:=
   { defers := rfl,size := rfl
     ey:=fun n=>by simp[Env.any,RV]
     rows:=fun l r h=>by
       obtain⟨h1,h2,h3⟩:=hr.rows (ρ l) _ (hH l r h)
       refine⟨h1,fun cs bt=> ?_,?_⟩
       · have:=h2 (bo ρ cs) (List.mem_map_of_mem bt)
         rwa[ir] at this
       cases hb:β (ρ l) with
       |none=>simp only[hb] at h3 ⊢;simpa[cC] using h3
       |some g=>
       simp only[hb] at h3 ⊢
       obtain⟨cur,e,cap,e1,e2,e3,e4,e5⟩:=h3
       refine⟨cur,e,cap,e1,e2,e3,by simpa[cC] using e4,fun i j cs x hi hj=> ?_⟩
       obtain⟨v,k1,k2⟩:=e5 i j (bo ρ cs) (bw ρ x) (by simp[cC,hi]) (by rw[iq,hj];rfl)
       exact⟨v,k1,RV.bw _ _ (Bw _) k2⟩
     own:=fun l g hl hb=> .inl ⟨l,hl,hb⟩
     inj:=fun l l' g h1 h2 g1 g2=>xk l l' h1 h2 (hr.inj _ _ g (aF l h1) (aF l' h2) g1 g2)
     dp:=fun n=>by simp[Env.any,AV.ax]
     bL:=B5
     frame:=⟨rfl,rfl,rfl,Nat.le_refl _,fun _ _ _=>rfl,fun _ _ h=>h⟩
     eh:=fun g cs hg=>by
       obtain⟨k1,k2,k3⟩:=hr.eh g cs hg
       exact⟨((Bw []).im g k1 k2).1,k2,b8.mono (Bw []).toef k1 k2 k3⟩
     eD:=fun l hl=>⟨by obtain⟨r,h⟩:=hl;simp only[bO] at h;simp[h],fun _=>rfl⟩
     fr:=fun l g hl hf=>by rw[C8 l hl] at hf;cases hf}
 refine(hs w (Im K β H) (fun l=>β (ρ l)) vs gf (aI.bw _ _ (Bw _) hv)).mono ?_
 rintro e w' ⟨v,x,H',β',rfl,hq,hc,xf,zn⟩
 refine⟨v,x,H',rfl,hq,?_⟩
 intro ρ' gM p1 p2 p3 p4 p5 p6 p7 p8
 let gg:Lb→Option Nat:=fun q=>if h:∃l,live H' l∧ρ' l=q then β' (Classical.choose h) else β q
 have Ad:∀l,live H' l→gg (ρ' l)=β' l:=by
   intro l hl
   have h:∃l',live H' l'∧ρ' l'=ρ' l:=⟨l,hl,rfl⟩
   have bt:=Classical.choose_spec h
   have e:Classical.choose h=l:=p3 _ _ bt.1 hl bt.2
   show(if h:∃l',live H' l'∧ρ' l'=ρ' l then β' (Classical.choose h) else β (ρ' l))=β' l
   rw[dif_pos h,e]
 have k9:∀q,live H q→(∀l,live eV l→ρ l≠q)→gg q=β q:=by
   intro q mu jr
   have h:¬∃l,live H' l∧ρ' l=q:=by
     rintro⟨l,hl,rfl⟩
     rcases p7 l hl with h|⟨h,_⟩
     · exact jr l h (p1 l h hl).symm
     obtain⟨r,h'⟩:=mu;rw[h] at h';cases h'
   show(if h:∃l,live H' l∧ρ' l=q then β' (Classical.choose h) else β q)=β q
   rw[dif_neg h]
 have lV:∀q,live gM q→(live H q∧(∀l,live eV l→ρ l≠q)∧gg q=β q)∨∃l,live H' l∧ρ' l=q∧gg q=β' l:=by
   rintro q ⟨r,h⟩
   rcases p2 q r h with⟨h1,h2⟩|⟨l,r',h1,rfl,_⟩
   · exact .inl ⟨⟨r,h1⟩,h2,k9 q ⟨r,h1⟩ h2⟩
   exact .inr ⟨l,⟨r',h1⟩,rfl,Ad l ⟨r',h1⟩⟩
 have mQ:∀l g,live H' l→β' l=some g→(∃l0,live eV l0∧β (ρ l0)=some g)∨w.heap.size≤g:=by
   intro l g hl hg
   rcases hc.own l g hl hg with h|h
   · exact .inl h
   exact .inr h
 have wi:∀l,live eV l→live H' l→β' l=β (ρ l):=fun l h1 h2=>(hc.eD l h1).2 h2
 have mR:∀k,k<w.heap.size→(∀l,live eV l→β (ρ l)≠some k)→w'.heap[k]?=w.heap[k]?:=by
   intro k hk jr
   refine hc.frame.block k hk ?_
   rintro⟨l,hl,hb⟩
   exact jr l hl hb
 have zg:∀k,Im K β H k→k<w.heap.size→Im K gg gM k∧k<w'.heap.size∧w'.heap[k]?=w.heap[k]?:=by
   intro k hk qX
   refine⟨⟨hk.1,fun q mu hb=> ?_⟩,Nat.lt_of_lt_of_le qX hc.frame.size,mR k qX (fun l hl=>hk.2 _ (aF l hl))⟩
   rcases lV q mu with⟨h1,h2,h3⟩|⟨l,h1,h2,h3⟩
   · rw[h3] at hb;exact hk.2 q h1 hb
   rw[h3] at hb
   rcases mQ l k h1 hb with⟨l0,h4,h5⟩|h4
   · exact hk.2 _ (aF l0 h4) h5
   omega
 have C9:∀q,H q≠ .unused→live gM q→live H q∧gg q=β q∧∀g S,β q=some g→fi w g=some S→fi w' g=some S:=by
   intro q hu mu
   refine⟨?_,?_,fun g S _ h=>hc.frame.bs g S h⟩
   · rcases lV q mu with⟨h1,h2,h3⟩|⟨l,h1,h2,h3⟩
     · exact h1
     rcases p7 l h1 with h|⟨h,_⟩
     · have e:=p1 l h h1;rw[←h2,e];exact aF l h
     rw[h2] at h;exact absurd h hu
   rcases lV q mu with⟨h1,h2,h3⟩|⟨l,h1,h2,h3⟩
   · exact h3
   rcases p7 l h1 with h|⟨h,_⟩
   · rw[h3,wi l h h1,←h2,p1 l h h1]
   rw[h2] at h;exact absurd h hu
 have ca:∀ls,(∀q∈ls,H q≠ .unused)→dw w w' β gg H gM (Im K β H) (Im K gg gM) ls:=fun ls kK=>
   {im:=zg,lb:=fun q wj tk=>C9 q (kK q wj) tk}
 have An:ef w' w' (Im (bO K.P K.G w (Im K β H) (fun l=>β (ρ l)) eV) β' H') (Im K gg gM):=⟨by
   intro k hk qX
   refine⟨⟨?_,fun q mu hb=> ?_⟩,qX,rfl⟩
   · rcases hk.1 with h|h
     · exact h.1
     exact .inr (Nat.le_trans hr.frame.size h)
   rcases lV q mu with⟨h1,h2,h3⟩|⟨l,h1,h2,h3⟩
   · rw[h3] at hb
     rcases hk.1 with h|h
     · exact h.2 q h1 hb
     have:=hr.iO h1 hb
     have h':w.heap.size≤k:=h
     omega
   rw[h3] at hb
   exact hk.2 l h1 hb⟩
 have nO:∀l,(l∈x.ax∨∃l1 r1 cs,H' l1= .live r1∧cs∈r1.bN∧l∈af cs)→live gM (ρ' l)→live H' l∧gg (ρ' l)=β' l∧∀g S,β' l=some g→fi w' g=some S→fi w' g=some S:=by
   intro l h1 h2
   have h3:=p8 l h1 h2
   exact⟨h3,Ad l h3,fun _ _ _ h=>h⟩
 refine⟨gg,⟨hr.defers,hr.size,fun n=>RV.mono _ _ (ca _ (hr.dp n)) (hr.ey n),?_,?_,?_,fun n q mu=>p4 q (hr.dp n q mu),?_,?_,?_,?_,?_⟩,RV.kM x v An (fun l hl=>nO l (.inl hl)) xf⟩
 · intro q r B7
   rcases p2 q r B7 with⟨h1,h2⟩|⟨l,r',h1,rfl,rfl⟩
   · obtain⟨e1,e2,e3⟩:=hr.rows q r h1
     refine⟨e1,e2,?_⟩
     rw[k9 q ⟨r,h1⟩ h2]
     cases hb:β q with
     |none=>simpa only[hb] using e3
     |some g=>
     simp only[hb] at e3 ⊢
     obtain⟨cur,e,cap,f1,f2,f3,f4,f5⟩:=e3
     have hg:g<w.heap.size:=(Array.getElem?_eq_some_iff.1 f1).1
     refine⟨cur,e,cap,(mR g hg (fun l hl D4=>h2 l hl (hr.inj _ _ g (aF l hl) ⟨r,h1⟩ D4 hb))).trans f1,f2,f3,f4,fun i j cs y hi hj=> ?_⟩
     obtain⟨u,k1,k2⟩:=f5 i j cs y hi hj
     exact⟨u,k1,RV.mono _ _ (ca _ (fun p hp=>hr.bL q r h1 cs (List.mem_of_getElem? hi) p (bT _ _ _ hj p hp))) k2⟩
   obtain⟨e1,e2,e3⟩:=hc.rows l r' h1
   refine⟨e1,?_,?_⟩
   · intro cs bt
     simp only[cC,List.mem_map] at bt
     obtain⟨zo,h0,rfl⟩:=bt
     rw[ir];exact e2 zo h0
   rw[Ad l ⟨r',h1⟩]
   cases hb:β' l with
   |none=>simp only[hb] at e3;simp[cC,e3]
   |some g=>
   simp only[hb] at e3 ⊢
   obtain⟨cur,e,cap,f1,f2,f3,f4,f5⟩:=e3
   refine⟨cur,e,cap,f1,f2,f3,by simpa[cC] using f4,fun i j cs y hi hj=> ?_⟩
   simp only[cC,List.getElem?_map,Option.map_eq_some_iff] at hi
   obtain⟨zo,hi,rfl⟩:=hi
   rw[iq,Option.map_eq_some_iff] at hj
   obtain⟨y0,hj,rfl⟩:=hj
   obtain⟨u,k1,k2⟩:=f5 i j zo y0 hi hj
   exact⟨u,k1,RV.kM _ _ An (fun p hp=>nO p (.inr ⟨l,r',zo,h1,List.mem_of_getElem? hi,bT _ _ _ hj p hp⟩)) k2⟩
 · intro q g mu hb
   rcases lV q mu with⟨h1,h2,h3⟩|⟨l,h1,h2,h3⟩
   · rw[h3] at hb;exact hr.own q g h1 hb
   rw[h3] at hb
   rcases mQ l g h1 hb with⟨l0,h4,h5⟩|h4
   · exact hr.own _ g (aF l0 h4) h5
   exact .inr (Nat.le_trans hr.frame.size h4)
 · intro q1 q2 g wj tk g1 g2
   rcases lV q1 wj with⟨h1,h2,h3⟩|⟨l,h1,h2,h3⟩
   · rw[h3] at g1
     rcases lV q2 tk with⟨k1,k2,k3⟩|⟨l',k1,k2,k3⟩
     · rw[k3] at g2;exact hr.inj q1 q2 g h1 k1 g1 g2
     rw[k3] at g2
     rcases mQ l' g k1 g2 with⟨l0,h4,h5⟩|h4
     · exact absurd (hr.inj _ _ g (aF l0 h4) h1 h5 g1) (h2 l0 h4)
     have:=hr.iO h1 g1;omega
   rw[h3] at g1
   rcases lV q2 tk with⟨k1,k2,k3⟩|⟨l',k1,k2,k3⟩
   · rw[k3] at g2
     rcases mQ l g h1 g1 with⟨l0,h4,h5⟩|h4
     · exact absurd (hr.inj _ _ g (aF l0 h4) k1 h5 g2) (k2 l0 h4)
     have:=hr.iO k1 g2;omega
   rw[k3] at g2
   rw[←h2,←k2,hc.inj l l' g h1 k1 g1 g2]
 · intro q r B7 cs bt p hp
   rcases p2 q r B7 with⟨h1,h2⟩|⟨l,r',h1,rfl,rfl⟩
   · exact p4 p (hr.bL q r h1 cs bt p hp)
   simp only[cC,List.mem_map] at bt
   obtain⟨zo,h0,rfl⟩:=bt
   rw[fv,List.mem_map] at hp
   obtain⟨p0,D5,rfl⟩:=hp
   exact p6 l r' h1 zo h0 p0 D5
 · refine⟨hc.frame.os.trans hr.frame.os,hc.frame.tape.trans hr.frame.tape,hc.frame.output.trans hr.frame.output,Nat.le_trans hr.frame.size hc.frame.size,fun k hk hd=> ?_,fun k S hS=>hc.frame.bs k S (hr.frame.bs k S hS)⟩
   refine(mR k (Nat.lt_of_lt_of_le hk hr.frame.size) (fun l hl hb=> ?_)).trans (hr.frame.block k hk hd)
   rcases hr.own _ k (aF l hl) hb with h|h
   · exact hd h
   omega
 · intro g cs hg
   obtain⟨h1,h2,h3⟩:=hr.eh g cs hg
   obtain⟨k1,k2,k3⟩:=zg g h1 h2
   exact⟨k1,k2,b8.mono (ca [] (by simp)).toef h1 h2 h3⟩
 · intro l hl
   obtain⟨h1,h2⟩:=hr.eD l hl
   refine⟨p4 l h1,fun h=> ?_⟩
   obtain⟨k1,k2,_⟩:=C9 l h1 h
   rw[k2];exact h2 k1
 intro q g mu hf hb
 rcases lV q mu with⟨h1,h2,h3⟩|⟨l,h1,h2,h3⟩
 · rw[h3] at hb;exact hr.fr q g h1 hf hb
 rw[h3] at hb
 rcases p7 l h1 with h|⟨h,h'⟩
 · rw[wi l h h1] at hb
   have e:ρ l=q:=by rw[←h2,p1 l h h1]
   rw[e] at hb
   exact hr.fr q g (e▸aF l h) hf hb
 rcases h' (by rw[h2];exact hf) with B8|B8
 · exact Nat.le_trans hr.frame.size (hc.fr l g h1 B8 hb)
 rcases mQ l g h1 hb with⟨l0,h4,h5⟩|h4
 · exact hr.fr _ g (aF l0 h4) (B8 l0 h4) h5
 exact Nat.le_trans hr.frame.size h4
end
end Go.Am

namespace Go.Am
open Go Go.RowKit
section
variable {K:Kx} {β:Lb→Option Nat} {env:Env} {H:Hp} {a:Act} {w:World}
def la (K:Kx) (env:Env) (d:Option Nat) (k:AV→Hp→Prop) (a':Act) (w':World):Prop:=∃x H',k x H'∧∃β',au K β' (bV env d x) H' a' w'
def cd (hr:au K β env H a w) {o:Oper} (hd:∀n,o.dst=some n→n<K.N) {x:AV} {k:AV→Hp→Prop} {Q:Exit→Act→World→Prop} (h:ar K β H a w o x) (hk:k x H) :
  o.wp K.P a w (la K env o.dst k) Q:=by
 obtain⟨v,w',h1,h2,h3,h4⟩:=h;unfold Oper.wp;rw[h1];exact⟨x,H,hk,β,hr.step h2 hd (fun _=>h3) (fun _=>h4)⟩
def cf {o:Oper} {x:AV} {H':Hp} {k:AV→Hp→Prop} {Q:Exit→Act→World→Prop} (h:eT K env a w o o.dst x H') (hk:k x H') :
  o.wp K.P a w (la K env o.dst k) Q:=by
 obtain⟨nx,w',β',v,h1,h2,h3⟩:=h;unfold Oper.wp;rw[h1];rcases h2 with rfl|⟨rfl,rfl⟩
 ·exact⟨x,H',hk,β',h3⟩
 exact⟨x,H',hk,β',h3⟩
def o7 (hr:au K β env H a w) {o:Oper} (hd:∀n,o.dst=some n→n<K.N) {f:Nat} {args:List AV} {vs:List Value} {k:AV→Hp→Prop} {Q:Exit→Act→World→Prop}
  (fG:(execOp a.eval o).run K.P w= .ok (.enter f vs.toArray) w) (hv:aI w β H (Im K β H) args vs) (hc:fS ⟨K.P,K.G,K.N⟩ f args H k):o.wp K.P a w (la K env o.dst k) Q:=by
 unfold Oper.wp;rw[fG];rcases hc with⟨res,hp,hk⟩|⟨cb,res,ha,hp,mO,hk⟩|⟨ρ,eV,cb,Q',h1,rfl,h3,h4,h5,h6,D6,h7,h8⟩
 ·refine(iU hr hp hv trivial).mono ?_;rintro e w' ⟨v,rfl,gw,hx⟩;exact⟨res,H,hk,β,hr.step gw hd (fun _=>hx) (fun _ l hl=>by rw[hp.2.1] at hl;simp at hl)⟩
 ·refine(pO hr ha hp mO hv).mono ?_;rintro e w' ⟨v,rfl,gw,hx⟩;exact⟨res,H,hk,β,hr.step gw hd (fun _=>hx) (fun _ l hl=>by rw[hp.2.1] at hl;simp at hl)⟩
 refine(pP hr h1 h3 h4 h5 h6 D6 h7 hv).mono ?_;rintro e w' ⟨v,x,H',rfl,hq,bG⟩;obtain⟨ρ',gM,p1,p2,p3,p4,p5,p6,p7,p8,hk⟩:=h8 x H' hq;obtain⟨gg,q1,q2⟩:=bG ρ' gM p1 p2 p3 p4 p5 p6 p7 p8;exact⟨_,gM,hk,gg,q1.step (Below.refl _ _) hd (fun _=>q2) (fun _ l hl=>by
  rw[lU,F2] at hl;obtain⟨l0,h0,rfl⟩:=hl;exact p5 l0 h0)⟩
def aE {α γ:Type} {x:Option α} {f:α→Option γ} {y:γ} (h:x.bind f=some y):∃a,x=some a∧f a=some y:=Fv.1 h
def aL {α γ:Type} {x:Option α} {f:α→γ} {y:γ} (h:x.map f=some y):∃a,x=some a∧f a=y:=Fu.1 h
def rl {i:a8} {x:O} (h:i.eH= .box x):i= .box x∨i= .kH x:=by
 cases i<;>simp[a8.eH] at h<;>simp[h]
def rn {i:a8} {s x:O} {sz b:Nat} (h:i.eH= .app s x sz b):i= .app s x sz b∨i= .kJ s x sz b:=by
 cases i<;>simp[a8.eH] at h<;>simp[h]
def pQ {i:a8} {n sz:Nat} {z:List AV} {ps:List (Nat×O)} (h:i.eH= .lits n sz z ps):i= .lits n sz z ps∨(n=1∧i= .et sz z ps):=by
 cases i<;>simp[a8.eH] at h<;>simp[h]
def a8.xm:a8→Bool
 | .box _| .app ..| .lits ..=>true
 |_=>false
def bP {i j:a8} (h:i.eH=j) (hj:j.xm=false):i=j:=by
 subst h;cases i<;>first|rfl|(simp[a8.eH,a8.xm] at hj)
def a8.plain:a8→Bool
 | .load ..| .box _| .new _| .store ..| .app ..| .call ..| .eg ..| .nR ..| .mB ..| .vT ..| .cap ..| .nM ..| .fj ..| .lN ..| .et ..=>false
 |_=>true
def fw {S:St} {d:Option Nat} {i:a8} {k:AV→Hp→Prop} (h:i.plain=true) (ha:aH S d i env H k):∃x,aa i env=some x∧k x H:=by
 cases i<;>simp[a8.plain] at h<;>exact ha
def kN (d:Nat) {P:Program} {t e:TypeId} (ht:P.underlying t=some (.slice e)) (a:Option Addr) (n c:Nat) :
  (Op.equalIn (d+1) t (.slice a n c) (.slice none 0 0)).run P w= .ok a.isNone w:=by
 cases a<;>simp[Op.equalIn,run_underlying ht]
def Ao (hr:au K β env H a w) {o:Oper} {op:BinOp} {t t2 e:TypeId} {x y:Operand} {x':O} {n:Bool} (ho:o.op= .binOp op t x y t2) (hn:fO op=some n)
  (ht:K.P.underlying t=some (.slice e)) (hc:nV y=true) (hx:co K.G x=some x') {bs:List Bool} (hz:mM (ev env x')=some bs):∃b,b∈bs∧ar K β H a w o (.bool (n ^^ b)):=by
 have h:=hr.ev hx;have hy:a.eval y= .slice none 0 0:=by
  unfold nV at hc;split at hc
  ·rfl
  cases hc
 have key:∀(ad:Option Addr) (m c:Nat),a.eval x= .slice ad m c→ad.isNone∈bs→∃b,b∈bs∧ar K β H a w o (.bool (n ^^ b)):=by
  intro ad m c h3 h4;refine⟨ad.isNone,h4,ar.same (v:= .bool (n ^^ ad.isNone)) ?_ (by simp[RV]) (by simp[AV.ax])⟩;have h5:(Op.equal t (.slice ad m c) (.slice none 0 0)).run K.P w= .ok ad.isNone w:=kN 9999 ht ad m c;rcases fm hn with⟨rfl,rfl⟩|⟨rfl,rfl⟩
  ·simp[execOp,ho,h3,hy,eqGuard,binOp,h5]
  simp[execOp,ho,h3,hy,eqGuard,binOp,h5]
 have uh:∀b:Bool,b∈[true,false]:=by intro b;cases b<;>simp
 cases e1:ev env x'<;>rw[e1] at h hz
 case list xs=>
  simp only[RV,de] at h;obtain⟨ad,c,h1,_,_,h4⟩:=h;cases xs with
  |nil=>simp only[mM,cQ] at hz;subst hz;exact key _ _ _ h1 (uh _)
  |cons y0 r=>
  simp only[mM,cQ] at hz;subst hz;rcases h4 with h4|⟨b,o',sz,h4,_⟩
  ·simp at h4
  refine key _ _ _ h1 ?_;rw[h4];simp
 case nil0=>
  simp only[RV] at h;obtain⟨ad,h1⟩:=h;simp only[mM,cQ] at hz;subst hz;exact key _ _ _ h1 (uh _)
 case slk l sz i m c=>
  simp only[RV] at h;obtain⟨ad,h1,h2,_,h4,_⟩:=h;simp only[mM,cQ] at hz;subst hz;refine key _ _ _ h1 ?_;by_cases hm:0<m
  ·rw[FG hm];have:=h4 (by omega);cases ad with
   |none=>simp at this
   |some q=>simp
  rw[FU hm];exact uh _
 case sl l sz i m=>
  simp only[RV] at h;obtain⟨ad,c,h1,_,_,h4,_⟩:=h;simp only[mM,cQ] at hz;subst hz;refine key _ _ _ h1 ?_;by_cases hm:0<m
  ·rw[FG hm];have:=h4 hm;cases ad with
   |none=>simp at this
   |some q=>simp
  rw[FU hm];exact uh _
 all_goals simp[mM] at hz
set_option maxHeartbeats 1000000 in
def ob (hr : au K β env H a w) {o : Oper} {i : a8} {k : AV → Hp → Prop} {Q : Exit → Act → World → Prop} (hd : ∀ n,o.dst = some n → n < K.N) (hc : qU K.P K.G o = some i.eH)
   (ha : aH ⟨K.P,K.G,K.N⟩ o.dst i env H k) : o.wp K.P a w (la K env o.dst k) Q := by
 have plain : ∀ j : a8,i.eH = j → j.xm = false → j.plain = true → (∀ x,aa j env = some x → ar K β H a w o x) → o.wp K.P a w (la K env o.dst k) Q := by
   intro j hj D7 hp hs
   have e := bP hj D7
   subst e
   obtain ⟨x,h1,h2⟩ := fw hp ha
   exact cd hr hd (hs x h1) h2
 unfold qU at hc
 split at hc
 · rename_i x ho
   obtain ⟨y,h1,h2⟩ := aL hc
   exact plain _ h2.symm rfl rfl (fun z hz => by simp only [aa,Option.some.injEq] at hz; subst hz; exact vX hr (.inl ho) h1)
 · rename_i x ho
   obtain ⟨y,h1,h2⟩ := aL hc
   exact plain _ h2.symm rfl rfl (fun z hz => by simp only [aa,Option.some.injEq] at hz; subst hz; exact vX hr (.inr ho) h1)
 · rename_i c x y ho
   obtain ⟨c',h1,hc⟩ := aE hc
   obtain ⟨x',h2,hc⟩ := aE hc
   obtain ⟨y',h3,h4⟩ := aL hc
   refine plain _ h4.symm rfl rfl (fun z hz => ?_)
   simp only [aa] at hz
   split at hz
   · rename_i t ht
     simp only [Option.some.injEq] at hz; subst hz
     exact wK hr ho h1 h2 h3 ht
   · simp at hz
 · rename_i t x f ho
   split at hc
   · rename_i fs ht
     obtain ⟨fd,h1,hc⟩ := aE hc
     obtain ⟨s,h2,hc⟩ := aE hc
     split at hc
     · simp at hc
     · rename_i oW
       obtain ⟨x',h3,h4⟩ := aL hc
       exact plain _ h4.symm rfl rfl (fun z hz => zC hr ho ht h1 h2 oW h3 hz)
   · simp at hc
 · rename_i t x j ho
   split at hc
   · rename_i e ht
     obtain ⟨s,h2,hc⟩ := aE hc
     obtain ⟨x',h3,hc⟩ := aE hc
     obtain ⟨j',h4,h5⟩ := aL hc
     exact plain _ h5.symm rfl rfl (fun z hz => zE hr ho ht h2 h3 h4 hz)
   · rename_i n e ht
     obtain ⟨s,h2,hc⟩ := aE hc
     obtain ⟨x',h3,hc⟩ := aE hc
     obtain ⟨j',h4,h5⟩ := aL hc
     exact plain _ h5.symm rfl rfl (fun z hz => zD hr ho ht h2 h3 h4 hz)
   · simp at hc
 · rename_i t x j ho
   split at hc
   · rename_i ht
     obtain ⟨x',h3,hc⟩ := aE hc
     obtain ⟨j',h4,h5⟩ := aL hc
     exact plain _ h5.symm rfl rfl (fun z hz => zF hr ho ht h3 h4 hz)
   · simp at hc
 · rename_i t x lo hi mx ho
   split at hc
   · rename_i e ht
     obtain ⟨s,h2,hc⟩ := aE hc
     obtain ⟨x',h3,hc⟩ := aE hc
     obtain ⟨lP,h4,hc⟩ := aE hc
     obtain ⟨cM,h5,hc⟩ := aE hc
     obtain ⟨mx',h6,h7⟩ := aL hc
     exact plain _ h7.symm rfl rfl (fun z hz => zH hr ho ht h2 h3 h4 h5 h6 hz)
   · rename_i ht
     split at hc
     · simp at hc
     · rename_i nY
       obtain ⟨x',h3,hc⟩ := aE hc
       obtain ⟨lP,h4,hc⟩ := aE hc
       obtain ⟨cM,h5,h7⟩ := aL hc
       have : mx = none := by cases mx <;> simp_all
       subst this
       exact plain _ h7.symm rfl rfl (fun z hz => wO hr ho ht h3 h4 h5 hz)
   · rename_i n e ht
     split at hc
     · rename_i wm
       simp only [Bool.and_eq_true,Option.isNone_iff_eq_none] at wm
       obtain ⟨⟨rfl,rfl⟩,rfl⟩ := wm
       obtain ⟨s,h2,hc⟩ := aE hc
       split at hc
       · simp at hc
       · rename_i oW
         obtain ⟨x',h3,h5⟩ := aL hc
         exact plain _ h5.symm rfl rfl (fun z hz => xh hr ho ht h2 oW h3 hz)
     · simp at hc
   · simp at hc
 · -- makeSlice
   rename_i t n c ho
   split at hc
   · rename_i e ht
     split at hc
     · rename_i ti o8
       split at hc
       · rename_i z hz
         split at hc
         · rename_i bJ
           obtain ⟨zs,h1,hc⟩ := aE hc
           obtain ⟨n',h2,hc⟩ := aE hc
           obtain ⟨c',h3,h5⟩ := aL hc
           have e5 := bP h5.symm rfl
           subst e5
           obtain ⟨q,g1,y,H',g2,g3⟩ := ha
           exact cf (by rw [g1]; exact Ak hr (hd q g1) ho ht o8 hz bJ.1 bJ.2.1 bJ.2.2 h1 h2 h3 g2) g3
         · simp at hc
       · simp at hc
     · simp at hc
   · simp at hc
 · rename_i op t x y t2 ho
   split at hc
   · obtain ⟨x',h3,hc⟩ := aE hc
     obtain ⟨y',h4,h5⟩ := aL hc
     exact plain _ h5.symm rfl rfl (fun z hz => vY hr ho h3 h4 hz)
   · obtain ⟨x',h3,hc⟩ := aE hc
     obtain ⟨y',h4,h5⟩ := aL hc
     exact plain _ h5.symm rfl rfl (fun z hz => vY hr ho h3 h4 hz)
   · rename_i ht
     obtain ⟨n,h2,hc⟩ := aE hc
     obtain ⟨x',h3,hc⟩ := aE hc
     obtain ⟨y',h4,h5⟩ := aL hc
     exact plain _ h5.symm rfl rfl (fun z hz => zV hr ho h2 ht h3 h4 hz)
   · rename_i e ht
     obtain ⟨n,h2,hc⟩ := aE hc
     obtain ⟨x',h3,hc⟩ := aE hc
     obtain ⟨y',h4,h5⟩ := aL hc
     exact plain _ h5.symm rfl rfl (fun z hz => zW hr ho h2 ht h3 h4 hz)
   · rename_i ms ht
     split at hc
     · rename_i rp
       obtain ⟨n,h2,hc⟩ := aE hc
       obtain ⟨x',h3,hc⟩ := aE hc
       obtain ⟨y',h4,h5⟩ := aL hc
       exact plain _ h5.symm rfl rfl (fun z hz => zY hr ho h2 ht rp h3 hz)
     · simp at hc
   · rename_i fs ht
     obtain ⟨ks,h1,hc⟩ := aE hc
     obtain ⟨n,h2,hc⟩ := aE hc
     obtain ⟨x',h3,hc⟩ := aE hc
     obtain ⟨y',h4,h5⟩ := aL hc
     exact plain _ h5.symm rfl rfl (fun z hz => wW hr ho h2 h1 h3 h4 hz)
   · -- a slice,held against nil
     rename_i e ht
     split at hc
     · rename_i rp
       obtain ⟨n,h2,hc⟩ := aE hc
       obtain ⟨x',h3,h5⟩ := aL hc
       have e5 := bP h5.symm rfl
       subst e5
       obtain ⟨bs,g1,g2⟩ := ha
       obtain ⟨b,hb,cL⟩ := Ao hr ho h2 ht rp h3 g1
       exact cd hr hd cL (g2 b hb)
     · simp at hc
   · simp at hc
 · rename_i t x ho
   obtain ⟨x',h3,h5⟩ := aL hc
   exact plain _ h5.symm rfl rfl (fun z hz => zI hr ho h3 hz)
 · rename_i t x ho
   obtain ⟨x',h3,h5⟩ := aL hc
   exact plain _ h5.symm rfl rfl (fun z hz => zJ hr ho h3 hz)
 · rename_i x j ho
   obtain ⟨x',h3,h5⟩ := aL hc
   exact plain _ h5.symm rfl rfl (fun z hz => zM hr ho h3 hz)
 · rename_i x ho
   obtain ⟨x',h3,h5⟩ := aL hc
   exact plain _ h5.symm rfl rfl (fun z hz => wP hr ho h3 hz)
 · -- box
   rename_i t x ho
   obtain ⟨x',h3,h5⟩ := aL hc
   rcases rl h5.symm with rfl | rfl
   · obtain ⟨n,g1,g2,g3,g4,g5,g6⟩ := ha
     exact cf (by rw [g1]; exact z' hr (hd n g1) ho h3 g3 g4 g5 g2) g6
   · obtain ⟨y,h1,h2⟩ := fw rfl ha
     exact cd hr hd (wR hr ho h3 h1) h2
 · rename_i f first cap ho
   split at hc
   · rename_i hf
     obtain ⟨cs,h3,h5⟩ := aL hc
     exact plain _ h5.symm rfl rfl (fun z hz => zN hr ho hf h3 hz)
   · obtain ⟨qs,h2,hc⟩ := aE hc
     obtain ⟨cs,h3,h5⟩ := aL hc
     exact plain _ h5.symm rfl rfl (fun z hz => zO hr ho h2 h3 hz)
 · -- load
   rename_i t x ho
   obtain ⟨m,h1,hc⟩ := aE hc
   obtain ⟨x',h3,h5⟩ := aL hc
   have e := bP h5.symm rfl
   subst e
   rcases ha with ⟨y,g1,g2⟩ | ⟨y,g1,g2⟩
   · exact cd hr hd (tV hr ho h1 h3 g1) g2
   · exact cd hr hd (wZ hr ho h1 h3 g1) g2
 · -- alloc
   rename_i t ho
   split at hc
   · rename_i ti o8
     split at hc
     · rename_i z hz
       split at hc
       · obtain ⟨cs,h3,h5⟩ := aL hc
         have e := bP h5.symm rfl
         subst e
         obtain ⟨n,g1,g2,g3,g4,g5⟩ := ha
         exact cf (by rw [g1]; exact tY hr (hd n g1) ho o8 hz h3 g3 g4 g2) g5
       · simp at hc
     · simp at hc
   · simp at hc
 · -- store
   rename_i t x y ho
   obtain ⟨s,h1,hc⟩ := aE hc
   obtain ⟨x',h3,hc⟩ := aE hc
   obtain ⟨y',h4,h5⟩ := aL hc
   have e := bP h5.symm rfl
   subst e
   obtain ⟨g1,H',g2,g3⟩ := ha
   exact cf (by rw [g1]; exact tZ hr ho h1 h3 h4 g2) g3
 · -- convert
   rename_i s d x ho
   split at hc
   · rename_i k1 k2 hs xn
     obtain ⟨x',h3,h5⟩ := aL hc
     exact plain _ h5.symm rfl rfl (fun z hz => zP hr ho hs xn h3 hz)
   · rename_i hs xn
     obtain ⟨x',h3,h5⟩ := aL hc
     exact plain _ h5.symm rfl rfl (fun z hz => zQ hr ho hs xn h3 hz)
   · rename_i e hs xn
     split at hc
     · rename_i he
       obtain ⟨x',h3,h5⟩ := aL hc
       exact plain _ h5.symm rfl rfl (fun z hz => zZ hr ho hs xn he h3 hz)
     · simp at hc
   · rename_i e hs xn
     split at hc
     · rename_i he
       obtain ⟨x',h3,h5⟩ := aL hc
       exact plain _ h5.symm rfl rfl (fun z hz => z7 hr ho hs he xn h3 hz)
     · simp at hc
   · simp at hc
 · rename_i t x ho
   split at hc
   · simp at hc
   · rename_i d D8 ht
     obtain ⟨x',h3,h5⟩ := aL hc
     exact plain _ h5.symm rfl rfl (fun z hz => wQ hr ho ht (fun ms e => D8 ms e) h3 hz)
   · simp at hc
 · rename_i t x f ho
   split at hc
   · rename_i fs ht
     obtain ⟨fd,h1,hc⟩ := aE hc
     obtain ⟨m,h2,hc⟩ := aE hc
     obtain ⟨x',h3,h5⟩ := aL hc
     exact plain _ h5.symm rfl rfl (fun z hz => wV hr ho ht h1 h2 h3 hz)
   · simp at hc
 · -- buildSlice
   rename_i t n ps ho
   split at hc
   · rename_i e ht
     split at hc
     · rename_i ti o8
       split at hc
       · rename_i z hz
         split at hc
         · rename_i bJ
           obtain ⟨zs,h1,hc⟩ := aE hc
           obtain ⟨xs,h2,h5⟩ := aL hc
           rcases pQ h5.symm with rfl | ⟨rfl,rfl⟩
           · obtain ⟨y,g1,g2⟩ := fw rfl ha
             exact cd hr hd (wS hr ho ht o8 hz bJ.1 bJ.2.1 bJ.2.2 h1 h2 g1) g2
           · obtain ⟨q,g1,y,H',g2,g3⟩ := ha
             exact cf (by rw [g1]; exact ue hr (hd q g1) ho ht o8 hz bJ.1 bJ.2.1 bJ.2.2 h1 h2 g2) g3
         · simp at hc
       · simp at hc
     · simp at hc
   · simp at hc
 · -- build
   rename_i t ps ho
   split at hc
   · rename_i ti fs o8 ht
     split at hc
     · rename_i z pl hz BQ
       obtain ⟨zs,h1,hc⟩ := aE hc
       obtain ⟨xs,h2,hc⟩ := aE hc
       obtain ⟨qs,h3,h5⟩ := aL hc
       exact plain _ h5.symm rfl rfl (fun y hy => zU hr ho ht o8 hz BQ h1 h2 h3 hy)
     · simp at hc
   · simp at hc
 · -- call
   rename_i c ho
   split at hc
   · -- len
     rename_i fb
     split at hc
     · rename_i x h1 h2
       obtain ⟨x',h3,h5⟩ := aL hc
       exact plain _ h5.symm rfl rfl (fun z hz => wM hr ho fb h1 h2 h3 hz)
     · rename_i x e h1 h2
       obtain ⟨x',h3,h5⟩ := aL hc
       exact plain _ h5.symm rfl rfl (fun z hz => zG hr ho fb h1 h2 h3 hz)
     · simp at hc
   · -- max
     rename_i fb
     split at hc
     · rename_i x y h1
       obtain ⟨x',h3,hc⟩ := aE hc
       obtain ⟨y',h4,h5⟩ := aL hc
       exact plain _ h5.symm rfl rfl (fun z hz => zK hr ho fb h1 h3 h4 hz)
     · simp at hc
   · -- min
     rename_i fb
     split at hc
     · rename_i x y h1
       obtain ⟨x',h3,hc⟩ := aE hc
       obtain ⟨y',h4,h5⟩ := aL hc
       exact plain _ h5.symm rfl rfl (fun z hz => zL hr ho fb h1 h3 h4 hz)
     · simp at hc
   · -- append
     rename_i fb
     split at hc
     · rename_i s x st xt h1 h2
       split at hc
       · rename_i e cL
         split at hc
         · rename_i ti o8
           split at hc
           · rename_i bJ
             simp only [Bool.and_eq_true,beq_iff_eq,decide_eq_true_eq] at bJ
             obtain ⟨⟨q1,q2⟩,q3⟩ := bJ
             obtain ⟨z,hz,C'⟩ := aL q1
             obtain ⟨s',h3,hc⟩ := aE hc
             obtain ⟨x',h4,h5⟩ := aL hc
             obtain ⟨dx,mw,nP⟩ : ∃ dx,K.P.underlying xt = some dx ∧ (dx = .string ∨ ∃ e2,dx = .slice e2) := by
               unfold zA at q3
               split at q3
               · rename_i hh; exact ⟨_,hh,.inl rfl⟩
               · rename_i hh; exact ⟨_,hh,.inr ⟨_,rfl⟩⟩
               · simp at q3
             rcases rn h5.symm with rfl | rfl
             · obtain ⟨n,g1,y,H',g3,g4⟩ := ha
               exact cf (by rw [g1]; exact Ac hr (hd n g1) ho fb h1 h2 cL o8 hz C' q2 mw nP h3 h4 g3) g4
             · obtain ⟨y,g3,g4⟩ := fw rfl ha
               exact cd hr hd (xi hr ho fb h1 h2 cL o8 hz C' q2 mw nP h3 h4 g3) g4
           · split at hc
             · rename_i k0 z mw hz
               split at hc
               · rename_i kf
                 obtain ⟨zs,h5,hc⟩ := aE hc
                 obtain ⟨s',h3,hc⟩ := aE hc
                 obtain ⟨x',h4,h6⟩ := aL hc
                 have e6 := bP h6.symm rfl
                 subst e6
                 obtain ⟨n,g1,y,H',g3,g4⟩ := ha
                 exact cf (by rw [g1]; exact xj hr (hd n g1) ho fb h1 h2 cL o8 hz kf.1 kf.2.1 kf.2.2 mw h5 h3 h4 g3) g4
               · simp at hc
             · simp at hc
         · simp at hc
       · simp at hc
     · simp at hc
   · -- cap
     rename_i fb
     split at hc
     · rename_i x e h1 h2
       obtain ⟨x',h3,h5⟩ := aL hc
       have e5 := bP h5.symm rfl
       subst e5
       obtain ⟨R,g1,g2⟩ := ha
       obtain ⟨m,q1,q2,q3⟩ := Al hr ho fb h1 h2 h3 g1
       exact cd hr hd q3 (g2 m q1 q2)
     · simp at hc
   · -- copy
     rename_i fb
     split at hc
     · rename_i dd x dt xt h1 h2
       split at hc
       · rename_i e Bt
         obtain ⟨s,h3,hc⟩ := aE hc
         split at hc
         · simp at hc
         · rename_i oW
           obtain ⟨d',h4,hc⟩ := aE hc
           obtain ⟨x',h6,h5⟩ := aL hc
           have e5 := bP h5.symm rfl
           subst e5
           obtain ⟨y,H',g1,g2⟩ := ha
           exact cf (Ah hr hd ho fb h1 h2 Bt h3 oW h4 h6 g1) g2
       · simp at hc
     · simp at hc
   · -- clear
     rename_i fb
     split at hc
     · rename_i x e h1 h2
       split at hc
       · rename_i ti o8
         split at hc
         · rename_i z hz
           split at hc
           · rename_i bJ
             obtain ⟨zs,h3,hc⟩ := aE hc
             obtain ⟨x',h4,h5⟩ := aL hc
             have e5 := bP h5.symm rfl
             subst e5
             obtain ⟨H',g1,g2⟩ := ha
             exact cf (Ai hr hd ho fb h1 h2 o8 hz bJ.1 bJ.2 h3 h4 g1) g2
           · simp at hc
         · simp at hc
       · simp at hc
     · simp at hc
   · simp at hc
   · simp at hc
   · -- a function
     rename_i f fb
     split at hc
     · rename_i hb
       obtain ⟨xs,h3,h5⟩ := aL hc
       have e := bP h5.symm rfl
       subst e
       obtain ⟨fn, hf, rq⟩ : ∃ fn, K.P.funcs[f]? = some fn ∧ (fn.body.isSome = true ∧ (fn.name != "runtime.NumGoroutine") = true) := by
         unfold fC at hb
         cases hq : K.P.funcs[f]? with
         | none => simp [hq] at hb
         | some fn => simp only [hq,Option.any_some,Bool.and_eq_true] at hb; exact ⟨fn,rfl,hb⟩
       refine o7 hr hd (vs := c.args.toList.map a.eval) ?_ (e_ hr _ _ h3) ha
       have h1 : ¬ fn.name = "runtime.NumGoroutine" := by simpa using rq.2
       have h2 : ¬ fn.body = none := by intro hh; simp [hh] at rq
       simp [execOp,ho,resolve,fb,Act.eval,Deferred.ofValue,invoke,callFunc,hf,h1,h2]
       cases c.args
       simp
     · -- without a body
       obtain ⟨xs,h3,h5⟩ := aL hc
       have e5 := bP h5.symm rfl
       subst e5
       obtain ⟨res,g1,g2⟩ := ha
       obtain ⟨v,w',q1,q2,q3,q4⟩ := g1 K β env a w (c.args.toList.map a.eval) rfl hr (e_ hr _ _ h3)
       refine cd hr hd ⟨v,w',?_,q2,q3,q4⟩ g2
       have o9 : (c.args.toList.map a.eval).toArray = c.args.map a.eval := by cases c.args; simp
       rw [o9] at q1
       simp [execOp,ho,resolve,fb,Act.eval,Deferred.ofValue,invoke,q1]
   · -- a function value
     rename_i f C8 fb
     obtain ⟨y,h2,hc⟩ := aE hc
     obtain ⟨xs,h3,h5⟩ := aL hc
     have e := bP h5.symm rfl
     subst e
     obtain ⟨f',first,cap,g1,hb,g2⟩ := ha
     have hv := hr.ev h2
     rw [g1] at hv
     simp only [RV] at hv
     obtain ⟨vs,us,k1,k2,k3⟩ := hv
     obtain ⟨fn, hf, rq⟩ : ∃ fn, K.P.funcs[f']? = some fn ∧ (fn.body.isSome = true ∧ (fn.name != "runtime.NumGoroutine") = true) := by
       unfold fC at hb
       cases hq : K.P.funcs[f']? with
       | none => simp [hq] at hb
       | some fn => simp only [hq,Option.any_some,Bool.and_eq_true] at hb; exact ⟨fn,rfl,hb⟩
     refine o7 hr hd (vs := vs ++ c.args.toList.map a.eval ++ us) ?_ (aI.append _ _ _ _ (aI.append _ _ _ _ k2 (e_ hr _ _ h3)) k3) g2
     have h1 : ¬ fn.name = "runtime.NumGoroutine" := by simpa using rq.2
     have h2 : ¬ fn.body = none := by intro hh; simp [hh] at rq
     simp [execOp,ho,resolve,fb,k1,Deferred.ofValue,invoke,callFunc,hf,h1,h2]
 · simp at hc
def pR (hr:au K β env H a w) {o:Oper} {i:a8} {k:AV→Hp→Prop} {Q:Exit→Act→World→Prop} (hd:∀n,o.dst=some n→n<K.N) (hc:comp K.P K.G o=some i.eH)
  (ha:aH ⟨K.P,K.G,K.N⟩ o.dst i env H k):o.wp K.P a w (la K env o.dst k) Q:=by
 unfold comp at hc;split at hc
 ·rename_i j hj;simp only[cQ] at hc;exact ob hr hd (by rw[hj,hc]) ha
 simp only[cQ] at hc;have e:i= .stuck:=bP hc.symm rfl;subst e;obtain⟨x,h1,_⟩:=fw rfl ha;simp[aa] at h1
end

section
variable {K:Kx} {env:Env} {H:Hp} {a:Act} {w:World}
def ld {β:Lb→Option Nat} (hr:au K β env H a w) {ops:Array Oper} {o:Oper} {i:aP} (hc:gN K.P K.G ops o=some i) {b:Bool} (hg:gW i.g env=some b) :
  Region.wanted o (yielded ops a.tmps)=b:=by
 unfold gN at hc;split at hc
 ·rename_i h0;obtain⟨j,_,rfl⟩:=aL hc;simp only[gW,cQ] at hg;subst hg;simp[Region.wanted,h0]
 rename_i j t h0;obtain⟨s,h1,hc⟩:=aE hc;obtain⟨q,_,rfl⟩:=aL hc;simp only[gW] at hg;have hv:=hr.ey s;split at hg
 ·rename_i c e;simp only[cQ] at hg;subst hg;rw[e] at hv;simp only[RV] at hv;have:a.tmps[s]?=some (.bool c):=by
   rw[FD] at hv;cases hq:a.tmps[s]? with
   |none=>rw[hq] at hv;cases hv
   |some u=>rw[hq] at hv;simpa using hv
  simp[Region.wanted,h0,yielded,h1,this]
 ·rename_i e;simp only[cQ] at hg;subst hg;rw[e] at hv;simp only[RV] at hv;have:a.tmps[s]?=none∨a.tmps[s]?=some undef:=by
   rw[FD] at hv;cases hq:a.tmps[s]? with
   |none=>exact .inl rfl
   |some u=>rw[hq] at hv;right;simpa using hv
  rcases this with h|h<;>simp[Region.wanted,h0,yielded,h1,h,undef]
 simp at hg
def mS {P:Program} {G:Nat→Option (List IV)} {ops:Array Oper} {o:Oper} {i:aP} (hc:gN P G ops o=some i):i.d=o.dst∧comp P G o=some i.i:=by
 unfold gN at hc;split at hc
 ·obtain⟨j,h1,rfl⟩:=aL hc;exact⟨rfl,h1⟩
 obtain⟨s,_,hc⟩:=aE hc;obtain⟨q,h1,rfl⟩:=aL hc;exact⟨rfl,h1⟩
def kg {β:Lb→Option Nat} (hr:au K β env H a w) {ops:Array Oper} {o:Oper} {i:aP} (hc:gN K.P K.G ops o=some i.eH) {k:Env→Hp→Prop} {Q:Exit→Act→World→Prop} {KK:Act→World→Prop}
  (hk:∀env' H' β' a' w',k env' H'→au K β' env' H' a' w'→KK a' w')
  (ha:(gW i.g env=some true∧(∀n,i.d=some n→n<K.N)∧aH ⟨K.P,K.G,K.N⟩ i.d i.i env H fun x H'=>k (bV env i.d x) H') ∨
   (gW i.g env=some false∧(∀n,i.d=some n→n<K.N)∧k (bV env i.d .un) H)) :
  if Region.wanted o (yielded ops a.tmps) then o.wp K.P a w KK Q∨(o.asks K.P a w∧LetsOut Q) else KK (a.put o.dst undef) w:=by
 obtain⟨h1,h2⟩:=mS hc;have C_:i.d=o.dst:=h1;rcases ha with⟨hg,hd,ha⟩|⟨hg,hd,ha⟩
 ·have hw:Region.wanted o (yielded ops a.tmps)=true:=ld hr (i:=i.eH) hc hg;rw[FG hw];left;rw[C_] at ha hd;exact Oper.wp_mono (fun a' w' ⟨x,H',hx,β',jP⟩=>hk _ _ _ _ _ hx jP) (pR hr hd h2 ha)
 have hw:Region.wanted o (yielded ops a.tmps)=false:=ld hr (i:=i.eH) hc hg;rw[FU (by simp[hw])];rw[C_] at ha hd;exact hk _ _ _ _ _ ha (hr.step (Below.refl _ _) hd (fun _=>by simp[RV]) (fun _=>by simp[AV.ax]))
theorem mT {ops:Array Oper} {k:Env→Hp→Prop} {Q:Exit→Act→World→Prop} (hk:∀env' H' β' a' w',k env' H'→au K β' env' H' a' w'→Q .normal a' w') :
  ∀(l:List Oper) (is:List aP) (env:Env) (H:Hp) (a:Act) (w:World) (β:Lb→Option Nat),fl (fun o i=>gN K.P K.G ops o=some (aP.eH i)) l is→AO ⟨K.P,K.G,K.N⟩ is env H k→au K β env H a w →
   wpList K.P ops Q l a w
 |[],_,env,H,a,w,β,h,ha,hr=>by
  cases h;exact hk _ _ _ _ _ ha hr
 |o::l,_,env,H,a,w,β,h,ha,hr=>by
  cases h with
  |@cons _ i _ is h1 h2=>
  simp only[AO] at ha;unfold wpList;exact kg hr h1 (k:=fun env' H'=>AO ⟨K.P,K.G,K.N⟩ is env' H' k) (fun env' H' β' a' w' q1 q2=>mT hk l is env' H' a' w' β' h2 q1 q2) ha
end
end Go.Am
