import Derived.Test.YtfinkeaikbmpgaaGreatDoorAm38
import Derived.Test.YtfinkeaikbmpgaaGreatDoorKAm36
set_option linter.unusedSimpArgs false
set_option linter.unusedVariables false
set_option linter.unnecessarySimpa false
set_option linter.defProp false
/- THE ABSTRACT MACHINE, part 12: contracts of calls; a region's operations in their order. -/
namespace Go.Am
open Go Go.RowKit
def aG (xs:List IV):List (List AV):=xs.map fun y=>y.cells.map IV.b7
def Flat (xs:List IV):Prop:=∀y∈xs,∀z∈y.cells,∀cs,z≠ .agg cs
def Hp.none:Hp:=fun _=> .unused
def Env.any:Env:=fun _=> .any
def mW:Act:={tmps:=#[],defers:=[]}
def Ck (β:Lb→Option Nat) (H:Hp) (k:Nat):Prop:=∃l,live H l∧β l=some k
def cV (P:Program) (G:Nat→Option (List IV)) (w:World) (A:Nat→Prop) (β:Lb→Option Nat) (H:Hp):Kx:=⟨P,G,w,A,Ck β H,0,H,β⟩
def gd (P:Program) (G:Nat→Option (List IV)) (f:Nat) (args:List AV) (H:Hp) (Q:AV→Hp→Prop):Prop:=
 ∀ (w : World) (A : Nat → Prop) (β : Lb → Option Nat) (vs : List Value),aM (cV P G w A β H) β Env.any H mW w → bo w β H (Im (cV P G w A β H) β H) args vs →
   Calls P f vs.toArray w fun e w'=>∃v x H' β',e= .returned v∧Q x H'∧aM (cV P G w A β H) β' Env.any H' mW w' ∧
     RV w' β' H' (Im (cV P G w A β H) β' H') x v∧∀l∈x.ar,H' l≠ .unused
def ai (P:Program) (G:Nat→Option (List IV)) (f:Nat) (args:List AV) (res:AV):Prop:=
 ah args=[]∧res.ar=[]∧gd P G f args Hp.none fun x _=>x=res
theorem gd.mono {P:Program} {G:Nat→Option (List IV)} {f:Nat} {args:List AV} {H:Hp} {Q Q':AV→Hp→Prop} (h:gd P G f args H Q) (hq:∀x H,Q x H→Q' x H):gd P G f args H Q':=
 fun w A β vs hr hv=>(h w A β vs hr hv).mono fun e w' ⟨v,x,H',β',h1,h2,h3⟩=>⟨v,x,H',β',h1,hq _ _ h2,h3⟩
def gW (g:Option (Nat×Bool)) (env:Env):Option Bool:=
 match g with
 |none=>some true
 |some (s,t)=>match env s with
  | .bool b=>some (b==t)
  | .un=>some false
  |_=>none
structure St where
 P:Program
 G:Nat→Option (List IV)
 N:Nat
mutual
def bQ (ρ:Lb→Lb):AV→AV
 | .sl l sz i n=> .sl (ρ l) sz i n
 | .slk l sz i n c=> .slk (ρ l) sz i n c
 | .ptr l sz i j=> .ptr (ρ l) sz i j
 | .agg cs=> .agg (bT ρ cs)
 | .ei cs=> .ei (bT ρ cs)
 | .fn f fs cs=> .fn f (bT ρ fs) (bT ρ cs)
 | .ifc t x=> .ifc t (bQ ρ x)
 |x=>x
def bT (ρ:Lb→Lb):List AV→List AV
 |[]=>[]
 |x::r=>bQ ρ x::bT ρ r
end
def bX (ρ:Lb→Lb) (r:Row):Row:=⟨r.sz,r.els.map (bT ρ)⟩
structure Pass (S:St) (f:Nat) (args:List AV) (H:Hp) (k:AV→Hp→Prop):Prop where
 h:∃(ρ:Lb→Lb) (iG:Hp) (cQ:List AV) (Q:AV→Hp→Prop),gd S.P S.G f cQ iG Q∧args=bT ρ cQ ∧
  (∀l r,iG l= .live r→H (ρ l)= .live (bX ρ r))∧(∀l,iG l≠ .unused→live iG l) ∧
  (∀l l',live iG l→live iG l'→ρ l=ρ l'→l=l')∧(∀l∈ah cQ,iG l≠ .unused)∧(∀l,live iG l→l.fresh=false)∧(∀l r,iG l= .live r→∀cs∈r.els,∀q∈ah cs,iG q≠ .unused) ∧
  ∀x H',Q x H'→∃(ρ':Lb→Lb) (kS:Hp),(∀l,live iG l→live H' l→ρ' l=ρ l) ∧
   (∀q r,kS q= .live r→(H q= .live r∧∀l,live iG l→ρ l≠q)∨∃l r',H' l= .live r'∧ρ' l=q∧r=bX ρ' r') ∧
   (∀l l',live H' l→live H' l'→ρ' l=ρ' l'→l=l') ∧
   (∀q,H q≠ .unused→kS q≠ .unused)∧(∀l∈x.ar,kS (ρ' l)≠ .unused) ∧
   (∀l r',H' l= .live r'→∀cs∈r'.els,∀q∈ah cs,kS (ρ' q)≠ .unused) ∧
   (∀l,live H' l→live iG l∨(H (ρ' l)= .unused∧((ρ' l).fresh=true→l.fresh=true∨∀z,live iG z→(ρ z).fresh=true))) ∧
   (∀l,(l∈x.ar∨∃l1 r1 cs,H' l1= .live r1∧cs∈r1.els∧l∈ah cs)→live kS (ρ' l)→live H' l)∧k (bQ ρ' x) kS
mutual
def AV.scalar:AV→Bool
 | .bool _| .int _ _| .str _| .iN| .fy=>true
 | .ei cs=>scalars cs
 |_=>false
def scalars:List AV→Bool
 |[]=>true
 |x::r=>x.scalar&&scalars r
end
inductive xF (H:Hp):AV→AV→Prop where
 |same (x:AV):xF H x x
 |row (l:Lb) (sz i n:Nat) (xs:List IV):H l= .live ⟨sz,aG xs⟩→i+n≤xs.length→Flat xs→xF H (.sl l sz i n) (.list ((xs.drop i).take n))
structure H4 (S:St) (f:Nat) (args:List AV) (H:Hp) (k:AV→Hp→Prop):Prop where
 h:∃cQ res,i_ (xF H) args cQ∧ai S.P S.G f cQ res∧res.scalar=true∧k res H
def j7 (S:St) (f:Nat) (args:List AV) (H:Hp) (k:AV→Hp→Prop):Prop:=
 (∃res,ai S.P S.G f args res∧k res H)∨H4 S f args H k∨Pass S f args H k
def pg:AV→Option (List Bool)
 | .list []=>some [true,false]
 | .list (_::_)=>some [false]
 | .nil0=>some [true,false]
 | .sl _ _ _ n=>some (if 0<n then [false] else [true,false])
 | .slk _ _ _ n _=>some (if 0<n then [false] else [true,false])
 |_=>none
def ph (S:St) (f:Nat) (args:List AV) (H:Hp) (res:AV):Prop:=
 ∀(K:Kx) (β:Lb→Option Nat) (env:Env) (a:Act) (w:World) (vs:List Value),(⟨K.P,K.G,K.N⟩:St)=S→aM K β env H a w→bo w β H (Im K β H) args vs →
  ∃v w',(callFunc f vs.toArray).run K.P w= .ok (.value v) w'∧jT w w'∧RV w' β H (Im K β H) res v∧∀l∈res.ar,H l≠ .unused
def bt (S:St) (d:Option Nat) (i:b6) (env:Env) (H:Hp) (k:AV→Hp→Prop):Prop:=
 match i with
 | .load m a=>(∃x,aa (.load m a) env=some x∧k x H)∨(∃x,aN m (ev env a) H=some x∧k x H)
 | .box x=>∃n,d=some n∧H (.loc n)= .unused∧(ev env x).dk=true∧0<(ev env x).cells.length∧(ev env x).cells.length≤maxLen ∧
  k (.ptr (.loc n) (ev env x).cells.length 0 0) (bL H (.loc n) (.live ⟨(ev env x).cells.length,[(ev env x).cells]⟩))
 | .new cs=>∃n,d=some n∧H (.loc n)= .unused∧0<cs.length∧cs.length≤maxLen∧k (.ptr (.loc n) cs.length 0 0) (bL H (.loc n) (.live ⟨cs.length,[cs]⟩))
 | .store m a x=>d=none∧∃H',aE m (ev env a) (ev env x) H=some H'∧k .un H'
 | .app s x sz bytes=>∃n,d=some n∧∃y H',jA sz bytes n (ev env s) (ev env x) H=some (y,H')∧k y H'
 | .call f args=>j7 S f (args.map (ev env)) H k
 | .j0 x args=>∃f first cap,ev env x= .fn f first cap∧nW S.P f=true∧j7 S f (first++args.map (ev env)++cap) H k
 | .zR n x=>∃bs,pg (ev env x)=some bs∧∀b∈bs,k (.bool (n ^^ b)) H
 | .cap x=>∃R,Ar (ev env x)=some R∧∀m,R m→m≤maxLen→k (.int .i64 (m:Int)) H
 | .rq s x sz=>∃y H',tv sz (ev env s) (ev env x) H=some (y,H')∧k y H'
 | .s4 x sz z=>∃H',tw sz z (ev env x) H=some H'∧k (.ei []) H'
 | .s9 n c sz bytes z=>∃q,d=some q∧∃y H',rD sz bytes q z (ev env n) (ev env c) H=some (y,H')∧k y H'
 | .iY f args=>∃res,ph S f (args.map (ev env)) H res∧k res H
 | .qj s n sz bytes z=>∃q,d=some q∧∃y H',u5 sz bytes q z (ev env s) (ev env n) H=some (y,H')∧k y H'
 | .ga sz z ps=>∃q,d=some q∧∃y H',qq sz q z (ps.map fun p=>(p.1,ev env p.2)) H=some (y,H')∧k y H'
 |i=>∃x,aa i env=some x∧k x H
def AO (S:St):List cx→Env→Hp→(Env→Hp→Prop)→Prop
 |[],env,H,k=>k env H
 |i::r,env,H,k=>(gW i.g env=some true∧(∀n,i.d=some n→n<S.N)∧bt S i.d i.i env H fun x H'=>AO S r (db env i.d x) H' k) ∨
  (gW i.g env=some false∧(∀n,i.d=some n→n<S.N)∧AO S r (db env i.d .un) H k)
def kT (P:Program) (G:Nat→Option (List IV)) (ops:Array Oper) (o:Oper):Option cx:=
 match o.guard with
 |none=>(comp P G o).map fun i=>⟨o.dst,none,i⟩
 |some (j,t)=>((ops[j]?).bind (·.dst)).bind fun s=>(comp P G o).map fun i=>⟨o.dst,some (s,t),i⟩
def b6.ie:b6→b6
 | .pd x=> .box x
 | .nU s x sz b=> .app s x sz b
 | .ga sz z ps=> .lits 1 sz z ps
 |i=>i
def cx.ie (i:cx):cx:={i with i:=i.i.ie}
section
variable {K:Kx} {β:Lb→Option Nat} {env:Env} {H:Hp} {a:Act} {w:World}
mutual
theorem qt (ρ:Lb→Lb):∀x:AV,(bQ ρ x).ar=x.ar.map ρ
 | .sl ..| .slk ..| .ptr ..| .any| .un| .bool _| .int ..| .str _| .list _| .nil0| .iN| .fy| .lptr _=>by simp[bQ,AV.ar]
 | .agg cs=>by simp[bQ,AV.ar,jd ρ cs]
 | .ei cs=>by simp[bQ,AV.ar,jd ρ cs]
 | .fn f fs cs=>by simp[bQ,AV.ar,jd ρ fs,jd ρ cs]
 | .ifc t x=>by simp[bQ,AV.ar,qt ρ x]
theorem jd (ρ:Lb→Lb):∀xs:List AV,ah (bT ρ xs)=(ah xs).map ρ
 |[]=>by simp[bT,ah]
 |x::r=>by simp[bT,ah,qt ρ x,jd ρ r]
end
theorem lK (ρ:Lb→Lb):∀(xs:List AV) (i:Nat),(bT ρ xs)[i]?=xs[i]?.map (bQ ρ)
 |[],i=>by simp[bT]
 |x::r,0=>by simp[bT]
 |x::r,i+1=>by simp[bT,lK ρ r i]
theorem lL (ρ:Lb→Lb):∀(xs:List AV),(bT ρ xs).length=xs.length
 |[]=>rfl
 |x::r=>by simp[bT,lL ρ r]
structure lf (w w':World) (β β':Lb→Option Nat) (H H':Hp) (I I':Nat→Prop) (ρ:Lb→Lb) (ls:List Lb):Prop extends gE w w' I I' where
 lb:∀l∈ls,live H' l→live H (ρ l)∧β' l=β (ρ l)∧∀g S,β (ρ l)=some g→iX w g=some S→iX w' g=some S
theorem lf.sub {w w':World} {β β':Lb→Option Nat} {H H':Hp} {I I':Nat→Prop} {ρ:Lb→Lb} {ls Fc:List Lb} (h:lf w w' β β' H H' I I' ρ ls) (hs:∀l∈Fc,l∈ls) :
 lf w w' β β' H H' I I' ρ Fc:=⟨h.togE,fun l hl=>h.lb l (hs l hl)⟩
mutual
theorem RV.bQ {w w':World} {β β':Lb→Option Nat} {H H':Hp} {I I':Nat→Prop} {ρ:Lb→Lb}:∀(x:AV) (v:Value),lf w w' β β' H H' I I' ρ x.ar→RV w β H I (Am.bQ ρ x) v→RV w' β' H' I' x v
 | .any,_,_,_=>by simp[RV]
 | .un,_,_,hv=>by simpa[RV,Am.bQ] using hv
 | .bool _,_,_,hv=>by simpa[RV,Am.bQ] using hv
 | .int _ _,_,_,hv=>by simpa[RV,Am.bQ] using hv
 | .str _,_,_,hv=>by simpa[RV,Am.bQ] using hv
 | .nil0,_,_,hv=>by simpa[RV,Am.bQ] using hv
 | .iN,_,_,hv=>by simpa[RV,Am.bQ] using hv
 | .fy,_,_,hv=>by simpa[RV,Am.bQ] using hv
 | .list xs,v,h,hv=>by simp only[RV,Am.bQ] at hv ⊢;exact eT.mono h.togE _ _ hv
 | .agg cs,v,h,hv=>by
  simp only[RV,Am.bQ] at hv ⊢;obtain⟨vs,rfl,h1⟩:=hv;exact⟨vs,rfl,bo.bQ cs vs (by simpa[AV.ar] using h) h1⟩
 | .ei cs,v,h,hv=>by
  simp only[RV,Am.bQ] at hv ⊢;obtain⟨vs,rfl,h1⟩:=hv;exact⟨vs,rfl,bo.bQ cs vs (by simpa[AV.ar] using h) h1⟩
 | .slk l sz i n c,v,h,hv=>by
  simp only[RV,Am.bQ] at hv ⊢;obtain⟨a,h1,h2,h3,h4,h5⟩:=hv;refine⟨a,h1,h2,h3,h4,fun hl=> ?_⟩;obtain⟨k1,k2,k3⟩:=h.lb l (by simp[AV.ar]) hl;rcases h5 k1 with h6|⟨g,S,e1,e2,e3,e4⟩
  ·exact .inl h6
  ·exact .inr ⟨g,S,k2.trans e1,e2,k3 g S e1 e3,e4⟩
 | .sl l sz i n,v,h,hv=>by
  simp only[RV,Am.bQ] at hv ⊢;obtain⟨a,c,h1,h2,h3,h4,h5⟩:=hv;refine⟨a,c,h1,h2,h3,h4,fun hl=> ?_⟩;obtain⟨k1,k2,k3⟩:=h.lb l (by simp[AV.ar]) hl;rcases h5 k1 with h6|⟨g,S,e1,e2,e3,e4⟩
  ·exact .inl h6
  ·exact .inr ⟨g,S,k2.trans e1,e2,k3 g S e1 e3,e4⟩
 | .ptr l sz i j,v,h,hv=>by
  simp only[RV,Am.bQ] at hv ⊢;obtain⟨a,h1,h2⟩:=hv;refine⟨a,h1,fun hl=> ?_⟩;obtain⟨k1,k2,k3⟩:=h.lb l (by simp[AV.ar]) hl;obtain⟨g,e1,e2⟩:=h2 k1;exact⟨g,k2.trans e1,e2⟩
 | .lptr cs,v,h,hv=>by
  simp only[RV,Am.bQ] at hv ⊢;obtain⟨b,o,h1,h2,h3,h4⟩:=hv;obtain⟨k1,k2,_⟩:=h.im b h2 h3;exact⟨b,o,h1,k1,k2,bH.mono h.togE cs b o h2 h3 h4⟩
 | .fn f fs cs,v,h,hv=>by
  simp only[RV,Am.bQ] at hv ⊢;obtain⟨vs,us,rfl,h1,h2⟩:=hv;exact⟨vs,us,rfl,bo.bQ fs vs (h.sub (by simp[AV.ar];intro l hl;exact .inl hl)) h1,bo.bQ cs us (h.sub (by simp[AV.ar];intro l hl;exact .inr hl)) h2⟩
 | .ifc t x,v,h,hv=>by
  simp only[RV,Am.bQ] at hv ⊢;obtain⟨u,rfl,h1⟩:=hv;exact⟨u,rfl,RV.bQ x u (by simpa[AV.ar] using h) h1⟩
theorem bo.bQ {w w':World} {β β':Lb→Option Nat} {H H':Hp} {I I':Nat→Prop} {ρ:Lb→Lb}:∀(xs:List AV) (vs:List Value),lf w w' β β' H H' I I' ρ (ah xs)→bo w β H I (bT ρ xs) vs→bo w' β' H' I' xs vs
 |[],_,_,hv=>by simpa[bo,bT] using hv
 |x::r,vs,h,hv=>by
  simp only[bo,bT] at hv ⊢;obtain⟨v,us,rfl,h1,h2⟩:=hv;exact⟨v,us,rfl,RV.bQ x v (h.sub (by simp[ah];intro l hl;exact .inl hl)) h1,bo.bQ r us (h.sub (by simp[ah];intro l hl;exact .inr hl)) h2⟩
end
mutual
theorem RV.pj {w w':World} {β β':Lb→Option Nat} {H H':Hp} {I I':Nat→Prop} {ρ:Lb→Lb}:∀(x:AV) (v:Value),gE w w' I I' →
  (∀l∈x.ar,live H' (ρ l)→live H l∧β' (ρ l)=β l∧∀g S,β l=some g→iX w g=some S→iX w' g=some S)→RV w β H I x v→RV w' β' H' I' (Am.bQ ρ x) v
 | .any,_,_,_,_=>by simp[RV,Am.bQ]
 | .un,_,_,_,hv=>by simpa[RV,Am.bQ] using hv
 | .bool _,_,_,_,hv=>by simpa[RV,Am.bQ] using hv
 | .int _ _,_,_,_,hv=>by simpa[RV,Am.bQ] using hv
 | .str _,_,_,_,hv=>by simpa[RV,Am.bQ] using hv
 | .nil0,_,_,_,hv=>by simpa[RV,Am.bQ] using hv
 | .iN,_,_,_,hv=>by simpa[RV,Am.bQ] using hv
 | .fy,_,_,_,hv=>by simpa[RV,Am.bQ] using hv
 | .list xs,v,h,_,hv=>by simp only[RV,Am.bQ] at hv ⊢;exact eT.mono h _ _ hv
 | .agg cs,v,h,hl,hv=>by
  simp only[RV,Am.bQ] at hv ⊢;obtain⟨vs,rfl,h1⟩:=hv;exact⟨vs,rfl,bo.pj cs vs h (by simpa[AV.ar] using hl) h1⟩
 | .ei cs,v,h,hl,hv=>by
  simp only[RV,Am.bQ] at hv ⊢;obtain⟨vs,rfl,h1⟩:=hv;exact⟨vs,rfl,bo.pj cs vs h (by simpa[AV.ar] using hl) h1⟩
 | .slk l sz i n c,v,h,hl,hv=>by
  simp only[RV,Am.bQ] at hv ⊢;obtain⟨a,h1,h2,h3,h4,h5⟩:=hv;refine⟨a,h1,h2,h3,h4,fun hq=> ?_⟩;obtain⟨k1,k2,k3⟩:=hl l (by simp[AV.ar]) hq;rcases h5 k1 with h6|⟨g,S,e1,e2,e3,e4⟩
  ·exact .inl h6
  ·exact .inr ⟨g,S,k2.trans e1,e2,k3 g S e1 e3,e4⟩
 | .sl l sz i n,v,h,hl,hv=>by
  simp only[RV,Am.bQ] at hv ⊢;obtain⟨a,c,h1,h2,h3,h4,h5⟩:=hv;refine⟨a,c,h1,h2,h3,h4,fun hq=> ?_⟩;obtain⟨k1,k2,k3⟩:=hl l (by simp[AV.ar]) hq;rcases h5 k1 with h6|⟨g,S,e1,e2,e3,e4⟩
  ·exact .inl h6
  ·exact .inr ⟨g,S,k2.trans e1,e2,k3 g S e1 e3,e4⟩
 | .ptr l sz i j,v,h,hl,hv=>by
  simp only[RV,Am.bQ] at hv ⊢;obtain⟨a,h1,h2⟩:=hv;refine⟨a,h1,fun hq=> ?_⟩;obtain⟨k1,k2,k3⟩:=hl l (by simp[AV.ar]) hq;obtain⟨g,e1,e2⟩:=h2 k1;exact⟨g,k2.trans e1,e2⟩
 | .lptr cs,v,h,_,hv=>by
  simp only[RV,Am.bQ] at hv ⊢;obtain⟨b,o,h1,h2,h3,h4⟩:=hv;obtain⟨k1,k2,_⟩:=h.im b h2 h3;exact⟨b,o,h1,k1,k2,bH.mono h cs b o h2 h3 h4⟩
 | .fn f fs cs,v,h,hl,hv=>by
  simp only[RV,Am.bQ] at hv ⊢;obtain⟨vs,us,rfl,h1,h2⟩:=hv;exact⟨vs,us,rfl,bo.pj fs vs h (fun l q=>hl l (by simp[AV.ar,q])) h1,bo.pj cs us h (fun l q=>hl l (by simp[AV.ar,q])) h2⟩
 | .ifc t x,v,h,hl,hv=>by
  simp only[RV,Am.bQ] at hv ⊢;obtain⟨u,rfl,h1⟩:=hv;exact⟨u,rfl,RV.pj x u h (by simpa[AV.ar] using hl) h1⟩
theorem bo.pj {w w':World} {β β':Lb→Option Nat} {H H':Hp} {I I':Nat→Prop} {ρ:Lb→Lb}:∀(xs:List AV) (vs:List Value),gE w w' I I' →
  (∀l∈ah xs,live H' (ρ l)→live H l∧β' (ρ l)=β l∧∀g S,β l=some g→iX w g=some S→iX w' g=some S)→bo w β H I xs vs→bo w' β' H' I' (bT ρ xs) vs
 |[],_,_,_,hv=>by simpa[bo,bT] using hv
 |x::r,vs,h,hl,hv=>by
  simp only[bo,bT] at hv ⊢;obtain⟨v,us,rfl,h1,h2⟩:=hv;exact⟨v,us,rfl,RV.pj x v h (fun l q=>hl l (by simp[ah,q])) h1,bo.pj r us h (fun l q=>hl l (by simp[ah,q])) h2⟩
end
theorem aM.nF (hr:aM K β env H a w) (ρ:Lb→Lb) {env2:Env} {H2:Hp} (hE:∀n,env2 n= .any∨env n=bQ ρ (env2 n)) (hH:∀l r,H2 l= .live r→H (ρ l)= .live (bX ρ r))
   (xG:∀l l',live H2 l→live H2 l'→ρ l=ρ l'→l=l') (hm:∀n,∀l∈(env2 n).ar,H2 l≠ .unused) (H5:∀l r,H2 l= .live r→∀cs∈r.els,∀q∈ah cs,H2 q≠ .unused)
   (fW:∀l,live K.H0 l→H2 l≠ .unused∧(live H2 l→ρ l=l)) (Hf:∀l,live H2 l→l.fresh=true→(ρ l).fresh=true):aM K (fun l=>β (ρ l)) env2 H2 a w:=by
 have a8:∀l,live H2 l→live H (ρ l):=fun l ⟨r,h⟩=>⟨_,hH l r h⟩
 have dc:∀ls,lf w w β (fun l=>β (ρ l)) H H2 (Im K β H) (Im K (fun l=>β (ρ l)) H2) ρ ls:=fun ls=>
   { im := fun k hk hs => ⟨⟨hk.1,fun l hl => hk.2 (ρ l) (a8 l hl)⟩,hs,rfl⟩
     lb:=fun l _ hl=>⟨a8 l hl,rfl,fun _ _ _ h=>h⟩}
 refine⟨hr.defers,hr.size,?_,?_,fun l g hl hb=>hr.own (ρ l) g (a8 l hl) hb,fun l l' g h1 h2 g1 g2=>xG l l' h1 h2 (hr.inj _ _ g (a8 l h1) (a8 l' h2) g1 g2),hm,H5,hr.frame,?_,?_,fun l g hl hf hb=>hr.fr (ρ l) g (a8 l hl) (Hf l hl hf) hb⟩
 · intro n
   rcases hE n with h|h
   · rw[h];simp[RV]
   · exact RV.bQ _ _ (dc _) (by rw[←h];exact hr.gg n)
 · intro l r h
   obtain⟨h1,h2,h3⟩:=hr.rows (ρ l) _ (hH l r h)
   refine⟨h1,fun cs bx=> ?_,?_⟩
   · have:=h2 (bT ρ cs) (List.mem_map_of_mem bx)
     rwa[lL] at this
   · cases hb:β (ρ l) with
     |none=>simp only[hb] at h3 ⊢;simpa[bX] using h3
     |some g=>
       simp only[hb] at h3 ⊢
       obtain⟨cur,e,cap,e1,e2,e3,e4,e5⟩:=h3
       refine⟨cur,e,cap,e1,e2,e3,by simpa[bX] using e4,fun i j cs x hi hj=> ?_⟩
       obtain⟨v,k1,k2⟩:=e5 i j (bT ρ cs) (bQ ρ x) (by simp[bX,hi]) (by rw[lK,hj];rfl)
       exact⟨v,k1,RV.bQ _ _ (dc _) k2⟩
 · intro g cs hg
   obtain⟨h1,h2,h3⟩:=hr.fI g cs hg
   exact⟨((dc []).im g h1 h2).1,h2,da.mono (dc []).togE h1 h2 h3⟩
 · intro l hl
   obtain⟨h1,h2⟩:=fW l hl
   refine⟨h1,fun h=> ?_⟩
   have e:=h2 h
   simp only[e]
   exact(hr.fX l hl).2 (e▸a8 l h)
theorem mA (hr:aM K β env H a w) {f:Nat} {args:List AV} {vs:List Value} {res:AV} (hp:ai K.P K.G f args res) (hv:bo w β H (Im K β H) args vs)
   (Ju:True):Calls K.P f vs.toArray w fun e w'=>∃v,e= .returned v∧jT w w'∧RV w' β H (Im K β H) res v:=by
 obtain⟨h1,h2,h3⟩:=hp
 have j6:aM (cV K.P K.G w (Im K β H) β Hp.none) β Env.any Hp.none mW w:=
   { defers := rfl,size := rfl
     gg:=fun n=>by simp[Env.any,RV]
     rows:=fun l r h=>by simp[Hp.none] at h
     own:=fun l g ⟨r,h⟩=>by simp[Hp.none] at h
     inj:=fun l l' g ⟨r,h⟩=>by simp[Hp.none] at h
     eB:=fun n=>by simp[Env.any,AV.ar]
     cB:=fun l r h=>by simp[Hp.none] at h
     frame:=⟨rfl,rfl,rfl,Nat.le_refl _,fun _ _ _=>rfl,fun _ _ h=>h⟩
     fX:=fun l ⟨r,h⟩=>by simp[cV,Hp.none] at h
     fr:=fun l g ⟨r,h⟩=>by simp[Hp.none] at h
     fI:=fun g cs hg=>by
       obtain⟨k1,k2,k3⟩:=hr.fI g cs hg
       have kp:gE w w (Im K β H) (Im (cV K.P K.G w (Im K β H) β Hp.none) β Hp.none):=⟨fun k hk hs=>⟨⟨.inl hk,fun l ⟨r,h⟩=>by simp[Hp.none] at h⟩,hs,rfl⟩⟩
       exact⟨(kp.im g k1 k2).1,k2,da.mono kp k1 k2 k3⟩}
 have kp:eA w w β β H Hp.none (Im K β H) (Im (cV K.P K.G w (Im K β H) β Hp.none) β Hp.none) (ah args):=
   { im := fun k hk hs => ⟨⟨.inl hk,fun l ⟨r,h⟩ => by simp [Hp.none] at h⟩,hs,rfl⟩
     lb:=fun l hl=>by rw[h1] at hl;simp at hl}
 refine(h3 w (Im K β H) β vs j6 (bo.mono _ _ kp hv)).mono ?_
 rintro e w' ⟨v,x,H',β',rfl,rfl,k1,k2,_⟩
 have gw:jT w w':=by
   refine⟨k1.frame.os,k1.frame.tape,k1.frame.output,k1.frame.size,fun k hk=>k1.frame.block k hk ?_⟩
   rintro⟨l,⟨r,h⟩,_⟩
   simp[Hp.none] at h
 refine⟨v,rfl,gw,RV.mono _ _ ?_ k2⟩
 refine {im:=fun k hk hs=>⟨?_,hs,rfl⟩,lb:=fun l hl=>by rw[h2] at hl;simp at hl}
 rcases hk.1 with h|h
 · exact h
 · refine⟨.inr (Nat.le_trans hr.frame.size h),fun l hl hb=> ?_⟩
   have:=hr.mu hl hb
   have h':w.heap.size≤k:=h
   omega
mutual
theorem RV.scalar {w w':World} {β β':Lb→Option Nat} {H H':Hp} {I I':Nat→Prop}:∀(x:AV) (v:Value),x.scalar=true→RV w β H I x v→RV w' β' H' I' x v
 | .bool _,_,_,h| .int _ _,_,_,h| .str _,_,_,h| .iN,_,_,h| .fy,_,_,h=>by simpa[RV] using h
 | .ei cs,v,hs,h=>by
  simp only[RV] at h ⊢;obtain⟨vs,h1,h2⟩:=h;exact⟨vs,h1,bo.scalar cs vs (by simpa[AV.scalar] using hs) h2⟩
 | .any,_,hs,_| .un,_,hs,_| .list _,_,hs,_| .nil0,_,hs,_| .agg _,_,hs,_| .sl ..,_,hs,_| .slk ..,_,hs,_| .ptr ..,_,hs,_| .lptr _,_,hs,_| .fn ..,_,hs,_| .ifc ..,_,hs,_=>by simp[AV.scalar] at hs
theorem bo.scalar {w w':World} {β β':Lb→Option Nat} {H H':Hp} {I I':Nat→Prop}:∀(xs:List AV) (vs:List Value),scalars xs=true→bo w β H I xs vs→bo w' β' H' I' xs vs
 |[],_,_,h=>by simpa[bo] using h
 |x::r,vs,hs,h=>by
  simp only[scalars,Bool.and_eq_true] at hs;simp only[bo] at h ⊢;obtain⟨v,us,h1,h2,h3⟩:=h;exact⟨v,us,h1,RV.scalar x v hs.1 h2,bo.scalar r us hs.2 h3⟩
end
theorem rF (hr : aM K β env H a w) {I : Nat → Prop} (hI : ∀ k,Im K β H k → I k) (hB : ∀ l g,live H l → β l = some g → I g) : ∀ (args cQ : List AV) (vs : List Value),i_ (xF H) args cQ → ah cQ = [] → bo w β H (Im K β H) args vs → bo w β Hp.none I cQ vs
 |_,_,vs,.nil,_,hv=>by simpa[bo] using hv
 |_,_,vs,@i_.cons _ _ _ x y args cQ Av ht,hl,hv=>by
   simp only[ah,List.append_eq_nil_iff] at hl
   simp only[bo] at hv ⊢
   obtain⟨v,us,h1,h2,h3⟩:=hv
   refine⟨v,us,h1,?_,rF hr hI hB _ _ us ht hl.2 h3⟩
   have hk:gE w w (Im K β H) I:=⟨fun k hk hs=>⟨hI k hk,hs,rfl⟩⟩
   cases Av with
   |same=>
     exact RV.mono x v {im:=hk.im,lb:=fun l hq=>by rw[hl.1] at hq;simp at hq} h2
   |row l sz i n xs hH te FY=>
     simp only[RV] at h2
     obtain⟨ad,c,rfl,g2,g3,g4,g5⟩:=h2
     simp only[RV,eT]
     have hlen:((xs.drop i).take n).length=n:=by simp;omega
     rw[hlen]
     refine⟨ad,c,rfl,g2,g3,?_⟩
     by_cases hn:n=0
     · exact .inl hn
     · right
       rcases g5 ⟨_,hH⟩ with h6|⟨g,Sz,e1,e2,e3,e4⟩
       · omega
       · obtain⟨cur,e0,cap,k1,k2,k3,k4,k5⟩:=(hr.rows l _ hH).block e1
         have iO:0<sz:=(hr.rows l _ hH).1
         refine⟨g,i*sz,sz,e2,hB l g ⟨_,hH⟩ e1,(Array.getElem?_eq_some_iff.1 k1).1,iO,jc _ _ _ (fun k y hy=> ?_)⟩
         have C_:xs[i+k]?=some y:=by
           rw[List.getElem?_take] at hy
           split at hy
           · rwa[List.getElem?_drop] at hy
           · simp at hy
         rw[fB]
         have qo:y.cells.length=sz:=by
           have:=(hr.rows l _ hH).2.1 (y.cells.map IV.b7) (by
             simp only[aG]
             exact List.mem_map_of_mem (f:=fun y:IV=>y.cells.map IV.b7) (List.mem_of_getElem? C_))
           simpa using this
         refine⟨qo.symm,jb _ _ _ (fun j z hz=> ?_)⟩
         obtain⟨u,q1,q2⟩:=k5 (i+k) j (y.cells.map IV.b7) z.b7 (by simp[aG,C_]) (by simp[hz])
         refine⟨u,?_,tz hk (FY y (List.mem_of_getElem? C_) z (List.mem_of_getElem? hz)) q2⟩
         rw[cell_of_row w g _ cur e0 (0,0) k1,←q1]
         congr 1
         rw[Nat.add_mul]
theorem vW (hr:aM K β env H a w) {f:Nat} {args cQ:List AV} {vs:List Value} {res:AV} (ha:i_ (xF H) args cQ) (hp:ai K.P K.G f cQ res) (rG:res.scalar=true) (hv:bo w β H (Im K β H) args vs) :
   Calls K.P f vs.toArray w fun e w'=>∃v,e= .returned v∧jT w w'∧RV w' β H (Im K β H) res v:=by
 obtain⟨h1,h2,h3⟩:=hp
 obtain⟨A,hA⟩:∃A:Nat→Prop,A=fun k=>Im K β H k∨∃l,live H l∧β l=some k:=⟨_,rfl⟩
 have FZ:∀k,A k→Im (cV K.P K.G w A β Hp.none) β Hp.none k:=fun k hk=>⟨.inl hk,fun l ⟨r,h⟩=>by simp[Hp.none] at h⟩
 have j6:aM (cV K.P K.G w A β Hp.none) β Env.any Hp.none mW w:=
   { defers := rfl,size := rfl
     gg:=fun n=>by simp[Env.any,RV]
     rows:=fun l r h=>by simp[Hp.none] at h
     own:=fun l g ⟨r,h⟩=>by simp[Hp.none] at h
     inj:=fun l l' g ⟨r,h⟩=>by simp[Hp.none] at h
     eB:=fun n=>by simp[Env.any,AV.ar]
     cB:=fun l r h=>by simp[Hp.none] at h
     frame:=⟨rfl,rfl,rfl,Nat.le_refl _,fun _ _ _=>rfl,fun _ _ h=>h⟩
     fX:=fun l ⟨r,h⟩=>by simp[cV,Hp.none] at h
     fr:=fun l g ⟨r,h⟩=>by simp[Hp.none] at h
     fI:=fun g cs hg=>by
       obtain⟨k1,k2,k3⟩:=hr.fI g cs hg
       have kp:gE w w (Im K β H) (Im (cV K.P K.G w A β Hp.none) β Hp.none):=⟨fun k hk hs=>⟨FZ k (by rw[hA];exact .inl hk),hs,rfl⟩⟩
       exact⟨(kp.im g k1 k2).1,k2,da.mono kp k1 k2 k3⟩}
 have Aw:=rF hr (I:=Im (cV K.P K.G w A β Hp.none) β Hp.none) (fun k hk=>FZ k (by rw[hA];exact .inl hk)) (fun l g hl hg=>FZ g (by rw[hA];exact .inr ⟨l,hl,hg⟩)) args cQ vs ha h1 hv
 refine(h3 w A β vs j6 Aw).mono ?_
 rintro e w' ⟨v,x,H',β',rfl,rfl,k1,k2,_⟩
 have gw:jT w w':=by
   refine⟨k1.frame.os,k1.frame.tape,k1.frame.output,k1.frame.size,fun k hk=>k1.frame.block k hk ?_⟩
   rintro⟨l,⟨r,h⟩,_⟩
   simp[Hp.none] at h
 exact⟨v,rfl,gw,RV.scalar _ _ rG k2⟩
open Classical in
theorem vX (hr:aM K β env H a w) {f:Nat} {cQ:List AV} {vs:List Value} {iG:Hp} {Q:AV→Hp→Prop} {ρ:Lb→Lb} (hs:gd K.P K.G f cQ iG Q)
   (hH:∀l r,iG l= .live r→H (ρ l)= .live (bX ρ r)) (LO:∀l,iG l≠ .unused→live iG l)
   (xG:∀l l',live iG l→live iG l'→ρ l=ρ l'→l=l') (rb:∀l∈ah cQ,iG l≠ .unused) (Jv:∀l,live iG l→l.fresh=false) (H5:∀l r,iG l= .live r→∀cs∈r.els,∀q∈ah cs,iG q≠ .unused)
   (hv:bo w β H (Im K β H) (bT ρ cQ) vs):Calls K.P f vs.toArray w fun e w'=>∃v x H',e= .returned v∧Q x H' ∧
     ∀(ρ':Lb→Lb) (kS:Hp),(∀l,live iG l→live H' l→ρ' l=ρ l) →
     (∀q r,kS q= .live r→(H q= .live r∧∀l,live iG l→ρ l≠q)∨∃l r',H' l= .live r'∧ρ' l=q∧r=bX ρ' r') →
     (∀l l',live H' l→live H' l'→ρ' l=ρ' l'→l=l') →
     (∀q,H q≠ .unused→kS q≠ .unused)→(∀l∈x.ar,kS (ρ' l)≠ .unused) →
     (∀l r',H' l= .live r'→∀cs∈r'.els,∀q∈ah cs,kS (ρ' q)≠ .unused) →
     (∀l,live H' l→live iG l∨(H (ρ' l)= .unused∧((ρ' l).fresh=true→l.fresh=true∨∀z,live iG z→(ρ z).fresh=true))) →
     (∀l,(l∈x.ar∨∃l1 r1 cs,H' l1= .live r1∧cs∈r1.els∧l∈ah cs)→live kS (ρ' l)→live H' l) →
     ∃j8,aM K j8 env kS a w'∧RV w' j8 kS (Im K j8 kS) (bQ ρ' x) v:=by
 have a8:∀l,live iG l→live H (ρ l):=fun l ⟨r,h⟩=>⟨_,hH l r h⟩
 have Hg:∀ls,lf w w β (fun l=>β (ρ l)) H iG (Im K β H) (Im (cV K.P K.G w (Im K β H) (fun l=>β (ρ l)) iG) (fun l=>β (ρ l)) iG) ρ ls:=fun ls=>
   { im := fun k hk hs => ⟨⟨.inl hk,fun l hl => hk.2 (ρ l) (a8 l hl)⟩,hs,rfl⟩
     lb:=fun l _ hl=>⟨a8 l hl,rfl,fun _ _ _ h=>h⟩}
 have j6:aM (cV K.P K.G w (Im K β H) (fun l=>β (ρ l)) iG) (fun l=>β (ρ l)) Env.any iG mW w:=
   { defers := rfl,size := rfl
     gg:=fun n=>by simp[Env.any,RV]
     rows:=fun l r h=>by
       obtain⟨h1,h2,h3⟩:=hr.rows (ρ l) _ (hH l r h)
       refine⟨h1,fun cs bx=> ?_,?_⟩
       · have:=h2 (bT ρ cs) (List.mem_map_of_mem bx)
         rwa[lL] at this
       · cases hb:β (ρ l) with
         |none=>simp only[hb] at h3 ⊢;simpa[bX] using h3
         |some g=>
           simp only[hb] at h3 ⊢
           obtain⟨cur,e,cap,e1,e2,e3,e4,e5⟩:=h3
           refine⟨cur,e,cap,e1,e2,e3,by simpa[bX] using e4,fun i j cs x hi hj=> ?_⟩
           obtain⟨v,k1,k2⟩:=e5 i j (bT ρ cs) (bQ ρ x) (by simp[bX,hi]) (by rw[lK,hj];rfl)
           exact⟨v,k1,RV.bQ _ _ (Hg _) k2⟩
     own:=fun l g hl hb=> .inl ⟨l,hl,hb⟩
     inj:=fun l l' g h1 h2 g1 g2=>xG l l' h1 h2 (hr.inj _ _ g (a8 l h1) (a8 l' h2) g1 g2)
     eB:=fun n=>by simp[Env.any,AV.ar]
     cB:=H5
     frame:=⟨rfl,rfl,rfl,Nat.le_refl _,fun _ _ _=>rfl,fun _ _ h=>h⟩
     fI:=fun g cs hg=>by
       obtain⟨k1,k2,k3⟩:=hr.fI g cs hg
       exact⟨((Hg []).im g k1 k2).1,k2,da.mono (Hg []).togE k1 k2 k3⟩
     fX:=fun l hl=>⟨by obtain⟨r,h⟩:=hl;simp only[cV] at h;simp[h],fun _=>rfl⟩
     fr:=fun l g hl hf=>by rw[Jv l hl] at hf;cases hf}
 refine(hs w (Im K β H) (fun l=>β (ρ l)) vs j6 (bo.bQ _ _ (Hg _) hv)).mono ?_
 rintro e w' ⟨v,x,H',β',rfl,hq,hc,xE,xf⟩
 refine⟨v,x,H',rfl,hq,?_⟩
 intro ρ' kS p1 p2 p3 p4 p5 p6 p7 p8
 let j8:Lb→Option Nat:=fun q=>if h:∃l,live H' l∧ρ' l=q then β' (Classical.choose h) else β q
 have xz:∀l,live H' l→j8 (ρ' l)=β' l:=by
   intro l hl
   have h:∃l',live H' l'∧ρ' l'=ρ' l:=⟨l,hl,rfl⟩
   have bx:=Classical.choose_spec h
   have e:Classical.choose h=l:=p3 _ _ bx.1 hl bx.2
   show(if h:∃l',live H' l'∧ρ' l'=ρ' l then β' (Classical.choose h) else β (ρ' l))=β' l
   rw[dif_pos h,e]
 have Ch:∀q,live H q→(∀l,live iG l→ρ l≠q)→j8 q=β q:=by
   intro q rf pa
   have h:¬∃l,live H' l∧ρ' l=q:=by
     rintro⟨l,hl,rfl⟩
     rcases p7 l hl with h|⟨h,_⟩
     · exact pa l h (p1 l h hl).symm
     · obtain⟨r,h'⟩:=rf;rw[h] at h';cases h'
   show(if h:∃l,live H' l∧ρ' l=q then β' (Classical.choose h) else β q)=β q
   rw[dif_neg h]
 have qu:∀q,live kS q→(live H q∧(∀l,live iG l→ρ l≠q)∧j8 q=β q)∨∃l,live H' l∧ρ' l=q∧j8 q=β' l:=by
   rintro q ⟨r,h⟩
   rcases p2 q r h with⟨h1,h2⟩|⟨l,r',h1,rfl,_⟩
   · exact .inl ⟨⟨r,h1⟩,h2,Ch q ⟨r,h1⟩ h2⟩
   · exact .inr ⟨l,⟨r',h1⟩,rfl,xz l ⟨r',h1⟩⟩
 have rH:∀l g,live H' l→β' l=some g→(∃l0,live iG l0∧β (ρ l0)=some g)∨w.heap.size≤g:=by
   intro l g hl hg
   rcases hc.own l g hl hg with h|h
   · exact .inl h
   · exact .inr h
 have Cl:∀l,live iG l→live H' l→β' l=β (ρ l):=fun l h1 h2=>(hc.fX l h1).2 h2
 have n7:∀k,k<w.heap.size→(∀l,live iG l→β (ρ l)≠some k)→w'.heap[k]?=w.heap[k]?:=by
   intro k hk pa
   refine hc.frame.block k hk ?_
   rintro⟨l,hl,hb⟩
   exact pa l hl hb
 have Aj:∀k,Im K β H k→k<w.heap.size→Im K j8 kS k∧k<w'.heap.size∧w'.heap[k]?=w.heap[k]?:=by
   intro k hk xu
   refine⟨⟨hk.1,fun q rf hb=> ?_⟩,Nat.lt_of_lt_of_le xu hc.frame.size,n7 k xu (fun l hl=>hk.2 _ (a8 l hl))⟩
   rcases qu q rf with⟨h1,h2,h3⟩|⟨l,h1,h2,h3⟩
   · rw[h3] at hb;exact hk.2 q h1 hb
   · rw[h3] at hb
     rcases rH l k h1 hb with⟨l0,h4,h5⟩|h4
     · exact hk.2 _ (a8 l0 h4) h5
     · omega
 have Jw:∀q,H q≠ .unused→live kS q→live H q∧j8 q=β q∧∀g S,β q=some g→iX w g=some S→iX w' g=some S:=by
   intro q hu rf
   refine⟨?_,?_,fun g S _ h=>hc.frame.bs g S h⟩
   · rcases qu q rf with⟨h1,h2,h3⟩|⟨l,h1,h2,h3⟩
     · exact h1
     · rcases p7 l h1 with h|⟨h,_⟩
       · have e:=p1 l h h1;rw[←h2,e];exact a8 l h
       · rw[h2] at h;exact absurd h hu
   · rcases qu q rf with⟨h1,h2,h3⟩|⟨l,h1,h2,h3⟩
     · exact h3
     · rcases p7 l h1 with h|⟨h,_⟩
       · rw[h3,Cl l h h1,←h2,p1 l h h1]
       · rw[h2] at h;exact absurd h hu
 have dc:∀ls,(∀q∈ls,H q≠ .unused)→eA w w' β j8 H kS (Im K β H) (Im K j8 kS) ls:=fun ls pe=>
   {im:=Aj,lb:=fun q vY zX=>Jw q (pe q vY) zX}
 have F0:gE w' w' (Im (cV K.P K.G w (Im K β H) (fun l=>β (ρ l)) iG) β' H') (Im K j8 kS):=⟨by
   intro k hk xu
   refine⟨⟨?_,fun q rf hb=> ?_⟩,xu,rfl⟩
   · rcases hk.1 with h|h
     · exact h.1
     · exact .inr (Nat.le_trans hr.frame.size h)
   · rcases qu q rf with⟨h1,h2,h3⟩|⟨l,h1,h2,h3⟩
     · rw[h3] at hb
       rcases hk.1 with h|h
       · exact h.2 q h1 hb
       · have:=hr.mu h1 hb
         have h':w.heap.size≤k:=h
         omega
     · rw[h3] at hb
       exact hk.2 l h1 hb⟩
 have qo:∀l,(l∈x.ar∨∃l1 r1 cs,H' l1= .live r1∧cs∈r1.els∧l∈ah cs)→live kS (ρ' l)→live H' l∧j8 (ρ' l)=β' l∧∀g S,β' l=some g→iX w' g=some S→iX w' g=some S:=by
   intro l h1 h2
   have h3:=p8 l h1 h2
   exact⟨h3,xz l h3,fun _ _ _ h=>h⟩
 refine⟨j8,⟨hr.defers,hr.size,fun n=>RV.mono _ _ (dc _ (hr.eB n)) (hr.gg n),?_,?_,?_,fun n q rf=>p4 q (hr.eB n q rf),?_,?_,?_,?_,?_⟩,RV.pj x v F0 (fun l hl=>qo l (.inl hl)) xE⟩
 · intro q r H6
   rcases p2 q r H6 with⟨h1,h2⟩|⟨l,r',h1,rfl,rfl⟩
   · obtain⟨e1,e2,e3⟩:=hr.rows q r h1
     refine⟨e1,e2,?_⟩
     rw[Ch q ⟨r,h1⟩ h2]
     cases hb:β q with
     |none=>simpa only[hb] using e3
     |some g=>
       simp only[hb] at e3 ⊢
       obtain⟨cur,e,cap,f1,f2,f3,f4,f5⟩:=e3
       have hg:g<w.heap.size:=(Array.getElem?_eq_some_iff.1 f1).1
       refine⟨cur,e,cap,(n7 g hg (fun l hl Cm=>h2 l hl (hr.inj _ _ g (a8 l hl) ⟨r,h1⟩ Cm hb))).trans f1,f2,f3,f4,fun i j cs y hi hj=> ?_⟩
       obtain⟨u,k1,k2⟩:=f5 i j cs y hi hj
       exact⟨u,k1,RV.mono _ _ (dc _ (fun p hp=>hr.cB q r h1 cs (List.mem_of_getElem? hi) p (cR _ _ _ hj p hp))) k2⟩
   · obtain⟨e1,e2,e3⟩:=hc.rows l r' h1
     refine⟨e1,?_,?_⟩
     · intro cs bx
       simp only[bX,List.mem_map] at bx
       obtain⟨E5,h0,rfl⟩:=bx
       rw[lL];exact e2 E5 h0
     · rw[xz l ⟨r',h1⟩]
       cases hb:β' l with
       |none=>simp only[hb] at e3;simp[bX,e3]
       |some g=>
         simp only[hb] at e3 ⊢
         obtain⟨cur,e,cap,f1,f2,f3,f4,f5⟩:=e3
         refine⟨cur,e,cap,f1,f2,f3,by simpa[bX] using f4,fun i j cs y hi hj=> ?_⟩
         simp only[bX,List.getElem?_map,Option.map_eq_some_iff] at hi
         obtain⟨E5,hi,rfl⟩:=hi
         rw[lK,Option.map_eq_some_iff] at hj
         obtain⟨y0,hj,rfl⟩:=hj
         obtain⟨u,k1,k2⟩:=f5 i j E5 y0 hi hj
         exact⟨u,k1,RV.pj _ _ F0 (fun p hp=>qo p (.inr ⟨l,r',E5,h1,List.mem_of_getElem? hi,cR _ _ _ hj p hp⟩)) k2⟩
 · intro q g rf hb
   rcases qu q rf with⟨h1,h2,h3⟩|⟨l,h1,h2,h3⟩
   · rw[h3] at hb;exact hr.own q g h1 hb
   · rw[h3] at hb
     rcases rH l g h1 hb with⟨l0,h4,h5⟩|h4
     · exact hr.own _ g (a8 l0 h4) h5
     · exact .inr (Nat.le_trans hr.frame.size h4)
 · intro q1 q2 g vY zX g1 g2
   rcases qu q1 vY with⟨h1,h2,h3⟩|⟨l,h1,h2,h3⟩
   · rw[h3] at g1
     rcases qu q2 zX with⟨k1,k2,k3⟩|⟨l',k1,k2,k3⟩
     · rw[k3] at g2;exact hr.inj q1 q2 g h1 k1 g1 g2
     · rw[k3] at g2
       rcases rH l' g k1 g2 with⟨l0,h4,h5⟩|h4
       · exact absurd (hr.inj _ _ g (a8 l0 h4) h1 h5 g1) (h2 l0 h4)
       · have:=hr.mu h1 g1;omega
   · rw[h3] at g1
     rcases qu q2 zX with⟨k1,k2,k3⟩|⟨l',k1,k2,k3⟩
     · rw[k3] at g2
       rcases rH l g h1 g1 with⟨l0,h4,h5⟩|h4
       · exact absurd (hr.inj _ _ g (a8 l0 h4) k1 h5 g2) (k2 l0 h4)
       · have:=hr.mu k1 g2;omega
     · rw[k3] at g2
       rw[←h2,←k2,hc.inj l l' g h1 k1 g1 g2]
 · intro q r H6 cs bx p hp
   rcases p2 q r H6 with⟨h1,h2⟩|⟨l,r',h1,rfl,rfl⟩
   · exact p4 p (hr.cB q r h1 cs bx p hp)
   · simp only[bX,List.mem_map] at bx
     obtain⟨E5,h0,rfl⟩:=bx
     rw[jd,List.mem_map] at hp
     obtain⟨p0,Hh,rfl⟩:=hp
     exact p6 l r' h1 E5 h0 p0 Hh
 · refine⟨hc.frame.os.trans hr.frame.os,hc.frame.tape.trans hr.frame.tape,hc.frame.output.trans hr.frame.output,Nat.le_trans hr.frame.size hc.frame.size,fun k hk hd=> ?_,fun k S hS=>hc.frame.bs k S (hr.frame.bs k S hS)⟩
   refine(n7 k (Nat.lt_of_lt_of_le hk hr.frame.size) (fun l hl hb=> ?_)).trans (hr.frame.block k hk hd)
   rcases hr.own _ k (a8 l hl) hb with h|h
   · exact hd h
   · omega
 · intro g cs hg
   obtain⟨h1,h2,h3⟩:=hr.fI g cs hg
   obtain⟨k1,k2,k3⟩:=Aj g h1 h2
   exact⟨k1,k2,da.mono (dc [] (by simp)).togE h1 h2 h3⟩
 · intro l hl
   obtain⟨h1,h2⟩:=hr.fX l hl
   refine⟨p4 l h1,fun h=> ?_⟩
   obtain⟨k1,k2,_⟩:=Jw l h1 h
   rw[k2];exact h2 k1
 · intro q g rf hf hb
   rcases qu q rf with⟨h1,h2,h3⟩|⟨l,h1,h2,h3⟩
   · rw[h3] at hb;exact hr.fr q g h1 hf hb
   · rw[h3] at hb
     rcases p7 l h1 with h|⟨h,h'⟩
     · rw[Cl l h h1] at hb
       have e:ρ l=q:=by rw[←h2,p1 l h h1]
       rw[e] at hb
       exact hr.fr q g (e▸a8 l h) hf hb
     · rcases h' (by rw[h2];exact hf) with H7|H7
       · exact Nat.le_trans hr.frame.size (hc.fr l g h1 H7 hb)
       · rcases rH l g h1 hb with⟨l0,h4,h5⟩|h4
         · exact hr.fr _ g (a8 l0 h4) (H7 l0 h4) h5
         · exact Nat.le_trans hr.frame.size h4
end
end Go.Am

/- THE ABSTRACT MACHINE, part 13: a region's operations do what the instructions say. -/
namespace Go.Am
open Go Go.RowKit
section
variable {K:Kx} {β:Lb→Option Nat} {env:Env} {H:Hp} {a:Act} {w:World}
def pA (K:Kx) (env:Env) (d:Option Nat) (k:AV→Hp→Prop) (a':Act) (w':World):Prop:=∃x H',k x H'∧∃β',aM K β' (db env d x) H' a' w'
theorem dB (hr:aM K β env H a w) {o:Oper} (hd:∀n,o.dst=some n→n<K.N) {x:AV} {k:AV→Hp→Prop} {Q:Exit→Act→World→Prop} (h:aO K β H a w o x) (hk:k x H) :
  o.wp K.P a w (pA K env o.dst k) Q:=by
 obtain⟨v,w',h1,h2,h3,h4⟩:=h;unfold Oper.wp;rw[h1];exact⟨x,H,hk,β,hr.step h2 hd (fun _=>h3) (fun _=>h4)⟩
theorem dC {o:Oper} {x:AV} {H':Hp} {k:AV→Hp→Prop} {Q:Exit→Act→World→Prop} (h:iE K env a w o o.dst x H') (hk:k x H') :
  o.wp K.P a w (pA K env o.dst k) Q:=by
 obtain⟨nx,w',β',v,h1,h2,h3⟩:=h;unfold Oper.wp;rw[h1];rcases h2 with rfl|⟨rfl,rfl⟩
 ·exact⟨x,H',hk,β',h3⟩
 ·exact⟨x,H',hk,β',h3⟩
theorem u7 (hr:aM K β env H a w) {o:Oper} (hd:∀n,o.dst=some n→n<K.N) {f:Nat} {args:List AV} {vs:List Value} {k:AV→Hp→Prop} {Q:Exit→Act→World→Prop}
  (jx:(execOp a.eval o).run K.P w= .ok (.enter f vs.toArray) w) (hv:bo w β H (Im K β H) args vs) (hc:j7 ⟨K.P,K.G,K.N⟩ f args H k):o.wp K.P a w (pA K env o.dst k) Q:=by
 unfold Oper.wp;rw[jx];rcases hc with⟨res,hp,hk⟩|⟨cQ,res,ha,hp,rG,hk⟩|⟨ρ,iG,cQ,Q',h1,rfl,h3,h4,h5,h6,Ks,h7,h8⟩
 ·refine(mA hr hp hv trivial).mono ?_;rintro e w' ⟨v,rfl,gw,hx⟩;exact⟨res,H,hk,β,hr.step gw hd (fun _=>hx) (fun _ l hl=>by rw[hp.2.1] at hl;simp at hl)⟩
 ·refine(vW hr ha hp rG hv).mono ?_;rintro e w' ⟨v,rfl,gw,hx⟩;exact⟨res,H,hk,β,hr.step gw hd (fun _=>hx) (fun _ l hl=>by rw[hp.2.1] at hl;simp at hl)⟩
 ·refine(vX hr h1 h3 h4 h5 h6 Ks h7 hv).mono ?_;rintro e w' ⟨v,x,H',rfl,hq,dN⟩;obtain⟨ρ',kS,p1,p2,p3,p4,p5,p6,p7,p8,hk⟩:=h8 x H' hq;obtain⟨j8,q1,q2⟩:=dN ρ' kS p1 p2 p3 p4 p5 p6 p7 p8
  exact⟨_,kS,hk,j8,q1.step (Below.refl _ _) hd (fun _=>q2) (fun _ l hl=>by
   rw[qt,List.mem_map] at hl;obtain⟨l0,h0,rfl⟩:=hl;exact p5 l0 h0)⟩
theorem bh {α γ:Type} {x:Option α} {f:α→Option γ} {y:γ} (h:x.bind f=some y):∃a,x=some a∧f a=some y:=Option.bind_eq_some_iff.1 h
theorem bB {α γ:Type} {x:Option α} {f:α→γ} {y:γ} (h:x.map f=some y):∃a,x=some a∧f a=y:=Option.map_eq_some_iff.1 h
theorem xH {i:b6} {x:O} (h:i.ie= .box x):i= .box x∨i= .pd x:=by
 cases i<;>simp[b6.ie] at h<;>simp[h]
theorem xI {i:b6} {s x:O} {sz b:Nat} (h:i.ie= .app s x sz b):i= .app s x sz b∨i= .nU s x sz b:=by
 cases i<;>simp[b6.ie] at h<;>simp[h]
theorem vZ {i:b6} {n sz:Nat} {z:List AV} {ps:List (Nat×O)} (h:i.ie= .lits n sz z ps):i= .lits n sz z ps∨(n=1∧i= .ga sz z ps):=by
 cases i<;>simp[b6.ie] at h<;>simp[h]
def b6.Da:b6→Bool
 | .box _| .app ..| .lits ..=>true
 |_=>false
theorem cW {i j:b6} (h:i.ie=j) (hj:j.Da=false):i=j:=by
 subst h;cases i<;>first|rfl|(simp[b6.ie,b6.Da] at hj)
def b6.plain:b6→Bool
 | .load ..| .box _| .new _| .store ..| .app ..| .call ..| .j0 ..| .s9 ..| .rq ..| .zR ..| .cap ..| .s4 ..| .iY ..| .qj ..| .ga ..=>false
 |_=>true
theorem je {S:St} {d:Option Nat} {i:b6} {k:AV→Hp→Prop} (h:i.plain=true) (ha:bt S d i env H k):∃x,aa i env=some x∧k x H:=by
 cases i<;>simp[b6.plain] at h<;>exact ha
theorem pk (d:Nat) {P:Program} {t e:TypeId} (ht:P.underlying t=some (.slice e)) (a:Option Addr) (n c:Nat) :
  (Op.equalIn (d+1) t (.slice a n c) (.slice none 0 0)).run P w= .ok a.isNone w:=by
 cases a<;>simp[Op.equalIn,run_underlying ht]
theorem F1 (hr:aM K β env H a w) {o:Oper} {op:BinOp} {t t2 e:TypeId} {x y:Operand} {x':O} {n:Bool} (ho:o.op= .binOp op t x y t2) (hn:jM op=some n)
  (ht:K.P.underlying t=some (.slice e)) (hc:tc y=true) (hx:co K.G x=some x') {bs:List Bool} (hz:pg (ev env x')=some bs):∃b,b∈bs∧aO K β H a w o (.bool (n ^^ b)):=by
 have h:=hr.ev hx
 have hy:a.eval y= .slice none 0 0:=by
  unfold tc at hc;split at hc
  ·rfl
  ·cases hc
 have key:∀(ad:Option Addr) (m c:Nat),a.eval x= .slice ad m c→ad.isNone∈bs→∃b,b∈bs∧aO K β H a w o (.bool (n ^^ b)):=by
  intro ad m c h3 h4;refine⟨ad.isNone,h4,aO.same (v:= .bool (n ^^ ad.isNone)) ?_ (by simp[RV]) (by simp[AV.ar])⟩;have h5:(Op.equal t (.slice ad m c) (.slice none 0 0)).run K.P w= .ok ad.isNone w:=pk 9999 ht ad m c;rcases ja hn with⟨rfl,rfl⟩|⟨rfl,rfl⟩
  ·simp[execOp,ho,h3,hy,eqGuard,binOp,h5]
  ·simp[execOp,ho,h3,hy,eqGuard,binOp,h5]
 have Ax:∀b:Bool,b∈[true,false]:=by intro b;cases b<;>simp
 cases e1:ev env x'<;>rw[e1] at h hz
 case list xs=>
  simp only[RV,eT] at h;obtain⟨ad,c,h1,_,_,h4⟩:=h;cases xs with
  |nil=>simp only[pg,Option.some.injEq] at hz;subst hz;exact key _ _ _ h1 (Ax _)
  |cons y0 r=>
   simp only[pg,Option.some.injEq] at hz;subst hz;rcases h4 with h4|⟨b,o',sz,h4,_⟩
   ·simp at h4
   ·refine key _ _ _ h1 ?_;rw[h4];simp
 case nil0=>
  simp only[RV] at h;obtain⟨ad,h1⟩:=h;simp only[pg,Option.some.injEq] at hz;subst hz;exact key _ _ _ h1 (Ax _)
 case slk l sz i m c=>
  simp only[RV] at h;obtain⟨ad,h1,h2,_,h4,_⟩:=h;simp only[pg,Option.some.injEq] at hz;subst hz;refine key _ _ _ h1 ?_;by_cases hm:0<m
  ·rw[if_pos hm];have:=h4 (by omega);cases ad with
   |none=>simp at this
   |some q=>simp
  ·rw[if_neg hm];exact Ax _
 case sl l sz i m=>
  simp only[RV] at h;obtain⟨ad,c,h1,_,_,h4,_⟩:=h;simp only[pg,Option.some.injEq] at hz;subst hz;refine key _ _ _ h1 ?_;by_cases hm:0<m
  ·rw[if_pos hm];have:=h4 hm;cases ad with
   |none=>simp at this
   |some q=>simp
  ·rw[if_neg hm];exact Ax _
 all_goals simp[pg] at hz
set_option maxHeartbeats 1000000 in
theorem tC (hr : aM K β env H a w) {o : Oper} {i : b6} {k : AV → Hp → Prop} {Q : Exit → Act → World → Prop} (hd : ∀ n,o.dst = some n → n < K.N) (hc : xn K.P K.G o = some i.ie)
   (ha : bt ⟨K.P,K.G,K.N⟩ o.dst i env H k) : o.wp K.P a w (pA K env o.dst k) Q := by
 have plain : ∀ j : b6,i.ie = j → j.Da = false → j.plain = true → (∀ x,aa j env = some x → aO K β H a w o x) → o.wp K.P a w (pA K env o.dst k) Q := by
   intro j hj Kt hp hs
   have e := cW hj Kt
   subst e
   obtain ⟨x,h1,h2⟩ := je hp ha
   exact dB hr hd (hs x h1) h2
 unfold xn at hc
 split at hc
 · rename_i x ho
   obtain ⟨y,h1,h2⟩ := bB hc
   exact plain _ h2.symm rfl rfl (fun z hz => by simp only [aa,Option.some.injEq] at hz; subst hz; exact B_ hr (.inl ho) h1)
 · rename_i x ho
   obtain ⟨y,h1,h2⟩ := bB hc
   exact plain _ h2.symm rfl rfl (fun z hz => by simp only [aa,Option.some.injEq] at hz; subst hz; exact B_ hr (.inr ho) h1)
 · rename_i c x y ho
   obtain ⟨c',h1,hc⟩ := bh hc
   obtain ⟨x',h2,hc⟩ := bh hc
   obtain ⟨y',h3,h4⟩ := bB hc
   refine plain _ h4.symm rfl rfl (fun z hz => ?_)
   simp only [aa] at hz
   split at hz
   · rename_i t ht
     simp only [Option.some.injEq] at hz; subst hz
     exact CG hr ho h1 h2 h3 ht
   · simp at hz
 · rename_i t x f ho
   split at hc
   · rename_i fs ht
     obtain ⟨fd,h1,hc⟩ := bh hc
     obtain ⟨s,h2,hc⟩ := bh hc
     split at hc
     · simp at hc
     · rename_i zS
       obtain ⟨x',h3,h4⟩ := bB hc
       exact plain _ h4.symm rfl rfl (fun z hz => Fg hr ho ht h1 h2 zS h3 hz)
   · simp at hc
 · rename_i t x j ho
   split at hc
   · rename_i e ht
     obtain ⟨s,h2,hc⟩ := bh hc
     obtain ⟨x',h3,hc⟩ := bh hc
     obtain ⟨j',h4,h5⟩ := bB hc
     exact plain _ h5.symm rfl rfl (fun z hz => Fi hr ho ht h2 h3 h4 hz)
   · rename_i n e ht
     obtain ⟨s,h2,hc⟩ := bh hc
     obtain ⟨x',h3,hc⟩ := bh hc
     obtain ⟨j',h4,h5⟩ := bB hc
     exact plain _ h5.symm rfl rfl (fun z hz => Fh hr ho ht h2 h3 h4 hz)
   · simp at hc
 · rename_i t x j ho
   split at hc
   · rename_i ht
     obtain ⟨x',h3,hc⟩ := bh hc
     obtain ⟨j',h4,h5⟩ := bB hc
     exact plain _ h5.symm rfl rfl (fun z hz => Fj hr ho ht h3 h4 hz)
   · simp at hc
 · rename_i t x lo hi mx ho
   split at hc
   · rename_i e ht
     obtain ⟨s,h2,hc⟩ := bh hc
     obtain ⟨x',h3,hc⟩ := bh hc
     obtain ⟨ql,h4,hc⟩ := bh hc
     obtain ⟨dX,h5,hc⟩ := bh hc
     obtain ⟨mx',h6,h7⟩ := bB hc
     exact plain _ h7.symm rfl rfl (fun z hz => Fl hr ho ht h2 h3 h4 h5 h6 hz)
   · rename_i ht
     split at hc
     · simp at hc
     · rename_i tf
       obtain ⟨x',h3,hc⟩ := bh hc
       obtain ⟨ql,h4,hc⟩ := bh hc
       obtain ⟨dX,h5,h7⟩ := bB hc
       have : mx = none := by cases mx <;> simp_all
       subst this
       exact plain _ h7.symm rfl rfl (fun z hz => CK hr ho ht h3 h4 h5 hz)
   · rename_i n e ht
     split at hc
     · rename_i Cn
       simp only [Bool.and_eq_true,Option.isNone_iff_eq_none] at Cn
       obtain ⟨⟨rfl,rfl⟩,rfl⟩ := Cn
       obtain ⟨s,h2,hc⟩ := bh hc
       split at hc
       · simp at hc
       · rename_i zS
         obtain ⟨x',h3,h5⟩ := bB hc
         exact plain _ h5.symm rfl rfl (fun z hz => C8 hr ho ht h2 zS h3 hz)
     · simp at hc
   · simp at hc
 · -- makeSlice
   rename_i t n c ho
   split at hc
   · rename_i e ht
     split at hc
     · rename_i ti u9
       split at hc
       · rename_i z hz
         split at hc
         · rename_i cP
           obtain ⟨zs,h1,hc⟩ := bh hc
           obtain ⟨n',h2,hc⟩ := bh hc
           obtain ⟨c',h3,h5⟩ := bB hc
           have e5 := cW h5.symm rfl
           subst e5
           obtain ⟨q,g1,y,H',g2,g3⟩ := ha
           exact dC (by rw [g1]; exact FW hr (hd q g1) ho ht u9 hz cP.1 cP.2.1 cP.2.2 h1 h2 h3 g2) g3
         · simp at hc
       · simp at hc
     · simp at hc
   · simp at hc
 · rename_i op t x y t2 ho
   split at hc
   · obtain ⟨x',h3,hc⟩ := bh hc
     obtain ⟨y',h4,h5⟩ := bB hc
     exact plain _ h5.symm rfl rfl (fun z hz => Ca hr ho h3 h4 hz)
   · obtain ⟨x',h3,hc⟩ := bh hc
     obtain ⟨y',h4,h5⟩ := bB hc
     exact plain _ h5.symm rfl rfl (fun z hz => Ca hr ho h3 h4 hz)
   · rename_i ht
     obtain ⟨n,h2,hc⟩ := bh hc
     obtain ⟨x',h3,hc⟩ := bh hc
     obtain ⟨y',h4,h5⟩ := bB hc
     exact plain _ h5.symm rfl rfl (fun z hz => FE hr ho h2 ht h3 h4 hz)
   · rename_i e ht
     obtain ⟨n,h2,hc⟩ := bh hc
     obtain ⟨x',h3,hc⟩ := bh hc
     obtain ⟨y',h4,h5⟩ := bB hc
     exact plain _ h5.symm rfl rfl (fun z hz => FF hr ho h2 ht h3 h4 hz)
   · rename_i ms ht
     split at hc
     · rename_i xJ
       obtain ⟨n,h2,hc⟩ := bh hc
       obtain ⟨x',h3,hc⟩ := bh hc
       obtain ⟨y',h4,h5⟩ := bB hc
       exact plain _ h5.symm rfl rfl (fun z hz => FG hr ho h2 ht xJ h3 hz)
     · simp at hc
   · rename_i fs ht
     obtain ⟨ks,h1,hc⟩ := bh hc
     obtain ⟨n,h2,hc⟩ := bh hc
     obtain ⟨x',h3,hc⟩ := bh hc
     obtain ⟨y',h4,h5⟩ := bB hc
     exact plain _ h5.symm rfl rfl (fun z hz => CT hr ho h2 h1 h3 h4 hz)
   · -- a slice,held against nil
     rename_i e ht
     split at hc
     · rename_i xJ
       obtain ⟨n,h2,hc⟩ := bh hc
       obtain ⟨x',h3,h5⟩ := bB hc
       have e5 := cW h5.symm rfl
       subst e5
       obtain ⟨bs,g1,g2⟩ := ha
       obtain ⟨b,hb,fW⟩ := F1 hr ho h2 ht xJ h3 g1
       exact dB hr hd fW (g2 b hb)
     · simp at hc
   · simp at hc
 · rename_i t x ho
   obtain ⟨x',h3,h5⟩ := bB hc
   exact plain _ h5.symm rfl rfl (fun z hz => Fo hr ho h3 hz)
 · rename_i t x ho
   obtain ⟨x',h3,h5⟩ := bB hc
   exact plain _ h5.symm rfl rfl (fun z hz => Fq hr ho h3 hz)
 · rename_i x j ho
   obtain ⟨x',h3,h5⟩ := bB hc
   exact plain _ h5.symm rfl rfl (fun z hz => Fu hr ho h3 hz)
 · rename_i x ho
   obtain ⟨x',h3,h5⟩ := bB hc
   exact plain _ h5.symm rfl rfl (fun z hz => CL hr ho h3 hz)
 · -- box
   rename_i t x ho
   obtain ⟨x',h3,h5⟩ := bB hc
   rcases xH h5.symm with rfl | rfl
   · obtain ⟨n,g1,g2,g3,g4,g5,g6⟩ := ha
     exact dC (by rw [g1]; exact FL hr (hd n g1) ho h3 g3 g4 g5 g2) g6
   · obtain ⟨y,h1,h2⟩ := je rfl ha
     exact dB hr hd (CO hr ho h3 h1) h2
 · rename_i f first cap ho
   split at hc
   · rename_i hf
     obtain ⟨cs,h3,h5⟩ := bB hc
     exact plain _ h5.symm rfl rfl (fun z hz => Fv hr ho hf h3 hz)
   · obtain ⟨qs,h2,hc⟩ := bh hc
     obtain ⟨cs,h3,h5⟩ := bB hc
     exact plain _ h5.symm rfl rfl (fun z hz => Fw hr ho h2 h3 hz)
 · -- load
   rename_i t x ho
   obtain ⟨m,h1,hc⟩ := bh hc
   obtain ⟨x',h3,h5⟩ := bB hc
   have e := cW h5.symm rfl
   subst e
   rcases ha with ⟨y,g1,g2⟩ | ⟨y,g1,g2⟩
   · exact dB hr hd (Ag hr ho h1 h3 g1) g2
   · exact dB hr hd (CW hr ho h1 h3 g1) g2
 · -- alloc
   rename_i t ho
   split at hc
   · rename_i ti u9
     split at hc
     · rename_i z hz
       split at hc
       · obtain ⟨cs,h3,h5⟩ := bB hc
         have e := cW h5.symm rfl
         subst e
         obtain ⟨n,g1,g2,g3,g4,g5⟩ := ha
         exact dC (by rw [g1]; exact Al hr (hd n g1) ho u9 hz h3 g3 g4 g2) g5
       · simp at hc
     · simp at hc
   · simp at hc
 · -- store
   rename_i t x y ho
   obtain ⟨s,h1,hc⟩ := bh hc
   obtain ⟨x',h3,hc⟩ := bh hc
   obtain ⟨y',h4,h5⟩ := bB hc
   have e := cW h5.symm rfl
   subst e
   obtain ⟨g1,H',g2,g3⟩ := ha
   exact dC (by rw [g1]; exact An hr ho h1 h3 h4 g2) g3
 · -- convert
   rename_i s d x ho
   split at hc
   · rename_i k1 k2 hs Db
     obtain ⟨x',h3,h5⟩ := bB hc
     exact plain _ h5.symm rfl rfl (fun z hz => Fx hr ho hs Db h3 hz)
   · rename_i hs Db
     obtain ⟨x',h3,h5⟩ := bB hc
     exact plain _ h5.symm rfl rfl (fun z hz => Fy hr ho hs Db h3 hz)
   · rename_i e hs Db
     split at hc
     · rename_i he
       obtain ⟨x',h3,h5⟩ := bB hc
       exact plain _ h5.symm rfl rfl (fun z hz => FH hr ho hs Db he h3 hz)
     · simp at hc
   · rename_i e hs Db
     split at hc
     · rename_i he
       obtain ⟨x',h3,h5⟩ := bB hc
       exact plain _ h5.symm rfl rfl (fun z hz => FJ hr ho hs he Db h3 hz)
     · simp at hc
   · simp at hc
 · rename_i t x ho
   split at hc
   · simp at hc
   · rename_i d Ku ht
     obtain ⟨x',h3,h5⟩ := bB hc
     exact plain _ h5.symm rfl rfl (fun z hz => CM hr ho ht (fun ms e => Ku ms e) h3 hz)
   · simp at hc
 · rename_i t x f ho
   split at hc
   · rename_i fs ht
     obtain ⟨fd,h1,hc⟩ := bh hc
     obtain ⟨m,h2,hc⟩ := bh hc
     obtain ⟨x',h3,h5⟩ := bB hc
     exact plain _ h5.symm rfl rfl (fun z hz => CR hr ho ht h1 h2 h3 hz)
   · simp at hc
 · -- buildSlice
   rename_i t n ps ho
   split at hc
   · rename_i e ht
     split at hc
     · rename_i ti u9
       split at hc
       · rename_i z hz
         split at hc
         · rename_i cP
           obtain ⟨zs,h1,hc⟩ := bh hc
           obtain ⟨xs,h2,h5⟩ := bB hc
           rcases vZ h5.symm with rfl | ⟨rfl,rfl⟩
           · obtain ⟨y,g1,g2⟩ := je rfl ha
             exact dB hr hd (CP hr ho ht u9 hz cP.1 cP.2.1 cP.2.2 h1 h2 g1) g2
           · obtain ⟨q,g1,y,H',g2,g3⟩ := ha
             exact dC (by rw [g1]; exact Au hr (hd q g1) ho ht u9 hz cP.1 cP.2.1 cP.2.2 h1 h2 g2) g3
         · simp at hc
       · simp at hc
     · simp at hc
   · simp at hc
 · -- build
   rename_i t ps ho
   split at hc
   · rename_i ti fs u9 ht
     split at hc
     · rename_i z pl hz HM
       obtain ⟨zs,h1,hc⟩ := bh hc
       obtain ⟨xs,h2,hc⟩ := bh hc
       obtain ⟨qs,h3,h5⟩ := bB hc
       exact plain _ h5.symm rfl rfl (fun y hy => FC hr ho ht u9 hz HM h1 h2 h3 hy)
     · simp at hc
   · simp at hc
 · -- call
   rename_i c ho
   split at hc
   · -- len
     rename_i iR
     split at hc
     · rename_i x h1 h2
       obtain ⟨x',h3,h5⟩ := bB hc
       exact plain _ h5.symm rfl rfl (fun z hz => CI hr ho iR h1 h2 h3 hz)
     · rename_i x e h1 h2
       obtain ⟨x',h3,h5⟩ := bB hc
       exact plain _ h5.symm rfl rfl (fun z hz => Fk hr ho iR h1 h2 h3 hz)
     · simp at hc
   · -- max
     rename_i iR
     split at hc
     · rename_i x y h1
       obtain ⟨x',h3,hc⟩ := bh hc
       obtain ⟨y',h4,h5⟩ := bB hc
       exact plain _ h5.symm rfl rfl (fun z hz => Fs hr ho iR h1 h3 h4 hz)
     · simp at hc
   · -- min
     rename_i iR
     split at hc
     · rename_i x y h1
       obtain ⟨x',h3,hc⟩ := bh hc
       obtain ⟨y',h4,h5⟩ := bB hc
       exact plain _ h5.symm rfl rfl (fun z hz => Ft hr ho iR h1 h3 h4 hz)
     · simp at hc
   · -- append
     rename_i iR
     split at hc
     · rename_i s x st xt h1 h2
       split at hc
       · rename_i e fW
         split at hc
         · rename_i ti u9
           split at hc
           · rename_i cP
             simp only [Bool.and_eq_true,beq_iff_eq,decide_eq_true_eq] at cP
             obtain ⟨⟨q1,q2⟩,q3⟩ := cP
             obtain ⟨z,hz,Jx⟩ := bB q1
             obtain ⟨s',h3,hc⟩ := bh hc
             obtain ⟨x',h4,h5⟩ := bB hc
             obtain ⟨dx,rh,s6⟩ : ∃ dx,K.P.underlying xt = some dx ∧ (dx = .string ∨ ∃ e2,dx = .slice e2) := by
               unfold Fe at q3
               split at q3
               · rename_i hh; exact ⟨_,hh,.inl rfl⟩
               · rename_i hh; exact ⟨_,hh,.inr ⟨_,rfl⟩⟩
               · simp at q3
             rcases xI h5.symm with rfl | rfl
             · obtain ⟨n,g1,y,H',g3,g4⟩ := ha
               exact dC (by rw [g1]; exact FO hr (hd n g1) ho iR h1 h2 fW u9 hz Jx q2 rh s6 h3 h4 g3) g4
             · obtain ⟨y,g3,g4⟩ := je rfl ha
               exact dB hr hd (C9 hr ho iR h1 h2 fW u9 hz Jx q2 rh s6 h3 h4 g3) g4
           · split at hc
             · rename_i k0 z rh hz
               split at hc
               · rename_i n6
                 obtain ⟨zs,h5,hc⟩ := bh hc
                 obtain ⟨s',h3,hc⟩ := bh hc
                 obtain ⟨x',h4,h6⟩ := bB hc
                 have e6 := cW h6.symm rfl
                 subst e6
                 obtain ⟨n,g1,y,H',g3,g4⟩ := ha
                 exact dC (by rw [g1]; exact C' hr (hd n g1) ho iR h1 h2 fW u9 hz n6.1 n6.2.1 n6.2.2 rh h5 h3 h4 g3) g4
               · simp at hc
             · simp at hc
         · simp at hc
       · simp at hc
     · simp at hc
   · -- cap
     rename_i iR
     split at hc
     · rename_i x e h1 h2
       obtain ⟨x',h3,h5⟩ := bB hc
       have e5 := cW h5.symm rfl
       subst e5
       obtain ⟨R,g1,g2⟩ := ha
       obtain ⟨m,q1,q2,q3⟩ := FX hr ho iR h1 h2 h3 g1
       exact dB hr hd q3 (g2 m q1 q2)
     · simp at hc
   · -- copy
     rename_i iR
     split at hc
     · rename_i dd x dt xt h1 h2
       split at hc
       · rename_i e E4
         obtain ⟨s,h3,hc⟩ := bh hc
         split at hc
         · simp at hc
         · rename_i zS
           obtain ⟨d',h4,hc⟩ := bh hc
           obtain ⟨x',h6,h5⟩ := bB hc
           have e5 := cW h5.symm rfl
           subst e5
           obtain ⟨y,H',g1,g2⟩ := ha
           exact dC (FT hr hd ho iR h1 h2 E4 h3 zS h4 h6 g1) g2
       · simp at hc
     · simp at hc
   · -- clear
     rename_i iR
     split at hc
     · rename_i x e h1 h2
       split at hc
       · rename_i ti u9
         split at hc
         · rename_i z hz
           split at hc
           · rename_i cP
             obtain ⟨zs,h3,hc⟩ := bh hc
             obtain ⟨x',h4,h5⟩ := bB hc
             have e5 := cW h5.symm rfl
             subst e5
             obtain ⟨H',g1,g2⟩ := ha
             exact dC (FU hr hd ho iR h1 h2 u9 hz cP.1 cP.2 h3 h4 g1) g2
           · simp at hc
         · simp at hc
       · simp at hc
     · simp at hc
   · simp at hc
   · simp at hc
   · -- a function
     rename_i f iR
     split at hc
     · rename_i hb
       obtain ⟨xs,h3,h5⟩ := bB hc
       have e := cW h5.symm rfl
       subst e
       obtain ⟨fn, hf, xK⟩ : ∃ fn, K.P.funcs[f]? = some fn ∧ (fn.body.isSome = true ∧ (fn.name != "runtime.NumGoroutine") = true) := by
         unfold nW at hb
         cases hq : K.P.funcs[f]? with
         | none => simp [hq] at hb
         | some fn => simp only [hq,Option.any_some,Bool.and_eq_true] at hb; exact ⟨fn,rfl,hb⟩
       refine u7 hr hd (vs := c.args.toList.map a.eval) ?_ (iQ hr _ _ h3) ha
       have h1 : ¬ fn.name = "runtime.NumGoroutine" := by simpa using xK.2
       have h2 : ¬ fn.body = none := by intro hh; simp [hh] at xK
       simp [execOp,ho,resolve,iR,Act.eval,Deferred.ofValue,invoke,callFunc,hf,h1,h2]
       cases c.args
       simp
     · -- without a body
       obtain ⟨xs,h3,h5⟩ := bB hc
       have e5 := cW h5.symm rfl
       subst e5
       obtain ⟨res,g1,g2⟩ := ha
       obtain ⟨v,w',q1,q2,q3,q4⟩ := g1 K β env a w (c.args.toList.map a.eval) rfl hr (iQ hr _ _ h3)
       refine dB hr hd ⟨v,w',?_,q2,q3,q4⟩ g2
       have u_ : (c.args.toList.map a.eval).toArray = c.args.map a.eval := by cases c.args; simp
       rw [u_] at q1
       simp [execOp,ho,resolve,iR,Act.eval,Deferred.ofValue,invoke,q1]
   · -- a function value
     rename_i f Jv iR
     obtain ⟨y,h2,hc⟩ := bh hc
     obtain ⟨xs,h3,h5⟩ := bB hc
     have e := cW h5.symm rfl
     subst e
     obtain ⟨f',first,cap,g1,hb,g2⟩ := ha
     have hv := hr.ev h2
     rw [g1] at hv
     simp only [RV] at hv
     obtain ⟨vs,us,k1,k2,k3⟩ := hv
     obtain ⟨fn, hf, xK⟩ : ∃ fn, K.P.funcs[f']? = some fn ∧ (fn.body.isSome = true ∧ (fn.name != "runtime.NumGoroutine") = true) := by
       unfold nW at hb
       cases hq : K.P.funcs[f']? with
       | none => simp [hq] at hb
       | some fn => simp only [hq,Option.any_some,Bool.and_eq_true] at hb; exact ⟨fn,rfl,hb⟩
     refine u7 hr hd (vs := vs ++ c.args.toList.map a.eval ++ us) ?_ (bo.append _ _ _ _ (bo.append _ _ _ _ k2 (iQ hr _ _ h3)) k3) g2
     have h1 : ¬ fn.name = "runtime.NumGoroutine" := by simpa using xK.2
     have h2 : ¬ fn.body = none := by intro hh; simp [hh] at xK
     simp [execOp,ho,resolve,iR,k1,Deferred.ofValue,invoke,callFunc,hf,h1,h2]
 · simp at hc
theorem v7 (hr:aM K β env H a w) {o:Oper} {i:b6} {k:AV→Hp→Prop} {Q:Exit→Act→World→Prop} (hd:∀n,o.dst=some n→n<K.N) (hc:comp K.P K.G o=some i.ie)
  (ha:bt ⟨K.P,K.G,K.N⟩ o.dst i env H k):o.wp K.P a w (pA K env o.dst k) Q:=by
 unfold comp at hc;split at hc
 ·rename_i j hj;simp only[Option.some.injEq] at hc;exact tC hr hd (by rw[hj,hc]) ha
 ·simp only[Option.some.injEq] at hc;have e:i= .stuck:=cW hc.symm rfl;subst e;obtain⟨x,h1,_⟩:=je rfl ha;simp[aa] at h1
end
end Go.Am

/- THE ABSTRACT MACHINE, part 14: regions. -/
namespace Go.Am
open Go Go.RowKit
section
variable {K:Kx} {env:Env} {H:Hp} {a:Act} {w:World}
theorem pB {β:Lb→Option Nat} (hr:aM K β env H a w) {ops:Array Oper} {o:Oper} {i:cx} (hc:kT K.P K.G ops o=some i) {b:Bool} (hg:gW i.g env=some b) :
  Region.wanted o (yielded ops a.tmps)=b:=by
 unfold kT at hc;split at hc
 ·rename_i h0;obtain⟨j,_,rfl⟩:=bB hc;simp only[gW,Option.some.injEq] at hg;subst hg;simp[Region.wanted,h0]
 ·rename_i j t h0;obtain⟨s,h1,hc⟩:=bh hc;obtain⟨q,_,rfl⟩:=bB hc;simp only[gW] at hg;have hv:=hr.gg s;split at hg
  ·rename_i c e;simp only[Option.some.injEq] at hg;subst hg;rw[e] at hv;simp only[RV] at hv
   have:a.tmps[s]?=some (.bool c):=by
    rw[Array.getD_eq_getD_getElem?] at hv;cases hq:a.tmps[s]? with
    |none=>rw[hq] at hv;cases hv
    |some u=>rw[hq] at hv;simpa using hv
   simp[Region.wanted,h0,yielded,h1,this]
  ·rename_i e;simp only[Option.some.injEq] at hg;subst hg;rw[e] at hv;simp only[RV] at hv
   have:a.tmps[s]?=none∨a.tmps[s]?=some undef:=by
    rw[Array.getD_eq_getD_getElem?] at hv;cases hq:a.tmps[s]? with
    |none=>exact .inl rfl
    |some u=>rw[hq] at hv;right;simpa using hv
   rcases this with h|h<;>simp[Region.wanted,h0,yielded,h1,h,undef]
  ·simp at hg
theorem rI {P:Program} {G:Nat→Option (List IV)} {ops:Array Oper} {o:Oper} {i:cx} (hc:kT P G ops o=some i):i.d=o.dst∧comp P G o=some i.i:=by
 unfold kT at hc;split at hc
 ·obtain⟨j,h1,rfl⟩:=bB hc;exact⟨rfl,h1⟩
 ·obtain⟨s,_,hc⟩:=bh hc;obtain⟨q,h1,rfl⟩:=bB hc;exact⟨rfl,h1⟩
theorem n8 {β:Lb→Option Nat} (hr:aM K β env H a w) {ops:Array Oper} {o:Oper} {i:cx} (hc:kT K.P K.G ops o=some i.ie) {k:Env→Hp→Prop} {Q:Exit→Act→World→Prop} {KK:Act→World→Prop}
  (hk:∀env' H' β' a' w',k env' H'→aM K β' env' H' a' w'→KK a' w')
  (ha:(gW i.g env=some true∧(∀n,i.d=some n→n<K.N)∧bt ⟨K.P,K.G,K.N⟩ i.d i.i env H fun x H'=>k (db env i.d x) H') ∨
   (gW i.g env=some false∧(∀n,i.d=some n→n<K.N)∧k (db env i.d .un) H)) :
  if Region.wanted o (yielded ops a.tmps) then o.wp K.P a w KK Q∨(o.asks K.P a w∧LetsOut Q) else KK (a.put o.dst undef) w:=by
 obtain⟨h1,h2⟩:=rI hc;have Jy:i.d=o.dst:=h1;rcases ha with⟨hg,hd,ha⟩|⟨hg,hd,ha⟩
 ·have hw:Region.wanted o (yielded ops a.tmps)=true:=pB hr (i:=i.ie) hc hg;rw[if_pos hw];left;rw[Jy] at ha hd;exact Oper.wp_mono (fun a' w' ⟨x,H',hx,β',nD⟩=>hk _ _ _ _ _ hx nD) (v7 hr hd h2 ha)
 ·have hw:Region.wanted o (yielded ops a.tmps)=false:=pB hr (i:=i.ie) hc hg;rw[if_neg (by simp[hw])];rw[Jy] at ha hd;exact hk _ _ _ _ _ ha (hr.step (Below.refl _ _) hd (fun _=>by simp[RV]) (fun _=>by simp[AV.ar]))
theorem rJ {ops:Array Oper} {k:Env→Hp→Prop} {Q:Exit→Act→World→Prop} (hk:∀env' H' β' a' w',k env' H'→aM K β' env' H' a' w'→Q .normal a' w') :
  ∀(l:List Oper) (is:List cx) (env:Env) (H:Hp) (a:Act) (w:World) (β:Lb→Option Nat),i_ (fun o i=>kT K.P K.G ops o=some (cx.ie i)) l is→AO ⟨K.P,K.G,K.N⟩ is env H k→aM K β env H a w →
   wpList K.P ops Q l a w
 |[],_,env,H,a,w,β,h,ha,hr=>by
  cases h;exact hk _ _ _ _ _ ha hr
 |o::l,_,env,H,a,w,β,h,ha,hr=>by
  cases h with
  |@cons _ i _ is h1 h2=>
   simp only[AO] at ha;unfold wpList;exact n8 hr h1 (k:=fun env' H'=>AO ⟨K.P,K.G,K.N⟩ is env' H' k) (fun env' H' β' a' w' q1 q2=>rJ hk l is env' H' a' w' β' h2 q1 q2) ha
end
end Go.Am
