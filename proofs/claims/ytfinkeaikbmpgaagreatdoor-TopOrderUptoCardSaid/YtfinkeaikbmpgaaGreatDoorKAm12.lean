import Derived.Test.YtfinkeaikbmpgaaGreatDoorAm38
import Derived.Test.YtfinkeaikbmpgaaGreatDoorKAm5
set_option linter.unusedSimpArgs false
set_option linter.unusedVariables false
set_option linter.unnecessarySimpa false
set_option linter.defProp false
/- THE ABSTRACT MACHINE, part 12: contracts of calls; a region's operations in their order. -/
namespace Go.Am
open Go Go.RowKit
def ar (xs:List IV):List (List AV):=xs.map fun y=>y.cells.map IV.gK
def Flat (xs:List IV):Prop:=∀y∈xs,∀z∈y.cells,∀cs,z≠ .agg cs
def Hp.none:Hp:=fun _=> .unused
def Env.any:Env:=fun _=> .any
def wv:Act:={tmps:=#[],defers:=[]}
def MX (β:Lb→Option Nat) (H:Hp) (k:Nat):Prop:=∃l,live H l∧β l=some k
def fm (P:Program) (G:Nat→Option (List IV)) (w:World) (A:Nat→Prop) (β:Lb→Option Nat) (H:Hp):Kx:=⟨P,G,w,A,MX β H,0,H,β⟩
def jb (P:Program) (G:Nat→Option (List IV)) (f:Nat) (args:List AV) (H:Hp) (Q:AV→Hp→Prop):Prop:=
 ∀(w:World) (A:Nat→Prop) (β:Lb→Option Nat) (vs:List Value),bu (fm P G w A β H) β Env.any H wv w→cM w β H (Im (fm P G w A β H) β H) args vs →
  Calls P f vs.toArray w fun e w'=>∃v x H' β',e= .returned v∧Q x H'∧bu (fm P G w A β H) β' Env.any H' wv w' ∧
   RV w' β' H' (Im (fm P G w A β H) β' H') x v∧∀l∈x.aB,H' l≠ .unused
def aw (P:Program) (G:Nat→Option (List IV)) (f:Nat) (args:List AV) (res:AV):Prop:=
 ah args=[]∧res.aB=[]∧jb P G f args Hp.none fun x _=>x=res
def jb.mono {P:Program} {G:Nat→Option (List IV)} {f:Nat} {args:List AV} {H:Hp} {Q Q':AV→Hp→Prop} (h:jb P G f args H Q) (hq:∀x H,Q x H→Q' x H):jb P G f args H Q':=
 fun w A β vs hr hv=>(h w A β vs hr hv).mono fun e w' ⟨v,x,H',β',h1,h2,h3⟩=>⟨v,x,H',β',h1,hq _ _ h2,h3⟩
def gW (g:Option (Nat×Bool)) (env:Env):Option Bool:=
 match g with
 |none=>some true
 |some (s,t)=>match env s with
  | .bool b=>some (b==t)
  | .un=>some false
  |_=>none
structure St where
 P:Program
 G:Nat→Option (List IV)
 N:Nat
mutual
def e7 (ρ:Lb→Lb):AV→AV
 | .sl l sz i n=> .sl (ρ l) sz i n
 | .slk l sz i n c=> .slk (ρ l) sz i n c
 | .ptr l sz i j=> .ptr (ρ l) sz i j
 | .agg cs=> .agg (aY ρ cs)
 | .dM cs=> .dM (aY ρ cs)
 | .fn f fs cs=> .fn f (aY ρ fs) (aY ρ cs)
 | .ifc t x=> .ifc t (e7 ρ x)
 |x=>x
def aY (ρ:Lb→Lb):List AV→List AV
 |[]=>[]
 |x::r=>e7 ρ x::aY ρ r
end
def cV (ρ:Lb→Lb) (r:Row):Row:=⟨r.sz,r.els.map (aY ρ)⟩
structure Pass (S:St) (f:Nat) (args:List AV) (H:Hp) (k:AV→Hp→Prop):Prop where
 h:∃(ρ:Lb→Lb) (qm:Hp) (dG:List AV) (Q:AV→Hp→Prop),jb S.P S.G f dG qm Q∧args=aY ρ dG ∧
  (∀l r,qm l= .live r→H (ρ l)= .live (cV ρ r))∧(∀l,qm l≠ .unused→live qm l) ∧
  (∀l l',live qm l→live qm l'→ρ l=ρ l'→l=l')∧(∀l∈ah dG,qm l≠ .unused)∧(∀l,live qm l→l.fresh=false)∧(∀l r,qm l= .live r→∀cs∈r.els,∀q∈ah cs,qm q≠ .unused) ∧
  ∀x H',Q x H'→∃(ρ':Lb→Lb) (m_:Hp),(∀l,live qm l→live H' l→ρ' l=ρ l) ∧
   (∀q r,m_ q= .live r→(H q= .live r∧∀l,live qm l→ρ l≠q)∨∃l r',H' l= .live r'∧ρ' l=q∧r=cV ρ' r') ∧
   (∀l l',live H' l→live H' l'→ρ' l=ρ' l'→l=l') ∧
   (∀q,H q≠ .unused→m_ q≠ .unused)∧(∀l∈x.aB,m_ (ρ' l)≠ .unused) ∧
   (∀l r',H' l= .live r'→∀cs∈r'.els,∀q∈ah cs,m_ (ρ' q)≠ .unused) ∧
   (∀l,live H' l→live qm l∨(H (ρ' l)= .unused∧((ρ' l).fresh=true→l.fresh=true∨∀z,live qm z→(ρ z).fresh=true))) ∧
   (∀l,(l∈x.aB∨∃l1 r1 cs,H' l1= .live r1∧cs∈r1.els∧l∈ah cs)→live m_ (ρ' l)→live H' l)∧k (e7 ρ' x) m_
mutual
def AV.scalar:AV→Bool
 | .bool _| .int _ _| .str _| .nD| .mH=>true
 | .dM cs=>scalars cs
 |_=>false
def scalars:List AV→Bool
 |[]=>true
 |x::r=>x.scalar&&scalars r
end
inductive Du (H:Hp):AV→AV→Prop where
 |same (x:AV):Du H x x
 |row (l:Lb) (sz i n:Nat) (xs:List IV):H l= .live ⟨sz,ar xs⟩→i+n≤xs.length→Flat xs→Du H (.sl l sz i n) (.list ((xs.drop i).take n))
structure abI (S:St) (f:Nat) (args:List AV) (H:Hp) (k:AV→Hp→Prop):Prop where
 h:∃dG res,gT (Du H) args dG∧aw S.P S.G f dG res∧res.scalar=true∧k res H
def sM (S:St) (f:Nat) (args:List AV) (H:Hp) (k:AV→Hp→Prop):Prop:=
 (∃res,aw S.P S.G f args res∧k res H)∨abI S f args H k∨Pass S f args H k
def BL:AV→Option (List Bool)
 | .list []=>some [true,false]
 | .list (_::_)=>some [false]
 | .nil0=>some [true,false]
 | .sl _ _ _ n=>some (if 0<n then [false] else [true,false])
 | .slk _ _ _ n _=>some (if 0<n then [false] else [true,false])
 |_=>none
def o7 (S:St) (f:Nat) (args:List AV) (H:Hp) (res:AV):Prop:=
 ∀(K:Kx) (β:Lb→Option Nat) (env:Env) (a:Act) (w:World) (vs:List Value),(⟨K.P,K.G,K.N⟩:St)=S→bu K β env H a w→cM w β H (Im K β H) args vs →
  ∃v w',(callFunc f vs.toArray).run K.P w= .ok (.value v) w'∧rJ w w'∧RV w' β H (Im K β H) res v∧∀l∈res.aB,H l≠ .unused
def cT (S:St) (d:Option Nat) (i:eF) (env:Env) (H:Hp) (k:AV→Hp→Prop):Prop:=
 match i with
 | .load m a=>(∃x,aj (.load m a) env=some x∧k x H)∨(∃x,jR m (ev env a) H=some x∧k x H)
 | .box x=>∃n,d=some n∧H (.loc n)= .unused∧(ev env x).GF=true∧0<(ev env x).cells.length∧(ev env x).cells.length≤maxLen ∧
  k (.ptr (.loc n) (ev env x).cells.length 0 0) (bF H (.loc n) (.live ⟨(ev env x).cells.length,[(ev env x).cells]⟩))
 | .new cs=>∃n,d=some n∧H (.loc n)= .unused∧0<cs.length∧cs.length≤maxLen∧k (.ptr (.loc n) cs.length 0 0) (bF H (.loc n) (.live ⟨cs.length,[cs]⟩))
 | .store m a x=>d=none∧∃H',pE m (ev env a) (ev env x) H=some H'∧k .un H'
 | .app s x sz bytes=>∃n,d=some n∧∃y H',nH sz bytes n (ev env s) (ev env x) H=some (y,H')∧k y H'
 | .call f args=>sM S f (args.map (ev env)) H k
 | .jH x args=>∃f first cap,ev env x= .fn f first cap∧jQ S.P f=true∧sM S f (first++args.map (ev env)++cap) H k
 | .Kk n x=>∃bs,BL (ev env x)=some bs∧∀b∈bs,k (.bool (n ^^ b)) H
 | .cap x=>∃R,MV (ev env x)=some R∧∀m,R m→m≤maxLen→k (.int .i64 (m:Int)) H
 | .xu s x sz=>∃y H',Dr sz (ev env s) (ev env x) H=some (y,H')∧k y H'
 | .Ek x sz z=>∃H',Ds sz z (ev env x) H=some H'∧k (.dM []) H'
 | .Ej n c sz bytes z=>∃q,d=some q∧∃y H',z8 sz bytes q z (ev env n) (ev env c) H=some (y,H')∧k y H'
 | .o3 f args=>∃res,o7 S f (args.map (ev env)) H res∧k res H
 | .zO s n sz bytes z=>∃q,d=some q∧∃y H',B9 sz bytes q z (ev env s) (ev env n) H=some (y,H')∧k y H'
 | .ou sz z ps=>∃q,d=some q∧∃y H',Dt sz q z (ps.map fun p=>(p.1,ev env p.2)) H=some (y,H')∧k y H'
 |i=>∃x,aj i env=some x∧k x H
def AO (S:St):List dD→Env→Hp→(Env→Hp→Prop)→Prop
 |[],env,H,k=>k env H
 |i::r,env,H,k=>(gW i.g env=some true∧(∀n,i.d=some n→n<S.N)∧cT S i.d i.i env H fun x H'=>AO S r (iw env i.d x) H' k) ∨
  (gW i.g env=some false∧(∀n,i.d=some n→n<S.N)∧AO S r (iw env i.d .un) H k)
def vh (P:Program) (G:Nat→Option (List IV)) (ops:Array Oper) (o:Oper):Option dD:=
 match o.guard with
 |none=>(comp P G o).map fun i=>⟨o.dst,none,i⟩
 |some (j,t)=>((ops[j]?).bind (·.dst)).bind fun s=>(comp P G o).map fun i=>⟨o.dst,some (s,t),i⟩
def eF.pG:eF→eF
 | .BK x=> .box x
 | .xw s x sz b=> .app s x sz b
 | .ou sz z ps=> .lits 1 sz z ps
 |i=>i
def dD.pG (i:dD):dD:={i with i:=i.i.pG}
section
variable {K:Kx} {β:Lb→Option Nat} {env:Env} {H:Hp} {a:Act} {w:World}
mutual
theorem Dv (ρ:Lb→Lb):∀x:AV,(e7 ρ x).aB=x.aB.map ρ
 | .sl ..| .slk ..| .ptr ..| .any| .un| .bool _| .int ..| .str _| .list _| .nil0| .nD| .mH| .lptr _=>by simp[e7,AV.aB]
 | .agg cs=>by simp[e7,AV.aB,q_ ρ cs]
 | .dM cs=>by simp[e7,AV.aB,q_ ρ cs]
 | .fn f fs cs=>by simp[e7,AV.aB,q_ ρ fs,q_ ρ cs]
 | .ifc t x=>by simp[e7,AV.aB,Dv ρ x]
theorem q_ (ρ:Lb→Lb):∀xs:List AV,ah (aY ρ xs)=(ah xs).map ρ
 |[]=>by simp[aY,ah]
 |x::r=>by simp[aY,ah,Dv ρ x,q_ ρ r]
end
theorem wx (ρ:Lb→Lb):∀(xs:List AV) (i:Nat),(aY ρ xs)[i]?=xs[i]?.map (e7 ρ)
 |[],i=>by simp[aY]
 |x::r,0=>by simp[aY]
 |x::r,i+1=>by simp[aY,wx ρ r i]
theorem wy (ρ:Lb→Lb):∀(xs:List AV),(aY ρ xs).length=xs.length
 |[]=>rfl
 |x::r=>by simp[aY,wy ρ r]
structure vG (w w':World) (β β':Lb→Option Nat) (H H':Hp) (I I':Nat→Prop) (ρ:Lb→Lb) (ls:List Lb):Prop extends mV w w' I I' where
 lb:∀l∈ls,live H' l→live H (ρ l)∧β' l=β (ρ l)∧∀g S,β (ρ l)=some g→qU w g=some S→qU w' g=some S
def vG.sub {w w':World} {β β':Lb→Option Nat} {H H':Hp} {I I':Nat→Prop} {ρ:Lb→Lb} {ls YG:List Lb} (h:vG w w' β β' H H' I I' ρ ls) (hs:∀l∈YG,l∈ls) :
 vG w w' β β' H H' I I' ρ YG:=⟨h.tomV,fun l hl=>h.lb l (hs l hl)⟩
mutual
theorem RV.e7 {w w':World} {β β':Lb→Option Nat} {H H':Hp} {I I':Nat→Prop} {ρ:Lb→Lb}:∀(x:AV) (v:Value),vG w w' β β' H H' I I' ρ x.aB→RV w β H I (Am.e7 ρ x) v→RV w' β' H' I' x v
 | .any,_,_,_=>by simp[RV]
 | .un,_,_,hv=>by simpa[RV,Am.e7] using hv
 | .bool _,_,_,hv=>by simpa[RV,Am.e7] using hv
 | .int _ _,_,_,hv=>by simpa[RV,Am.e7] using hv
 | .str _,_,_,hv=>by simpa[RV,Am.e7] using hv
 | .nil0,_,_,hv=>by simpa[RV,Am.e7] using hv
 | .nD,_,_,hv=>by simpa[RV,Am.e7] using hv
 | .mH,_,_,hv=>by simpa[RV,Am.e7] using hv
 | .list xs,v,h,hv=>by simp only[RV,Am.e7] at hv ⊢;exact kP.mono h.tomV _ _ hv
 | .agg cs,v,h,hv=>by
  simp only[RV,Am.e7] at hv ⊢;obtain⟨vs,rfl,h1⟩:=hv;exact⟨vs,rfl,cM.e7 cs vs (by simpa[AV.aB] using h) h1⟩
 | .dM cs,v,h,hv=>by
  simp only[RV,Am.e7] at hv ⊢;obtain⟨vs,rfl,h1⟩:=hv;exact⟨vs,rfl,cM.e7 cs vs (by simpa[AV.aB] using h) h1⟩
 | .slk l sz i n c,v,h,hv=>by
  simp only[RV,Am.e7] at hv ⊢;obtain⟨a,h1,h2,h3,h4,h5⟩:=hv;refine⟨a,h1,h2,h3,h4,fun hl=> ?_⟩;obtain⟨k1,k2,k3⟩:=h.lb l (by simp[AV.aB]) hl;rcases h5 k1 with h6|⟨g,S,e1,e2,e3,e4⟩
  ·exact .inl h6
  exact .inr ⟨g,S,k2.trans e1,e2,k3 g S e1 e3,e4⟩
 | .sl l sz i n,v,h,hv=>by
  simp only[RV,Am.e7] at hv ⊢;obtain⟨a,c,h1,h2,h3,h4,h5⟩:=hv;refine⟨a,c,h1,h2,h3,h4,fun hl=> ?_⟩;obtain⟨k1,k2,k3⟩:=h.lb l (by simp[AV.aB]) hl;rcases h5 k1 with h6|⟨g,S,e1,e2,e3,e4⟩
  ·exact .inl h6
  exact .inr ⟨g,S,k2.trans e1,e2,k3 g S e1 e3,e4⟩
 | .ptr l sz i j,v,h,hv=>by
  simp only[RV,Am.e7] at hv ⊢;obtain⟨a,h1,h2⟩:=hv;refine⟨a,h1,fun hl=> ?_⟩;obtain⟨k1,k2,k3⟩:=h.lb l (by simp[AV.aB]) hl;obtain⟨g,e1,e2⟩:=h2 k1;exact⟨g,k2.trans e1,e2⟩
 | .lptr cs,v,h,hv=>by
  simp only[RV,Am.e7] at hv ⊢;obtain⟨b,o,h1,h2,h3,h4⟩:=hv;obtain⟨k1,k2,_⟩:=h.im b h2 h3;exact⟨b,o,h1,k1,k2,dF.mono h.tomV cs b o h2 h3 h4⟩
 | .fn f fs cs,v,h,hv=>by
  simp only[RV,Am.e7] at hv ⊢;obtain⟨vs,us,rfl,h1,h2⟩:=hv;exact⟨vs,us,rfl,cM.e7 fs vs (h.sub (by simp[AV.aB];intro l hl;exact .inl hl)) h1,cM.e7 cs us (h.sub (by simp[AV.aB];intro l hl;exact .inr hl)) h2⟩
 | .ifc t x,v,h,hv=>by
  simp only[RV,Am.e7] at hv ⊢;obtain⟨u,rfl,h1⟩:=hv;exact⟨u,rfl,RV.e7 x u (by simpa[AV.aB] using h) h1⟩
theorem cM.e7 {w w':World} {β β':Lb→Option Nat} {H H':Hp} {I I':Nat→Prop} {ρ:Lb→Lb}:∀(xs:List AV) (vs:List Value),vG w w' β β' H H' I I' ρ (ah xs)→cM w β H I (aY ρ xs) vs→cM w' β' H' I' xs vs
 |[],_,_,hv=>by simpa[cM,aY] using hv
 |x::r,vs,h,hv=>by
  simp only[cM,aY] at hv ⊢;obtain⟨v,us,rfl,h1,h2⟩:=hv;exact⟨v,us,rfl,RV.e7 x v (h.sub (by simp[ah];intro l hl;exact .inl hl)) h1,cM.e7 r us (h.sub (by simp[ah];intro l hl;exact .inr hl)) h2⟩
end
mutual
theorem RV.BM {w w':World} {β β':Lb→Option Nat} {H H':Hp} {I I':Nat→Prop} {ρ:Lb→Lb}:∀(x:AV) (v:Value),mV w w' I I' →
  (∀l∈x.aB,live H' (ρ l)→live H l∧β' (ρ l)=β l∧∀g S,β l=some g→qU w g=some S→qU w' g=some S)→RV w β H I x v→RV w' β' H' I' (Am.e7 ρ x) v
 | .any,_,_,_,_=>by simp[RV,Am.e7]
 | .un,_,_,_,hv=>by simpa[RV,Am.e7] using hv
 | .bool _,_,_,_,hv=>by simpa[RV,Am.e7] using hv
 | .int _ _,_,_,_,hv=>by simpa[RV,Am.e7] using hv
 | .str _,_,_,_,hv=>by simpa[RV,Am.e7] using hv
 | .nil0,_,_,_,hv=>by simpa[RV,Am.e7] using hv
 | .nD,_,_,_,hv=>by simpa[RV,Am.e7] using hv
 | .mH,_,_,_,hv=>by simpa[RV,Am.e7] using hv
 | .list xs,v,h,_,hv=>by simp only[RV,Am.e7] at hv ⊢;exact kP.mono h _ _ hv
 | .agg cs,v,h,hl,hv=>by
  simp only[RV,Am.e7] at hv ⊢;obtain⟨vs,rfl,h1⟩:=hv;exact⟨vs,rfl,cM.BM cs vs h (by simpa[AV.aB] using hl) h1⟩
 | .dM cs,v,h,hl,hv=>by
  simp only[RV,Am.e7] at hv ⊢;obtain⟨vs,rfl,h1⟩:=hv;exact⟨vs,rfl,cM.BM cs vs h (by simpa[AV.aB] using hl) h1⟩
 | .slk l sz i n c,v,h,hl,hv=>by
  simp only[RV,Am.e7] at hv ⊢;obtain⟨a,h1,h2,h3,h4,h5⟩:=hv;refine⟨a,h1,h2,h3,h4,fun hq=> ?_⟩;obtain⟨k1,k2,k3⟩:=hl l (by simp[AV.aB]) hq;rcases h5 k1 with h6|⟨g,S,e1,e2,e3,e4⟩
  ·exact .inl h6
  exact .inr ⟨g,S,k2.trans e1,e2,k3 g S e1 e3,e4⟩
 | .sl l sz i n,v,h,hl,hv=>by
  simp only[RV,Am.e7] at hv ⊢;obtain⟨a,c,h1,h2,h3,h4,h5⟩:=hv;refine⟨a,c,h1,h2,h3,h4,fun hq=> ?_⟩;obtain⟨k1,k2,k3⟩:=hl l (by simp[AV.aB]) hq;rcases h5 k1 with h6|⟨g,S,e1,e2,e3,e4⟩
  ·exact .inl h6
  exact .inr ⟨g,S,k2.trans e1,e2,k3 g S e1 e3,e4⟩
 | .ptr l sz i j,v,h,hl,hv=>by
  simp only[RV,Am.e7] at hv ⊢;obtain⟨a,h1,h2⟩:=hv;refine⟨a,h1,fun hq=> ?_⟩;obtain⟨k1,k2,k3⟩:=hl l (by simp[AV.aB]) hq;obtain⟨g,e1,e2⟩:=h2 k1;exact⟨g,k2.trans e1,e2⟩
 | .lptr cs,v,h,_,hv=>by
  simp only[RV,Am.e7] at hv ⊢;obtain⟨b,o,h1,h2,h3,h4⟩:=hv;obtain⟨k1,k2,_⟩:=h.im b h2 h3;exact⟨b,o,h1,k1,k2,dF.mono h cs b o h2 h3 h4⟩
 | .fn f fs cs,v,h,hl,hv=>by
  simp only[RV,Am.e7] at hv ⊢;obtain⟨vs,us,rfl,h1,h2⟩:=hv;exact⟨vs,us,rfl,cM.BM fs vs h (fun l q=>hl l (by simp[AV.aB,q])) h1,cM.BM cs us h (fun l q=>hl l (by simp[AV.aB,q])) h2⟩
 | .ifc t x,v,h,hl,hv=>by
  simp only[RV,Am.e7] at hv ⊢;obtain⟨u,rfl,h1⟩:=hv;exact⟨u,rfl,RV.BM x u h (by simpa[AV.aB] using hl) h1⟩
theorem cM.BM {w w':World} {β β':Lb→Option Nat} {H H':Hp} {I I':Nat→Prop} {ρ:Lb→Lb}:∀(xs:List AV) (vs:List Value),mV w w' I I' →
  (∀l∈ah xs,live H' (ρ l)→live H l∧β' (ρ l)=β l∧∀g S,β l=some g→qU w g=some S→qU w' g=some S)→cM w β H I xs vs→cM w' β' H' I' (aY ρ xs) vs
 |[],_,_,_,hv=>by simpa[cM,aY] using hv
 |x::r,vs,h,hl,hv=>by
  simp only[cM,aY] at hv ⊢;obtain⟨v,us,rfl,h1,h2⟩:=hv;exact⟨v,us,rfl,RV.BM x v h (fun l q=>hl l (by simp[ah,q])) h1,cM.BM r us h (fun l q=>hl l (by simp[ah,q])) h2⟩
end
def bu.xD (hr:bu K β env H a w) (ρ:Lb→Lb) {env2:Env} {H2:Hp} (hE:∀n,env2 n= .any∨env n=e7 ρ (env2 n)) (hH:∀l r,H2 l= .live r→H (ρ l)= .live (cV ρ r))
   (Vg:∀l l',live H2 l→live H2 l'→ρ l=ρ l'→l=l') (hm:∀n,∀l∈(env2 n).aB,H2 l≠ .unused) (hrm:∀l r,H2 l= .live r→∀cs∈r.els,∀q∈ah cs,H2 q≠ .unused)
   (mZ:∀l,live K.H0 l→H2 l≠ .unused∧(live H2 l→ρ l=l)) (hfr:∀l,live H2 l→l.fresh=true→(ρ l).fresh=true):bu K (fun l=>β (ρ l)) env2 H2 a w:=by
 have bo:∀l,live H2 l→live H (ρ l):=fun l ⟨r,h⟩=>⟨_,hH l r h⟩
 have ik:∀ls,vG w w β (fun l=>β (ρ l)) H H2 (Im K β H) (Im K (fun l=>β (ρ l)) H2) ρ ls:=fun ls=>
   { im := fun k hk hs => ⟨⟨hk.1,fun l hl => hk.2 (ρ l) (bo l hl)⟩,hs,rfl⟩
     lb:=fun l _ hl=>⟨bo l hl,rfl,fun _ _ _ h=>h⟩}
 refine⟨hr.defers,hr.size,?_,?_,fun l g hl hb=>hr.own (ρ l) g (bo l hl) hb,fun l l' g h1 h2 g1 g2=>Vg l l' h1 h2 (hr.inj _ _ g (bo l h1) (bo l' h2) g1 g2),hm,hrm,hr.frame,?_,?_,fun l g hl hf hb=>hr.fr (ρ l) g (bo l hl) (hfr l hl hf) hb⟩
 · intro n
   rcases hE n with h|h
   · rw[h];simp[RV]
   exact RV.e7 _ _ (ik _) (by rw[←h];exact hr.mS n)
 · intro l r h
   obtain⟨h1,h2,h3⟩:=hr.rows (ρ l) _ (hH l r h)
   refine⟨h1,fun cs bS=> ?_,?_⟩
   · have:=h2 (aY ρ cs) (afd bS)
     rwa[wy] at this
   cases hb:β (ρ l) with
   |none=>simp only[hb] at h3 ⊢;simpa[cV] using h3
   |some g=>
   simp only[hb] at h3 ⊢
   obtain⟨cur,e,cap,e1,e2,e3,e4,e5⟩:=h3
   refine⟨cur,e,cap,e1,e2,e3,by simpa[cV] using e4,fun i j cs x hi hj=> ?_⟩
   obtain⟨v,k1,k2⟩:=e5 i j (aY ρ cs) (e7 ρ x) (by simp[cV,hi]) (by rw[wx,hj];rfl)
   exact⟨v,k1,RV.e7 _ _ (ik _) k2⟩
 · intro g cs hg
   obtain⟨h1,h2,h3⟩:=hr.l_ g cs hg
   exact⟨((ik []).im g h1 h2).1,h2,gX.mono (ik []).tomV h1 h2 h3⟩
 intro l hl
 obtain⟨h1,h2⟩:=mZ l hl
 refine⟨h1,fun h=> ?_⟩
 have e:=h2 h
 simp only[e]
 exact(hr.nF l hl).2 (e▸bo l h)
def xE (hr:bu K β env H a w) {f:Nat} {args:List AV} {vs:List Value} {res:AV} (hp:aw K.P K.G f args res) (hv:cM w β H (Im K β H) args vs)
   (ac8:True):Calls K.P f vs.toArray w fun e w'=>∃v,e= .returned v∧rJ w w'∧RV w' β H (Im K β H) res v:=by
 obtain⟨h1,h2,h3⟩:=hp
 have qD:bu (fm K.P K.G w (Im K β H) β Hp.none) β Env.any Hp.none wv w:=
   { defers := rfl,size := rfl
     mS:=fun n=>by simp[Env.any,RV]
     rows:=fun l r h=>by simp[Hp.none] at h
     own:=fun l g ⟨r,h⟩=>by simp[Hp.none] at h
     inj:=fun l l' g ⟨r,h⟩=>by simp[Hp.none] at h
     kL:=fun n=>by simp[Env.any,AV.aB]
     fk:=fun l r h=>by simp[Hp.none] at h
     frame:=⟨rfl,rfl,rfl,adw _,fun _ _ _=>rfl,fun _ _ h=>h⟩
     nF:=fun l ⟨r,h⟩=>by simp[fm,Hp.none] at h
     fr:=fun l g ⟨r,h⟩=>by simp[Hp.none] at h
     l_:=fun g cs hg=>by
       obtain⟨k1,k2,k3⟩:=hr.l_ g cs hg
       have kp:mV w w (Im K β H) (Im (fm K.P K.G w (Im K β H) β Hp.none) β Hp.none):=⟨fun k hk hs=>⟨⟨.inl hk,fun l ⟨r,h⟩=>by simp[Hp.none] at h⟩,hs,rfl⟩⟩
       exact⟨(kp.im g k1 k2).1,k2,gX.mono kp k1 k2 k3⟩}
 have kp:kR w w β β H Hp.none (Im K β H) (Im (fm K.P K.G w (Im K β H) β Hp.none) β Hp.none) (ah args):=
   { im := fun k hk hs => ⟨⟨.inl hk,fun l ⟨r,h⟩ => by simp [Hp.none] at h⟩,hs,rfl⟩
     lb:=fun l hl=>by rw[h1] at hl;simp at hl}
 refine(h3 w (Im K β H) β vs qD (cM.mono _ _ kp hv)).mono ?_
 rintro e w' ⟨v,x,H',β',rfl,rfl,k1,k2,_⟩
 have gw:rJ w w':=by
   refine⟨k1.frame.os,k1.frame.tape,k1.frame.output,k1.frame.size,fun k hk=>k1.frame.block k hk ?_⟩
   rintro⟨l,⟨r,h⟩,_⟩
   simp[Hp.none] at h
 refine⟨v,rfl,gw,RV.mono _ _ ?_ k2⟩
 refine {im:=fun k hk hs=>⟨?_,hs,rfl⟩,lb:=fun l hl=>by rw[h2] at hl;simp at hl}
 rcases hk.1 with h|h
 · exact h
 refine⟨.inr (aeZ hr.frame.size h),fun l hl hb=> ?_⟩
 have:=hr.xz hl hb
 have h':w.heap.size≤k:=h
 omega
mutual
theorem RV.scalar {w w':World} {β β':Lb→Option Nat} {H H':Hp} {I I':Nat→Prop}:∀(x:AV) (v:Value),x.scalar=true→RV w β H I x v→RV w' β' H' I' x v
 | .bool _,_,_,h| .int _ _,_,_,h| .str _,_,_,h| .nD,_,_,h| .mH,_,_,h=>by simpa[RV] using h
 | .dM cs,v,hs,h=>by
  simp only[RV] at h ⊢;obtain⟨vs,h1,h2⟩:=h;exact⟨vs,h1,cM.scalar cs vs (by simpa[AV.scalar] using hs) h2⟩
 | .any,_,hs,_| .un,_,hs,_| .list _,_,hs,_| .nil0,_,hs,_| .agg _,_,hs,_| .sl ..,_,hs,_| .slk ..,_,hs,_| .ptr ..,_,hs,_| .lptr _,_,hs,_| .fn ..,_,hs,_| .ifc ..,_,hs,_=>by simp[AV.scalar] at hs
theorem cM.scalar {w w':World} {β β':Lb→Option Nat} {H H':Hp} {I I':Nat→Prop}:∀(xs:List AV) (vs:List Value),scalars xs=true→cM w β H I xs vs→cM w' β' H' I' xs vs
 |[],_,_,h=>by simpa[cM] using h
 |x::r,vs,hs,h=>by
  simp only[scalars,ady] at hs;simp only[cM] at h ⊢;obtain⟨v,us,h1,h2,h3⟩:=h;exact⟨v,us,h1,RV.scalar x v hs.1 h2,cM.scalar r us hs.2 h3⟩
end
theorem EJ (hr:bu K β env H a w) {I:Nat→Prop} (hI:∀k,Im K β H k→I k) (hB:∀l g,live H l→β l=some g→I g):∀(args dG:List AV) (vs:List Value),gT (Du H) args dG→ah dG=[]→cM w β H (Im K β H) args vs→cM w β Hp.none I dG vs
 |_,_,vs,.nil,_,hv=>by simpa[cM] using hv
 |_,_,vs,@gT.cons _ _ _ x y args dG QS ht,hl,hv=>by
  simp only[ah,afy] at hl;simp only[cM] at hv ⊢;obtain⟨v,us,h1,h2,h3⟩:=hv;refine⟨v,us,h1,?_,EJ hr hI hB _ _ us ht hl.2 h3⟩;have hk:mV w w (Im K β H) I:=⟨fun k hk hs=>⟨hI k hk,hs,rfl⟩⟩;cases QS with
  |same=>
   exact RV.mono x v {im:=hk.im,lb:=fun l hq=>by rw[hl.1] at hq;simp at hq} h2
  |row l sz i n xs hH qW B_=>
  simp only[RV] at h2;obtain⟨ad,c,rfl,g2,g3,g4,g5⟩:=h2;simp only[RV,kP];have hlen:((xs.drop i).take n).length=n:=by simp;omega
  rw[hlen];refine⟨ad,c,rfl,g2,g3,?_⟩;by_cases hn:n=0
  ·exact .inl hn
  right;rcases g5 ⟨_,hH⟩ with h6|⟨g,Sz,e1,e2,e3,e4⟩
  ·omega
  obtain⟨cur,e0,cap,k1,k2,k3,k4,k5⟩:=(hr.rows l _ hH).block e1;have pC:0<sz:=(hr.rows l _ hH).1;refine⟨g,i*sz,sz,e2,hB l g ⟨_,hH⟩ e1,(aed.1 k1).1,pC,pg _ _ _ (fun k y hy=> ?_)⟩;have vH:xs[i+k]?=some y:=by
   rw[adT] at hy;split at hy
   ·rwa[aeD] at hy
   simp at hy
  rw[ku];have BE:y.cells.length=sz:=by
   have:=(hr.rows l _ hH).2.1 (y.cells.map IV.gK) (by
    simp only[ar];exact afd (f:=fun y:IV=>y.cells.map IV.gK) (adu vH))
   simpa using this
  refine⟨BE.symm,nS _ _ _ (fun j z hz=> ?_)⟩;obtain⟨u,q1,q2⟩:=k5 (i+k) j (y.cells.map IV.gK) z.gK (by simp[ar,vH]) (by simp[hz]);refine⟨u,?_,z_ hk (B_ y (adu vH) z (adu hz)) q2⟩;rw[cell_of_row w g _ cur e0 (0,0) k1,←q1];congr 1;rw[ad_]
def Ky (hr:bu K β env H a w) {f:Nat} {args dG:List AV} {vs:List Value} {res:AV} (ha:gT (Du H) args dG) (hp:aw K.P K.G f dG res) (BN:res.scalar=true) (hv:cM w β H (Im K β H) args vs) :
   Calls K.P f vs.toArray w fun e w'=>∃v,e= .returned v∧rJ w w'∧RV w' β H (Im K β H) res v:=by
 obtain⟨h1,h2,h3⟩:=hp
 obtain⟨A,hA⟩:∃A:Nat→Prop,A=fun k=>Im K β H k∨∃l,live H l∧β l=some k:=⟨_,rfl⟩
 have hAI:∀k,A k→Im (fm K.P K.G w A β Hp.none) β Hp.none k:=fun k hk=>⟨.inl hk,fun l ⟨r,h⟩=>by simp[Hp.none] at h⟩
 have qD:bu (fm K.P K.G w A β Hp.none) β Env.any Hp.none wv w:=
   { defers := rfl,size := rfl
     mS:=fun n=>by simp[Env.any,RV]
     rows:=fun l r h=>by simp[Hp.none] at h
     own:=fun l g ⟨r,h⟩=>by simp[Hp.none] at h
     inj:=fun l l' g ⟨r,h⟩=>by simp[Hp.none] at h
     kL:=fun n=>by simp[Env.any,AV.aB]
     fk:=fun l r h=>by simp[Hp.none] at h
     frame:=⟨rfl,rfl,rfl,adw _,fun _ _ _=>rfl,fun _ _ h=>h⟩
     nF:=fun l ⟨r,h⟩=>by simp[fm,Hp.none] at h
     fr:=fun l g ⟨r,h⟩=>by simp[Hp.none] at h
     l_:=fun g cs hg=>by
       obtain⟨k1,k2,k3⟩:=hr.l_ g cs hg
       have kp:mV w w (Im K β H) (Im (fm K.P K.G w A β Hp.none) β Hp.none):=⟨fun k hk hs=>⟨hAI k (by rw[hA];exact .inl hk),hs,rfl⟩⟩
       exact⟨(kp.im g k1 k2).1,k2,gX.mono kp k1 k2 k3⟩}
 have MY:=EJ hr (I:=Im (fm K.P K.G w A β Hp.none) β Hp.none) (fun k hk=>hAI k (by rw[hA];exact .inl hk)) (fun l g hl hg=>hAI g (by rw[hA];exact .inr ⟨l,hl,hg⟩)) args dG vs ha h1 hv
 refine(h3 w A β vs qD MY).mono ?_
 rintro e w' ⟨v,x,H',β',rfl,rfl,k1,k2,_⟩
 have gw:rJ w w':=by
   refine⟨k1.frame.os,k1.frame.tape,k1.frame.output,k1.frame.size,fun k hk=>k1.frame.block k hk ?_⟩
   rintro⟨l,⟨r,h⟩,_⟩
   simp[Hp.none] at h
 exact⟨v,rfl,gw,RV.scalar _ _ BN k2⟩
open Classical in
def Kz (hr:bu K β env H a w) {f:Nat} {dG:List AV} {vs:List Value} {qm:Hp} {Q:AV→Hp→Prop} {ρ:Lb→Lb} (hs:jb K.P K.G f dG qm Q)
   (hH:∀l r,qm l= .live r→H (ρ l)= .live (cV ρ r)) (hLv:∀l,qm l≠ .unused→live qm l)
   (Vg:∀l l',live qm l→live qm l'→ρ l=ρ l'→l=l') (El:∀l∈ah dG,qm l≠ .unused) (TM:∀l,live qm l→l.fresh=false) (hrm:∀l r,qm l= .live r→∀cs∈r.els,∀q∈ah cs,qm q≠ .unused)
   (hv:cM w β H (Im K β H) (aY ρ dG) vs):Calls K.P f vs.toArray w fun e w'=>∃v x H',e= .returned v∧Q x H' ∧
     ∀(ρ':Lb→Lb) (m_:Hp),(∀l,live qm l→live H' l→ρ' l=ρ l) →
     (∀q r,m_ q= .live r→(H q= .live r∧∀l,live qm l→ρ l≠q)∨∃l r',H' l= .live r'∧ρ' l=q∧r=cV ρ' r') →
     (∀l l',live H' l→live H' l'→ρ' l=ρ' l'→l=l') →
     (∀q,H q≠ .unused→m_ q≠ .unused)→(∀l∈x.aB,m_ (ρ' l)≠ .unused) →
     (∀l r',H' l= .live r'→∀cs∈r'.els,∀q∈ah cs,m_ (ρ' q)≠ .unused) →
     (∀l,live H' l→live qm l∨(H (ρ' l)= .unused∧((ρ' l).fresh=true→l.fresh=true∨∀z,live qm z→(ρ z).fresh=true))) →
     (∀l,(l∈x.aB∨∃l1 r1 cs,H' l1= .live r1∧cs∈r1.els∧l∈ah cs)→live m_ (ρ' l)→live H' l) →
     ∃s_,bu K s_ env m_ a w'∧RV w' s_ m_ (Im K s_ m_) (e7 ρ' x) v:=by
 have bo:∀l,live qm l→live H (ρ l):=fun l ⟨r,h⟩=>⟨_,hH l r h⟩
 have kin:∀ls,vG w w β (fun l=>β (ρ l)) H qm (Im K β H) (Im (fm K.P K.G w (Im K β H) (fun l=>β (ρ l)) qm) (fun l=>β (ρ l)) qm) ρ ls:=fun ls=>
   { im := fun k hk hs => ⟨⟨.inl hk,fun l hl => hk.2 (ρ l) (bo l hl)⟩,hs,rfl⟩
     lb:=fun l _ hl=>⟨bo l hl,rfl,fun _ _ _ h=>h⟩}
 have qD:bu (fm K.P K.G w (Im K β H) (fun l=>β (ρ l)) qm) (fun l=>β (ρ l)) Env.any qm wv w:=
   { defers := rfl,size := rfl
     mS:=fun n=>by simp[Env.any,RV]
     rows:=fun l r h=>by
       obtain⟨h1,h2,h3⟩:=hr.rows (ρ l) _ (hH l r h)
       refine⟨h1,fun cs bS=> ?_,?_⟩
       · have:=h2 (aY ρ cs) (List.mem_map_of_mem bS)
         rwa[wy] at this
       cases hb:β (ρ l) with
       |none=>simp only[hb] at h3 ⊢;simpa[cV] using h3
       |some g=>
       simp only[hb] at h3 ⊢
       obtain⟨cur,e,cap,e1,e2,e3,e4,e5⟩:=h3
       refine⟨cur,e,cap,e1,e2,e3,by simpa[cV] using e4,fun i j cs x hi hj=> ?_⟩
       obtain⟨v,k1,k2⟩:=e5 i j (aY ρ cs) (e7 ρ x) (by simp[cV,hi]) (by rw[wx,hj];rfl)
       exact⟨v,k1,RV.e7 _ _ (kin _) k2⟩
     own:=fun l g hl hb=> .inl ⟨l,hl,hb⟩
     inj:=fun l l' g h1 h2 g1 g2=>Vg l l' h1 h2 (hr.inj _ _ g (bo l h1) (bo l' h2) g1 g2)
     kL:=fun n=>by simp[Env.any,AV.aB]
     fk:=hrm
     frame:=⟨rfl,rfl,rfl,Nat.le_refl _,fun _ _ _=>rfl,fun _ _ h=>h⟩
     l_:=fun g cs hg=>by
       obtain⟨k1,k2,k3⟩:=hr.l_ g cs hg
       exact⟨((kin []).im g k1 k2).1,k2,gX.mono (kin []).tomV k1 k2 k3⟩
     nF:=fun l hl=>⟨by obtain⟨r,h⟩:=hl;simp only[fm] at h;simp[h],fun _=>rfl⟩
     fr:=fun l g hl hf=>by rw[TM l hl] at hf;cases hf}
 refine(hs w (Im K β H) (fun l=>β (ρ l)) vs qD (cM.e7 _ _ (kin _) hv)).mono ?_
 rintro e w' ⟨v,x,H',β',rfl,hq,hc,Mt,Yh⟩
 refine⟨v,x,H',rfl,hq,?_⟩
 intro ρ' m_ p1 p2 p3 p4 p5 p6 p7 p8
 let s_:Lb→Option Nat:=fun q=>if h:∃l,live H' l∧ρ' l=q then β' (Classical.choose h) else β q
 have Eo:∀l,live H' l→s_ (ρ' l)=β' l:=by
   intro l hl
   have h:∃l',live H' l'∧ρ' l'=ρ' l:=⟨l,hl,rfl⟩
   have bS:=Classical.choose_spec h
   have e:Classical.choose h=l:=p3 _ _ bS.1 hl bS.2
   show(if h:∃l',live H' l'∧ρ' l'=ρ' l then β' (Classical.choose h) else β (ρ' l))=β' l
   rw[dif_pos h,e]
 have z6:∀q,live H q→(∀l,live qm l→ρ l≠q)→s_ q=β q:=by
   intro q xq vI
   have h:¬∃l,live H' l∧ρ' l=q:=by
     rintro⟨l,hl,rfl⟩
     rcases p7 l hl with h|⟨h,_⟩
     · exact vI l h (p1 l h hl).symm
     obtain⟨r,h'⟩:=xq;rw[h] at h';cases h'
   show(if h:∃l,live H' l∧ρ' l=q then β' (Classical.choose h) else β q)=β q
   rw[dif_neg h]
 have Dw:∀q,live m_ q→(live H q∧(∀l,live qm l→ρ l≠q)∧s_ q=β q)∨∃l,live H' l∧ρ' l=q∧s_ q=β' l:=by
   rintro q ⟨r,h⟩
   rcases p2 q r h with⟨h1,h2⟩|⟨l,r',h1,rfl,_⟩
   · exact .inl ⟨⟨r,h1⟩,h2,z6 q ⟨r,h1⟩ h2⟩
   exact .inr ⟨l,⟨r',h1⟩,rfl,Eo l ⟨r',h1⟩⟩
 have EK:∀l g,live H' l→β' l=some g→(∃l0,live qm l0∧β (ρ l0)=some g)∨w.heap.size≤g:=by
   intro l g hl hg
   rcases hc.own l g hl hg with h|h
   · exact .inl h
   exact .inr h
 have TN:∀l,live qm l→live H' l→β' l=β (ρ l):=fun l h1 h2=>(hc.nF l h1).2 h2
 have fH:∀k,k<w.heap.size→(∀l,live qm l→β (ρ l)≠some k)→w'.heap[k]?=w.heap[k]?:=by
   intro k hk vI
   refine hc.frame.block k hk ?_
   rintro⟨l,hl,hb⟩
   exact vI l hl hb
 have TD:∀k,Im K β H k→k<w.heap.size→Im K s_ m_ k∧k<w'.heap.size∧w'.heap[k]?=w.heap[k]?:=by
   intro k hk Kq
   refine⟨⟨hk.1,fun q xq hb=> ?_⟩,Nat.lt_of_lt_of_le Kq hc.frame.size,fH k Kq (fun l hl=>hk.2 _ (bo l hl))⟩
   rcases Dw q xq with⟨h1,h2,h3⟩|⟨l,h1,h2,h3⟩
   · rw[h3] at hb;exact hk.2 q h1 hb
   rw[h3] at hb
   rcases EK l k h1 hb with⟨l0,h4,h5⟩|h4
   · exact hk.2 _ (bo l0 h4) h5
   omega
 have Zh:∀q,H q≠ .unused→live m_ q→live H q∧s_ q=β q∧∀g S,β q=some g→qU w g=some S→qU w' g=some S:=by
   intro q hu xq
   refine⟨?_,?_,fun g S _ h=>hc.frame.bs g S h⟩
   · rcases Dw q xq with⟨h1,h2,h3⟩|⟨l,h1,h2,h3⟩
     · exact h1
     rcases p7 l h1 with h|⟨h,_⟩
     · have e:=p1 l h h1;rw[←h2,e];exact bo l h
     rw[h2] at h;exact absurd h hu
   rcases Dw q xq with⟨h1,h2,h3⟩|⟨l,h1,h2,h3⟩
   · exact h3
   rcases p7 l h1 with h|⟨h,_⟩
   · rw[h3,TN l h h1,←h2,p1 l h h1]
   rw[h2] at h;exact absurd h hu
 have ik:∀ls,(∀q∈ls,H q≠ .unused)→kR w w' β s_ H m_ (Im K β H) (Im K s_ m_) ls:=fun ls rH=>
   {im:=TD,lb:=fun q MZ Ep=>Zh q (rH q MZ) Ep}
 have Zi:mV w' w' (Im (fm K.P K.G w (Im K β H) (fun l=>β (ρ l)) qm) β' H') (Im K s_ m_):=⟨by
   intro k hk Kq
   refine⟨⟨?_,fun q xq hb=> ?_⟩,Kq,rfl⟩
   · rcases hk.1 with h|h
     · exact h.1
     exact .inr (Nat.le_trans hr.frame.size h)
   rcases Dw q xq with⟨h1,h2,h3⟩|⟨l,h1,h2,h3⟩
   · rw[h3] at hb
     rcases hk.1 with h|h
     · exact h.2 q h1 hb
     have:=hr.xz h1 hb
     have h':w.heap.size≤k:=h
     omega
   rw[h3] at hb
   exact hk.2 l h1 hb⟩
 have BE:∀l,(l∈x.aB∨∃l1 r1 cs,H' l1= .live r1∧cs∈r1.els∧l∈ah cs)→live m_ (ρ' l)→live H' l∧s_ (ρ' l)=β' l∧∀g S,β' l=some g→qU w' g=some S→qU w' g=some S:=by
   intro l h1 h2
   have h3:=p8 l h1 h2
   exact⟨h3,Eo l h3,fun _ _ _ h=>h⟩
 refine⟨s_,⟨hr.defers,hr.size,fun n=>RV.mono _ _ (ik _ (hr.kL n)) (hr.mS n),?_,?_,?_,fun n q xq=>p4 q (hr.kL n q xq),?_,?_,?_,?_,?_⟩,RV.BM x v Zi (fun l hl=>BE l (.inl hl)) Mt⟩
 · intro q r hqr
   rcases p2 q r hqr with⟨h1,h2⟩|⟨l,r',h1,rfl,rfl⟩
   · obtain⟨e1,e2,e3⟩:=hr.rows q r h1
     refine⟨e1,e2,?_⟩
     rw[z6 q ⟨r,h1⟩ h2]
     cases hb:β q with
     |none=>simpa only[hb] using e3
     |some g=>
     simp only[hb] at e3 ⊢
     obtain⟨cur,e,cap,f1,f2,f3,f4,f5⟩:=e3
     have hg:g<w.heap.size:=(Array.getElem?_eq_some_iff.1 f1).1
     refine⟨cur,e,cap,(fH g hg (fun l hl hbl=>h2 l hl (hr.inj _ _ g (bo l hl) ⟨r,h1⟩ hbl hb))).trans f1,f2,f3,f4,fun i j cs y hi hj=> ?_⟩
     obtain⟨u,k1,k2⟩:=f5 i j cs y hi hj
     exact⟨u,k1,RV.mono _ _ (ik _ (fun p hp=>hr.fk q r h1 cs (List.mem_of_getElem? hi) p (gL _ _ _ hj p hp))) k2⟩
   obtain⟨e1,e2,e3⟩:=hc.rows l r' h1
   refine⟨e1,?_,?_⟩
   · intro cs bS
     simp only[cV,List.mem_map] at bS
     obtain⟨EL,h0,rfl⟩:=bS
     rw[wy];exact e2 EL h0
   rw[Eo l ⟨r',h1⟩]
   cases hb:β' l with
   |none=>simp only[hb] at e3;simp[cV,e3]
   |some g=>
   simp only[hb] at e3 ⊢
   obtain⟨cur,e,cap,f1,f2,f3,f4,f5⟩:=e3
   refine⟨cur,e,cap,f1,f2,f3,by simpa[cV] using f4,fun i j cs y hi hj=> ?_⟩
   simp only[cV,List.getElem?_map,Option.map_eq_some_iff] at hi
   obtain⟨EL,hi,rfl⟩:=hi
   rw[wx,Option.map_eq_some_iff] at hj
   obtain⟨y0,hj,rfl⟩:=hj
   obtain⟨u,k1,k2⟩:=f5 i j EL y0 hi hj
   exact⟨u,k1,RV.BM _ _ Zi (fun p hp=>BE p (.inr ⟨l,r',EL,h1,List.mem_of_getElem? hi,gL _ _ _ hj p hp⟩)) k2⟩
 · intro q g xq hb
   rcases Dw q xq with⟨h1,h2,h3⟩|⟨l,h1,h2,h3⟩
   · rw[h3] at hb;exact hr.own q g h1 hb
   rw[h3] at hb
   rcases EK l g h1 hb with⟨l0,h4,h5⟩|h4
   · exact hr.own _ g (bo l0 h4) h5
   exact .inr (Nat.le_trans hr.frame.size h4)
 · intro q1 q2 g MZ Ep g1 g2
   rcases Dw q1 MZ with⟨h1,h2,h3⟩|⟨l,h1,h2,h3⟩
   · rw[h3] at g1
     rcases Dw q2 Ep with⟨k1,k2,k3⟩|⟨l',k1,k2,k3⟩
     · rw[k3] at g2;exact hr.inj q1 q2 g h1 k1 g1 g2
     rw[k3] at g2
     rcases EK l' g k1 g2 with⟨l0,h4,h5⟩|h4
     · exact absurd (hr.inj _ _ g (bo l0 h4) h1 h5 g1) (h2 l0 h4)
     have:=hr.xz h1 g1;omega
   rw[h3] at g1
   rcases Dw q2 Ep with⟨k1,k2,k3⟩|⟨l',k1,k2,k3⟩
   · rw[k3] at g2
     rcases EK l g h1 g1 with⟨l0,h4,h5⟩|h4
     · exact absurd (hr.inj _ _ g (bo l0 h4) k1 h5 g2) (k2 l0 h4)
     have:=hr.xz k1 g2;omega
   rw[k3] at g2
   rw[←h2,←k2,hc.inj l l' g h1 k1 g1 g2]
 · intro q r hqr cs bS p hp
   rcases p2 q r hqr with⟨h1,h2⟩|⟨l,r',h1,rfl,rfl⟩
   · exact p4 p (hr.fk q r h1 cs bS p hp)
   simp only[cV,List.mem_map] at bS
   obtain⟨EL,h0,rfl⟩:=bS
   rw[q_,List.mem_map] at hp
   obtain⟨p0,hp0,rfl⟩:=hp
   exact p6 l r' h1 EL h0 p0 hp0
 · refine⟨hc.frame.os.trans hr.frame.os,hc.frame.tape.trans hr.frame.tape,hc.frame.output.trans hr.frame.output,Nat.le_trans hr.frame.size hc.frame.size,fun k hk hd=> ?_,fun k S hS=>hc.frame.bs k S (hr.frame.bs k S hS)⟩
   refine(fH k (Nat.lt_of_lt_of_le hk hr.frame.size) (fun l hl hb=> ?_)).trans (hr.frame.block k hk hd)
   rcases hr.own _ k (bo l hl) hb with h|h
   · exact hd h
   omega
 · intro g cs hg
   obtain⟨h1,h2,h3⟩:=hr.l_ g cs hg
   obtain⟨k1,k2,k3⟩:=TD g h1 h2
   exact⟨k1,k2,gX.mono (ik [] (by simp)).tomV h1 h2 h3⟩
 · intro l hl
   obtain⟨h1,h2⟩:=hr.nF l hl
   refine⟨p4 l h1,fun h=> ?_⟩
   obtain⟨k1,k2,_⟩:=Zh l h1 h
   rw[k2];exact h2 k1
 intro q g xq hf hb
 rcases Dw q xq with⟨h1,h2,h3⟩|⟨l,h1,h2,h3⟩
 · rw[h3] at hb;exact hr.fr q g h1 hf hb
 rw[h3] at hb
 rcases p7 l h1 with h|⟨h,h'⟩
 · rw[TN l h h1] at hb
   have e:ρ l=q:=by rw[←h2,p1 l h h1]
   rw[e] at hb
   exact hr.fr q g (e▸bo l h) hf hb
 rcases h' (by rw[h2];exact hf) with h''|h''
 · exact Nat.le_trans hr.frame.size (hc.fr l g h1 h'' hb)
 rcases EK l g h1 hb with⟨l0,h4,h5⟩|h4
 · exact hr.fr _ g (bo l0 h4) (h'' l0 h4) h5
 exact Nat.le_trans hr.frame.size h4
end
end Go.Am

namespace Go.Am
open Go Go.RowKit
section
variable {K:Kx} {β:Lb→Option Nat} {env:Env} {H:Hp} {a:Act} {w:World}
def Cb (K:Kx) (env:Env) (d:Option Nat) (k:AV→Hp→Prop) (a':Act) (w':World):Prop:=∃x H',k x H'∧∃β',bu K β' (iw env d x) H' a' w'
def jo (hr:bu K β env H a w) {o:Oper} (hd:∀n,o.dst=some n→n<K.N) {x:AV} {k:AV→Hp→Prop} {Q:Exit→Act→World→Prop} (h:bD K β H a w o x) (hk:k x H) :
  o.wp K.P a w (Cb K env o.dst k) Q:=by
 obtain⟨v,w',h1,h2,h3,h4⟩:=h;unfold Oper.wp;rw[h1];exact⟨x,H,hk,β,hr.step h2 hd (fun _=>h3) (fun _=>h4)⟩
def jq {o:Oper} {x:AV} {H':Hp} {k:AV→Hp→Prop} {Q:Exit→Act→World→Prop} (h:qk K env a w o o.dst x H') (hk:k x H') :
  o.wp K.P a w (Cb K env o.dst k) Q:=by
 obtain⟨nx,w',β',v,h1,h2,h3⟩:=h;unfold Oper.wp;rw[h1];rcases h2 with rfl|⟨rfl,rfl⟩
 ·exact⟨x,H',hk,β',h3⟩
 exact⟨x,H',hk,β',h3⟩
def I4 (hr:bu K β env H a w) {o:Oper} (hd:∀n,o.dst=some n→n<K.N) {f:Nat} {args:List AV} {vs:List Value} {k:AV→Hp→Prop} {Q:Exit→Act→World→Prop}
  (rO:(execOp a.eval o).run K.P w= .ok (.enter f vs.toArray) w) (hv:cM w β H (Im K β H) args vs) (hc:sM ⟨K.P,K.G,K.N⟩ f args H k):o.wp K.P a w (Cb K env o.dst k) Q:=by
 unfold Oper.wp;rw[rO];rcases hc with⟨res,hp,hk⟩|⟨dG,res,ha,hp,BN,hk⟩|⟨ρ,qm,dG,Q',h1,rfl,h3,h4,h5,h6,h6',h7,h8⟩
 ·refine(xE hr hp hv trivial).mono ?_;rintro e w' ⟨v,rfl,gw,hx⟩;exact⟨res,H,hk,β,hr.step gw hd (fun _=>hx) (fun _ l hl=>by rw[hp.2.1] at hl;simp at hl)⟩
 ·refine(Ky hr ha hp BN hv).mono ?_;rintro e w' ⟨v,rfl,gw,hx⟩;exact⟨res,H,hk,β,hr.step gw hd (fun _=>hx) (fun _ l hl=>by rw[hp.2.1] at hl;simp at hl)⟩
 refine(Kz hr h1 h3 h4 h5 h6 h6' h7 hv).mono ?_;rintro e w' ⟨v,x,H',rfl,hq,fX⟩;obtain⟨ρ',m_,p1,p2,p3,p4,p5,p6,p7,p8,hk⟩:=h8 x H' hq;obtain⟨s_,q1,q2⟩:=fX ρ' m_ p1 p2 p3 p4 p5 p6 p7 p8;exact⟨_,m_,hk,s_,q1.step (Below.refl _ _) hd (fun _=>q2) (fun _ l hl=>by
  rw[Dv,adY] at hl;obtain⟨l0,h0,rfl⟩:=hl;exact p5 l0 h0)⟩
def cB {α γ:Type} {x:Option α} {f:α→Option γ} {y:γ} (h:x.bind f=some y):∃a,x=some a∧f a=some y:=adx.1 h
def dr {α γ:Type} {x:Option α} {f:α→γ} {y:γ} (h:x.map f=some y):∃a,x=some a∧f a=y:=ag4.1 h
def M0 {i:eF} {x:O} (h:i.pG= .box x):i= .box x∨i= .BK x:=by
 cases i<;>simp[eF.pG] at h<;>simp[h]
def M1 {i:eF} {s x:O} {sz b:Nat} (h:i.pG= .app s x sz b):i= .app s x sz b∨i= .xw s x sz b:=by
 cases i<;>simp[eF.pG] at h<;>simp[h]
def KA {i:eF} {n sz:Nat} {z:List AV} {ps:List (Nat×O)} (h:i.pG= .lits n sz z ps):i= .lits n sz z ps∨(n=1∧i= .ou sz z ps):=by
 cases i<;>simp[eF.pG] at h<;>simp[h]
def eF.Vh:eF→Bool
 | .box _| .app ..| .lits ..=>true
 |_=>false
def hY {i j:eF} (h:i.pG=j) (hj:j.Vh=false):i=j:=by
 subst h;cases i<;>first|rfl|(simp[eF.pG,eF.Vh] at hj)
def eF.plain:eF→Bool
 | .load ..| .box _| .new _| .store ..| .app ..| .call ..| .jH ..| .Ej ..| .xu ..| .Kk ..| .cap ..| .Ek ..| .o3 ..| .zO ..| .ou ..=>false
 |_=>true
def ra {S:St} {d:Option Nat} {i:eF} {k:AV→Hp→Prop} (h:i.plain=true) (ha:cT S d i env H k):∃x,aj i env=some x∧k x H:=by
 cases i<;>simp[eF.plain] at h<;>exact ha
def BO (d:Nat) {P:Program} {t e:TypeId} (ht:P.underlying t=some (.slice e)) (a:Option Addr) (n c:Nat) :
  (Op.equalIn (d+1) t (.slice a n c) (.slice none 0 0)).run P w= .ok a.isNone w:=by
 cases a<;>simp[Op.equalIn,run_underlying ht]
def Zj (hr:bu K β env H a w) {o:Oper} {op:BinOp} {t t2 e:TypeId} {x y:Operand} {x':O} {n:Bool} (ho:o.op= .binOp op t x y t2) (hn:sH op=some n)
  (ht:K.P.underlying t=some (.slice e)) (hc:GQ y=true) (hx:co K.G x=some x') {bs:List Bool} (hz:BL (ev env x')=some bs):∃b,b∈bs∧bD K β H a w o (.bool (n ^^ b)):=by
 have h:=hr.ev hx;have hy:a.eval y= .slice none 0 0:=by
  unfold GQ at hc;split at hc
  ·rfl
  cases hc
 have key:∀(ad:Option Addr) (m c:Nat),a.eval x= .slice ad m c→ad.isNone∈bs→∃b,b∈bs∧bD K β H a w o (.bool (n ^^ b)):=by
  intro ad m c h3 h4;refine⟨ad.isNone,h4,bD.same (v:= .bool (n ^^ ad.isNone)) ?_ (by simp[RV]) (by simp[AV.aB])⟩;have h5:(Op.equal t (.slice ad m c) (.slice none 0 0)).run K.P w= .ok ad.isNone w:=BO 9999 ht ad m c;rcases qZ hn with⟨rfl,rfl⟩|⟨rfl,rfl⟩
  ·simp[execOp,ho,h3,hy,eqGuard,binOp,h5]
  simp[execOp,ho,h3,hy,eqGuard,binOp,h5]
 have QT:∀b:Bool,b∈[true,false]:=by intro b;cases b<;>simp
 cases e1:ev env x'<;>rw[e1] at h hz
 case list xs=>
  simp only[RV,kP] at h;obtain⟨ad,c,h1,_,_,h4⟩:=h;cases xs with
  |nil=>simp only[BL,jl] at hz;subst hz;exact key _ _ _ h1 (QT _)
  |cons y0 r=>
  simp only[BL,jl] at hz;subst hz;rcases h4 with h4|⟨b,o',sz,h4,_⟩
  ·simp at h4
  refine key _ _ _ h1 ?_;rw[h4];simp
 case nil0=>
  simp only[RV] at h;obtain⟨ad,h1⟩:=h;simp only[BL,jl] at hz;subst hz;exact key _ _ _ h1 (QT _)
 case slk l sz i m c=>
  simp only[RV] at h;obtain⟨ad,h1,h2,_,h4,_⟩:=h;simp only[BL,jl] at hz;subst hz;refine key _ _ _ h1 ?_;by_cases hm:0<m
  ·rw[adv hm];have:=h4 (by omega);cases ad with
   |none=>simp at this
   |some q=>simp
  rw[ag8 hm];exact QT _
 case sl l sz i m=>
  simp only[RV] at h;obtain⟨ad,c,h1,_,_,h4,_⟩:=h;simp only[BL,jl] at hz;subst hz;refine key _ _ _ h1 ?_;by_cases hm:0<m
  ·rw[adv hm];have:=h4 hm;cases ad with
   |none=>simp at this
   |some q=>simp
  rw[ag8 hm];exact QT _
 all_goals simp[BL] at hz
set_option maxHeartbeats 1000000 in
def G9 (hr : bu K β env H a w) {o : Oper} {i : eF} {k : AV → Hp → Prop} {Q : Exit → Act → World → Prop} (hd : ∀ n,o.dst = some n → n < K.N) (hc : MJ K.P K.G o = some i.pG)
   (ha : cT ⟨K.P,K.G,K.N⟩ o.dst i env H k) : o.wp K.P a w (Cb K env o.dst k) Q := by
 have plain : ∀ j : eF,i.pG = j → j.Vh = false → j.plain = true → (∀ x,aj j env = some x → bD K β H a w o x) → o.wp K.P a w (Cb K env o.dst k) Q := by
   intro j hj Yi hp hs
   have e := hY hj Yi
   subst e
   obtain ⟨x,h1,h2⟩ := ra hp ha
   exact jo hr hd (hs x h1) h2
 unfold MJ at hc
 split at hc
 · rename_i x ho
   obtain ⟨y,h1,h2⟩ := dr hc
   exact plain _ h2.symm rfl rfl (fun z hz => by simp only [aj,Option.some.injEq] at hz; subst hz; exact Tx hr (.inl ho) h1)
 · rename_i x ho
   obtain ⟨y,h1,h2⟩ := dr hc
   exact plain _ h2.symm rfl rfl (fun z hz => by simp only [aj,Option.some.injEq] at hz; subst hz; exact Tx hr (.inr ho) h1)
 · rename_i c x y ho
   obtain ⟨c',h1,hc⟩ := cB hc
   obtain ⟨x',h2,hc⟩ := cB hc
   obtain ⟨y',h3,h4⟩ := dr hc
   refine plain _ h4.symm rfl rfl (fun z hz => ?_)
   simp only [aj] at hz
   split at hz
   · rename_i t ht
     simp only [Option.some.injEq] at hz; subst hz
     exact UN hr ho h1 h2 h3 ht
   · simp at hz
 · rename_i t x f ho
   split at hc
   · rename_i fs ht
     obtain ⟨fd,h1,hc⟩ := cB hc
     obtain ⟨s,h2,hc⟩ := cB hc
     split at hc
     · simp at hc
     · rename_i Qq
       obtain ⟨x',h3,h4⟩ := dr hc
       exact plain _ h4.symm rfl rfl (fun z hz => YJ hr ho ht h1 h2 Qq h3 hz)
   · simp at hc
 · rename_i t x j ho
   split at hc
   · rename_i e ht
     obtain ⟨s,h2,hc⟩ := cB hc
     obtain ⟨x',h3,hc⟩ := cB hc
     obtain ⟨j',h4,h5⟩ := dr hc
     exact plain _ h5.symm rfl rfl (fun z hz => YL hr ho ht h2 h3 h4 hz)
   · rename_i n e ht
     obtain ⟨s,h2,hc⟩ := cB hc
     obtain ⟨x',h3,hc⟩ := cB hc
     obtain ⟨j',h4,h5⟩ := dr hc
     exact plain _ h5.symm rfl rfl (fun z hz => YK hr ho ht h2 h3 h4 hz)
   · simp at hc
 · rename_i t x j ho
   split at hc
   · rename_i ht
     obtain ⟨x',h3,hc⟩ := cB hc
     obtain ⟨j',h4,h5⟩ := dr hc
     exact plain _ h5.symm rfl rfl (fun z hz => YM hr ho ht h3 h4 hz)
   · simp at hc
 · rename_i t x lo hi mx ho
   split at hc
   · rename_i e ht
     obtain ⟨s,h2,hc⟩ := cB hc
     obtain ⟨x',h3,hc⟩ := cB hc
     obtain ⟨Dl,h4,hc⟩ := cB hc
     obtain ⟨jz,h5,hc⟩ := cB hc
     obtain ⟨mx',h6,h7⟩ := dr hc
     exact plain _ h7.symm rfl rfl (fun z hz => YO hr ho ht h2 h3 h4 h5 h6 hz)
   · rename_i ht
     split at hc
     · simp at hc
     · rename_i GU
       obtain ⟨x',h3,hc⟩ := cB hc
       obtain ⟨Dl,h4,hc⟩ := cB hc
       obtain ⟨jz,h5,h7⟩ := dr hc
       have : mx = none := by cases mx <;> simp_all
       subst this
       exact plain _ h7.symm rfl rfl (fun z hz => UR hr ho ht h3 h4 h5 hz)
   · rename_i n e ht
     split at hc
     · rename_i TO
       simp only [Bool.and_eq_true,Option.isNone_iff_eq_none] at TO
       obtain ⟨⟨rfl,rfl⟩,rfl⟩ := TO
       obtain ⟨s,h2,hc⟩ := cB hc
       split at hc
       · simp at hc
       · rename_i Qq
         obtain ⟨x',h3,h5⟩ := dr hc
         exact plain _ h5.symm rfl rfl (fun z hz => Vd hr ho ht h2 Qq h3 hz)
     · simp at hc
   · simp at hc
 · -- makeSlice
   rename_i t n c ho
   split at hc
   · rename_i e ht
     split at hc
     · rename_i ti yw
       split at hc
       · rename_i z hz
         split at hc
         · rename_i eD
           obtain ⟨zs,h1,hc⟩ := cB hc
           obtain ⟨n',h2,hc⟩ := cB hc
           obtain ⟨c',h3,h5⟩ := dr hc
           have e5 := hY h5.symm rfl
           subst e5
           obtain ⟨q,g1,y,H',g2,g3⟩ := ha
           exact jq (by rw [g1]; exact Zf hr (hd q g1) ho ht yw hz eD.1 eD.2.1 eD.2.2 h1 h2 h3 g2) g3
         · simp at hc
       · simp at hc
     · simp at hc
   · simp at hc
 · rename_i op t x y t2 ho
   split at hc
   · obtain ⟨x',h3,hc⟩ := cB hc
     obtain ⟨y',h4,h5⟩ := dr hc
     exact plain _ h5.symm rfl rfl (fun z hz => Ty hr ho h3 h4 hz)
   · obtain ⟨x',h3,hc⟩ := cB hc
     obtain ⟨y',h4,h5⟩ := dr hc
     exact plain _ h5.symm rfl rfl (fun z hz => Ty hr ho h3 h4 hz)
   · rename_i ht
     obtain ⟨n,h2,hc⟩ := cB hc
     obtain ⟨x',h3,hc⟩ := cB hc
     obtain ⟨y',h4,h5⟩ := dr hc
     exact plain _ h5.symm rfl rfl (fun z hz => Y2 hr ho h2 ht h3 h4 hz)
   · rename_i e ht
     obtain ⟨n,h2,hc⟩ := cB hc
     obtain ⟨x',h3,hc⟩ := cB hc
     obtain ⟨y',h4,h5⟩ := dr hc
     exact plain _ h5.symm rfl rfl (fun z hz => Y3 hr ho h2 ht h3 h4 hz)
   · rename_i ms ht
     split at hc
     · rename_i M3
       obtain ⟨n,h2,hc⟩ := cB hc
       obtain ⟨x',h3,hc⟩ := cB hc
       obtain ⟨y',h4,h5⟩ := dr hc
       exact plain _ h5.symm rfl rfl (fun z hz => Y4 hr ho h2 ht M3 h3 hz)
     · simp at hc
   · rename_i fs ht
     obtain ⟨ks,h1,hc⟩ := cB hc
     obtain ⟨n,h2,hc⟩ := cB hc
     obtain ⟨x',h3,hc⟩ := cB hc
     obtain ⟨y',h4,h5⟩ := dr hc
     exact plain _ h5.symm rfl rfl (fun z hz => U2 hr ho h2 h1 h3 h4 hz)
   · -- a slice,held against nil
     rename_i e ht
     split at hc
     · rename_i M3
       obtain ⟨n,h2,hc⟩ := cB hc
       obtain ⟨x',h3,h5⟩ := dr hc
       have e5 := hY h5.symm rfl
       subst e5
       obtain ⟨bs,g1,g2⟩ := ha
       obtain ⟨b,hb,mZ⟩ := Zj hr ho h2 ht M3 h3 g1
       exact jo hr hd mZ (g2 b hb)
     · simp at hc
   · simp at hc
 · rename_i t x ho
   obtain ⟨x',h3,h5⟩ := dr hc
   exact plain _ h5.symm rfl rfl (fun z hz => YP hr ho h3 hz)
 · rename_i t x ho
   obtain ⟨x',h3,h5⟩ := dr hc
   exact plain _ h5.symm rfl rfl (fun z hz => YQ hr ho h3 hz)
 · rename_i x j ho
   obtain ⟨x',h3,h5⟩ := dr hc
   exact plain _ h5.symm rfl rfl (fun z hz => YT hr ho h3 hz)
 · rename_i x ho
   obtain ⟨x',h3,h5⟩ := dr hc
   exact plain _ h5.symm rfl rfl (fun z hz => US hr ho h3 hz)
 · -- box
   rename_i t x ho
   obtain ⟨x',h3,h5⟩ := dr hc
   rcases M0 h5.symm with rfl | rfl
   · obtain ⟨n,g1,g2,g3,g4,g5,g6⟩ := ha
     exact jq (by rw [g1]; exact Y9 hr (hd n g1) ho h3 g3 g4 g5 g2) g6
   · obtain ⟨y,h1,h2⟩ := ra rfl ha
     exact jo hr hd (UW hr ho h3 h1) h2
 · rename_i f first cap ho
   split at hc
   · rename_i hf
     obtain ⟨cs,h3,h5⟩ := dr hc
     exact plain _ h5.symm rfl rfl (fun z hz => YU hr ho hf h3 hz)
   · obtain ⟨qs,h2,hc⟩ := cB hc
     obtain ⟨cs,h3,h5⟩ := dr hc
     exact plain _ h5.symm rfl rfl (fun z hz => YV hr ho h2 h3 hz)
 · -- load
   rename_i t x ho
   obtain ⟨m,h1,hc⟩ := cB hc
   obtain ⟨x',h3,h5⟩ := dr hc
   have e := hY h5.symm rfl
   subst e
   rcases ha with ⟨y,g1,g2⟩ | ⟨y,g1,g2⟩
   · exact jo hr hd (QI hr ho h1 h3 g1) g2
   · exact jo hr hd (U5 hr ho h1 h3 g1) g2
 · -- alloc
   rename_i t ho
   split at hc
   · rename_i ti yw
     split at hc
     · rename_i z hz
       split at hc
       · obtain ⟨cs,h3,h5⟩ := dr hc
         have e := hY h5.symm rfl
         subst e
         obtain ⟨n,g1,g2,g3,g4,g5⟩ := ha
         exact jq (by rw [g1]; exact QL hr (hd n g1) ho yw hz h3 g3 g4 g2) g5
       · simp at hc
     · simp at hc
   · simp at hc
 · -- store
   rename_i t x y ho
   obtain ⟨s,h1,hc⟩ := cB hc
   obtain ⟨x',h3,hc⟩ := cB hc
   obtain ⟨y',h4,h5⟩ := dr hc
   have e := hY h5.symm rfl
   subst e
   obtain ⟨g1,H',g2,g3⟩ := ha
   exact jq (by rw [g1]; exact QM hr ho h1 h3 h4 g2) g3
 · -- convert
   rename_i s d x ho
   split at hc
   · rename_i k1 k2 hs QU
     obtain ⟨x',h3,h5⟩ := dr hc
     exact plain _ h5.symm rfl rfl (fun z hz => YW hr ho hs QU h3 hz)
   · rename_i hs QU
     obtain ⟨x',h3,h5⟩ := dr hc
     exact plain _ h5.symm rfl rfl (fun z hz => YX hr ho hs QU h3 hz)
   · rename_i e hs QU
     split at hc
     · rename_i he
       obtain ⟨x',h3,h5⟩ := dr hc
       exact plain _ h5.symm rfl rfl (fun z hz => Y5 hr ho hs QU he h3 hz)
     · simp at hc
   · rename_i e hs QU
     split at hc
     · rename_i he
       obtain ⟨x',h3,h5⟩ := dr hc
       exact plain _ h5.symm rfl rfl (fun z hz => Y7 hr ho hs he QU h3 hz)
     · simp at hc
   · simp at hc
 · rename_i t x ho
   split at hc
   · simp at hc
   · rename_i d hni ht
     obtain ⟨x',h3,h5⟩ := dr hc
     exact plain _ h5.symm rfl rfl (fun z hz => UT hr ho ht (fun ms e => hni ms e) h3 hz)
   · simp at hc
 · rename_i t x f ho
   split at hc
   · rename_i fs ht
     obtain ⟨fd,h1,hc⟩ := cB hc
     obtain ⟨m,h2,hc⟩ := cB hc
     obtain ⟨x',h3,h5⟩ := dr hc
     exact plain _ h5.symm rfl rfl (fun z hz => U1 hr ho ht h1 h2 h3 hz)
   · simp at hc
 · -- buildSlice
   rename_i t n ps ho
   split at hc
   · rename_i e ht
     split at hc
     · rename_i ti yw
       split at hc
       · rename_i z hz
         split at hc
         · rename_i eD
           obtain ⟨zs,h1,hc⟩ := cB hc
           obtain ⟨xs,h2,h5⟩ := dr hc
           rcases KA h5.symm with rfl | ⟨rfl,rfl⟩
           · obtain ⟨y,g1,g2⟩ := ra rfl ha
             exact jo hr hd (UY hr ho ht yw hz eD.1 eD.2.1 eD.2.2 h1 h2 g1) g2
           · obtain ⟨q,g1,y,H',g2,g3⟩ := ha
             exact jq (by rw [g1]; exact QR hr (hd q g1) ho ht yw hz eD.1 eD.2.1 eD.2.2 h1 h2 g2) g3
         · simp at hc
       · simp at hc
     · simp at hc
   · simp at hc
 · -- build
   rename_i t ps ho
   split at hc
   · rename_i ti fs yw ht
     split at hc
     · rename_i z pl hz EA
       obtain ⟨zs,h1,hc⟩ := cB hc
       obtain ⟨xs,h2,hc⟩ := cB hc
       obtain ⟨qs,h3,h5⟩ := dr hc
       exact plain _ h5.symm rfl rfl (fun y hy => Y0 hr ho ht yw hz EA h1 h2 h3 hy)
     · simp at hc
   · simp at hc
 · -- call
   rename_i c ho
   split at hc
   · -- len
     rename_i qF
     split at hc
     · rename_i x h1 h2
       obtain ⟨x',h3,h5⟩ := dr hc
       exact plain _ h5.symm rfl rfl (fun z hz => UP hr ho qF h1 h2 h3 hz)
     · rename_i x e h1 h2
       obtain ⟨x',h3,h5⟩ := dr hc
       exact plain _ h5.symm rfl rfl (fun z hz => YN hr ho qF h1 h2 h3 hz)
     · simp at hc
   · -- max
     rename_i qF
     split at hc
     · rename_i x y h1
       obtain ⟨x',h3,hc⟩ := cB hc
       obtain ⟨y',h4,h5⟩ := dr hc
       exact plain _ h5.symm rfl rfl (fun z hz => YR hr ho qF h1 h3 h4 hz)
     · simp at hc
   · -- min
     rename_i qF
     split at hc
     · rename_i x y h1
       obtain ⟨x',h3,hc⟩ := cB hc
       obtain ⟨y',h4,h5⟩ := dr hc
       exact plain _ h5.symm rfl rfl (fun z hz => YS hr ho qF h1 h3 h4 hz)
     · simp at hc
   · -- append
     rename_i qF
     split at hc
     · rename_i s x st xt h1 h2
       split at hc
       · rename_i e mZ
         split at hc
         · rename_i ti yw
           split at hc
           · rename_i eD
             simp only [Bool.and_eq_true,beq_iff_eq,decide_eq_true_eq] at eD
             obtain ⟨⟨q1,q2⟩,q3⟩ := eD
             obtain ⟨z,hz,Cc⟩ := dr q1
             obtain ⟨s',h3,hc⟩ := cB hc
             obtain ⟨x',h4,h5⟩ := dr hc
             obtain ⟨dx,En,GH⟩ : ∃ dx,K.P.underlying xt = some dx ∧ (dx = .string ∨ ∃ e2,dx = .slice e2) := by
               unfold YH at q3
               split at q3
               · rename_i hh; exact ⟨_,hh,.inl rfl⟩
               · rename_i hh; exact ⟨_,hh,.inr ⟨_,rfl⟩⟩
               · simp at q3
             rcases M1 h5.symm with rfl | rfl
             · obtain ⟨n,g1,y,H',g3,g4⟩ := ha
               exact jq (by rw [g1]; exact Za hr (hd n g1) ho qF h1 h2 mZ yw hz Cc q2 En GH h3 h4 g3) g4
             · obtain ⟨y,g3,g4⟩ := ra rfl ha
               exact jo hr hd (Ve hr ho qF h1 h2 mZ yw hz Cc q2 En GH h3 h4 g3) g4
           · split at hc
             · rename_i k0 z En hz
               split at hc
               · rename_i z7
                 obtain ⟨zs,h5,hc⟩ := cB hc
                 obtain ⟨s',h3,hc⟩ := cB hc
                 obtain ⟨x',h4,h6⟩ := dr hc
                 have e6 := hY h6.symm rfl
                 subst e6
                 obtain ⟨n,g1,y,H',g3,g4⟩ := ha
                 exact jq (by rw [g1]; exact Vf hr (hd n g1) ho qF h1 h2 mZ yw hz z7.1 z7.2.1 z7.2.2 En h5 h3 h4 g3) g4
               · simp at hc
             · simp at hc
         · simp at hc
       · simp at hc
     · simp at hc
   · -- cap
     rename_i qF
     split at hc
     · rename_i x e h1 h2
       obtain ⟨x',h3,h5⟩ := dr hc
       have e5 := hY h5.symm rfl
       subst e5
       obtain ⟨R,g1,g2⟩ := ha
       obtain ⟨m,q1,q2,q3⟩ := Zg hr ho qF h1 h2 h3 g1
       exact jo hr hd q3 (g2 m q1 q2)
     · simp at hc
   · -- copy
     rename_i qF
     split at hc
     · rename_i dd x dt xt h1 h2
       split at hc
       · rename_i e Yg
         obtain ⟨s,h3,hc⟩ := cB hc
         split at hc
         · simp at hc
         · rename_i Qq
           obtain ⟨d',h4,hc⟩ := cB hc
           obtain ⟨x',h6,h5⟩ := dr hc
           have e5 := hY h5.symm rfl
           subst e5
           obtain ⟨y,H',g1,g2⟩ := ha
           exact jq (Zd hr hd ho qF h1 h2 Yg h3 Qq h4 h6 g1) g2
       · simp at hc
     · simp at hc
   · -- clear
     rename_i qF
     split at hc
     · rename_i x e h1 h2
       split at hc
       · rename_i ti yw
         split at hc
         · rename_i z hz
           split at hc
           · rename_i eD
             obtain ⟨zs,h3,hc⟩ := cB hc
             obtain ⟨x',h4,h5⟩ := dr hc
             have e5 := hY h5.symm rfl
             subst e5
             obtain ⟨H',g1,g2⟩ := ha
             exact jq (Ze hr hd ho qF h1 h2 yw hz eD.1 eD.2 h3 h4 g1) g2
           · simp at hc
         · simp at hc
       · simp at hc
     · simp at hc
   · simp at hc
   · simp at hc
   · -- a function
     rename_i f qF
     split at hc
     · rename_i hb
       obtain ⟨xs,h3,h5⟩ := dr hc
       have e := hY h5.symm rfl
       subst e
       obtain ⟨fn, hf, vi⟩ : ∃ fn, K.P.funcs[f]? = some fn ∧ (fn.body.isSome = true ∧ (fn.name != "runtime.NumGoroutine") = true) := by
         unfold jQ at hb
         cases hq : K.P.funcs[f]? with
         | none => simp [hq] at hb
         | some fn => simp only [hq,Option.any_some,Bool.and_eq_true] at hb; exact ⟨fn,rfl,hb⟩
       refine I4 hr hd (vs := c.args.toList.map a.eval) ?_ (qB hr _ _ h3) ha
       have h1 : ¬ fn.name = "runtime.NumGoroutine" := by simpa using vi.2
       have h2 : ¬ fn.body = none := by intro hh; simp [hh] at vi
       simp [execOp,ho,resolve,qF,Act.eval,Deferred.ofValue,invoke,callFunc,hf,h1,h2]
       cases c.args
       simp
     · -- without a body
       obtain ⟨xs,h3,h5⟩ := dr hc
       have e5 := hY h5.symm rfl
       subst e5
       obtain ⟨res,g1,g2⟩ := ha
       obtain ⟨v,w',q1,q2,q3,q4⟩ := g1 K β env a w (c.args.toList.map a.eval) rfl hr (qB hr _ _ h3)
       refine jo hr hd ⟨v,w',?_,q2,q3,q4⟩ g2
       have I5 : (c.args.toList.map a.eval).toArray = c.args.map a.eval := by cases c.args; simp
       rw [I5] at q1
       simp [execOp,ho,resolve,qF,Act.eval,Deferred.ofValue,invoke,q1]
   · -- a function value
     rename_i f TM qF
     obtain ⟨y,h2,hc⟩ := cB hc
     obtain ⟨xs,h3,h5⟩ := dr hc
     have e := hY h5.symm rfl
     subst e
     obtain ⟨f',first,cap,g1,hb,g2⟩ := ha
     have hv := hr.ev h2
     rw [g1] at hv
     simp only [RV] at hv
     obtain ⟨vs,us,k1,k2,k3⟩ := hv
     obtain ⟨fn, hf, vi⟩ : ∃ fn, K.P.funcs[f']? = some fn ∧ (fn.body.isSome = true ∧ (fn.name != "runtime.NumGoroutine") = true) := by
       unfold jQ at hb
       cases hq : K.P.funcs[f']? with
       | none => simp [hq] at hb
       | some fn => simp only [hq,Option.any_some,Bool.and_eq_true] at hb; exact ⟨fn,rfl,hb⟩
     refine I4 hr hd (vs := vs ++ c.args.toList.map a.eval ++ us) ?_ (cM.append _ _ _ _ (cM.append _ _ _ _ k2 (qB hr _ _ h3)) k3) g2
     have h1 : ¬ fn.name = "runtime.NumGoroutine" := by simpa using vi.2
     have h2 : ¬ fn.body = none := by intro hh; simp [hh] at vi
     simp [execOp,ho,resolve,qF,k1,Deferred.ofValue,invoke,callFunc,hf,h1,h2]
 · simp at hc
def KB (hr:bu K β env H a w) {o:Oper} {i:eF} {k:AV→Hp→Prop} {Q:Exit→Act→World→Prop} (hd:∀n,o.dst=some n→n<K.N) (hc:comp K.P K.G o=some i.pG)
  (ha:cT ⟨K.P,K.G,K.N⟩ o.dst i env H k):o.wp K.P a w (Cb K env o.dst k) Q:=by
 unfold comp at hc;split at hc
 ·rename_i j hj;simp only[jl] at hc;exact G9 hr hd (by rw[hj,hc]) ha
 simp only[jl] at hc;have e:i= .stuck:=hY hc.symm rfl;subst e;obtain⟨x,h1,_⟩:=ra rfl ha;simp[aj] at h1
end

section
variable {K:Kx} {env:Env} {H:Hp} {a:Act} {w:World}
def Cd {β:Lb→Option Nat} (hr:bu K β env H a w) {ops:Array Oper} {o:Oper} {i:dD} (hc:vh K.P K.G ops o=some i) {b:Bool} (hg:gW i.g env=some b) :
  Region.wanted o (yielded ops a.tmps)=b:=by
 unfold vh at hc;split at hc
 ·rename_i h0;obtain⟨j,_,rfl⟩:=dr hc;simp only[gW,jl] at hg;subst hg;simp[Region.wanted,h0]
 rename_i j t h0;obtain⟨s,h1,hc⟩:=cB hc;obtain⟨q,_,rfl⟩:=dr hc;simp only[gW] at hg;have hv:=hr.mS s;split at hg
 ·rename_i c e;simp only[jl] at hg;subst hg;rw[e] at hv;simp only[RV] at hv;have:a.tmps[s]?=some (.bool c):=by
   rw[ad9] at hv;cases hq:a.tmps[s]? with
   |none=>rw[hq] at hv;cases hv
   |some u=>rw[hq] at hv;simpa using hv
  simp[Region.wanted,h0,yielded,h1,this]
 ·rename_i e;simp only[jl] at hg;subst hg;rw[e] at hv;simp only[RV] at hv;have:a.tmps[s]?=none∨a.tmps[s]?=some undef:=by
   rw[ad9] at hv;cases hq:a.tmps[s]? with
   |none=>exact .inl rfl
   |some u=>rw[hq] at hv;right;simpa using hv
  rcases this with h|h<;>simp[Region.wanted,h0,yielded,h1,h,undef]
 simp at hg
def EM {P:Program} {G:Nat→Option (List IV)} {ops:Array Oper} {o:Oper} {i:dD} (hc:vh P G ops o=some i):i.d=o.dst∧comp P G o=some i.i:=by
 unfold vh at hc;split at hc
 ·obtain⟨j,h1,rfl⟩:=dr hc;exact⟨rfl,h1⟩
 obtain⟨s,_,hc⟩:=cB hc;obtain⟨q,h1,rfl⟩:=dr hc;exact⟨rfl,h1⟩
def Aa {β:Lb→Option Nat} (hr:bu K β env H a w) {ops:Array Oper} {o:Oper} {i:dD} (hc:vh K.P K.G ops o=some i.pG) {k:Env→Hp→Prop} {Q:Exit→Act→World→Prop} {KK:Act→World→Prop}
  (hk:∀env' H' β' a' w',k env' H'→bu K β' env' H' a' w'→KK a' w')
  (ha:(gW i.g env=some true∧(∀n,i.d=some n→n<K.N)∧cT ⟨K.P,K.G,K.N⟩ i.d i.i env H fun x H'=>k (iw env i.d x) H') ∨
   (gW i.g env=some false∧(∀n,i.d=some n→n<K.N)∧k (iw env i.d .un) H)) :
  if Region.wanted o (yielded ops a.tmps) then o.wp K.P a w KK Q∨(o.asks K.P a w∧LetsOut Q) else KK (a.put o.dst undef) w:=by
 obtain⟨h1,h2⟩:=EM hc;have hdd:i.d=o.dst:=h1;rcases ha with⟨hg,hd,ha⟩|⟨hg,hd,ha⟩
 ·have hw:Region.wanted o (yielded ops a.tmps)=true:=Cd hr (i:=i.pG) hc hg;rw[adv hw];left;rw[hdd] at ha hd;exact Oper.wp_mono (fun a' w' ⟨x,H',hx,β',sY⟩=>hk _ _ _ _ _ hx sY) (KB hr hd h2 ha)
 have hw:Region.wanted o (yielded ops a.tmps)=false:=Cd hr (i:=i.pG) hc hg;rw[ag8 (by simp[hw])];rw[hdd] at ha hd;exact hk _ _ _ _ _ ha (hr.step (Below.refl _ _) hd (fun _=>by simp[RV]) (fun _=>by simp[AV.aB]))
theorem EN {ops:Array Oper} {k:Env→Hp→Prop} {Q:Exit→Act→World→Prop} (hk:∀env' H' β' a' w',k env' H'→bu K β' env' H' a' w'→Q .normal a' w') :
  ∀(l:List Oper) (is:List dD) (env:Env) (H:Hp) (a:Act) (w:World) (β:Lb→Option Nat),gT (fun o i=>vh K.P K.G ops o=some (dD.pG i)) l is→AO ⟨K.P,K.G,K.N⟩ is env H k→bu K β env H a w →
   wpList K.P ops Q l a w
 |[],_,env,H,a,w,β,h,ha,hr=>by
  cases h;exact hk _ _ _ _ _ ha hr
 |o::l,_,env,H,a,w,β,h,ha,hr=>by
  cases h with
  |@cons _ i _ is h1 h2=>
  simp only[AO] at ha;unfold wpList;exact Aa hr h1 (k:=fun env' H'=>AO ⟨K.P,K.G,K.N⟩ is env' H' k) (fun env' H' β' a' w' q1 q2=>EN hk l is env' H' a' w' β' h2 q1 q2) ha
end
end Go.Am
