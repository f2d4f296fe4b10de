import Derived.Test.YtfinkeaikbmpgaaDoorKAm12
set_option linter.unusedSimpArgs false
set_option linter.unusedVariables false
set_option linter.unnecessarySimpa false
set_option linter.defProp false
/- THE ABSTRACT MACHINE, part 17: regions whose order is drawn. -/
namespace Go.Am
open Go Go.RowKit
def a8.os:a8→List O
 | .gG x| .qJ x _| .len x| .lens x| .not x| .neg x| .ext x _| .lJ x _ _| .kH x| .kI x| .tf _ x| .gF x| .tv x| .tw x| .lL _ x| .load _ x| .box x| .vT _ x| .cap x| .nM x _ _| .lM x _ _=>[x]
 | .pick c a b=>[c,a,b]
 | .qK x i _| .f_ x i| .qO x i _ _=>[x,i]
 | .td x lo hi mx _=>x::(lo.toList++hi.toList++mx.toList)
 | .en x lo hi=>x::(lo.toList++hi.toList)
 | .bin _ x y| .tr _ x y| .tt _ x y| .te _ x y| .jI _ _ x y| .max x y| .min x y| .store _ x y| .app x y _ _| .kJ x y _ _| .lN x y _ _ _| .mB x y _=>[x,y]
 | .qL _ ps=>ps.map (·.2.2)
 | .lits _ _ _ ps=>ps.map (·.2)
 | .et _ _ ps=>ps.map (·.2)
 | .tx _ qs cs=>qs++cs
 | .tu _ cs=>cs
 | .new _=>[]
 | .stuck=>[]
 | .nR n c _ _ _=>[n,c]
 | .call _ args=>args
 | .fj _ args=>args
 | .eg x args=>x::args
def O.us:O→List Nat
 | .t n=>[n]
 | .c _=>[]
def aP.us (i:aP):List Nat:=i.i.os.flatMap O.us++(match i.g with|some (s,_)=>[s]|none=>[])
def xo {env:Env} {d:Option Nat} {y:AV} {x:O} (h:∀n,d=some n→n∉x.us):ev (bV env d y) x=ev env x:=by
 cases x with
 |c x=>rfl
 |t n=>
 cases d with
 |none=>rfl
 |some m=>
 have:=h m rfl;simp[O.us] at this;simp[ev,bV,put,GP this]
section
variable {env env':Env}
def ej {o:Option O} (h:∀x∈o.toList,ev env x=ev env' x) (m n:Nat):gR env o m n=gR env' o m n:=by
 cases o with
 |none=>rfl
 |some x=>simp only[gR];rw[h x (by simp)]
def pS {lo hi mx:Option O} (h:∀x∈lo.toList++hi.toList++mx.toList,ev env x=ev env' x) (n:Nat):jL env lo hi mx n=jL env' lo hi mx n:=by
 have h1:=fun m n=>ej (o:=lo) (fun x hx=>h x (by simp at hx ⊢;simp[hx])) m n;have h2:=fun m n=>ej (o:=hi) (fun x hx=>h x (by simp at hx ⊢;simp[hx])) m n;have h3:=fun m n=>ej (o:=mx) (fun x hx=>h x (by simp at hx ⊢;simp[hx])) m n;cases mx with
 |none=>simp only[jL,h1,h2]
 |some m=>simp only[jL,h1,h2,h3]
def pT {lo hi mx:Option O} (h:∀x∈lo.toList++hi.toList++mx.toList,ev env x=ev env' x) (n c:Nat):nW env lo hi mx n c=nW env' lo hi mx n c:=by
 have h1:=fun m n=>ej (o:=lo) (fun x hx=>h x (by simp at hx ⊢;simp[hx])) m n;have h2:=fun m n=>ej (o:=hi) (fun x hx=>h x (by simp at hx ⊢;simp[hx])) m n;have h3:=fun m n=>ej (o:=mx) (fun x hx=>h x (by simp at hx ⊢;simp[hx])) m n;cases mx with
 |none=>simp only[nW,h1,h2]
 |some m=>simp only[nW,h1,h2,h3]
def dE {i:a8} (h:∀x∈i.os,ev env x=ev env' x):aa i env=aa i env':=by
 cases i with
 |td x lo hi mx sz=>
  simp only[aa];rw[h x (by simp[a8.os])];have:=pS (env:=env) (env':=env') (lo:=lo) (hi:=hi) (mx:=mx) (fun y hy=>h y (by simp only[a8.os,FP];exact .inr hy));have Ap:=pT (env:=env) (env':=env') (lo:=lo) (hi:=hi) (mx:=mx) (fun y hy=>h y (by simp only[a8.os,FP];exact .inr hy));unfold tJ;simp only[this,Ap]
 |en x lo hi=>
  simp only[aa];rw[h x (by simp[a8.os])];have h1:=fun m n=>ej (env:=env) (env':=env') (o:=lo) (fun y hy=>h y (by simp only[a8.os,FP,Fz];exact .inr (.inl hy))) m n;have h2:=fun m n=>ej (env:=env) (env':=env') (o:=hi) (fun y hy=>h y (by simp only[a8.os,FP,Fz];exact .inr (.inr hy))) m n;simp only[h1,h2]
 |qL z ps=>
  simp only[aa];have:(ps.map fun p=>(p.1,p.2.1,ev env p.2.2))=ps.map fun p=>(p.1,p.2.1,ev env' p.2.2):=
   F5 fun p hp=>by rw[h p.2.2 (by simp only[a8.os];exact Gz (f:=fun p:Nat×Nat×O=>p.2.2) hp)]
  rw[this]
 |lits n sz z ps=>
  simp only[aa];have:(ps.map fun p=>(p.1*sz,sz,ev env p.2))=ps.map fun p=>(p.1*sz,sz,ev env' p.2):=
   F5 fun p hp=>by rw[h p.2 (by simp only[a8.os];exact Gz (f:=fun p:Nat×O=>p.2) hp)]
  rw[this]
 |tu f cap=>
  simp only[aa];have:cap.map (ev env)=cap.map (ev env'):=F5 fun p hp=>h p (by simpa[a8.os] using hp);rw[this]
 |call f args=>rfl
 |eg x args=>rfl
 |fj f args=>rfl
 |lN s n sz b z=>rfl
 |et sz z ps=>rfl
 |tx f qs cs=>
  simp only[aa];have h1:qs.map (ev env)=qs.map (ev env'):=F5 fun p hp=>h p (by simp only[a8.os,Fz];exact .inl hp);have h2:cs.map (ev env)=cs.map (ev env'):=F5 fun p hp=>h p (by simp only[a8.os,Fz];exact .inr hp);rw[h1,h2]
 |cap x=>rfl
 |nM x sz z=>rfl
 |lM x n sz=>simp only[aa,h x (by simp[a8.os])]
 |kJ x y sz b=>simp only[aa,h x (by simp[a8.os]),h y (by simp[a8.os])]
 |vT n x=>rfl
 |new cs=>rfl
 |pick c a b=>simp only[aa,h c (by simp[a8.os]),h a (by simp[a8.os]),h b (by simp[a8.os])]
 |nR n c sz b z=>rfl
 |store m a x=>rfl
 |app s x sz b=>rfl
 |mB s x sz=>rfl
 |box x=>rfl
 |tw x=>simp only[aa,h x (by simp[a8.os])]
 |qO x i n sz=>simp only[aa,h x (by simp[a8.os]),h i (by simp[a8.os])]
 |qK x i sz=>simp only[aa,h x (by simp[a8.os]),h i (by simp[a8.os])]
 |f_ x i=>simp only[aa,h x (by simp[a8.os]),h i (by simp[a8.os])]
 |bin op x y=>simp only[aa,h x (by simp[a8.os]),h y (by simp[a8.os])]
 |tr n x y=>simp only[aa,h x (by simp[a8.os]),h y (by simp[a8.os])]
 |tt n x y=>simp only[aa,h x (by simp[a8.os]),h y (by simp[a8.os])]
 |te n x y=>simp only[aa,h x (by simp[a8.os]),h y (by simp[a8.os])]
 |jI n ks x y=>simp only[aa,h x (by simp[a8.os]),h y (by simp[a8.os])]
 |max x y=>simp only[aa,h x (by simp[a8.os]),h y (by simp[a8.os])]
 |min x y=>simp only[aa,h x (by simp[a8.os]),h y (by simp[a8.os])]
 |gG x=>simp only[aa,h x (by simp[a8.os])]
 |qJ x o=>simp only[aa,h x (by simp[a8.os])]
 |len x=>simp only[aa,h x (by simp[a8.os])]
 |lens x=>simp only[aa,h x (by simp[a8.os])]
 |not x=>simp only[aa,h x (by simp[a8.os])]
 |neg x=>simp only[aa,h x (by simp[a8.os])]
 |ext x i=>simp only[aa,h x (by simp[a8.os])]
 |lJ x o m=>simp only[aa,h x (by simp[a8.os])]
 |kH x=>simp only[aa,h x (by simp[a8.os])]
 |kI x=>simp only[aa,h x (by simp[a8.os])]
 |stuck=>rfl
 |tf k x=>simp only[aa,h x (by simp[a8.os])]
 |gF x=>simp only[aa,h x (by simp[a8.os])]
 |tv x=>simp only[aa,h x (by simp[a8.os])]
 |lL t x=>simp only[aa,h x (by simp[a8.os])]
 |load m x=>simp only[aa,h x (by simp[a8.os])]
def pU {S:St} {d:Option Nat} {i:a8} (h:∀x∈i.os,ev env x=ev env' x) {H:Hp} {k:AV→Hp→Prop} (ha:aH S d i env H k):aH S d i env' H k:=by
 have hs:=dE h;cases i with
 |load m x=>
  simp only[aH] at ha ⊢;rw[←hs,←h x (by simp[a8.os])];exact ha
 |box x=>
  simp only[aH] at ha ⊢;rw[←h x (by simp[a8.os])];exact ha
 |new cs=>exact ha
 |store m x y=>
  simp only[aH] at ha ⊢;rw[←h x (by simp[a8.os]),←h y (by simp[a8.os])];exact ha
 |app x y sz b=>
  simp only[aH] at ha ⊢;rw[←h x (by simp[a8.os]),←h y (by simp[a8.os])];exact ha
 |call f args=>
  simp only[aH] at ha ⊢;have:args.map (ev env)=args.map (ev env'):=F5 fun p hp=>h p (by simpa[a8.os] using hp);rw[←this];exact ha
 |vT n x=>
  simp only[aH] at ha ⊢;rw[←h x (by simp[a8.os])];exact ha
 |lN x y sz b z=>
  simp only[aH] at ha ⊢;rw[←h x (by simp[a8.os]),←h y (by simp[a8.os])];exact ha
 |et sz z ps=>
  simp only[aH] at ha ⊢;have:(ps.map fun p=>(p.1,ev env p.2))=ps.map fun p=>(p.1,ev env' p.2):=
   F5 fun p hp=>by rw[h p.2 (by simp only[a8.os];exact Gz (f:=fun p:Nat×O=>p.2) hp)]
  rw[←this];exact ha
 |cap x=>
  simp only[aH] at ha ⊢;rw[←h x (by simp[a8.os])];exact ha
 |nM x sz z=>
  simp only[aH] at ha ⊢;rw[←h x (by simp[a8.os])];exact ha
 |mB x y sz=>
  simp only[aH] at ha ⊢;rw[←h x (by simp[a8.os]),←h y (by simp[a8.os])];exact ha
 |nR n c sz b z=>
  simp only[aH] at ha ⊢;rw[←h n (by simp[a8.os]),←h c (by simp[a8.os])];exact ha
 |fj f args=>
  simp only[aH] at ha ⊢;have:args.map (ev env)=args.map (ev env'):=F5 fun p hp=>h p (by simpa[a8.os] using hp);rw[←this];exact ha
 |eg x args=>
  simp only[aH] at ha ⊢;have:args.map (ev env)=args.map (ev env'):=F5 fun p hp=>h p (by simp only[a8.os,FP];exact .inr hp);rw[←this,←h x (by simp[a8.os])];exact ha
 |_=>simp only[aH] at ha ⊢;rw[←hs];exact ha
end
inductive Fp where
 |no
 |rw (rs ws:List Lb)
 |all
 |mU (fs:List Lb)
def dH:AV→List Lb
 | .ptr l _ _ _=>[l]
 | .sl l _ _ _=>[l]
 | .slk l _ _ _ _=>[l]
 |_=>[]
open Classical in
noncomputable def b7 (d:Option Nat) (i:a8) (env:Env) (H:Hp):Option (AV×Hp):=
 match i with
 | .load m a=>(cN m (ev env a) H).map fun x=>(x,H)
 | .box x=>d.bind fun n=>if H (.loc n)= .unused∧(ev env x).nX=true∧0<(ev env x).cells.length∧(ev env x).cells.length≤maxLen then
  some (.ptr (.loc n) (ev env x).cells.length 0 0,bb H (.loc n) (.live ⟨(ev env x).cells.length,[(ev env x).cells]⟩)) else none
 | .new cs=>d.bind fun n=>if H (.loc n)= .unused∧0<cs.length∧cs.length≤maxLen then
  some (.ptr (.loc n) cs.length 0 0,bb H (.loc n) (.live ⟨cs.length,[cs]⟩)) else none
 | .store m a x=>if d=none then(eF m (ev env a) (ev env x) H).map fun H'=>(.un,H') else none
 | .app s x sz bytes=>d.bind fun n=>j8 sz bytes n (ev env s) (ev env x) H
 | .mB s x sz=>n8 sz (ev env s) (ev env x) H
 | .et sz z ps=>d.bind fun q=>n_ sz q z (ps.map fun p=>(p.1,ev env p.2)) H
 | .nM x sz z=>(n9 sz z (ev env x) H).map fun H'=>(.dG [],H')
 | .nR n c sz b z=>d.bind fun q=>mK sz b q z (ev env n) (ev env c) H
 |_=>none
def bx (i:a8) (env:Env):List Lb:=
 match i with
 | .load _ a=>dH (ev env a)
 | .app _ x _ _=>dH (ev env x)
 | .mB _ x _=>dH (ev env x)
 |_=>[]
def ak (d:Option Nat) (i:a8) (env:Env):List Lb:=
 match i with
 | .box _| .new _| .et _ _ _| .nR _ _ _ _ _=>d.toList.map .loc
 | .store _ a _=>dH (ev env a)
 | .app s _ _ _=>match ev env s with
  | .sl l _ _ _=>l::d.toList.map l.app
  | .slk l _ _ _ _=>l::d.toList.map .loc
  |_=>d.toList.map .loc
 | .mB s _ _=>dH (ev env s)
 | .nM x _ _=>dH (ev env x)
 |_=>[]
def pV {m:Option Nat} {x:AV} {H H1:Hp} {y:AV} (h:cN m x H=some y) (ha:∀l∈dH x,H1 l=H l):cN m x H1=some y:=by
 cases x with
 |ptr l sz i j=>simp only[cN,ha l (by simp[dH])] at h ⊢;exact h
 |_=>simp[cN] at h
def mV {sz:Nat} {x:AV} {H H1:Hp} (ha:∀l∈dH x,H1 l=H l):il sz x H1=il sz x H:=by
 cases x with
 |sl l s i n=>simp only[il,ha l (by simp[dH])]
 |slk l s i n c=>simp only[il,ha l (by simp[dH])]
 |_=>rfl
def mW {x:AV} {p:Lb×Nat×Nat×Nat} (h:zm x=some p):dH x=[p.1]:=by
 cases x<;>simp[zm] at h
 all_goals (subst h;rfl)
def gi {d:Option Nat} {i:a8} {env:Env} {H H' H1:Hp} {x:AV} (h:b7 d i env H=some (x,H')) (ha:∀l,l∈bx i env∨l∈ak d i env→H1 l=H l) :
  ∃Bx,b7 d i env H1=some (x,Bx)∧(∀l∈ak d i env,Bx l=H' l)∧∀l,l∉ak d i env→Bx l=H1 l:=by
 cases i with
 |load m a=>
  simp only[b7,Fu,FB] at h ⊢;obtain⟨y,h1,rfl,rfl⟩:=h;exact⟨H1,⟨y,pV h1 (fun l hl=>ha l (.inl hl)),rfl,rfl⟩,by simp[ak],fun _ _=>rfl⟩
 |box y=>
  simp only[b7] at h ⊢;obtain⟨n,rfl,h0⟩:=aE h
  replace h:=h0
  clear h0;split at h
  ·rename_i hc;simp only[cQ,FB] at h;obtain⟨rfl,rfl⟩:=h;have e:=ha (.loc n) (.inr (by simp[ak]));refine⟨_,by simp only[Fy];rw[FG (by rw[e];exact hc)],fun l hl=> ?_,fun l hl=> ?_⟩
   ·simp[ak] at hl;subst hl;simp
   simp[ak] at hl;rw[ai _ _ hl]
  simp at h
 |new cs=>
  simp only[b7] at h ⊢;obtain⟨n,rfl,h0⟩:=aE h
  replace h:=h0
  clear h0;split at h
  ·rename_i hc;simp only[cQ,FB] at h;obtain⟨rfl,rfl⟩:=h;have e:=ha (.loc n) (.inr (by simp[ak]));refine⟨_,by simp only[Fy];rw[FG (by rw[e];exact hc)],fun l hl=> ?_,fun l hl=> ?_⟩
   ·simp[ak] at hl;subst hl;simp
   simp[ak] at hl;rw[ai _ _ hl]
  simp at h
 |store m a y=>
  simp only[b7] at h ⊢;split at h
  ·rename_i hd;rw[FG hd];simp only[Fu,FB] at h ⊢;obtain⟨H2,h1,rfl,rfl⟩:=h;unfold eF at h1 ⊢;split at h1
   ·rename_i l sz i j e;have e2:=ha l (.inr (by simp[ak,e,dH]));simp only[e,e2];split at h1
    ·rename_i r hr
     try simp only[hr]
     split at h1
     ·rename_i hc;rw[FG hc];obtain⟨cs,hi,h1⟩:=Fv.1 h1;split at h1
      ·rename_i hj;simp only[cQ] at h1;subst h1;refine⟨_,⟨_,by rw[hi,Fy,FG hj],trivial,rfl⟩,fun q hq=> ?_,fun q hq=> ?_⟩
       ·simp[ak,e,dH] at hq;subst hq;simp
       simp[ak,e,dH] at hq;rw[ai _ _ hq]
      simp at h1
     simp at h1
    simp at h1
   simp at h1
  simp at h
 |app s y sz bytes=>
  simp only[b7] at h ⊢;obtain⟨n,rfl,h0⟩:=aE h
  replace h:=h0
  clear h0;simp only[Fy];unfold j8 at h ⊢;obtain⟨news,h1,h0⟩:=aE h
  replace h:=h0
  clear h0;rw[mV (fun l hl=>ha l (.inl hl))];simp only[h1,Fy];split at h
  ·simp at h
  rename_i cx;rw[FU cx];split at h
  ·rename_i e
   try simp only[e]
   split at h
   ·rename_i hc;simp only[cQ,FB] at h;obtain⟨rfl,rfl⟩:=h;have e2:=ha (.loc n) (.inr (by simp[ak,e]));refine⟨_,by rw[FG (by rw[e2];exact hc)],fun l hl=> ?_,fun l hl=> ?_⟩
    ·simp[ak,e] at hl;subst hl;simp
    simp[ak,e] at hl;rw[ai _ _ hl]
   simp at h
  ·rename_i l s' i0 m e;have e1:=ha l (.inr (by simp[ak,e]));have e2:=ha (l.app n) (.inr (by simp[ak,e]));simp only[e1];split at h
   ·rename_i r hr
    try simp only[hr]
    split at h
    ·rename_i hc;simp only[cQ,FB] at h;obtain⟨rfl,rfl⟩:=h;refine⟨_,by rw[FG (by rw[e2];exact hc)],fun q hq=> ?_,fun q hq=> ?_⟩
     ·simp[ak,e] at hq;unfold bb;by_cases q1:q=l.app n
      ·simp[q1]
      rcases hq with hq|hq
      ·simp[hq]
      exact absurd hq q1
     simp[ak,e] at hq;rw[ai _ _ hq.2,ai _ _ hq.1]
    simp at h
   simp at h
  ·rename_i l s' i0 m c e;have e1:=ha l (.inr (by simp[ak,e]));have e2:=ha (.loc n) (.inr (by simp[ak,e]));simp only[e1];split at h
   ·rename_i r hr
    try simp only[hr]
    split at h
    ·rename_i hc;rw[FG hc];split at h
     ·rename_i hf;rw[FG hf];split at h
      ·rename_i Aq;rw[FG Aq];simp only[cQ,FB] at h;obtain⟨rfl,rfl⟩:=h;refine⟨_,rfl,fun q hq=> ?_,fun q hq=> ?_⟩
       ·simp[ak,e] at hq;by_cases q1:q=l
        ·subst q1;simp
        rw[ai _ _ q1,ai _ _ q1];rcases hq with hq|hq
        ·exact absurd hq q1
        subst hq;exact e2
       simp[ak,e] at hq;rw[ai _ _ hq.1]
      simp at h
     rename_i hf;rw[FU hf];split at h
     ·rename_i Aq;rw[e2,FG Aq];simp only[cQ,FB] at h;obtain⟨rfl,rfl⟩:=h;refine⟨_,rfl,fun q hq=> ?_,fun q hq=> ?_⟩
      ·simp[ak,e] at hq;by_cases q1:q= .loc n
       ·subst q1;simp
       rw[ai _ _ q1,ai _ _ q1];rcases hq with hq|hq
       ·subst hq;exact e1
       exact absurd hq q1
      simp[ak,e] at hq;rw[ai _ _ hq.2]
     simp at h
    simp at h
   simp at h
  simp at h
 |et sz z ps=>
  simp only[b7] at h ⊢;obtain⟨n,rfl,h0⟩:=aE h
  replace h:=h0
  clear h0;simp only[Fy];unfold n_ at h ⊢;obtain⟨cs,h1,h0⟩:=aE h
  replace h:=h0
  clear h0;rw[h1,Fy];split at h
  ·rename_i hc;simp only[cQ,FB] at h;obtain⟨rfl,rfl⟩:=h;have e:=ha (.loc n) (.inr (by simp[ak]));refine⟨_,by rw[FG (by rw[e];exact hc)],fun l hl=> ?_,fun l hl=> ?_⟩
   ·simp[ak] at hl;subst hl;simp
   simp[ak] at hl;rw[ai _ _ hl]
  simp at h
 |nR x y sz b z=>
  simp only[b7] at h ⊢;obtain⟨n,rfl,h0⟩:=aE h
  replace h:=h0
  clear h0;simp only[Fy];unfold mK at h ⊢;split at h
  ·split at h
   ·rename_i hc;simp only[cQ,FB] at h;obtain⟨rfl,rfl⟩:=h;have e:=ha (.loc n) (.inr (by simp[ak]));refine⟨_,by rw[FG (by rw[e];exact hc)],fun l hl=> ?_,fun l hl=> ?_⟩
    ·simp[ak] at hl;subst hl;simp
    simp[ak] at hl;rw[ai _ _ hl]
   simp at h
  simp at h
 |mB s y sz=>
  simp only[b7] at h ⊢;unfold n8 at h ⊢;obtain⟨news,h1,h0⟩:=aE h
  replace h:=h0
  clear h0;rw[mV (fun l hl=>ha l (.inl hl))];simp only[h1,Fy];obtain⟨p,hp,h0⟩:=aE h
  replace h:=h0
  clear h0;simp only[hp,Fy];split at h
  ·simp at h
  rename_i cx;rw[FU cx];have hw:ak d (.mB s y sz) env=[p.1]:=by simp only[ak];exact mW hp
  have e1:=ha p.1 (.inr (by rw[hw];simp));simp only[e1];split at h
  ·rename_i r hr
   try simp only[hr]
   split at h
   ·rename_i hc;rw[FG hc];simp only[cQ,FB] at h;obtain⟨rfl,rfl⟩:=h;refine⟨_,rfl,fun q hq=> ?_,fun q hq=> ?_⟩
    ·rw[hw] at hq;simp at hq;subst hq;simp
    rw[hw] at hq;simp at hq;rw[ai _ _ hq]
   simp at h
  simp at h
 |nM y sz z=>
  simp only[b7,Fu,FB] at h ⊢;obtain⟨H2,h,rfl,rfl⟩:=h;unfold n9 at h ⊢;split at h
  ·simp at h
  rename_i cx;obtain⟨p,hp,h0⟩:=aE h
  replace h:=h0
  clear h0;have hw:ak d (.nM y sz z) env=[p.1]:=by simp only[ak];exact mW hp
  have e1:=ha p.1 (.inr (by rw[hw];simp));split at h
  ·rename_i r hr;split at h
   ·rename_i hc;simp only[cQ] at h;subst h;refine⟨_,⟨_,by rw[FU cx,hp];simp only[Fy,e1,hr];rw[FG hc],rfl,rfl⟩,fun q hq=> ?_,fun q hq=> ?_⟩
    ·rw[hw] at hq;simp at hq;subst hq;simp
    rw[hw] at hq;simp at hq;rw[ai _ _ hq]
   simp at h
  simp at h
 |_=>simp[b7] at h
def dW {d:Option Nat} {i:a8} {env:Env} {H H':Hp} {x:AV} (h:b7 d i env H=some (x,H')):∀l,l∉ak d i env→H' l=H l:=by
 obtain⟨Bx,h1,_,h3⟩:=gi h (H1:=H) (fun _ _=>rfl);rw[h] at h1;simp only[cQ,FB] at h1;obtain⟨_,rfl⟩:=h1;exact h3
def eC {d:Option Nat} {i:a8} {env env':Env} (h:∀x∈i.os,ev env x=ev env' x) (H:Hp):b7 d i env H=b7 d i env' H∧bx i env=bx i env'∧ak d i env=ak d i env':=by
 cases i with
 |load m x=>simp only[b7,bx,ak];rw[h x (by simp[a8.os])];simp
 |box x=>simp only[b7,bx,ak];rw[h x (by simp[a8.os])];simp
 |store m x y=>simp only[b7,bx,ak];rw[h x (by simp[a8.os]),h y (by simp[a8.os])];simp
 |app x y sz b=>simp only[b7,bx,ak];rw[h x (by simp[a8.os]),h y (by simp[a8.os])];simp
 |mB x y sz=>simp only[b7,bx,ak];rw[h x (by simp[a8.os]),h y (by simp[a8.os])];simp
 |et sz z ps=>
  simp only[b7,bx,ak];have:(ps.map fun p=>(p.1,ev env p.2))=ps.map fun p=>(p.1,ev env' p.2):=
   F5 fun p hp=>by rw[h p.2 (by simp only[a8.os];exact Gz (f:=fun p:Nat×O=>p.2) hp)]
  rw[this];simp
 |nM x sz z=>simp only[b7,bx,ak];rw[h x (by simp[a8.os])];simp
 |nR n c sz b z=>simp only[b7,bx,ak];rw[h n (by simp[a8.os]),h c (by simp[a8.os])];simp
 |_=>simp[b7,bx,ak]
end Go.Am

namespace Go.Am
open Go Go.RowKit
def Quiet (S:St) (i:a8) (env:Env) (res:AV):Prop:=
 match i with
 | .call f args=>aw S.P S.G f (args.map (ev env)) res
 | .eg x args=>∃f first cap,ev env x= .fn f first cap∧fC S.P f=true∧aw S.P S.G f (first++args.map (ev env)++cap) res
 |_=>False
def Ar (S:St) (F:List Lb) (f:Nat) (args:List AV) (H:Hp) (k:AV→Hp→Prop):Prop:=
 ∃Q:AV→Hp→Prop,fS S f args H Q∧(∃x H',Q x H')∧∀x H',Q x H'→(∀l:Lb,l.fZ∈F→H' l=H l)∧k x H'
def aj (S:St) (fp:Fp) (d:Option Nat) (i:a8) (env:Env) (H:Hp) (k:AV→Hp→Prop):Prop:=
 match fp with
 | .no=>∃x,(aa i env=some x∨Quiet S i env x)∧k x H
 | .rw R W=>∃x H',b7 d i env H=some (x,H')∧(∀l∈bx i env,l.fZ∈R∨l.fZ∈W)∧(∀l∈ak d i env,l.fZ∈W)∧k x H'
 | .all=>aH S d i env H k
 | .mU F=>match i with
  | .call f args=>Ar S F f (args.map (ev env)) H k
  |_=>False
def fS.mono {S:St} {f:Nat} {args:List AV} {H:Hp} {k k':AV→Hp→Prop} (hk:∀x H,k x H→k' x H) (h:fS S f args H k):fS S f args H k':=by
 rcases h with⟨res,h1,h2⟩|⟨cb,res,h1,h2,h3,h4⟩|⟨ρ,eV,cb,Q,h1,h2,h3,h4,h5,h6,h7,h8,h9⟩
 ·exact .inl ⟨res,h1,hk _ _ h2⟩
 ·exact .inr (.inl ⟨cb,res,h1,h2,h3,hk _ _ h4⟩)
 refine .inr<| .inr ⟨ρ,eV,cb,Q,h1,h2,h3,h4,h5,h6,h7,h8,fun x H' hq=> ?_⟩;obtain⟨ρ',gM,q1,q2,q3,q4,q5,q6,q7,q8,q9⟩:=h9 x H' hq;exact⟨ρ',gM,q1,q2,q3,q4,q5,q6,q7,q8,hk _ _ q9⟩
def aH.mono {S:St} {d:Option Nat} {i:a8} {env:Env} {H:Hp} {k k':AV→Hp→Prop} (hk:∀x H,k x H→k' x H) (h:aH S d i env H k):aH S d i env H k':=by
 cases i with
 |load m a=>
  simp only[aH] at h ⊢;rcases h with⟨x,h1,h2⟩|⟨x,h1,h2⟩
  ·exact .inl ⟨x,h1,hk _ _ h2⟩
  exact .inr ⟨x,h1,hk _ _ h2⟩
 |box x=>
  simp only[aH] at h ⊢;obtain⟨n,h1,h2,h3,h4,h5,h6⟩:=h;exact⟨n,h1,h2,h3,h4,h5,hk _ _ h6⟩
 |new cs=>
  simp only[aH] at h ⊢;obtain⟨n,h1,h2,h3,h4,h5⟩:=h;exact⟨n,h1,h2,h3,h4,hk _ _ h5⟩
 |store m a x=>
  simp only[aH] at h ⊢;obtain⟨h1,H',h2,h3⟩:=h;exact⟨h1,H',h2,hk _ _ h3⟩
 |app s x sz b=>
  simp only[aH] at h ⊢;obtain⟨n,h1,y,H',h2,h3⟩:=h;exact⟨n,h1,y,H',h2,hk _ _ h3⟩
 |call f args=>exact fS.mono hk h
 |vT n x=>
  simp only[aH] at h ⊢;obtain⟨bs,h1,h2⟩:=h;exact⟨bs,h1,fun b hb=>hk _ _ (h2 b hb)⟩
 |lN s n sz b z=>
  simp only[aH] at h ⊢;obtain⟨q,h1,y,H',h2,h3⟩:=h;exact⟨q,h1,y,H',h2,hk _ _ h3⟩
 |et sz z ps=>
  simp only[aH] at h ⊢;obtain⟨q,h1,y,H',h2,h3⟩:=h;exact⟨q,h1,y,H',h2,hk _ _ h3⟩
 |cap x=>
  simp only[aH] at h ⊢;obtain⟨R,h1,h2⟩:=h;exact⟨R,h1,fun m hm D9=>hk _ _ (h2 m hm D9)⟩
 |mB s x sz=>
  simp only[aH] at h ⊢;obtain⟨y,H',h1,h2⟩:=h;exact⟨y,H',h1,hk _ _ h2⟩
 |nM x sz z=>
  simp only[aH] at h ⊢;obtain⟨H',h1,h2⟩:=h;exact⟨H',h1,hk _ _ h2⟩
 |nR n c sz b z=>
  simp only[aH] at h ⊢;obtain⟨q,h1,y,H',h2,h3⟩:=h;exact⟨q,h1,y,H',h2,hk _ _ h3⟩
 |fj f args=>
  simp only[aH] at h ⊢;obtain⟨res,h1,h2⟩:=h;exact⟨res,h1,hk _ _ h2⟩
 |eg x args=>
  simp only[aH] at h ⊢;obtain⟨f,first,cap,h1,h2,h3⟩:=h
  exact⟨f,first,cap,h1,h2,fS.mono hk h3⟩
 |_=>
 simp only[aH] at h ⊢;obtain⟨x,h1,h2⟩:=h;exact⟨x,h1,hk _ _ h2⟩
def aj.mono {S:St} {fp:Fp} {d:Option Nat} {i:a8} {env:Env} {H:Hp} {k k':AV→Hp→Prop} (hk:∀x H,k x H→k' x H) (h:aj S fp d i env H k):aj S fp d i env H k':=by
 cases fp with
 |no=>obtain⟨x,h1,h2⟩:=h;exact⟨x,h1,hk _ _ h2⟩
 |rw R W=>obtain⟨x,H',h1,h2,h3,h4⟩:=h;exact⟨x,H',h1,h2,h3,hk _ _ h4⟩
 |all=>exact aH.mono hk h
 |mU F=>
 cases i<;>simp only[aj] at h ⊢;obtain⟨Q,h1,h2,h3⟩:=h;exact⟨Q,h1,h2,fun x H' hq=>⟨(h3 x H' hq).1,hk _ _ (h3 x H' hq).2⟩⟩
def aj.act {S:St} {fp:Fp} {d:Option Nat} {i:a8} {env:Env} {H:Hp} {k:AV→Hp→Prop} (h:aj S fp d i env H k):aH S d i env H k:=by
 cases fp with
 |all=>exact h
 |mU F=>
  cases i<;>simp only[aj] at h;obtain⟨Q,h1,h2,h3⟩:=h;exact fS.mono (fun x H' hq=>(h3 x H' hq).2) h1
 |no=>
  obtain⟨x,h1,h2⟩:=h;cases i with
  |load m a=>
   rcases h1 with h1|h1
   ·exact .inl ⟨x,h1,h2⟩
   exact absurd h1 (by simp[Quiet])
  |call f args=>
   rcases h1 with h1|h1
   ·simp[aa] at h1
   exact .inl ⟨x,h1,h2⟩
  |eg y args=>
   rcases h1 with h1|⟨f,first,cap,e1,e2,e3⟩
   ·simp[aa] at h1
   exact⟨f,first,cap,e1,e2,.inl ⟨x,e3,h2⟩⟩
  |box _=>rcases h1 with h1|h1<;>simp[aa,Quiet] at h1
  |vT _ _=>rcases h1 with h1|h1<;>simp[aa,Quiet] at h1
  |new _=>rcases h1 with h1|h1<;>simp[aa,Quiet] at h1
  |store _ _ _=>rcases h1 with h1|h1<;>simp[aa,Quiet] at h1
  |app _ _ _ _=>rcases h1 with h1|h1<;>simp[aa,Quiet] at h1
  |cap _=>rcases h1 with h1|h1<;>simp[aa,Quiet] at h1
  |lN _ _ _ _ _=>rcases h1 with h1|h1<;>simp[aa,Quiet] at h1
  |et _ _ _=>rcases h1 with h1|h1<;>simp[aa,Quiet] at h1
  |mB _ _ _=>rcases h1 with h1|h1<;>simp[aa,Quiet] at h1
  |nM _ _ _=>rcases h1 with h1|h1<;>simp[aa,Quiet] at h1
  |nR _ _ _ _ _=>rcases h1 with h1|h1<;>simp[aa,Quiet] at h1
  |fj _ _=>rcases h1 with h1|h1<;>simp[aa,Quiet] at h1
  |_=>
  rcases h1 with h1|h1
  ·exact⟨x,h1,h2⟩
  exact absurd h1 (by simp[Quiet])
 |rw R W=>
 obtain⟨x,H',h1,_,_,h2⟩:=h;cases i with
 |load m a=>
  simp only[b7,Fu,FB] at h1;obtain⟨y,h1,rfl,rfl⟩:=h1;exact .inr ⟨y,h1,h2⟩
 |box y=>
  simp only[b7] at h1;obtain⟨n,rfl,h0⟩:=aE h1;split at h0
  ·rename_i hc;simp only[cQ,FB] at h0;obtain⟨rfl,rfl⟩:=h0;exact⟨n,rfl,hc.1,hc.2.1,hc.2.2.1,hc.2.2.2,h2⟩
  simp at h0
 |new cs=>
  simp only[b7] at h1;obtain⟨n,rfl,h0⟩:=aE h1;split at h0
  ·rename_i hc;simp only[cQ,FB] at h0;obtain⟨rfl,rfl⟩:=h0;exact⟨n,rfl,hc.1,hc.2.1,hc.2.2,h2⟩
  simp at h0
 |store m a y=>
  simp only[b7] at h1;split at h1
  ·rename_i hd;simp only[Fu,FB] at h1;obtain⟨H2,h1,rfl,rfl⟩:=h1;exact⟨hd,H2,h1,h2⟩
  simp at h1
 |app s y sz bytes=>
  simp only[b7] at h1;obtain⟨n,rfl,h0⟩:=aE h1;exact⟨n,rfl,x,H',h0,h2⟩
 |et sz z ps=>
  simp only[b7] at h1;obtain⟨q,rfl,h0⟩:=aE h1;exact⟨q,rfl,x,H',h0,h2⟩
 |mB s y sz=>
  simp only[b7] at h1;exact⟨x,H',h1,h2⟩
 |nR n c sz b z=>
  simp only[b7] at h1;obtain⟨q,rfl,h0⟩:=aE h1;exact⟨q,rfl,x,H',h0,h2⟩
 |nM y sz z=>
  simp only[b7,Fu,FB] at h1;obtain⟨H2,h1,rfl,rfl⟩:=h1;exact⟨H2,h1,h2⟩
 |_=>simp[b7] at h1
def gZ {S:St} {i:a8} {env env':Env} (h:∀x∈i.os,ev env x=ev env' x) {x:AV} (hq:Quiet S i env x):Quiet S i env' x:=by
 cases i with
 |call f args=>
  simp only[Quiet] at hq ⊢;have:args.map (ev env)=args.map (ev env'):=F5 fun p hp=>h p (by simpa[a8.os] using hp);rw[←this];exact hq
 |eg y args=>
  simp only[Quiet] at hq ⊢;have:args.map (ev env)=args.map (ev env'):=F5 fun p hp=>h p (by simp only[a8.os,FP];exact .inr hp);rw[←this,←h y (by simp[a8.os])];exact hq
 |_=>exact hq
def g_ {S:St} {fp:Fp} {d:Option Nat} {i:a8} {env env':Env} (h:∀x∈i.os,ev env x=ev env' x) {H:Hp} {k:AV→Hp→Prop} (ha:aj S fp d i env H k):aj S fp d i env' H k:=by
 cases fp with
 |no=>
  obtain⟨x,h1,h2⟩:=ha;refine⟨x,?_,h2⟩;rcases h1 with h1|h1
  ·exact .inl (by rw[←dE h];exact h1)
  exact .inr (gZ h h1)
 |rw R W=>
  obtain⟨x,H',h1,h2,h3,h4⟩:=ha;obtain⟨e1,e2,e3⟩:=eC (d:=d) h H;exact⟨x,H',by rw[←e1];exact h1,by rw[←e2];exact h2,by rw[←e3];exact h3,h4⟩
 |all=>exact pU h ha
 |mU F=>
 cases i with
 |call f args=>
  simp only[aj] at ha ⊢;have:args.map (ev env)=args.map (ev env'):=F5 fun p hp=>h p (by simpa[a8.os] using hp);rw[←this];exact ha
 |_=>simp only[aj] at ha
def aj.B9 {S:St} {F:List Lb} {d:Option Nat} {i:a8} {env:Env} {H:Hp} {k:AV→Hp→Prop} (h:aj S (.mU F) d i env H k):aj S (.mU F) d i env H fun x H'=>(∀l:Lb,l.fZ∈F→H' l=H l)∧k x H':=by
 cases i<;>simp only[aj] at h ⊢;obtain⟨Q,h1,h2,h3⟩:=h;exact⟨Q,h1,h2,fun x H' hq=>⟨(h3 x H' hq).1,h3 x H' hq⟩⟩
def my (S:St) (p:aP×Fp) (env:Env) (H:Hp) (k:Env→Hp→Prop):Prop:=
 (gW p.1.g env=some true∧(∀n,p.1.d=some n→n<S.N)∧aj S p.2 p.1.d p.1.i env H fun x H'=>k (bV env p.1.d x) H') ∨
  (gW p.1.g env=some false∧(∀n,p.1.d=some n→n<S.N)∧k (bV env p.1.d .un) H)
def fX (S:St):List (Nat×aP×Fp)→Env→Hp→(Env→Hp→Prop)→Prop
 |[],env,H,k=>k env H
 |p::r,env,H,k=>my S p.2 env H fun e h=>fX S r e h k
def gr (d:Option Nat) (us:List Nat):Bool:=match d with|some n=> !us.contains n|none=>true
def lf (p q:aP):Bool:=gr p.d q.us&&gr q.d p.us&&(p.d.isNone||p.d !=q.d)
def Fp.wo:Fp→Bool
 | .mU _=>true
 |_=>false
def eW:Fp→Fp→Bool
 | .no,_=>true
 | .rw _ _,.no=>true
 | .rw R W,.rw R' W'=>W.all (fun l=> !R'.contains l&& !W'.contains l)&&R.all (fun l=> !W'.contains l)
 | .rw R W,.mU F=>W.isEmpty&&R.all (fun l=>F.contains l)
 | .mU _,.no=>true
 | .mU F,.rw R W=>W.isEmpty&&R.all (fun l=>F.contains l)
 |_,_=>false
def a8.oc:a8→Bool
 | .call _ _| .eg _ _=>true
 |_=>false
def indep (p q:aP×Fp):Bool:=lf p.1 q.1&&(eW p.2 q.2&& !(p.2.wo&&q.1.i.oc))
section
variable {S:St} {env:Env} {H:Hp}
def my.mono {p:aP×Fp} {k k':Env→Hp→Prop} (hk:∀e h,k e h→k' e h) (h:my S p env H k):my S p env H k':=by
 rcases h with⟨h1,h2,h3⟩|⟨h1,h2,h3⟩
 ·exact .inl ⟨h1,h2,h3.mono fun _ _=>hk _ _⟩
 exact .inr ⟨h1,h2,hk _ _ h3⟩
theorem fX.mono {k k':Env→Hp→Prop} (hk:∀e h,k e h→k' e h):∀(l:List (Nat×aP×Fp)) (env:Env) (H:Hp),fX S l env H k→fX S l env H k'
 |[],env,H,h=>hk _ _ h
 |p::r,env,H,h=>my.mono (fun e h'=>fX.mono hk r e h') h
def c8 {d d':Option Nat} (h:d=none∨d≠d') (x y:AV):bV (bV env d x) d' y=bV (bV env d' y) d x:=by
 cases d with
 |none=>rfl
 |some n=>
 cases d' with
 |none=>rfl
 |some m=>
 have:n≠m:=by rcases h with h|h;simp at h;simpa using h
 funext q;simp only[bV,put];by_cases e1:q=n
 ·by_cases e2:q=m
  ·exact absurd (e1.symm.trans e2) this
  simp[e1,this]
 by_cases e2:q=m
 ·simp[e2,GP this]
 simp[e1,e2]
def xp {g:Option (Nat×Bool)} {d:Option Nat} {x:AV} (h:∀n,d=some n→n∉(match g with|some (s,_)=>[s]|none=>([]:List Nat))):gW g (bV env d x)=gW g env:=by
 cases g with
 |none=>rfl
 |some p=>
 obtain⟨s,t⟩:=p;cases d with
 |none=>rfl
 |some m=>
 have:=h m rfl;simp at this;simp[gW,bV,put,GP this]
def lW {d:Option Nat} {us:List Nat} (h:gr d us=true):∀n,d=some n→n∉us:=by
 rintro n rfl;simpa[gr] using h
def cU {q:aP} {d:Option Nat} (h:gr d q.us=true) (x:AV) (env:Env):gW q.g (bV env d x)=gW q.g env∧∀o∈q.i.os,ev (bV env d x) o=ev env o:=by
 have h':=lW h;refine⟨xp fun n hn hm=>h' n hn (by simp only[aP.us,Fz];exact .inr hm),fun o ho=>xo fun n hn hm=>h' n hn ?_⟩;simp only[aP.us,Fz,Ic];exact .inl ⟨o,ho,hm⟩
def my.shift {q:aP×Fp} {d:Option Nat} (h:gr d q.1.us=true) (hd:d=none∨d≠q.1.d) {x:AV} {k:Env→Hp→Prop} (hs:my S q (bV env d x) H k) :
  my S q env H fun e h=>k (bV e d x) h∧∃y,e=bV env q.1.d y:=by
 obtain⟨e1,e2⟩:=cU h x env;rcases hs with⟨h1,h2,h3⟩|⟨h1,h2,h3⟩
 ·exact .inl ⟨by rw[←e1];exact h1,h2,(g_ e2 h3).mono fun y H' hk=>⟨by rw[←c8 hd];exact hk,y,rfl⟩⟩
 exact .inr ⟨by rw[←e1];exact h1,h2,by rw[←c8 hd];exact h3,_,rfl⟩
def my.swap {p q:aP×Fp} (hi:indep p q=true) {k:Env→Hp→Prop} (h:my S p env H fun e h=>my S q e h k):my S q env H fun e h=>my S p e h k:=by
 simp only[indep,lf,FE,HD,Option.isNone_iff_eq_none,bne_iff_ne] at hi;obtain⟨⟨⟨r1,r2⟩,r3⟩,hf,B'⟩:=hi;obtain⟨lp,fp⟩:=p;obtain⟨lq,fq⟩:=q;simp only at r1 r2 r3 hf;have E4:lq.d=none∨lq.d≠lp.d:=by
  rcases r3 with r3|r3
  ·by_cases e:lq.d=none
   ·exact .inl e
   exact .inr (by rw[r3];exact e)
  exact .inr (GP r3)
 rcases h with⟨h1,h2,h3⟩|⟨h1,h2,h3⟩
 ·cases fp with
  |no=>
   obtain⟨x,h4,h5⟩:=h3;refine(h5.shift r1 r3).mono ?_;rintro e h' ⟨hk,y,rfl⟩;obtain⟨e1,e2⟩:=cU r2 y env;refine .inl ⟨by simp only;rw[e1];exact h1,h2,x,?_,hk⟩;rcases h4 with h4|h4
   ·exact .inl (by simp only;rw[dE e2];exact h4)
   exact .inr (gZ (fun o ho=>(e2 o ho).symm) h4)
  |rw R W=>
   obtain⟨x,H',m1,m2,m3,m4⟩:=h3;have pX:∀y,b7 lp.d lp.i (bV env lq.d y) H=some (x,H')∧bx lp.i (bV env lq.d y)=bx lp.i env∧ak lp.d lp.i (bV env lq.d y)=ak lp.d lp.i env:=fun y=>by
    obtain⟨c1,c2,c3⟩:=eC (d:=lp.d) (cU r2 y env).2 H;exact⟨by rw[c1];exact m1,c2,c3⟩
   obtain⟨f1,f2⟩:=cU r1 x env;have g2:∀y,gW lp.g (bV env lq.d y)=some true:=fun y=>(by rw[(cU r2 y env).1];exact h1);rcases m4 with⟨k1,k2,k3⟩|⟨k1,k2,k3⟩
   ·cases fq with
    |no=>
     obtain⟨y,k4,k5⟩:=k3;refine .inl ⟨by simp only;rw[←f1];exact k1,k2,y,?_,?_⟩
     ·rcases k4 with k4|k4
      ·exact .inl (by simp only;rw[←dE f2];exact k4)
      exact .inr (gZ f2 k4)
     exact .inl ⟨g2 y,h2,x,H',(pX y).1,by simp only;rw[(pX y).2.1];exact m2,by simp only;rw[(pX y).2.2];exact m3,by simp only;rw[←c8 r3];exact k5⟩
    |rw R' W'=>
     obtain⟨y,gM,k4,k5,k6,k7⟩:=k3;obtain⟨c1,c2,c3⟩:=eC (d:=lq.d) f2 H';simp only at k4 k5 k6 k7;rw[c1] at k4;rw[c2] at k5;rw[c3] at k6;simp only[eW,FE,F3,GU,GG,HC] at hf;obtain⟨By,Aq⟩:=hf;have pW:∀l,l∈ak lp.d lp.i env→l.fZ∉R'∧l.fZ∉W':=fun l hl=>By l.fZ (m3 l hl);have xq:∀l,l∈bx lq.i env∨l∈ak lq.d lq.i env→H l=H' l:=by
      intro l hl;refine(dW m1 l fun hw=> ?_).symm;rcases hl with hl|hl
      ·rcases k5 l hl with e|e
       ·exact(pW l hw).1 e
       exact(pW l hw).2 e
      exact(pW l hw).2 (k6 l hl)
     obtain⟨H2,a1,a2,a3⟩:=gi k4 xq;have lY:∀l,l∈bx lp.i env∨l∈ak lp.d lp.i env→H2 l=H l:=by
      intro l hl;refine a3 l fun hw=> ?_;rcases hl with hl|hl
      ·rcases m2 l hl with e|e
       ·exact Aq l.fZ e (k6 l hw)
       exact(By l.fZ e).2 (k6 l hw)
      exact(pW l hl).2 (k6 l hw)
     obtain⟨H3,b1,b2,b3⟩:=gi m1 lY;have hH:H3=gM:=by
      funext l;by_cases hw:l∈ak lp.d lp.i env
      ·rw[b2 l hw];exact(dW k4 l fun hq=>(pW l hw).2 (k6 l hq)).symm
      rw[b3 l hw];by_cases hq:l∈ak lq.d lq.i env
      ·exact a2 l hq
      rw[a3 l hq,dW k4 l hq,dW m1 l hw]
     subst hH;refine .inl ⟨by simp only;rw[←f1];exact k1,k2,y,H2,a1,k5,k6,?_⟩;obtain⟨d1,d2,d3⟩:=eC (d:=lp.d) (cU r2 y env).2 H2;exact .inl ⟨g2 y,h2,x,H3,by simp only;rw[d1];exact b1,by simp only;rw[d2];exact m2,by simp only;rw[d3];exact m3,by simp only;rw[←c8 r3];exact k7⟩
    |all=>simp[eW] at hf
    |mU F=>
     simp only[eW,FE,Ie,F3,GG,FV] at hf;obtain⟨rfl,hf⟩:=hf;have rr:∀l,l∉ak lp.d lp.i env:=fun l hl=>(by simpa using m3 l hl);have hH:H'=H:=funext fun l=>dW m1 l (rr l);subst hH;refine .inl ⟨by simp only;rw[←f1];exact k1,k2,?_⟩;refine aj.mono (fp:= .mU F) (k:=fun y H2=>(∀l:Lb,l.fZ∈F→H2 l=H' l)∧k (bV (bV env lp.d x) lq.d y) H2) ?_ (g_ f2 (aj.B9 k3));rintro y H2 ⟨g1,g3⟩;have lY:∀l,l∈bx lp.i env∨l∈ak lp.d lp.i env→H2 l=H' l:=by
      intro l hl;rcases hl with hl|hl
      ·rcases m2 l hl with e|e
       ·exact g1 l (hf _ e)
       simp at e
      exact absurd hl (rr l)
     obtain⟨H3,b1,b2,b3⟩:=gi m1 lY;have hH:H3=H2:=funext fun l=>b3 l (rr l);subst hH;obtain⟨d1,d2,d3⟩:=eC (d:=lp.d) (cU r2 y env).2 H3;exact .inl ⟨g2 y,h2,x,H3,by simp only;rw[d1];exact b1,by simp only;rw[d2];exact m2,by simp only;rw[d3];exact m3,by simp only;rw[←c8 r3];exact g3⟩
   refine .inr ⟨by simp only;rw[←f1];exact k1,k2,?_⟩;exact .inl ⟨g2 .un,h2,x,H',(pX .un).1,by simp only;rw[(pX .un).2.1];exact m2,by simp only;rw[(pX .un).2.2];exact m3,by simp only;rw[←c8 r3];exact k3⟩
  |all=>cases fq<;>simp[eW] at hf
  |mU F=>
   cases B_:lp.i with
   |call f args=>
    rw[B_] at h3;simp only[aj] at h3;obtain⟨Q,m1,⟨x0,H0,m2⟩,m3⟩:=h3;have Bv:∀x H',Q x H'→∀l:Lb,l.fZ∈F→H' l=H l:=fun x H' hq=>(m3 x H' hq).1;have cL:∀x H',Q x H'→my S (lq,fq) (bV env lp.d x) H' k:=fun x H' hq=>(m3 x H' hq).2;have fs:=fun x:AV=>cU r1 x env;have back:∀(y:AV) (k':AV→Hp→Prop),(∀x H',Q x H'→k' x H')→aj S (.mU F) lp.d lp.i (bV env lq.d y) H k':=fun y k' pY=>by
     have h4:aj S (.mU F) lp.d lp.i env H k':=by
      rw[B_];simp only[aj];exact⟨Q,m1,⟨x0,H0,m2⟩,fun x H' hq=>⟨Bv x H' hq,pY x H' hq⟩⟩
     exact g_ (fun o ho=>((cU r2 y env).2 o ho).symm) h4
    have g2:∀y,gW lp.g (bV env lq.d y)=some true:=fun y=>(by rw[(cU r2 y env).1];exact h1);rcases cL x0 H0 m2 with⟨k1,k2,k3⟩|⟨k1,k2,k3⟩
    ·simp only at k1 k2 k3;rw[(fs x0).1] at k1;have bG:∀x H',Q x H'→aj S fq lq.d lq.i (bV env lp.d x) H' fun y gM=>k (bV (bV env lp.d x) lq.d y) gM:=by
      intro x H' hq;rcases cL x H' hq with⟨e1,e2,e3⟩|⟨e1,e2,e3⟩
      ·exact e3
      simp only at e1;rw[(fs x).1,k1] at e1;simp at e1
     cases fq with
     |no=>
      have v7:∀(y:AV) (env':Env),Quiet S lq.i env' y→False:=by
       intro y env' hq;have:lq.i.oc=false:=(by simpa[Fp.wo] using B');cases hi:lq.i<;>simp_all[Quiet,a8.oc]
      obtain⟨y,k4,_⟩:=k3;have k4:aa lq.i env=some y:=by
       rcases k4 with k4|k4
       ·rwa[dE (fs x0).2] at k4
       exact(v7 y _ k4).elim
      refine .inl ⟨k1,k2,y,.inl k4,?_⟩;refine .inl ⟨g2 y,h2,back y _ fun x H' hq=> ?_⟩;obtain⟨y',e1,e2⟩:=bG x H' hq;have e1:aa lq.i env=some y':=by
       rcases e1 with e1|e1
       ·rwa[dE (fs x).2] at e1
       exact(v7 y' _ e1).elim
      rw[k4] at e1;cases e1;simp only;rw[←c8 r3];exact e2
     |rw R W=>
      simp only[eW,FE,Ie,F3,GG,FV] at hf;obtain⟨rfl,hf⟩:=hf;have one:∀x H',Q x H'→∀y H2,b7 lq.d lq.i (bV env lp.d x) H'=some (y,H2)→(∀l∈bx lq.i (bV env lp.d x),l.fZ∈R∨l.fZ∈([]:List Lb))→(∀l∈ak lq.d lq.i (bV env lp.d x),l.fZ∈([]:List Lb)) →
        b7 lq.d lq.i env H=some (y,H)∧H2=H'∧(∀l∈bx lq.i env,l.fZ∈R∨l.fZ∈([]:List Lb))∧∀l∈ak lq.d lq.i env,l.fZ∈([]:List Lb):=by
       intro x H' hq y H2 e1 e2 e3;obtain⟨c1,c2,c3⟩:=eC (d:=lq.d) (fs x).2 H';rw[c1] at e1;rw[c2] at e2;rw[c3] at e3;have rr:∀l,l∉ak lq.d lq.i env:=fun l hl=>(by simpa using e3 l hl);have tW:∀l,l∈bx lq.i env∨l∈ak lq.d lq.i env→H l=H' l:=by
        intro l hl;rcases hl with hl|hl
        ·rcases e2 l hl with e|e
         ·exact(Bv x H' hq l (hf _ e)).symm
         simp at e
        exact absurd hl (rr l)
       obtain⟨H3,b1,b2,b3⟩:=gi e1 tW;have hH:H3=H:=funext fun l=>b3 l (rr l);subst hH;exact⟨b1,funext fun l=>dW e1 l (rr l),e2,e3⟩
      obtain⟨y,H2,q1,q2,q3,_⟩:=k3;obtain⟨a1,_,a3,a4⟩:=one x0 H0 m2 y H2 q1 q2 q3;refine .inl ⟨k1,k2,y,H,a1,a3,a4,?_⟩;refine .inl ⟨g2 y,h2,back y _ fun x H' hq=> ?_⟩;obtain⟨y',D',p1,p2,p3,p4⟩:=bG x H' hq;obtain⟨b1,rfl,_,_⟩:=one x H' hq y' D' p1 p2 p3;rw[a1] at b1;cases b1;simp only;rw[←c8 r3];exact p4
     |all=>simp[eW] at hf
     |mU F'=>simp[eW] at hf
    simp only at k1 k2 k3;rw[(fs x0).1] at k1;refine .inr ⟨k1,k2,?_⟩;refine .inl ⟨g2 .un,h2,back .un _ fun x H' hq=> ?_⟩;rcases cL x H' hq with⟨e1,e2,e3⟩|⟨e1,e2,e3⟩
    ·simp only at e1;rw[(fs x).1,k1] at e1;simp at e1
    simp only;rw[←c8 r3];exact e3
   |_=>rw[B_] at h3;simp only[aj] at h3
 refine(h3.shift r1 r3).mono ?_;rintro e h' ⟨hk,y,rfl⟩;obtain⟨e1,e2⟩:=cU r2 y env;exact .inr ⟨by simp only;rw[e1];exact h1,h2,hk⟩
theorem fX.front {q:Nat×aP×Fp} {l2:List (Nat×aP×Fp)} {k:Env→Hp→Prop}:∀(l1:List (Nat×aP×Fp)) (env:Env) (H:Hp),(∀p∈l1,indep p.2 q.2=true)→fX S (l1++q::l2) env H k →
  fX S (q::(l1++l2)) env H k
 |[],env,H,_,h=>h
 |p::l1,env,H,hi,h=>by
  simp only[Gc,fX] at h ⊢;refine my.swap (hi p (by simp)) (h.mono fun e h' hq=> ?_);have:=fX.front l1 e h' (fun p' zf=>hi p' (by simp[zf])) hq;simpa only[fX] using this
end

def c_ (ops:Array Oper):List (List Nat):=ops.toList.map fun o=>(o.after.toList.filter (Region.binds .any)).map (·.on)
def items:Nat→List aP→List Fp→List (Nat×aP×Fp)
 |_,[],_=>[]
 |n,i::r,fs=>(n,i,fs.headD .no)::items (n+1) r fs.tail
def iu (es:List (List Nat)):List (Nat×aP×Fp)→Bool
 |[]=>true
 |p::r=>r.all (fun q=>(es.getD q.1 []).contains p.1||indep p.2 q.2)&&iu es r
def kh (acc:List (List Nat)):List (List Nat)→List (List Nat)
 |[]=>acc
 |x::r=>kh (acc++[(x.flatMap fun e=>acc.getD e []).foldl (fun a e=>if a.contains e then a else e::a) x]) r
inductive wq (es:List (List Nat)):Nat→Nat→Prop where
 |one {p q:Nat}:p∈es.getD q []→wq es p q
 |more {p r q:Nat}:r∈es.getD q []→wq es p r→wq es p q
def ru {l x:List Nat} {p:Nat} (h:p∈l.foldl (fun a e=>if a.contains e then a else e::a) x):p∈x∨p∈l:=by
 induction l generalizing x with
 |nil=>exact .inl h
 |cons e l ih=>
 simp only[GL] at h;rcases ih h with h|h
 ·split at h
  ·exact .inl h
  rcases FP.1 h with rfl|h
  ·exact .inr (by simp)
  exact .inl h
 exact .inr (by simp[h])
theorem jt (es:List (List Nat)):∀(r acc:List (List Nat)),es.drop acc.length=r→(∀i p,p∈acc.getD i []→wq es p i)→∀i p,p∈(kh acc r).getD i []→wq es p i
 |[],acc,_,h=>by simpa[kh] using h
 |x::r,acc,hd,h=>by
  simp only[kh];have hx:es[acc.length]?=some x:=by
   have:=FK (fun l=>l[0]?) hd;simpa using this
  refine jt es r _ ?_ ?_
  ·rw[Ga,List.length_singleton,←G',hd];rfl
  intro i p hp;rw[Gd] at hp;by_cases hi:i<acc.length
  ·rw[FO hi,←Gd] at hp;exact h i p hp
  rw[FM (by omega)] at hp;by_cases e:i=acc.length
  ·subst e;simp only[GW,GS,Gs] at hp;have Da:es.getD acc.length []=x:=(by rw[Gd,hx];rfl);rcases ru hp with hp|hp
   ·exact .one (by rw[Da];exact hp)
   obtain⟨e,he,hp⟩:=Ic.1 hp;exact .more (by rw[Da];exact he) (h e p hp)
  rw[GD (by simp;omega)] at hp;simp at hp
def rz (es:List (List Nat)) (l:List (Nat×aP×Fp)):Bool:=l.all fun p=>(es.getD p.1 []).all fun e=>decide (e<p.1)
def o_ (is:List aP) (es:List (List Nat)) (fs:List Fp):Bool:=(iu es (items 0 is fs)||iu (kh [] es) (items 0 is fs))&&rz es (items 0 is fs)
theorem fJ {es:List (List Nat)}:∀{l:List (Nat×aP×Fp)},iu es l=true→l.Pairwise fun p q=>p.1∈es.getD q.1 []∨indep p.2 q.2=true
 |[],_=> .nil
 |p::r,h=>by
  simp only[iu,FE,F3,HD,GG,FV] at h;exact .cons h.1 (fJ h.2)
section
variable {K:Kx} {env:Env} {H:Hp} {a:Act} {w:World}
def iV {ops:Array Oper} {listed:Array Bool} {i:Nat}:i∈Region.ready .any ops listed ↔
  i<ops.size∧listed.getD i true=false∧∃o,ops[i]?=some o∧∀e∈o.after,Region.binds .any e=true→listed.getD e.on false=true:=by
 unfold Region.ready;simp only[Ho,List.mem_range,FE,GU];constructor
 ·rintro⟨h1,h2,h3⟩;refine⟨h1,h2,?_⟩;cases ho:ops[i]? with
  |none=>rw[ho] at h3;simp at h3
  |some o=>
  rw[ho] at h3;simp only[F4,Gs] at h3;refine⟨o,rfl,fun e he hb=> ?_⟩;have D_:=Hd.1 h3;have:=D_ e he;simpa[hb] using this
 rintro⟨h1,h2,o,h3,h4⟩;refine⟨h1,h2,?_⟩;rw[h3];simp only[F4,Gs];refine Hd.2 fun e he=> ?_;cases hb:Region.binds .any e with
 |false=>rfl
 |true=>simpa using h4 e he hb
def mY {ops:Array Oper} {i:Nat} {o:Oper} (ho:ops[i]?=some o) {e:Edge} (he:e∈o.after) (hb:Region.binds .any e=true):e.on∈(c_ ops).getD i []:=by
 unfold c_;rw[Gd,F9,GC,ho];simp only[F4,Gs,F2,Ho,Hq];exact⟨e,⟨he,hb⟩,rfl⟩
def pZ {ops:Array Oper} {k:Env→Hp→Prop} {Q:Exit→Act→World→Prop} (hk:∀env' H' β' a' w',k env' H'→au K β' env' H' a' w'→Q .normal a' w') :
  ∀(fuel:Nat) (l:List (Nat×aP×Fp)) (listed:Array Bool) (env:Env) (H:Hp) (a:Act) (w:World) (β:Lb→Option Nat),l.length=fuel →
   l.Pairwise (fun p q=>p.1<q.1)→listed.size=ops.size→(∀i,i<ops.size→(listed.getD i true=false↔∃p∈l,p.1=i)) →
   (∀p∈l,p.1<ops.size∧∃o,ops[p.1]?=some o∧gN K.P K.G ops o=some p.2.1.eH) →
   l.Pairwise (fun p q=>wq (c_ ops) p.1 q.1∨indep p.2 q.2=true)→(∀i,i<ops.size→listed.getD i true=true→∀e∈(c_ ops).getD i [],listed.getD e false=true)→(∀p∈l,∀e∈(c_ ops).getD p.1 [],e<p.1) →
   fX ⟨K.P,K.G,K.N⟩ l env H k→au K β env H a w→wpAny K.P .any ops Q fuel listed a w:=by
 intro fuel;induction fuel with
 |zero=>
  intro l listed env H a w β hlen _ _ hl _ _ _ _ hA hr;have:l=[]:=FH hlen;subst this;refine⟨?_,hk _ _ _ _ _ hA hr⟩;rw[List.eq_nil_iff_forall_not_mem];intro i hi;obtain⟨h1,h2,_⟩:=iV.1 hi;obtain⟨p,hp,_⟩:=(hl i h1).1 h2;simp at hp
 |succ fuel ih=>
 intro l listed env H a w β hlen pa fh hl ui rA hD wu hA hr;refine⟨fun rp=> ?_,fun i hi=> ?_⟩
 ·exfalso;cases l with
  |nil=>simp at hlen
  |cons p r=>
  obtain⟨Db,o,Bu,E5⟩:=ui p (by simp);have:p.1∈Region.ready .any ops listed:=by
   refine iV.2 ⟨Db,(hl p.1 Db).2 ⟨p,by simp,rfl⟩,o,Bu,fun e he hb=> ?_⟩;have cD:=wu p (by simp) e.on (mY Bu he hb);have ka:e.on<ops.size:=(by omega);have fa:¬listed.getD e.on true=false:=by
    rw[hl e.on ka];rintro⟨q,hq,E6⟩;rcases FP.1 hq with rfl|hq
    ·omega
    have:=(H4.1 pa).1 q hq;omega
   rw[FD] at fa ⊢;rw[Gf (by omega)] at fa ⊢;simpa using fa
  rw[rp] at this;simp at this
 obtain⟨h1,h2,o,h3,h4⟩:=iV.1 hi;obtain⟨p,hp,rfl⟩:=(hl i h1).1 h2;obtain⟨l1,l2,rfl⟩:=List.append_of_mem hp;obtain⟨_,o',Dc,eI⟩:=ui p hp;rw[h3] at Dc;cases Dc;have Ca:∀q∈l1,indep q.2 p.2=true:=by
  intro q hq;rcases (Hr.1 rA).2.2 q hq p (by simp) with he|he
  ·exfalso;have As:∀z∈(c_ ops).getD p.1 [],listed.getD z false=true:=by
    intro z he;unfold c_ at he;rw[Gd,F9,GC,h3] at he;simp only[F4,Gs,F2,Ho,Hq] at he;obtain⟨e,⟨Cb,z6⟩,rfl⟩:=he;exact h4 e Cb z6
   have nO:∀z t,wq (c_ ops) z t→listed.getD t false=true→listed.getD z false=true:=by
    intro z t hr;induction hr with
    |@one t hz=>
     intro ht;have Cc:t<ops.size:=by
      rw[FD] at ht;cases hh:listed[t]? with
      |none=>rw[hh] at ht;simp at ht
      |some b=>have:=(FL.1 hh).1;omega
     refine hD t Cc ?_ z hz;rw[FD] at ht ⊢;rw[Gf (by omega)] at ht ⊢;simpa using ht
    |@more r t hz _ ih=>
    intro ht;refine ih ?_;have Cc:t<ops.size:=by
     rw[FD] at ht;cases hh:listed[t]? with
     |none=>rw[hh] at ht;simp at ht
     |some b=>have:=(FL.1 hh).1;omega
    refine hD t Cc ?_ r hz;rw[FD] at ht ⊢;rw[Gf (by omega)] at ht ⊢;simpa using ht
   have wj:listed.getD q.1 false=true:=by
    cases he with
    |one hz=>exact As _ hz
    |more hz hr=>exact nO _ _ hr (As _ hz)
   have zc:=(ui q (by simp[hq])).1;have tk:=(hl q.1 zc).2 ⟨q,by simp[hq],rfl⟩;rw[FD] at wj tk;rw[Gf (by omega)] at wj tk;simp at wj tk;rw[wj] at tk;simp at tk
  exact he
 have Dd:=fX.front l1 env H Ca hA;simp only[fX] at Dd;have fa:∀q∈l1++l2,q.1≠p.1:=by
  intro q hq e;rcases Fz.1 hq with hq|hq
  ·have:=(Hr.1 pa).2.2 q hq p (by simp);omega
  have:=(H4.1 (Hr.1 pa).2.1).1 q hq;omega
 have pD:(l1++l2).Sublist (l1++p::l2):=List.Sublist.append_left (List.sublist_cons_self p l2) l1;have rB:∀q∈l1++l2,q∈l1++p::l2:=fun q hq=>pD.subset hq;have At:∀env' H' β' a' w',fX ⟨K.P,K.G,K.N⟩ (l1++l2) env' H' k→au K β' env' H' a' w'→wpAny K.P .any ops Q fuel (listed.setIfInBounds p.1 true) a' w':=by
  intro env' H' β' a' w' q1 q2;refine ih (l1++l2) _ env' H' a' w' β' (by simp at hlen ⊢;omega) (pa.sublist pD) (by simp[fh]) (fun j hj=> ?_) (fun q hq=>ui q (rB q hq)) (rA.sublist pD) (fun j hj Au e he=> ?_)
   (fun q hq=>wu q (rB q hq)) q1 q2
  rw[FD,GJ];by_cases e:p.1=j
  ·subst e;simp only[Gv];rw[FG (by omega)];simp only[Gs,Bool.true_eq_false,false_iff];rintro⟨q,hq,e⟩;exact fa q hq e
  ·rw[FU e,←FD,hl j hj];constructor
   ·rintro⟨q,hq,rfl⟩;refine⟨q,?_,rfl⟩;simp only[Fz,FP] at hq ⊢;rcases hq with hq|hq|hq
    ·exact .inl hq
    ·subst hq;exact absurd rfl e
    exact .inr hq
   rintro⟨q,hq,rfl⟩;exact⟨q,rB q hq,rfl⟩
  have Ea:∀z,listed.getD z false=true→(listed.setIfInBounds p.1 true).getD z false=true:=by
   intro z hz;rw[FD] at hz ⊢;rw[GJ];split
   ·split<;>simp_all
   exact hz
  apply Ea;by_cases e2:p.1=j
  ·subst e2;unfold c_ at he;rw[Gd,F9,GC,h3] at he;simp only[F4,Gs,F2,Ho,Hq] at he;obtain⟨e,⟨Cb,z6⟩,rfl⟩:=he;exact h4 e Cb z6
  refine hD j hj ?_ e he;rw[FD,GJ,FU e2,←FD] at Au;exact Au
 simp only[wpOp,h3];refine kg hr eI (k:=fun e h=>fX ⟨K.P,K.G,K.N⟩ (l1++l2) e h k) At ?_;rcases Dd with⟨g1,g2,g3⟩|⟨g1,g2,g3⟩
 ·exact .inl ⟨g1,g2,g3.act⟩
 exact .inr ⟨g1,g2,g3⟩
theorem iW:∀(is:List aP) (n:Nat) (fs:List Fp) (p:Nat×aP×Fp),p∈items n is fs→n≤p.1∧is[p.1 - n]?=some p.2.1
 |[],n,fs,p,h=>by simp[items] at h
 |i::r,n,fs,p,h=>by
  simp only[items,FP] at h;rcases h with rfl|h
  ·simp
  obtain⟨h1,h2⟩:=iW r (n+1) _ p h;refine⟨by omega,?_⟩;rw[show p.1 - n=(p.1 - (n+1))+1 by omega];simpa using h2
theorem iw:∀(is:List aP) (n:Nat) (fs:List Fp),(items n is fs).Pairwise fun p q=>p.1<q.1
 |[],n,fs=> .nil
 |i::r,n,fs=>by
  simp only[items];refine .cons (fun q hq=> ?_) (iw r (n+1) _);have:=(iW r (n+1) _ q hq).1;simp only;omega
theorem lh:∀(is:List aP) (n:Nat) (fs:List Fp),(items n is fs).length=is.length
 |[],n,fs=>rfl
 |i::r,n,fs=>by simp[items,lh r]
theorem lj:∀(is:List aP) (n:Nat) (fs:List Fp) (j:Nat),j<is.length→∃p∈items n is fs,p.1=n+j
 |[],n,fs,j,h=>by simp at h
 |i::r,n,fs,0,h=>⟨_,List.mem_cons_self ..,rfl⟩
 |i::r,n,fs,j+1,h=>by
  obtain⟨p,h1,h2⟩:=lj r (n+1) fs.tail j (by simpa using h);exact⟨p,by simp only[items];exact Hi _ h1,by omega⟩
theorem mZ {α β:Type} {R:α→β→Prop}:∀{l:List α} {m:List β},fl R l m→l.length=m.length∧∀(i:Nat) (y:β),m[i]?=some y→∃x,l[i]?=some x∧R x y
 |_,_,.nil=>⟨rfl,by simp⟩
 |_,_,.cons h1 h2=>by
  obtain⟨e,h⟩:=mZ h2;refine⟨by simp[e],fun i y hy=> ?_⟩;cases i with
  |zero=>simp at hy;subst hy;exact⟨_,by simp,h1⟩
  |succ i=>obtain⟨x,q1,q2⟩:=h i y (by simpa using hy);exact⟨x,by simpa using q1,q2⟩
def au.drew {β:Lb→Option Nat} (hr:au K β env H a w):au K β env H a {w with drawn:=w.drawn+1}:=by
 have hg:fW w {w with drawn:=w.drawn+1}:=⟨rfl,rfl,rfl,FJ _,fun _ _=>rfl⟩;have:=hr.step hg (d:=none) (x:= .un) (v:=undef) (by simp) (by simp) (by simp);simpa[bV,Act.put] using this
def m_ {β:Lb→Option Nat} (hr:au K β env H a w) {id:Nat} {ops:Array Oper} (hm:K.P.follows .mixedOrders=true) {is:List aP} {fs:List Fp}
  (bG:fl (fun o i=>gN K.P K.G ops o=some (aP.eH i)) ops.toList is) (ho:o_ is (c_ ops) fs=true) {k:Env→Hp→Prop} {Q:Exit→Act→World→Prop}
  (hk:∀env' H' β' a' w',k env' H'→au K β' env' H' a' w'→Q .normal a' w') (hA:fX ⟨K.P,K.G,K.N⟩ (items 0 is fs) env H k):(Code.region id ops true).wp K.P Q a w:=by
 obtain⟨hlen,fI⟩:=mZ bG;simp only[G0] at hlen;simp only[o_,FE] at ho;obtain⟨xe,zl⟩:=ho;have Eb:(items 0 is fs).Pairwise fun p q=>wq (c_ ops) p.1 q.1∨indep p.2 q.2=true:=by
  rcases Bool.or_eq_true_iff.1 xe with h|h
  ·exact(fJ h).imp fun Cd=>Cd.imp .one (fun h=>h)
  exact(fJ h).imp fun Cd=>Cd.imp (jt _ _ [] rfl (by simp) _ _) (fun h=>h)
 refine wp_region_any hm (pZ hk ops.size (items 0 is fs) _ env H a _ β (by rw[lh];exact hlen.symm) (iw is 0 fs) (by simp) (fun i hi=> ?_) (fun p hp=> ?_)
  Eb (fun i hi Au=> ?_) (fun p hp e he=> ?_) hA hr.drew)
 ·rw[FD,G8,FG hi];simp only[Gs,true_iff];obtain⟨p,h1,h2⟩:=lj is 0 fs i (by omega);exact⟨p,h1,by omega⟩
 ·obtain⟨h1,h2⟩:=iW is 0 fs p hp;simp only[Nat.sub_zero] at h2;obtain⟨o,q1,q2⟩:=fI p.1 _ h2;have:=(Fw.1 h2).1;exact⟨by omega,o,by simpa using q1,q2⟩
 ·rw[FD,G8,FG hi] at Au;simp at Au
 simp only[rz,F3,FV] at zl;exact zl p hp e he
end

inductive Gh where
 |ca (ns:List Nat)
 |zp (l:Lb) (d:Nat)
 |uj (l q:Lb) (j:Nat)
 |own (d sz:Nat)
 |cut (n:Nat)
 |pN
 |De
inductive AC where
 |skip
 |seq (a b:AC)
 |cond (x:O) (a b:AC)
 |block (id:Nat) (c:AC)
 |loop (c:AC)
 |exit (id:Nat)
 |ret
 |fU (is:List aP)
 |ix (is:List aP) (es:List (List Nat)) (fs:List Fp)
 |gh (g:Gh) (c:AC)
abbrev aK (l:List aP) (x:AC):AC:= .seq (.fU l) x
def AC.sz:AC→Nat
 | .seq a b=>a.sz+b.sz+2
 | .cond _ a b=>a.sz+b.sz+2
 | .block _ c=>c.sz+3
 | .loop c=>c.sz+1
 | .gh _ c=>c.sz+1
 |_=>1
inductive It where
 |code (c:AC)
 |lk (id:Nat)
def It.sz:It→Nat
 | .code c=>c.sz
 | .lk _=>1
def ju:List It→Nat
 |[]=>0
 |i::r=>i.sz+ju r
def cy (id:Nat):List It→Option (List It)
 |[]=>none
 | .lk i::r=>if i=id then some r else cy id r
 |_::r=>cy id r
theorem iy {id:Nat}:∀{l r:List It},cy id l=some r→ju r≤ju l
 |[],r,h=>by simp[cy] at h
 | .lk i::l,r,h=>by
  simp only[cy] at h;split at h
  ·cases h;simp[ju]
  have:=iy h;simp only[ju];omega
 | .code c::l,r,h=>by
  simp only[cy] at h;have:=iy h;simp only[ju];omega
def AC.rC (c:AC):0<c.sz:=by cases c<;>simp[AC.sz]
def ki (ns:List Nat) (env:Env):Env:=fun n=>if n∈ns then env n else .any
abbrev eQ:=Exit→Env→Hp→Prop
end Go.Am
