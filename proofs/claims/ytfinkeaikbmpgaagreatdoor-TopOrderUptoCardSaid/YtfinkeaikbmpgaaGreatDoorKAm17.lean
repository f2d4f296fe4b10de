import Derived.Test.YtfinkeaikbmpgaaGreatDoorKAm12
set_option linter.unusedSimpArgs false
set_option linter.unusedVariables false
set_option linter.unnecessarySimpa false
set_option linter.defProp false
/- THE ABSTRACT MACHINE, part 17: regions whose order is drawn. -/
namespace Go.Am
open Go Go.RowKit
def eF.os:eF→List O
 | .nE x| .Mq x _| .len x| .lens x| .not x| .neg x| .ext x _| .zM x _ _| .BK x| .dc x| .Dh _ x| .u6 x| .QE x| .Ms x| .Di _ x| .load _ x| .box x| .Kk _ x| .cap x| .Ek x _ _| .zN x _ _=>[x]
 | .pick c a b=>[c,a,b]
 | .Dg x i _| .vd x i| .ME x i _ _=>[x,i]
 | .qd x lo hi mx _=>x::(lo.toList++hi.toList++mx.toList)
 | .ot x lo hi=>x::(lo.toList++hi.toList)
 | .bin _ x y| .Mr _ x y| .Kj _ x y| .Qn _ x y| .zc _ _ x y| .max x y| .min x y| .store _ x y| .app x y _ _| .xw x y _ _| .zO x y _ _ _| .xu x y _=>[x,y]
 | .oa _ ps=>ps.map (·.2.2)
 | .lits _ _ _ ps=>ps.map (·.2)
 | .ou _ _ ps=>ps.map (·.2)
 | .Qp _ qs cs=>qs++cs
 | .Qo _ cs=>cs
 | .new _=>[]
 | .stuck=>[]
 | .Ej n c _ _ _=>[n,c]
 | .call _ args=>args
 | .o3 _ args=>args
 | .jH x args=>x::args
def O.us:O→List Nat
 | .t n=>[n]
 | .c _=>[]
def dD.us (i:dD):List Nat:=i.i.os.flatMap O.us++(match i.g with|some (s,_)=>[s]|none=>[])
def Vi {env:Env} {d:Option Nat} {y:AV} {x:O} (h:∀n,d=some n→n∉x.us):ev (iw env d y) x=ev env x:=by
 cases x with
 |c x=>rfl
 |t n=>
 cases d with
 |none=>rfl
 |some m=>
 have:=h m rfl;simp[O.us] at this;simp[ev,iw,put,aef this]
section
variable {env env':Env}
def ow {o:Option O} (h:∀x∈o.toList,ev env x=ev env' x) (m n:Nat):mW env o m n=mW env' o m n:=by
 cases o with
 |none=>rfl
 |some x=>simp only[mW];rw[h x (by simp)]
def KC {lo hi mx:Option O} (h:∀x∈lo.toList++hi.toList++mx.toList,ev env x=ev env' x) (n:Nat):rK env lo hi mx n=rK env' lo hi mx n:=by
 have h1:=fun m n=>ow (o:=lo) (fun x hx=>h x (by simp at hx ⊢;simp[hx])) m n;have h2:=fun m n=>ow (o:=hi) (fun x hx=>h x (by simp at hx ⊢;simp[hx])) m n;have h3:=fun m n=>ow (o:=mx) (fun x hx=>h x (by simp at hx ⊢;simp[hx])) m n;cases mx with
 |none=>simp only[rK,h1,h2]
 |some m=>simp only[rK,h1,h2,h3]
def KD {lo hi mx:Option O} (h:∀x∈lo.toList++hi.toList++mx.toList,ev env x=ev env' x) (n c:Nat):oR env lo hi mx n c=oR env' lo hi mx n c:=by
 have h1:=fun m n=>ow (o:=lo) (fun x hx=>h x (by simp at hx ⊢;simp[hx])) m n;have h2:=fun m n=>ow (o:=hi) (fun x hx=>h x (by simp at hx ⊢;simp[hx])) m n;have h3:=fun m n=>ow (o:=mx) (fun x hx=>h x (by simp at hx ⊢;simp[hx])) m n;cases mx with
 |none=>simp only[oR,h1,h2]
 |some m=>simp only[oR,h1,h2,h3]
def mI {i:eF} (h:∀x∈i.os,ev env x=ev env' x):aj i env=aj i env':=by
 cases i with
 |qd x lo hi mx sz=>
  simp only[aj];rw[h x (by simp[eF.os])];have:=KC (env:=env) (env':=env') (lo:=lo) (hi:=hi) (mx:=mx) (fun y hy=>h y (by simp only[eF.os,adz];exact .inr hy));have Zk:=KD (env:=env) (env':=env') (lo:=lo) (hi:=hi) (mx:=mx) (fun y hy=>h y (by simp only[eF.os,adz];exact .inr hy));unfold nG;simp only[this,Zk]
 |ot x lo hi=>
  simp only[aj];rw[h x (by simp[eF.os])];have h1:=fun m n=>ow (env:=env) (env':=env') (o:=lo) (fun y hy=>h y (by simp only[eF.os,adz,adD];exact .inr (.inl hy))) m n;have h2:=fun m n=>ow (env:=env) (env':=env') (o:=hi) (fun y hy=>h y (by simp only[eF.os,adz,adD];exact .inr (.inr hy))) m n;simp only[h1,h2]
 |oa z ps=>
  simp only[aj];have:(ps.map fun p=>(p.1,p.2.1,ev env p.2.2))=ps.map fun p=>(p.1,p.2.1,ev env' p.2.2):=
   aej fun p hp=>by rw[h p.2.2 (by simp only[eF.os];exact afd (f:=fun p:Nat×Nat×O=>p.2.2) hp)]
  rw[this]
 |lits n sz z ps=>
  simp only[aj];have:(ps.map fun p=>(p.1*sz,sz,ev env p.2))=ps.map fun p=>(p.1*sz,sz,ev env' p.2):=
   aej fun p hp=>by rw[h p.2 (by simp only[eF.os];exact afd (f:=fun p:Nat×O=>p.2) hp)]
  rw[this]
 |Qo f cap=>
  simp only[aj];have:cap.map (ev env)=cap.map (ev env'):=aej fun p hp=>h p (by simpa[eF.os] using hp);rw[this]
 |call f args=>rfl
 |jH x args=>rfl
 |o3 f args=>rfl
 |zO s n sz b z=>rfl
 |ou sz z ps=>rfl
 |Qp f qs cs=>
  simp only[aj];have h1:qs.map (ev env)=qs.map (ev env'):=aej fun p hp=>h p (by simp only[eF.os,adD];exact .inl hp);have h2:cs.map (ev env)=cs.map (ev env'):=aej fun p hp=>h p (by simp only[eF.os,adD];exact .inr hp);rw[h1,h2]
 |cap x=>rfl
 |Ek x sz z=>rfl
 |zN x n sz=>simp only[aj,h x (by simp[eF.os])]
 |xw x y sz b=>simp only[aj,h x (by simp[eF.os]),h y (by simp[eF.os])]
 |Kk n x=>rfl
 |new cs=>rfl
 |pick c a b=>simp only[aj,h c (by simp[eF.os]),h a (by simp[eF.os]),h b (by simp[eF.os])]
 |Ej n c sz b z=>rfl
 |store m a x=>rfl
 |app s x sz b=>rfl
 |xu s x sz=>rfl
 |box x=>rfl
 |Ms x=>simp only[aj,h x (by simp[eF.os])]
 |ME x i n sz=>simp only[aj,h x (by simp[eF.os]),h i (by simp[eF.os])]
 |Dg x i sz=>simp only[aj,h x (by simp[eF.os]),h i (by simp[eF.os])]
 |vd x i=>simp only[aj,h x (by simp[eF.os]),h i (by simp[eF.os])]
 |bin op x y=>simp only[aj,h x (by simp[eF.os]),h y (by simp[eF.os])]
 |Mr n x y=>simp only[aj,h x (by simp[eF.os]),h y (by simp[eF.os])]
 |Kj n x y=>simp only[aj,h x (by simp[eF.os]),h y (by simp[eF.os])]
 |Qn n x y=>simp only[aj,h x (by simp[eF.os]),h y (by simp[eF.os])]
 |zc n ks x y=>simp only[aj,h x (by simp[eF.os]),h y (by simp[eF.os])]
 |max x y=>simp only[aj,h x (by simp[eF.os]),h y (by simp[eF.os])]
 |min x y=>simp only[aj,h x (by simp[eF.os]),h y (by simp[eF.os])]
 |nE x=>simp only[aj,h x (by simp[eF.os])]
 |Mq x o=>simp only[aj,h x (by simp[eF.os])]
 |len x=>simp only[aj,h x (by simp[eF.os])]
 |lens x=>simp only[aj,h x (by simp[eF.os])]
 |not x=>simp only[aj,h x (by simp[eF.os])]
 |neg x=>simp only[aj,h x (by simp[eF.os])]
 |ext x i=>simp only[aj,h x (by simp[eF.os])]
 |zM x o m=>simp only[aj,h x (by simp[eF.os])]
 |BK x=>simp only[aj,h x (by simp[eF.os])]
 |dc x=>simp only[aj,h x (by simp[eF.os])]
 |stuck=>rfl
 |Dh k x=>simp only[aj,h x (by simp[eF.os])]
 |u6 x=>simp only[aj,h x (by simp[eF.os])]
 |QE x=>simp only[aj,h x (by simp[eF.os])]
 |Di t x=>simp only[aj,h x (by simp[eF.os])]
 |load m x=>simp only[aj,h x (by simp[eF.os])]
def KE {S:St} {d:Option Nat} {i:eF} (h:∀x∈i.os,ev env x=ev env' x) {H:Hp} {k:AV→Hp→Prop} (ha:cT S d i env H k):cT S d i env' H k:=by
 have hs:=mI h;cases i with
 |load m x=>
  simp only[cT] at ha ⊢;rw[←hs,←h x (by simp[eF.os])];exact ha
 |box x=>
  simp only[cT] at ha ⊢;rw[←h x (by simp[eF.os])];exact ha
 |new cs=>exact ha
 |store m x y=>
  simp only[cT] at ha ⊢;rw[←h x (by simp[eF.os]),←h y (by simp[eF.os])];exact ha
 |app x y sz b=>
  simp only[cT] at ha ⊢;rw[←h x (by simp[eF.os]),←h y (by simp[eF.os])];exact ha
 |call f args=>
  simp only[cT] at ha ⊢;have:args.map (ev env)=args.map (ev env'):=aej fun p hp=>h p (by simpa[eF.os] using hp);rw[←this];exact ha
 |Kk n x=>
  simp only[cT] at ha ⊢;rw[←h x (by simp[eF.os])];exact ha
 |zO x y sz b z=>
  simp only[cT] at ha ⊢;rw[←h x (by simp[eF.os]),←h y (by simp[eF.os])];exact ha
 |ou sz z ps=>
  simp only[cT] at ha ⊢;have:(ps.map fun p=>(p.1,ev env p.2))=ps.map fun p=>(p.1,ev env' p.2):=
   aej fun p hp=>by rw[h p.2 (by simp only[eF.os];exact afd (f:=fun p:Nat×O=>p.2) hp)]
  rw[←this];exact ha
 |cap x=>
  simp only[cT] at ha ⊢;rw[←h x (by simp[eF.os])];exact ha
 |Ek x sz z=>
  simp only[cT] at ha ⊢;rw[←h x (by simp[eF.os])];exact ha
 |xu x y sz=>
  simp only[cT] at ha ⊢;rw[←h x (by simp[eF.os]),←h y (by simp[eF.os])];exact ha
 |Ej n c sz b z=>
  simp only[cT] at ha ⊢;rw[←h n (by simp[eF.os]),←h c (by simp[eF.os])];exact ha
 |o3 f args=>
  simp only[cT] at ha ⊢;have:args.map (ev env)=args.map (ev env'):=aej fun p hp=>h p (by simpa[eF.os] using hp);rw[←this];exact ha
 |jH x args=>
  simp only[cT] at ha ⊢;have:args.map (ev env)=args.map (ev env'):=aej fun p hp=>h p (by simp only[eF.os,adz];exact .inr hp);rw[←this,←h x (by simp[eF.os])];exact ha
 |_=>simp only[cT] at ha ⊢;rw[←hs];exact ha
end
inductive Fp where
 |no
 |rw (rs ws:List Lb)
 |all
 |vj (fs:List Lb)
def j4:AV→List Lb
 | .ptr l _ _ _=>[l]
 | .sl l _ _ _=>[l]
 | .slk l _ _ _ _=>[l]
 |_=>[]
open Classical in
noncomputable def iK (d:Option Nat) (i:eF) (env:Env) (H:Hp):Option (AV×Hp):=
 match i with
 | .load m a=>(jR m (ev env a) H).map fun x=>(x,H)
 | .box x=>d.bind fun n=>if H (.loc n)= .unused∧(ev env x).GF=true∧0<(ev env x).cells.length∧(ev env x).cells.length≤maxLen then
  some (.ptr (.loc n) (ev env x).cells.length 0 0,bF H (.loc n) (.live ⟨(ev env x).cells.length,[(ev env x).cells]⟩)) else none
 | .new cs=>d.bind fun n=>if H (.loc n)= .unused∧0<cs.length∧cs.length≤maxLen then
  some (.ptr (.loc n) cs.length 0 0,bF H (.loc n) (.live ⟨cs.length,[cs]⟩)) else none
 | .store m a x=>if d=none then(pE m (ev env a) (ev env x) H).map fun H'=>(.un,H') else none
 | .app s x sz bytes=>d.bind fun n=>nH sz bytes n (ev env s) (ev env x) H
 | .xu s x sz=>Dr sz (ev env s) (ev env x) H
 | .ou sz z ps=>d.bind fun q=>Dt sz q z (ps.map fun p=>(p.1,ev env p.2)) H
 | .Ek x sz z=>(Ds sz z (ev env x) H).map fun H'=>(.dM [],H')
 | .Ej n c sz b z=>d.bind fun q=>z8 sz b q z (ev env n) (ev env c) H
 |_=>none
def fY (i:eF) (env:Env):List Lb:=
 match i with
 | .load _ a=>j4 (ev env a)
 | .app _ x _ _=>j4 (ev env x)
 | .xu _ x _=>j4 (ev env x)
 |_=>[]
def bc (d:Option Nat) (i:eF) (env:Env):List Lb:=
 match i with
 | .box _| .new _| .ou _ _ _| .Ej _ _ _ _ _=>d.toList.map .loc
 | .store _ a _=>j4 (ev env a)
 | .app s _ _ _=>match ev env s with
  | .sl l _ _ _=>l::d.toList.map l.app
  | .slk l _ _ _ _=>l::d.toList.map .loc
  |_=>d.toList.map .loc
 | .xu s _ _=>j4 (ev env s)
 | .Ek x _ _=>j4 (ev env x)
 |_=>[]
def KF {m:Option Nat} {x:AV} {H H1:Hp} {y:AV} (h:jR m x H=some y) (ha:∀l∈j4 x,H1 l=H l):jR m x H1=some y:=by
 cases x with
 |ptr l sz i j=>simp only[jR,ha l (by simp[j4])] at h ⊢;exact h
 |_=>simp[jR] at h
def EO {sz:Nat} {x:AV} {H H1:Hp} (ha:∀l∈j4 x,H1 l=H l):oT sz x H1=oT sz x H:=by
 cases x with
 |sl l s i n=>simp only[oT,ha l (by simp[j4])]
 |slk l s i n c=>simp only[oT,ha l (by simp[j4])]
 |_=>rfl
def EP {x:AV} {p:Lb×Nat×Nat×Nat} (h:TJ x=some p):j4 x=[p.1]:=by
 cases x<;>simp[TJ] at h
 all_goals (subst h;rfl)
def tc {d:Option Nat} {i:eF} {env:Env} {H H' H1:Hp} {x:AV} (h:iK d i env H=some (x,H')) (ha:∀l,l∈fY i env∨l∈bc d i env→H1 l=H l) :
  ∃H1',iK d i env H1=some (x,H1')∧(∀l∈bc d i env,H1' l=H' l)∧∀l,l∉bc d i env→H1' l=H1 l:=by
 cases i with
 |load m a=>
  simp only[iK,ag4,adJ] at h ⊢;obtain⟨y,h1,rfl,rfl⟩:=h;exact⟨H1,⟨y,KF h1 (fun l hl=>ha l (.inl hl)),rfl,rfl⟩,by simp[bc],fun _ _=>rfl⟩
 |box y=>
  simp only[iK] at h ⊢;obtain⟨n,rfl,h0⟩:=cB h
  replace h:=h0
  clear h0;split at h
  ·rename_i hc;simp only[jl,adJ] at h;obtain⟨rfl,rfl⟩:=h;have e:=ha (.loc n) (.inr (by simp[bc]));refine⟨_,by simp only[adA];rw[adv (by rw[e];exact hc)],fun l hl=> ?_,fun l hl=> ?_⟩
   ·simp[bc] at hl;subst hl;simp
   simp[bc] at hl;rw[ax _ _ hl]
  simp at h
 |new cs=>
  simp only[iK] at h ⊢;obtain⟨n,rfl,h0⟩:=cB h
  replace h:=h0
  clear h0;split at h
  ·rename_i hc;simp only[jl,adJ] at h;obtain⟨rfl,rfl⟩:=h;have e:=ha (.loc n) (.inr (by simp[bc]));refine⟨_,by simp only[adA];rw[adv (by rw[e];exact hc)],fun l hl=> ?_,fun l hl=> ?_⟩
   ·simp[bc] at hl;subst hl;simp
   simp[bc] at hl;rw[ax _ _ hl]
  simp at h
 |store m a y=>
  simp only[iK] at h ⊢;split at h
  ·rename_i hd;rw[adv hd];simp only[ag4,adJ] at h ⊢;obtain⟨H2,h1,rfl,rfl⟩:=h;unfold pE at h1 ⊢;split at h1
   ·rename_i l sz i j e;have e2:=ha l (.inr (by simp[bc,e,j4]));simp only[e,e2];split at h1
    ·rename_i r hr
     try simp only[hr]
     split at h1
     ·rename_i hc;rw[adv hc];obtain⟨cs,hi,h1⟩:=adx.1 h1;split at h1
      ·rename_i hj;simp only[jl] at h1;subst h1;refine⟨_,⟨_,by rw[hi,adA,adv hj],trivial,rfl⟩,fun q hq=> ?_,fun q hq=> ?_⟩
       ·simp[bc,e,j4] at hq;subst hq;simp
       simp[bc,e,j4] at hq;rw[ax _ _ hq]
      simp at h1
     simp at h1
    simp at h1
   simp at h1
  simp at h
 |app s y sz bytes=>
  simp only[iK] at h ⊢;obtain⟨n,rfl,h0⟩:=cB h
  replace h:=h0
  clear h0;simp only[adA];unfold nH at h ⊢;obtain⟨news,h1,h0⟩:=cB h
  replace h:=h0
  clear h0;rw[EO (fun l hl=>ha l (.inl hl))];simp only[h1,adA];split at h
  ·simp at h
  rename_i mY;rw[ag8 mY];split at h
  ·rename_i e
   try simp only[e]
   split at h
   ·rename_i hc;simp only[jl,adJ] at h;obtain⟨rfl,rfl⟩:=h;have e2:=ha (.loc n) (.inr (by simp[bc,e]));refine⟨_,by rw[adv (by rw[e2];exact hc)],fun l hl=> ?_,fun l hl=> ?_⟩
    ·simp[bc,e] at hl;subst hl;simp
    simp[bc,e] at hl;rw[ax _ _ hl]
   simp at h
  ·rename_i l s' i0 m e;have e1:=ha l (.inr (by simp[bc,e]));have e2:=ha (l.app n) (.inr (by simp[bc,e]));simp only[e1];split at h
   ·rename_i r hr
    try simp only[hr]
    split at h
    ·rename_i hc;simp only[jl,adJ] at h;obtain⟨rfl,rfl⟩:=h;refine⟨_,by rw[adv (by rw[e2];exact hc)],fun q hq=> ?_,fun q hq=> ?_⟩
     ·simp[bc,e] at hq;unfold bF;by_cases q1:q=l.app n
      ·simp[q1]
      rcases hq with hq|hq
      ·simp[hq]
      exact absurd hq q1
     simp[bc,e] at hq;rw[ax _ _ hq.2,ax _ _ hq.1]
    simp at h
   simp at h
  ·rename_i l s' i0 m c e;have e1:=ha l (.inr (by simp[bc,e]));have e2:=ha (.loc n) (.inr (by simp[bc,e]));simp only[e1];split at h
   ·rename_i r hr
    try simp only[hr]
    split at h
    ·rename_i hc;rw[adv hc];split at h
     ·rename_i hf;rw[adv hf];split at h
      ·rename_i GJ;rw[adv GJ];simp only[jl,adJ] at h;obtain⟨rfl,rfl⟩:=h;refine⟨_,rfl,fun q hq=> ?_,fun q hq=> ?_⟩
       ·simp[bc,e] at hq;by_cases q1:q=l
        ·subst q1;simp
        rw[ax _ _ q1,ax _ _ q1];rcases hq with hq|hq
        ·exact absurd hq q1
        subst hq;exact e2
       simp[bc,e] at hq;rw[ax _ _ hq.1]
      simp at h
     rename_i hf;rw[ag8 hf];split at h
     ·rename_i GJ;rw[e2,adv GJ];simp only[jl,adJ] at h;obtain⟨rfl,rfl⟩:=h;refine⟨_,rfl,fun q hq=> ?_,fun q hq=> ?_⟩
      ·simp[bc,e] at hq;by_cases q1:q= .loc n
       ·subst q1;simp
       rw[ax _ _ q1,ax _ _ q1];rcases hq with hq|hq
       ·subst hq;exact e1
       exact absurd hq q1
      simp[bc,e] at hq;rw[ax _ _ hq.2]
     simp at h
    simp at h
   simp at h
  simp at h
 |ou sz z ps=>
  simp only[iK] at h ⊢;obtain⟨n,rfl,h0⟩:=cB h
  replace h:=h0
  clear h0;simp only[adA];unfold Dt at h ⊢;obtain⟨cs,h1,h0⟩:=cB h
  replace h:=h0
  clear h0;rw[h1,adA];split at h
  ·rename_i hc;simp only[jl,adJ] at h;obtain⟨rfl,rfl⟩:=h;have e:=ha (.loc n) (.inr (by simp[bc]));refine⟨_,by rw[adv (by rw[e];exact hc)],fun l hl=> ?_,fun l hl=> ?_⟩
   ·simp[bc] at hl;subst hl;simp
   simp[bc] at hl;rw[ax _ _ hl]
  simp at h
 |Ej x y sz b z=>
  simp only[iK] at h ⊢;obtain⟨n,rfl,h0⟩:=cB h
  replace h:=h0
  clear h0;simp only[adA];unfold z8 at h ⊢;split at h
  ·split at h
   ·rename_i hc;simp only[jl,adJ] at h;obtain⟨rfl,rfl⟩:=h;have e:=ha (.loc n) (.inr (by simp[bc]));refine⟨_,by rw[adv (by rw[e];exact hc)],fun l hl=> ?_,fun l hl=> ?_⟩
    ·simp[bc] at hl;subst hl;simp
    simp[bc] at hl;rw[ax _ _ hl]
   simp at h
  simp at h
 |xu s y sz=>
  simp only[iK] at h ⊢;unfold Dr at h ⊢;obtain⟨news,h1,h0⟩:=cB h
  replace h:=h0
  clear h0;rw[EO (fun l hl=>ha l (.inl hl))];simp only[h1,adA];obtain⟨p,hp,h0⟩:=cB h
  replace h:=h0
  clear h0;simp only[hp,adA];split at h
  ·simp at h
  rename_i mY;rw[ag8 mY];have hw:bc d (.xu s y sz) env=[p.1]:=by simp only[bc];exact EP hp
  have e1:=ha p.1 (.inr (by rw[hw];simp));simp only[e1];split at h
  ·rename_i r hr
   try simp only[hr]
   split at h
   ·rename_i hc;rw[adv hc];simp only[jl,adJ] at h;obtain⟨rfl,rfl⟩:=h;refine⟨_,rfl,fun q hq=> ?_,fun q hq=> ?_⟩
    ·rw[hw] at hq;simp at hq;subst hq;simp
    rw[hw] at hq;simp at hq;rw[ax _ _ hq]
   simp at h
  simp at h
 |Ek y sz z=>
  simp only[iK,ag4,adJ] at h ⊢;obtain⟨H2,h,rfl,rfl⟩:=h;unfold Ds at h ⊢;split at h
  ·simp at h
  rename_i mY;obtain⟨p,hp,h0⟩:=cB h
  replace h:=h0
  clear h0;have hw:bc d (.Ek y sz z) env=[p.1]:=by simp only[bc];exact EP hp
  have e1:=ha p.1 (.inr (by rw[hw];simp));split at h
  ·rename_i r hr;split at h
   ·rename_i hc;simp only[jl] at h;subst h;refine⟨_,⟨_,by rw[ag8 mY,hp];simp only[adA,e1,hr];rw[adv hc],rfl,rfl⟩,fun q hq=> ?_,fun q hq=> ?_⟩
    ·rw[hw] at hq;simp at hq;subst hq;simp
    rw[hw] at hq;simp at hq;rw[ax _ _ hq]
   simp at h
  simp at h
 |_=>simp[iK] at h
def nT {d:Option Nat} {i:eF} {env:Env} {H H':Hp} {x:AV} (h:iK d i env H=some (x,H')):∀l,l∉bc d i env→H' l=H l:=by
 obtain⟨H1',h1,_,h3⟩:=tc h (H1:=H) (fun _ _=>rfl);rw[h] at h1;simp only[jl,adJ] at h1;obtain⟨_,rfl⟩:=h1;exact h3
def pj {d:Option Nat} {i:eF} {env env':Env} (h:∀x∈i.os,ev env x=ev env' x) (H:Hp):iK d i env H=iK d i env' H∧fY i env=fY i env'∧bc d i env=bc d i env':=by
 cases i with
 |load m x=>simp only[iK,fY,bc];rw[h x (by simp[eF.os])];simp
 |box x=>simp only[iK,fY,bc];rw[h x (by simp[eF.os])];simp
 |store m x y=>simp only[iK,fY,bc];rw[h x (by simp[eF.os]),h y (by simp[eF.os])];simp
 |app x y sz b=>simp only[iK,fY,bc];rw[h x (by simp[eF.os]),h y (by simp[eF.os])];simp
 |xu x y sz=>simp only[iK,fY,bc];rw[h x (by simp[eF.os]),h y (by simp[eF.os])];simp
 |ou sz z ps=>
  simp only[iK,fY,bc];have:(ps.map fun p=>(p.1,ev env p.2))=ps.map fun p=>(p.1,ev env' p.2):=
   aej fun p hp=>by rw[h p.2 (by simp only[eF.os];exact afd (f:=fun p:Nat×O=>p.2) hp)]
  rw[this];simp
 |Ek x sz z=>simp only[iK,fY,bc];rw[h x (by simp[eF.os])];simp
 |Ej n c sz b z=>simp only[iK,fY,bc];rw[h n (by simp[eF.os]),h c (by simp[eF.os])];simp
 |_=>simp[iK,fY,bc]
end Go.Am

namespace Go.Am
open Go Go.RowKit
def Quiet (S:St) (i:eF) (env:Env) (res:AV):Prop:=
 match i with
 | .call f args=>aw S.P S.G f (args.map (ev env)) res
 | .jH x args=>∃f first cap,ev env x= .fn f first cap∧jQ S.P f=true∧aw S.P S.G f (first++args.map (ev env)++cap) res
 |_=>False
def Zl (S:St) (F:List Lb) (f:Nat) (args:List AV) (H:Hp) (k:AV→Hp→Prop):Prop:=
 ∃Q:AV→Hp→Prop,sM S f args H Q∧(∃x H',Q x H')∧∀x H',Q x H'→(∀l:Lb,l.kQ∈F→H' l=H l)∧k x H'
def a_ (S:St) (fp:Fp) (d:Option Nat) (i:eF) (env:Env) (H:Hp) (k:AV→Hp→Prop):Prop:=
 match fp with
 | .no=>∃x,(aj i env=some x∨Quiet S i env x)∧k x H
 | .rw R W=>∃x H',iK d i env H=some (x,H')∧(∀l∈fY i env,l.kQ∈R∨l.kQ∈W)∧(∀l∈bc d i env,l.kQ∈W)∧k x H'
 | .all=>cT S d i env H k
 | .vj F=>match i with
  | .call f args=>Zl S F f (args.map (ev env)) H k
  |_=>False
def sM.mono {S:St} {f:Nat} {args:List AV} {H:Hp} {k k':AV→Hp→Prop} (hk:∀x H,k x H→k' x H) (h:sM S f args H k):sM S f args H k':=by
 rcases h with⟨res,h1,h2⟩|⟨dG,res,h1,h2,h3,h4⟩|⟨ρ,qm,dG,Q,h1,h2,h3,h4,h5,h6,h7,h8,h9⟩
 ·exact .inl ⟨res,h1,hk _ _ h2⟩
 ·exact .inr (.inl ⟨dG,res,h1,h2,h3,hk _ _ h4⟩)
 refine .inr<| .inr ⟨ρ,qm,dG,Q,h1,h2,h3,h4,h5,h6,h7,h8,fun x H' hq=> ?_⟩;obtain⟨ρ',m_,q1,q2,q3,q4,q5,q6,q7,q8,q9⟩:=h9 x H' hq;exact⟨ρ',m_,q1,q2,q3,q4,q5,q6,q7,q8,hk _ _ q9⟩
def cT.mono {S:St} {d:Option Nat} {i:eF} {env:Env} {H:Hp} {k k':AV→Hp→Prop} (hk:∀x H,k x H→k' x H) (h:cT S d i env H k):cT S d i env H k':=by
 cases i with
 |load m a=>
  simp only[cT] at h ⊢;rcases h with⟨x,h1,h2⟩|⟨x,h1,h2⟩
  ·exact .inl ⟨x,h1,hk _ _ h2⟩
  exact .inr ⟨x,h1,hk _ _ h2⟩
 |box x=>
  simp only[cT] at h ⊢;obtain⟨n,h1,h2,h3,h4,h5,h6⟩:=h;exact⟨n,h1,h2,h3,h4,h5,hk _ _ h6⟩
 |new cs=>
  simp only[cT] at h ⊢;obtain⟨n,h1,h2,h3,h4,h5⟩:=h;exact⟨n,h1,h2,h3,h4,hk _ _ h5⟩
 |store m a x=>
  simp only[cT] at h ⊢;obtain⟨h1,H',h2,h3⟩:=h;exact⟨h1,H',h2,hk _ _ h3⟩
 |app s x sz b=>
  simp only[cT] at h ⊢;obtain⟨n,h1,y,H',h2,h3⟩:=h;exact⟨n,h1,y,H',h2,hk _ _ h3⟩
 |call f args=>exact sM.mono hk h
 |Kk n x=>
  simp only[cT] at h ⊢;obtain⟨bs,h1,h2⟩:=h;exact⟨bs,h1,fun b hb=>hk _ _ (h2 b hb)⟩
 |zO s n sz b z=>
  simp only[cT] at h ⊢;obtain⟨q,h1,y,H',h2,h3⟩:=h;exact⟨q,h1,y,H',h2,hk _ _ h3⟩
 |ou sz z ps=>
  simp only[cT] at h ⊢;obtain⟨q,h1,y,H',h2,h3⟩:=h;exact⟨q,h1,y,H',h2,hk _ _ h3⟩
 |cap x=>
  simp only[cT] at h ⊢;obtain⟨R,h1,h2⟩:=h;exact⟨R,h1,fun m hm hm2=>hk _ _ (h2 m hm hm2)⟩
 |xu s x sz=>
  simp only[cT] at h ⊢;obtain⟨y,H',h1,h2⟩:=h;exact⟨y,H',h1,hk _ _ h2⟩
 |Ek x sz z=>
  simp only[cT] at h ⊢;obtain⟨H',h1,h2⟩:=h;exact⟨H',h1,hk _ _ h2⟩
 |Ej n c sz b z=>
  simp only[cT] at h ⊢;obtain⟨q,h1,y,H',h2,h3⟩:=h;exact⟨q,h1,y,H',h2,hk _ _ h3⟩
 |o3 f args=>
  simp only[cT] at h ⊢;obtain⟨res,h1,h2⟩:=h;exact⟨res,h1,hk _ _ h2⟩
 |jH x args=>
  simp only[cT] at h ⊢;obtain⟨f,first,cap,h1,h2,h3⟩:=h
  exact⟨f,first,cap,h1,h2,sM.mono hk h3⟩
 |_=>
 simp only[cT] at h ⊢;obtain⟨x,h1,h2⟩:=h;exact⟨x,h1,hk _ _ h2⟩
def a_.mono {S:St} {fp:Fp} {d:Option Nat} {i:eF} {env:Env} {H:Hp} {k k':AV→Hp→Prop} (hk:∀x H,k x H→k' x H) (h:a_ S fp d i env H k):a_ S fp d i env H k':=by
 cases fp with
 |no=>obtain⟨x,h1,h2⟩:=h;exact⟨x,h1,hk _ _ h2⟩
 |rw R W=>obtain⟨x,H',h1,h2,h3,h4⟩:=h;exact⟨x,H',h1,h2,h3,hk _ _ h4⟩
 |all=>exact cT.mono hk h
 |vj F=>
 cases i<;>simp only[a_] at h ⊢;obtain⟨Q,h1,h2,h3⟩:=h;exact⟨Q,h1,h2,fun x H' hq=>⟨(h3 x H' hq).1,hk _ _ (h3 x H' hq).2⟩⟩
def a_.act {S:St} {fp:Fp} {d:Option Nat} {i:eF} {env:Env} {H:Hp} {k:AV→Hp→Prop} (h:a_ S fp d i env H k):cT S d i env H k:=by
 cases fp with
 |all=>exact h
 |vj F=>
  cases i<;>simp only[a_] at h;obtain⟨Q,h1,h2,h3⟩:=h;exact sM.mono (fun x H' hq=>(h3 x H' hq).2) h1
 |no=>
  obtain⟨x,h1,h2⟩:=h;cases i with
  |load m a=>
   rcases h1 with h1|h1
   ·exact .inl ⟨x,h1,h2⟩
   exact absurd h1 (by simp[Quiet])
  |call f args=>
   rcases h1 with h1|h1
   ·simp[aj] at h1
   exact .inl ⟨x,h1,h2⟩
  |jH y args=>
   rcases h1 with h1|⟨f,first,cap,e1,e2,e3⟩
   ·simp[aj] at h1
   exact⟨f,first,cap,e1,e2,.inl ⟨x,e3,h2⟩⟩
  |box _=>rcases h1 with h1|h1<;>simp[aj,Quiet] at h1
  |Kk _ _=>rcases h1 with h1|h1<;>simp[aj,Quiet] at h1
  |new _=>rcases h1 with h1|h1<;>simp[aj,Quiet] at h1
  |store _ _ _=>rcases h1 with h1|h1<;>simp[aj,Quiet] at h1
  |app _ _ _ _=>rcases h1 with h1|h1<;>simp[aj,Quiet] at h1
  |cap _=>rcases h1 with h1|h1<;>simp[aj,Quiet] at h1
  |zO _ _ _ _ _=>rcases h1 with h1|h1<;>simp[aj,Quiet] at h1
  |ou _ _ _=>rcases h1 with h1|h1<;>simp[aj,Quiet] at h1
  |xu _ _ _=>rcases h1 with h1|h1<;>simp[aj,Quiet] at h1
  |Ek _ _ _=>rcases h1 with h1|h1<;>simp[aj,Quiet] at h1
  |Ej _ _ _ _ _=>rcases h1 with h1|h1<;>simp[aj,Quiet] at h1
  |o3 _ _=>rcases h1 with h1|h1<;>simp[aj,Quiet] at h1
  |_=>
  rcases h1 with h1|h1
  ·exact⟨x,h1,h2⟩
  exact absurd h1 (by simp[Quiet])
 |rw R W=>
 obtain⟨x,H',h1,_,_,h2⟩:=h;cases i with
 |load m a=>
  simp only[iK,ag4,adJ] at h1;obtain⟨y,h1,rfl,rfl⟩:=h1;exact .inr ⟨y,h1,h2⟩
 |box y=>
  simp only[iK] at h1;obtain⟨n,rfl,h0⟩:=cB h1;split at h0
  ·rename_i hc;simp only[jl,adJ] at h0;obtain⟨rfl,rfl⟩:=h0;exact⟨n,rfl,hc.1,hc.2.1,hc.2.2.1,hc.2.2.2,h2⟩
  simp at h0
 |new cs=>
  simp only[iK] at h1;obtain⟨n,rfl,h0⟩:=cB h1;split at h0
  ·rename_i hc;simp only[jl,adJ] at h0;obtain⟨rfl,rfl⟩:=h0;exact⟨n,rfl,hc.1,hc.2.1,hc.2.2,h2⟩
  simp at h0
 |store m a y=>
  simp only[iK] at h1;split at h1
  ·rename_i hd;simp only[ag4,adJ] at h1;obtain⟨H2,h1,rfl,rfl⟩:=h1;exact⟨hd,H2,h1,h2⟩
  simp at h1
 |app s y sz bytes=>
  simp only[iK] at h1;obtain⟨n,rfl,h0⟩:=cB h1;exact⟨n,rfl,x,H',h0,h2⟩
 |ou sz z ps=>
  simp only[iK] at h1;obtain⟨q,rfl,h0⟩:=cB h1;exact⟨q,rfl,x,H',h0,h2⟩
 |xu s y sz=>
  simp only[iK] at h1;exact⟨x,H',h1,h2⟩
 |Ej n c sz b z=>
  simp only[iK] at h1;obtain⟨q,rfl,h0⟩:=cB h1;exact⟨q,rfl,x,H',h0,h2⟩
 |Ek y sz z=>
  simp only[iK,ag4,adJ] at h1;obtain⟨H2,h1,rfl,rfl⟩:=h1;exact⟨H2,h1,h2⟩
 |_=>simp[iK] at h1
def vJ {S:St} {i:eF} {env env':Env} (h:∀x∈i.os,ev env x=ev env' x) {x:AV} (hq:Quiet S i env x):Quiet S i env' x:=by
 cases i with
 |call f args=>
  simp only[Quiet] at hq ⊢;have:args.map (ev env)=args.map (ev env'):=aej fun p hp=>h p (by simpa[eF.os] using hp);rw[←this];exact hq
 |jH y args=>
  simp only[Quiet] at hq ⊢;have:args.map (ev env)=args.map (ev env'):=aej fun p hp=>h p (by simp only[eF.os,adz];exact .inr hp);rw[←this,←h y (by simp[eF.os])];exact hq
 |_=>exact hq
def vK {S:St} {fp:Fp} {d:Option Nat} {i:eF} {env env':Env} (h:∀x∈i.os,ev env x=ev env' x) {H:Hp} {k:AV→Hp→Prop} (ha:a_ S fp d i env H k):a_ S fp d i env' H k:=by
 cases fp with
 |no=>
  obtain⟨x,h1,h2⟩:=ha;refine⟨x,?_,h2⟩;rcases h1 with h1|h1
  ·exact .inl (by rw[←mI h];exact h1)
  exact .inr (vJ h h1)
 |rw R W=>
  obtain⟨x,H',h1,h2,h3,h4⟩:=ha;obtain⟨e1,e2,e3⟩:=pj (d:=d) h H;exact⟨x,H',by rw[←e1];exact h1,by rw[←e2];exact h2,by rw[←e3];exact h3,h4⟩
 |all=>exact KE h ha
 |vj F=>
 cases i with
 |call f args=>
  simp only[a_] at ha ⊢;have:args.map (ev env)=args.map (ev env'):=aej fun p hp=>h p (by simpa[eF.os] using hp);rw[←this];exact ha
 |_=>simp only[a_] at ha
def a_.abJ {S:St} {F:List Lb} {d:Option Nat} {i:eF} {env:Env} {H:Hp} {k:AV→Hp→Prop} (h:a_ S (.vj F) d i env H k):a_ S (.vj F) d i env H fun x H'=>(∀l:Lb,l.kQ∈F→H' l=H l)∧k x H':=by
 cases i<;>simp only[a_] at h ⊢;obtain⟨Q,h1,h2,h3⟩:=h;exact⟨Q,h1,h2,fun x H' hq=>⟨(h3 x H' hq).1,h3 x H' hq⟩⟩
def Er (S:St) (p:dD×Fp) (env:Env) (H:Hp) (k:Env→Hp→Prop):Prop:=
 (gW p.1.g env=some true∧(∀n,p.1.d=some n→n<S.N)∧a_ S p.2 p.1.d p.1.i env H fun x H'=>k (iw env p.1.d x) H') ∨
  (gW p.1.g env=some false∧(∀n,p.1.d=some n→n<S.N)∧k (iw env p.1.d .un) H)
def sZ (S:St):List (Nat×dD×Fp)→Env→Hp→(Env→Hp→Prop)→Prop
 |[],env,H,k=>k env H
 |p::r,env,H,k=>Er S p.2 env H fun e h=>sZ S r e h k
def uq (d:Option Nat) (us:List Nat):Bool:=match d with|some n=> !us.contains n|none=>true
def Ce (p q:dD):Bool:=uq p.d q.us&&uq q.d p.us&&(p.d.isNone||p.d !=q.d)
def Fp.TP:Fp→Bool
 | .vj _=>true
 |_=>false
def qn:Fp→Fp→Bool
 | .no,_=>true
 | .rw _ _,.no=>true
 | .rw R W,.rw R' W'=>W.all (fun l=> !R'.contains l&& !W'.contains l)&&R.all (fun l=> !W'.contains l)
 | .rw R W,.vj F=>W.isEmpty&&R.all (fun l=>F.contains l)
 | .vj _,.no=>true
 | .vj F,.rw R W=>W.isEmpty&&R.all (fun l=>F.contains l)
 |_,_=>false
def eF.G':eF→Bool
 | .call _ _| .jH _ _=>true
 |_=>false
def indep (p q:dD×Fp):Bool:=Ce p.1 q.1&&(qn p.2 q.2&& !(p.2.TP&&q.1.i.G'))
section
variable {S:St} {env:Env} {H:Hp}
def Er.mono {p:dD×Fp} {k k':Env→Hp→Prop} (hk:∀e h,k e h→k' e h) (h:Er S p env H k):Er S p env H k':=by
 rcases h with⟨h1,h2,h3⟩|⟨h1,h2,h3⟩
 ·exact .inl ⟨h1,h2,h3.mono fun _ _=>hk _ _⟩
 exact .inr ⟨h1,h2,hk _ _ h3⟩
theorem sZ.mono {k k':Env→Hp→Prop} (hk:∀e h,k e h→k' e h):∀(l:List (Nat×dD×Fp)) (env:Env) (H:Hp),sZ S l env H k→sZ S l env H k'
 |[],env,H,h=>hk _ _ h
 |p::r,env,H,h=>Er.mono (fun e h'=>sZ.mono hk r e h') h
def lB {d d':Option Nat} (h:d=none∨d≠d') (x y:AV):iw (iw env d x) d' y=iw (iw env d' y) d x:=by
 cases d with
 |none=>rfl
 |some n=>
 cases d' with
 |none=>rfl
 |some m=>
 have:n≠m:=by rcases h with h|h;simp at h;simpa using h
 funext q;simp only[iw,put];by_cases e1:q=n
 ·by_cases e2:q=m
  ·exact absurd (e1.symm.trans e2) this
  simp[e1,this]
 by_cases e2:q=m
 ·simp[e2,aef this]
 simp[e1,e2]
def Vj {g:Option (Nat×Bool)} {d:Option Nat} {x:AV} (h:∀n,d=some n→n∉(match g with|some (s,_)=>[s]|none=>([]:List Nat))):gW g (iw env d x)=gW g env:=by
 cases g with
 |none=>rfl
 |some p=>
 obtain⟨s,t⟩:=p;cases d with
 |none=>rfl
 |some m=>
 have:=h m rfl;simp at this;simp[gW,iw,put,aef this]
def Dx {d:Option Nat} {us:List Nat} (h:uq d us=true):∀n,d=some n→n∉us:=by
 rintro n rfl;simpa[uq] using h
def kW {q:dD} {d:Option Nat} (h:uq d q.us=true) (x:AV) (env:Env):gW q.g (iw env d x)=gW q.g env∧∀o∈q.i.os,ev (iw env d x) o=ev env o:=by
 have h':=Dx h;refine⟨Vj fun n hn hm=>h' n hn (by simp only[dD.us,adD];exact .inr hm),fun o ho=>Vi fun n hn hm=>h' n hn ?_⟩;simp only[dD.us,adD,agu];exact .inl ⟨o,ho,hm⟩
def Er.shift {q:dD×Fp} {d:Option Nat} (h:uq d q.1.us=true) (hd:d=none∨d≠q.1.d) {x:AV} {k:Env→Hp→Prop} (hs:Er S q (iw env d x) H k) :
  Er S q env H fun e h=>k (iw e d x) h∧∃y,e=iw env q.1.d y:=by
 obtain⟨e1,e2⟩:=kW h x env;rcases hs with⟨h1,h2,h3⟩|⟨h1,h2,h3⟩
 ·exact .inl ⟨by rw[←e1];exact h1,h2,(vK e2 h3).mono fun y H' hk=>⟨by rw[←lB hd];exact hk,y,rfl⟩⟩
 exact .inr ⟨by rw[←e1];exact h1,h2,by rw[←lB hd];exact h3,_,rfl⟩
def Er.swap {p q:dD×Fp} (hi:indep p q=true) {k:Env→Hp→Prop} (h:Er S p env H fun e h=>Er S q e h k):Er S q env H fun e h=>Er S p e h k:=by
 simp only[indep,Ce,ady,aeJ,Option.isNone_iff_eq_none,agb] at hi;obtain⟨⟨⟨r1,r2⟩,r3⟩,hf,G_⟩:=hi;obtain⟨lp,fp⟩:=p;obtain⟨lq,fq⟩:=q;simp only at r1 r2 r3 hf;have r3':lq.d=none∨lq.d≠lp.d:=by
  rcases r3 with r3|r3
  ·by_cases e:lq.d=none
   ·exact .inl e
   exact .inr (by rw[r3];exact e)
  exact .inr (aef r3)
 rcases h with⟨h1,h2,h3⟩|⟨h1,h2,h3⟩
 ·cases fp with
  |no=>
   obtain⟨x,h4,h5⟩:=h3;refine(h5.shift r1 r3).mono ?_;rintro e h' ⟨hk,y,rfl⟩;obtain⟨e1,e2⟩:=kW r2 y env;refine .inl ⟨by simp only;rw[e1];exact h1,h2,x,?_,hk⟩;rcases h4 with h4|h4
   ·exact .inl (by simp only;rw[mI e2];exact h4)
   exact .inr (vJ (fun o ho=>(e2 o ho).symm) h4)
  |rw R W=>
   obtain⟨x,H',m1,m2,m3,m4⟩:=h3;have KG:∀y,iK lp.d lp.i (iw env lq.d y) H=some (x,H')∧fY lp.i (iw env lq.d y)=fY lp.i env∧bc lp.d lp.i (iw env lq.d y)=bc lp.d lp.i env:=fun y=>by
    obtain⟨c1,c2,c3⟩:=pj (d:=lp.d) (kW r2 y env).2 H;exact⟨by rw[c1];exact m1,c2,c3⟩
   obtain⟨f1,f2⟩:=kW r1 x env;have g2:∀y,gW lp.g (iw env lq.d y)=some true:=fun y=>(by rw[(kW r2 y env).1];exact h1);rcases m4 with⟨k1,k2,k3⟩|⟨k1,k2,k3⟩
   ·cases fq with
    |no=>
     obtain⟨y,k4,k5⟩:=k3;refine .inl ⟨by simp only;rw[←f1];exact k1,k2,y,?_,?_⟩
     ·rcases k4 with k4|k4
      ·exact .inl (by simp only;rw[←mI f2];exact k4)
      exact .inr (vJ f2 k4)
     exact .inl ⟨g2 y,h2,x,H',(KG y).1,by simp only;rw[(KG y).2.1];exact m2,by simp only;rw[(KG y).2.2];exact m3,by simp only;rw[←lB r3];exact k5⟩
    |rw R' W'=>
     obtain⟨y,m_,k4,k5,k6,k7⟩:=k3;obtain⟨c1,c2,c3⟩:=pj (d:=lq.d) f2 H';simp only at k4 k5 k6 k7;rw[c1] at k4;rw[c2] at k5;rw[c3] at k6;simp only[qn,ady,aeg,aeT,afn,aeV] at hf;obtain⟨Yj,GJ⟩:=hf;have pW:∀l,l∈bc lp.d lp.i env→l.kQ∉R'∧l.kQ∉W':=fun l hl=>Yj l.kQ (m3 l hl);have Vk:∀l,l∈fY lq.i env∨l∈bc lq.d lq.i env→H l=H' l:=by
      intro l hl;refine(nT m1 l fun hw=> ?_).symm;rcases hl with hl|hl
      ·rcases k5 l hl with e|e
       ·exact(pW l hw).1 e
       exact(pW l hw).2 e
      exact(pW l hw).2 (k6 l hl)
     obtain⟨H2,a1,a2,a3⟩:=tc k4 Vk;have Dy:∀l,l∈fY lp.i env∨l∈bc lp.d lp.i env→H2 l=H l:=by
      intro l hl;refine a3 l fun hw=> ?_;rcases hl with hl|hl
      ·rcases m2 l hl with e|e
       ·exact GJ l.kQ e (k6 l hw)
       exact(Yj l.kQ e).2 (k6 l hw)
      exact(pW l hl).2 (k6 l hw)
     obtain⟨H3,b1,b2,b3⟩:=tc m1 Dy;have hH:H3=m_:=by
      funext l;by_cases hw:l∈bc lp.d lp.i env
      ·rw[b2 l hw];exact(nT k4 l fun hq=>(pW l hw).2 (k6 l hq)).symm
      rw[b3 l hw];by_cases hq:l∈bc lq.d lq.i env
      ·exact a2 l hq
      rw[a3 l hq,nT k4 l hq,nT m1 l hw]
     subst hH;refine .inl ⟨by simp only;rw[←f1];exact k1,k2,y,H2,a1,k5,k6,?_⟩;obtain⟨d1,d2,d3⟩:=pj (d:=lp.d) (kW r2 y env).2 H2;exact .inl ⟨g2 y,h2,x,H3,by simp only;rw[d1];exact b1,by simp only;rw[d2];exact m2,by simp only;rw[d3];exact m3,by simp only;rw[←lB r3];exact k7⟩
    |all=>simp[qn] at hf
    |vj F=>
     simp only[qn,ady,lT,aeg,afn,adM] at hf;obtain⟨rfl,hf⟩:=hf;have GK:∀l,l∉bc lp.d lp.i env:=fun l hl=>(by simpa using m3 l hl);have hH:H'=H:=funext fun l=>nT m1 l (GK l);subst hH;refine .inl ⟨by simp only;rw[←f1];exact k1,k2,?_⟩;refine a_.mono (fp:= .vj F) (k:=fun y H2=>(∀l:Lb,l.kQ∈F→H2 l=H' l)∧k (iw (iw env lp.d x) lq.d y) H2) ?_ (vK f2 (a_.abJ k3));rintro y H2 ⟨g1,g3⟩;have Dy:∀l,l∈fY lp.i env∨l∈bc lp.d lp.i env→H2 l=H' l:=by
      intro l hl;rcases hl with hl|hl
      ·rcases m2 l hl with e|e
       ·exact g1 l (hf _ e)
       simp at e
      exact absurd hl (GK l)
     obtain⟨H3,b1,b2,b3⟩:=tc m1 Dy;have hH:H3=H2:=funext fun l=>b3 l (GK l);subst hH;obtain⟨d1,d2,d3⟩:=pj (d:=lp.d) (kW r2 y env).2 H3;exact .inl ⟨g2 y,h2,x,H3,by simp only;rw[d1];exact b1,by simp only;rw[d2];exact m2,by simp only;rw[d3];exact m3,by simp only;rw[←lB r3];exact g3⟩
   refine .inr ⟨by simp only;rw[←f1];exact k1,k2,?_⟩;exact .inl ⟨g2 .un,h2,x,H',(KG .un).1,by simp only;rw[(KG .un).2.1];exact m2,by simp only;rw[(KG .un).2.2];exact m3,by simp only;rw[←lB r3];exact k3⟩
  |all=>cases fq<;>simp[qn] at hf
  |vj F=>
   cases hli:lp.i with
   |call f args=>
    rw[hli] at h3;simp only[a_] at h3;obtain⟨Q,m1,⟨x0,H0,m2⟩,m3⟩:=h3;have hfr:∀x H',Q x H'→∀l:Lb,l.kQ∈F→H' l=H l:=fun x H' hq=>(m3 x H' hq).1;have mZ:∀x H',Q x H'→Er S (lq,fq) (iw env lp.d x) H' k:=fun x H' hq=>(m3 x H' hq).2;have fs:=fun x:AV=>kW r1 x env;have back:∀(y:AV) (k':AV→Hp→Prop),(∀x H',Q x H'→k' x H')→a_ S (.vj F) lp.d lp.i (iw env lq.d y) H k':=fun y k' vL=>by
     have h4:a_ S (.vj F) lp.d lp.i env H k':=by
      rw[hli];simp only[a_];exact⟨Q,m1,⟨x0,H0,m2⟩,fun x H' hq=>⟨hfr x H' hq,vL x H' hq⟩⟩
     exact vK (fun o ho=>((kW r2 y env).2 o ho).symm) h4
    have g2:∀y,gW lp.g (iw env lq.d y)=some true:=fun y=>(by rw[(kW r2 y env).1];exact h1);rcases mZ x0 H0 m2 with⟨k1,k2,k3⟩|⟨k1,k2,k3⟩
    ·simp only at k1 k2 k3;rw[(fs x0).1] at k1;have fX:∀x H',Q x H'→a_ S fq lq.d lq.i (iw env lp.d x) H' fun y m_=>k (iw (iw env lp.d x) lq.d y) m_:=by
      intro x H' hq;rcases mZ x H' hq with⟨e1,e2,e3⟩|⟨e1,e2,e3⟩
      ·exact e3
      simp only at e1;rw[(fs x).1,k1] at e1;simp at e1
     cases fq with
     |no=>
      have TA:∀(y:AV) (env':Env),Quiet S lq.i env' y→False:=by
       intro y env' hq;have:lq.i.G'=false:=(by simpa[Fp.TP] using G_);cases hi:lq.i<;>simp_all[Quiet,eF.G']
      obtain⟨y,k4,_⟩:=k3;have k4:aj lq.i env=some y:=by
       rcases k4 with k4|k4
       ·rwa[mI (fs x0).2] at k4
       exact(TA y _ k4).elim
      refine .inl ⟨k1,k2,y,.inl k4,?_⟩;refine .inl ⟨g2 y,h2,back y _ fun x H' hq=> ?_⟩;obtain⟨y',e1,e2⟩:=fX x H' hq;have e1:aj lq.i env=some y':=by
       rcases e1 with e1|e1
       ·rwa[mI (fs x).2] at e1
       exact(TA y' _ e1).elim
      rw[k4] at e1;cases e1;simp only;rw[←lB r3];exact e2
     |rw R W=>
      simp only[qn,ady,lT,aeg,afn,adM] at hf;obtain⟨rfl,hf⟩:=hf;have one:∀x H',Q x H'→∀y H2,iK lq.d lq.i (iw env lp.d x) H'=some (y,H2)→(∀l∈fY lq.i (iw env lp.d x),l.kQ∈R∨l.kQ∈([]:List Lb))→(∀l∈bc lq.d lq.i (iw env lp.d x),l.kQ∈([]:List Lb)) →
        iK lq.d lq.i env H=some (y,H)∧H2=H'∧(∀l∈fY lq.i env,l.kQ∈R∨l.kQ∈([]:List Lb))∧∀l∈bc lq.d lq.i env,l.kQ∈([]:List Lb):=by
       intro x H' hq y H2 e1 e2 e3;obtain⟨c1,c2,c3⟩:=pj (d:=lq.d) (fs x).2 H';rw[c1] at e1;rw[c2] at e2;rw[c3] at e3;have GK:∀l,l∉bc lq.d lq.i env:=fun l hl=>(by simpa using e3 l hl);have EB:∀l,l∈fY lq.i env∨l∈bc lq.d lq.i env→H l=H' l:=by
        intro l hl;rcases hl with hl|hl
        ·rcases e2 l hl with e|e
         ·exact(hfr x H' hq l (hf _ e)).symm
         simp at e
        exact absurd hl (GK l)
       obtain⟨H3,b1,b2,b3⟩:=tc e1 EB;have hH:H3=H:=funext fun l=>b3 l (GK l);subst hH;exact⟨b1,funext fun l=>nT e1 l (GK l),e2,e3⟩
      obtain⟨y,H2,q1,q2,q3,_⟩:=k3;obtain⟨a1,_,a3,a4⟩:=one x0 H0 m2 y H2 q1 q2 q3;refine .inl ⟨k1,k2,y,H,a1,a3,a4,?_⟩;refine .inl ⟨g2 y,h2,back y _ fun x H' hq=> ?_⟩;obtain⟨y',H2',p1,p2,p3,p4⟩:=fX x H' hq;obtain⟨b1,rfl,_,_⟩:=one x H' hq y' H2' p1 p2 p3;rw[a1] at b1;cases b1;simp only;rw[←lB r3];exact p4
     |all=>simp[qn] at hf
     |vj F'=>simp[qn] at hf
    simp only at k1 k2 k3;rw[(fs x0).1] at k1;refine .inr ⟨k1,k2,?_⟩;refine .inl ⟨g2 .un,h2,back .un _ fun x H' hq=> ?_⟩;rcases mZ x H' hq with⟨e1,e2,e3⟩|⟨e1,e2,e3⟩
    ·simp only at e1;rw[(fs x).1,k1] at e1;simp at e1
    simp only;rw[←lB r3];exact e3
   |_=>rw[hli] at h3;simp only[a_] at h3
 refine(h3.shift r1 r3).mono ?_;rintro e h' ⟨hk,y,rfl⟩;obtain⟨e1,e2⟩:=kW r2 y env;exact .inr ⟨by simp only;rw[e1];exact h1,h2,hk⟩
theorem sZ.front {q:Nat×dD×Fp} {l2:List (Nat×dD×Fp)} {k:Env→Hp→Prop}:∀(l1:List (Nat×dD×Fp)) (env:Env) (H:Hp),(∀p∈l1,indep p.2 q.2=true)→sZ S (l1++q::l2) env H k →
  sZ S (q::(l1++l2)) env H k
 |[],env,H,_,h=>h
 |p::l1,env,H,hi,h=>by
  simp only[adR,sZ] at h ⊢;refine Er.swap (hi p (by simp)) (h.mono fun e h' hq=> ?_);have:=sZ.front l1 e h' (fun p' iJ=>hi p' (by simp[iJ])) hq;simpa only[sZ] using this
end

def lC (ops:Array Oper):List (List Nat):=ops.toList.map fun o=>(o.after.toList.filter (Region.binds .any)).map (·.on)
def items:Nat→List dD→List Fp→List (Nat×dD×Fp)
 |_,[],_=>[]
 |n,i::r,fs=>(n,i,fs.headD .no)::items (n+1) r fs.tail
def wz (es:List (List Nat)):List (Nat×dD×Fp)→Bool
 |[]=>true
 |p::r=>r.all (fun q=>(es.getD q.1 []).contains p.1||indep p.2 q.2)&&wz es r
def Ab (acc:List (List Nat)):List (List Nat)→List (List Nat)
 |[]=>acc
 |x::r=>Ab (acc++[(x.flatMap fun e=>acc.getD e []).foldl (fun a e=>if a.contains e then a else e::a) x]) r
inductive TQ (es:List (List Nat)):Nat→Nat→Prop where
 |one {p q:Nat}:p∈es.getD q []→TQ es p q
 |more {p r q:Nat}:r∈es.getD q []→TQ es p r→TQ es p q
def M4 {l x:List Nat} {p:Nat} (h:p∈l.foldl (fun a e=>if a.contains e then a else e::a) x):p∈x∨p∈l:=by
 induction l generalizing x with
 |nil=>exact .inl h
 |cons e l ih=>
 simp only[aeP] at h;rcases ih h with h|h
 ·split at h
  ·exact .inl h
  rcases adz.1 h with rfl|h
  ·exact .inr (by simp)
  exact .inl h
 exact .inr (by simp[h])
theorem yx (es:List (List Nat)):∀(r acc:List (List Nat)),es.drop acc.length=r→(∀i p,p∈acc.getD i []→TQ es p i)→∀i p,p∈(Ab acc r).getD i []→TQ es p i
 |[],acc,_,h=>by simpa[Ab] using h
 |x::r,acc,hd,h=>by
  simp only[Ab];have hx:es[acc.length]?=some x:=by
   have:=afb (fun l=>l[0]?) hd;simpa using this
  refine yx es r _ ?_ ?_
  ·rw[adE,List.length_singleton,←afv,hd];rfl
  intro i p hp;rw[aex] at hp;by_cases hi:i<acc.length
  ·rw[ad6 hi,←aex] at hp;exact h i p hp
  rw[adU (by omega)] at hp;by_cases e:i=acc.length
  ·subst e;simp only[ae_,aem,ae'] at hp;have Yk:es.getD acc.length []=x:=(by rw[aex,hx];rfl);rcases M4 hp with hp|hp
   ·exact .one (by rw[Yk];exact hp)
   obtain⟨e,he,hp⟩:=agu.1 hp;exact .more (by rw[Yk];exact he) (h e p hp)
  rw[aes (by simp;omega)] at hp;simp at hp
def M5 (es:List (List Nat)) (l:List (Nat×dD×Fp)):Bool:=l.all fun p=>(es.getD p.1 []).all fun e=>decide (e<p.1)
def I6 (is:List dD) (es:List (List Nat)) (fs:List Fp):Bool:=(wz es (items 0 is fs)||wz (Ab [] es) (items 0 is fs))&&M5 es (items 0 is fs)
theorem rR {es:List (List Nat)}:∀{l:List (Nat×dD×Fp)},wz es l=true→l.Pairwise fun p q=>p.1∈es.getD q.1 []∨indep p.2 q.2=true
 |[],_=> .nil
 |p::r,h=>by
  simp only[wz,ady,aeg,aeJ,afn,adM] at h;exact .cons h.1 (rR h.2)
section
variable {K:Kx} {env:Env} {H:Hp} {a:Act} {w:World}
def xF {ops:Array Oper} {listed:Array Bool} {i:Nat}:i∈Region.ready .any ops listed ↔
  i<ops.size∧listed.getD i true=false∧∃o,ops[i]?=some o∧∀e∈o.after,Region.binds .any e=true→listed.getD e.on false=true:=by
 unfold Region.ready;simp only[aey,af4,ady,aeT];constructor
 ·rintro⟨h1,h2,h3⟩;refine⟨h1,h2,?_⟩;cases ho:ops[i]? with
  |none=>rw[ho] at h3;simp at h3
  |some o=>
  rw[ho] at h3;simp only[adB,ae'] at h3;refine⟨o,rfl,fun e he hb=> ?_⟩;have h3':=af8.1 h3;have:=h3' e he;simpa[hb] using this
 rintro⟨h1,h2,o,h3,h4⟩;refine⟨h1,h2,?_⟩;rw[h3];simp only[adB,ae'];refine af8.2 fun e he=> ?_;cases hb:Region.binds .any e with
 |false=>rfl
 |true=>simpa using h4 e he hb
def ER {ops:Array Oper} {i:Nat} {o:Oper} (ho:ops[i]?=some o) {e:Edge} (he:e∈o.after) (hb:Region.binds .any e=true):e.on∈(lC ops).getD i []:=by
 unfold lC;rw[aex,adX,afg,ho];simp only[adB,ae',adY,aey,agd];exact⟨e,⟨he,hb⟩,rfl⟩
def KH {ops:Array Oper} {k:Env→Hp→Prop} {Q:Exit→Act→World→Prop} (hk:∀env' H' β' a' w',k env' H'→bu K β' env' H' a' w'→Q .normal a' w') :
  ∀(fuel:Nat) (l:List (Nat×dD×Fp)) (listed:Array Bool) (env:Env) (H:Hp) (a:Act) (w:World) (β:Lb→Option Nat),l.length=fuel →
   l.Pairwise (fun p q=>p.1<q.1)→listed.size=ops.size→(∀i,i<ops.size→(listed.getD i true=false↔∃p∈l,p.1=i)) →
   (∀p∈l,p.1<ops.size∧∃o,ops[p.1]?=some o∧vh K.P K.G ops o=some p.2.1.pG) →
   l.Pairwise (fun p q=>TQ (lC ops) p.1 q.1∨indep p.2 q.2=true)→(∀i,i<ops.size→listed.getD i true=true→∀e∈(lC ops).getD i [],listed.getD e false=true)→(∀p∈l,∀e∈(lC ops).getD p.1 [],e<p.1) →
   sZ ⟨K.P,K.G,K.N⟩ l env H k→bu K β env H a w→wpAny K.P .any ops Q fuel listed a w:=by
 intro fuel;induction fuel with
 |zero=>
  intro l listed env H a w β hlen _ _ hl _ _ _ _ hA hr;have:l=[]:=aeb hlen;subst this;refine⟨?_,hk _ _ _ _ _ hA hr⟩;rw[age];intro i hi;obtain⟨h1,h2,_⟩:=xF.1 hi;obtain⟨p,hp,_⟩:=(hl i h1).1 h2;simp at hp
 |succ fuel ih=>
 intro l listed env H a w β hlen I7 pC hl QV M6 hD TR hA hr;refine⟨fun M3=> ?_,fun i hi=> ?_⟩
 ·exfalso;cases l with
  |nil=>simp at hlen
  |cons p r=>
  obtain⟨Vl,o,TL,hp3⟩:=QV p (by simp);have:p.1∈Region.ready .any ops listed:=by
   refine xF.2 ⟨Vl,(hl p.1 Vl).2 ⟨p,by simp,rfl⟩,o,TL,fun e he hb=> ?_⟩;have bO:=TR p (by simp) e.on (ER TL he hb);have lA:e.on<ops.size:=(by omega);have ff:¬listed.getD e.on true=false:=by
    rw[hl e.on lA];rintro⟨q,hq,hqe⟩;rcases adz.1 hq with rfl|hq
    ·omega
    have:=(afh.1 I7).1 q hq;omega
   rw[ad9] at ff ⊢;rw[aeM (by omega)] at ff ⊢;simpa using ff
  rw[M3] at this;simp at this
 obtain⟨h1,h2,o,h3,h4⟩:=xF.1 hi;obtain⟨p,hp,rfl⟩:=(hl i h1).1 h2;obtain⟨l1,l2,rfl⟩:=List.append_of_mem hp;obtain⟨_,o',ho',pH⟩:=QV p hp;rw[h3] at ho';cases ho';have abK:∀q∈l1,indep q.2 p.2=true:=by
  intro q hq;rcases (ae4.1 M6).2.2 q hq p (by simp) with he|he
  ·exfalso;have Zm:∀z∈(lC ops).getD p.1 [],listed.getD z false=true:=by
    intro z he;unfold lC at he;rw[aex,adX,afg,h3] at he;simp only[adB,ae',adY,aey,agd] at he;obtain⟨e,⟨he1,Y6⟩,rfl⟩:=he;exact h4 e he1 Y6
   have BE:∀z t,TQ (lC ops) z t→listed.getD t false=true→listed.getD z false=true:=by
    intro z t hr;induction hr with
    |@one t hz=>
     intro ht;have hts:t<ops.size:=by
      rw[ad9] at ht;cases hh:listed[t]? with
      |none=>rw[hh] at ht;simp at ht
      |some b=>have:=(aed.1 hh).1;omega
     refine hD t hts ?_ z hz;rw[ad9] at ht ⊢;rw[aeM (by omega)] at ht ⊢;simpa using ht
    |@more r t hz _ ih=>
    intro ht;refine ih ?_;have hts:t<ops.size:=by
     rw[ad9] at ht;cases hh:listed[t]? with
     |none=>rw[hh] at ht;simp at ht
     |some b=>have:=(aed.1 hh).1;omega
    refine hD t hts ?_ r hz;rw[ad9] at ht ⊢;rw[aeM (by omega)] at ht ⊢;simpa using ht
   have MZ:listed.getD q.1 false=true:=by
    cases he with
    |one hz=>exact Zm _ hz
    |more hz hr=>exact BE _ _ hr (Zm _ hz)
   have Ya:=(QV q (by simp[hq])).1;have Ep:=(hl q.1 Ya).2 ⟨q,by simp[hq],rfl⟩;rw[ad9] at MZ Ep;rw[aeM (by omega)] at MZ Ep;simp at MZ Ep;rw[MZ] at Ep;simp at Ep
  exact he
 have hA':=sZ.front l1 env H abK hA;simp only[sZ] at hA';have ff:∀q∈l1++l2,q.1≠p.1:=by
  intro q hq e;rcases adD.1 hq with hq|hq
  ·have:=(ae4.1 I7).2.2 q hq p (by simp);omega
  have:=(afh.1 (ae4.1 I7).2.1).1 q hq;omega
 have Kp:(l1++l2).Sublist (l1++p::l2):=List.Sublist.append_left (List.sublist_cons_self p l2) l1;have Ac:∀q∈l1++l2,q∈l1++p::l2:=fun q hq=>Kp.subset hq;have o4:∀env' H' β' a' w',sZ ⟨K.P,K.G,K.N⟩ (l1++l2) env' H' k→bu K β' env' H' a' w'→wpAny K.P .any ops Q fuel (listed.setIfInBounds p.1 true) a' w':=by
  intro env' H' β' a' w' q1 q2;refine ih (l1++l2) _ env' H' a' w' β' (by simp at hlen ⊢;omega) (I7.sublist Kp) (by simp[pC]) (fun j hj=> ?_) (fun q hq=>QV q (Ac q hq)) (M6.sublist Kp) (fun j hj Zn e he=> ?_)
   (fun q hq=>TR q (Ac q hq)) q1 q2
  rw[ad9,aft];by_cases e:p.1=j
  ·subst e;simp only[adH];rw[adv (by omega)];simp only[ae',Bool.true_eq_false,false_iff];rintro⟨q,hq,e⟩;exact ff q hq e
  ·rw[ag8 e,←ad9,hl j hj];constructor
   ·rintro⟨q,hq,rfl⟩;refine⟨q,?_,rfl⟩;simp only[adD,adz] at hq ⊢;rcases hq with hq|hq|hq
    ·exact .inl hq
    ·subst hq;exact absurd rfl e
    exact .inr hq
   rintro⟨q,hq,rfl⟩;exact⟨q,Ac q hq,rfl⟩
  have hup:∀z,listed.getD z false=true→(listed.setIfInBounds p.1 true).getD z false=true:=by
   intro z hz;rw[ad9] at hz ⊢;rw[aft];split
   ·split<;>simp_all
   exact hz
  apply hup;by_cases e2:p.1=j
  ·subst e2;unfold lC at he;rw[aex,adX,afg,h3] at he;simp only[adB,ae',adY,aey,agd] at he;obtain⟨e,⟨he1,Y6⟩,rfl⟩:=he;exact h4 e he1 Y6
  refine hD j hj ?_ e he;rw[ad9,aft,ag8 e2,←ad9] at Zn;exact Zn
 simp only[wpOp,h3];refine Aa hr pH (k:=fun e h=>sZ ⟨K.P,K.G,K.N⟩ (l1++l2) e h k) o4 ?_;rcases hA' with⟨g1,g2,g3⟩|⟨g1,g2,g3⟩
 ·exact .inl ⟨g1,g2,g3.act⟩
 exact .inr ⟨g1,g2,g3⟩
theorem xG:∀(is:List dD) (n:Nat) (fs:List Fp) (p:Nat×dD×Fp),p∈items n is fs→n≤p.1∧is[p.1 - n]?=some p.2.1
 |[],n,fs,p,h=>by simp[items] at h
 |i::r,n,fs,p,h=>by
  simp only[items,adz] at h;rcases h with rfl|h
  ·simp
  obtain⟨h1,h2⟩:=xG r (n+1) _ p h;refine⟨by omega,?_⟩;rw[show p.1 - n=(p.1 - (n+1))+1 by omega];simpa using h2
theorem wA:∀(is:List dD) (n:Nat) (fs:List Fp),(items n is fs).Pairwise fun p q=>p.1<q.1
 |[],n,fs=> .nil
 |i::r,n,fs=>by
  simp only[items];refine .cons (fun q hq=> ?_) (wA r (n+1) _);have:=(xG r (n+1) _ q hq).1;simp only;omega
theorem Cf:∀(is:List dD) (n:Nat) (fs:List Fp),(items n is fs).length=is.length
 |[],n,fs=>rfl
 |i::r,n,fs=>by simp[items,Cf r]
theorem Cg:∀(is:List dD) (n:Nat) (fs:List Fp) (j:Nat),j<is.length→∃p∈items n is fs,p.1=n+j
 |[],n,fs,j,h=>by simp at h
 |i::r,n,fs,0,h=>⟨_,List.mem_cons_self ..,rfl⟩
 |i::r,n,fs,j+1,h=>by
  obtain⟨p,h1,h2⟩:=Cg r (n+1) fs.tail j (by simpa using h);exact⟨p,by simp only[items];exact afT _ h1,by omega⟩
theorem ES {α β:Type} {R:α→β→Prop}:∀{l:List α} {m:List β},gT R l m→l.length=m.length∧∀(i:Nat) (y:β),m[i]?=some y→∃x,l[i]?=some x∧R x y
 |_,_,.nil=>⟨rfl,by simp⟩
 |_,_,.cons h1 h2=>by
  obtain⟨e,h⟩:=ES h2;refine⟨by simp[e],fun i y hy=> ?_⟩;cases i with
  |zero=>simp at hy;subst hy;exact⟨_,by simp,h1⟩
  |succ i=>obtain⟨x,q1,q2⟩:=h i y (by simpa using hy);exact⟨x,by simpa using q1,q2⟩
def bu.drew {β:Lb→Option Nat} (hr:bu K β env H a w):bu K β env H a {w with drawn:=w.drawn+1}:=by
 have hg:rJ w {w with drawn:=w.drawn+1}:=⟨rfl,rfl,rfl,adw _,fun _ _=>rfl⟩;have:=hr.step hg (d:=none) (x:= .un) (v:=undef) (by simp) (by simp) (by simp);simpa[iw,Act.put] using this
def ET {β:Lb→Option Nat} (hr:bu K β env H a w) {id:Nat} {ops:Array Oper} (hm:K.P.follows .mixedOrders=true) {is:List dD} {fs:List Fp}
  (fX:gT (fun o i=>vh K.P K.G ops o=some (dD.pG i)) ops.toList is) (ho:I6 is (lC ops) fs=true) {k:Env→Hp→Prop} {Q:Exit→Act→World→Prop}
  (hk:∀env' H' β' a' w',k env' H'→bu K β' env' H' a' w'→Q .normal a' w') (hA:sZ ⟨K.P,K.G,K.N⟩ (items 0 is fs) env H k):(Code.region id ops true).wp K.P Q a w:=by
 obtain⟨hlen,dO⟩:=ES fX;simp only[afV] at hlen;simp only[I6,ady] at ho;obtain⟨Vb,Yf⟩:=ho;have hpw:(items 0 is fs).Pairwise fun p q=>TQ (lC ops) p.1 q.1∨indep p.2 q.2=true:=by
  rcases Bool.or_eq_true_iff.1 Vb with h|h
  ·exact(rR h).imp fun hpq=>hpq.imp .one (fun h=>h)
  exact(rR h).imp fun hpq=>hpq.imp (yx _ _ [] rfl (by simp) _ _) (fun h=>h)
 refine wp_region_any hm (KH hk ops.size (items 0 is fs) _ env H a _ β (by rw[Cf];exact hlen.symm) (wA is 0 fs) (by simp) (fun i hi=> ?_) (fun p hp=> ?_)
  hpw (fun i hi Zn=> ?_) (fun p hp e he=> ?_) hA hr.drew)
 ·rw[ad9,af1,adv hi];simp only[ae',true_iff];obtain⟨p,h1,h2⟩:=Cg is 0 fs i (by omega);exact⟨p,h1,by omega⟩
 ·obtain⟨h1,h2⟩:=xG is 0 fs p hp;simp only[aeq] at h2;obtain⟨o,q1,q2⟩:=dO p.1 _ h2;have:=(ag6.1 h2).1;exact⟨by omega,o,by simpa using q1,q2⟩
 ·rw[ad9,af1,adv hi] at Zn;simp at Zn
 simp only[M5,aeg,adM] at Yf;exact Yf p hp e he
end

inductive Gh where
 |ik (ns:List Nat)
 |Ch (l:Lb) (d:Nat)
 |Ha (l q:Lb) (j:Nat)
 |own (d sz:Nat)
 |cut (n:Nat)
 |xD
 |Vm
inductive AC where
 |skip
 |seq (a b:AC)
 |cond (x:O) (a b:AC)
 |block (id:Nat) (c:AC)
 |loop (c:AC)
 |exit (id:Nat)
 |ret
 |ec (is:List dD)
 |fg (is:List dD) (es:List (List Nat)) (fs:List Fp)
 |gh (g:Gh) (c:AC)
abbrev ay (l:List dD) (x:AC):AC:= .seq (.ec l) x
def AC.sz:AC→Nat
 | .seq a b=>a.sz+b.sz+2
 | .cond _ a b=>a.sz+b.sz+2
 | .block _ c=>c.sz+3
 | .loop c=>c.sz+1
 | .gh _ c=>c.sz+1
 |_=>1
inductive It where
 |code (c:AC)
 |Ci (id:Nat)
def It.sz:It→Nat
 | .code c=>c.sz
 | .Ci _=>1
def yy:List It→Nat
 |[]=>0
 |i::r=>i.sz+yy r
def jS (id:Nat):List It→Option (List It)
 |[]=>none
 | .Ci i::r=>if i=id then some r else jS id r
 |_::r=>jS id r
theorem wB {id:Nat}:∀{l r:List It},jS id l=some r→yy r≤yy l
 |[],r,h=>by simp[jS] at h
 | .Ci i::l,r,h=>by
  simp only[jS] at h;split at h
  ·cases h;simp[yy]
  have:=wB h;simp only[yy];omega
 | .code c::l,r,h=>by
  simp only[jS] at h;have:=wB h;simp only[yy];omega
def AC.M7 (c:AC):0<c.sz:=by cases c<;>simp[AC.sz]
def Ad (ns:List Nat) (env:Env):Env:=fun n=>if n∈ns then env n else .any
abbrev oW:=Exit→Env→Hp→Prop
end Go.Am
