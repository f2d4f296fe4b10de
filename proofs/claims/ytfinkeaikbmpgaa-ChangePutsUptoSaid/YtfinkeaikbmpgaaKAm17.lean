import Derived.Test.YtfinkeaikbmpgaaKAm12
set_option linter.unusedSimpArgs false
set_option linter.unusedVariables false
set_option linter.unnecessarySimpa false
set_option linter.defProp false
/- THE ABSTRACT MACHINE, part 17: regions whose order is drawn. -/
namespace Go.Am
open Go Go.RowKit
def cV.os:cV→List O
 | .ak x| .bV x _| .len x| .lens x| .not x| .neg x| .ext x _| .ue x _ _| .sF x| .ef x| .Bv _ x| .np x| .Ea x| .Eb x| .uf _ x| .load _ x| .box x| .zZ _ x| .cap x| .vl x _ _| .uh x _ _=>[x]
 | .pick c a b=>[c,a,b]
 | .fJ x i _| .yM x i| .Ec x i _ _=>[x,i]
 | .kX x lo hi mx _=>x::(lo.toList++hi.toList++mx.toList)
 | .ud x lo hi=>x::(lo.toList++hi.toList)
 | .bin _ x y| .Bu _ x y| .D' _ x y| .D_ _ x y| .qJ _ _ x y| .max x y| .min x y| .store _ x y| .app x y _ _| .sG x y _ _| .qK x y _ _ _| .o8 x y _=>[x,y]
 | .o7 _ ps=>ps.map (·.2.2)
 | .lits _ _ _ ps=>ps.map (·.2)
 | .ji _ _ ps=>ps.map (·.2)
 | .Ed _ qs cs=>qs++cs
 | .DW _ cs=>cs
 | .new _=>[]
 | .stuck=>[]
 | .vt n c _ _ _=>[n,c]
 | .call _ args=>args
 | .lZ _ args=>args
 | .j4 x args=>x::args
def O.us:O→List Nat
 | .t n=>[n]
 | .c _=>[]
def dn.us (i:dn):List Nat:=i.i.os.flatMap O.us++(match i.g with|some (s,_)=>[s]|none=>[])
theorem Ik {env:Env} {d:Option Nat} {y:AV} {x:O} (h:∀n,d=some n→n∉x.us):ev (d_ env d y) x=ev env x:=by
 cases x with
 |c x=>rfl
 |t n=>
  cases d with
  |none=>rfl
  |some m=>
   have:=h m rfl;simp[O.us] at this;simp[ev,d_,put,Ne.symm this]
section
variable {env env':Env}
theorem jm {o:Option O} (h:∀x∈o.toList,ev env x=ev env' x) (m n:Nat):lD env o m n=lD env' o m n:=by
 cases o with
 |none=>rfl
 |some x=>simp only[lD];rw[h x (by simp)]
theorem Al {lo hi mx:Option O} (h:∀x∈lo.toList++hi.toList++mx.toList,ev env x=ev env' x) (n:Nat):nq env lo hi mx n=nq env' lo hi mx n:=by
 have h1:=fun m n=>jm (o:=lo) (fun x hx=>h x (by simp at hx ⊢;simp[hx])) m n
 have h2:=fun m n=>jm (o:=hi) (fun x hx=>h x (by simp at hx ⊢;simp[hx])) m n
 have h3:=fun m n=>jm (o:=mx) (fun x hx=>h x (by simp at hx ⊢;simp[hx])) m n
 cases mx with
 |none=>simp only[nq,h1,h2]
 |some m=>simp only[nq,h1,h2,h3]
theorem An {lo hi mx:Option O} (h:∀x∈lo.toList++hi.toList++mx.toList,ev env x=ev env' x) (n c:Nat):jC env lo hi mx n c=jC env' lo hi mx n c:=by
 have h1:=fun m n=>jm (o:=lo) (fun x hx=>h x (by simp at hx ⊢;simp[hx])) m n
 have h2:=fun m n=>jm (o:=hi) (fun x hx=>h x (by simp at hx ⊢;simp[hx])) m n
 have h3:=fun m n=>jm (o:=mx) (fun x hx=>h x (by simp at hx ⊢;simp[hx])) m n
 cases mx with
 |none=>simp only[jC,h1,h2]
 |some m=>simp only[jC,h1,h2,h3]
theorem ie {i:cV} (h:∀x∈i.os,ev env x=ev env' x):ae i env=ae i env':=by
 cases i with
 |kX x lo hi mx sz=>
  simp only[ae];rw[h x (by simp[cV.os])];have:=Al (env:=env) (env':=env') (lo:=lo) (hi:=hi) (mx:=mx) (fun y hy=>h y (by simp only[cV.os,List.mem_cons];exact .inr hy));have Lq:=An (env:=env) (env':=env') (lo:=lo) (hi:=hi) (mx:=mx) (fun y hy=>h y (by simp only[cV.os,List.mem_cons];exact .inr hy));unfold jK;simp only[this,Lq]
 |ud x lo hi=>
  simp only[ae];rw[h x (by simp[cV.os])];have h1:=fun m n=>jm (env:=env) (env':=env') (o:=lo) (fun y hy=>h y (by simp only[cV.os,List.mem_cons,List.mem_append];exact .inr (.inl hy))) m n
  have h2:=fun m n=>jm (env:=env) (env':=env') (o:=hi) (fun y hy=>h y (by simp only[cV.os,List.mem_cons,List.mem_append];exact .inr (.inr hy))) m n
  simp only[h1,h2]
 |o7 z ps=>
  simp only[ae]
  have:(ps.map fun p=>(p.1,p.2.1,ev env p.2.2))=ps.map fun p=>(p.1,p.2.1,ev env' p.2.2):=
   List.map_congr_left fun p hp=>by rw[h p.2.2 (by simp only[cV.os];exact List.mem_map_of_mem (f:=fun p:Nat×Nat×O=>p.2.2) hp)]
  rw[this]
 |lits n sz z ps=>
  simp only[ae]
  have:(ps.map fun p=>(p.1*sz,sz,ev env p.2))=ps.map fun p=>(p.1*sz,sz,ev env' p.2):=
   List.map_congr_left fun p hp=>by rw[h p.2 (by simp only[cV.os];exact List.mem_map_of_mem (f:=fun p:Nat×O=>p.2) hp)]
  rw[this]
 |DW f cap=>
  simp only[ae];have:cap.map (ev env)=cap.map (ev env'):=List.map_congr_left fun p hp=>h p (by simpa[cV.os] using hp)
  rw[this]
 |call f args=>rfl
 |j4 x args=>rfl
 |lZ f args=>rfl
 |qK s n sz b z=>rfl
 |ji sz z ps=>rfl
 |Ed f qs cs=>
  simp only[ae];have h1:qs.map (ev env)=qs.map (ev env'):=List.map_congr_left fun p hp=>h p (by simp only[cV.os,List.mem_append];exact .inl hp)
  have h2:cs.map (ev env)=cs.map (ev env'):=List.map_congr_left fun p hp=>h p (by simp only[cV.os,List.mem_append];exact .inr hp)
  rw[h1,h2]
 |cap x=>rfl
 |vl x sz z=>rfl
 |uh x n sz=>simp only[ae,h x (by simp[cV.os])]
 |sG x y sz b=>simp only[ae,h x (by simp[cV.os]),h y (by simp[cV.os])]
 |zZ n x=>rfl
 |new cs=>rfl
 |pick c a b=>simp only[ae,h c (by simp[cV.os]),h a (by simp[cV.os]),h b (by simp[cV.os])]
 |vt n c sz b z=>rfl
 |store m a x=>rfl
 |app s x sz b=>rfl
 |o8 s x sz=>rfl
 |box x=>rfl
 |Eb x=>simp only[ae,h x (by simp[cV.os])]
 |Ec x i n sz=>simp only[ae,h x (by simp[cV.os]),h i (by simp[cV.os])]
 |fJ x i sz=>simp only[ae,h x (by simp[cV.os]),h i (by simp[cV.os])]
 |yM x i=>simp only[ae,h x (by simp[cV.os]),h i (by simp[cV.os])]
 |bin op x y=>simp only[ae,h x (by simp[cV.os]),h y (by simp[cV.os])]
 |Bu n x y=>simp only[ae,h x (by simp[cV.os]),h y (by simp[cV.os])]
 |D' n x y=>simp only[ae,h x (by simp[cV.os]),h y (by simp[cV.os])]
 |D_ n x y=>simp only[ae,h x (by simp[cV.os]),h y (by simp[cV.os])]
 |qJ n ks x y=>simp only[ae,h x (by simp[cV.os]),h y (by simp[cV.os])]
 |max x y=>simp only[ae,h x (by simp[cV.os]),h y (by simp[cV.os])]
 |min x y=>simp only[ae,h x (by simp[cV.os]),h y (by simp[cV.os])]
 |ak x=>simp only[ae,h x (by simp[cV.os])]
 |bV x o=>simp only[ae,h x (by simp[cV.os])]
 |len x=>simp only[ae,h x (by simp[cV.os])]
 |lens x=>simp only[ae,h x (by simp[cV.os])]
 |not x=>simp only[ae,h x (by simp[cV.os])]
 |neg x=>simp only[ae,h x (by simp[cV.os])]
 |ext x i=>simp only[ae,h x (by simp[cV.os])]
 |ue x o m=>simp only[ae,h x (by simp[cV.os])]
 |sF x=>simp only[ae,h x (by simp[cV.os])]
 |ef x=>simp only[ae,h x (by simp[cV.os])]
 |stuck=>rfl
 |Bv k x=>simp only[ae,h x (by simp[cV.os])]
 |np x=>simp only[ae,h x (by simp[cV.os])]
 |Ea x=>simp only[ae,h x (by simp[cV.os])]
 |uf t x=>simp only[ae,h x (by simp[cV.os])]
 |load m x=>simp only[ae,h x (by simp[cV.os])]
theorem Ao {S:St} {d:Option Nat} {i:cV} (h:∀x∈i.os,ev env x=ev env' x) {H:Hp} {k:AV→Hp→Prop} (ha:bX S d i env H k):bX S d i env' H k:=by
 have hs:=ie h;cases i with
 |load m x=>
  simp only[bX] at ha ⊢;rw[←hs,←h x (by simp[cV.os])];exact ha
 |box x=>
  simp only[bX] at ha ⊢;rw[←h x (by simp[cV.os])];exact ha
 |new cs=>exact ha
 |store m x y=>
  simp only[bX] at ha ⊢;rw[←h x (by simp[cV.os]),←h y (by simp[cV.os])];exact ha
 |app x y sz b=>
  simp only[bX] at ha ⊢;rw[←h x (by simp[cV.os]),←h y (by simp[cV.os])];exact ha
 |call f args=>
  simp only[bX] at ha ⊢;have:args.map (ev env)=args.map (ev env'):=List.map_congr_left fun p hp=>h p (by simpa[cV.os] using hp)
  rw[←this];exact ha
 |zZ n x=>
  simp only[bX] at ha ⊢;rw[←h x (by simp[cV.os])];exact ha
 |qK x y sz b z=>
  simp only[bX] at ha ⊢;rw[←h x (by simp[cV.os]),←h y (by simp[cV.os])];exact ha
 |ji sz z ps=>
  simp only[bX] at ha ⊢
  have:(ps.map fun p=>(p.1,ev env p.2))=ps.map fun p=>(p.1,ev env' p.2):=
   List.map_congr_left fun p hp=>by rw[h p.2 (by simp only[cV.os];exact List.mem_map_of_mem (f:=fun p:Nat×O=>p.2) hp)]
  rw[←this];exact ha
 |cap x=>
  simp only[bX] at ha ⊢;rw[←h x (by simp[cV.os])];exact ha
 |vl x sz z=>
  simp only[bX] at ha ⊢;rw[←h x (by simp[cV.os])];exact ha
 |o8 x y sz=>
  simp only[bX] at ha ⊢;rw[←h x (by simp[cV.os]),←h y (by simp[cV.os])];exact ha
 |vt n c sz b z=>
  simp only[bX] at ha ⊢;rw[←h n (by simp[cV.os]),←h c (by simp[cV.os])];exact ha
 |lZ f args=>
  simp only[bX] at ha ⊢;have:args.map (ev env)=args.map (ev env'):=List.map_congr_left fun p hp=>h p (by simpa[cV.os] using hp)
  rw[←this];exact ha
 |j4 x args=>
  simp only[bX] at ha ⊢;have:args.map (ev env)=args.map (ev env'):=List.map_congr_left fun p hp=>h p (by simp only[cV.os,List.mem_cons];exact .inr hp)
  rw[←this,←h x (by simp[cV.os])];exact ha
 |_=>simp only[bX] at ha ⊢;rw[←hs];exact ha
end
inductive Fp where
 |no
 |rw (rs ws:List Lb)
 |all
 |qx (fs:List Lb)
def bU:AV→List Lb
 | .ptr l _ _ _=>[l]
 | .sl l _ _ _=>[l]
 | .slk l _ _ _ _=>[l]
 |_=>[]
open Classical in
noncomputable def ek (d:Option Nat) (i:cV) (env:Env) (H:Hp):Option (AV×Hp):=
 match i with
 | .load m a=>(bq m (ev env a) H).map fun x=>(x,H)
 | .box x=>d.bind fun n=>if H (.loc n)= .unused∧(ev env x).ew=true∧0<(ev env x).cells.length∧(ev env x).cells.length≤maxLen then
  some (.ptr (.loc n) (ev env x).cells.length 0 0,bG H (.loc n) (.live ⟨(ev env x).cells.length,[(ev env x).cells]⟩)) else none
 | .new cs=>d.bind fun n=>if H (.loc n)= .unused∧0<cs.length∧cs.length≤maxLen then
  some (.ptr (.loc n) cs.length 0 0,bG H (.loc n) (.live ⟨cs.length,[cs]⟩)) else none
 | .store m a x=>if d=none then(a_ m (ev env a) (ev env x) H).map fun H'=>(.un,H') else none
 | .app s x sz bytes=>d.bind fun n=>j8 sz bytes n (ev env s) (ev env x) H
 | .o8 s x sz=>uo sz (ev env s) (ev env x) H
 | .ji sz z ps=>d.bind fun q=>uu sz q z (ps.map fun p=>(p.1,ev env p.2)) H
 | .vl x sz z=>(uq sz z (ev env x) H).map fun H'=>(.dU [],H')
 | .vt n c sz b z=>d.bind fun q=>ur sz b q z (ev env n) (ev env c) H
 |_=>none
def dz (i:cV) (env:Env):List Lb:=
 match i with
 | .load _ a=>bU (ev env a)
 | .app _ x _ _=>bU (ev env x)
 | .o8 _ x _=>bU (ev env x)
 |_=>[]
def a7 (d:Option Nat) (i:cV) (env:Env):List Lb:=
 match i with
 | .box _| .new _| .ji _ _ _| .vt _ _ _ _ _=>d.toList.map .loc
 | .store _ a _=>bU (ev env a)
 | .app s _ _ _=>match ev env s with
  | .sl l _ _ _=>l::d.toList.map l.app
  | .slk l _ _ _ _=>l::d.toList.map .loc
  |_=>d.toList.map .loc
 | .o8 s _ _=>bU (ev env s)
 | .vl x _ _=>bU (ev env x)
 |_=>[]
theorem Ap {m:Option Nat} {x:AV} {H H1:Hp} {y:AV} (h:bq m x H=some y) (ha:∀l∈bU x,H1 l=H l):bq m x H1=some y:=by
 cases x with
 |ptr l sz i j=>simp only[bq,ha l (by simp[bU])] at h ⊢;exact h
 |_=>simp[bq] at h
theorem vI {sz:Nat} {x:AV} {H H1:Hp} (ha:∀l∈bU x,H1 l=H l):jL sz x H1=jL sz x H:=by
 cases x with
 |sl l s i n=>simp only[jL,ha l (by simp[bU])]
 |slk l s i n c=>simp only[jL,ha l (by simp[bU])]
 |_=>rfl
theorem vJ {x:AV} {p:Lb×Nat×Nat×Nat} (h:GP x=some p):bU x=[p.1]:=by
 cases x<;>simp[GP] at h
 all_goals (subst h;rfl)
theorem mw {d : Option Nat} {i : cV} {env : Env} {H H' H1 : Hp} {x : AV} (h : ek d i env H = some (x,H')) (ha : ∀ l,l ∈ dz i env ∨ l ∈ a7 d i env → H1 l = H l) :
   ∃Nm,ek d i env H1=some (x,Nm)∧(∀l∈a7 d i env,Nm l=H' l)∧∀l,l∉a7 d i env→Nm l=H1 l:=by
 cases i with
 |load m a=>
   simp only[ek,Option.map_eq_some_iff,Prod.mk.injEq] at h ⊢
   obtain⟨y,h1,rfl,rfl⟩:=h
   exact⟨H1,⟨y,Ap h1 (fun l hl=>ha l (.inl hl)),rfl,rfl⟩,by simp[a7],fun _ _=>rfl⟩
 |box y=>
   simp only[ek] at h ⊢
   obtain⟨n,rfl,h0⟩:=bT h
   replace h:=h0
   clear h0
   split at h
   · rename_i hc
     simp only[Option.some.injEq,Prod.mk.injEq] at h
     obtain⟨rfl,rfl⟩:=h
     have e:=ha (.loc n) (.inr (by simp[a7]))
     refine⟨_,by simp only[Option.bind_some];rw[if_pos (by rw[e];exact hc)],fun l hl=> ?_,fun l hl=> ?_⟩
     · simp[a7] at hl;subst hl;simp
     · simp[a7] at hl;rw[aq _ _ hl]
   · simp at h
 |new cs=>
   simp only[ek] at h ⊢
   obtain⟨n,rfl,h0⟩:=bT h
   replace h:=h0
   clear h0
   split at h
   · rename_i hc
     simp only[Option.some.injEq,Prod.mk.injEq] at h
     obtain⟨rfl,rfl⟩:=h
     have e:=ha (.loc n) (.inr (by simp[a7]))
     refine⟨_,by simp only[Option.bind_some];rw[if_pos (by rw[e];exact hc)],fun l hl=> ?_,fun l hl=> ?_⟩
     · simp[a7] at hl;subst hl;simp
     · simp[a7] at hl;rw[aq _ _ hl]
   · simp at h
 |store m a y=>
   simp only[ek] at h ⊢
   split at h
   · rename_i hd
     rw[if_pos hd]
     simp only[Option.map_eq_some_iff,Prod.mk.injEq] at h ⊢
     obtain⟨H2,h1,rfl,rfl⟩:=h
     unfold a_ at h1 ⊢
     split at h1
     · rename_i l sz i j e
       have e2:=ha l (.inr (by simp[a7,e,bU]))
       simp only[e,e2]
       split at h1
       · rename_i r hr
         try simp only[hr]
         split at h1
         · rename_i hc
           rw[if_pos hc]
           obtain⟨cs,hi,h1⟩:=Option.bind_eq_some_iff.1 h1
           split at h1
           · rename_i hj
             simp only[Option.some.injEq] at h1;subst h1
             refine⟨_,⟨_,by rw[hi,Option.bind_some,if_pos hj],trivial,rfl⟩,fun q hq=> ?_,fun q hq=> ?_⟩
             · simp[a7,e,bU] at hq;subst hq;simp
             · simp[a7,e,bU] at hq;rw[aq _ _ hq]
           · simp at h1
         · simp at h1
       · simp at h1
     · simp at h1
   · simp at h
 | app s y sz bytes =>
   simp only[ek] at h ⊢
   obtain⟨n,rfl,h0⟩:=bT h
   replace h:=h0
   clear h0
   simp only[Option.bind_some]
   unfold j8 at h ⊢
   obtain⟨news,h1,h0⟩:=bT h
   replace h:=h0
   clear h0
   rw[vI (fun l hl=>ha l (.inl hl))]
   simp only[h1,Option.bind_some]
   split at h
   · simp at h
   · rename_i ix
     rw[if_neg ix]
     split at h
     · rename_i e
       try simp only[e]
       split at h
       · rename_i hc
         simp only[Option.some.injEq,Prod.mk.injEq] at h
         obtain⟨rfl,rfl⟩:=h
         have e2:=ha (.loc n) (.inr (by simp[a7,e]))
         refine⟨_,by rw[if_pos (by rw[e2];exact hc)],fun l hl=> ?_,fun l hl=> ?_⟩
         · simp[a7,e] at hl;subst hl;simp
         · simp[a7,e] at hl;rw[aq _ _ hl]
       · simp at h
     · rename_i l s' i0 m e
       have e1:=ha l (.inr (by simp[a7,e]))
       have e2:=ha (l.app n) (.inr (by simp[a7,e]))
       simp only[e1]
       split at h
       · rename_i r hr
         try simp only[hr]
         split at h
         · rename_i hc
           simp only[Option.some.injEq,Prod.mk.injEq] at h
           obtain⟨rfl,rfl⟩:=h
           refine⟨_,by rw[if_pos (by rw[e2];exact hc)],fun q hq=> ?_,fun q hq=> ?_⟩
           · simp[a7,e] at hq
             unfold bG
             by_cases q1:q=l.app n
             · simp[q1]
             · rcases hq with hq|hq
               · simp[hq]
               · exact absurd hq q1
           · simp[a7,e] at hq
             rw[aq _ _ hq.2,aq _ _ hq.1]
         · simp at h
       · simp at h
     · rename_i l s' i0 m c e
       have e1:=ha l (.inr (by simp[a7,e]))
       have e2:=ha (.loc n) (.inr (by simp[a7,e]))
       simp only[e1]
       split at h
       · rename_i r hr
         try simp only[hr]
         split at h
         · rename_i hc
           rw[if_pos hc]
           split at h
           · rename_i hf
             rw[if_pos hf]
             split at h
             · rename_i xn
               rw[if_pos xn]
               simp only[Option.some.injEq,Prod.mk.injEq] at h
               obtain⟨rfl,rfl⟩:=h
               refine⟨_,rfl,fun q hq=> ?_,fun q hq=> ?_⟩
               · simp[a7,e] at hq
                 by_cases q1:q=l
                 · subst q1;simp
                 · rw[aq _ _ q1,aq _ _ q1]
                   rcases hq with hq|hq
                   · exact absurd hq q1
                   · subst hq;exact e2
               · simp[a7,e] at hq
                 rw[aq _ _ hq.1]
             · simp at h
           · rename_i hf
             rw[if_neg hf]
             split at h
             · rename_i xn
               rw[e2,if_pos xn]
               simp only[Option.some.injEq,Prod.mk.injEq] at h
               obtain⟨rfl,rfl⟩:=h
               refine⟨_,rfl,fun q hq=> ?_,fun q hq=> ?_⟩
               · simp[a7,e] at hq
                 by_cases q1:q= .loc n
                 · subst q1;simp
                 · rw[aq _ _ q1,aq _ _ q1]
                   rcases hq with hq|hq
                   · subst hq;exact e1
                   · exact absurd hq q1
               · simp[a7,e] at hq
                 rw[aq _ _ hq.2]
             · simp at h
         · simp at h
       · simp at h
     · simp at h
 |ji sz z ps=>
   simp only[ek] at h ⊢
   obtain⟨n,rfl,h0⟩:=bT h
   replace h:=h0
   clear h0
   simp only[Option.bind_some]
   unfold uu at h ⊢
   obtain⟨cs,h1,h0⟩:=bT h
   replace h:=h0
   clear h0
   rw[h1,Option.bind_some]
   split at h
   · rename_i hc
     simp only[Option.some.injEq,Prod.mk.injEq] at h
     obtain⟨rfl,rfl⟩:=h
     have e:=ha (.loc n) (.inr (by simp[a7]))
     refine⟨_,by rw[if_pos (by rw[e];exact hc)],fun l hl=> ?_,fun l hl=> ?_⟩
     · simp[a7] at hl;subst hl;simp
     · simp[a7] at hl;rw[aq _ _ hl]
   · simp at h
 |vt x y sz b z=>
   simp only[ek] at h ⊢
   obtain⟨n,rfl,h0⟩:=bT h
   replace h:=h0
   clear h0
   simp only[Option.bind_some]
   unfold ur at h ⊢
   split at h
   · split at h
     · rename_i hc
       simp only[Option.some.injEq,Prod.mk.injEq] at h
       obtain⟨rfl,rfl⟩:=h
       have e:=ha (.loc n) (.inr (by simp[a7]))
       refine⟨_,by rw[if_pos (by rw[e];exact hc)],fun l hl=> ?_,fun l hl=> ?_⟩
       · simp[a7] at hl;subst hl;simp
       · simp[a7] at hl;rw[aq _ _ hl]
     · simp at h
   · simp at h
 |o8 s y sz=>
   simp only[ek] at h ⊢
   unfold uo at h ⊢
   obtain⟨news,h1,h0⟩:=bT h
   replace h:=h0
   clear h0
   rw[vI (fun l hl=>ha l (.inl hl))]
   simp only[h1,Option.bind_some]
   obtain⟨p,hp,h0⟩:=bT h
   replace h:=h0
   clear h0
   simp only[hp,Option.bind_some]
   split at h
   · simp at h
   · rename_i ix
     rw[if_neg ix]
     have hw:a7 d (.o8 s y sz) env=[p.1]:=by simp only[a7];exact vJ hp
     have e1:=ha p.1 (.inr (by rw[hw];simp))
     simp only[e1]
     split at h
     · rename_i r hr
       try simp only[hr]
       split at h
       · rename_i hc
         rw[if_pos hc]
         simp only[Option.some.injEq,Prod.mk.injEq] at h
         obtain⟨rfl,rfl⟩:=h
         refine⟨_,rfl,fun q hq=> ?_,fun q hq=> ?_⟩
         · rw[hw] at hq;simp at hq;subst hq;simp
         · rw[hw] at hq;simp at hq;rw[aq _ _ hq]
       · simp at h
     · simp at h
 |vl y sz z=>
   simp only[ek,Option.map_eq_some_iff,Prod.mk.injEq] at h ⊢
   obtain⟨H2,h,rfl,rfl⟩:=h
   unfold uq at h ⊢
   split at h
   · simp at h
   · rename_i ix
     obtain⟨p,hp,h0⟩:=bT h
     replace h:=h0
     clear h0
     have hw:a7 d (.vl y sz z) env=[p.1]:=by simp only[a7];exact vJ hp
     have e1:=ha p.1 (.inr (by rw[hw];simp))
     split at h
     · rename_i r hr
       split at h
       · rename_i hc
         simp only[Option.some.injEq] at h
         subst h
         refine⟨_,⟨_,by rw[if_neg ix,hp];simp only[Option.bind_some,e1,hr];rw[if_pos hc],rfl,rfl⟩,fun q hq=> ?_,fun q hq=> ?_⟩
         · rw[hw] at hq;simp at hq;subst hq;simp
         · rw[hw] at hq;simp at hq;rw[aq _ _ hq]
       · simp at h
     · simp at h
 |_=>simp[ek] at h
theorem iO {d:Option Nat} {i:cV} {env:Env} {H H':Hp} {x:AV} (h:ek d i env H=some (x,H')):∀l,l∉a7 d i env→H' l=H l:=by
 obtain⟨Nm,h1,_,h3⟩:=mw h (H1:=H) (fun _ _=>rfl);rw[h] at h1;simp only[Option.some.injEq,Prod.mk.injEq] at h1;obtain⟨_,rfl⟩:=h1;exact h3
theorem jV {d:Option Nat} {i:cV} {env env':Env} (h:∀x∈i.os,ev env x=ev env' x) (H:Hp):ek d i env H=ek d i env' H∧dz i env=dz i env'∧a7 d i env=a7 d i env':=by
 cases i with
 |load m x=>simp only[ek,dz,a7];rw[h x (by simp[cV.os])];simp
 |box x=>simp only[ek,dz,a7];rw[h x (by simp[cV.os])];simp
 |store m x y=>simp only[ek,dz,a7];rw[h x (by simp[cV.os]),h y (by simp[cV.os])];simp
 |app x y sz b=>simp only[ek,dz,a7];rw[h x (by simp[cV.os]),h y (by simp[cV.os])];simp
 |o8 x y sz=>simp only[ek,dz,a7];rw[h x (by simp[cV.os]),h y (by simp[cV.os])];simp
 |ji sz z ps=>
  simp only[ek,dz,a7]
  have:(ps.map fun p=>(p.1,ev env p.2))=ps.map fun p=>(p.1,ev env' p.2):=
   List.map_congr_left fun p hp=>by rw[h p.2 (by simp only[cV.os];exact List.mem_map_of_mem (f:=fun p:Nat×O=>p.2) hp)]
  rw[this];simp
 |vl x sz z=>simp only[ek,dz,a7];rw[h x (by simp[cV.os])];simp
 |vt n c sz b z=>simp only[ek,dz,a7];rw[h n (by simp[cV.os]),h c (by simp[cV.os])];simp
 |_=>simp[ek,dz,a7]
end Go.Am

/- THE ABSTRACT MACHINE, part 19: regions whose order is drawn: whichever order, the same comes of it. -/
namespace Go.Am
open Go Go.RowKit
def cA (S:St) (i:cV) (env:Env) (res:AV):Prop:=
 match i with
 | .call f args=>az S.P S.G f (args.map (ev env)) res
 | .j4 x args=>∃f first cap,ev env x= .fn f first cap∧j5 S.P f=true∧az S.P S.G f (first++args.map (ev env)++cap) res
 |_=>False
def Lr (S:St) (F:List Lb) (f:Nat) (args:List AV) (H:Hp) (k:AV→Hp→Prop):Prop:=
 ∃Q:AV→Hp→Prop,l7 S f args H Q∧(∃x H',Q x H')∧∀x H',Q x H'→(∀l:Lb,l.iJ∈F→H' l=H l)∧k x H'
def aZ (S:St) (fp:Fp) (d:Option Nat) (i:cV) (env:Env) (H:Hp) (k:AV→Hp→Prop):Prop:=
 match fp with
 | .no=>∃x,(ae i env=some x∨cA S i env x)∧k x H
 | .rw R W=>∃x H',ek d i env H=some (x,H')∧(∀l∈dz i env,l.iJ∈R∨l.iJ∈W)∧(∀l∈a7 d i env,l.iJ∈W)∧k x H'
 | .all=>bX S d i env H k
 | .qx F=>match i with
  | .call f args=>Lr S F f (args.map (ev env)) H k
  |_=>False
theorem l7.mono {S:St} {f:Nat} {args:List AV} {H:Hp} {k k':AV→Hp→Prop} (hk:∀x H,k x H→k' x H) (h:l7 S f args H k):l7 S f args H k':=by
 rcases h with⟨res,h1,h2⟩|⟨cO,res,h1,h2,h3,h4⟩|⟨ρ,kA,cO,Q,h1,h2,h3,h4,h5,h6,h7,h8,h9⟩
 ·exact .inl ⟨res,h1,hk _ _ h2⟩
 ·exact .inr (.inl ⟨cO,res,h1,h2,h3,hk _ _ h4⟩)
 ·refine .inr<| .inr ⟨ρ,kA,cO,Q,h1,h2,h3,h4,h5,h6,h7,h8,fun x H' hq=> ?_⟩
  obtain⟨ρ',iy,q1,q2,q3,q4,q5,q6,q7,q8,q9⟩:=h9 x H' hq;exact⟨ρ',iy,q1,q2,q3,q4,q5,q6,q7,q8,hk _ _ q9⟩
theorem bX.mono {S:St} {d:Option Nat} {i:cV} {env:Env} {H:Hp} {k k':AV→Hp→Prop} (hk:∀x H,k x H→k' x H) (h:bX S d i env H k):bX S d i env H k':=by
 cases i with
 |load m a=>
  simp only[bX] at h ⊢;rcases h with⟨x,h1,h2⟩|⟨x,h1,h2⟩
  ·exact .inl ⟨x,h1,hk _ _ h2⟩
  ·exact .inr ⟨x,h1,hk _ _ h2⟩
 |box x=>
  simp only[bX] at h ⊢;obtain⟨n,h1,h2,h3,h4,h5,h6⟩:=h;exact⟨n,h1,h2,h3,h4,h5,hk _ _ h6⟩
 |new cs=>
  simp only[bX] at h ⊢;obtain⟨n,h1,h2,h3,h4,h5⟩:=h;exact⟨n,h1,h2,h3,h4,hk _ _ h5⟩
 |store m a x=>
  simp only[bX] at h ⊢;obtain⟨h1,H',h2,h3⟩:=h;exact⟨h1,H',h2,hk _ _ h3⟩
 |app s x sz b=>
  simp only[bX] at h ⊢;obtain⟨n,h1,y,H',h2,h3⟩:=h;exact⟨n,h1,y,H',h2,hk _ _ h3⟩
 |call f args=>exact l7.mono hk h
 |zZ n x=>
  simp only[bX] at h ⊢;obtain⟨bs,h1,h2⟩:=h;exact⟨bs,h1,fun b hb=>hk _ _ (h2 b hb)⟩
 |qK s n sz b z=>
  simp only[bX] at h ⊢;obtain⟨q,h1,y,H',h2,h3⟩:=h;exact⟨q,h1,y,H',h2,hk _ _ h3⟩
 |ji sz z ps=>
  simp only[bX] at h ⊢;obtain⟨q,h1,y,H',h2,h3⟩:=h;exact⟨q,h1,y,H',h2,hk _ _ h3⟩
 |cap x=>
  simp only[bX] at h ⊢;obtain⟨R,h1,h2⟩:=h;exact⟨R,h1,fun m hm QU=>hk _ _ (h2 m hm QU)⟩
 |o8 s x sz=>
  simp only[bX] at h ⊢;obtain⟨y,H',h1,h2⟩:=h;exact⟨y,H',h1,hk _ _ h2⟩
 |vl x sz z=>
  simp only[bX] at h ⊢;obtain⟨H',h1,h2⟩:=h;exact⟨H',h1,hk _ _ h2⟩
 |vt n c sz b z=>
  simp only[bX] at h ⊢;obtain⟨q,h1,y,H',h2,h3⟩:=h;exact⟨q,h1,y,H',h2,hk _ _ h3⟩
 |lZ f args=>
  simp only[bX] at h ⊢;obtain⟨res,h1,h2⟩:=h;exact⟨res,h1,hk _ _ h2⟩
 |j4 x args=>
  simp only[bX] at h ⊢;obtain⟨f,first,cap,h1,h2,h3⟩:=h
  exact⟨f,first,cap,h1,h2,l7.mono hk h3⟩
 |_=>
  simp only[bX] at h ⊢;obtain⟨x,h1,h2⟩:=h;exact⟨x,h1,hk _ _ h2⟩
theorem aZ.mono {S:St} {fp:Fp} {d:Option Nat} {i:cV} {env:Env} {H:Hp} {k k':AV→Hp→Prop} (hk:∀x H,k x H→k' x H) (h:aZ S fp d i env H k):aZ S fp d i env H k':=by
 cases fp with
 |no=>obtain⟨x,h1,h2⟩:=h;exact⟨x,h1,hk _ _ h2⟩
 |rw R W=>obtain⟨x,H',h1,h2,h3,h4⟩:=h;exact⟨x,H',h1,h2,h3,hk _ _ h4⟩
 |all=>exact bX.mono hk h
 |qx F=>
  cases i<;>simp only[aZ] at h ⊢;obtain⟨Q,h1,h2,h3⟩:=h;exact⟨Q,h1,h2,fun x H' hq=>⟨(h3 x H' hq).1,hk _ _ (h3 x H' hq).2⟩⟩
theorem aZ.act {S:St} {fp:Fp} {d:Option Nat} {i:cV} {env:Env} {H:Hp} {k:AV→Hp→Prop} (h:aZ S fp d i env H k):bX S d i env H k:=by
 cases fp with
 |all=>exact h
 |qx F=>
  cases i<;>simp only[aZ] at h;obtain⟨Q,h1,h2,h3⟩:=h;exact l7.mono (fun x H' hq=>(h3 x H' hq).2) h1
 |no=>
  obtain⟨x,h1,h2⟩:=h;cases i with
  |load m a=>
   rcases h1 with h1|h1
   ·exact .inl ⟨x,h1,h2⟩
   ·exact absurd h1 (by simp[cA])
  |call f args=>
   rcases h1 with h1|h1
   ·simp[ae] at h1
   ·exact .inl ⟨x,h1,h2⟩
  |j4 y args=>
   rcases h1 with h1|⟨f,first,cap,e1,e2,e3⟩
   ·simp[ae] at h1
   ·exact⟨f,first,cap,e1,e2,.inl ⟨x,e3,h2⟩⟩
  |box _=>rcases h1 with h1|h1<;>simp[ae,cA] at h1
  |zZ _ _=>rcases h1 with h1|h1<;>simp[ae,cA] at h1
  |new _=>rcases h1 with h1|h1<;>simp[ae,cA] at h1
  |store _ _ _=>rcases h1 with h1|h1<;>simp[ae,cA] at h1
  |app _ _ _ _=>rcases h1 with h1|h1<;>simp[ae,cA] at h1
  |cap _=>rcases h1 with h1|h1<;>simp[ae,cA] at h1
  |qK _ _ _ _ _=>rcases h1 with h1|h1<;>simp[ae,cA] at h1
  |ji _ _ _=>rcases h1 with h1|h1<;>simp[ae,cA] at h1
  |o8 _ _ _=>rcases h1 with h1|h1<;>simp[ae,cA] at h1
  |vl _ _ _=>rcases h1 with h1|h1<;>simp[ae,cA] at h1
  |vt _ _ _ _ _=>rcases h1 with h1|h1<;>simp[ae,cA] at h1
  |lZ _ _=>rcases h1 with h1|h1<;>simp[ae,cA] at h1
  |_=>
   rcases h1 with h1|h1
   ·exact⟨x,h1,h2⟩
   ·exact absurd h1 (by simp[cA])
 |rw R W=>
  obtain⟨x,H',h1,_,_,h2⟩:=h;cases i with
  |load m a=>
   simp only[ek,Option.map_eq_some_iff,Prod.mk.injEq] at h1;obtain⟨y,h1,rfl,rfl⟩:=h1;exact .inr ⟨y,h1,h2⟩
  |box y=>
   simp only[ek] at h1;obtain⟨n,rfl,h0⟩:=bT h1;split at h0
   ·rename_i hc;simp only[Option.some.injEq,Prod.mk.injEq] at h0;obtain⟨rfl,rfl⟩:=h0;exact⟨n,rfl,hc.1,hc.2.1,hc.2.2.1,hc.2.2.2,h2⟩
   ·simp at h0
  |new cs=>
   simp only[ek] at h1;obtain⟨n,rfl,h0⟩:=bT h1;split at h0
   ·rename_i hc;simp only[Option.some.injEq,Prod.mk.injEq] at h0;obtain⟨rfl,rfl⟩:=h0;exact⟨n,rfl,hc.1,hc.2.1,hc.2.2,h2⟩
   ·simp at h0
  |store m a y=>
   simp only[ek] at h1;split at h1
   ·rename_i hd;simp only[Option.map_eq_some_iff,Prod.mk.injEq] at h1;obtain⟨H2,h1,rfl,rfl⟩:=h1;exact⟨hd,H2,h1,h2⟩
   ·simp at h1
  |app s y sz bytes=>
   simp only[ek] at h1;obtain⟨n,rfl,h0⟩:=bT h1;exact⟨n,rfl,x,H',h0,h2⟩
  |ji sz z ps=>
   simp only[ek] at h1;obtain⟨q,rfl,h0⟩:=bT h1;exact⟨q,rfl,x,H',h0,h2⟩
  |o8 s y sz=>
   simp only[ek] at h1;exact⟨x,H',h1,h2⟩
  |vt n c sz b z=>
   simp only[ek] at h1;obtain⟨q,rfl,h0⟩:=bT h1;exact⟨q,rfl,x,H',h0,h2⟩
  |vl y sz z=>
   simp only[ek,Option.map_eq_some_iff,Prod.mk.injEq] at h1;obtain⟨H2,h1,rfl,rfl⟩:=h1;exact⟨H2,h1,h2⟩
  |_=>simp[ek] at h1
theorem nT {S:St} {i:cV} {env env':Env} (h:∀x∈i.os,ev env x=ev env' x) {x:AV} (hq:cA S i env x):cA S i env' x:=by
 cases i with
 |call f args=>
  simp only[cA] at hq ⊢;have:args.map (ev env)=args.map (ev env'):=List.map_congr_left fun p hp=>h p (by simpa[cV.os] using hp)
  rw[←this];exact hq
 |j4 y args=>
  simp only[cA] at hq ⊢;have:args.map (ev env)=args.map (ev env'):=List.map_congr_left fun p hp=>h p (by simp only[cV.os,List.mem_cons];exact .inr hp)
  rw[←this,←h y (by simp[cV.os])];exact hq
 |_=>exact hq
theorem nU {S:St} {fp:Fp} {d:Option Nat} {i:cV} {env env':Env} (h:∀x∈i.os,ev env x=ev env' x) {H:Hp} {k:AV→Hp→Prop} (ha:aZ S fp d i env H k):aZ S fp d i env' H k:=by
 cases fp with
 |no=>
  obtain⟨x,h1,h2⟩:=ha;refine⟨x,?_,h2⟩;rcases h1 with h1|h1
  ·exact .inl (by rw[←ie h];exact h1)
  ·exact .inr (nT h h1)
 |rw R W=>
  obtain⟨x,H',h1,h2,h3,h4⟩:=ha;obtain⟨e1,e2,e3⟩:=jV (d:=d) h H;exact⟨x,H',by rw[←e1];exact h1,by rw[←e2];exact h2,by rw[←e3];exact h3,h4⟩
 |all=>exact Ao h ha
 |qx F=>
  cases i with
  |call f args=>
   simp only[aZ] at ha ⊢;have:args.map (ev env)=args.map (ev env'):=List.map_congr_left fun p hp=>h p (by simpa[cV.os] using hp)
   rw[←this];exact ha
  |_=>simp only[aZ] at ha
theorem aZ.N6 {S:St} {F:List Lb} {d:Option Nat} {i:cV} {env:Env} {H:Hp} {k:AV→Hp→Prop} (h:aZ S (.qx F) d i env H k):aZ S (.qx F) d i env H fun x H'=>(∀l:Lb,l.iJ∈F→H' l=H l)∧k x H':=by
 cases i<;>simp only[aZ] at h ⊢;obtain⟨Q,h1,h2,h3⟩:=h;exact⟨Q,h1,h2,fun x H' hq=>⟨(h3 x H' hq).1,h3 x H' hq⟩⟩
def vo (S:St) (p:dn×Fp) (env:Env) (H:Hp) (k:Env→Hp→Prop):Prop:=
 (gW p.1.g env=some true∧(∀n,p.1.d=some n→n<S.N)∧aZ S p.2 p.1.d p.1.i env H fun x H'=>k (d_ env p.1.d x) H') ∨
  (gW p.1.g env=some false∧(∀n,p.1.d=some n→n<S.N)∧k (d_ env p.1.d .un) H)
def mi (S:St):List (Nat×dn×Fp)→Env→Hp→(Env→Hp→Prop)→Prop
 |[],env,H,k=>k env H
 |p::r,env,H,k=>vo S p.2 env H fun e h=>mi S r e h k
def mU (d:Option Nat) (us:List Nat):Bool:=match d with|some n=> !us.contains n|none=>true
def tc (p q:dn):Bool:=mU p.d q.us&&mU q.d p.us&&(p.d.isNone||p.d !=q.d)
def Fp.GX:Fp→Bool
 | .qx _=>true
 |_=>false
def kD:Fp→Fp→Bool
 | .no,_=>true
 | .rw _ _,.no=>true
 | .rw R W,.rw R' W'=>W.all (fun l=> !R'.contains l&& !W'.contains l)&&R.all (fun l=> !W'.contains l)
 | .rw R W,.qx F=>W.isEmpty&&R.all (fun l=>F.contains l)
 | .qx _,.no=>true
 | .qx F,.rw R W=>W.isEmpty&&R.all (fun l=>F.contains l)
 |_,_=>false
def cV.xG:cV→Bool
 | .call _ _| .j4 _ _=>true
 |_=>false
def indep (p q:dn×Fp):Bool:=tc p.1 q.1&&(kD p.2 q.2&& !(p.2.GX&&q.1.i.xG))
section
variable {S:St} {env:Env} {H:Hp}
theorem vo.mono {p:dn×Fp} {k k':Env→Hp→Prop} (hk:∀e h,k e h→k' e h) (h:vo S p env H k):vo S p env H k':=by
 rcases h with⟨h1,h2,h3⟩|⟨h1,h2,h3⟩
 ·exact .inl ⟨h1,h2,h3.mono fun _ _=>hk _ _⟩
 ·exact .inr ⟨h1,h2,hk _ _ h3⟩
theorem mi.mono {k k':Env→Hp→Prop} (hk:∀e h,k e h→k' e h):∀(l:List (Nat×dn×Fp)) (env:Env) (H:Hp),mi S l env H k→mi S l env H k'
 |[],env,H,h=>hk _ _ h
 |p::r,env,H,h=>vo.mono (fun e h'=>mi.mono hk r e h') h
theorem gy {d d':Option Nat} (h:d=none∨d≠d') (x y:AV):d_ (d_ env d x) d' y=d_ (d_ env d' y) d x:=by
 cases d with
 |none=>rfl
 |some n=>
  cases d' with
  |none=>rfl
  |some m=>
   have:n≠m:=by rcases h with h|h;simp at h;simpa using h
   funext q;simp only[d_,put];by_cases e1:q=n
   ·by_cases e2:q=m
    ·exact absurd (e1.symm.trans e2) this
    ·simp[e1,this]
   ·by_cases e2:q=m
    ·simp[e2,Ne.symm this]
    ·simp[e1,e2]
theorem Il {g:Option (Nat×Bool)} {d:Option Nat} {x:AV} (h:∀n,d=some n→n∉(match g with|some (s,_)=>[s]|none=>([]:List Nat))):gW g (d_ env d x)=gW g env:=by
 cases g with
 |none=>rfl
 |some p=>
  obtain⟨s,t⟩:=p;cases d with
  |none=>rfl
  |some m=>
   have:=h m rfl;simp at this;simp[gW,d_,put,Ne.symm this]
theorem uz {d:Option Nat} {us:List Nat} (h:mU d us=true):∀n,d=some n→n∉us:=by
 rintro n rfl;simpa[mU] using h
theorem gj {q:dn} {d:Option Nat} (h:mU d q.us=true) (x:AV) (env:Env):gW q.g (d_ env d x)=gW q.g env∧∀o∈q.i.os,ev (d_ env d x) o=ev env o:=by
 have h':=uz h;refine⟨Il fun n hn hm=>h' n hn (by simp only[dn.us,List.mem_append];exact .inr hm),fun o ho=>Ik fun n hn hm=>h' n hn ?_⟩;simp only[dn.us,List.mem_append,List.mem_flatMap];exact .inl ⟨o,ho,hm⟩
theorem vo.shift {q:dn×Fp} {d:Option Nat} (h:mU d q.1.us=true) (hd:d=none∨d≠q.1.d) {x:AV} {k:Env→Hp→Prop} (hs:vo S q (d_ env d x) H k) :
  vo S q env H fun e h=>k (d_ e d x) h∧∃y,e=d_ env q.1.d y:=by
 obtain⟨e1,e2⟩:=gj h x env;rcases hs with⟨h1,h2,h3⟩|⟨h1,h2,h3⟩
 ·exact .inl ⟨by rw[←e1];exact h1,h2,(nU e2 h3).mono fun y H' hk=>⟨by rw[←gy hd];exact hk,y,rfl⟩⟩
 ·exact .inr ⟨by rw[←e1];exact h1,h2,by rw[←gy hd];exact h3,_,rfl⟩
theorem vo.swap {p q : dn × Fp} (hi : indep p q = true) {k : Env → Hp → Prop} (h : vo S p env H fun e h => vo S q e h k) : vo S q env H fun e h => vo S p e h k := by
 simp only[indep,tc,Bool.and_eq_true,Bool.or_eq_true,Option.isNone_iff_eq_none,bne_iff_ne] at hi
 obtain⟨⟨⟨r1,r2⟩,r3⟩,hf,xH⟩:=hi
 obtain⟨lp,fp⟩:=p
 obtain⟨lq,fq⟩:=q
 simp only at r1 r2 r3 hf
 have Sn:lq.d=none∨lq.d≠lp.d:=by
   rcases r3 with r3|r3
   · by_cases e:lq.d=none
     · exact .inl e
     · exact .inr (by rw[r3];exact e)
   · exact .inr (Ne.symm r3)
 rcases h with⟨h1,h2,h3⟩|⟨h1,h2,h3⟩
 · cases fp with
   |no=>
     obtain⟨x,h4,h5⟩:=h3
     refine(h5.shift r1 r3).mono ?_
     rintro e h' ⟨hk,y,rfl⟩
     obtain⟨e1,e2⟩:=gj r2 y env
     refine .inl ⟨by simp only;rw[e1];exact h1,h2,x,?_,hk⟩
     rcases h4 with h4|h4
     · exact .inl (by simp only;rw[ie e2];exact h4)
     · exact .inr (nT (fun o ho=>(e2 o ho).symm) h4)
   |rw R W=>
     obtain⟨x,H',m1,m2,m3,m4⟩:=h3
     have Aq:∀y,ek lp.d lp.i (d_ env lq.d y) H=some (x,H')∧dz lp.i (d_ env lq.d y)=dz lp.i env∧a7 lp.d lp.i (d_ env lq.d y)=a7 lp.d lp.i env:=fun y=>by
       obtain⟨c1,c2,c3⟩:=jV (d:=lp.d) (gj r2 y env).2 H
       exact⟨by rw[c1];exact m1,c2,c3⟩
     obtain⟨f1,f2⟩:=gj r1 x env
     have g2:∀y,gW lp.g (d_ env lq.d y)=some true:=fun y=>by rw[(gj r2 y env).1];exact h1
     rcases m4 with⟨k1,k2,k3⟩|⟨k1,k2,k3⟩
     · cases fq with
       |no=>
         obtain⟨y,k4,k5⟩:=k3
         refine .inl ⟨by simp only;rw[←f1];exact k1,k2,y,?_,?_⟩
         · rcases k4 with k4|k4
           · exact .inl (by simp only;rw[←ie f2];exact k4)
           · exact .inr (nT f2 k4)
         · exact .inl ⟨g2 y,h2,x,H',(Aq y).1,by simp only;rw[(Aq y).2.1];exact m2,by simp only;rw[(Aq y).2.2];exact m3,by simp only;rw[←gy r3];exact k5⟩
       |rw R' W'=>
         obtain⟨y,iy,k4,k5,k6,k7⟩:=k3
         obtain⟨c1,c2,c3⟩:=jV (d:=lq.d) f2 H'
         simp only at k4 k5 k6 k7
         rw[c1] at k4
         rw[c2] at k5
         rw[c3] at k6
         simp only[kD,Bool.and_eq_true,List.all_eq_true,Bool.not_eq_true',List.contains_eq_mem,decide_eq_false_iff_not] at hf
         obtain⟨Kt,xn⟩:=hf
         have pW:∀l,l∈a7 lp.d lp.i env→l.iJ∉R'∧l.iJ∉W':=fun l hl=>Kt l.iJ (m3 l hl)
         have Io:∀l,l∈dz lq.i env∨l∈a7 lq.d lq.i env→H l=H' l:=by
           intro l hl
           refine(iO m1 l fun hw=> ?_).symm
           rcases hl with hl|hl
           · rcases k5 l hl with e|e
             · exact(pW l hw).1 e
             · exact(pW l hw).2 e
           · exact(pW l hw).2 (k6 l hl)
         obtain⟨H2,a1,a2,a3⟩:=mw k4 Io
         have uC:∀l,l∈dz lp.i env∨l∈a7 lp.d lp.i env→H2 l=H l:=by
           intro l hl
           refine a3 l fun hw=> ?_
           rcases hl with hl|hl
           · rcases m2 l hl with e|e
             · exact xn l.iJ e (k6 l hw)
             · exact(Kt l.iJ e).2 (k6 l hw)
           · exact(pW l hl).2 (k6 l hw)
         obtain⟨H3,b1,b2,b3⟩:=mw m1 uC
         have hH:H3=iy:=by
           funext l
           by_cases hw:l∈a7 lp.d lp.i env
           · rw[b2 l hw]
             exact(iO k4 l fun hq=>(pW l hw).2 (k6 l hq)).symm
           · rw[b3 l hw]
             by_cases hq:l∈a7 lq.d lq.i env
             · exact a2 l hq
             · rw[a3 l hq,iO k4 l hq,iO m1 l hw]
         subst hH
         refine .inl ⟨by simp only;rw[←f1];exact k1,k2,y,H2,a1,k5,k6,?_⟩
         obtain⟨d1,d2,d3⟩:=jV (d:=lp.d) (gj r2 y env).2 H2
         exact .inl ⟨g2 y,h2,x,H3,by simp only;rw[d1];exact b1,by simp only;rw[d2];exact m2,by simp only;rw[d3];exact m3,by simp only;rw[←gy r3];exact k7⟩
       |all=>simp[kD] at hf
       |qx F=>
         simp only[kD,Bool.and_eq_true,List.isEmpty_iff,List.all_eq_true,List.contains_eq_mem,decide_eq_true_eq] at hf
         obtain⟨rfl,hf⟩:=hf
         have DZ:∀l,l∉a7 lp.d lp.i env:=fun l hl=>by simpa using m3 l hl
         have hH:H'=H:=funext fun l=>iO m1 l (DZ l)
         subst hH
         refine .inl ⟨by simp only;rw[←f1];exact k1,k2,?_⟩
         refine aZ.mono (fp:= .qx F) (k:=fun y H2=>(∀l:Lb,l.iJ∈F→H2 l=H' l)∧k (d_ (d_ env lp.d x) lq.d y) H2) ?_ (nU f2 (aZ.N6 k3))
         rintro y H2 ⟨g1,g3⟩
         have uC:∀l,l∈dz lp.i env∨l∈a7 lp.d lp.i env→H2 l=H' l:=by
           intro l hl
           rcases hl with hl|hl
           · rcases m2 l hl with e|e
             · exact g1 l (hf _ e)
             · simp at e
           · exact absurd hl (DZ l)
         obtain⟨H3,b1,b2,b3⟩:=mw m1 uC
         have hH:H3=H2:=funext fun l=>b3 l (DZ l)
         subst hH
         obtain⟨d1,d2,d3⟩:=jV (d:=lp.d) (gj r2 y env).2 H3
         exact .inl ⟨g2 y,h2,x,H3,by simp only;rw[d1];exact b1,by simp only;rw[d2];exact m2,by simp only;rw[d3];exact m3,by simp only;rw[←gy r3];exact g3⟩
     · refine .inr ⟨by simp only;rw[←f1];exact k1,k2,?_⟩
       exact .inl ⟨g2 .un,h2,x,H',(Aq .un).1,by simp only;rw[(Aq .un).2.1];exact m2,by simp only;rw[(Aq .un).2.2];exact m3,by simp only;rw[←gy r3];exact k3⟩
   |all=>cases fq<;>simp[kD] at hf
   |qx F=>
     cases N7:lp.i with
     |call f args=>
       rw[N7] at h3
       simp only[aZ] at h3
       obtain⟨Q,m1,⟨x0,H0,m2⟩,m3⟩:=h3
       have Nj:∀x H',Q x H'→∀l:Lb,l.iJ∈F→H' l=H l:=fun x H' hq=>(m3 x H' hq).1
       have mS:∀x H',Q x H'→vo S (lq,fq) (d_ env lp.d x) H' k:=fun x H' hq=>(m3 x H' hq).2
       have fs:=fun x:AV=>gj r1 x env
       have back:∀(y:AV) (k':AV→Hp→Prop),(∀x H',Q x H'→k' x H')→aZ S (.qx F) lp.d lp.i (d_ env lq.d y) H k':=fun y k' nV=>by
         have h4:aZ S (.qx F) lp.d lp.i env H k':=by
           rw[N7];simp only[aZ]
           exact⟨Q,m1,⟨x0,H0,m2⟩,fun x H' hq=>⟨Nj x H' hq,nV x H' hq⟩⟩
         exact nU (fun o ho=>((gj r2 y env).2 o ho).symm) h4
       have g2:∀y,gW lp.g (d_ env lq.d y)=some true:=fun y=>by rw[(gj r2 y env).1];exact h1
       rcases mS x0 H0 m2 with⟨k1,k2,k3⟩|⟨k1,k2,k3⟩
       · simp only at k1 k2 k3
         rw[(fs x0).1] at k1
         have gf:∀x H',Q x H'→aZ S fq lq.d lq.i (d_ env lp.d x) H' fun y iy=>k (d_ (d_ env lp.d x) lq.d y) iy:=by
           intro x H' hq
           rcases mS x H' hq with⟨e1,e2,e3⟩|⟨e1,e2,e3⟩
           · exact e3
           · simp only at e1;rw[(fs x).1,k1] at e1;simp at e1
         cases fq with
         |no=>
           have GG:∀(y:AV) (env':Env),cA S lq.i env' y→False:=by
             intro y env' hq
             have:lq.i.xG=false:=by simpa[Fp.GX] using xH
             cases hi:lq.i<;>simp_all[cA,cV.xG]
           obtain⟨y,k4,_⟩:=k3
           have k4:ae lq.i env=some y:=by
             rcases k4 with k4|k4
             · rwa[ie (fs x0).2] at k4
             · exact(GG y _ k4).elim
           refine .inl ⟨k1,k2,y,.inl k4,?_⟩
           refine .inl ⟨g2 y,h2,back y _ fun x H' hq=> ?_⟩
           obtain⟨y',e1,e2⟩:=gf x H' hq
           have e1:ae lq.i env=some y':=by
             rcases e1 with e1|e1
             · rwa[ie (fs x).2] at e1
             · exact(GG y' _ e1).elim
           rw[k4] at e1;cases e1
           simp only;rw[←gy r3];exact e2
         |rw R W=>
           simp only[kD,Bool.and_eq_true,List.isEmpty_iff,List.all_eq_true,List.contains_eq_mem,decide_eq_true_eq] at hf
           obtain⟨rfl,hf⟩:=hf
           have one:∀x H',Q x H'→∀y H2,ek lq.d lq.i (d_ env lp.d x) H'=some (y,H2)→(∀l∈dz lq.i (d_ env lp.d x),l.iJ∈R∨l.iJ∈([]:List Lb))→(∀l∈a7 lq.d lq.i (d_ env lp.d x),l.iJ∈([]:List Lb)) →
               ek lq.d lq.i env H=some (y,H)∧H2=H'∧(∀l∈dz lq.i env,l.iJ∈R∨l.iJ∈([]:List Lb))∧∀l∈a7 lq.d lq.i env,l.iJ∈([]:List Lb):=by
             intro x H' hq y H2 e1 e2 e3
             obtain⟨c1,c2,c3⟩:=jV (d:=lq.d) (fs x).2 H'
             rw[c1] at e1;rw[c2] at e2;rw[c3] at e3
             have DZ:∀l,l∉a7 lq.d lq.i env:=fun l hl=>by simpa using e3 l hl
             have Bl:∀l,l∈dz lq.i env∨l∈a7 lq.d lq.i env→H l=H' l:=by
               intro l hl
               rcases hl with hl|hl
               · rcases e2 l hl with e|e
                 · exact(Nj x H' hq l (hf _ e)).symm
                 · simp at e
               · exact absurd hl (DZ l)
             obtain⟨H3,b1,b2,b3⟩:=mw e1 Bl
             have hH:H3=H:=funext fun l=>b3 l (DZ l)
             subst hH
             exact⟨b1,funext fun l=>iO e1 l (DZ l),e2,e3⟩
           obtain⟨y,H2,q1,q2,q3,_⟩:=k3
           obtain⟨a1,_,a3,a4⟩:=one x0 H0 m2 y H2 q1 q2 q3
           refine .inl ⟨k1,k2,y,H,a1,a3,a4,?_⟩
           refine .inl ⟨g2 y,h2,back y _ fun x H' hq=> ?_⟩
           obtain⟨y',QV,p1,p2,p3,p4⟩:=gf x H' hq
           obtain⟨b1,rfl,_,_⟩:=one x H' hq y' QV p1 p2 p3
           rw[a1] at b1;cases b1
           simp only;rw[←gy r3];exact p4
         |all=>simp[kD] at hf
         |qx F'=>simp[kD] at hf
       · simp only at k1 k2 k3
         rw[(fs x0).1] at k1
         refine .inr ⟨k1,k2,?_⟩
         refine .inl ⟨g2 .un,h2,back .un _ fun x H' hq=> ?_⟩
         rcases mS x H' hq with⟨e1,e2,e3⟩|⟨e1,e2,e3⟩
         · simp only at e1;rw[(fs x).1,k1] at e1;simp at e1
         · simp only;rw[←gy r3];exact e3
     |_=>rw[N7] at h3;simp only[aZ] at h3
 · refine(h3.shift r1 r3).mono ?_
   rintro e h' ⟨hk,y,rfl⟩
   obtain⟨e1,e2⟩:=gj r2 y env
   exact .inr ⟨by simp only;rw[e1];exact h1,h2,hk⟩
theorem mi.front {q:Nat×dn×Fp} {l2:List (Nat×dn×Fp)} {k:Env→Hp→Prop}:∀(l1:List (Nat×dn×Fp)) (env:Env) (H:Hp),(∀p∈l1,indep p.2 q.2=true)→mi S (l1++q::l2) env H k →
  mi S (q::(l1++l2)) env H k
 |[],env,H,_,h=>h
 |p::l1,env,H,hi,h=>by
  simp only[List.cons_append,mi] at h ⊢;refine vo.swap (hi p (by simp)) (h.mono fun e h' hq=> ?_);have:=mi.front l1 e h' (fun p' ed=>hi p' (by simp[ed])) hq;simpa only[mi] using this
end
end Go.Am

/- THE ABSTRACT MACHINE, part 20: regions whose order is drawn are sound. -/
namespace Go.Am
open Go Go.RowKit
def gz (ops:Array Oper):List (List Nat):=ops.toList.map fun o=>(o.after.toList.filter (Region.binds .any)).map (·.on)
def items:Nat→List dn→List Fp→List (Nat×dn×Fp)
 |_,[],_=>[]
 |n,i::r,fs=>(n,i,fs.headD .no)::items (n+1) r fs.tail
def oj (es:List (List Nat)):List (Nat×dn×Fp)→Bool
 |[]=>true
 |p::r=>r.all (fun q=>(es.getD q.1 []).contains p.1||indep p.2 q.2)&&oj es r
def q_ (acc:List (List Nat)):List (List Nat)→List (List Nat)
 |[]=>acc
 |x::r=>q_ (acc++[(x.flatMap fun e=>acc.getD e []).foldl (fun a e=>if a.contains e then a else e::a) x]) r
inductive GY (es:List (List Nat)):Nat→Nat→Prop where
 |one {p q:Nat}:p∈es.getD q []→GY es p q
 |more {p r q:Nat}:r∈es.getD q []→GY es p r→GY es p q
theorem BP {l x:List Nat} {p:Nat} (h:p∈l.foldl (fun a e=>if a.contains e then a else e::a) x):p∈x∨p∈l:=by
 induction l generalizing x with
 |nil=>exact .inl h
 |cons e l ih=>
  simp only[List.foldl_cons] at h;rcases ih h with h|h
  ·split at h
   ·exact .inl h
   ·rcases List.mem_cons.1 h with rfl|h
    ·exact .inr (by simp)
    ·exact .inl h
  ·exact .inr (by simp[h])
theorem pQ (es:List (List Nat)):∀(r acc:List (List Nat)),es.drop acc.length=r→(∀i p,p∈acc.getD i []→GY es p i)→∀i p,p∈(q_ acc r).getD i []→GY es p i
 |[],acc,_,h=>by simpa[q_] using h
 |x::r,acc,hd,h=>by
  simp only[q_]
  have hx:es[acc.length]?=some x:=by
   have:=congrArg (fun l=>l[0]?) hd;simpa using this
  refine pQ es r _ ?_ ?_
  ·rw[List.length_append,List.length_singleton,←List.drop_drop,hd];rfl
  ·intro i p hp;rw[List.getD_eq_getElem?_getD] at hp;by_cases hi:i<acc.length
   ·rw[List.getElem?_append_left hi,←List.getD_eq_getElem?_getD] at hp;exact h i p hp
   ·rw[List.getElem?_append_right (by omega)] at hp;by_cases e:i=acc.length
    ·subst e;simp only[Nat.sub_self,List.getElem?_cons_zero,Option.getD_some] at hp;have PU:es.getD acc.length []=x:=by rw[List.getD_eq_getElem?_getD,hx];rfl
     rcases BP hp with hp|hp
     ·exact .one (by rw[PU];exact hp)
     ·obtain⟨e,he,hp⟩:=List.mem_flatMap.1 hp;exact .more (by rw[PU];exact he) (h e p hp)
    ·rw[List.getElem?_eq_none (by simp;omega)] at hp;simp at hp
def BQ (es:List (List Nat)) (l:List (Nat×dn×Fp)):Bool:=l.all fun p=>(es.getD p.1 []).all fun e=>decide (e<p.1)
def y5 (is:List dn) (es:List (List Nat)) (fs:List Fp):Bool:=(oj es (items 0 is fs)||oj (q_ [] es) (items 0 is fs))&&BQ es (items 0 is fs)
theorem lI {es:List (List Nat)}:∀{l:List (Nat×dn×Fp)},oj es l=true→l.Pairwise fun p q=>p.1∈es.getD q.1 []∨indep p.2 q.2=true
 |[],_=> .nil
 |p::r,h=>by
  simp only[oj,Bool.and_eq_true,List.all_eq_true,Bool.or_eq_true,List.contains_eq_mem,decide_eq_true_eq] at h;exact .cons h.1 (lI h.2)
section
variable {K:Kx} {env:Env} {H:Hp} {a:Act} {w:World}
theorem pe {ops:Array Oper} {listed:Array Bool} {i:Nat}:i∈Region.ready .any ops listed ↔
  i<ops.size∧listed.getD i true=false∧∃o,ops[i]?=some o∧∀e∈o.after,Region.binds .any e=true→listed.getD e.on false=true:=by
 unfold Region.ready;simp only[List.mem_filter,List.mem_range,Bool.and_eq_true,Bool.not_eq_true'];constructor
 ·rintro⟨h1,h2,h3⟩;refine⟨h1,h2,?_⟩;cases ho:ops[i]? with
  |none=>rw[ho] at h3;simp at h3
  |some o=>
   rw[ho] at h3;simp only[Option.map_some,Option.getD_some] at h3;refine⟨o,rfl,fun e he hb=> ?_⟩;have QW:=Array.all_eq_true_iff_forall_mem.1 h3;have:=QW e he;simpa[hb] using this
 ·rintro⟨h1,h2,o,h3,h4⟩;refine⟨h1,h2,?_⟩;rw[h3];simp only[Option.map_some,Option.getD_some];refine Array.all_eq_true_iff_forall_mem.2 fun e he=> ?_
  cases hb:Region.binds .any e with
  |false=>rfl
  |true=>simpa using h4 e he hb
theorem vK {ops:Array Oper} {i:Nat} {o:Oper} (ho:ops[i]?=some o) {e:Edge} (he:e∈o.after) (hb:Region.binds .any e=true):e.on∈(gz ops).getD i []:=by
 unfold gz;rw[List.getD_eq_getElem?_getD,List.getElem?_map,Array.getElem?_toList,ho];simp only[Option.map_some,Option.getD_some,List.mem_map,List.mem_filter,Array.mem_toList_iff];exact⟨e,⟨he,hb⟩,rfl⟩
theorem Ar {ops : Array Oper} {k : Env → Hp → Prop} {Q : Exit → Act → World → Prop} (hk : ∀ env' H' β' a' w',k env' H' → bj K β' env' H' a' w' → Q .normal a' w') :
   ∀(fuel:Nat) (l:List (Nat×dn×Fp)) (listed:Array Bool) (env:Env) (H:Hp) (a:Act) (w:World) (β:Lb→Option Nat),l.length=fuel →
     l.Pairwise (fun p q=>p.1<q.1)→listed.size=ops.size→(∀i,i<ops.size→(listed.getD i true=false↔∃p∈l,p.1=i)) →
     (∀p∈l,p.1<ops.size∧∃o,ops[p.1]?=some o∧nB K.P K.G ops o=some p.2.1.j9) →
     l.Pairwise (fun p q=>GY (gz ops) p.1 q.1∨indep p.2 q.2=true)→(∀i,i<ops.size→listed.getD i true=true→∀e∈(gz ops).getD i [],listed.getD e false=true)→(∀p∈l,∀e∈(gz ops).getD p.1 [],e<p.1) →
     mi ⟨K.P,K.G,K.N⟩ l env H k→bj K β env H a w→wpAny K.P .any ops Q fuel listed a w:=by
 intro fuel
 induction fuel with
 |zero=>
   intro l listed env H a w β hlen _ _ hl _ _ _ _ hA hr
   have:l=[]:=List.eq_nil_of_length_eq_zero hlen
   subst this
   refine⟨?_,hk _ _ _ _ _ hA hr⟩
   rw[List.eq_nil_iff_forall_not_mem]
   intro i hi
   obtain⟨h1,h2,_⟩:=pe.1 hi
   obtain⟨p,hp,_⟩:=(hl i h1).1 h2
   simp at hp
 |succ fuel ih=>
   intro l listed env H a w β hlen y6 k8 hl Ey BR hD GZ hA hr
   refine⟨fun BO=> ?_,fun i hi=> ?_⟩
   · exfalso
     cases l with
     |nil=>simp at hlen
     |cons p r=>
       obtain⟨N8,o,Ni,So⟩:=Ey p (by simp)
       have:p.1∈Region.ready .any ops listed:=by
         refine pe.2 ⟨N8,(hl p.1 N8).2 ⟨p,by simp,rfl⟩,o,Ni,fun e he hb=> ?_⟩
         have cj:=GZ p (by simp) e.on (vK Ni he hb)
         have jl:e.on<ops.size:=by omega
         have dm:¬listed.getD e.on true=false:=by
           rw[hl e.on jl]
           rintro⟨q,hq,Sp⟩
           rcases List.mem_cons.1 hq with rfl|hq
           · omega
           · have:=(List.pairwise_cons.1 y6).1 q hq
             omega
         rw[Array.getD_eq_getD_getElem?] at dm ⊢
         rw[Array.getElem?_eq_getElem (by omega)] at dm ⊢
         simpa using dm
       rw[BO] at this
       simp at this
   · obtain ⟨h1,h2,o,h3,h4⟩ := pe.1 hi
     obtain⟨p,hp,rfl⟩:=(hl i h1).1 h2
     obtain⟨l1,l2,rfl⟩:=List.append_of_mem hp
     obtain⟨_,o',PV,j_⟩:=Ey p hp
     rw[h3] at PV;cases PV
     have N9:∀q∈l1,indep q.2 p.2=true:=by
       intro q hq
       rcases (List.pairwise_append.1 BR).2.2 q hq p (by simp) with he|he
       · exfalso
         have Ls:∀z∈(gz ops).getD p.1 [],listed.getD z false=true:=by
           intro z he
           unfold gz at he
           rw[List.getD_eq_getElem?_getD,List.getElem?_map,Array.getElem?_toList,h3] at he
           simp only[Option.map_some,Option.getD_some,List.mem_map,List.mem_filter,Array.mem_toList_iff] at he
           obtain⟨e,⟨N',K6⟩,rfl⟩:=he
           exact h4 e N' K6
         have xB:∀z t,GY (gz ops) z t→listed.getD t false=true→listed.getD z false=true:=by
           intro z t hr
           induction hr with
           |@one t hz=>
             intro ht
             have N_:t<ops.size:=by
               rw[Array.getD_eq_getD_getElem?] at ht
               cases hh:listed[t]? with
               |none=>rw[hh] at ht;simp at ht
               |some b=>have:=(Array.getElem?_eq_some_iff.1 hh).1;omega
             refine hD t N_ ?_ z hz
             rw[Array.getD_eq_getD_getElem?] at ht ⊢
             rw[Array.getElem?_eq_getElem (by omega)] at ht ⊢
             simpa using ht
           |@more r t hz _ ih=>
             intro ht
             refine ih ?_
             have N_:t<ops.size:=by
               rw[Array.getD_eq_getD_getElem?] at ht
               cases hh:listed[t]? with
               |none=>rw[hh] at ht;simp at ht
               |some b=>have:=(Array.getElem?_eq_some_iff.1 hh).1;omega
             refine hD t N_ ?_ r hz
             rw[Array.getD_eq_getD_getElem?] at ht ⊢
             rw[Array.getElem?_eq_getElem (by omega)] at ht ⊢
             simpa using ht
         have GU:listed.getD q.1 false=true:=by
           cases he with
           |one hz=>exact Ls _ hz
           |more hz hr=>exact xB _ _ hr (Ls _ hz)
         have Kl:=(Ey q (by simp[hq])).1
         have Ai:=(hl q.1 Kl).2 ⟨q,by simp[hq],rfl⟩
         rw[Array.getD_eq_getD_getElem?] at GU Ai
         rw[Array.getElem?_eq_getElem (by omega)] at GU Ai
         simp at GU Ai
         rw[GU] at Ai
         simp at Ai
       · exact he
     have PW:=mi.front l1 env H N9 hA
     simp only[mi] at PW
     have dm:∀q∈l1++l2,q.1≠p.1:=by
       intro q hq e
       rcases List.mem_append.1 hq with hq|hq
       · have:=(List.pairwise_append.1 y6).2.2 q hq p (by simp);omega
       · have:=(List.pairwise_cons.1 (List.pairwise_append.1 y6).2.1).1 q hq;omega
     have z9:(l1++l2).Sublist (l1++p::l2):=List.Sublist.append_left (List.sublist_cons_self p l2) l1
     have ra:∀q∈l1++l2,q∈l1++p::l2:=fun q hq=>z9.subset hq
     have BS:∀env' H' β' a' w',mi ⟨K.P,K.G,K.N⟩ (l1++l2) env' H' k→bj K β' env' H' a' w'→wpAny K.P .any ops Q fuel (listed.setIfInBounds p.1 true) a' w':=by
       intro env' H' β' a' w' q1 q2
       refine ih (l1++l2) _ env' H' a' w' β' (by simp at hlen ⊢;omega) (y6.sublist z9) (by simp[k8]) (fun j hj=> ?_) (fun q hq=>Ey q (ra q hq)) (BR.sublist z9) (fun j hj Lt e he=> ?_)
         (fun q hq=>GZ q (ra q hq)) q1 q2
       rw[Array.getD_eq_getD_getElem?,Array.getElem?_setIfInBounds]
       by_cases e:p.1=j
       · subst e
         simp only[if_true]
         rw[if_pos (by omega)]
         simp only[Option.getD_some,Bool.true_eq_false,false_iff]
         rintro⟨q,hq,e⟩
         exact dm q hq e
       · rw[if_neg e,←Array.getD_eq_getD_getElem?,hl j hj]
         constructor
         · rintro⟨q,hq,rfl⟩
           refine⟨q,?_,rfl⟩
           simp only[List.mem_append,List.mem_cons] at hq ⊢
           rcases hq with hq|hq|hq
           · exact .inl hq
           · subst hq;exact absurd rfl e
           · exact .inr hq
         · rintro⟨q,hq,rfl⟩
           exact⟨q,ra q hq,rfl⟩
       · have QX:∀z,listed.getD z false=true→(listed.setIfInBounds p.1 true).getD z false=true:=by
           intro z hz
           rw[Array.getD_eq_getD_getElem?] at hz ⊢
           rw[Array.getElem?_setIfInBounds]
           split
           · split<;>simp_all
           · exact hz
         apply QX
         by_cases e2:p.1=j
         · subst e2
           unfold gz at he
           rw[List.getD_eq_getElem?_getD,List.getElem?_map,Array.getElem?_toList,h3] at he
           simp only[Option.map_some,Option.getD_some,List.mem_map,List.mem_filter,Array.mem_toList_iff] at he
           obtain⟨e,⟨N',K6⟩,rfl⟩:=he
           exact h4 e N' K6
         · refine hD j hj ?_ e he
           rw[Array.getD_eq_getD_getElem?,Array.getElem?_setIfInBounds,if_neg e2,←Array.getD_eq_getD_getElem?] at Lt
           exact Lt
     simp only[wpOp,h3]
     refine qZ hr j_ (k:=fun e h=>mi ⟨K.P,K.G,K.N⟩ (l1++l2) e h k) BS ?_
     rcases PW with⟨g1,g2,g3⟩|⟨g1,g2,g3⟩
     · exact .inl ⟨g1,g2,g3.act⟩
     · exact .inr ⟨g1,g2,g3⟩
theorem pf:∀(is:List dn) (n:Nat) (fs:List Fp) (p:Nat×dn×Fp),p∈items n is fs→n≤p.1∧is[p.1 - n]?=some p.2.1
 |[],n,fs,p,h=>by simp[items] at h
 |i::r,n,fs,p,h=>by
  simp only[items,List.mem_cons] at h;rcases h with rfl|h
  ·simp
  ·obtain⟨h1,h2⟩:=pf r (n+1) _ p h;refine⟨by omega,?_⟩;rw[show p.1 - n=(p.1 - (n+1))+1 by omega];simpa using h2
theorem om:∀(is:List dn) (n:Nat) (fs:List Fp),(items n is fs).Pairwise fun p q=>p.1<q.1
 |[],n,fs=> .nil
 |i::r,n,fs=>by
  simp only[items];refine .cons (fun q hq=> ?_) (om r (n+1) _);have:=(pf r (n+1) _ q hq).1;simp only;omega
theorem td:∀(is:List dn) (n:Nat) (fs:List Fp),(items n is fs).length=is.length
 |[],n,fs=>rfl
 |i::r,n,fs=>by simp[items,td r]
theorem te:∀(is:List dn) (n:Nat) (fs:List Fp) (j:Nat),j<is.length→∃p∈items n is fs,p.1=n+j
 |[],n,fs,j,h=>by simp at h
 |i::r,n,fs,0,h=>⟨_,List.mem_cons_self ..,rfl⟩
 |i::r,n,fs,j+1,h=>by
  obtain⟨p,h1,h2⟩:=te r (n+1) fs.tail j (by simpa using h);exact⟨p,by simp only[items];exact List.mem_cons_of_mem _ h1,by omega⟩
theorem vL {α β:Type} {R:α→β→Prop}:∀{l:List α} {m:List β},dP R l m→l.length=m.length∧∀(i:Nat) (y:β),m[i]?=some y→∃x,l[i]?=some x∧R x y
 |_,_,.nil=>⟨rfl,by simp⟩
 |_,_,.cons h1 h2=>by
  obtain⟨e,h⟩:=vL h2;refine⟨by simp[e],fun i y hy=> ?_⟩;cases i with
  |zero=>simp at hy;subst hy;exact⟨_,by simp,h1⟩
  |succ i=>obtain⟨x,q1,q2⟩:=h i y (by simpa using hy);exact⟨x,by simpa using q1,q2⟩
theorem bj.drew {β:Lb→Option Nat} (hr:bj K β env H a w):bj K β env H a {w with drawn:=w.drawn+1}:=by
 have hg:mh w {w with drawn:=w.drawn+1}:=⟨rfl,rfl,rfl,Nat.le_refl _,fun _ _=>rfl⟩;have:=hr.step hg (d:=none) (x:= .un) (v:=undef) (by simp) (by simp) (by simp);simpa[d_,Act.put] using this
theorem vM {β:Lb→Option Nat} (hr:bj K β env H a w) {id:Nat} {ops:Array Oper} (hm:K.P.follows .mixedOrders=true) {is:List dn} {fs:List Fp}
  (gf:dP (fun o i=>nB K.P K.G ops o=some (dn.j9 i)) ops.toList is) (ho:y5 is (gz ops) fs=true) {k:Env→Hp→Prop} {Q:Exit→Act→World→Prop}
  (hk:∀env' H' β' a' w',k env' H'→bj K β' env' H' a' w'→Q .normal a' w') (hA:mi ⟨K.P,K.G,K.N⟩ (items 0 is fs) env H k):(Code.region id ops true).wp K.P Q a w:=by
 obtain⟨hlen,cM⟩:=vL gf;simp only[Array.length_toList] at hlen;simp only[y5,Bool.and_eq_true] at ho;obtain⟨Ib,Kr⟩:=ho
 have Oa:(items 0 is fs).Pairwise fun p q=>GY (gz ops) p.1 q.1∨indep p.2 q.2=true:=by
  rcases Bool.or_eq_true_iff.1 Ib with h|h
  ·exact(lI h).imp fun Ob=>Ob.imp .one (fun h=>h)
  ·exact(lI h).imp fun Ob=>Ob.imp (pQ _ _ [] rfl (by simp) _ _) (fun h=>h)
 refine wp_region_any hm (Ar hk ops.size (items 0 is fs) _ env H a _ β (by rw[td];exact hlen.symm) (om is 0 fs) (by simp) (fun i hi=> ?_) (fun p hp=> ?_)
  Oa (fun i hi Lt=> ?_) (fun p hp e he=> ?_) hA hr.drew)
 ·rw[Array.getD_eq_getD_getElem?,Array.getElem?_replicate,if_pos hi];simp only[Option.getD_some,true_iff];obtain⟨p,h1,h2⟩:=te is 0 fs i (by omega);exact⟨p,h1,by omega⟩
 ·obtain⟨h1,h2⟩:=pf is 0 fs p hp;simp only[Nat.sub_zero] at h2;obtain⟨o,q1,q2⟩:=cM p.1 _ h2;have:=(List.getElem?_eq_some_iff.1 h2).1;exact⟨by omega,o,by simpa using q1,q2⟩
 ·rw[Array.getD_eq_getD_getElem?,Array.getElem?_replicate,if_pos hi] at Lt;simp at Lt
 ·simp only[BQ,List.all_eq_true,decide_eq_true_eq] at Kr;exact Kr p hp e he
end
end Go.Am

/- THE ABSTRACT MACHINE, part 18: code, as it is walked. -/
namespace Go.Am
open Go Go.RowKit
inductive Gh where
 |eM (ns:List Nat)
 |Ez (l:Lb) (d:Nat)
 |As (l q:Lb) (j:Nat)
 |own (d sz:Nat)
 |cut (n:Nat)
 |qn
 |Ip
inductive AC where
 |skip
 |seq (a b:AC)
 |cond (x:O) (a b:AC)
 |block (id:Nat) (c:AC)
 |loop (c:AC)
 |exit (id:Nat)
 |ret
 |aM (is:List dn)
 |eY (is:List dn) (es:List (List Nat)) (fs:List Fp)
 |gh (g:Gh) (c:AC)
def AC.sz:AC→Nat
 | .seq a b=>a.sz+b.sz+2
 | .cond _ a b=>a.sz+b.sz+2
 | .block _ c=>c.sz+3
 | .loop c=>c.sz+1
 | .gh _ c=>c.sz+1
 |_=>1
inductive It where
 |code (c:AC)
 |tf (id:Nat)
def It.sz:It→Nat
 | .code c=>c.sz
 | .tf _=>1
def pR:List It→Nat
 |[]=>0
 |i::r=>i.sz+pR r
def fe (id:Nat):List It→Option (List It)
 |[]=>none
 | .tf i::r=>if i=id then some r else fe id r
 |_::r=>fe id r
theorem oo {id:Nat}:∀{l r:List It},fe id l=some r→pR r≤pR l
 |[],r,h=>by simp[fe] at h
 | .tf i::l,r,h=>by
  simp only[fe] at h;split at h
  ·cases h;simp[pR]
  ·have:=oo h;simp only[pR];omega
 | .code c::l,r,h=>by
  simp only[fe] at h;have:=oo h;simp only[pR];omega
theorem AC.BT (c:AC):0<c.sz:=by cases c<;>simp[AC.sz]
def rb (ns:List Nat) (env:Env):Env:=fun n=>if n∈ns then env n else .any
abbrev ka:=Exit→Env→Hp→Prop
end Go.Am
