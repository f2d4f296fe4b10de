import Derived.Test.YtfinkeaikbmpgaaGreatDoorKAm12
set_option linter.unusedSimpArgs false
set_option linter.unusedVariables false
set_option linter.unnecessarySimpa false
set_option linter.defProp false
/- THE ABSTRACT MACHINE, part 17: regions whose order is drawn. -/
namespace Go.Am
open Go Go.RowKit
def az.os:az→List O
 | .bT x| .dU x _| .len x| .lens x| .not x| .neg x| .ext x _| .fy x _ _| .fz x| .c_ x| .mg _ x| .dr x| .mh x| .mi x| .gi _ x| .load _ x| .box x| .n1 _ x| .cap x| .ir x _ _| .gj x _ _=>[x]
 | .pick c a b=>[c,a,b]
 | .kr x i _| .ma x i| .mj x i _ _=>[x,i]
 | .mb x lo hi mx _=>x::(lo.toList++hi.toList++mx.toList)
 | .gg x lo hi=>x::(lo.toList++hi.toList)
 | .bin _ x y| .mc _ x y| .kt _ x y| .me _ x y| .fx _ _ x y| .max x y| .min x y| .store _ x y| .app x y _ _| .fB x y _ _| .gk x y _ _ _| .gO x y _=>[x,y]
 | .jb _ ps=>ps.map (·.2.2)
 | .lits _ _ _ ps=>ps.map (·.2)
 | .bX _ _ ps=>ps.map (·.2)
 | .ml _ qs cs=>qs++cs
 | .mf _ cs=>cs
 | .new _=>[]
 | .stuck=>[]
 | .jc n c _ _ _=>[n,c]
 | .call _ args=>args
 | .dW _ args=>args
 | .bH x args=>x::args
def O.us:O→List Nat
 | .t n=>[n]
 | .c _=>[]
def aB.us (i:aB):List Nat:=i.i.os.flatMap O.us++(match i.g with|some (s,_)=>[s]|none=>[])
theorem pe {env:Env} {d:Option Nat} {y:AV} {x:O} (h:∀n,d=some n→n∉x.us):ev (aM env d y) x=ev env x:=by
 cases x with
 |c x=>rfl
 |t n=>
  cases d with
  |none=>rfl
  |some m=>
   have:=h m rfl;simp[O.us] at this;simp[ev,aM,put,Ne.symm this]
section
variable {env env':Env}
theorem bR {o:Option O} (h:∀x∈o.toList,ev env x=ev env' x) (m n:Nat):gH env o m n=gH env' o m n:=by
 cases o with
 |none=>rfl
 |some x=>simp only[gH];rw[h x (by simp)]
theorem jZ {lo hi mx:Option O} (h:∀x∈lo.toList++hi.toList++mx.toList,ev env x=ev env' x) (n:Nat):e7 env lo hi mx n=e7 env' lo hi mx n:=by
 have h1:=fun m n=>bR (o:=lo) (fun x hx=>h x (by simp at hx ⊢;simp[hx])) m n
 have h2:=fun m n=>bR (o:=hi) (fun x hx=>h x (by simp at hx ⊢;simp[hx])) m n
 have h3:=fun m n=>bR (o:=mx) (fun x hx=>h x (by simp at hx ⊢;simp[hx])) m n
 cases mx with
 |none=>simp only[e7,h1,h2]
 |some m=>simp only[e7,h1,h2,h3]
theorem j0 {lo hi mx:Option O} (h:∀x∈lo.toList++hi.toList++mx.toList,ev env x=ev env' x) (n c:Nat):iC env lo hi mx n c=iC env' lo hi mx n c:=by
 have h1:=fun m n=>bR (o:=lo) (fun x hx=>h x (by simp at hx ⊢;simp[hx])) m n
 have h2:=fun m n=>bR (o:=hi) (fun x hx=>h x (by simp at hx ⊢;simp[hx])) m n
 have h3:=fun m n=>bR (o:=mx) (fun x hx=>h x (by simp at hx ⊢;simp[hx])) m n
 cases mx with
 |none=>simp only[iC,h1,h2]
 |some m=>simp only[iC,h1,h2,h3]
theorem bz {i:az} (h:∀x∈i.os,ev env x=ev env' x):aa i env=aa i env':=by
 cases i with
 |mb x lo hi mx sz=>
  simp only[aa];rw[h x (by simp[az.os])];have:=jZ (env:=env) (env':=env') (lo:=lo) (hi:=hi) (mx:=mx) (fun y hy=>h y (by simp only[az.os,List.mem_cons];exact .inr hy));have r_:=j0 (env:=env) (env':=env') (lo:=lo) (hi:=hi) (mx:=mx) (fun y hy=>h y (by simp only[az.os,List.mem_cons];exact .inr hy));unfold oB;simp only[this,r_]
 |gg x lo hi=>
  simp only[aa];rw[h x (by simp[az.os])];have h1:=fun m n=>bR (env:=env) (env':=env') (o:=lo) (fun y hy=>h y (by simp only[az.os,List.mem_cons,List.mem_append];exact .inr (.inl hy))) m n
  have h2:=fun m n=>bR (env:=env) (env':=env') (o:=hi) (fun y hy=>h y (by simp only[az.os,List.mem_cons,List.mem_append];exact .inr (.inr hy))) m n
  simp only[h1,h2]
 |jb z ps=>
  simp only[aa]
  have:(ps.map fun p=>(p.1,p.2.1,ev env p.2.2))=ps.map fun p=>(p.1,p.2.1,ev env' p.2.2):=
   List.map_congr_left fun p hp=>by rw[h p.2.2 (by simp only[az.os];exact List.mem_map_of_mem (f:=fun p:Nat×Nat×O=>p.2.2) hp)]
  rw[this]
 |lits n sz z ps=>
  simp only[aa]
  have:(ps.map fun p=>(p.1*sz,sz,ev env p.2))=ps.map fun p=>(p.1*sz,sz,ev env' p.2):=
   List.map_congr_left fun p hp=>by rw[h p.2 (by simp only[az.os];exact List.mem_map_of_mem (f:=fun p:Nat×O=>p.2) hp)]
  rw[this]
 |mf f cap=>
  simp only[aa];have:cap.map (ev env)=cap.map (ev env'):=List.map_congr_left fun p hp=>h p (by simpa[az.os] using hp)
  rw[this]
 |call f args=>rfl
 |bH x args=>rfl
 |dW f args=>rfl
 |gk s n sz b z=>rfl
 |bX sz z ps=>rfl
 |ml f qs cs=>
  simp only[aa];have h1:qs.map (ev env)=qs.map (ev env'):=List.map_congr_left fun p hp=>h p (by simp only[az.os,List.mem_append];exact .inl hp)
  have h2:cs.map (ev env)=cs.map (ev env'):=List.map_congr_left fun p hp=>h p (by simp only[az.os,List.mem_append];exact .inr hp)
  rw[h1,h2]
 |cap x=>rfl
 |ir x sz z=>rfl
 |gj x n sz=>simp only[aa,h x (by simp[az.os])]
 |fB x y sz b=>simp only[aa,h x (by simp[az.os]),h y (by simp[az.os])]
 |n1 n x=>rfl
 |new cs=>rfl
 |pick c a b=>simp only[aa,h c (by simp[az.os]),h a (by simp[az.os]),h b (by simp[az.os])]
 |jc n c sz b z=>rfl
 |store m a x=>rfl
 |app s x sz b=>rfl
 |gO s x sz=>rfl
 |box x=>rfl
 |mi x=>simp only[aa,h x (by simp[az.os])]
 |mj x i n sz=>simp only[aa,h x (by simp[az.os]),h i (by simp[az.os])]
 |kr x i sz=>simp only[aa,h x (by simp[az.os]),h i (by simp[az.os])]
 |ma x i=>simp only[aa,h x (by simp[az.os]),h i (by simp[az.os])]
 |bin op x y=>simp only[aa,h x (by simp[az.os]),h y (by simp[az.os])]
 |mc n x y=>simp only[aa,h x (by simp[az.os]),h y (by simp[az.os])]
 |kt n x y=>simp only[aa,h x (by simp[az.os]),h y (by simp[az.os])]
 |me n x y=>simp only[aa,h x (by simp[az.os]),h y (by simp[az.os])]
 |fx n ks x y=>simp only[aa,h x (by simp[az.os]),h y (by simp[az.os])]
 |max x y=>simp only[aa,h x (by simp[az.os]),h y (by simp[az.os])]
 |min x y=>simp only[aa,h x (by simp[az.os]),h y (by simp[az.os])]
 |bT x=>simp only[aa,h x (by simp[az.os])]
 |dU x o=>simp only[aa,h x (by simp[az.os])]
 |len x=>simp only[aa,h x (by simp[az.os])]
 |lens x=>simp only[aa,h x (by simp[az.os])]
 |not x=>simp only[aa,h x (by simp[az.os])]
 |neg x=>simp only[aa,h x (by simp[az.os])]
 |ext x i=>simp only[aa,h x (by simp[az.os])]
 |fy x o m=>simp only[aa,h x (by simp[az.os])]
 |fz x=>simp only[aa,h x (by simp[az.os])]
 |c_ x=>simp only[aa,h x (by simp[az.os])]
 |stuck=>rfl
 |mg k x=>simp only[aa,h x (by simp[az.os])]
 |dr x=>simp only[aa,h x (by simp[az.os])]
 |mh x=>simp only[aa,h x (by simp[az.os])]
 |gi t x=>simp only[aa,h x (by simp[az.os])]
 |load m x=>simp only[aa,h x (by simp[az.os])]
theorem j3 {S:St} {d:Option Nat} {i:az} (h:∀x∈i.os,ev env x=ev env' x) {H:Hp} {k:AV→Hp→Prop} (ha:an S d i env H k):an S d i env' H k:=by
 have hs:=bz h;cases i with
 |load m x=>
  simp only[an] at ha ⊢;rw[←hs,←h x (by simp[az.os])];exact ha
 |box x=>
  simp only[an] at ha ⊢;rw[←h x (by simp[az.os])];exact ha
 |new cs=>exact ha
 |store m x y=>
  simp only[an] at ha ⊢;rw[←h x (by simp[az.os]),←h y (by simp[az.os])];exact ha
 |app x y sz b=>
  simp only[an] at ha ⊢;rw[←h x (by simp[az.os]),←h y (by simp[az.os])];exact ha
 |call f args=>
  simp only[an] at ha ⊢;have:args.map (ev env)=args.map (ev env'):=List.map_congr_left fun p hp=>h p (by simpa[az.os] using hp)
  rw[←this];exact ha
 |n1 n x=>
  simp only[an] at ha ⊢;rw[←h x (by simp[az.os])];exact ha
 |gk x y sz b z=>
  simp only[an] at ha ⊢;rw[←h x (by simp[az.os]),←h y (by simp[az.os])];exact ha
 |bX sz z ps=>
  simp only[an] at ha ⊢
  have:(ps.map fun p=>(p.1,ev env p.2))=ps.map fun p=>(p.1,ev env' p.2):=
   List.map_congr_left fun p hp=>by rw[h p.2 (by simp only[az.os];exact List.mem_map_of_mem (f:=fun p:Nat×O=>p.2) hp)]
  rw[←this];exact ha
 |cap x=>
  simp only[an] at ha ⊢;rw[←h x (by simp[az.os])];exact ha
 |ir x sz z=>
  simp only[an] at ha ⊢;rw[←h x (by simp[az.os])];exact ha
 |gO x y sz=>
  simp only[an] at ha ⊢;rw[←h x (by simp[az.os]),←h y (by simp[az.os])];exact ha
 |jc n c sz b z=>
  simp only[an] at ha ⊢;rw[←h n (by simp[az.os]),←h c (by simp[az.os])];exact ha
 |dW f args=>
  simp only[an] at ha ⊢;have:args.map (ev env)=args.map (ev env'):=List.map_congr_left fun p hp=>h p (by simpa[az.os] using hp)
  rw[←this];exact ha
 |bH x args=>
  simp only[an] at ha ⊢;have:args.map (ev env)=args.map (ev env'):=List.map_congr_left fun p hp=>h p (by simp only[az.os,List.mem_cons];exact .inr hp)
  rw[←this,←h x (by simp[az.os])];exact ha
 |_=>simp only[an] at ha ⊢;rw[←hs];exact ha
end
inductive Fp where
 |no
 |rw (rs ws:List Lb)
 |all
 |hM (fs:List Lb)
def bU:AV→List Lb
 | .ptr l _ _ _=>[l]
 | .sl l _ _ _=>[l]
 | .slk l _ _ _ _=>[l]
 |_=>[]
open Classical in
noncomputable def aP (d:Option Nat) (i:az) (env:Env) (H:Hp):Option (AV×Hp):=
 match i with
 | .load m a=>(bt m (ev env a) H).map fun x=>(x,H)
 | .box x=>d.bind fun n=>if H (.loc n)= .unused∧(ev env x).jH=true∧0<(ev env x).cells.length∧(ev env x).cells.length≤maxLen then
  some (.ptr (.loc n) (ev env x).cells.length 0 0,aD H (.loc n) (.live ⟨(ev env x).cells.length,[(ev env x).cells]⟩)) else none
 | .new cs=>d.bind fun n=>if H (.loc n)= .unused∧0<cs.length∧cs.length≤maxLen then
  some (.ptr (.loc n) cs.length 0 0,aD H (.loc n) (.live ⟨cs.length,[cs]⟩)) else none
 | .store m a x=>if d=none then(cM m (ev env a) (ev env x) H).map fun H'=>(.un,H') else none
 | .app s x sz bytes=>d.bind fun n=>iK sz bytes n (ev env s) (ev env x) H
 | .gO s x sz=>iN sz (ev env s) (ev env x) H
 | .bX sz z ps=>d.bind fun q=>iP sz q z (ps.map fun p=>(p.1,ev env p.2)) H
 | .ir x sz z=>(iO sz z (ev env x) H).map fun H'=>(.eN [],H')
 | .jc n c sz b z=>d.bind fun q=>jR sz b q z (ev env n) (ev env c) H
 |_=>none
def aE (i:az) (env:Env):List Lb:=
 match i with
 | .load _ a=>bU (ev env a)
 | .app _ x _ _=>bU (ev env x)
 | .gO _ x _=>bU (ev env x)
 |_=>[]
def af (d:Option Nat) (i:az) (env:Env):List Lb:=
 match i with
 | .box _| .new _| .bX _ _ _| .jc _ _ _ _ _=>d.toList.map .loc
 | .store _ a _=>bU (ev env a)
 | .app s _ _ _=>match ev env s with
  | .sl l _ _ _=>l::d.toList.map l.app
  | .slk l _ _ _ _=>l::d.toList.map .loc
  |_=>d.toList.map .loc
 | .gO s _ _=>bU (ev env s)
 | .ir x _ _=>bU (ev env x)
 |_=>[]
theorem j4 {m:Option Nat} {x:AV} {H H1:Hp} {y:AV} (h:bt m x H=some y) (ha:∀l∈bU x,H1 l=H l):bt m x H1=some y:=by
 cases x with
 |ptr l sz i j=>simp only[bt,ha l (by simp[bU])] at h ⊢;exact h
 |_=>simp[bt] at h
theorem hO {sz:Nat} {x:AV} {H H1:Hp} (ha:∀l∈bU x,H1 l=H l):eS sz x H1=eS sz x H:=by
 cases x with
 |sl l s i n=>simp only[eS,ha l (by simp[bU])]
 |slk l s i n c=>simp only[eS,ha l (by simp[bU])]
 |_=>rfl
theorem hP {x:AV} {p:Lb×Nat×Nat×Nat} (h:qV x=some p):bU x=[p.1]:=by
 cases x<;>simp[qV] at h
 all_goals (subst h;rfl)
theorem df {d : Option Nat} {i : az} {env : Env} {H H' H1 : Hp} {x : AV} (h : aP d i env H = some (x,H')) (ha : ∀ l,l ∈ aE i env ∨ l ∈ af d i env → H1 l = H l) :
   ∃s4,aP d i env H1=some (x,s4)∧(∀l∈af d i env,s4 l=H' l)∧∀l,l∉af d i env→s4 l=H1 l:=by
 cases i with
 |load m a=>
   simp only[aP,Option.map_eq_some_iff,Prod.mk.injEq] at h ⊢
   obtain⟨y,h1,rfl,rfl⟩:=h
   exact⟨H1,⟨y,j4 h1 (fun l hl=>ha l (.inl hl)),rfl,rfl⟩,by simp[af],fun _ _=>rfl⟩
 |box y=>
   simp only[aP] at h ⊢
   obtain⟨n,rfl,h0⟩:=al h
   replace h:=h0
   clear h0
   split at h
   · rename_i hc
     simp only[Option.some.injEq,Prod.mk.injEq] at h
     obtain⟨rfl,rfl⟩:=h
     have e:=ha (.loc n) (.inr (by simp[af]))
     refine⟨_,by simp only[Option.bind_some];rw[if_pos (by rw[e];exact hc)],fun l hl=> ?_,fun l hl=> ?_⟩
     · simp[af] at hl;subst hl;simp
     · simp[af] at hl;rw[ah _ _ hl]
   · simp at h
 |new cs=>
   simp only[aP] at h ⊢
   obtain⟨n,rfl,h0⟩:=al h
   replace h:=h0
   clear h0
   split at h
   · rename_i hc
     simp only[Option.some.injEq,Prod.mk.injEq] at h
     obtain⟨rfl,rfl⟩:=h
     have e:=ha (.loc n) (.inr (by simp[af]))
     refine⟨_,by simp only[Option.bind_some];rw[if_pos (by rw[e];exact hc)],fun l hl=> ?_,fun l hl=> ?_⟩
     · simp[af] at hl;subst hl;simp
     · simp[af] at hl;rw[ah _ _ hl]
   · simp at h
 |store m a y=>
   simp only[aP] at h ⊢
   split at h
   · rename_i hd
     rw[if_pos hd]
     simp only[Option.map_eq_some_iff,Prod.mk.injEq] at h ⊢
     obtain⟨H2,h1,rfl,rfl⟩:=h
     unfold cM at h1 ⊢
     split at h1
     · rename_i l sz i j e
       have e2:=ha l (.inr (by simp[af,e,bU]))
       simp only[e,e2]
       split at h1
       · rename_i r hr
         try simp only[hr]
         split at h1
         · rename_i hc
           rw[if_pos hc]
           obtain⟨cs,hi,h1⟩:=Option.bind_eq_some_iff.1 h1
           split at h1
           · rename_i hj
             simp only[Option.some.injEq] at h1;subst h1
             refine⟨_,⟨_,by rw[hi,Option.bind_some,if_pos hj],trivial,rfl⟩,fun q hq=> ?_,fun q hq=> ?_⟩
             · simp[af,e,bU] at hq;subst hq;simp
             · simp[af,e,bU] at hq;rw[ah _ _ hq]
           · simp at h1
         · simp at h1
       · simp at h1
     · simp at h1
   · simp at h
 | app s y sz bytes =>
   simp only[aP] at h ⊢
   obtain⟨n,rfl,h0⟩:=al h
   replace h:=h0
   clear h0
   simp only[Option.bind_some]
   unfold iK at h ⊢
   obtain⟨news,h1,h0⟩:=al h
   replace h:=h0
   clear h0
   rw[hO (fun l hl=>ha l (.inl hl))]
   simp only[h1,Option.bind_some]
   split at h
   · simp at h
   · rename_i bE
     rw[if_neg bE]
     split at h
     · rename_i e
       try simp only[e]
       split at h
       · rename_i hc
         simp only[Option.some.injEq,Prod.mk.injEq] at h
         obtain⟨rfl,rfl⟩:=h
         have e2:=ha (.loc n) (.inr (by simp[af,e]))
         refine⟨_,by rw[if_pos (by rw[e2];exact hc)],fun l hl=> ?_,fun l hl=> ?_⟩
         · simp[af,e] at hl;subst hl;simp
         · simp[af,e] at hl;rw[ah _ _ hl]
       · simp at h
     · rename_i l s' i0 m e
       have e1:=ha l (.inr (by simp[af,e]))
       have e2:=ha (l.app n) (.inr (by simp[af,e]))
       simp only[e1]
       split at h
       · rename_i r hr
         try simp only[hr]
         split at h
         · rename_i hc
           simp only[Option.some.injEq,Prod.mk.injEq] at h
           obtain⟨rfl,rfl⟩:=h
           refine⟨_,by rw[if_pos (by rw[e2];exact hc)],fun q hq=> ?_,fun q hq=> ?_⟩
           · simp[af,e] at hq
             unfold aD
             by_cases q1:q=l.app n
             · simp[q1]
             · rcases hq with hq|hq
               · simp[hq]
               · exact absurd hq q1
           · simp[af,e] at hq
             rw[ah _ _ hq.2,ah _ _ hq.1]
         · simp at h
       · simp at h
     · rename_i l s' i0 m c e
       have e1:=ha l (.inr (by simp[af,e]))
       have e2:=ha (.loc n) (.inr (by simp[af,e]))
       simp only[e1]
       split at h
       · rename_i r hr
         try simp only[hr]
         split at h
         · rename_i hc
           rw[if_pos hc]
           split at h
           · rename_i hf
             rw[if_pos hf]
             split at h
             · rename_i sa
               rw[if_pos sa]
               simp only[Option.some.injEq,Prod.mk.injEq] at h
               obtain⟨rfl,rfl⟩:=h
               refine⟨_,rfl,fun q hq=> ?_,fun q hq=> ?_⟩
               · simp[af,e] at hq
                 by_cases q1:q=l
                 · subst q1;simp
                 · rw[ah _ _ q1,ah _ _ q1]
                   rcases hq with hq|hq
                   · exact absurd hq q1
                   · subst hq;exact e2
               · simp[af,e] at hq
                 rw[ah _ _ hq.1]
             · simp at h
           · rename_i hf
             rw[if_neg hf]
             split at h
             · rename_i sa
               rw[e2,if_pos sa]
               simp only[Option.some.injEq,Prod.mk.injEq] at h
               obtain⟨rfl,rfl⟩:=h
               refine⟨_,rfl,fun q hq=> ?_,fun q hq=> ?_⟩
               · simp[af,e] at hq
                 by_cases q1:q= .loc n
                 · subst q1;simp
                 · rw[ah _ _ q1,ah _ _ q1]
                   rcases hq with hq|hq
                   · subst hq;exact e1
                   · exact absurd hq q1
               · simp[af,e] at hq
                 rw[ah _ _ hq.2]
             · simp at h
         · simp at h
       · simp at h
     · simp at h
 |bX sz z ps=>
   simp only[aP] at h ⊢
   obtain⟨n,rfl,h0⟩:=al h
   replace h:=h0
   clear h0
   simp only[Option.bind_some]
   unfold iP at h ⊢
   obtain⟨cs,h1,h0⟩:=al h
   replace h:=h0
   clear h0
   rw[h1,Option.bind_some]
   split at h
   · rename_i hc
     simp only[Option.some.injEq,Prod.mk.injEq] at h
     obtain⟨rfl,rfl⟩:=h
     have e:=ha (.loc n) (.inr (by simp[af]))
     refine⟨_,by rw[if_pos (by rw[e];exact hc)],fun l hl=> ?_,fun l hl=> ?_⟩
     · simp[af] at hl;subst hl;simp
     · simp[af] at hl;rw[ah _ _ hl]
   · simp at h
 |jc x y sz b z=>
   simp only[aP] at h ⊢
   obtain⟨n,rfl,h0⟩:=al h
   replace h:=h0
   clear h0
   simp only[Option.bind_some]
   unfold jR at h ⊢
   split at h
   · split at h
     · rename_i hc
       simp only[Option.some.injEq,Prod.mk.injEq] at h
       obtain⟨rfl,rfl⟩:=h
       have e:=ha (.loc n) (.inr (by simp[af]))
       refine⟨_,by rw[if_pos (by rw[e];exact hc)],fun l hl=> ?_,fun l hl=> ?_⟩
       · simp[af] at hl;subst hl;simp
       · simp[af] at hl;rw[ah _ _ hl]
     · simp at h
   · simp at h
 |gO s y sz=>
   simp only[aP] at h ⊢
   unfold iN at h ⊢
   obtain⟨news,h1,h0⟩:=al h
   replace h:=h0
   clear h0
   rw[hO (fun l hl=>ha l (.inl hl))]
   simp only[h1,Option.bind_some]
   obtain⟨p,hp,h0⟩:=al h
   replace h:=h0
   clear h0
   simp only[hp,Option.bind_some]
   split at h
   · simp at h
   · rename_i bE
     rw[if_neg bE]
     have hw:af d (.gO s y sz) env=[p.1]:=by simp only[af];exact hP hp
     have e1:=ha p.1 (.inr (by rw[hw];simp))
     simp only[e1]
     split at h
     · rename_i r hr
       try simp only[hr]
       split at h
       · rename_i hc
         rw[if_pos hc]
         simp only[Option.some.injEq,Prod.mk.injEq] at h
         obtain⟨rfl,rfl⟩:=h
         refine⟨_,rfl,fun q hq=> ?_,fun q hq=> ?_⟩
         · rw[hw] at hq;simp at hq;subst hq;simp
         · rw[hw] at hq;simp at hq;rw[ah _ _ hq]
       · simp at h
     · simp at h
 |ir y sz z=>
   simp only[aP,Option.map_eq_some_iff,Prod.mk.injEq] at h ⊢
   obtain⟨H2,h,rfl,rfl⟩:=h
   unfold iO at h ⊢
   split at h
   · simp at h
   · rename_i bE
     obtain⟨p,hp,h0⟩:=al h
     replace h:=h0
     clear h0
     have hw:af d (.ir y sz z) env=[p.1]:=by simp only[af];exact hP hp
     have e1:=ha p.1 (.inr (by rw[hw];simp))
     split at h
     · rename_i r hr
       split at h
       · rename_i hc
         simp only[Option.some.injEq] at h
         subst h
         refine⟨_,⟨_,by rw[if_neg bE,hp];simp only[Option.bind_some,e1,hr];rw[if_pos hc],rfl,rfl⟩,fun q hq=> ?_,fun q hq=> ?_⟩
         · rw[hw] at hq;simp at hq;subst hq;simp
         · rw[hw] at hq;simp at hq;rw[ah _ _ hq]
       · simp at h
     · simp at h
 |_=>simp[aP] at h
theorem bM {d:Option Nat} {i:az} {env:Env} {H H':Hp} {x:AV} (h:aP d i env H=some (x,H')):∀l,l∉af d i env→H' l=H l:=by
 obtain⟨s4,h1,_,h3⟩:=df h (H1:=H) (fun _ _=>rfl);rw[h] at h1;simp only[Option.some.injEq,Prod.mk.injEq] at h1;obtain⟨_,rfl⟩:=h1;exact h3
theorem b6 {d:Option Nat} {i:az} {env env':Env} (h:∀x∈i.os,ev env x=ev env' x) (H:Hp):aP d i env H=aP d i env' H∧aE i env=aE i env'∧af d i env=af d i env':=by
 cases i with
 |load m x=>simp only[aP,aE,af];rw[h x (by simp[az.os])];simp
 |box x=>simp only[aP,aE,af];rw[h x (by simp[az.os])];simp
 |store m x y=>simp only[aP,aE,af];rw[h x (by simp[az.os]),h y (by simp[az.os])];simp
 |app x y sz b=>simp only[aP,aE,af];rw[h x (by simp[az.os]),h y (by simp[az.os])];simp
 |gO x y sz=>simp only[aP,aE,af];rw[h x (by simp[az.os]),h y (by simp[az.os])];simp
 |bX sz z ps=>
  simp only[aP,aE,af]
  have:(ps.map fun p=>(p.1,ev env p.2))=ps.map fun p=>(p.1,ev env' p.2):=
   List.map_congr_left fun p hp=>by rw[h p.2 (by simp only[az.os];exact List.mem_map_of_mem (f:=fun p:Nat×O=>p.2) hp)]
  rw[this];simp
 |ir x sz z=>simp only[aP,aE,af];rw[h x (by simp[az.os])];simp
 |jc n c sz b z=>simp only[aP,aE,af];rw[h n (by simp[az.os]),h c (by simp[az.os])];simp
 |_=>simp[aP,aE,af]
end Go.Am

/- THE ABSTRACT MACHINE, part 19: regions whose order is drawn: whichever order, the same comes of it. -/
namespace Go.Am
open Go Go.RowKit
def Quiet (S:St) (i:az) (env:Env) (res:AV):Prop:=
 match i with
 | .call f args=>aW S.P S.G f (args.map (ev env)) res
 | .bH x args=>∃f first cap,ev env x= .fn f first cap∧db S.P f=true∧aW S.P S.G f (first++args.map (ev env)++cap) res
 |_=>False
def sb (S:St) (F:List Lb) (f:Nat) (args:List AV) (H:Hp) (k:AV→Hp→Prop):Prop:=
 ∃Q:AV→Hp→Prop,cY S f args H Q∧(∃x H',Q x H')∧∀x H',Q x H'→(∀l:Lb,l.c8∈F→H' l=H l)∧k x H'
def ae (S:St) (fp:Fp) (d:Option Nat) (i:az) (env:Env) (H:Hp) (k:AV→Hp→Prop):Prop:=
 match fp with
 | .no=>∃x,(aa i env=some x∨Quiet S i env x)∧k x H
 | .rw R W=>∃x H',aP d i env H=some (x,H')∧(∀l∈aE i env,l.c8∈R∨l.c8∈W)∧(∀l∈af d i env,l.c8∈W)∧k x H'
 | .all=>an S d i env H k
 | .hM F=>match i with
  | .call f args=>sb S F f (args.map (ev env)) H k
  |_=>False
theorem cY.mono {S:St} {f:Nat} {args:List AV} {H:Hp} {k k':AV→Hp→Prop} (hk:∀x H,k x H→k' x H) (h:cY S f args H k):cY S f args H k':=by
 rcases h with⟨res,h1,h2⟩|⟨a8,res,h1,h2,h3,h4⟩|⟨ρ,cq,a8,Q,h1,h2,h3,h4,h5,h6,h7,h8,h9⟩
 ·exact .inl ⟨res,h1,hk _ _ h2⟩
 ·exact .inr (.inl ⟨a8,res,h1,h2,h3,hk _ _ h4⟩)
 ·refine .inr<| .inr ⟨ρ,cq,a8,Q,h1,h2,h3,h4,h5,h6,h7,h8,fun x H' hq=> ?_⟩
  obtain⟨ρ',dD,q1,q2,q3,q4,q5,q6,q7,q8,q9⟩:=h9 x H' hq;exact⟨ρ',dD,q1,q2,q3,q4,q5,q6,q7,q8,hk _ _ q9⟩
theorem an.mono {S:St} {d:Option Nat} {i:az} {env:Env} {H:Hp} {k k':AV→Hp→Prop} (hk:∀x H,k x H→k' x H) (h:an S d i env H k):an S d i env H k':=by
 cases i with
 |load m a=>
  simp only[an] at h ⊢;rcases h with⟨x,h1,h2⟩|⟨x,h1,h2⟩
  ·exact .inl ⟨x,h1,hk _ _ h2⟩
  ·exact .inr ⟨x,h1,hk _ _ h2⟩
 |box x=>
  simp only[an] at h ⊢;obtain⟨n,h1,h2,h3,h4,h5,h6⟩:=h;exact⟨n,h1,h2,h3,h4,h5,hk _ _ h6⟩
 |new cs=>
  simp only[an] at h ⊢;obtain⟨n,h1,h2,h3,h4,h5⟩:=h;exact⟨n,h1,h2,h3,h4,hk _ _ h5⟩
 |store m a x=>
  simp only[an] at h ⊢;obtain⟨h1,H',h2,h3⟩:=h;exact⟨h1,H',h2,hk _ _ h3⟩
 |app s x sz b=>
  simp only[an] at h ⊢;obtain⟨n,h1,y,H',h2,h3⟩:=h;exact⟨n,h1,y,H',h2,hk _ _ h3⟩
 |call f args=>exact cY.mono hk h
 |n1 n x=>
  simp only[an] at h ⊢;obtain⟨bs,h1,h2⟩:=h;exact⟨bs,h1,fun b hb=>hk _ _ (h2 b hb)⟩
 |gk s n sz b z=>
  simp only[an] at h ⊢;obtain⟨q,h1,y,H',h2,h3⟩:=h;exact⟨q,h1,y,H',h2,hk _ _ h3⟩
 |bX sz z ps=>
  simp only[an] at h ⊢;obtain⟨q,h1,y,H',h2,h3⟩:=h;exact⟨q,h1,y,H',h2,hk _ _ h3⟩
 |cap x=>
  simp only[an] at h ⊢;obtain⟨R,h1,h2⟩:=h;exact⟨R,h1,fun m hm wi=>hk _ _ (h2 m hm wi)⟩
 |gO s x sz=>
  simp only[an] at h ⊢;obtain⟨y,H',h1,h2⟩:=h;exact⟨y,H',h1,hk _ _ h2⟩
 |ir x sz z=>
  simp only[an] at h ⊢;obtain⟨H',h1,h2⟩:=h;exact⟨H',h1,hk _ _ h2⟩
 |jc n c sz b z=>
  simp only[an] at h ⊢;obtain⟨q,h1,y,H',h2,h3⟩:=h;exact⟨q,h1,y,H',h2,hk _ _ h3⟩
 |dW f args=>
  simp only[an] at h ⊢;obtain⟨res,h1,h2⟩:=h;exact⟨res,h1,hk _ _ h2⟩
 |bH x args=>
  simp only[an] at h ⊢;obtain⟨f,first,cap,h1,h2,h3⟩:=h
  exact⟨f,first,cap,h1,h2,cY.mono hk h3⟩
 |_=>
  simp only[an] at h ⊢;obtain⟨x,h1,h2⟩:=h;exact⟨x,h1,hk _ _ h2⟩
theorem ae.mono {S:St} {fp:Fp} {d:Option Nat} {i:az} {env:Env} {H:Hp} {k k':AV→Hp→Prop} (hk:∀x H,k x H→k' x H) (h:ae S fp d i env H k):ae S fp d i env H k':=by
 cases fp with
 |no=>obtain⟨x,h1,h2⟩:=h;exact⟨x,h1,hk _ _ h2⟩
 |rw R W=>obtain⟨x,H',h1,h2,h3,h4⟩:=h;exact⟨x,H',h1,h2,h3,hk _ _ h4⟩
 |all=>exact an.mono hk h
 |hM F=>
  cases i<;>simp only[ae] at h ⊢;obtain⟨Q,h1,h2,h3⟩:=h;exact⟨Q,h1,h2,fun x H' hq=>⟨(h3 x H' hq).1,hk _ _ (h3 x H' hq).2⟩⟩
theorem ae.act {S:St} {fp:Fp} {d:Option Nat} {i:az} {env:Env} {H:Hp} {k:AV→Hp→Prop} (h:ae S fp d i env H k):an S d i env H k:=by
 cases fp with
 |all=>exact h
 |hM F=>
  cases i<;>simp only[ae] at h;obtain⟨Q,h1,h2,h3⟩:=h;exact cY.mono (fun x H' hq=>(h3 x H' hq).2) h1
 |no=>
  obtain⟨x,h1,h2⟩:=h;cases i with
  |load m a=>
   rcases h1 with h1|h1
   ·exact .inl ⟨x,h1,h2⟩
   ·exact absurd h1 (by simp[Quiet])
  |call f args=>
   rcases h1 with h1|h1
   ·simp[aa] at h1
   ·exact .inl ⟨x,h1,h2⟩
  |bH y args=>
   rcases h1 with h1|⟨f,first,cap,e1,e2,e3⟩
   ·simp[aa] at h1
   ·exact⟨f,first,cap,e1,e2,.inl ⟨x,e3,h2⟩⟩
  |box _=>rcases h1 with h1|h1<;>simp[aa,Quiet] at h1
  |n1 _ _=>rcases h1 with h1|h1<;>simp[aa,Quiet] at h1
  |new _=>rcases h1 with h1|h1<;>simp[aa,Quiet] at h1
  |store _ _ _=>rcases h1 with h1|h1<;>simp[aa,Quiet] at h1
  |app _ _ _ _=>rcases h1 with h1|h1<;>simp[aa,Quiet] at h1
  |cap _=>rcases h1 with h1|h1<;>simp[aa,Quiet] at h1
  |gk _ _ _ _ _=>rcases h1 with h1|h1<;>simp[aa,Quiet] at h1
  |bX _ _ _=>rcases h1 with h1|h1<;>simp[aa,Quiet] at h1
  |gO _ _ _=>rcases h1 with h1|h1<;>simp[aa,Quiet] at h1
  |ir _ _ _=>rcases h1 with h1|h1<;>simp[aa,Quiet] at h1
  |jc _ _ _ _ _=>rcases h1 with h1|h1<;>simp[aa,Quiet] at h1
  |dW _ _=>rcases h1 with h1|h1<;>simp[aa,Quiet] at h1
  |_=>
   rcases h1 with h1|h1
   ·exact⟨x,h1,h2⟩
   ·exact absurd h1 (by simp[Quiet])
 |rw R W=>
  obtain⟨x,H',h1,_,_,h2⟩:=h;cases i with
  |load m a=>
   simp only[aP,Option.map_eq_some_iff,Prod.mk.injEq] at h1;obtain⟨y,h1,rfl,rfl⟩:=h1;exact .inr ⟨y,h1,h2⟩
  |box y=>
   simp only[aP] at h1;obtain⟨n,rfl,h0⟩:=al h1;split at h0
   ·rename_i hc;simp only[Option.some.injEq,Prod.mk.injEq] at h0;obtain⟨rfl,rfl⟩:=h0;exact⟨n,rfl,hc.1,hc.2.1,hc.2.2.1,hc.2.2.2,h2⟩
   ·simp at h0
  |new cs=>
   simp only[aP] at h1;obtain⟨n,rfl,h0⟩:=al h1;split at h0
   ·rename_i hc;simp only[Option.some.injEq,Prod.mk.injEq] at h0;obtain⟨rfl,rfl⟩:=h0;exact⟨n,rfl,hc.1,hc.2.1,hc.2.2,h2⟩
   ·simp at h0
  |store m a y=>
   simp only[aP] at h1;split at h1
   ·rename_i hd;simp only[Option.map_eq_some_iff,Prod.mk.injEq] at h1;obtain⟨H2,h1,rfl,rfl⟩:=h1;exact⟨hd,H2,h1,h2⟩
   ·simp at h1
  |app s y sz bytes=>
   simp only[aP] at h1;obtain⟨n,rfl,h0⟩:=al h1;exact⟨n,rfl,x,H',h0,h2⟩
  |bX sz z ps=>
   simp only[aP] at h1;obtain⟨q,rfl,h0⟩:=al h1;exact⟨q,rfl,x,H',h0,h2⟩
  |gO s y sz=>
   simp only[aP] at h1;exact⟨x,H',h1,h2⟩
  |jc n c sz b z=>
   simp only[aP] at h1;obtain⟨q,rfl,h0⟩:=al h1;exact⟨q,rfl,x,H',h0,h2⟩
  |ir y sz z=>
   simp only[aP,Option.map_eq_some_iff,Prod.mk.injEq] at h1;obtain⟨H2,h1,rfl,rfl⟩:=h1;exact⟨H2,h1,h2⟩
  |_=>simp[aP] at h1
theorem dN {S:St} {i:az} {env env':Env} (h:∀x∈i.os,ev env x=ev env' x) {x:AV} (hq:Quiet S i env x):Quiet S i env' x:=by
 cases i with
 |call f args=>
  simp only[Quiet] at hq ⊢;have:args.map (ev env)=args.map (ev env'):=List.map_congr_left fun p hp=>h p (by simpa[az.os] using hp)
  rw[←this];exact hq
 |bH y args=>
  simp only[Quiet] at hq ⊢;have:args.map (ev env)=args.map (ev env'):=List.map_congr_left fun p hp=>h p (by simp only[az.os,List.mem_cons];exact .inr hp)
  rw[←this,←h y (by simp[az.os])];exact hq
 |_=>exact hq
theorem dO {S:St} {fp:Fp} {d:Option Nat} {i:az} {env env':Env} (h:∀x∈i.os,ev env x=ev env' x) {H:Hp} {k:AV→Hp→Prop} (ha:ae S fp d i env H k):ae S fp d i env' H k:=by
 cases fp with
 |no=>
  obtain⟨x,h1,h2⟩:=ha;refine⟨x,?_,h2⟩;rcases h1 with h1|h1
  ·exact .inl (by rw[←bz h];exact h1)
  ·exact .inr (dN h h1)
 |rw R W=>
  obtain⟨x,H',h1,h2,h3,h4⟩:=ha;obtain⟨e1,e2,e3⟩:=b6 (d:=d) h H;exact⟨x,H',by rw[←e1];exact h1,by rw[←e2];exact h2,by rw[←e3];exact h3,h4⟩
 |all=>exact j3 h ha
 |hM F=>
  cases i with
  |call f args=>
   simp only[ae] at ha ⊢;have:args.map (ev env)=args.map (ev env'):=List.map_congr_left fun p hp=>h p (by simpa[az.os] using hp)
   rw[←this];exact ha
  |_=>simp only[ae] at ha
theorem ae.tX {S:St} {F:List Lb} {d:Option Nat} {i:az} {env:Env} {H:Hp} {k:AV→Hp→Prop} (h:ae S (.hM F) d i env H k):ae S (.hM F) d i env H fun x H'=>(∀l:Lb,l.c8∈F→H' l=H l)∧k x H':=by
 cases i<;>simp only[ae] at h ⊢;obtain⟨Q,h1,h2,h3⟩:=h;exact⟨Q,h1,h2,fun x H' hq=>⟨(h3 x H' hq).1,h3 x H' hq⟩⟩
def gL (S:St) (p:aB×Fp) (env:Env) (H:Hp) (k:Env→Hp→Prop):Prop:=
 (gW p.1.g env=some true∧(∀n,p.1.d=some n→n<S.N)∧ae S p.2 p.1.d p.1.i env H fun x H'=>k (aM env p.1.d x) H') ∨
  (gW p.1.g env=some false∧(∀n,p.1.d=some n→n<S.N)∧k (aM env p.1.d .un) H)
def c7 (S:St):List (Nat×aB×Fp)→Env→Hp→(Env→Hp→Prop)→Prop
 |[],env,H,k=>k env H
 |p::r,env,H,k=>gL S p.2 env H fun e h=>c7 S r e h k
def dn (d:Option Nat) (us:List Nat):Bool:=match d with|some n=> !us.contains n|none=>true
def fX (p q:aB):Bool:=dn p.d q.us&&dn q.d p.us&&(p.d.isNone||p.d !=q.d)
def Fp.oj:Fp→Bool
 | .hM _=>true
 |_=>false
def cr:Fp→Fp→Bool
 | .no,_=>true
 | .rw _ _,.no=>true
 | .rw R W,.rw R' W'=>W.all (fun l=> !R'.contains l&& !W'.contains l)&&R.all (fun l=> !W'.contains l)
 | .rw R W,.hM F=>W.isEmpty&&R.all (fun l=>F.contains l)
 | .hM _,.no=>true
 | .hM F,.rw R W=>W.isEmpty&&R.all (fun l=>F.contains l)
 |_,_=>false
def az.iS:az→Bool
 | .call _ _| .bH _ _=>true
 |_=>false
def indep (p q:aB×Fp):Bool:=fX p.1 q.1&&(cr p.2 q.2&& !(p.2.oj&&q.1.i.iS))
section
variable {S:St} {env:Env} {H:Hp}
theorem gL.mono {p:aB×Fp} {k k':Env→Hp→Prop} (hk:∀e h,k e h→k' e h) (h:gL S p env H k):gL S p env H k':=by
 rcases h with⟨h1,h2,h3⟩|⟨h1,h2,h3⟩
 ·exact .inl ⟨h1,h2,h3.mono fun _ _=>hk _ _⟩
 ·exact .inr ⟨h1,h2,hk _ _ h3⟩
theorem c7.mono {k k':Env→Hp→Prop} (hk:∀e h,k e h→k' e h):∀(l:List (Nat×aB×Fp)) (env:Env) (H:Hp),c7 S l env H k→c7 S l env H k'
 |[],env,H,h=>hk _ _ h
 |p::r,env,H,h=>gL.mono (fun e h'=>c7.mono hk r e h') h
theorem bo {d d':Option Nat} (h:d=none∨d≠d') (x y:AV):aM (aM env d x) d' y=aM (aM env d' y) d x:=by
 cases d with
 |none=>rfl
 |some n=>
  cases d' with
  |none=>rfl
  |some m=>
   have:n≠m:=by rcases h with h|h;simp at h;simpa using h
   funext q;simp only[aM,put];by_cases e1:q=n
   ·by_cases e2:q=m
    ·exact absurd (e1.symm.trans e2) this
    ·simp[e1,this]
   ·by_cases e2:q=m
    ·simp[e2,Ne.symm this]
    ·simp[e1,e2]
theorem pf {g:Option (Nat×Bool)} {d:Option Nat} {x:AV} (h:∀n,d=some n→n∉(match g with|some (s,_)=>[s]|none=>([]:List Nat))):gW g (aM env d x)=gW g env:=by
 cases g with
 |none=>rfl
 |some p=>
  obtain⟨s,t⟩:=p;cases d with
  |none=>rfl
  |some m=>
   have:=h m rfl;simp at this;simp[gW,aM,put,Ne.symm this]
theorem gz {d:Option Nat} {us:List Nat} (h:dn d us=true):∀n,d=some n→n∉us:=by
 rintro n rfl;simpa[dn] using h
theorem bj {q:aB} {d:Option Nat} (h:dn d q.us=true) (x:AV) (env:Env):gW q.g (aM env d x)=gW q.g env∧∀o∈q.i.os,ev (aM env d x) o=ev env o:=by
 have h':=gz h;refine⟨pf fun n hn hm=>h' n hn (by simp only[aB.us,List.mem_append];exact .inr hm),fun o ho=>pe fun n hn hm=>h' n hn ?_⟩;simp only[aB.us,List.mem_append,List.mem_flatMap];exact .inl ⟨o,ho,hm⟩
theorem gL.shift {q:aB×Fp} {d:Option Nat} (h:dn d q.1.us=true) (hd:d=none∨d≠q.1.d) {x:AV} {k:Env→Hp→Prop} (hs:gL S q (aM env d x) H k) :
  gL S q env H fun e h=>k (aM e d x) h∧∃y,e=aM env q.1.d y:=by
 obtain⟨e1,e2⟩:=bj h x env;rcases hs with⟨h1,h2,h3⟩|⟨h1,h2,h3⟩
 ·exact .inl ⟨by rw[←e1];exact h1,h2,(dO e2 h3).mono fun y H' hk=>⟨by rw[←bo hd];exact hk,y,rfl⟩⟩
 ·exact .inr ⟨by rw[←e1];exact h1,h2,by rw[←bo hd];exact h3,_,rfl⟩
theorem gL.swap {p q : aB × Fp} (hi : indep p q = true) {k : Env → Hp → Prop} (h : gL S p env H fun e h => gL S q e h k) : gL S q env H fun e h => gL S p e h k := by
 simp only[indep,fX,Bool.and_eq_true,Bool.or_eq_true,Option.isNone_iff_eq_none,bne_iff_ne] at hi
 obtain⟨⟨⟨r1,r2⟩,r3⟩,hf,tY⟩:=hi
 obtain⟨lp,fp⟩:=p
 obtain⟨lq,fq⟩:=q
 simp only at r1 r2 r3 hf
 have xa:lq.d=none∨lq.d≠lp.d:=by
   rcases r3 with r3|r3
   · by_cases e:lq.d=none
     · exact .inl e
     · exact .inr (by rw[r3];exact e)
   · exact .inr (Ne.symm r3)
 rcases h with⟨h1,h2,h3⟩|⟨h1,h2,h3⟩
 · cases fp with
   |no=>
     obtain⟨x,h4,h5⟩:=h3
     refine(h5.shift r1 r3).mono ?_
     rintro e h' ⟨hk,y,rfl⟩
     obtain⟨e1,e2⟩:=bj r2 y env
     refine .inl ⟨by simp only;rw[e1];exact h1,h2,x,?_,hk⟩
     rcases h4 with h4|h4
     · exact .inl (by simp only;rw[bz e2];exact h4)
     · exact .inr (dN (fun o ho=>(e2 o ho).symm) h4)
   |rw R W=>
     obtain⟨x,H',m1,m2,m3,m4⟩:=h3
     have j5:∀y,aP lp.d lp.i (aM env lq.d y) H=some (x,H')∧aE lp.i (aM env lq.d y)=aE lp.i env∧af lp.d lp.i (aM env lq.d y)=af lp.d lp.i env:=fun y=>by
       obtain⟨c1,c2,c3⟩:=b6 (d:=lp.d) (bj r2 y env).2 H
       exact⟨by rw[c1];exact m1,c2,c3⟩
     obtain⟨f1,f2⟩:=bj r1 x env
     have g2:∀y,gW lp.g (aM env lq.d y)=some true:=fun y=>by rw[(bj r2 y env).1];exact h1
     rcases m4 with⟨k1,k2,k3⟩|⟨k1,k2,k3⟩
     · cases fq with
       |no=>
         obtain⟨y,k4,k5⟩:=k3
         refine .inl ⟨by simp only;rw[←f1];exact k1,k2,y,?_,?_⟩
         · rcases k4 with k4|k4
           · exact .inl (by simp only;rw[←bz f2];exact k4)
           · exact .inr (dN f2 k4)
         · exact .inl ⟨g2 y,h2,x,H',(j5 y).1,by simp only;rw[(j5 y).2.1];exact m2,by simp only;rw[(j5 y).2.2];exact m3,by simp only;rw[←bo r3];exact k5⟩
       |rw R' W'=>
         obtain⟨y,dD,k4,k5,k6,k7⟩:=k3
         obtain⟨c1,c2,c3⟩:=b6 (d:=lq.d) f2 H'
         simp only at k4 k5 k6 k7
         rw[c1] at k4
         rw[c2] at k5
         rw[c3] at k6
         simp only[cr,Bool.and_eq_true,List.all_eq_true,Bool.not_eq_true',List.contains_eq_mem,decide_eq_false_iff_not] at hf
         obtain⟨s5,sa⟩:=hf
         have pW:∀l,l∈af lp.d lp.i env→l.c8∉R'∧l.c8∉W':=fun l hl=>s5 l.c8 (m3 l hl)
         have pg:∀l,l∈aE lq.i env∨l∈af lq.d lq.i env→H l=H' l:=by
           intro l hl
           refine(bM m1 l fun hw=> ?_).symm
           rcases hl with hl|hl
           · rcases k5 l hl with e|e
             · exact(pW l hw).1 e
             · exact(pW l hw).2 e
           · exact(pW l hw).2 (k6 l hl)
         obtain⟨H2,a1,a2,a3⟩:=df k4 pg
         have gA:∀l,l∈aE lp.i env∨l∈af lp.d lp.i env→H2 l=H l:=by
           intro l hl
           refine a3 l fun hw=> ?_
           rcases hl with hl|hl
           · rcases m2 l hl with e|e
             · exact sa l.c8 e (k6 l hw)
             · exact(s5 l.c8 e).2 (k6 l hw)
           · exact(pW l hl).2 (k6 l hw)
         obtain⟨H3,b1,b2,b3⟩:=df m1 gA
         have hH:H3=dD:=by
           funext l
           by_cases hw:l∈af lp.d lp.i env
           · rw[b2 l hw]
             exact(bM k4 l fun hq=>(pW l hw).2 (k6 l hq)).symm
           · rw[b3 l hw]
             by_cases hq:l∈af lq.d lq.i env
             · exact a2 l hq
             · rw[a3 l hq,bM k4 l hq,bM m1 l hw]
         subst hH
         refine .inl ⟨by simp only;rw[←f1];exact k1,k2,y,H2,a1,k5,k6,?_⟩
         obtain⟨d1,d2,d3⟩:=b6 (d:=lp.d) (bj r2 y env).2 H2
         exact .inl ⟨g2 y,h2,x,H3,by simp only;rw[d1];exact b1,by simp only;rw[d2];exact m2,by simp only;rw[d3];exact m3,by simp only;rw[←bo r3];exact k7⟩
       |all=>simp[cr] at hf
       |hM F=>
         simp only[cr,Bool.and_eq_true,List.isEmpty_iff,List.all_eq_true,List.contains_eq_mem,decide_eq_true_eq] at hf
         obtain⟨rfl,hf⟩:=hf
         have ph:∀l,l∉af lp.d lp.i env:=fun l hl=>by simpa using m3 l hl
         have hH:H'=H:=funext fun l=>bM m1 l (ph l)
         subst hH
         refine .inl ⟨by simp only;rw[←f1];exact k1,k2,?_⟩
         refine ae.mono (fp:= .hM F) (k:=fun y H2=>(∀l:Lb,l.c8∈F→H2 l=H' l)∧k (aM (aM env lp.d x) lq.d y) H2) ?_ (dO f2 (ae.tX k3))
         rintro y H2 ⟨g1,g3⟩
         have gA:∀l,l∈aE lp.i env∨l∈af lp.d lp.i env→H2 l=H' l:=by
           intro l hl
           rcases hl with hl|hl
           · rcases m2 l hl with e|e
             · exact g1 l (hf _ e)
             · simp at e
           · exact absurd hl (ph l)
         obtain⟨H3,b1,b2,b3⟩:=df m1 gA
         have hH:H3=H2:=funext fun l=>b3 l (ph l)
         subst hH
         obtain⟨d1,d2,d3⟩:=b6 (d:=lp.d) (bj r2 y env).2 H3
         exact .inl ⟨g2 y,h2,x,H3,by simp only;rw[d1];exact b1,by simp only;rw[d2];exact m2,by simp only;rw[d3];exact m3,by simp only;rw[←bo r3];exact g3⟩
     · refine .inr ⟨by simp only;rw[←f1];exact k1,k2,?_⟩
       exact .inl ⟨g2 .un,h2,x,H',(j5 .un).1,by simp only;rw[(j5 .un).2.1];exact m2,by simp only;rw[(j5 .un).2.2];exact m3,by simp only;rw[←bo r3];exact k3⟩
   |all=>cases fq<;>simp[cr] at hf
   |hM F=>
     cases tZ:lp.i with
     |call f args=>
       rw[tZ] at h3
       simp only[ae] at h3
       obtain⟨Q,m1,⟨x0,H0,m2⟩,m3⟩:=h3
       have sZ:∀x H',Q x H'→∀l:Lb,l.c8∈F→H' l=H l:=fun x H' hq=>(m3 x H' hq).1
       have dV:∀x H',Q x H'→gL S (lq,fq) (aM env lp.d x) H' k:=fun x H' hq=>(m3 x H' hq).2
       have fs:=fun x:AV=>bj r1 x env
       have back:∀(y:AV) (k':AV→Hp→Prop),(∀x H',Q x H'→k' x H')→ae S (.hM F) lp.d lp.i (aM env lq.d y) H k':=fun y k' pj=>by
         have h4:ae S (.hM F) lp.d lp.i env H k':=by
           rw[tZ];simp only[ae]
           exact⟨Q,m1,⟨x0,H0,m2⟩,fun x H' hq=>⟨sZ x H' hq,pj x H' hq⟩⟩
         exact dO (fun o ho=>((bj r2 y env).2 o ho).symm) h4
       have g2:∀y,gW lp.g (aM env lq.d y)=some true:=fun y=>by rw[(bj r2 y env).1];exact h1
       rcases dV x0 H0 m2 with⟨k1,k2,k3⟩|⟨k1,k2,k3⟩
       · simp only at k1 k2 k3
         rw[(fs x0).1] at k1
         have c6:∀x H',Q x H'→ae S fq lq.d lq.i (aM env lp.d x) H' fun y dD=>k (aM (aM env lp.d x) lq.d y) dD:=by
           intro x H' hq
           rcases dV x H' hq with⟨e1,e2,e3⟩|⟨e1,e2,e3⟩
           · exact e3
           · simp only at e1;rw[(fs x).1,k1] at e1;simp at e1
         cases fq with
         |no=>
           have n8:∀(y:AV) (env':Env),Quiet S lq.i env' y→False:=by
             intro y env' hq
             have:lq.i.iS=false:=by simpa[Fp.oj] using tY
             cases hi:lq.i<;>simp_all[Quiet,az.iS]
           obtain⟨y,k4,_⟩:=k3
           have k4:aa lq.i env=some y:=by
             rcases k4 with k4|k4
             · rwa[bz (fs x0).2] at k4
             · exact(n8 y _ k4).elim
           refine .inl ⟨k1,k2,y,.inl k4,?_⟩
           refine .inl ⟨g2 y,h2,back y _ fun x H' hq=> ?_⟩
           obtain⟨y',e1,e2⟩:=c6 x H' hq
           have e1:aa lq.i env=some y':=by
             rcases e1 with e1|e1
             · rwa[bz (fs x).2] at e1
             · exact(n8 y' _ e1).elim
           rw[k4] at e1;cases e1
           simp only;rw[←bo r3];exact e2
         |rw R W=>
           simp only[cr,Bool.and_eq_true,List.isEmpty_iff,List.all_eq_true,List.contains_eq_mem,decide_eq_true_eq] at hf
           obtain⟨rfl,hf⟩:=hf
           have one:∀x H',Q x H'→∀y H2,aP lq.d lq.i (aM env lp.d x) H'=some (y,H2)→(∀l∈aE lq.i (aM env lp.d x),l.c8∈R∨l.c8∈([]:List Lb))→(∀l∈af lq.d lq.i (aM env lp.d x),l.c8∈([]:List Lb)) →
               aP lq.d lq.i env H=some (y,H)∧H2=H'∧(∀l∈aE lq.i env,l.c8∈R∨l.c8∈([]:List Lb))∧∀l∈af lq.d lq.i env,l.c8∈([]:List Lb):=by
             intro x H' hq y H2 e1 e2 e3
             obtain⟨c1,c2,c3⟩:=b6 (d:=lq.d) (fs x).2 H'
             rw[c1] at e1;rw[c2] at e2;rw[c3] at e3
             have ph:∀l,l∉af lq.d lq.i env:=fun l hl=>by simpa using e3 l hl
             have mv:∀l,l∈aE lq.i env∨l∈af lq.d lq.i env→H l=H' l:=by
               intro l hl
               rcases hl with hl|hl
               · rcases e2 l hl with e|e
                 · exact(sZ x H' hq l (hf _ e)).symm
                 · simp at e
               · exact absurd hl (ph l)
             obtain⟨H3,b1,b2,b3⟩:=df e1 mv
             have hH:H3=H:=funext fun l=>b3 l (ph l)
             subst hH
             exact⟨b1,funext fun l=>bM e1 l (ph l),e2,e3⟩
           obtain⟨y,H2,q1,q2,q3,_⟩:=k3
           obtain⟨a1,_,a3,a4⟩:=one x0 H0 m2 y H2 q1 q2 q3
           refine .inl ⟨k1,k2,y,H,a1,a3,a4,?_⟩
           refine .inl ⟨g2 y,h2,back y _ fun x H' hq=> ?_⟩
           obtain⟨y',wj,p1,p2,p3,p4⟩:=c6 x H' hq
           obtain⟨b1,rfl,_,_⟩:=one x H' hq y' wj p1 p2 p3
           rw[a1] at b1;cases b1
           simp only;rw[←bo r3];exact p4
         |all=>simp[cr] at hf
         |hM F'=>simp[cr] at hf
       · simp only at k1 k2 k3
         rw[(fs x0).1] at k1
         refine .inr ⟨k1,k2,?_⟩
         refine .inl ⟨g2 .un,h2,back .un _ fun x H' hq=> ?_⟩
         rcases dV x H' hq with⟨e1,e2,e3⟩|⟨e1,e2,e3⟩
         · simp only at e1;rw[(fs x).1,k1] at e1;simp at e1
         · simp only;rw[←bo r3];exact e3
     |_=>rw[tZ] at h3;simp only[ae] at h3
 · refine(h3.shift r1 r3).mono ?_
   rintro e h' ⟨hk,y,rfl⟩
   obtain⟨e1,e2⟩:=bj r2 y env
   exact .inr ⟨by simp only;rw[e1];exact h1,h2,hk⟩
theorem c7.front {q:Nat×aB×Fp} {l2:List (Nat×aB×Fp)} {k:Env→Hp→Prop}:∀(l1:List (Nat×aB×Fp)) (env:Env) (H:Hp),(∀p∈l1,indep p.2 q.2=true)→c7 S (l1++q::l2) env H k →
  c7 S (q::(l1++l2)) env H k
 |[],env,H,_,h=>h
 |p::l1,env,H,hi,h=>by
  simp only[List.cons_append,c7] at h ⊢;refine gL.swap (hi p (by simp)) (h.mono fun e h' hq=> ?_);have:=c7.front l1 e h' (fun p' qO=>hi p' (by simp[qO])) hq;simpa only[c7] using this
end
end Go.Am

/- THE ABSTRACT MACHINE, part 20: regions whose order is drawn are sound. -/
namespace Go.Am
open Go Go.RowKit
def bp (ops:Array Oper):List (List Nat):=ops.toList.map fun o=>(o.after.toList.filter (Region.binds .any)).map (·.on)
def items:Nat→List aB→List Fp→List (Nat×aB×Fp)
 |_,[],_=>[]
 |n,i::r,fs=>(n,i,fs.headD .no)::items (n+1) r fs.tail
def ef (es:List (List Nat)):List (Nat×aB×Fp)→Bool
 |[]=>true
 |p::r=>r.all (fun q=>(es.getD q.1 []).contains p.1||indep p.2 q.2)&&ef es r
def fk (acc:List (List Nat)):List (List Nat)→List (List Nat)
 |[]=>acc
 |x::r=>fk (acc++[(x.flatMap fun e=>acc.getD e []).foldl (fun a e=>if a.contains e then a else e::a) x]) r
inductive om (es:List (List Nat)):Nat→Nat→Prop where
 |one {p q:Nat}:p∈es.getD q []→om es p q
 |more {p r q:Nat}:r∈es.getD q []→om es p r→om es p q
theorem kN {l x:List Nat} {p:Nat} (h:p∈l.foldl (fun a e=>if a.contains e then a else e::a) x):p∈x∨p∈l:=by
 induction l generalizing x with
 |nil=>exact .inl h
 |cons e l ih=>
  simp only[List.foldl_cons] at h;rcases ih h with h|h
  ·split at h
   ·exact .inl h
   ·rcases List.mem_cons.1 h with rfl|h
    ·exact .inr (by simp)
    ·exact .inl h
  ·exact .inr (by simp[h])
theorem eK (es:List (List Nat)):∀(r acc:List (List Nat)),es.drop acc.length=r→(∀i p,p∈acc.getD i []→om es p i)→∀i p,p∈(fk acc r).getD i []→om es p i
 |[],acc,_,h=>by simpa[fk] using h
 |x::r,acc,hd,h=>by
  simp only[fk]
  have hx:es[acc.length]?=some x:=by
   have:=congrArg (fun l=>l[0]?) hd;simpa using this
  refine eK es r _ ?_ ?_
  ·rw[List.length_append,List.length_singleton,←List.drop_drop,hd];rfl
  ·intro i p hp;rw[List.getD_eq_getElem?_getD] at hp;by_cases hi:i<acc.length
   ·rw[List.getElem?_append_left hi,←List.getD_eq_getElem?_getD] at hp;exact h i p hp
   ·rw[List.getElem?_append_right (by omega)] at hp;by_cases e:i=acc.length
    ·subst e;simp only[Nat.sub_self,List.getElem?_cons_zero,Option.getD_some] at hp;have ve:es.getD acc.length []=x:=by rw[List.getD_eq_getElem?_getD,hx];rfl
     rcases kN hp with hp|hp
     ·exact .one (by rw[ve];exact hp)
     ·obtain⟨e,he,hp⟩:=List.mem_flatMap.1 hp;exact .more (by rw[ve];exact he) (h e p hp)
    ·rw[List.getElem?_eq_none (by simp;omega)] at hp;simp at hp
def kO (es:List (List Nat)) (l:List (Nat×aB×Fp)):Bool:=l.all fun p=>(es.getD p.1 []).all fun e=>decide (e<p.1)
def jt (is:List aB) (es:List (List Nat)) (fs:List Fp):Bool:=(ef es (items 0 is fs)||ef (fk [] es) (items 0 is fs))&&kO es (items 0 is fs)
theorem cN {es:List (List Nat)}:∀{l:List (Nat×aB×Fp)},ef es l=true→l.Pairwise fun p q=>p.1∈es.getD q.1 []∨indep p.2 q.2=true
 |[],_=> .nil
 |p::r,h=>by
  simp only[ef,Bool.and_eq_true,List.all_eq_true,Bool.or_eq_true,List.contains_eq_mem,decide_eq_true_eq] at h;exact .cons h.1 (cN h.2)
section
variable {K:Kx} {env:Env} {H:Hp} {a:Act} {w:World}
theorem eB {ops:Array Oper} {listed:Array Bool} {i:Nat}:i∈Region.ready .any ops listed ↔
  i<ops.size∧listed.getD i true=false∧∃o,ops[i]?=some o∧∀e∈o.after,Region.binds .any e=true→listed.getD e.on false=true:=by
 unfold Region.ready;simp only[List.mem_filter,List.mem_range,Bool.and_eq_true,Bool.not_eq_true'];constructor
 ·rintro⟨h1,h2,h3⟩;refine⟨h1,h2,?_⟩;cases ho:ops[i]? with
  |none=>rw[ho] at h3;simp at h3
  |some o=>
   rw[ho] at h3;simp only[Option.map_some,Option.getD_some] at h3;refine⟨o,rfl,fun e he hb=> ?_⟩;have wk:=Array.all_eq_true_iff_forall_mem.1 h3;have:=wk e he;simpa[hb] using this
 ·rintro⟨h1,h2,o,h3,h4⟩;refine⟨h1,h2,?_⟩;rw[h3];simp only[Option.map_some,Option.getD_some];refine Array.all_eq_true_iff_forall_mem.2 fun e he=> ?_
  cases hb:Region.binds .any e with
  |false=>rfl
  |true=>simpa using h4 e he hb
theorem hQ {ops:Array Oper} {i:Nat} {o:Oper} (ho:ops[i]?=some o) {e:Edge} (he:e∈o.after) (hb:Region.binds .any e=true):e.on∈(bp ops).getD i []:=by
 unfold bp;rw[List.getD_eq_getElem?_getD,List.getElem?_map,Array.getElem?_toList,ho];simp only[Option.map_some,Option.getD_some,List.mem_map,List.mem_filter,Array.mem_toList_iff];exact⟨e,⟨he,hb⟩,rfl⟩
theorem j6 {ops : Array Oper} {k : Env → Hp → Prop} {Q : Exit → Act → World → Prop} (hk : ∀ env' H' β' a' w',k env' H' → aj K β' env' H' a' w' → Q .normal a' w') :
   ∀(fuel:Nat) (l:List (Nat×aB×Fp)) (listed:Array Bool) (env:Env) (H:Hp) (a:Act) (w:World) (β:Lb→Option Nat),l.length=fuel →
     l.Pairwise (fun p q=>p.1<q.1)→listed.size=ops.size→(∀i,i<ops.size→(listed.getD i true=false↔∃p∈l,p.1=i)) →
     (∀p∈l,p.1<ops.size∧∃o,ops[p.1]?=some o∧dE K.P K.G ops o=some p.2.1.b') →
     l.Pairwise (fun p q=>om (bp ops) p.1 q.1∨indep p.2 q.2=true)→(∀i,i<ops.size→listed.getD i true=true→∀e∈(bp ops).getD i [],listed.getD e false=true)→(∀p∈l,∀e∈(bp ops).getD p.1 [],e<p.1) →
     c7 ⟨K.P,K.G,K.N⟩ l env H k→aj K β env H a w→wpAny K.P .any ops Q fuel listed a w:=by
 intro fuel
 induction fuel with
 |zero=>
   intro l listed env H a w β hlen _ _ hl _ _ _ _ hA hr
   have:l=[]:=List.eq_nil_of_length_eq_zero hlen
   subst this
   refine⟨?_,hk _ _ _ _ _ hA hr⟩
   rw[List.eq_nil_iff_forall_not_mem]
   intro i hi
   obtain⟨h1,h2,_⟩:=eB.1 hi
   obtain⟨p,hp,_⟩:=(hl i h1).1 h2
   simp at hp
 |succ fuel ih=>
   intro l listed env H a w β hlen ju cV hl mK kP hD oo hA hr
   refine⟨fun kL=> ?_,fun i hi=> ?_⟩
   · exfalso
     cases l with
     |nil=>simp at hlen
     |cons p r=>
       obtain⟨vf,o,sY,xb⟩:=mK p (by simp)
       have:p.1∈Region.ready .any ops listed:=by
         refine eB.2 ⟨vf,(hl p.1 vf).2 ⟨p,by simp,rfl⟩,o,sY,fun e he hb=> ?_⟩
         have dI:=oo p (by simp) e.on (hQ sY he hb)
         have fe:e.on<ops.size:=by omega
         have dm:¬listed.getD e.on true=false:=by
           rw[hl e.on fe]
           rintro⟨q,hq,xc⟩
           rcases List.mem_cons.1 hq with rfl|hq
           · omega
           · have:=(List.pairwise_cons.1 ju).1 q hq
             omega
         rw[Array.getD_eq_getD_getElem?] at dm ⊢
         rw[Array.getElem?_eq_getElem (by omega)] at dm ⊢
         simpa using dm
       rw[kL] at this
       simp at this
   · obtain ⟨h1,h2,o,h3,h4⟩ := eB.1 hi
     obtain⟨p,hp,rfl⟩:=(hl i h1).1 h2
     obtain⟨l1,l2,rfl⟩:=List.append_of_mem hp
     obtain⟨_,o',vg,b_⟩:=mK p hp
     rw[h3] at vg;cases vg
     have t_:∀q∈l1,indep q.2 p.2=true:=by
       intro q hq
       rcases (List.pairwise_append.1 kP).2.2 q hq p (by simp) with he|he
       · exfalso
         have sc:∀z∈(bp ops).getD p.1 [],listed.getD z false=true:=by
           intro z he
           unfold bp at he
           rw[List.getD_eq_getElem?_getD,List.getElem?_map,Array.getElem?_toList,h3] at he
           simp only[Option.map_some,Option.getD_some,List.mem_map,List.mem_filter,Array.mem_toList_iff] at he
           obtain⟨e,⟨ua,rL⟩,rfl⟩:=he
           exact h4 e ua rL
         have jj:∀z t,om (bp ops) z t→listed.getD t false=true→listed.getD z false=true:=by
           intro z t hr
           induction hr with
           |@one t hz=>
             intro ht
             have ub:t<ops.size:=by
               rw[Array.getD_eq_getD_getElem?] at ht
               cases hh:listed[t]? with
               |none=>rw[hh] at ht;simp at ht
               |some b=>have:=(Array.getElem?_eq_some_iff.1 hh).1;omega
             refine hD t ub ?_ z hz
             rw[Array.getD_eq_getD_getElem?] at ht ⊢
             rw[Array.getElem?_eq_getElem (by omega)] at ht ⊢
             simpa using ht
           |@more r t hz _ ih=>
             intro ht
             refine ih ?_
             have ub:t<ops.size:=by
               rw[Array.getD_eq_getD_getElem?] at ht
               cases hh:listed[t]? with
               |none=>rw[hh] at ht;simp at ht
               |some b=>have:=(Array.getElem?_eq_some_iff.1 hh).1;omega
             refine hD t ub ?_ r hz
             rw[Array.getD_eq_getD_getElem?] at ht ⊢
             rw[Array.getElem?_eq_getElem (by omega)] at ht ⊢
             simpa using ht
         have oh:listed.getD q.1 false=true:=by
           cases he with
           |one hz=>exact sc _ hz
           |more hz hr=>exact jj _ _ hr (sc _ hz)
         have qM:=(mK q (by simp[hq])).1
         have l6:=(hl q.1 qM).2 ⟨q,by simp[hq],rfl⟩
         rw[Array.getD_eq_getD_getElem?] at oh l6
         rw[Array.getElem?_eq_getElem (by omega)] at oh l6
         simp at oh l6
         rw[oh] at l6
         simp at l6
       · exact he
     have vh:=c7.front l1 env H t_ hA
     simp only[c7] at vh
     have dm:∀q∈l1++l2,q.1≠p.1:=by
       intro q hq e
       rcases List.mem_append.1 hq with hq|hq
       · have:=(List.pairwise_append.1 ju).2.2 q hq p (by simp);omega
       · have:=(List.pairwise_cons.1 (List.pairwise_append.1 ju).2.1).1 q hq;omega
     have jM:(l1++l2).Sublist (l1++p::l2):=List.Sublist.append_left (List.sublist_cons_self p l2) l1
     have kQ:∀q∈l1++l2,q∈l1++p::l2:=fun q hq=>jM.subset hq
     have sd:∀env' H' β' a' w',c7 ⟨K.P,K.G,K.N⟩ (l1++l2) env' H' k→aj K β' env' H' a' w'→wpAny K.P .any ops Q fuel (listed.setIfInBounds p.1 true) a' w':=by
       intro env' H' β' a' w' q1 q2
       refine ih (l1++l2) _ env' H' a' w' β' (by simp at hlen ⊢;omega) (ju.sublist jM) (by simp[cV]) (fun j hj=> ?_) (fun q hq=>mK q (kQ q hq)) (kP.sublist jM) (fun j hj se e he=> ?_)
         (fun q hq=>oo q (kQ q hq)) q1 q2
       rw[Array.getD_eq_getD_getElem?,Array.getElem?_setIfInBounds]
       by_cases e:p.1=j
       · subst e
         simp only[if_true]
         rw[if_pos (by omega)]
         simp only[Option.getD_some,Bool.true_eq_false,false_iff]
         rintro⟨q,hq,e⟩
         exact dm q hq e
       · rw[if_neg e,←Array.getD_eq_getD_getElem?,hl j hj]
         constructor
         · rintro⟨q,hq,rfl⟩
           refine⟨q,?_,rfl⟩
           simp only[List.mem_append,List.mem_cons] at hq ⊢
           rcases hq with hq|hq|hq
           · exact .inl hq
           · subst hq;exact absurd rfl e
           · exact .inr hq
         · rintro⟨q,hq,rfl⟩
           exact⟨q,kQ q hq,rfl⟩
       · have wm:∀z,listed.getD z false=true→(listed.setIfInBounds p.1 true).getD z false=true:=by
           intro z hz
           rw[Array.getD_eq_getD_getElem?] at hz ⊢
           rw[Array.getElem?_setIfInBounds]
           split
           · split<;>simp_all
           · exact hz
         apply wm
         by_cases e2:p.1=j
         · subst e2
           unfold bp at he
           rw[List.getD_eq_getElem?_getD,List.getElem?_map,Array.getElem?_toList,h3] at he
           simp only[Option.map_some,Option.getD_some,List.mem_map,List.mem_filter,Array.mem_toList_iff] at he
           obtain⟨e,⟨ua,rL⟩,rfl⟩:=he
           exact h4 e ua rL
         · refine hD j hj ?_ e he
           rw[Array.getD_eq_getD_getElem?,Array.getElem?_setIfInBounds,if_neg e2,←Array.getD_eq_getD_getElem?] at se
           exact se
     simp only[wpOp,h3]
     refine fj hr b_ (k:=fun e h=>c7 ⟨K.P,K.G,K.N⟩ (l1++l2) e h k) sd ?_
     rcases vh with⟨g1,g2,g3⟩|⟨g1,g2,g3⟩
     · exact .inl ⟨g1,g2,g3.act⟩
     · exact .inr ⟨g1,g2,g3⟩
theorem eC:∀(is:List aB) (n:Nat) (fs:List Fp) (p:Nat×aB×Fp),p∈items n is fs→n≤p.1∧is[p.1 - n]?=some p.2.1
 |[],n,fs,p,h=>by simp[items] at h
 |i::r,n,fs,p,h=>by
  simp only[items,List.mem_cons] at h;rcases h with rfl|h
  ·simp
  ·obtain⟨h1,h2⟩:=eC r (n+1) _ p h;refine⟨by omega,?_⟩;rw[show p.1 - n=(p.1 - (n+1))+1 by omega];simpa using h2
theorem eg:∀(is:List aB) (n:Nat) (fs:List Fp),(items n is fs).Pairwise fun p q=>p.1<q.1
 |[],n,fs=> .nil
 |i::r,n,fs=>by
  simp only[items];refine .cons (fun q hq=> ?_) (eg r (n+1) _);have:=(eC r (n+1) _ q hq).1;simp only;omega
theorem fY:∀(is:List aB) (n:Nat) (fs:List Fp),(items n is fs).length=is.length
 |[],n,fs=>rfl
 |i::r,n,fs=>by simp[items,fY r]
theorem fZ:∀(is:List aB) (n:Nat) (fs:List Fp) (j:Nat),j<is.length→∃p∈items n is fs,p.1=n+j
 |[],n,fs,j,h=>by simp at h
 |i::r,n,fs,0,h=>⟨_,List.mem_cons_self ..,rfl⟩
 |i::r,n,fs,j+1,h=>by
  obtain⟨p,h1,h2⟩:=fZ r (n+1) fs.tail j (by simpa using h);exact⟨p,by simp only[items];exact List.mem_cons_of_mem _ h1,by omega⟩
theorem hR {α β:Type} {R:α→β→Prop}:∀{l:List α} {m:List β},cz R l m→l.length=m.length∧∀(i:Nat) (y:β),m[i]?=some y→∃x,l[i]?=some x∧R x y
 |_,_,.nil=>⟨rfl,by simp⟩
 |_,_,.cons h1 h2=>by
  obtain⟨e,h⟩:=hR h2;refine⟨by simp[e],fun i y hy=> ?_⟩;cases i with
  |zero=>simp at hy;subst hy;exact⟨_,by simp,h1⟩
  |succ i=>obtain⟨x,q1,q2⟩:=h i y (by simpa using hy);exact⟨x,by simpa using q1,q2⟩
theorem aj.drew {β:Lb→Option Nat} (hr:aj K β env H a w):aj K β env H a {w with drawn:=w.drawn+1}:=by
 have hg:cZ w {w with drawn:=w.drawn+1}:=⟨rfl,rfl,rfl,Nat.le_refl _,fun _ _=>rfl⟩;have:=hr.step hg (d:=none) (x:= .un) (v:=undef) (by simp) (by simp) (by simp);simpa[aM,Act.put] using this
theorem hU {β:Lb→Option Nat} (hr:aj K β env H a w) {id:Nat} {ops:Array Oper} (hm:K.P.follows .mixedOrders=true) {is:List aB} {fs:List Fp}
  (c6:cz (fun o i=>dE K.P K.G ops o=some (aB.b' i)) ops.toList is) (ho:jt is (bp ops) fs=true) {k:Env→Hp→Prop} {Q:Exit→Act→World→Prop}
  (hk:∀env' H' β' a' w',k env' H'→aj K β' env' H' a' w'→Q .normal a' w') (hA:c7 ⟨K.P,K.G,K.N⟩ (items 0 is fs) env H k):(Code.region id ops true).wp K.P Q a w:=by
 obtain⟨hlen,ec⟩:=hR c6;simp only[Array.length_toList] at hlen;simp only[jt,Bool.and_eq_true] at ho;obtain⟨o5,qU⟩:=ho
 have wo:(items 0 is fs).Pairwise fun p q=>om (bp ops) p.1 q.1∨indep p.2 q.2=true:=by
  rcases Bool.or_eq_true_iff.1 o5 with h|h
  ·exact(cN h).imp fun uc=>uc.imp .one (fun h=>h)
  ·exact(cN h).imp fun uc=>uc.imp (eK _ _ [] rfl (by simp) _ _) (fun h=>h)
 refine wp_region_any hm (j6 hk ops.size (items 0 is fs) _ env H a _ β (by rw[fY];exact hlen.symm) (eg is 0 fs) (by simp) (fun i hi=> ?_) (fun p hp=> ?_)
  wo (fun i hi se=> ?_) (fun p hp e he=> ?_) hA hr.drew)
 ·rw[Array.getD_eq_getD_getElem?,Array.getElem?_replicate,if_pos hi];simp only[Option.getD_some,true_iff];obtain⟨p,h1,h2⟩:=fZ is 0 fs i (by omega);exact⟨p,h1,by omega⟩
 ·obtain⟨h1,h2⟩:=eC is 0 fs p hp;simp only[Nat.sub_zero] at h2;obtain⟨o,q1,q2⟩:=ec p.1 _ h2;have:=(List.getElem?_eq_some_iff.1 h2).1;exact⟨by omega,o,by simpa using q1,q2⟩
 ·rw[Array.getD_eq_getD_getElem?,Array.getElem?_replicate,if_pos hi] at se;simp at se
 ·simp only[kO,List.all_eq_true,decide_eq_true_eq] at qU;exact qU p hp e he
end
end Go.Am

/- THE ABSTRACT MACHINE, part 18: code, as it is walked. -/
namespace Go.Am
open Go Go.RowKit
inductive Gh where
 |aT (ns:List Nat)
 |ud (l:Lb) (d:Nat)
 |pk (l q:Lb) (j:Nat)
 |own (d sz:Nat)
 |cut (n:Nat)
 |mI
 |vi
inductive AC where
 |skip
 |seq (a b:AC)
 |cond (x:O) (a b:AC)
 |block (id:Nat) (c:AC)
 |loop (c:AC)
 |exit (id:Nat)
 |ret
 |ca (is:List aB)
 |hX (is:List aB) (es:List (List Nat)) (fs:List Fp)
 |gh (g:Gh) (c:AC)
def AC.sz:AC→Nat
 | .seq a b=>a.sz+b.sz+2
 | .cond _ a b=>a.sz+b.sz+2
 | .block _ c=>c.sz+3
 | .loop c=>c.sz+1
 | .gh _ c=>c.sz+1
 |_=>1
inductive It where
 |code (c:AC)
 |f_ (id:Nat)
def It.sz:It→Nat
 | .code c=>c.sz
 | .f_ _=>1
def fw:List It→Nat
 |[]=>0
 |i::r=>i.sz+fw r
def a_ (id:Nat):List It→Option (List It)
 |[]=>none
 | .f_ i::r=>if i=id then some r else a_ id r
 |_::r=>a_ id r
theorem eh {id:Nat}:∀{l r:List It},a_ id l=some r→fw r≤fw l
 |[],r,h=>by simp[a_] at h
 | .f_ i::l,r,h=>by
  simp only[a_] at h;split at h
  ·cases h;simp[fw]
  ·have:=eh h;simp only[fw];omega
 | .code c::l,r,h=>by
  simp only[a_] at h;have:=eh h;simp only[fw];omega
theorem AC.kR (c:AC):0<c.sz:=by cases c<;>simp[AC.sz]
def fl (ns:List Nat) (env:Env):Env:=fun n=>if n∈ns then env n else .any
abbrev dw:=Exit→Env→Hp→Prop
end Go.Am
