import Derived.Test.YtfinkeaikbmpgaaGreatDoorKAm12
set_option linter.unusedSimpArgs false
set_option linter.unusedVariables false
set_option linter.unnecessarySimpa false
set_option linter.defProp false
/- THE ABSTRACT MACHINE, part 17: regions whose order is drawn. -/
namespace Go.Am
open Go Go.RowKit
def b6.os:b6→List O
 | .af x| .bU x _| .len x| .lens x| .not x| .neg x| .ext x _| .qg x _ _| .pd x| .mq x| .z' _ x| .kJ x| .zQ x| .z_ x| .qh _ x| .load _ x| .box x| .zR _ x| .cap x| .s4 x _ _| .qi x _ _=>[x]
 | .pick c a b=>[c,a,b]
 | .fH x i _| .mR x i| .xi x i _ _=>[x,i]
 | .uM x lo hi mx _=>x::(lo.toList++hi.toList++mx.toList)
 | .gV x lo hi=>x::(lo.toList++hi.toList)
 | .bin _ x y| .xa _ x y| .z7 _ x y| .zP _ x y| .ny _ _ x y| .max x y| .min x y| .store _ x y| .app x y _ _| .nU x y _ _| .qj x y _ _ _| .rq x y _=>[x,y]
 | .rp _ ps=>ps.map (·.2.2)
 | .lits _ _ _ ps=>ps.map (·.2)
 | .ga _ _ ps=>ps.map (·.2)
 | .Aa _ qs cs=>qs++cs
 | .z8 _ cs=>cs
 | .new _=>[]
 | .stuck=>[]
 | .s9 n c _ _ _=>[n,c]
 | .call _ args=>args
 | .iY _ args=>args
 | .j0 x args=>x::args
def O.us:O→List Nat
 | .t n=>[n]
 | .c _=>[]
def cx.us (i:cx):List Nat:=i.i.os.flatMap O.us++(match i.g with|some (s,_)=>[s]|none=>[])
theorem Dc {env:Env} {d:Option Nat} {y:AV} {x:O} (h:∀n,d=some n→n∉x.us):ev (db env d y) x=ev env x:=by
 cases x with
 |c x=>rfl
 |t n=>
  cases d with
  |none=>rfl
  |some m=>
   have:=h m rfl;simp[O.us] at this;simp[ev,db,put,Ne.symm this]
section
variable {env env':Env}
theorem gG {o:Option O} (h:∀x∈o.toList,ev env x=ev env' x) (m n:Nat):kZ env o m n=kZ env' o m n:=by
 cases o with
 |none=>rfl
 |some x=>simp only[kZ];rw[h x (by simp)]
theorem v8 {lo hi mx:Option O} (h:∀x∈lo.toList++hi.toList++mx.toList,ev env x=ev env' x) (n:Nat):j4 env lo hi mx n=j4 env' lo hi mx n:=by
 have h1:=fun m n=>gG (o:=lo) (fun x hx=>h x (by simp at hx ⊢;simp[hx])) m n
 have h2:=fun m n=>gG (o:=hi) (fun x hx=>h x (by simp at hx ⊢;simp[hx])) m n
 have h3:=fun m n=>gG (o:=mx) (fun x hx=>h x (by simp at hx ⊢;simp[hx])) m n
 cases mx with
 |none=>simp only[j4,h1,h2]
 |some m=>simp only[j4,h1,h2,h3]
theorem v_ {lo hi mx:Option O} (h:∀x∈lo.toList++hi.toList++mx.toList,ev env x=ev env' x) (n c:Nat):td env lo hi mx n c=td env' lo hi mx n c:=by
 have h1:=fun m n=>gG (o:=lo) (fun x hx=>h x (by simp at hx ⊢;simp[hx])) m n
 have h2:=fun m n=>gG (o:=hi) (fun x hx=>h x (by simp at hx ⊢;simp[hx])) m n
 have h3:=fun m n=>gG (o:=mx) (fun x hx=>h x (by simp at hx ⊢;simp[hx])) m n
 cases mx with
 |none=>simp only[td,h1,h2]
 |some m=>simp only[td,h1,h2,h3]
theorem fC {i:b6} (h:∀x∈i.os,ev env x=ev env' x):aa i env=aa i env':=by
 cases i with
 |uM x lo hi mx sz=>
  simp only[aa];rw[h x (by simp[b6.os])];have:=v8 (env:=env) (env':=env') (lo:=lo) (hi:=hi) (mx:=mx) (fun y hy=>h y (by simp only[b6.os,List.mem_cons];exact .inr hy));have F2:=v_ (env:=env) (env':=env') (lo:=lo) (hi:=hi) (mx:=mx) (fun y hy=>h y (by simp only[b6.os,List.mem_cons];exact .inr hy));unfold qk;simp only[this,F2]
 |gV x lo hi=>
  simp only[aa];rw[h x (by simp[b6.os])];have h1:=fun m n=>gG (env:=env) (env':=env') (o:=lo) (fun y hy=>h y (by simp only[b6.os,List.mem_cons,List.mem_append];exact .inr (.inl hy))) m n
  have h2:=fun m n=>gG (env:=env) (env':=env') (o:=hi) (fun y hy=>h y (by simp only[b6.os,List.mem_cons,List.mem_append];exact .inr (.inr hy))) m n
  simp only[h1,h2]
 |rp z ps=>
  simp only[aa]
  have:(ps.map fun p=>(p.1,p.2.1,ev env p.2.2))=ps.map fun p=>(p.1,p.2.1,ev env' p.2.2):=
   List.map_congr_left fun p hp=>by rw[h p.2.2 (by simp only[b6.os];exact List.mem_map_of_mem (f:=fun p:Nat×Nat×O=>p.2.2) hp)]
  rw[this]
 |lits n sz z ps=>
  simp only[aa]
  have:(ps.map fun p=>(p.1*sz,sz,ev env p.2))=ps.map fun p=>(p.1*sz,sz,ev env' p.2):=
   List.map_congr_left fun p hp=>by rw[h p.2 (by simp only[b6.os];exact List.mem_map_of_mem (f:=fun p:Nat×O=>p.2) hp)]
  rw[this]
 |z8 f cap=>
  simp only[aa];have:cap.map (ev env)=cap.map (ev env'):=List.map_congr_left fun p hp=>h p (by simpa[b6.os] using hp)
  rw[this]
 |call f args=>rfl
 |j0 x args=>rfl
 |iY f args=>rfl
 |qj s n sz b z=>rfl
 |ga sz z ps=>rfl
 |Aa f qs cs=>
  simp only[aa];have h1:qs.map (ev env)=qs.map (ev env'):=List.map_congr_left fun p hp=>h p (by simp only[b6.os,List.mem_append];exact .inl hp)
  have h2:cs.map (ev env)=cs.map (ev env'):=List.map_congr_left fun p hp=>h p (by simp only[b6.os,List.mem_append];exact .inr hp)
  rw[h1,h2]
 |cap x=>rfl
 |s4 x sz z=>rfl
 |qi x n sz=>simp only[aa,h x (by simp[b6.os])]
 |nU x y sz b=>simp only[aa,h x (by simp[b6.os]),h y (by simp[b6.os])]
 |zR n x=>rfl
 |new cs=>rfl
 |pick c a b=>simp only[aa,h c (by simp[b6.os]),h a (by simp[b6.os]),h b (by simp[b6.os])]
 |s9 n c sz b z=>rfl
 |store m a x=>rfl
 |app s x sz b=>rfl
 |rq s x sz=>rfl
 |box x=>rfl
 |z_ x=>simp only[aa,h x (by simp[b6.os])]
 |xi x i n sz=>simp only[aa,h x (by simp[b6.os]),h i (by simp[b6.os])]
 |fH x i sz=>simp only[aa,h x (by simp[b6.os]),h i (by simp[b6.os])]
 |mR x i=>simp only[aa,h x (by simp[b6.os]),h i (by simp[b6.os])]
 |bin op x y=>simp only[aa,h x (by simp[b6.os]),h y (by simp[b6.os])]
 |xa n x y=>simp only[aa,h x (by simp[b6.os]),h y (by simp[b6.os])]
 |z7 n x y=>simp only[aa,h x (by simp[b6.os]),h y (by simp[b6.os])]
 |zP n x y=>simp only[aa,h x (by simp[b6.os]),h y (by simp[b6.os])]
 |ny n ks x y=>simp only[aa,h x (by simp[b6.os]),h y (by simp[b6.os])]
 |max x y=>simp only[aa,h x (by simp[b6.os]),h y (by simp[b6.os])]
 |min x y=>simp only[aa,h x (by simp[b6.os]),h y (by simp[b6.os])]
 |af x=>simp only[aa,h x (by simp[b6.os])]
 |bU x o=>simp only[aa,h x (by simp[b6.os])]
 |len x=>simp only[aa,h x (by simp[b6.os])]
 |lens x=>simp only[aa,h x (by simp[b6.os])]
 |not x=>simp only[aa,h x (by simp[b6.os])]
 |neg x=>simp only[aa,h x (by simp[b6.os])]
 |ext x i=>simp only[aa,h x (by simp[b6.os])]
 |qg x o m=>simp only[aa,h x (by simp[b6.os])]
 |pd x=>simp only[aa,h x (by simp[b6.os])]
 |mq x=>simp only[aa,h x (by simp[b6.os])]
 |stuck=>rfl
 |z' k x=>simp only[aa,h x (by simp[b6.os])]
 |kJ x=>simp only[aa,h x (by simp[b6.os])]
 |zQ x=>simp only[aa,h x (by simp[b6.os])]
 |qh t x=>simp only[aa,h x (by simp[b6.os])]
 |load m x=>simp only[aa,h x (by simp[b6.os])]
theorem wa {S:St} {d:Option Nat} {i:b6} (h:∀x∈i.os,ev env x=ev env' x) {H:Hp} {k:AV→Hp→Prop} (ha:bt S d i env H k):bt S d i env' H k:=by
 have hs:=fC h;cases i with
 |load m x=>
  simp only[bt] at ha ⊢;rw[←hs,←h x (by simp[b6.os])];exact ha
 |box x=>
  simp only[bt] at ha ⊢;rw[←h x (by simp[b6.os])];exact ha
 |new cs=>exact ha
 |store m x y=>
  simp only[bt] at ha ⊢;rw[←h x (by simp[b6.os]),←h y (by simp[b6.os])];exact ha
 |app x y sz b=>
  simp only[bt] at ha ⊢;rw[←h x (by simp[b6.os]),←h y (by simp[b6.os])];exact ha
 |call f args=>
  simp only[bt] at ha ⊢;have:args.map (ev env)=args.map (ev env'):=List.map_congr_left fun p hp=>h p (by simpa[b6.os] using hp)
  rw[←this];exact ha
 |zR n x=>
  simp only[bt] at ha ⊢;rw[←h x (by simp[b6.os])];exact ha
 |qj x y sz b z=>
  simp only[bt] at ha ⊢;rw[←h x (by simp[b6.os]),←h y (by simp[b6.os])];exact ha
 |ga sz z ps=>
  simp only[bt] at ha ⊢
  have:(ps.map fun p=>(p.1,ev env p.2))=ps.map fun p=>(p.1,ev env' p.2):=
   List.map_congr_left fun p hp=>by rw[h p.2 (by simp only[b6.os];exact List.mem_map_of_mem (f:=fun p:Nat×O=>p.2) hp)]
  rw[←this];exact ha
 |cap x=>
  simp only[bt] at ha ⊢;rw[←h x (by simp[b6.os])];exact ha
 |s4 x sz z=>
  simp only[bt] at ha ⊢;rw[←h x (by simp[b6.os])];exact ha
 |rq x y sz=>
  simp only[bt] at ha ⊢;rw[←h x (by simp[b6.os]),←h y (by simp[b6.os])];exact ha
 |s9 n c sz b z=>
  simp only[bt] at ha ⊢;rw[←h n (by simp[b6.os]),←h c (by simp[b6.os])];exact ha
 |iY f args=>
  simp only[bt] at ha ⊢;have:args.map (ev env)=args.map (ev env'):=List.map_congr_left fun p hp=>h p (by simpa[b6.os] using hp)
  rw[←this];exact ha
 |j0 x args=>
  simp only[bt] at ha ⊢;have:args.map (ev env)=args.map (ev env'):=List.map_congr_left fun p hp=>h p (by simp only[b6.os,List.mem_cons];exact .inr hp)
  rw[←this,←h x (by simp[b6.os])];exact ha
 |_=>simp only[bt] at ha ⊢;rw[←hs];exact ha
end
inductive Fp where
 |no
 |rw (rs ws:List Lb)
 |all
 |ri (fs:List Lb)
def bp:AV→List Lb
 | .ptr l _ _ _=>[l]
 | .sl l _ _ _=>[l]
 | .slk l _ _ _ _=>[l]
 |_=>[]
open Classical in
noncomputable def dw (d:Option Nat) (i:b6) (env:Env) (H:Hp):Option (AV×Hp):=
 match i with
 | .load m a=>(aN m (ev env a) H).map fun x=>(x,H)
 | .box x=>d.bind fun n=>if H (.loc n)= .unused∧(ev env x).dk=true∧0<(ev env x).cells.length∧(ev env x).cells.length≤maxLen then
  some (.ptr (.loc n) (ev env x).cells.length 0 0,bL H (.loc n) (.live ⟨(ev env x).cells.length,[(ev env x).cells]⟩)) else none
 | .new cs=>d.bind fun n=>if H (.loc n)= .unused∧0<cs.length∧cs.length≤maxLen then
  some (.ptr (.loc n) cs.length 0 0,bL H (.loc n) (.live ⟨cs.length,[cs]⟩)) else none
 | .store m a x=>if d=none then(aE m (ev env a) (ev env x) H).map fun H'=>(.un,H') else none
 | .app s x sz bytes=>d.bind fun n=>jA sz bytes n (ev env s) (ev env x) H
 | .rq s x sz=>tv sz (ev env s) (ev env x) H
 | .ga sz z ps=>d.bind fun q=>qq sz q z (ps.map fun p=>(p.1,ev env p.2)) H
 | .s4 x sz z=>(tw sz z (ev env x) H).map fun H'=>(.ei [],H')
 | .s9 n c sz b z=>d.bind fun q=>rD sz b q z (ev env n) (ev env c) H
 |_=>none
def cC (i:b6) (env:Env):List Lb:=
 match i with
 | .load _ a=>bp (ev env a)
 | .app _ x _ _=>bp (ev env x)
 | .rq _ x _=>bp (ev env x)
 |_=>[]
def aF (d:Option Nat) (i:b6) (env:Env):List Lb:=
 match i with
 | .box _| .new _| .ga _ _ _| .s9 _ _ _ _ _=>d.toList.map .loc
 | .store _ a _=>bp (ev env a)
 | .app s _ _ _=>match ev env s with
  | .sl l _ _ _=>l::d.toList.map l.app
  | .slk l _ _ _ _=>l::d.toList.map .loc
  |_=>d.toList.map .loc
 | .rq s _ _=>bp (ev env s)
 | .s4 x _ _=>bp (ev env x)
 |_=>[]
theorem wb {m:Option Nat} {x:AV} {H H1:Hp} {y:AV} (h:aN m x H=some y) (ha:∀l∈bp x,H1 l=H l):aN m x H1=some y:=by
 cases x with
 |ptr l sz i j=>simp only[aN,ha l (by simp[bp])] at h ⊢;exact h
 |_=>simp[aN] at h
theorem rK {sz:Nat} {x:AV} {H H1:Hp} (ha:∀l∈bp x,H1 l=H l):jU sz x H1=jU sz x H:=by
 cases x with
 |sl l s i n=>simp only[jU,ha l (by simp[bp])]
 |slk l s i n c=>simp only[jU,ha l (by simp[bp])]
 |_=>rfl
theorem rL {x:AV} {p:Lb×Nat×Nat×Nat} (h:E3 x=some p):bp x=[p.1]:=by
 cases x<;>simp[E3] at h
 all_goals (subst h;rfl)
theorem j9 {d : Option Nat} {i : b6} {env : Env} {H H' H1 : Hp} {x : AV} (h : dw d i env H = some (x,H')) (ha : ∀ l,l ∈ cC i env ∨ l ∈ aF d i env → H1 l = H l) :
   ∃Hi,dw d i env H1=some (x,Hi)∧(∀l∈aF d i env,Hi l=H' l)∧∀l,l∉aF d i env→Hi l=H1 l:=by
 cases i with
 |load m a=>
   simp only[dw,Option.map_eq_some_iff,Prod.mk.injEq] at h ⊢
   obtain⟨y,h1,rfl,rfl⟩:=h
   exact⟨H1,⟨y,wb h1 (fun l hl=>ha l (.inl hl)),rfl,rfl⟩,by simp[aF],fun _ _=>rfl⟩
 |box y=>
   simp only[dw] at h ⊢
   obtain⟨n,rfl,h0⟩:=bh h
   replace h:=h0
   clear h0
   split at h
   · rename_i hc
     simp only[Option.some.injEq,Prod.mk.injEq] at h
     obtain⟨rfl,rfl⟩:=h
     have e:=ha (.loc n) (.inr (by simp[aF]))
     refine⟨_,by simp only[Option.bind_some];rw[if_pos (by rw[e];exact hc)],fun l hl=> ?_,fun l hl=> ?_⟩
     · simp[aF] at hl;subst hl;simp
     · simp[aF] at hl;rw[aA _ _ hl]
   · simp at h
 |new cs=>
   simp only[dw] at h ⊢
   obtain⟨n,rfl,h0⟩:=bh h
   replace h:=h0
   clear h0
   split at h
   · rename_i hc
     simp only[Option.some.injEq,Prod.mk.injEq] at h
     obtain⟨rfl,rfl⟩:=h
     have e:=ha (.loc n) (.inr (by simp[aF]))
     refine⟨_,by simp only[Option.bind_some];rw[if_pos (by rw[e];exact hc)],fun l hl=> ?_,fun l hl=> ?_⟩
     · simp[aF] at hl;subst hl;simp
     · simp[aF] at hl;rw[aA _ _ hl]
   · simp at h
 |store m a y=>
   simp only[dw] at h ⊢
   split at h
   · rename_i hd
     rw[if_pos hd]
     simp only[Option.map_eq_some_iff,Prod.mk.injEq] at h ⊢
     obtain⟨H2,h1,rfl,rfl⟩:=h
     unfold aE at h1 ⊢
     split at h1
     · rename_i l sz i j e
       have e2:=ha l (.inr (by simp[aF,e,bp]))
       simp only[e,e2]
       split at h1
       · rename_i r hr
         try simp only[hr]
         split at h1
         · rename_i hc
           rw[if_pos hc]
           obtain⟨cs,hi,h1⟩:=Option.bind_eq_some_iff.1 h1
           split at h1
           · rename_i hj
             simp only[Option.some.injEq] at h1;subst h1
             refine⟨_,⟨_,by rw[hi,Option.bind_some,if_pos hj],trivial,rfl⟩,fun q hq=> ?_,fun q hq=> ?_⟩
             · simp[aF,e,bp] at hq;subst hq;simp
             · simp[aF,e,bp] at hq;rw[aA _ _ hq]
           · simp at h1
         · simp at h1
       · simp at h1
     · simp at h1
   · simp at h
 | app s y sz bytes =>
   simp only[dw] at h ⊢
   obtain⟨n,rfl,h0⟩:=bh h
   replace h:=h0
   clear h0
   simp only[Option.bind_some]
   unfold jA at h ⊢
   obtain⟨news,h1,h0⟩:=bh h
   replace h:=h0
   clear h0
   rw[rK (fun l hl=>ha l (.inl hl))]
   simp only[h1,Option.bind_some]
   split at h
   · simp at h
   · rename_i fm
     rw[if_neg fm]
     split at h
     · rename_i e
       try simp only[e]
       split at h
       · rename_i hc
         simp only[Option.some.injEq,Prod.mk.injEq] at h
         obtain⟨rfl,rfl⟩:=h
         have e2:=ha (.loc n) (.inr (by simp[aF,e]))
         refine⟨_,by rw[if_pos (by rw[e2];exact hc)],fun l hl=> ?_,fun l hl=> ?_⟩
         · simp[aF,e] at hl;subst hl;simp
         · simp[aF,e] at hl;rw[aA _ _ hl]
       · simp at h
     · rename_i l s' i0 m e
       have e1:=ha l (.inr (by simp[aF,e]))
       have e2:=ha (l.app n) (.inr (by simp[aF,e]))
       simp only[e1]
       split at h
       · rename_i r hr
         try simp only[hr]
         split at h
         · rename_i hc
           simp only[Option.some.injEq,Prod.mk.injEq] at h
           obtain⟨rfl,rfl⟩:=h
           refine⟨_,by rw[if_pos (by rw[e2];exact hc)],fun q hq=> ?_,fun q hq=> ?_⟩
           · simp[aF,e] at hq
             unfold bL
             by_cases q1:q=l.app n
             · simp[q1]
             · rcases hq with hq|hq
               · simp[hq]
               · exact absurd hq q1
           · simp[aF,e] at hq
             rw[aA _ _ hq.2,aA _ _ hq.1]
         · simp at h
       · simp at h
     · rename_i l s' i0 m c e
       have e1:=ha l (.inr (by simp[aF,e]))
       have e2:=ha (.loc n) (.inr (by simp[aF,e]))
       simp only[e1]
       split at h
       · rename_i r hr
         try simp only[hr]
         split at h
         · rename_i hc
           rw[if_pos hc]
           split at h
           · rename_i hf
             rw[if_pos hf]
             split at h
             · rename_i F3
               rw[if_pos F3]
               simp only[Option.some.injEq,Prod.mk.injEq] at h
               obtain⟨rfl,rfl⟩:=h
               refine⟨_,rfl,fun q hq=> ?_,fun q hq=> ?_⟩
               · simp[aF,e] at hq
                 by_cases q1:q=l
                 · subst q1;simp
                 · rw[aA _ _ q1,aA _ _ q1]
                   rcases hq with hq|hq
                   · exact absurd hq q1
                   · subst hq;exact e2
               · simp[aF,e] at hq
                 rw[aA _ _ hq.1]
             · simp at h
           · rename_i hf
             rw[if_neg hf]
             split at h
             · rename_i F3
               rw[e2,if_pos F3]
               simp only[Option.some.injEq,Prod.mk.injEq] at h
               obtain⟨rfl,rfl⟩:=h
               refine⟨_,rfl,fun q hq=> ?_,fun q hq=> ?_⟩
               · simp[aF,e] at hq
                 by_cases q1:q= .loc n
                 · subst q1;simp
                 · rw[aA _ _ q1,aA _ _ q1]
                   rcases hq with hq|hq
                   · subst hq;exact e1
                   · exact absurd hq q1
               · simp[aF,e] at hq
                 rw[aA _ _ hq.2]
             · simp at h
         · simp at h
       · simp at h
     · simp at h
 |ga sz z ps=>
   simp only[dw] at h ⊢
   obtain⟨n,rfl,h0⟩:=bh h
   replace h:=h0
   clear h0
   simp only[Option.bind_some]
   unfold qq at h ⊢
   obtain⟨cs,h1,h0⟩:=bh h
   replace h:=h0
   clear h0
   rw[h1,Option.bind_some]
   split at h
   · rename_i hc
     simp only[Option.some.injEq,Prod.mk.injEq] at h
     obtain⟨rfl,rfl⟩:=h
     have e:=ha (.loc n) (.inr (by simp[aF]))
     refine⟨_,by rw[if_pos (by rw[e];exact hc)],fun l hl=> ?_,fun l hl=> ?_⟩
     · simp[aF] at hl;subst hl;simp
     · simp[aF] at hl;rw[aA _ _ hl]
   · simp at h
 |s9 x y sz b z=>
   simp only[dw] at h ⊢
   obtain⟨n,rfl,h0⟩:=bh h
   replace h:=h0
   clear h0
   simp only[Option.bind_some]
   unfold rD at h ⊢
   split at h
   · split at h
     · rename_i hc
       simp only[Option.some.injEq,Prod.mk.injEq] at h
       obtain⟨rfl,rfl⟩:=h
       have e:=ha (.loc n) (.inr (by simp[aF]))
       refine⟨_,by rw[if_pos (by rw[e];exact hc)],fun l hl=> ?_,fun l hl=> ?_⟩
       · simp[aF] at hl;subst hl;simp
       · simp[aF] at hl;rw[aA _ _ hl]
     · simp at h
   · simp at h
 |rq s y sz=>
   simp only[dw] at h ⊢
   unfold tv at h ⊢
   obtain⟨news,h1,h0⟩:=bh h
   replace h:=h0
   clear h0
   rw[rK (fun l hl=>ha l (.inl hl))]
   simp only[h1,Option.bind_some]
   obtain⟨p,hp,h0⟩:=bh h
   replace h:=h0
   clear h0
   simp only[hp,Option.bind_some]
   split at h
   · simp at h
   · rename_i fm
     rw[if_neg fm]
     have hw:aF d (.rq s y sz) env=[p.1]:=by simp only[aF];exact rL hp
     have e1:=ha p.1 (.inr (by rw[hw];simp))
     simp only[e1]
     split at h
     · rename_i r hr
       try simp only[hr]
       split at h
       · rename_i hc
         rw[if_pos hc]
         simp only[Option.some.injEq,Prod.mk.injEq] at h
         obtain⟨rfl,rfl⟩:=h
         refine⟨_,rfl,fun q hq=> ?_,fun q hq=> ?_⟩
         · rw[hw] at hq;simp at hq;subst hq;simp
         · rw[hw] at hq;simp at hq;rw[aA _ _ hq]
       · simp at h
     · simp at h
 |s4 y sz z=>
   simp only[dw,Option.map_eq_some_iff,Prod.mk.injEq] at h ⊢
   obtain⟨H2,h,rfl,rfl⟩:=h
   unfold tw at h ⊢
   split at h
   · simp at h
   · rename_i fm
     obtain⟨p,hp,h0⟩:=bh h
     replace h:=h0
     clear h0
     have hw:aF d (.s4 y sz z) env=[p.1]:=by simp only[aF];exact rL hp
     have e1:=ha p.1 (.inr (by rw[hw];simp))
     split at h
     · rename_i r hr
       split at h
       · rename_i hc
         simp only[Option.some.injEq] at h
         subst h
         refine⟨_,⟨_,by rw[if_neg fm,hp];simp only[Option.bind_some,e1,hr];rw[if_pos hc],rfl,rfl⟩,fun q hq=> ?_,fun q hq=> ?_⟩
         · rw[hw] at hq;simp at hq;subst hq;simp
         · rw[hw] at hq;simp at hq;rw[aA _ _ hq]
       · simp at h
     · simp at h
 |_=>simp[dw] at h
theorem gi {d:Option Nat} {i:b6} {env:Env} {H H':Hp} {x:AV} (h:dw d i env H=some (x,H')):∀l,l∉aF d i env→H' l=H l:=by
 obtain⟨Hi,h1,_,h3⟩:=j9 h (H1:=H) (fun _ _=>rfl);rw[h] at h1;simp only[Option.some.injEq,Prod.mk.injEq] at h1;obtain⟨_,rfl⟩:=h1;exact h3
theorem hU {d:Option Nat} {i:b6} {env env':Env} (h:∀x∈i.os,ev env x=ev env' x) (H:Hp):dw d i env H=dw d i env' H∧cC i env=cC i env'∧aF d i env=aF d i env':=by
 cases i with
 |load m x=>simp only[dw,cC,aF];rw[h x (by simp[b6.os])];simp
 |box x=>simp only[dw,cC,aF];rw[h x (by simp[b6.os])];simp
 |store m x y=>simp only[dw,cC,aF];rw[h x (by simp[b6.os]),h y (by simp[b6.os])];simp
 |app x y sz b=>simp only[dw,cC,aF];rw[h x (by simp[b6.os]),h y (by simp[b6.os])];simp
 |rq x y sz=>simp only[dw,cC,aF];rw[h x (by simp[b6.os]),h y (by simp[b6.os])];simp
 |ga sz z ps=>
  simp only[dw,cC,aF]
  have:(ps.map fun p=>(p.1,ev env p.2))=ps.map fun p=>(p.1,ev env' p.2):=
   List.map_congr_left fun p hp=>by rw[h p.2 (by simp only[b6.os];exact List.mem_map_of_mem (f:=fun p:Nat×O=>p.2) hp)]
  rw[this];simp
 |s4 x sz z=>simp only[dw,cC,aF];rw[h x (by simp[b6.os])];simp
 |s9 n c sz b z=>simp only[dw,cC,aF];rw[h n (by simp[b6.os]),h c (by simp[b6.os])];simp
 |_=>simp[dw,cC,aF]
end Go.Am

/- THE ABSTRACT MACHINE, part 19: regions whose order is drawn: whichever order, the same comes of it. -/
namespace Go.Am
open Go Go.RowKit
def Quiet (S:St) (i:b6) (env:Env) (res:AV):Prop:=
 match i with
 | .call f args=>ai S.P S.G f (args.map (ev env)) res
 | .j0 x args=>∃f first cap,ev env x= .fn f first cap∧nW S.P f=true∧ai S.P S.G f (first++args.map (ev env)++cap) res
 |_=>False
def F4 (S:St) (F:List Lb) (f:Nat) (args:List AV) (H:Hp) (k:AV→Hp→Prop):Prop:=
 ∃Q:AV→Hp→Prop,j7 S f args H Q∧(∃x H',Q x H')∧∀x H',Q x H'→(∀l:Lb,l.iM∈F→H' l=H l)∧k x H'
def aD (S:St) (fp:Fp) (d:Option Nat) (i:b6) (env:Env) (H:Hp) (k:AV→Hp→Prop):Prop:=
 match fp with
 | .no=>∃x,(aa i env=some x∨Quiet S i env x)∧k x H
 | .rw R W=>∃x H',dw d i env H=some (x,H')∧(∀l∈cC i env,l.iM∈R∨l.iM∈W)∧(∀l∈aF d i env,l.iM∈W)∧k x H'
 | .all=>bt S d i env H k
 | .ri F=>match i with
  | .call f args=>F4 S F f (args.map (ev env)) H k
  |_=>False
theorem j7.mono {S:St} {f:Nat} {args:List AV} {H:Hp} {k k':AV→Hp→Prop} (hk:∀x H,k x H→k' x H) (h:j7 S f args H k):j7 S f args H k':=by
 rcases h with⟨res,h1,h2⟩|⟨cQ,res,h1,h2,h3,h4⟩|⟨ρ,iG,cQ,Q,h1,h2,h3,h4,h5,h6,h7,h8,h9⟩
 ·exact .inl ⟨res,h1,hk _ _ h2⟩
 ·exact .inr (.inl ⟨cQ,res,h1,h2,h3,hk _ _ h4⟩)
 ·refine .inr<| .inr ⟨ρ,iG,cQ,Q,h1,h2,h3,h4,h5,h6,h7,h8,fun x H' hq=> ?_⟩
  obtain⟨ρ',kS,q1,q2,q3,q4,q5,q6,q7,q8,q9⟩:=h9 x H' hq;exact⟨ρ',kS,q1,q2,q3,q4,q5,q6,q7,q8,hk _ _ q9⟩
theorem bt.mono {S:St} {d:Option Nat} {i:b6} {env:Env} {H:Hp} {k k':AV→Hp→Prop} (hk:∀x H,k x H→k' x H) (h:bt S d i env H k):bt S d i env H k':=by
 cases i with
 |load m a=>
  simp only[bt] at h ⊢;rcases h with⟨x,h1,h2⟩|⟨x,h1,h2⟩
  ·exact .inl ⟨x,h1,hk _ _ h2⟩
  ·exact .inr ⟨x,h1,hk _ _ h2⟩
 |box x=>
  simp only[bt] at h ⊢;obtain⟨n,h1,h2,h3,h4,h5,h6⟩:=h;exact⟨n,h1,h2,h3,h4,h5,hk _ _ h6⟩
 |new cs=>
  simp only[bt] at h ⊢;obtain⟨n,h1,h2,h3,h4,h5⟩:=h;exact⟨n,h1,h2,h3,h4,hk _ _ h5⟩
 |store m a x=>
  simp only[bt] at h ⊢;obtain⟨h1,H',h2,h3⟩:=h;exact⟨h1,H',h2,hk _ _ h3⟩
 |app s x sz b=>
  simp only[bt] at h ⊢;obtain⟨n,h1,y,H',h2,h3⟩:=h;exact⟨n,h1,y,H',h2,hk _ _ h3⟩
 |call f args=>exact j7.mono hk h
 |zR n x=>
  simp only[bt] at h ⊢;obtain⟨bs,h1,h2⟩:=h;exact⟨bs,h1,fun b hb=>hk _ _ (h2 b hb)⟩
 |qj s n sz b z=>
  simp only[bt] at h ⊢;obtain⟨q,h1,y,H',h2,h3⟩:=h;exact⟨q,h1,y,H',h2,hk _ _ h3⟩
 |ga sz z ps=>
  simp only[bt] at h ⊢;obtain⟨q,h1,y,H',h2,h3⟩:=h;exact⟨q,h1,y,H',h2,hk _ _ h3⟩
 |cap x=>
  simp only[bt] at h ⊢;obtain⟨R,h1,h2⟩:=h;exact⟨R,h1,fun m hm H8=>hk _ _ (h2 m hm H8)⟩
 |rq s x sz=>
  simp only[bt] at h ⊢;obtain⟨y,H',h1,h2⟩:=h;exact⟨y,H',h1,hk _ _ h2⟩
 |s4 x sz z=>
  simp only[bt] at h ⊢;obtain⟨H',h1,h2⟩:=h;exact⟨H',h1,hk _ _ h2⟩
 |s9 n c sz b z=>
  simp only[bt] at h ⊢;obtain⟨q,h1,y,H',h2,h3⟩:=h;exact⟨q,h1,y,H',h2,hk _ _ h3⟩
 |iY f args=>
  simp only[bt] at h ⊢;obtain⟨res,h1,h2⟩:=h;exact⟨res,h1,hk _ _ h2⟩
 |j0 x args=>
  simp only[bt] at h ⊢;obtain⟨f,first,cap,h1,h2,h3⟩:=h
  exact⟨f,first,cap,h1,h2,j7.mono hk h3⟩
 |_=>
  simp only[bt] at h ⊢;obtain⟨x,h1,h2⟩:=h;exact⟨x,h1,hk _ _ h2⟩
theorem aD.mono {S:St} {fp:Fp} {d:Option Nat} {i:b6} {env:Env} {H:Hp} {k k':AV→Hp→Prop} (hk:∀x H,k x H→k' x H) (h:aD S fp d i env H k):aD S fp d i env H k':=by
 cases fp with
 |no=>obtain⟨x,h1,h2⟩:=h;exact⟨x,h1,hk _ _ h2⟩
 |rw R W=>obtain⟨x,H',h1,h2,h3,h4⟩:=h;exact⟨x,H',h1,h2,h3,hk _ _ h4⟩
 |all=>exact bt.mono hk h
 |ri F=>
  cases i<;>simp only[aD] at h ⊢;obtain⟨Q,h1,h2,h3⟩:=h;exact⟨Q,h1,h2,fun x H' hq=>⟨(h3 x H' hq).1,hk _ _ (h3 x H' hq).2⟩⟩
theorem aD.act {S:St} {fp:Fp} {d:Option Nat} {i:b6} {env:Env} {H:Hp} {k:AV→Hp→Prop} (h:aD S fp d i env H k):bt S d i env H k:=by
 cases fp with
 |all=>exact h
 |ri F=>
  cases i<;>simp only[aD] at h;obtain⟨Q,h1,h2,h3⟩:=h;exact j7.mono (fun x H' hq=>(h3 x H' hq).2) h1
 |no=>
  obtain⟨x,h1,h2⟩:=h;cases i with
  |load m a=>
   rcases h1 with h1|h1
   ·exact .inl ⟨x,h1,h2⟩
   ·exact absurd h1 (by simp[Quiet])
  |call f args=>
   rcases h1 with h1|h1
   ·simp[aa] at h1
   ·exact .inl ⟨x,h1,h2⟩
  |j0 y args=>
   rcases h1 with h1|⟨f,first,cap,e1,e2,e3⟩
   ·simp[aa] at h1
   ·exact⟨f,first,cap,e1,e2,.inl ⟨x,e3,h2⟩⟩
  |box _=>rcases h1 with h1|h1<;>simp[aa,Quiet] at h1
  |zR _ _=>rcases h1 with h1|h1<;>simp[aa,Quiet] at h1
  |new _=>rcases h1 with h1|h1<;>simp[aa,Quiet] at h1
  |store _ _ _=>rcases h1 with h1|h1<;>simp[aa,Quiet] at h1
  |app _ _ _ _=>rcases h1 with h1|h1<;>simp[aa,Quiet] at h1
  |cap _=>rcases h1 with h1|h1<;>simp[aa,Quiet] at h1
  |qj _ _ _ _ _=>rcases h1 with h1|h1<;>simp[aa,Quiet] at h1
  |ga _ _ _=>rcases h1 with h1|h1<;>simp[aa,Quiet] at h1
  |rq _ _ _=>rcases h1 with h1|h1<;>simp[aa,Quiet] at h1
  |s4 _ _ _=>rcases h1 with h1|h1<;>simp[aa,Quiet] at h1
  |s9 _ _ _ _ _=>rcases h1 with h1|h1<;>simp[aa,Quiet] at h1
  |iY _ _=>rcases h1 with h1|h1<;>simp[aa,Quiet] at h1
  |_=>
   rcases h1 with h1|h1
   ·exact⟨x,h1,h2⟩
   ·exact absurd h1 (by simp[Quiet])
 |rw R W=>
  obtain⟨x,H',h1,_,_,h2⟩:=h;cases i with
  |load m a=>
   simp only[dw,Option.map_eq_some_iff,Prod.mk.injEq] at h1;obtain⟨y,h1,rfl,rfl⟩:=h1;exact .inr ⟨y,h1,h2⟩
  |box y=>
   simp only[dw] at h1;obtain⟨n,rfl,h0⟩:=bh h1;split at h0
   ·rename_i hc;simp only[Option.some.injEq,Prod.mk.injEq] at h0;obtain⟨rfl,rfl⟩:=h0;exact⟨n,rfl,hc.1,hc.2.1,hc.2.2.1,hc.2.2.2,h2⟩
   ·simp at h0
  |new cs=>
   simp only[dw] at h1;obtain⟨n,rfl,h0⟩:=bh h1;split at h0
   ·rename_i hc;simp only[Option.some.injEq,Prod.mk.injEq] at h0;obtain⟨rfl,rfl⟩:=h0;exact⟨n,rfl,hc.1,hc.2.1,hc.2.2,h2⟩
   ·simp at h0
  |store m a y=>
   simp only[dw] at h1;split at h1
   ·rename_i hd;simp only[Option.map_eq_some_iff,Prod.mk.injEq] at h1;obtain⟨H2,h1,rfl,rfl⟩:=h1;exact⟨hd,H2,h1,h2⟩
   ·simp at h1
  |app s y sz bytes=>
   simp only[dw] at h1;obtain⟨n,rfl,h0⟩:=bh h1;exact⟨n,rfl,x,H',h0,h2⟩
  |ga sz z ps=>
   simp only[dw] at h1;obtain⟨q,rfl,h0⟩:=bh h1;exact⟨q,rfl,x,H',h0,h2⟩
  |rq s y sz=>
   simp only[dw] at h1;exact⟨x,H',h1,h2⟩
  |s9 n c sz b z=>
   simp only[dw] at h1;obtain⟨q,rfl,h0⟩:=bh h1;exact⟨q,rfl,x,H',h0,h2⟩
  |s4 y sz z=>
   simp only[dw,Option.map_eq_some_iff,Prod.mk.injEq] at h1;obtain⟨H2,h1,rfl,rfl⟩:=h1;exact⟨H2,h1,h2⟩
  |_=>simp[dw] at h1
theorem lh {S:St} {i:b6} {env env':Env} (h:∀x∈i.os,ev env x=ev env' x) {x:AV} (hq:Quiet S i env x):Quiet S i env' x:=by
 cases i with
 |call f args=>
  simp only[Quiet] at hq ⊢;have:args.map (ev env)=args.map (ev env'):=List.map_congr_left fun p hp=>h p (by simpa[b6.os] using hp)
  rw[←this];exact hq
 |j0 y args=>
  simp only[Quiet] at hq ⊢;have:args.map (ev env)=args.map (ev env'):=List.map_congr_left fun p hp=>h p (by simp only[b6.os,List.mem_cons];exact .inr hp)
  rw[←this,←h y (by simp[b6.os])];exact hq
 |_=>exact hq
theorem lj {S:St} {fp:Fp} {d:Option Nat} {i:b6} {env env':Env} (h:∀x∈i.os,ev env x=ev env' x) {H:Hp} {k:AV→Hp→Prop} (ha:aD S fp d i env H k):aD S fp d i env' H k:=by
 cases fp with
 |no=>
  obtain⟨x,h1,h2⟩:=ha;refine⟨x,?_,h2⟩;rcases h1 with h1|h1
  ·exact .inl (by rw[←fC h];exact h1)
  ·exact .inr (lh h h1)
 |rw R W=>
  obtain⟨x,H',h1,h2,h3,h4⟩:=ha;obtain⟨e1,e2,e3⟩:=hU (d:=d) h H;exact⟨x,H',by rw[←e1];exact h1,by rw[←e2];exact h2,by rw[←e3];exact h3,h4⟩
 |all=>exact wa h ha
 |ri F=>
  cases i with
  |call f args=>
   simp only[aD] at ha ⊢;have:args.map (ev env)=args.map (ev env'):=List.map_congr_left fun p hp=>h p (by simpa[b6.os] using hp)
   rw[←this];exact ha
  |_=>simp only[aD] at ha
theorem aD.H9 {S:St} {F:List Lb} {d:Option Nat} {i:b6} {env:Env} {H:Hp} {k:AV→Hp→Prop} (h:aD S (.ri F) d i env H k):aD S (.ri F) d i env H fun x H'=>(∀l:Lb,l.iM∈F→H' l=H l)∧k x H':=by
 cases i<;>simp only[aD] at h ⊢;obtain⟨Q,h1,h2,h3⟩:=h;exact⟨Q,h1,h2,fun x H' hq=>⟨(h3 x H' hq).1,h3 x H' hq⟩⟩
def rj (S:St) (p:cx×Fp) (env:Env) (H:Hp) (k:Env→Hp→Prop):Prop:=
 (gW p.1.g env=some true∧(∀n,p.1.d=some n→n<S.N)∧aD S p.2 p.1.d p.1.i env H fun x H'=>k (db env p.1.d x) H') ∨
  (gW p.1.g env=some false∧(∀n,p.1.d=some n→n<S.N)∧k (db env p.1.d .un) H)
def jV (S:St):List (Nat×cx×Fp)→Env→Hp→(Env→Hp→Prop)→Prop
 |[],env,H,k=>k env H
 |p::r,env,H,k=>rj S p.2 env H fun e h=>jV S r e h k
def kv (d:Option Nat) (us:List Nat):Bool:=match d with|some n=> !us.contains n|none=>true
def pC (p q:cx):Bool:=kv p.d q.us&&kv q.d p.us&&(p.d.isNone||p.d !=q.d)
def Fp.Co:Fp→Bool
 | .ri _=>true
 |_=>false
def iH:Fp→Fp→Bool
 | .no,_=>true
 | .rw _ _,.no=>true
 | .rw R W,.rw R' W'=>W.all (fun l=> !R'.contains l&& !W'.contains l)&&R.all (fun l=> !W'.contains l)
 | .rw R W,.ri F=>W.isEmpty&&R.all (fun l=>F.contains l)
 | .ri _,.no=>true
 | .ri F,.rw R W=>W.isEmpty&&R.all (fun l=>F.contains l)
 |_,_=>false
def b6.tE:b6→Bool
 | .call _ _| .j0 _ _=>true
 |_=>false
def indep (p q:cx×Fp):Bool:=pC p.1 q.1&&(iH p.2 q.2&& !(p.2.Co&&q.1.i.tE))
section
variable {S:St} {env:Env} {H:Hp}
theorem rj.mono {p:cx×Fp} {k k':Env→Hp→Prop} (hk:∀e h,k e h→k' e h) (h:rj S p env H k):rj S p env H k':=by
 rcases h with⟨h1,h2,h3⟩|⟨h1,h2,h3⟩
 ·exact .inl ⟨h1,h2,h3.mono fun _ _=>hk _ _⟩
 ·exact .inr ⟨h1,h2,hk _ _ h3⟩
theorem jV.mono {k k':Env→Hp→Prop} (hk:∀e h,k e h→k' e h):∀(l:List (Nat×cx×Fp)) (env:Env) (H:Hp),jV S l env H k→jV S l env H k'
 |[],env,H,h=>hk _ _ h
 |p::r,env,H,h=>rj.mono (fun e h'=>jV.mono hk r e h') h
theorem eU {d d':Option Nat} (h:d=none∨d≠d') (x y:AV):db (db env d x) d' y=db (db env d' y) d x:=by
 cases d with
 |none=>rfl
 |some n=>
  cases d' with
  |none=>rfl
  |some m=>
   have:n≠m:=by rcases h with h|h;simp at h;simpa using h
   funext q;simp only[db,put];by_cases e1:q=n
   ·by_cases e2:q=m
    ·exact absurd (e1.symm.trans e2) this
    ·simp[e1,this]
   ·by_cases e2:q=m
    ·simp[e2,Ne.symm this]
    ·simp[e1,e2]
theorem Dd {g:Option (Nat×Bool)} {d:Option Nat} {x:AV} (h:∀n,d=some n→n∉(match g with|some (s,_)=>[s]|none=>([]:List Nat))):gW g (db env d x)=gW g env:=by
 cases g with
 |none=>rfl
 |some p=>
  obtain⟨s,t⟩:=p;cases d with
  |none=>rfl
  |some m=>
   have:=h m rfl;simp at this;simp[gW,db,put,Ne.symm this]
theorem qv {d:Option Nat} {us:List Nat} (h:kv d us=true):∀n,d=some n→n∉us:=by
 rintro n rfl;simpa[kv] using h
theorem eE {q:cx} {d:Option Nat} (h:kv d q.us=true) (x:AV) (env:Env):gW q.g (db env d x)=gW q.g env∧∀o∈q.i.os,ev (db env d x) o=ev env o:=by
 have h':=qv h;refine⟨Dd fun n hn hm=>h' n hn (by simp only[cx.us,List.mem_append];exact .inr hm),fun o ho=>Dc fun n hn hm=>h' n hn ?_⟩;simp only[cx.us,List.mem_append,List.mem_flatMap];exact .inl ⟨o,ho,hm⟩
theorem rj.shift {q:cx×Fp} {d:Option Nat} (h:kv d q.1.us=true) (hd:d=none∨d≠q.1.d) {x:AV} {k:Env→Hp→Prop} (hs:rj S q (db env d x) H k) :
  rj S q env H fun e h=>k (db e d x) h∧∃y,e=db env q.1.d y:=by
 obtain⟨e1,e2⟩:=eE h x env;rcases hs with⟨h1,h2,h3⟩|⟨h1,h2,h3⟩
 ·exact .inl ⟨by rw[←e1];exact h1,h2,(lj e2 h3).mono fun y H' hk=>⟨by rw[←eU hd];exact hk,y,rfl⟩⟩
 ·exact .inr ⟨by rw[←e1];exact h1,h2,by rw[←eU hd];exact h3,_,rfl⟩
theorem rj.swap {p q : cx × Fp} (hi : indep p q = true) {k : Env → Hp → Prop} (h : rj S p env H fun e h => rj S q e h k) : rj S q env H fun e h => rj S p e h k := by
 simp only[indep,pC,Bool.and_eq_true,Bool.or_eq_true,Option.isNone_iff_eq_none,bne_iff_ne] at hi
 obtain⟨⟨⟨r1,r2⟩,r3⟩,hf,H_⟩:=hi
 obtain⟨lp,fp⟩:=p
 obtain⟨lq,fq⟩:=q
 simp only at r1 r2 r3 hf
 have LP:lq.d=none∨lq.d≠lp.d:=by
   rcases r3 with r3|r3
   · by_cases e:lq.d=none
     · exact .inl e
     · exact .inr (by rw[r3];exact e)
   · exact .inr (Ne.symm r3)
 rcases h with⟨h1,h2,h3⟩|⟨h1,h2,h3⟩
 · cases fp with
   |no=>
     obtain⟨x,h4,h5⟩:=h3
     refine(h5.shift r1 r3).mono ?_
     rintro e h' ⟨hk,y,rfl⟩
     obtain⟨e1,e2⟩:=eE r2 y env
     refine .inl ⟨by simp only;rw[e1];exact h1,h2,x,?_,hk⟩
     rcases h4 with h4|h4
     · exact .inl (by simp only;rw[fC e2];exact h4)
     · exact .inr (lh (fun o ho=>(e2 o ho).symm) h4)
   |rw R W=>
     obtain⟨x,H',m1,m2,m3,m4⟩:=h3
     have wc:∀y,dw lp.d lp.i (db env lq.d y) H=some (x,H')∧cC lp.i (db env lq.d y)=cC lp.i env∧aF lp.d lp.i (db env lq.d y)=aF lp.d lp.i env:=fun y=>by
       obtain⟨c1,c2,c3⟩:=hU (d:=lp.d) (eE r2 y env).2 H
       exact⟨by rw[c1];exact m1,c2,c3⟩
     obtain⟨f1,f2⟩:=eE r1 x env
     have g2:∀y,gW lp.g (db env lq.d y)=some true:=fun y=>by rw[(eE r2 y env).1];exact h1
     rcases m4 with⟨k1,k2,k3⟩|⟨k1,k2,k3⟩
     · cases fq with
       |no=>
         obtain⟨y,k4,k5⟩:=k3
         refine .inl ⟨by simp only;rw[←f1];exact k1,k2,y,?_,?_⟩
         · rcases k4 with k4|k4
           · exact .inl (by simp only;rw[←fC f2];exact k4)
           · exact .inr (lh f2 k4)
         · exact .inl ⟨g2 y,h2,x,H',(wc y).1,by simp only;rw[(wc y).2.1];exact m2,by simp only;rw[(wc y).2.2];exact m3,by simp only;rw[←eU r3];exact k5⟩
       |rw R' W'=>
         obtain⟨y,kS,k4,k5,k6,k7⟩:=k3
         obtain⟨c1,c2,c3⟩:=hU (d:=lq.d) f2 H'
         simp only at k4 k5 k6 k7
         rw[c1] at k4
         rw[c2] at k5
         rw[c3] at k6
         simp only[iH,Bool.and_eq_true,List.all_eq_true,Bool.not_eq_true',List.contains_eq_mem,decide_eq_false_iff_not] at hf
         obtain⟨Cp,F3⟩:=hf
         have pW:∀l,l∈aF lp.d lp.i env→l.iM∉R'∧l.iM∉W':=fun l hl=>Cp l.iM (m3 l hl)
         have De:∀l,l∈cC lq.i env∨l∈aF lq.d lq.i env→H l=H' l:=by
           intro l hl
           refine(gi m1 l fun hw=> ?_).symm
           rcases hl with hl|hl
           · rcases k5 l hl with e|e
             · exact(pW l hw).1 e
             · exact(pW l hw).2 e
           · exact(pW l hw).2 (k6 l hl)
         obtain⟨H2,a1,a2,a3⟩:=j9 k4 De
         have qw:∀l,l∈cC lp.i env∨l∈aF lp.d lp.i env→H2 l=H l:=by
           intro l hl
           refine a3 l fun hw=> ?_
           rcases hl with hl|hl
           · rcases m2 l hl with e|e
             · exact F3 l.iM e (k6 l hw)
             · exact(Cp l.iM e).2 (k6 l hw)
           · exact(pW l hl).2 (k6 l hw)
         obtain⟨H3,b1,b2,b3⟩:=j9 m1 qw
         have hH:H3=kS:=by
           funext l
           by_cases hw:l∈aF lp.d lp.i env
           · rw[b2 l hw]
             exact(gi k4 l fun hq=>(pW l hw).2 (k6 l hq)).symm
           · rw[b3 l hw]
             by_cases hq:l∈aF lq.d lq.i env
             · exact a2 l hq
             · rw[a3 l hq,gi k4 l hq,gi m1 l hw]
         subst hH
         refine .inl ⟨by simp only;rw[←f1];exact k1,k2,y,H2,a1,k5,k6,?_⟩
         obtain⟨d1,d2,d3⟩:=hU (d:=lp.d) (eE r2 y env).2 H2
         exact .inl ⟨g2 y,h2,x,H3,by simp only;rw[d1];exact b1,by simp only;rw[d2];exact m2,by simp only;rw[d3];exact m3,by simp only;rw[←eU r3];exact k7⟩
       |all=>simp[iH] at hf
       |ri F=>
         simp only[iH,Bool.and_eq_true,List.isEmpty_iff,List.all_eq_true,List.contains_eq_mem,decide_eq_true_eq] at hf
         obtain⟨rfl,hf⟩:=hf
         have xL:∀l,l∉aF lp.d lp.i env:=fun l hl=>by simpa using m3 l hl
         have hH:H'=H:=funext fun l=>gi m1 l (xL l)
         subst hH
         refine .inl ⟨by simp only;rw[←f1];exact k1,k2,?_⟩
         refine aD.mono (fp:= .ri F) (k:=fun y H2=>(∀l:Lb,l.iM∈F→H2 l=H' l)∧k (db (db env lp.d x) lq.d y) H2) ?_ (lj f2 (aD.H9 k3))
         rintro y H2 ⟨g1,g3⟩
         have qw:∀l,l∈cC lp.i env∨l∈aF lp.d lp.i env→H2 l=H' l:=by
           intro l hl
           rcases hl with hl|hl
           · rcases m2 l hl with e|e
             · exact g1 l (hf _ e)
             · simp at e
           · exact absurd hl (xL l)
         obtain⟨H3,b1,b2,b3⟩:=j9 m1 qw
         have hH:H3=H2:=funext fun l=>b3 l (xL l)
         subst hH
         obtain⟨d1,d2,d3⟩:=hU (d:=lp.d) (eE r2 y env).2 H3
         exact .inl ⟨g2 y,h2,x,H3,by simp only;rw[d1];exact b1,by simp only;rw[d2];exact m2,by simp only;rw[d3];exact m3,by simp only;rw[←eU r3];exact g3⟩
     · refine .inr ⟨by simp only;rw[←f1];exact k1,k2,?_⟩
       exact .inl ⟨g2 .un,h2,x,H',(wc .un).1,by simp only;rw[(wc .un).2.1];exact m2,by simp only;rw[(wc .un).2.2];exact m3,by simp only;rw[←eU r3];exact k3⟩
   |all=>cases fq<;>simp[iH] at hf
   |ri F=>
     cases Ia:lp.i with
     |call f args=>
       rw[Ia] at h3
       simp only[aD] at h3
       obtain⟨Q,m1,⟨x0,H0,m2⟩,m3⟩:=h3
       have Hf:∀x H',Q x H'→∀l:Lb,l.iM∈F→H' l=H l:=fun x H' hq=>(m3 x H' hq).1
       have fW:∀x H',Q x H'→rj S (lq,fq) (db env lp.d x) H' k:=fun x H' hq=>(m3 x H' hq).2
       have fs:=fun x:AV=>eE r1 x env
       have back:∀(y:AV) (k':AV→Hp→Prop),(∀x H',Q x H'→k' x H')→aD S (.ri F) lp.d lp.i (db env lq.d y) H k':=fun y k' wg=>by
         have h4:aD S (.ri F) lp.d lp.i env H k':=by
           rw[Ia];simp only[aD]
           exact⟨Q,m1,⟨x0,H0,m2⟩,fun x H' hq=>⟨Hf x H' hq,wg x H' hq⟩⟩
         exact lj (fun o ho=>((eE r2 y env).2 o ho).symm) h4
       have g2:∀y,gW lp.g (db env lq.d y)=some true:=fun y=>by rw[(eE r2 y env).1];exact h1
       rcases fW x0 H0 m2 with⟨k1,k2,k3⟩|⟨k1,k2,k3⟩
       · simp only at k1 k2 k3
         rw[(fs x0).1] at k1
         have dN:∀x H',Q x H'→aD S fq lq.d lq.i (db env lp.d x) H' fun y kS=>k (db (db env lp.d x) lq.d y) kS:=by
           intro x H' hq
           rcases fW x H' hq with⟨e1,e2,e3⟩|⟨e1,e2,e3⟩
           · exact e3
           · simp only at e1;rw[(fs x).1,k1] at e1;simp at e1
         cases fq with
         |no=>
           have Cc:∀(y:AV) (env':Env),Quiet S lq.i env' y→False:=by
             intro y env' hq
             have:lq.i.tE=false:=by simpa[Fp.Co] using H_
             cases hi:lq.i<;>simp_all[Quiet,b6.tE]
           obtain⟨y,k4,_⟩:=k3
           have k4:aa lq.i env=some y:=by
             rcases k4 with k4|k4
             · rwa[fC (fs x0).2] at k4
             · exact(Cc y _ k4).elim
           refine .inl ⟨k1,k2,y,.inl k4,?_⟩
           refine .inl ⟨g2 y,h2,back y _ fun x H' hq=> ?_⟩
           obtain⟨y',e1,e2⟩:=dN x H' hq
           have e1:aa lq.i env=some y':=by
             rcases e1 with e1|e1
             · rwa[fC (fs x).2] at e1
             · exact(Cc y' _ e1).elim
           rw[k4] at e1;cases e1
           simp only;rw[←eU r3];exact e2
         |rw R W=>
           simp only[iH,Bool.and_eq_true,List.isEmpty_iff,List.all_eq_true,List.contains_eq_mem,decide_eq_true_eq] at hf
           obtain⟨rfl,hf⟩:=hf
           have one:∀x H',Q x H'→∀y H2,dw lq.d lq.i (db env lp.d x) H'=some (y,H2)→(∀l∈cC lq.i (db env lp.d x),l.iM∈R∨l.iM∈([]:List Lb))→(∀l∈aF lq.d lq.i (db env lp.d x),l.iM∈([]:List Lb)) →
               dw lq.d lq.i env H=some (y,H)∧H2=H'∧(∀l∈cC lq.i env,l.iM∈R∨l.iM∈([]:List Lb))∧∀l∈aF lq.d lq.i env,l.iM∈([]:List Lb):=by
             intro x H' hq y H2 e1 e2 e3
             obtain⟨c1,c2,c3⟩:=hU (d:=lq.d) (fs x).2 H'
             rw[c1] at e1;rw[c2] at e2;rw[c3] at e3
             have xL:∀l,l∉aF lq.d lq.i env:=fun l hl=>by simpa using e3 l hl
             have Ah:∀l,l∈cC lq.i env∨l∈aF lq.d lq.i env→H l=H' l:=by
               intro l hl
               rcases hl with hl|hl
               · rcases e2 l hl with e|e
                 · exact(Hf x H' hq l (hf _ e)).symm
                 · simp at e
               · exact absurd hl (xL l)
             obtain⟨H3,b1,b2,b3⟩:=j9 e1 Ah
             have hH:H3=H:=funext fun l=>b3 l (xL l)
             subst hH
             exact⟨b1,funext fun l=>gi e1 l (xL l),e2,e3⟩
           obtain⟨y,H2,q1,q2,q3,_⟩:=k3
           obtain⟨a1,_,a3,a4⟩:=one x0 H0 m2 y H2 q1 q2 q3
           refine .inl ⟨k1,k2,y,H,a1,a3,a4,?_⟩
           refine .inl ⟨g2 y,h2,back y _ fun x H' hq=> ?_⟩
           obtain⟨y',Kv,p1,p2,p3,p4⟩:=dN x H' hq
           obtain⟨b1,rfl,_,_⟩:=one x H' hq y' Kv p1 p2 p3
           rw[a1] at b1;cases b1
           simp only;rw[←eU r3];exact p4
         |all=>simp[iH] at hf
         |ri F'=>simp[iH] at hf
       · simp only at k1 k2 k3
         rw[(fs x0).1] at k1
         refine .inr ⟨k1,k2,?_⟩
         refine .inl ⟨g2 .un,h2,back .un _ fun x H' hq=> ?_⟩
         rcases fW x H' hq with⟨e1,e2,e3⟩|⟨e1,e2,e3⟩
         · simp only at e1;rw[(fs x).1,k1] at e1;simp at e1
         · simp only;rw[←eU r3];exact e3
     |_=>rw[Ia] at h3;simp only[aD] at h3
 · refine(h3.shift r1 r3).mono ?_
   rintro e h' ⟨hk,y,rfl⟩
   obtain⟨e1,e2⟩:=eE r2 y env
   exact .inr ⟨by simp only;rw[e1];exact h1,h2,hk⟩
theorem jV.front {q:Nat×cx×Fp} {l2:List (Nat×cx×Fp)} {k:Env→Hp→Prop}:∀(l1:List (Nat×cx×Fp)) (env:Env) (H:Hp),(∀p∈l1,indep p.2 q.2=true)→jV S (l1++q::l2) env H k →
  jV S (q::(l1++l2)) env H k
 |[],env,H,_,h=>h
 |p::l1,env,H,hi,h=>by
  simp only[List.cons_append,jV] at h ⊢;refine rj.swap (hi p (by simp)) (h.mono fun e h' hq=> ?_);have:=jV.front l1 e h' (fun p' xr=>hi p' (by simp[xr])) hq;simpa only[jV] using this
end
end Go.Am

/- THE ABSTRACT MACHINE, part 20: regions whose order is drawn are sound. -/
namespace Go.Am
open Go Go.RowKit
def eV (ops:Array Oper):List (List Nat):=ops.toList.map fun o=>(o.after.toList.filter (Region.binds .any)).map (·.on)
def items:Nat→List cx→List Fp→List (Nat×cx×Fp)
 |_,[],_=>[]
 |n,i::r,fs=>(n,i,fs.headD .no)::items (n+1) r fs.tail
def lM (es:List (List Nat)):List (Nat×cx×Fp)→Bool
 |[]=>true
 |p::r=>r.all (fun q=>(es.getD q.1 []).contains p.1||indep p.2 q.2)&&lM es r
def n9 (acc:List (List Nat)):List (List Nat)→List (List Nat)
 |[]=>acc
 |x::r=>n9 (acc++[(x.flatMap fun e=>acc.getD e []).foldl (fun a e=>if a.contains e then a else e::a) x]) r
inductive Cq (es:List (List Nat)):Nat→Nat→Prop where
 |one {p q:Nat}:p∈es.getD q []→Cq es p q
 |more {p r q:Nat}:r∈es.getD q []→Cq es p r→Cq es p q
theorem xM {l x:List Nat} {p:Nat} (h:p∈l.foldl (fun a e=>if a.contains e then a else e::a) x):p∈x∨p∈l:=by
 induction l generalizing x with
 |nil=>exact .inl h
 |cons e l ih=>
  simp only[List.foldl_cons] at h;rcases ih h with h|h
  ·split at h
   ·exact .inl h
   ·rcases List.mem_cons.1 h with rfl|h
    ·exact .inr (by simp)
    ·exact .inl h
  ·exact .inr (by simp[h])
theorem mY (es:List (List Nat)):∀(r acc:List (List Nat)),es.drop acc.length=r→(∀i p,p∈acc.getD i []→Cq es p i)→∀i p,p∈(n9 acc r).getD i []→Cq es p i
 |[],acc,_,h=>by simpa[n9] using h
 |x::r,acc,hd,h=>by
  simp only[n9]
  have hx:es[acc.length]?=some x:=by
   have:=congrArg (fun l=>l[0]?) hd;simpa using this
  refine mY es r _ ?_ ?_
  ·rw[List.length_append,List.length_singleton,←List.drop_drop,hd];rfl
  ·intro i p hp;rw[List.getD_eq_getElem?_getD] at hp;by_cases hi:i<acc.length
   ·rw[List.getElem?_append_left hi,←List.getD_eq_getElem?_getD] at hp;exact h i p hp
   ·rw[List.getElem?_append_right (by omega)] at hp;by_cases e:i=acc.length
    ·subst e;simp only[Nat.sub_self,List.getElem?_cons_zero,Option.getD_some] at hp;have Jz:es.getD acc.length []=x:=by rw[List.getD_eq_getElem?_getD,hx];rfl
     rcases xM hp with hp|hp
     ·exact .one (by rw[Jz];exact hp)
     ·obtain⟨e,he,hp⟩:=List.mem_flatMap.1 hp;exact .more (by rw[Jz];exact he) (h e p hp)
    ·rw[List.getElem?_eq_none (by simp;omega)] at hp;simp at hp
def xN (es:List (List Nat)) (l:List (Nat×cx×Fp)):Bool:=l.all fun p=>(es.getD p.1 []).all fun e=>decide (e<p.1)
def va (is:List cx) (es:List (List Nat)) (fs:List Fp):Bool:=(lM es (items 0 is fs)||lM (n9 [] es) (items 0 is fs))&&xN es (items 0 is fs)
theorem jB {es:List (List Nat)}:∀{l:List (Nat×cx×Fp)},lM es l=true→l.Pairwise fun p q=>p.1∈es.getD q.1 []∨indep p.2 q.2=true
 |[],_=> .nil
 |p::r,h=>by
  simp only[lM,Bool.and_eq_true,List.all_eq_true,Bool.or_eq_true,List.contains_eq_mem,decide_eq_true_eq] at h;exact .cons h.1 (jB h.2)
section
variable {K:Kx} {env:Env} {H:Hp} {a:Act} {w:World}
theorem mB {ops:Array Oper} {listed:Array Bool} {i:Nat}:i∈Region.ready .any ops listed ↔
  i<ops.size∧listed.getD i true=false∧∃o,ops[i]?=some o∧∀e∈o.after,Region.binds .any e=true→listed.getD e.on false=true:=by
 unfold Region.ready;simp only[List.mem_filter,List.mem_range,Bool.and_eq_true,Bool.not_eq_true'];constructor
 ·rintro⟨h1,h2,h3⟩;refine⟨h1,h2,?_⟩;cases ho:ops[i]? with
  |none=>rw[ho] at h3;simp at h3
  |some o=>
   rw[ho] at h3;simp only[Option.map_some,Option.getD_some] at h3;refine⟨o,rfl,fun e he hb=> ?_⟩;have Kw:=Array.all_eq_true_iff_forall_mem.1 h3;have:=Kw e he;simpa[hb] using this
 ·rintro⟨h1,h2,o,h3,h4⟩;refine⟨h1,h2,?_⟩;rw[h3];simp only[Option.map_some,Option.getD_some];refine Array.all_eq_true_iff_forall_mem.2 fun e he=> ?_
  cases hb:Region.binds .any e with
  |false=>rfl
  |true=>simpa using h4 e he hb
theorem rM {ops:Array Oper} {i:Nat} {o:Oper} (ho:ops[i]?=some o) {e:Edge} (he:e∈o.after) (hb:Region.binds .any e=true):e.on∈(eV ops).getD i []:=by
 unfold eV;rw[List.getD_eq_getElem?_getD,List.getElem?_map,Array.getElem?_toList,ho];simp only[Option.map_some,Option.getD_some,List.mem_map,List.mem_filter,Array.mem_toList_iff];exact⟨e,⟨he,hb⟩,rfl⟩
theorem wh {ops : Array Oper} {k : Env → Hp → Prop} {Q : Exit → Act → World → Prop} (hk : ∀ env' H' β' a' w',k env' H' → aM K β' env' H' a' w' → Q .normal a' w') :
   ∀(fuel:Nat) (l:List (Nat×cx×Fp)) (listed:Array Bool) (env:Env) (H:Hp) (a:Act) (w:World) (β:Lb→Option Nat),l.length=fuel →
     l.Pairwise (fun p q=>p.1<q.1)→listed.size=ops.size→(∀i,i<ops.size→(listed.getD i true=false↔∃p∈l,p.1=i)) →
     (∀p∈l,p.1<ops.size∧∃o,ops[p.1]?=some o∧kT K.P K.G ops o=some p.2.1.ie) →
     l.Pairwise (fun p q=>Cq (eV ops) p.1 q.1∨indep p.2 q.2=true)→(∀i,i<ops.size→listed.getD i true=true→∀e∈(eV ops).getD i [],listed.getD e false=true)→(∀p∈l,∀e∈(eV ops).getD p.1 [],e<p.1) →
     jV ⟨K.P,K.G,K.N⟩ l env H k→aM K β env H a w→wpAny K.P .any ops Q fuel listed a w:=by
 intro fuel
 induction fuel with
 |zero=>
   intro l listed env H a w β hlen _ _ hl _ _ _ _ hA hr
   have:l=[]:=List.eq_nil_of_length_eq_zero hlen
   subst this
   refine⟨?_,hk _ _ _ _ _ hA hr⟩
   rw[List.eq_nil_iff_forall_not_mem]
   intro i hi
   obtain⟨h1,h2,_⟩:=mB.1 hi
   obtain⟨p,hp,_⟩:=(hl i h1).1 h2
   simp at hp
 |succ fuel ih=>
   intro l listed env H a w β hlen vb iO hl Ay xO hD Cr hA hr
   refine⟨fun xJ=> ?_,fun i hi=> ?_⟩
   · exfalso
     cases l with
     |nil=>simp at hlen
     |cons p r=>
       obtain⟨JA,o,Cj,LQ⟩:=Ay p (by simp)
       have:p.1∈Region.ready .any ops listed:=by
         refine mB.2 ⟨JA,(hl p.1 JA).2 ⟨p,by simp,rfl⟩,o,Cj,fun e he hb=> ?_⟩
         have bz:=Cr p (by simp) e.on (rM Cj he hb)
         have la:e.on<ops.size:=by omega
         have eg:¬listed.getD e.on true=false:=by
           rw[hl e.on la]
           rintro⟨q,hq,LR⟩
           rcases List.mem_cons.1 hq with rfl|hq
           · omega
           · have:=(List.pairwise_cons.1 vb).1 q hq
             omega
         rw[Array.getD_eq_getD_getElem?] at eg ⊢
         rw[Array.getElem?_eq_getElem (by omega)] at eg ⊢
         simpa using eg
       rw[xJ] at this
       simp at this
   · obtain ⟨h1,h2,o,h3,h4⟩ := mB.1 hi
     obtain⟨p,hp,rfl⟩:=(hl i h1).1 h2
     obtain⟨l1,l2,rfl⟩:=List.append_of_mem hp
     obtain⟨_,o',JB,ig⟩:=Ay p hp
     rw[h3] at JB;cases JB
     have Ib:∀q∈l1,indep q.2 p.2=true:=by
       intro q hq
       rcases (List.pairwise_append.1 xO).2.2 q hq p (by simp) with he|he
       · exfalso
         have F5:∀z∈(eV ops).getD p.1 [],listed.getD z false=true:=by
           intro z he
           unfold eV at he
           rw[List.getD_eq_getElem?_getD,List.getElem?_map,Array.getElem?_toList,h3] at he
           simp only[Option.map_some,Option.getD_some,List.mem_map,List.mem_filter,Array.mem_toList_iff] at he
           obtain⟨e,⟨Ic,FI⟩,rfl⟩:=he
           exact h4 e Ic FI
         have qo:∀z t,Cq (eV ops) z t→listed.getD t false=true→listed.getD z false=true:=by
           intro z t hr
           induction hr with
           |@one t hz=>
             intro ht
             have Ie:t<ops.size:=by
               rw[Array.getD_eq_getD_getElem?] at ht
               cases hh:listed[t]? with
               |none=>rw[hh] at ht;simp at ht
               |some b=>have:=(Array.getElem?_eq_some_iff.1 hh).1;omega
             refine hD t Ie ?_ z hz
             rw[Array.getD_eq_getD_getElem?] at ht ⊢
             rw[Array.getElem?_eq_getElem (by omega)] at ht ⊢
             simpa using ht
           |@more r t hz _ ih=>
             intro ht
             refine ih ?_
             have Ie:t<ops.size:=by
               rw[Array.getD_eq_getD_getElem?] at ht
               cases hh:listed[t]? with
               |none=>rw[hh] at ht;simp at ht
               |some b=>have:=(Array.getElem?_eq_some_iff.1 hh).1;omega
             refine hD t Ie ?_ r hz
             rw[Array.getD_eq_getD_getElem?] at ht ⊢
             rw[Array.getElem?_eq_getElem (by omega)] at ht ⊢
             simpa using ht
         have vY:listed.getD q.1 false=true:=by
           cases he with
           |one hz=>exact F5 _ hz
           |more hz hr=>exact qo _ _ hr (F5 _ hz)
         have EV:=(Ay q (by simp[hq])).1
         have zX:=(hl q.1 EV).2 ⟨q,by simp[hq],rfl⟩
         rw[Array.getD_eq_getD_getElem?] at vY zX
         rw[Array.getElem?_eq_getElem (by omega)] at vY zX
         simp at vY zX
         rw[vY] at zX
         simp at zX
       · exact he
     have JC:=jV.front l1 env H Ib hA
     simp only[jV] at JC
     have eg:∀q∈l1++l2,q.1≠p.1:=by
       intro q hq e
       rcases List.mem_append.1 hq with hq|hq
       · have:=(List.pairwise_append.1 vb).2.2 q hq p (by simp);omega
       · have:=(List.pairwise_cons.1 (List.pairwise_append.1 vb).2.1).1 q hq;omega
     have vO:(l1++l2).Sublist (l1++p::l2):=List.Sublist.append_left (List.sublist_cons_self p l2) l1
     have xP:∀q∈l1++l2,q∈l1++p::l2:=fun q hq=>vO.subset hq
     have jf:∀env' H' β' a' w',jV ⟨K.P,K.G,K.N⟩ (l1++l2) env' H' k→aM K β' env' H' a' w'→wpAny K.P .any ops Q fuel (listed.setIfInBounds p.1 true) a' w':=by
       intro env' H' β' a' w' q1 q2
       refine ih (l1++l2) _ env' H' a' w' β' (by simp at hlen ⊢;omega) (vb.sublist vO) (by simp[iO]) (fun j hj=> ?_) (fun q hq=>Ay q (xP q hq)) (xO.sublist vO) (fun j hj F6 e he=> ?_)
         (fun q hq=>Cr q (xP q hq)) q1 q2
       rw[Array.getD_eq_getD_getElem?,Array.getElem?_setIfInBounds]
       by_cases e:p.1=j
       · subst e
         simp only[if_true]
         rw[if_pos (by omega)]
         simp only[Option.getD_some,Bool.true_eq_false,false_iff]
         rintro⟨q,hq,e⟩
         exact eg q hq e
       · rw[if_neg e,←Array.getD_eq_getD_getElem?,hl j hj]
         constructor
         · rintro⟨q,hq,rfl⟩
           refine⟨q,?_,rfl⟩
           simp only[List.mem_append,List.mem_cons] at hq ⊢
           rcases hq with hq|hq|hq
           · exact .inl hq
           · subst hq;exact absurd rfl e
           · exact .inr hq
         · rintro⟨q,hq,rfl⟩
           exact⟨q,xP q hq,rfl⟩
       · have Ky:∀z,listed.getD z false=true→(listed.setIfInBounds p.1 true).getD z false=true:=by
           intro z hz
           rw[Array.getD_eq_getD_getElem?] at hz ⊢
           rw[Array.getElem?_setIfInBounds]
           split
           · split<;>simp_all
           · exact hz
         apply Ky
         by_cases e2:p.1=j
         · subst e2
           unfold eV at he
           rw[List.getD_eq_getElem?_getD,List.getElem?_map,Array.getElem?_toList,h3] at he
           simp only[Option.map_some,Option.getD_some,List.mem_map,List.mem_filter,Array.mem_toList_iff] at he
           obtain⟨e,⟨Ic,FI⟩,rfl⟩:=he
           exact h4 e Ic FI
         · refine hD j hj ?_ e he
           rw[Array.getD_eq_getD_getElem?,Array.getElem?_setIfInBounds,if_neg e2,←Array.getD_eq_getD_getElem?] at F6
           exact F6
     simp only[wpOp,h3]
     refine n8 hr ig (k:=fun e h=>jV ⟨K.P,K.G,K.N⟩ (l1++l2) e h k) jf ?_
     rcases JC with⟨g1,g2,g3⟩|⟨g1,g2,g3⟩
     · exact .inl ⟨g1,g2,g3.act⟩
     · exact .inr ⟨g1,g2,g3⟩
theorem mC:∀(is:List cx) (n:Nat) (fs:List Fp) (p:Nat×cx×Fp),p∈items n is fs→n≤p.1∧is[p.1 - n]?=some p.2.1
 |[],n,fs,p,h=>by simp[items] at h
 |i::r,n,fs,p,h=>by
  simp only[items,List.mem_cons] at h;rcases h with rfl|h
  ·simp
  ·obtain⟨h1,h2⟩:=mC r (n+1) _ p h;refine⟨by omega,?_⟩;rw[show p.1 - n=(p.1 - (n+1))+1 by omega];simpa using h2
theorem lN:∀(is:List cx) (n:Nat) (fs:List Fp),(items n is fs).Pairwise fun p q=>p.1<q.1
 |[],n,fs=> .nil
 |i::r,n,fs=>by
  simp only[items];refine .cons (fun q hq=> ?_) (lN r (n+1) _);have:=(mC r (n+1) _ q hq).1;simp only;omega
theorem pD:∀(is:List cx) (n:Nat) (fs:List Fp),(items n is fs).length=is.length
 |[],n,fs=>rfl
 |i::r,n,fs=>by simp[items,pD r]
theorem pE:∀(is:List cx) (n:Nat) (fs:List Fp) (j:Nat),j<is.length→∃p∈items n is fs,p.1=n+j
 |[],n,fs,j,h=>by simp at h
 |i::r,n,fs,0,h=>⟨_,List.mem_cons_self ..,rfl⟩
 |i::r,n,fs,j+1,h=>by
  obtain⟨p,h1,h2⟩:=pE r (n+1) fs.tail j (by simpa using h);exact⟨p,by simp only[items];exact List.mem_cons_of_mem _ h1,by omega⟩
theorem rN {α β:Type} {R:α→β→Prop}:∀{l:List α} {m:List β},i_ R l m→l.length=m.length∧∀(i:Nat) (y:β),m[i]?=some y→∃x,l[i]?=some x∧R x y
 |_,_,.nil=>⟨rfl,by simp⟩
 |_,_,.cons h1 h2=>by
  obtain⟨e,h⟩:=rN h2;refine⟨by simp[e],fun i y hy=> ?_⟩;cases i with
  |zero=>simp at hy;subst hy;exact⟨_,by simp,h1⟩
  |succ i=>obtain⟨x,q1,q2⟩:=h i y (by simpa using hy);exact⟨x,by simpa using q1,q2⟩
theorem aM.drew {β:Lb→Option Nat} (hr:aM K β env H a w):aM K β env H a {w with drawn:=w.drawn+1}:=by
 have hg:jT w {w with drawn:=w.drawn+1}:=⟨rfl,rfl,rfl,Nat.le_refl _,fun _ _=>rfl⟩;have:=hr.step hg (d:=none) (x:= .un) (v:=undef) (by simp) (by simp) (by simp);simpa[db,Act.put] using this
theorem rO {β:Lb→Option Nat} (hr:aM K β env H a w) {id:Nat} {ops:Array Oper} (hm:K.P.follows .mixedOrders=true) {is:List cx} {fs:List Fp}
  (dN:i_ (fun o i=>kT K.P K.G ops o=some (cx.ie i)) ops.toList is) (ho:va is (eV ops) fs=true) {k:Env→Hp→Prop} {Q:Exit→Act→World→Prop}
  (hk:∀env' H' β' a' w',k env' H'→aM K β' env' H' a' w'→Q .normal a' w') (hA:jV ⟨K.P,K.G,K.N⟩ (items 0 is fs) env H k):(Code.region id ops true).wp K.P Q a w:=by
 obtain⟨hlen,jz⟩:=rN dN;simp only[Array.length_toList] at hlen;simp only[va,Bool.and_eq_true] at ho;obtain⟨C6,E2⟩:=ho
 have Kz:(items 0 is fs).Pairwise fun p q=>Cq (eV ops) p.1 q.1∨indep p.2 q.2=true:=by
  rcases Bool.or_eq_true_iff.1 C6 with h|h
  ·exact(jB h).imp fun Ig=>Ig.imp .one (fun h=>h)
  ·exact(jB h).imp fun Ig=>Ig.imp (mY _ _ [] rfl (by simp) _ _) (fun h=>h)
 refine wp_region_any hm (wh hk ops.size (items 0 is fs) _ env H a _ β (by rw[pD];exact hlen.symm) (lN is 0 fs) (by simp) (fun i hi=> ?_) (fun p hp=> ?_)
  Kz (fun i hi F6=> ?_) (fun p hp e he=> ?_) hA hr.drew)
 ·rw[Array.getD_eq_getD_getElem?,Array.getElem?_replicate,if_pos hi];simp only[Option.getD_some,true_iff];obtain⟨p,h1,h2⟩:=pE is 0 fs i (by omega);exact⟨p,h1,by omega⟩
 ·obtain⟨h1,h2⟩:=mC is 0 fs p hp;simp only[Nat.sub_zero] at h2;obtain⟨o,q1,q2⟩:=jz p.1 _ h2;have:=(List.getElem?_eq_some_iff.1 h2).1;exact⟨by omega,o,by simpa using q1,q2⟩
 ·rw[Array.getD_eq_getD_getElem?,Array.getElem?_replicate,if_pos hi] at F6;simp at F6
 ·simp only[xN,List.all_eq_true,decide_eq_true_eq] at E2;exact E2 p hp e he
end
end Go.Am

/- THE ABSTRACT MACHINE, part 18: code, as it is walked. -/
namespace Go.Am
open Go Go.RowKit
inductive Gh where
 |dc (ns:List Nat)
 |xQ (l:Lb) (d:Nat)
 |tF (l q:Lb) (j:Nat)
 |own (d sz:Nat)
 |cut (n:Nat)
 |nF
 |JD
inductive AC where
 |skip
 |seq (a b:AC)
 |cond (x:O) (a b:AC)
 |block (id:Nat) (c:AC)
 |loop (c:AC)
 |exit (id:Nat)
 |ret
 |au (is:List cx)
 |fY (is:List cx) (es:List (List Nat)) (fs:List Fp)
 |gh (g:Gh) (c:AC)
def AC.sz:AC→Nat
 | .seq a b=>a.sz+b.sz+2
 | .cond _ a b=>a.sz+b.sz+2
 | .block _ c=>c.sz+3
 | .loop c=>c.sz+1
 | .gh _ c=>c.sz+1
 |_=>1
inductive It where
 |code (c:AC)
 |pF (id:Nat)
def It.sz:It→Nat
 | .code c=>c.sz
 | .pF _=>1
def mZ:List It→Nat
 |[]=>0
 |i::r=>i.sz+mZ r
def dS (id:Nat):List It→Option (List It)
 |[]=>none
 | .pF i::r=>if i=id then some r else dS id r
 |_::r=>dS id r
theorem lO {id:Nat}:∀{l r:List It},dS id l=some r→mZ r≤mZ l
 |[],r,h=>by simp[dS] at h
 | .pF i::l,r,h=>by
  simp only[dS] at h;split at h
  ·cases h;simp[mZ]
  ·have:=lO h;simp only[mZ];omega
 | .code c::l,r,h=>by
  simp only[dS] at h;have:=lO h;simp only[mZ];omega
theorem AC.xR (c:AC):0<c.sz:=by cases c<;>simp[AC.sz]
def n_ (ns:List Nat) (env:Env):Env:=fun n=>if n∈ns then env n else .any
abbrev iC:=Exit→Env→Hp→Prop
end Go.Am
