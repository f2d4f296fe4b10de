import Derived.Test.YtfeijflhfhkbnaaGreatDoorKAm38
import Derived.Deep.LoopGhost
import Derived.IntWalk
set_option linter.all false
/- THE ABSTRACT MACHINE, part 17: regions whose order is drawn. -/
namespace Go.Am
open Go Go.RowKit
def U7.os:U7->List O
 | .iC x| .wj x _| .len x| .lens x| .not x| .neg x| .ext x _| .pN x _ _| .oC x| .dp x| .qK _ x| .YJ x| .zg x| .wm x| .pO _ x| .load _ x| .box x| .BJ _ x| .cap x| .si x _ _| .oD x _ _=>[x]
 | .pick c a b=>[c,a,b]
 | .Vc x i _| .lj x i| .wC x i _ _| .sy x i=>[x,i]
 | .zr x lo hi mx _=>x::(lo.toList++hi.toList++mx.toList)
 | .ZL x lo hi=>x::(lo.toList++hi.toList)
 | .bin _ x y| .eqb _ x y| .zu _ x y| .zv _ x y| .pM _ _ x y| .max x y| .min x y| .store _ x y| .app x y _ _| .oE x y _ _| .pP x y _ _ _| .qL x y _=>[x,y]
 | .sg _ ps=>ps.map (·.2.2)
 | .lits _ _ _ ps=>ps.map (·.2)
 | .gG _ _ ps=>ps.map (·.2)
 | .zh _ qs cs=>qs++cs
 | .zw _ cs=>cs
 | .new _| .qM _=>[]
 | .stuck=>[]
 | .tU n c _ _ _=>[n,c]
 | .call _ args=>args
 | .kE _ args=>args
 | .fM x args=>x::args
def aaj {p:Prop} (h:p:=by simp[U7.os]):p:=h
def O.us:O->List Nat
 | .t n=>[n]
 | .c _=>[]
def bh.us (i:bh):List Nat:=i.i.os.flatMap O.us++(match i.g with|some (s,_)=>[s]|none=>[])
def C2 {env:Env} {d:Option Nat} {y:AV} {x:O} (h:∀n,d=some n->n∉x.us):ev (cV env d y) x=ev env x:=by
 cases x with
 |c x=>rfl
 |t n=>
 cases d with
 |none=>rfl
 |some m=>
 have:=h m rfl;simp[O.us] at this;simp[ev,cV,put,Ss this]
section
variable {env env':Env}
def gp {o:Option O} (h:∀x∈o.toList,ev env x=ev env' x) (m n:Nat):lk env o m n=lk env' o m n:=by
 cases o with
 |none=>rfl
 |some x=>simp only[lk];rw[h x tM]
def vq {lo hi mx:Option O} (h:∀x∈lo.toList++hi.toList++mx.toList,ev env x=ev env' x) (n:Nat):nB env lo hi mx n=nB env' lo hi mx n:=by
 have h1:=λm n=>gp (o:=lo) (λx hx=>h x (by simp at hx ⊢;simp[hx])) m n;have h2:=λm n=>gp (o:=hi) (λx hx=>h x (by simp at hx ⊢;simp[hx])) m n;have h3:=λm n=>gp (o:=mx) (λx hx=>h x (by simp at hx ⊢;simp[hx])) m n;cases mx with
 |none=>simp only[nB,h1,h2]
 |some m=>simp only[nB,h1,h2,h3]
def vt {lo hi mx:Option O} (h:∀x∈lo.toList++hi.toList++mx.toList,ev env x=ev env' x) (n c:Nat):sH env lo hi mx n c=sH env' lo hi mx n c:=by
 have h1:=λm n=>gp (o:=lo) (λx hx=>h x (by simp at hx ⊢;simp[hx])) m n;have h2:=λm n=>gp (o:=hi) (λx hx=>h x (by simp at hx ⊢;simp[hx])) m n;have h3:=λm n=>gp (o:=mx) (λx hx=>h x (by simp at hx ⊢;simp[hx])) m n;cases mx with
 |none=>simp only[sH,h1,h2]
 |some m=>simp only[sH,h1,h2,h3]
def fh {i:U7} (h:∀x∈i.os,ev env x=ev env' x):c6 i env=c6 i env':=by
 cases i with
 |zr x lo hi mx sz=>
  simp only[c6];rw[h x aaj];have:=vq (env:=env) (env':=env') (lo:=lo) (hi:=hi) (mx:=mx) (λy hy=>h y (by simp only[U7.os,PY];exact .inr hy));have FV:=vt (env:=env) (env':=env') (lo:=lo) (hi:=hi) (mx:=mx) (λy hy=>h y (by simp only[U7.os,PY];exact .inr hy));unfold Cs;simp only[this,FV]
 |ZL x lo hi=>
  simp only[c6];rw[h x aaj];have h1:=λm n=>gp (env:=env) (env':=env') (o:=lo) (λy hy=>h y (by simp only[U7.os,PY,QL];exact .inr (.inl hy))) m n;have h2:=λm n=>gp (env:=env) (env':=env') (o:=hi) (λy hy=>h y (by simp only[U7.os,PY,QL];exact .inr (.inr hy))) m n;simp only[h1,h2]
 |sg z ps=>
  simp only[c6];have:(ps.map λp=>(p.1,p.2.1,ev env p.2.2))=ps.map λp=>(p.1,p.2.1,ev env' p.2.2):=
   SW λp hp=>by rw[h p.2.2 (by simp only[U7.os];exact V_ (f:=λp:Nat×Nat×O=>p.2.2) hp)]
  rw[this]
 |lits n sz z ps=>
  simp only[c6];have:(ps.map λp=>(p.1*sz,sz,ev env p.2))=ps.map λp=>(p.1*sz,sz,ev env' p.2):=
   SW λp hp=>by rw[h p.2 (by simp only[U7.os];exact V_ (f:=λp:Nat×O=>p.2) hp)]
  rw[this]
 |zw f cap=>
  simp only[c6];have:cap.map (ev env)=cap.map (ev env'):=SW λp hp=>h p (by simpa[U7.os] using hp);rw[this]
 |call f args=>rfl
 |fM x args=>rfl
 |kE f args=>rfl
 |pP s n sz b z=>rfl
 |gG sz z ps=>rfl
 |zh f qs cs=>
  simp only[c6];have h1:qs.map (ev env)=qs.map (ev env'):=SW λp hp=>h p (by simp only[U7.os,QL];exact .inl hp);have h2:cs.map (ev env)=cs.map (ev env'):=SW λp hp=>h p (by simp only[U7.os,QL];exact .inr hp);rw[h1,h2]
 |cap x=>rfl
 |si x sz z=>rfl
 |oD x n sz=>simp only[c6,h x aaj]
 |oE x y sz b=>simp only[c6,h x aaj,h y aaj]
 |BJ n x=>rfl
 |new cs=>rfl
 |pick c a b=>simp only[c6,h c aaj,h a aaj,h b aaj]
 |tU n c sz b z=>rfl
 |store m a x=>rfl
 |app s x sz b=>rfl
 |qL s x sz=>rfl
 |box x=>rfl
 |wm x=>simp only[c6,h x aaj]
 |wC x i n sz=>simp only[c6,h x aaj,h i aaj]
 |Vc x i sz=>simp only[c6,h x aaj,h i aaj]
 |lj x i=>simp only[c6,h x aaj,h i aaj]
 |sy x i=>simp only[c6,h x aaj,h i aaj]
 |qM es=>rfl
 |bin op x y=>simp only[c6,h x aaj,h y aaj]
 |eqb n x y=>simp only[c6,h x aaj,h y aaj]
 |zu n x y=>simp only[c6,h x aaj,h y aaj]
 |zv n x y=>simp only[c6,h x aaj,h y aaj]
 |pM n ks x y=>simp only[c6,h x aaj,h y aaj]
 |max x y=>simp only[c6,h x aaj,h y aaj]
 |min x y=>simp only[c6,h x aaj,h y aaj]
 |iC x=>simp only[c6,h x aaj]
 |wj x o=>simp only[c6,h x aaj]
 |len x=>simp only[c6,h x aaj]
 |lens x=>simp only[c6,h x aaj]
 |not x=>simp only[c6,h x aaj]
 |neg x=>simp only[c6,h x aaj]
 |ext x i=>simp only[c6,h x aaj]
 |pN x o m=>simp only[c6,h x aaj]
 |oC x=>simp only[c6,h x aaj]
 |dp x=>simp only[c6,h x aaj]
 |stuck=>rfl
 |qK k x=>simp only[c6,h x aaj]
 |YJ x=>simp only[c6,h x aaj]
 |zg x=>simp only[c6,h x aaj]
 |pO t x=>simp only[c6,h x aaj]
 |load m x=>simp only[c6,h x aaj]
def vu {S:St} {d:Option Nat} {i:U7} (h:∀x∈i.os,ev env x=ev env' x) {H:Hp} {k:AV->Hp->Prop} (ha:bg S d i env H k):bg S d i env' H k:=by
 have hs:=fh h;cases i with
 |load m x=>
  simp only[bg] at ha ⊢;rw[<-hs,<-h x aaj];exact ha
 |box x=>
  simp only[bg] at ha ⊢;rw[<-h x aaj];exact ha
 |new cs=>exact ha
 |store m x y=>
  simp only[bg] at ha ⊢;rw[<-h x aaj,<-h y aaj];exact ha
 |app x y sz b=>
  simp only[bg] at ha ⊢;rw[<-h x aaj,<-h y aaj];exact ha
 |call f args=>
  simp only[bg] at ha ⊢;have:args.map (ev env)=args.map (ev env'):=SW λp hp=>h p (by simpa[U7.os] using hp);rw[<-this];exact ha
 |BJ n x=>
  simp only[bg] at ha ⊢;rw[<-h x aaj];exact ha
 |pP x y sz b z=>
  simp only[bg] at ha ⊢;rw[<-h x aaj,<-h y aaj];exact ha
 |gG sz z ps=>
  simp only[bg] at ha ⊢;have:(ps.map λp=>(p.1,ev env p.2))=ps.map λp=>(p.1,ev env' p.2):=
   SW λp hp=>by rw[h p.2 (by simp only[U7.os];exact V_ (f:=λp:Nat×O=>p.2) hp)]
  rw[<-this];exact ha
 |cap x=>
  simp only[bg] at ha ⊢;rw[<-h x aaj];exact ha
 |si x sz z=>
  simp only[bg] at ha ⊢;rw[<-h x aaj];exact ha
 |qL x y sz=>
  simp only[bg] at ha ⊢;rw[<-h x aaj,<-h y aaj];exact ha
 |tU n c sz b z=>
  simp only[bg] at ha ⊢;rw[<-h n aaj,<-h c aaj];exact ha
 |kE f args=>
  simp only[bg] at ha ⊢;have:args.map (ev env)=args.map (ev env'):=SW λp hp=>h p (by simpa[U7.os] using hp);rw[<-this];exact ha
 |fM x args=>
  simp only[bg] at ha ⊢;have:args.map (ev env)=args.map (ev env'):=SW λp hp=>h p (by simp only[U7.os,PY];exact .inr hp);rw[<-this,<-h x aaj];exact ha
 |_=>simp only[bg] at ha ⊢;rw[<-hs];exact ha
end
inductive Fp where
 |no
 |rw (rs ws:List Lb)
 |all
 |p_ (fs:List Lb)
def eP:AV->List Lb
 | .ptr l _ _ _=>[l]
 | .sl l _ _ _=>[l]
 | .slk l _ _ _ _=>[l]
 |_=>[]
open Classical in
noncomputable def dm (d:Option Nat) (i:U7) (env:Env) (H:Hp):Option (AV×Hp):=
 match i with
 | .load m a=>(Wl m (ev env a) H).map fun x=>(x,H)
 | .box x=>d.bind fun n=>if H (.loc n)= .unused∧(ev env x).sI=true∧0<(ev env x).cells.length∧(ev env x).cells.length≤maxLen then
  some (.ptr (.loc n) (ev env x).cells.length 0 0,bD H (.loc n) (.live ⟨(ev env x).cells.length,[(ev env x).cells]⟩)) else none
 | .new cs=>d.bind fun n=>if H (.loc n)= .unused∧0<cs.length∧cs.length≤maxLen then
  some (.ptr (.loc n) cs.length 0 0,bD H (.loc n) (.live ⟨cs.length,[cs]⟩)) else none
 | .store m a x=>if d=none then(gZ m (ev env a) (ev env x) H).map fun H'=>(.un,H') else none
 | .app s x sz bytes=>d.bind fun n=>jN sz bytes n (ev env s) (ev env x) H
 | .qL s x sz=>sW sz (ev env s) (ev env x) H
 | .gG sz z ps=>d.bind fun q=>sY sz q z (ps.map fun p=>(p.1,ev env p.2)) H
 | .si x sz z=>(sX sz z (ev env x) H).map fun H'=>(.gf [],H')
 | .tU n c sz b z=>d.bind fun q=>vg sz b q z (ev env n) (ev env c) H
 |_=>none
def cx (i:U7) (env:Env):List Lb:=
 match i with
 | .load _ a=>eP (ev env a)
 | .app _ x _ _=>eP (ev env x)
 | .qL _ x _=>eP (ev env x)
 |_=>[]
def aA (d:Option Nat) (i:U7) (env:Env):List Lb:=
 match i with
 | .box _| .new _| .gG _ _ _| .tU _ _ _ _ _=>d.toList.map .loc
 | .store _ a _=>eP (ev env a)
 | .app s _ _ _=>match ev env s with
  | .sl l _ _ _=>l::d.toList.map l.app
  | .slk l _ _ _ _=>l::d.toList.map .loc
  |_=>d.toList.map .loc
 | .qL s _ _=>eP (ev env s)
 | .si x _ _=>eP (ev env x)
 |_=>[]
def abx {p:Prop} (h:p:=by simp[aA]):p:=h
def vv {m:Option Nat} {x:AV} {H H1:Hp} {y:AV} (h:Wl m x H=some y) (ha:∀l∈eP x,H1 l=H l):Wl m x H1=some y:=by
 cases x with
 |ptr l sz i j=>simp only[Wl,ha l (by simp[eP])] at h ⊢;exact h
 |_=>simp[Wl] at h
def re {sz:Nat} {x:AV} {H H1:Hp} (ha:∀l∈eP x,H1 l=H l):al_ sz x H1=al_ sz x H:=by
 cases x with
 |sl l s i n=>simp only[al_,ha l (by simp[eP])]
 |slk l s i n c=>simp only[al_,ha l (by simp[eP])]
 |_=>rfl
def rf {x:AV} {p:Lb×Nat×Nat×Nat} (h:EU x=some p):eP x=[p.1]:=by
 cases x<;>simp[EU] at h
 all_goals (subst h;rfl)
def j5 {d:Option Nat} {i:U7} {env:Env} {H H' H1:Hp} {x:AV} (h:dm d i env H=some (x,H')) (ha:∀l,l∈cx i env\/l∈aA d i env->H1 l=H l) :
  ∃Hu,dm d i env H1=some (x,Hu)/\(∀l∈aA d i env,Hu l=H' l)/\∀l,l∉aA d i env->Hu l=H1 l:=by
 cases i with
 |load m a=>
  simp only[dm,jF,eS] at h ⊢;obtain⟨y,h1,rfl,rfl⟩:=h;exact⟨H1,⟨y,vv h1 (λl hl=>ha l (.inl hl)),rfl,rfl⟩,abx,λ_ _=>rfl⟩
 |box y=>
  simp only[dm] at h ⊢;obtain⟨n,rfl,h0⟩:=ba h
  replace h:=h0
  clear h0;split at h
  ·rename_i hc;simp only[di,eS] at h;obtain⟨rfl,rfl⟩:=h;have e:=ha (.loc n) (.inr abx);refine⟨_,by simp only[EF];rw[P8 (by rw[e];exact hc)],λl hl=> ?_,λl hl=> ?_⟩
   ·simp[aA] at hl;subst hl;simp
   simp[aA] at hl;rw[aq _ _ hl]
  simp at h
 |new cs=>
  simp only[dm] at h ⊢;obtain⟨n,rfl,h0⟩:=ba h
  replace h:=h0
  clear h0;split at h
  ·rename_i hc;simp only[di,eS] at h;obtain⟨rfl,rfl⟩:=h;have e:=ha (.loc n) (.inr abx);refine⟨_,by simp only[EF];rw[P8 (by rw[e];exact hc)],λl hl=> ?_,λl hl=> ?_⟩
   ·simp[aA] at hl;subst hl;simp
   simp[aA] at hl;rw[aq _ _ hl]
  simp at h
 |store m a y=>
  simp only[dm] at h ⊢;split at h
  ·rename_i hd;rw[P8 hd];simp only[jF,eS] at h ⊢;obtain⟨H2,h1,rfl,rfl⟩:=h;unfold gZ at h1 ⊢;split at h1
   ·rename_i l sz i j e;have e2:=ha l (.inr (by simp[aA,e,eP]));simp only[e,e2];split at h1
    ·rename_i r hr
     try simp only[hr]
     split at h1
     ·rename_i hc;rw[P8 hc];obtain⟨cs,hi,h1⟩:=yV.1 h1;split at h1
      ·rename_i hj;simp only[di] at h1;subst h1;refine⟨_,⟨_,by rw[hi,EF,P8 hj],trivial,rfl⟩,λq hq=> ?_,λq hq=> ?_⟩
       ·simp[aA,e,eP] at hq;subst hq;simp
       simp[aA,e,eP] at hq;rw[aq _ _ hq]
      simp at h1
     simp at h1
    simp at h1
   simp at h1
  simp at h
 |app s y sz bytes=>
  simp only[dm] at h ⊢;obtain⟨n,rfl,h0⟩:=ba h
  replace h:=h0
  clear h0;simp only[EF];unfold jN at h ⊢;obtain⟨news,h1,h0⟩:=ba h
  replace h:=h0
  clear h0;rw[re (λl hl=>ha l (.inl hl))];simp only[h1,EF];split at h
  ·simp at h
  rename_i fw;rw[Ev fw];split at h
  ·rename_i e
   try simp only[e]
   split at h
   ·rename_i hc;simp only[di,eS] at h;obtain⟨rfl,rfl⟩:=h;have e2:=ha (.loc n) (.inr (by simp[aA,e]));refine⟨_,by rw[P8 (by rw[e2];exact hc)],λl hl=> ?_,λl hl=> ?_⟩
    ·simp[aA,e] at hl;subst hl;simp
    simp[aA,e] at hl;rw[aq _ _ hl]
   simp at h
  ·rename_i l s' i0 m e;have e1:=ha l (.inr (by simp[aA,e]));have e2:=ha (l.app n) (.inr (by simp[aA,e]));simp only[e1];split at h
   ·rename_i r hr
    try simp only[hr]
    split at h
    ·rename_i hc;simp only[di,eS] at h;obtain⟨rfl,rfl⟩:=h;refine⟨_,by rw[P8 (by rw[e2];exact hc)],λq hq=> ?_,λq hq=> ?_⟩
     ·simp[aA,e] at hq;unfold bD;by_cases q1:q=l.app n
      ·simp[q1]
      rcases hq with hq|hq
      ·simp[hq]
      exact absurd hq q1
     simp[aA,e] at hq;rw[aq _ _ hq.2,aq _ _ hq.1]
    simp at h
   simp at h
  ·rename_i l s' i0 m c e;have e1:=ha l (.inr (by simp[aA,e]));have e2:=ha (.loc n) (.inr (by simp[aA,e]));simp only[e1];split at h
   ·rename_i r hr
    try simp only[hr]
    split at h
    ·rename_i hc;rw[P8 hc];split at h
     ·rename_i hf;rw[P8 hf];split at h
      ·rename_i FW;rw[P8 FW];simp only[di,eS] at h;obtain⟨rfl,rfl⟩:=h;refine⟨_,rfl,λq hq=> ?_,λq hq=> ?_⟩
       ·simp[aA,e] at hq;by_cases q1:q=l
        ·subst q1;simp
        rw[aq _ _ q1,aq _ _ q1];rcases hq with hq|hq
        ·exact absurd hq q1
        subst hq;exact e2
       simp[aA,e] at hq;rw[aq _ _ hq.1]
      simp at h
     rename_i hf;rw[Ev hf];split at h
     ·rename_i FW;rw[e2,P8 FW];simp only[di,eS] at h;obtain⟨rfl,rfl⟩:=h;refine⟨_,rfl,λq hq=> ?_,λq hq=> ?_⟩
      ·simp[aA,e] at hq;by_cases q1:q= .loc n
       ·subst q1;simp
       rw[aq _ _ q1,aq _ _ q1];rcases hq with hq|hq
       ·subst hq;exact e1
       exact absurd hq q1
      simp[aA,e] at hq;rw[aq _ _ hq.2]
     simp at h
    simp at h
   simp at h
  simp at h
 |gG sz z ps=>
  simp only[dm] at h ⊢;obtain⟨n,rfl,h0⟩:=ba h
  replace h:=h0
  clear h0;simp only[EF];unfold sY at h ⊢;obtain⟨cs,h1,h0⟩:=ba h
  replace h:=h0
  clear h0;rw[h1,EF];split at h
  ·rename_i hc;simp only[di,eS] at h;obtain⟨rfl,rfl⟩:=h;have e:=ha (.loc n) (.inr abx);refine⟨_,by rw[P8 (by rw[e];exact hc)],λl hl=> ?_,λl hl=> ?_⟩
   ·simp[aA] at hl;subst hl;simp
   simp[aA] at hl;rw[aq _ _ hl]
  simp at h
 |tU x y sz b z=>
  simp only[dm] at h ⊢;obtain⟨n,rfl,h0⟩:=ba h
  replace h:=h0
  clear h0;simp only[EF];unfold vg at h ⊢;split at h
  ·split at h
   ·rename_i hc;simp only[di,eS] at h;obtain⟨rfl,rfl⟩:=h;have e:=ha (.loc n) (.inr abx);refine⟨_,by rw[P8 (by rw[e];exact hc)],λl hl=> ?_,λl hl=> ?_⟩
    ·simp[aA] at hl;subst hl;simp
    simp[aA] at hl;rw[aq _ _ hl]
   simp at h
  simp at h
 |qL s y sz=>
  simp only[dm] at h ⊢;unfold sW at h ⊢;obtain⟨news,h1,h0⟩:=ba h
  replace h:=h0
  clear h0;rw[re (λl hl=>ha l (.inl hl))];simp only[h1,EF];obtain⟨p,hp,h0⟩:=ba h
  replace h:=h0
  clear h0;simp only[hp,EF];split at h
  ·simp at h
  rename_i fw;rw[Ev fw];have hw:aA d (.qL s y sz) env=[p.1]:=by simp only[aA];exact rf hp
  have e1:=ha p.1 (.inr (by rw[hw];simp));simp only[e1];split at h
  ·rename_i r hr
   try simp only[hr]
   split at h
   ·rename_i hc;rw[P8 hc];simp only[di,eS] at h;obtain⟨rfl,rfl⟩:=h;refine⟨_,rfl,λq hq=> ?_,λq hq=> ?_⟩
    ·rw[hw] at hq;simp at hq;subst hq;simp
    rw[hw] at hq;simp at hq;rw[aq _ _ hq]
   simp at h
  simp at h
 |si y sz z=>
  simp only[dm,jF,eS] at h ⊢;obtain⟨H2,h,rfl,rfl⟩:=h;unfold sX at h ⊢;split at h
  ·simp at h
  rename_i fw;obtain⟨p,hp,h0⟩:=ba h
  replace h:=h0
  clear h0;have hw:aA d (.si y sz z) env=[p.1]:=by simp only[aA];exact rf hp
  have e1:=ha p.1 (.inr (by rw[hw];simp));split at h
  ·rename_i r hr;split at h
   ·rename_i hc;simp only[di] at h;subst h;refine⟨_,⟨_,by rw[Ev fw,hp];simp only[EF,e1,hr];rw[P8 hc],rfl,rfl⟩,λq hq=> ?_,λq hq=> ?_⟩
    ·rw[hw] at hq;simp at hq;subst hq;simp
    rw[hw] at hq;simp at hq;rw[aq _ _ hq]
   simp at h
  simp at h
 |_=>simp[dm] at h
def fW {d:Option Nat} {i:U7} {env:Env} {H H':Hp} {x:AV} (h:dm d i env H=some (x,H')):∀l,l∉aA d i env->H' l=H l:=by
 obtain⟨Hu,h1,_,h3⟩:=j5 h (H1:=H) (λ_ _=>rfl);rw[h] at h1;simp only[di,eS] at h1;obtain⟨_,rfl⟩:=h1;exact h3
def gO {d:Option Nat} {i:U7} {env env':Env} (h:∀x∈i.os,ev env x=ev env' x) (H:Hp):dm d i env H=dm d i env' H/\cx i env=cx i env'/\aA d i env=aA d i env':=by
 cases i with
 |load m x=>simp only[dm,cx,aA];rw[h x aaj];simp
 |box x=>simp only[dm,cx,aA];rw[h x aaj];simp
 |store m x y=>simp only[dm,cx,aA];rw[h x aaj,h y aaj];simp
 |app x y sz b=>simp only[dm,cx,aA];rw[h x aaj,h y aaj];simp
 |qL x y sz=>simp only[dm,cx,aA];rw[h x aaj,h y aaj];simp
 |gG sz z ps=>
  simp only[dm,cx,aA];have:(ps.map λp=>(p.1,ev env p.2))=ps.map λp=>(p.1,ev env' p.2):=
   SW λp hp=>by rw[h p.2 (by simp only[U7.os];exact V_ (f:=λp:Nat×O=>p.2) hp)]
  rw[this];simp
 |si x sz z=>simp only[dm,cx,aA];rw[h x aaj];simp
 |tU n c sz b z=>simp only[dm,cx,aA];rw[h n aaj,h c aaj];simp
 |_=>simp[dm,cx,aA]
end Go.Am

namespace Go.Am
open Go Go.RowKit
def Quiet (S:St) (i:U7) (env:Env) (res:AV):Prop:=
 match i with
 | .call f args=>au S.P S.G f (args.map (ev env)) res
 | .fM x args=>∃f first cap,ev env x= .fn f first cap/\fU S.P f=true/\au S.P S.G f (first++args.map (ev env)++cap) res
 |_=>False
def FX (S:St) (F:List Lb) (f:Nat) (args:List AV) (H:Hp) (k:AV->Hp->Prop):Prop:=
 ∃Q:AV->Hp->Prop,jJ S f args H Q/\(∃x H',Q x H')/\∀x H',Q x H'->(∀l:Lb,l.iQ∈F->H' l=H l)/\k x H'
def akH (S:St) (fp:Fp) (d:Option Nat) (i:U7) (env:Env) (H:Hp) (k:AV->Hp->Prop):Prop:=
 match fp with
 | .no=>∃x,(c6 i env=some x\/Quiet S i env x)/\k x H
 | .rw R W=>∃x H',dm d i env H=some (x,H')/\(∀l∈cx i env,l.iQ∈R\/l.iQ∈W)/\(∀l∈aA d i env,l.iQ∈W)/\k x H'
 | .all=>bg S d i env H k
 | .p_ F=>match i with
  | .call f args=>FX S F f (args.map (ev env)) H k
  |_=>False
def jJ.mono {S:St} {f:Nat} {args:List AV} {H:Hp} {k k':AV->Hp->Prop} (hk:∀x H,k x H->k' x H) (h:jJ S f args H k):jJ S f args H k':=by
 rcases h with⟨res,h1,h2⟩|⟨U6,res,h1,h2,h3,h4⟩|⟨ρ,iu,U6,Q,h1,h2,h3,h4,h5,h6,h7,h8,h9⟩
 ·exact .inl ⟨res,h1,hk _ _ h2⟩
 ·exact .inr (.inl ⟨U6,res,h1,h2,h3,hk _ _ h4⟩)
 refine .inr<| .inr ⟨ρ,iu,U6,Q,h1,h2,h3,h4,h5,h6,h7,h8,λx H' hq=> ?_⟩;obtain⟨ρ',kK,q1,q2,q3,q4,q5,q6,q7,q8,q9⟩:=h9 x H' hq;exact⟨ρ',kK,q1,q2,q3,q4,q5,q6,q7,q8,hk _ _ q9⟩
def bg.mono {S:St} {d:Option Nat} {i:U7} {env:Env} {H:Hp} {k k':AV->Hp->Prop} (hk:∀x H,k x H->k' x H) (h:bg S d i env H k):bg S d i env H k':=by
 cases i with
 |load m a=>
  simp only[bg] at h ⊢;rcases h with⟨x,h1,h2⟩|⟨x,h1,h2⟩
  ·exact .inl ⟨x,h1,hk _ _ h2⟩
  exact .inr ⟨x,h1,hk _ _ h2⟩
 |box x=>
  simp only[bg] at h ⊢;obtain⟨n,h1,h2,h3,h4,h5,h6⟩:=h;exact⟨n,h1,h2,h3,h4,h5,hk _ _ h6⟩
 |new cs=>
  simp only[bg] at h ⊢;obtain⟨n,h1,h2,h3,h4,h5⟩:=h;exact⟨n,h1,h2,h3,h4,hk _ _ h5⟩
 |store m a x=>
  simp only[bg] at h ⊢;obtain⟨h1,H',h2,h3⟩:=h;exact⟨h1,H',h2,hk _ _ h3⟩
 |app s x sz b=>
  simp only[bg] at h ⊢;obtain⟨n,h1,y,H',h2,h3⟩:=h;exact⟨n,h1,y,H',h2,hk _ _ h3⟩
 |call f args=>exact jJ.mono hk h
 |BJ n x=>
  simp only[bg] at h ⊢;obtain⟨bs,h1,h2⟩:=h;exact⟨bs,h1,λb hb=>hk _ _ (h2 b hb)⟩
 |pP s n sz b z=>
  simp only[bg] at h ⊢;obtain⟨q,h1,y,H',h2,h3⟩:=h;exact⟨q,h1,y,H',h2,hk _ _ h3⟩
 |gG sz z ps=>
  simp only[bg] at h ⊢;obtain⟨q,h1,y,H',h2,h3⟩:=h;exact⟨q,h1,y,H',h2,hk _ _ h3⟩
 |cap x=>
  simp only[bg] at h ⊢;obtain⟨R,h1,h2⟩:=h;exact⟨R,h1,λm hm K3=>hk _ _ (h2 m hm K3)⟩
 |qL s x sz=>
  simp only[bg] at h ⊢;obtain⟨y,H',h1,h2⟩:=h;exact⟨y,H',h1,hk _ _ h2⟩
 |si x sz z=>
  simp only[bg] at h ⊢;obtain⟨H',h1,h2⟩:=h;exact⟨H',h1,hk _ _ h2⟩
 |tU n c sz b z=>
  simp only[bg] at h ⊢;obtain⟨q,h1,y,H',h2,h3⟩:=h;exact⟨q,h1,y,H',h2,hk _ _ h3⟩
 |kE f args=>
  simp only[bg] at h ⊢;obtain⟨res,h1,h2⟩:=h;exact⟨res,h1,hk _ _ h2⟩
 |fM x args=>
  simp only[bg] at h ⊢;obtain⟨f,first,cap,h1,h2,h3⟩:=h
  exact⟨f,first,cap,h1,h2,jJ.mono hk h3⟩
 |_=>
 simp only[bg] at h ⊢;obtain⟨x,h1,h2⟩:=h;exact⟨x,h1,hk _ _ h2⟩
def akH.mono {S:St} {fp:Fp} {d:Option Nat} {i:U7} {env:Env} {H:Hp} {k k':AV->Hp->Prop} (hk:∀x H,k x H->k' x H) (h:akH S fp d i env H k):akH S fp d i env H k':=by
 cases fp with
 |no=>obtain⟨x,h1,h2⟩:=h;exact⟨x,h1,hk _ _ h2⟩
 |rw R W=>obtain⟨x,H',h1,h2,h3,h4⟩:=h;exact⟨x,H',h1,h2,h3,hk _ _ h4⟩
 |all=>exact bg.mono hk h
 |p_ F=>
 cases i<;>simp only[akH] at h ⊢;obtain⟨Q,h1,h2,h3⟩:=h;exact⟨Q,h1,h2,λx H' hq=>⟨(h3 x H' hq).1,hk _ _ (h3 x H' hq).2⟩⟩
def akH.act {S:St} {fp:Fp} {d:Option Nat} {i:U7} {env:Env} {H:Hp} {k:AV->Hp->Prop} (h:akH S fp d i env H k):bg S d i env H k:=by
 cases fp with
 |all=>exact h
 |p_ F=>
  cases i<;>simp only[akH] at h;obtain⟨Q,h1,h2,h3⟩:=h;exact jJ.mono (λx H' hq=>(h3 x H' hq).2) h1
 |no=>
  obtain⟨x,h1,h2⟩:=h;cases i with
  |load m a=>
   rcases h1 with h1|h1
   ·exact .inl ⟨x,h1,h2⟩
   exact absurd h1 (by simp[Quiet])
  |call f args=>
   rcases h1 with h1|h1
   ·simp[c6] at h1
   exact .inl ⟨x,h1,h2⟩
  |fM y args=>
   rcases h1 with h1|⟨f,first,cap,e1,e2,e3⟩
   ·simp[c6] at h1
   exact⟨f,first,cap,e1,e2,.inl ⟨x,e3,h2⟩⟩
  |box _=>rcases h1 with h1|h1<;>simp[c6,Quiet] at h1
  |BJ _ _=>rcases h1 with h1|h1<;>simp[c6,Quiet] at h1
  |new _=>rcases h1 with h1|h1<;>simp[c6,Quiet] at h1
  |store _ _ _=>rcases h1 with h1|h1<;>simp[c6,Quiet] at h1
  |app _ _ _ _=>rcases h1 with h1|h1<;>simp[c6,Quiet] at h1
  |cap _=>rcases h1 with h1|h1<;>simp[c6,Quiet] at h1
  |pP _ _ _ _ _=>rcases h1 with h1|h1<;>simp[c6,Quiet] at h1
  |gG _ _ _=>rcases h1 with h1|h1<;>simp[c6,Quiet] at h1
  |qL _ _ _=>rcases h1 with h1|h1<;>simp[c6,Quiet] at h1
  |si _ _ _=>rcases h1 with h1|h1<;>simp[c6,Quiet] at h1
  |tU _ _ _ _ _=>rcases h1 with h1|h1<;>simp[c6,Quiet] at h1
  |kE _ _=>rcases h1 with h1|h1<;>simp[c6,Quiet] at h1
  |_=>
  rcases h1 with h1|h1
  ·exact⟨x,h1,h2⟩
  exact absurd h1 (by simp[Quiet])
 |rw R W=>
 obtain⟨x,H',h1,_,_,h2⟩:=h;cases i with
 |load m a=>
  simp only[dm,jF,eS] at h1;obtain⟨y,h1,rfl,rfl⟩:=h1;exact .inr ⟨y,h1,h2⟩
 |box y=>
  simp only[dm] at h1;obtain⟨n,rfl,h0⟩:=ba h1;split at h0
  ·rename_i hc;simp only[di,eS] at h0;obtain⟨rfl,rfl⟩:=h0;exact⟨n,rfl,hc.1,hc.2.1,hc.2.2.1,hc.2.2.2,h2⟩
  simp at h0
 |new cs=>
  simp only[dm] at h1;obtain⟨n,rfl,h0⟩:=ba h1;split at h0
  ·rename_i hc;simp only[di,eS] at h0;obtain⟨rfl,rfl⟩:=h0;exact⟨n,rfl,hc.1,hc.2.1,hc.2.2,h2⟩
  simp at h0
 |store m a y=>
  simp only[dm] at h1;split at h1
  ·rename_i hd;simp only[jF,eS] at h1;obtain⟨H2,h1,rfl,rfl⟩:=h1;exact⟨hd,H2,h1,h2⟩
  simp at h1
 |app s y sz bytes=>
  simp only[dm] at h1;obtain⟨n,rfl,h0⟩:=ba h1;exact⟨n,rfl,x,H',h0,h2⟩
 |gG sz z ps=>
  simp only[dm] at h1;obtain⟨q,rfl,h0⟩:=ba h1;exact⟨q,rfl,x,H',h0,h2⟩
 |qL s y sz=>
  simp only[dm] at h1;exact⟨x,H',h1,h2⟩
 |tU n c sz b z=>
  simp only[dm] at h1;obtain⟨q,rfl,h0⟩:=ba h1;exact⟨q,rfl,x,H',h0,h2⟩
 |si y sz z=>
  simp only[dm,jF,eS] at h1;obtain⟨H2,h1,rfl,rfl⟩:=h1;exact⟨H2,h1,h2⟩
 |_=>simp[dm] at h1
def kY {S:St} {i:U7} {env env':Env} (h:∀x∈i.os,ev env x=ev env' x) {x:AV} (hq:Quiet S i env x):Quiet S i env' x:=by
 cases i with
 |call f args=>
  simp only[Quiet] at hq ⊢;have:args.map (ev env)=args.map (ev env'):=SW λp hp=>h p (by simpa[U7.os] using hp);rw[<-this];exact hq
 |fM y args=>
  simp only[Quiet] at hq ⊢;have:args.map (ev env)=args.map (ev env'):=SW λp hp=>h p (by simp only[U7.os,PY];exact .inr hp);rw[<-this,<-h y aaj];exact hq
 |_=>exact hq
def kZ {S:St} {fp:Fp} {d:Option Nat} {i:U7} {env env':Env} (h:∀x∈i.os,ev env x=ev env' x) {H:Hp} {k:AV->Hp->Prop} (ha:akH S fp d i env H k):akH S fp d i env' H k:=by
 cases fp with
 |no=>
  obtain⟨x,h1,h2⟩:=ha;refine⟨x,?_,h2⟩;rcases h1 with h1|h1
  ·exact .inl (by rw[<-fh h];exact h1)
  exact .inr (kY h h1)
 |rw R W=>
  obtain⟨x,H',h1,h2,h3,h4⟩:=ha;obtain⟨e1,e2,e3⟩:=gO (d:=d) h H;exact⟨x,H',by rw[<-e1];exact h1,by rw[<-e2];exact h2,by rw[<-e3];exact h3,h4⟩
 |all=>exact vu h ha
 |p_ F=>
 cases i with
 |call f args=>
  simp only[akH] at ha ⊢;have:args.map (ev env)=args.map (ev env'):=SW λp hp=>h p (by simpa[U7.os] using hp);rw[<-this];exact ha
 |_=>simp only[akH] at ha
def akH.IA {S:St} {F:List Lb} {d:Option Nat} {i:U7} {env:Env} {H:Hp} {k:AV->Hp->Prop} (h:akH S (.p_ F) d i env H k):akH S (.p_ F) d i env H λx H'=>(∀l:Lb,l.iQ∈F->H' l=H l)/\k x H':=by
 cases i<;>simp only[akH] at h ⊢;obtain⟨Q,h1,h2,h3⟩:=h;exact⟨Q,h1,h2,λx H' hq=>⟨(h3 x H' hq).1,h3 x H' hq⟩⟩
def qF (S:St) (p:bh×Fp) (env:Env) (H:Hp) (k:Env->Hp->Prop):Prop:=
 (gW p.1.g env=some true/\(∀n,p.1.d=some n->n<S.N)/\akH S p.2 p.1.d p.1.i env H λx H'=>k (cV env p.1.d x) H') \/
  (gW p.1.g env=some false/\(∀n,p.1.d=some n->n<S.N)/\k (cV env p.1.d .un) H)
def jO (S:St):List (Nat×bh×Fp)->Env->Hp->(Env->Hp->Prop)->Prop
 |[],env,H,k=>k env H
 |p::r,env,H,k=>qF S p.2 env H λe h=>jO S r e h k
def kh (d:Option Nat) (us:List Nat):Bool:=match d with|some n=> !us.contains n|none=>true
def o3 (p q:bh):Bool:=kh p.d q.us&&kh q.d p.us&&(p.d.isNone||p.d !=q.d)
def Fp.B6:Fp->Bool
 | .p_ _=>true
 |_=>false
def iw:Fp->Fp->Bool
 | .no,_=>true
 | .rw _ _,.no=>true
 | .rw R W,.rw R' W'=>W.all (λl=> !R'.contains l&& !W'.contains l)&&R.all (λl=> !W'.contains l)
 | .rw R W,.p_ F=>W.isEmpty&&R.all (λl=>F.contains l)
 | .p_ _,.no=>true
 | .p_ F,.rw R W=>W.isEmpty&&R.all (λl=>F.contains l)
 |_,_=>false
def U7.s5:U7->Bool
 | .call _ _| .fM _ _=>true
 |_=>false
def indep (p q:bh×Fp):Bool:=o3 p.1 q.1&&(iw p.2 q.2&& !(p.2.B6&&q.1.i.s5))
section
variable {S:St} {env:Env} {H:Hp}
def qF.mono {p:bh×Fp} {k k':Env->Hp->Prop} (hk:∀e h,k e h->k' e h) (h:qF S p env H k):qF S p env H k':=by
 rcases h with⟨h1,h2,h3⟩|⟨h1,h2,h3⟩
 ·exact .inl ⟨h1,h2,h3.mono λ_ _=>hk _ _⟩
 exact .inr ⟨h1,h2,hk _ _ h3⟩
theorem jO.mono {k k':Env->Hp->Prop} (hk:∀e h,k e h->k' e h):∀(l:List (Nat×bh×Fp)) (env:Env) (H:Hp),jO S l env H k->jO S l env H k'
 |[],env,H,h=>hk _ _ h
 |p::r,env,H,h=>qF.mono (λe h'=>jO.mono hk r e h') h
def eJ {d d':Option Nat} (h:d=none\/d≠d') (x y:AV):cV (cV env d x) d' y=cV (cV env d' y) d x:=by
 cases d with
 |none=>rfl
 |some n=>
 cases d' with
 |none=>rfl
 |some m=>
 have:n≠m:=by rcases h with h|h;simp at h;simpa using h
 funext q;simp only[cV,put];by_cases e1:q=n
 ·by_cases e2:q=m
  ·exact absurd (e1.symm.trans e2) this
  simp[e1,this]
 by_cases e2:q=m
 ·simp[e2,Ss this]
 simp[e1,e2]
def C3 {g:Option (Nat×Bool)} {d:Option Nat} {x:AV} (h:∀n,d=some n->n∉(match g with|some (s,_)=>[s]|none=>([]:List Nat))):gW g (cV env d x)=gW g env:=by
 cases g with
 |none=>rfl
 |some p=>
 obtain⟨s,t⟩:=p;cases d with
 |none=>rfl
 |some m=>
 have:=h m rfl;simp at this;simp[gW,cV,put,Ss this]
def qa {d:Option Nat} {us:List Nat} (h:kh d us=true):∀n,d=some n->n∉us:=by
 rintro n rfl;simpa[kh] using h
def ez {q:bh} {d:Option Nat} (h:kh d q.us=true) (x:AV) (env:Env):gW q.g (cV env d x)=gW q.g env/\∀o∈q.i.os,ev (cV env d x) o=ev env o:=by
 have h':=qa h;refine⟨C3 λn hn hm=>h' n hn (by simp only[bh.us,QL];exact .inr hm),λo ho=>C2 λn hn hm=>h' n hn ?_⟩;simp only[bh.us,QL,ZZ];exact .inl ⟨o,ho,hm⟩
def qF.shift {q:bh×Fp} {d:Option Nat} (h:kh d q.1.us=true) (hd:d=none\/d≠q.1.d) {x:AV} {k:Env->Hp->Prop} (hs:qF S q (cV env d x) H k) :
  qF S q env H λe h=>k (cV e d x) h/\∃y,e=cV env q.1.d y:=by
 obtain⟨e1,e2⟩:=ez h x env;rcases hs with⟨h1,h2,h3⟩|⟨h1,h2,h3⟩
 ·exact .inl ⟨by rw[<-e1];exact h1,h2,(kZ e2 h3).mono λy H' hk=>⟨by rw[<-eJ hd];exact hk,y,rfl⟩⟩
 exact .inr ⟨by rw[<-e1];exact h1,h2,by rw[<-eJ hd];exact h3,_,rfl⟩
def qF.swap {p q:bh×Fp} (hi:indep p q=true) {k:Env->Hp->Prop} (h:qF S p env H λe h=>qF S q e h k):qF S q env H λe h=>qF S p e h k:=by
 simp only[indep,o3,QH,Tu,Option.isNone_iff_eq_none,sd] at hi;obtain⟨⟨⟨r1,r2⟩,r3⟩,hf,IB⟩:=hi;obtain⟨lp,fp⟩:=p;obtain⟨lq,fq⟩:=q;simp only at r1 r2 r3 hf;have Me:lq.d=none\/lq.d≠lp.d:=by
  rcases r3 with r3|r3
  ·by_cases e:lq.d=none
   ·exact .inl e
   exact .inr (by rw[r3];exact e)
  exact .inr (Ss r3)
 rcases h with⟨h1,h2,h3⟩|⟨h1,h2,h3⟩
 ·cases fp with
  |no=>
   obtain⟨x,h4,h5⟩:=h3;refine(h5.shift r1 r3).mono ?_;rintro e h' ⟨hk,y,rfl⟩;obtain⟨e1,e2⟩:=ez r2 y env;refine .inl ⟨by simp only;rw[e1];exact h1,h2,x,?_,hk⟩;rcases h4 with h4|h4
   ·exact .inl (by simp only;rw[fh e2];exact h4)
   exact .inr (kY (λo ho=>(e2 o ho).symm) h4)
  |rw R W=>
   obtain⟨x,H',m1,m2,m3,m4⟩:=h3;have vw:∀y,dm lp.d lp.i (cV env lq.d y) H=some (x,H')/\cx lp.i (cV env lq.d y)=cx lp.i env/\aA lp.d lp.i (cV env lq.d y)=aA lp.d lp.i env:=λy=>by
    obtain⟨c1,c2,c3⟩:=gO (d:=lp.d) (ez r2 y env).2 H;exact⟨by rw[c1];exact m1,c2,c3⟩
   obtain⟨f1,f2⟩:=ez r1 x env;have g2:∀y,gW lp.g (cV env lq.d y)=some true:=λy=>(by rw[(ez r2 y env).1];exact h1);rcases m4 with⟨k1,k2,k3⟩|⟨k1,k2,k3⟩
   ·cases fq with
    |no=>
     obtain⟨y,k4,k5⟩:=k3;refine .inl ⟨by simp only;rw[<-f1];exact k1,k2,y,?_,?_⟩
     ·rcases k4 with k4|k4
      ·exact .inl (by simp only;rw[<-fh f2];exact k4)
      exact .inr (kY f2 k4)
     exact .inl ⟨g2 y,h2,x,H',(vw y).1,by simp only;rw[(vw y).2.1];exact m2,by simp only;rw[(vw y).2.2];exact m3,by simp only;rw[<-eJ r3];exact k5⟩
    |rw R' W'=>
     obtain⟨y,kK,k4,k5,k6,k7⟩:=k3;obtain⟨c1,c2,c3⟩:=gO (d:=lq.d) f2 H';simp only at k4 k5 k6 k7;rw[c1] at k4;rw[c2] at k5;rw[c3] at k6;simp only[iw,QH,Rh,Ve,Wn,Tt] at hf;obtain⟨B7,FW⟩:=hf;have pW:∀l,l∈aA lp.d lp.i env->l.iQ∉R'/\l.iQ∉W':=λl hl=>B7 l.iQ (m3 l hl);have C4:∀l,l∈cx lq.i env\/l∈aA lq.d lq.i env->H l=H' l:=by
      intro l hl;refine(fW m1 l λhw=> ?_).symm;rcases hl with hl|hl
      ·rcases k5 l hl with e|e
       ·exact(pW l hw).1 e
       exact(pW l hw).2 e
      exact(pW l hw).2 (k6 l hl)
     obtain⟨H2,a1,a2,a3⟩:=j5 k4 C4;have qb:∀l,l∈cx lp.i env\/l∈aA lp.d lp.i env->H2 l=H l:=by
      intro l hl;refine a3 l λhw=> ?_;rcases hl with hl|hl
      ·rcases m2 l hl with e|e
       ·exact FW l.iQ e (k6 l hw)
       exact(B7 l.iQ e).2 (k6 l hw)
      exact(pW l hl).2 (k6 l hw)
     obtain⟨H3,b1,b2,b3⟩:=j5 m1 qb;have hH:H3=kK:=by
      funext l;by_cases hw:l∈aA lp.d lp.i env
      ·rw[b2 l hw];exact(fW k4 l λhq=>(pW l hw).2 (k6 l hq)).symm
      rw[b3 l hw];by_cases hq:l∈aA lq.d lq.i env
      ·exact a2 l hq
      rw[a3 l hq,fW k4 l hq,fW m1 l hw]
     subst hH;refine .inl ⟨by simp only;rw[<-f1];exact k1,k2,y,H2,a1,k5,k6,?_⟩;obtain⟨d1,d2,d3⟩:=gO (d:=lp.d) (ez r2 y env).2 H2;exact .inl ⟨g2 y,h2,x,H3,by simp only;rw[d1];exact b1,by simp only;rw[d2];exact m2,by simp only;rw[d3];exact m3,by simp only;rw[<-eJ r3];exact k7⟩
    |all=>simp[iw] at hf
    |p_ F=>
     simp only[iw,QH,Z0,Rh,Wn,dj] at hf;obtain⟨rfl,hf⟩:=hf;have zO:∀l,l∉aA lp.d lp.i env:=λl hl=>(by simpa using m3 l hl);have hH:H'=H:=funext λl=>fW m1 l (zO l);subst hH;refine .inl ⟨by simp only;rw[<-f1];exact k1,k2,?_⟩;refine akH.mono (fp:= .p_ F) (k:=λy H2=>(∀l:Lb,l.iQ∈F->H2 l=H' l)/\k (cV (cV env lp.d x) lq.d y) H2) ?_ (kZ f2 (akH.IA k3));rintro y H2 ⟨g1,g3⟩;have qb:∀l,l∈cx lp.i env\/l∈aA lp.d lp.i env->H2 l=H' l:=by
      intro l hl;rcases hl with hl|hl
      ·rcases m2 l hl with e|e
       ·exact g1 l (hf _ e)
       simp at e
      exact absurd hl (zO l)
     obtain⟨H3,b1,b2,b3⟩:=j5 m1 qb;have hH:H3=H2:=funext λl=>b3 l (zO l);subst hH;obtain⟨d1,d2,d3⟩:=gO (d:=lp.d) (ez r2 y env).2 H3;exact .inl ⟨g2 y,h2,x,H3,by simp only;rw[d1];exact b1,by simp only;rw[d2];exact m2,by simp only;rw[d3];exact m3,by simp only;rw[<-eJ r3];exact g3⟩
   refine .inr ⟨by simp only;rw[<-f1];exact k1,k2,?_⟩;exact .inl ⟨g2 .un,h2,x,H',(vw .un).1,by simp only;rw[(vw .un).2.1];exact m2,by simp only;rw[(vw .un).2.2];exact m3,by simp only;rw[<-eJ r3];exact k3⟩
  |all=>cases fq<;>simp[iw] at hf
  |p_ F=>
   cases IC:lp.i with
   |call f args=>
    rw[IC] at h3;simp only[akH] at h3;obtain⟨Q,m1,⟨x0,H0,m2⟩,m3⟩:=h3;have Hr:∀x H',Q x H'->∀l:Lb,l.iQ∈F->H' l=H l:=λx H' hq=>(m3 x H' hq).1;have g_:∀x H',Q x H'->qF S (lq,fq) (cV env lp.d x) H' k:=λx H' hq=>(m3 x H' hq).2;have fs:=λx:AV=>ez r1 x env;have back:∀(y:AV) (k':AV->Hp->Prop),(∀x H',Q x H'->k' x H')->akH S (.p_ F) lp.d lp.i (cV env lq.d y) H k':=λy k' vy=>by
     have h4:akH S (.p_ F) lp.d lp.i env H k':=by
      rw[IC];simp only[akH];exact⟨Q,m1,⟨x0,H0,m2⟩,λx H' hq=>⟨Hr x H' hq,vy x H' hq⟩⟩
     exact kZ (λo ho=>((ez r2 y env).2 o ho).symm) h4
    have g2:∀y,gW lp.g (cV env lq.d y)=some true:=λy=>(by rw[(ez r2 y env).1];exact h1);rcases g_ x0 H0 m2 with⟨k1,k2,k3⟩|⟨k1,k2,k3⟩
    ·simp only at k1 k2 k3;rw[(fs x0).1] at k1;have dN:∀x H',Q x H'->akH S fq lq.d lq.i (cV env lp.d x) H' λy kK=>k (cV (cV env lp.d x) lq.d y) kK:=by
      intro x H' hq;rcases g_ x H' hq with⟨e1,e2,e3⟩|⟨e1,e2,e3⟩
      ·exact e3
      simp only at e1;rw[(fs x).1,k1] at e1;simp at e1
     cases fq with
     |no=>
      have BP:∀(y:AV) (env':Env),Quiet S lq.i env' y->False:=by
       intro y env' hq;have:lq.i.s5=false:=(by simpa[Fp.B6] using IB);cases hi:lq.i<;>simp_all[Quiet,U7.s5]
      obtain⟨y,k4,_⟩:=k3;have k4:c6 lq.i env=some y:=by
       rcases k4 with k4|k4
       ·rwa[fh (fs x0).2] at k4
       exact(BP y _ k4).elim
      refine .inl ⟨k1,k2,y,.inl k4,?_⟩;refine .inl ⟨g2 y,h2,back y _ λx H' hq=> ?_⟩;obtain⟨y',e1,e2⟩:=dN x H' hq;have e1:c6 lq.i env=some y':=by
       rcases e1 with e1|e1
       ·rwa[fh (fs x).2] at e1
       exact(BP y' _ e1).elim
      rw[k4] at e1;cases e1;simp only;rw[<-eJ r3];exact e2
     |rw R W=>
      simp only[iw,QH,Z0,Rh,Wn,dj] at hf;obtain⟨rfl,hf⟩:=hf;have one:∀x H',Q x H'->∀y H2,dm lq.d lq.i (cV env lp.d x) H'=some (y,H2)->(∀l∈cx lq.i (cV env lp.d x),l.iQ∈R\/l.iQ∈([]:List Lb))->(∀l∈aA lq.d lq.i (cV env lp.d x),l.iQ∈([]:List Lb)) ->
        dm lq.d lq.i env H=some (y,H)/\H2=H'/\(∀l∈cx lq.i env,l.iQ∈R\/l.iQ∈([]:List Lb))/\∀l∈aA lq.d lq.i env,l.iQ∈([]:List Lb):=by
       intro x H' hq y H2 e1 e2 e3;obtain⟨c1,c2,c3⟩:=gO (d:=lq.d) (fs x).2 H';rw[c1] at e1;rw[c2] at e2;rw[c3] at e3;have zO:∀l,l∉aA lq.d lq.i env:=λl hl=>(by simpa using e3 l hl);have zA:∀l,l∈cx lq.i env\/l∈aA lq.d lq.i env->H l=H' l:=by
        intro l hl;rcases hl with hl|hl
        ·rcases e2 l hl with e|e
         ·exact(Hr x H' hq l (hf _ e)).symm
         simp at e
        exact absurd hl (zO l)
       obtain⟨H3,b1,b2,b3⟩:=j5 e1 zA;have hH:H3=H:=funext λl=>b3 l (zO l);subst hH;exact⟨b1,funext λl=>fW e1 l (zO l),e2,e3⟩
      obtain⟨y,H2,q1,q2,q3,_⟩:=k3;obtain⟨a1,_,a3,a4⟩:=one x0 H0 m2 y H2 q1 q2 q3;refine .inl ⟨k1,k2,y,H,a1,a3,a4,?_⟩;refine .inl ⟨g2 y,h2,back y _ λx H' hq=> ?_⟩;obtain⟨y',K4,p1,p2,p3,p4⟩:=dN x H' hq;obtain⟨b1,rfl,_,_⟩:=one x H' hq y' K4 p1 p2 p3;rw[a1] at b1;cases b1;simp only;rw[<-eJ r3];exact p4
     |all=>simp[iw] at hf
     |p_ F'=>simp[iw] at hf
    simp only at k1 k2 k3;rw[(fs x0).1] at k1;refine .inr ⟨k1,k2,?_⟩;refine .inl ⟨g2 .un,h2,back .un _ λx H' hq=> ?_⟩;rcases g_ x H' hq with⟨e1,e2,e3⟩|⟨e1,e2,e3⟩
    ·simp only at e1;rw[(fs x).1,k1] at e1;simp at e1
    simp only;rw[<-eJ r3];exact e3
   |_=>rw[IC] at h3;simp only[akH] at h3
 refine(h3.shift r1 r3).mono ?_;rintro e h' ⟨hk,y,rfl⟩;obtain⟨e1,e2⟩:=ez r2 y env;exact .inr ⟨by simp only;rw[e1];exact h1,h2,hk⟩
theorem jO.front {q:Nat×bh×Fp} {l2:List (Nat×bh×Fp)} {k:Env->Hp->Prop}:∀(l1:List (Nat×bh×Fp)) (env:Env) (H:Hp),(∀p∈l1,indep p.2 q.2=true)->jO S (l1++q::l2) env H k ->
  jO S (q::(l1++l2)) env H k
 |[],env,H,_,h=>h
 |p::l1,env,H,hi,h=>by
  simp only[List.cons_append,jO] at h ⊢;refine qF.swap (hi p tM) (h.mono λe h' hq=> ?_);have:=jO.front l1 e h' (λp' BT=>hi p' (by simp[BT])) hq;simpa only[jO] using this
end

def Vw (ops:Array Oper):List (List Nat):=ops.toList.map λo=>(o.after.toList.filter (Region.binds .any)).map (·.on)
def items:Nat->List bh->List Fp->List (Nat×bh×Fp)
 |_,[],_=>[]
 |n,i::r,fs=>(n,i,fs.headD .no)::items (n+1) r fs.tail
def lE (es:List (List Nat)):List (Nat×bh×Fp)->Bool
 |[]=>true
 |p::r=>r.all (λq=>(es.getD q.1 []).contains p.1||indep p.2 q.2)&&lE es r
def nO (acc:List (List Nat)):List (List Nat)->List (List Nat)
 |[]=>acc
 |x::r=>nO (acc++[(x.flatMap λe=>acc.getD e []).foldl (λa e=>if a.contains e then a else e::a) x]) r
inductive B8 (es:List (List Nat)):Nat->Nat->Prop where
 |one {p q:Nat}:p∈es.getD q []->B8 es p q
 |more {p r q:Nat}:r∈es.getD q []->B8 es p r->B8 es p q
def w_ {l x:List Nat} {p:Nat} (h:p∈l.foldl (λa e=>if a.contains e then a else e::a) x):p∈x\/p∈l:=by
 induction l generalizing x with
 |nil=>exact .inl h
 |cons e l ih=>
 simp only[Bw] at h;rcases ih h with h|h
 ·split at h
  ·exact .inl h
  rcases PY.1 h with rfl|h
  ·exact .inr tM
  exact .inl h
 exact .inr (by simp[h])
theorem mQ (es:List (List Nat)):∀(r acc:List (List Nat)),es.drop acc.length=r->(∀i p,p∈acc.getD i []->B8 es p i)->∀i p,p∈(nO acc r).getD i []->B8 es p i
 |[],acc,_,h=>by simpa[nO] using h
 |x::r,acc,hd,h=>by
  simp only[nO];have hx:es[acc.length]?=some x:=by
   have:=VZ (λl=>l[0]?) hd;simpa using this
  refine mQ es r _ ?_ ?_
  ·rw[ko,Zm,<-W6,hd];rfl
  intro i p hp;rw[zf] at hp;by_cases hi:i<acc.length
  ·rw[bB hi,<-zf] at hp;exact h i p hp
  rw[b_ sf] at hp;by_cases e:i=acc.length
  ·subst e;simp only[Gl,RA,EG] at hp;have Hv:es.getD acc.length []=x:=(by rw[zf,hx];rfl);rcases w_ hp with hp|hp
   ·exact .one (by rw[Hv];exact hp)
   obtain⟨e,he,hp⟩:=ZZ.1 hp;exact .more (by rw[Hv];exact he) (h e p hp)
  rw[dV aak] at hp;simp at hp
def xa (es:List (List Nat)) (l:List (Nat×bh×Fp)):Bool:=l.all λp=>(es.getD p.1 []).all λe=>decide (e<p.1)
def uj (is:List bh) (es:List (List Nat)) (fs:List Fp):Bool:=(lE es (items 0 is fs)||lE (nO [] es) (items 0 is fs))&&xa es (items 0 is fs)
theorem jv {es:List (List Nat)}:∀{l:List (Nat×bh×Fp)},lE es l=true->l.Pairwise λp q=>p.1∈es.getD q.1 []\/indep p.2 q.2=true
 |[],_=> .nil
 |p::r,h=>by
  simp only[lE,QH,Rh,Tu,Wn,dj] at h;exact .cons h.1 (jv h.2)
section
variable {K:Kx} {env:Env} {H:Hp} {a:Act} {w:World}
def gP {ops:Array Oper} {listed:Array Bool} {i:Nat}:i∈Region.ready .any ops listed ↔
  i<ops.size/\listed.getD i true=false/\∃o,ops[i]?=some o/\∀e∈o.after,Region.binds .any e=true->listed.getD e.on false=true:=by
 unfold Region.ready;simp only[WO,JG,QH,Ve];constructor
 ·rintro⟨h1,h2,h3⟩;refine⟨h1,h2,?_⟩;cases ho:ops[i]? with
  |none=>rw[ho] at h3;simp at h3
  |some o=>
  rw[ho] at h3;simp only[bT,EG] at h3;refine⟨o,rfl,λe he hb=> ?_⟩;have K5:=NA.1 h3;have:=K5 e he;simpa[hb] using this
 rintro⟨h1,h2,o,h3,h4⟩;refine⟨h1,h2,?_⟩;rw[h3];simp only[bT,EG];refine NA.2 λe he=> ?_;cases hb:Region.binds .any e with
 |false=>rfl
 |true=>simpa using h4 e he hb
def mR {ops:Array Oper} {i:Nat} {o:Oper} (ho:ops[i]?=some o) {e:Edge} (he:e∈o.after) (hb:Region.binds .any e=true):e.on∈(Vw ops).getD i []:=by
 unfold Vw;rw[zf,cn,Vv,ho];simp only[bT,EG,pb,WO,Xb];exact⟨e,⟨he,hb⟩,rfl⟩
def vz {ops:Array Oper} {k:Env->Hp->Prop} {Q:Exit->Act->World->Prop} (hk:∀env' H' β' a' w',k env' H'->aH K β' env' H' a' w'->Q .normal a' w') :
  ∀(fuel:Nat) (l:List (Nat×bh×Fp)) (listed:Array Bool) (env:Env) (H:Hp) (a:Act) (w:World) (β:Lb->Option Nat),l.length=fuel ->
   l.Pairwise (λp q=>p.1<q.1)->listed.size=ops.size->(∀i,i<ops.size->(listed.getD i true=false↔∃p∈l,p.1=i)) ->
   (∀p∈l,p.1<ops.size/\∃o,ops[p.1]?=some o/\iY K.P K.G ops o=some p.2.1.fV) ->
   l.Pairwise (λp q=>B8 (Vw ops) p.1 q.1\/indep p.2 q.2=true)->(∀i,i<ops.size->listed.getD i true=true->∀e∈(Vw ops).getD i [],listed.getD e false=true)->(∀p∈l,∀e∈(Vw ops).getD p.1 [],e<p.1) ->
   jO ⟨K.P,K.G,K.N⟩ l env H k->aH K β env H a w->wpAny K.P .any ops Q fuel listed a w:=by
 intro fuel;induction fuel with
 |zero=>
  intro l listed env H a w β hlen _ _ hl _ _ _ _ hA hr;have:l=[]:=wc hlen;subst this;refine⟨?_,hk _ _ _ _ _ hA hr⟩;rw[M6];intro i hi;obtain⟨h1,h2,_⟩:=gP.1 hi;obtain⟨p,hp,_⟩:=(hl i h1).1 h2;simp at hp
 |succ fuel ih=>
 intro l listed env H a w β hlen uk gm hl zP xb hD rh hA hr;refine⟨λs4=> ?_,λi hi=> ?_⟩
 ·exfalso;cases l with
  |nil=>simp at hlen
  |cons p r=>
  obtain⟨zQ,o,B1,Mf⟩:=zP p tM;have:p.1∈Region.ready .any ops listed:=by
   refine gP.2 ⟨zQ,(hl p.1 zQ).2 ⟨p,tM,rfl⟩,o,B1,λe he hb=> ?_⟩;have bI:=rh p tM e.on (mR B1 he hb);have iG:e.on<ops.size:=sf;have Vi:¬listed.getD e.on true=false:=by
    rw[hl e.on iG];rintro⟨q,hq,Mg⟩;rcases PY.1 hq with rfl|hq
    ·omega
    have:=(XB.1 uk).1 q hq;omega
   rw[nY] at Vi ⊢;rw[ff sf] at Vi ⊢;simpa using Vi
  rw[s4] at this;simp at this
 obtain⟨h1,h2,o,h3,h4⟩:=gP.1 hi;obtain⟨p,hp,rfl⟩:=(hl i h1).1 h2;obtain⟨l1,l2,rfl⟩:=List.append_of_mem hp;obtain⟨_,o',FY,gq⟩:=zP p hp;rw[h3] at FY;cases FY;have ID:∀q∈l1,indep q.2 p.2=true:=by
  intro q hq;rcases (jk.1 xb).2.2 q hq p tM with he|he
  ·exfalso;have FZ:∀z∈(Vw ops).getD p.1 [],listed.getD z false=true:=by
    intro z he;unfold Vw at he;rw[zf,cn,Vv,h3] at he;simp only[bT,EG,pb,WO,Xb] at he;obtain⟨e,⟨F0,CI⟩,rfl⟩:=he;exact h4 e F0 CI
   have qT:∀z t,B8 (Vw ops) z t->listed.getD t false=true->listed.getD z false=true:=by
    intro z t hr;induction hr with
    |@one t hz=>
     intro ht;have EV:t<ops.size:=by
      rw[nY] at ht;cases hh:listed[t]? with
      |none=>rw[hh] at ht;simp at ht
      |some b=>have:=(Rv.1 hh).1;omega
     refine hD t EV ?_ z hz;rw[nY] at ht ⊢;rw[ff sf] at ht ⊢;simpa using ht
    |@more r t hz _ ih=>
    intro ht;refine ih ?_;have EV:t<ops.size:=by
     rw[nY] at ht;cases hh:listed[t]? with
     |none=>rw[hh] at ht;simp at ht
     |some b=>have:=(Rv.1 hh).1;omega
    refine hD t EV ?_ r hz;rw[nY] at ht ⊢;rw[ff sf] at ht ⊢;simpa using ht
   have wX:listed.getD q.1 false=true:=by
    cases he with
    |one hz=>exact FZ _ hz
    |more hz hr=>exact qT _ _ hr (FZ _ hz)
   have EM:=(zP q (by simp[hq])).1;have wx:=(hl q.1 EM).2 ⟨q,by simp[hq],rfl⟩;rw[nY] at wX wx;rw[ff sf] at wX wx;simp at wX wx;rw[wX] at wx;simp at wx
  exact he
 have J4:=jO.front l1 env H ID hA;simp only[jO] at J4;have Vi:∀q∈l1++l2,q.1≠p.1:=by
  intro q hq e;rcases QL.1 hq with hq|hq
  ·have:=(jk.1 uk).2.2 q hq p tM;omega
  have:=(XB.1 (jk.1 uk).2.1).1 q hq;omega
 have Rx:(l1++l2).Sublist (l1++p::l2):=List.Sublist.append_left (List.sublist_cons_self p l2) l1;have oN:∀q∈l1++l2,q∈l1++p::l2:=λq hq=>Rx.subset hq;have gr:∀env' H' β' a' w',jO ⟨K.P,K.G,K.N⟩ (l1++l2) env' H' k->aH K β' env' H' a' w'->wpAny K.P .any ops Q fuel (listed.setIfInBounds p.1 true) a' w':=by
  intro env' H' β' a' w' q1 q2;refine ih (l1++l2) _ env' H' a' w' β' (by simp at hlen ⊢;omega) (uk.sublist Rx) (by simp[gm]) (λj hj=> ?_) (λq hq=>zP q (oN q hq)) (xb.sublist Rx) (λj hj F1 e he=> ?_)
   (λq hq=>rh q (oN q hq)) q1 q2
  rw[nY,V'];by_cases e:p.1=j
  ·subst e;simp only[Rc];rw[P8 sf];simp only[EG,Bool.true_eq_false,false_iff];rintro⟨q,hq,e⟩;exact Vi q hq e
  ·rw[Ev e,<-nY,hl j hj];constructor
   ·rintro⟨q,hq,rfl⟩;refine⟨q,?_,rfl⟩;simp only[QL,PY] at hq ⊢;rcases hq with hq|hq|hq
    ·exact .inl hq
    ·subst hq;exact absurd rfl e
    exact .inr hq
   rintro⟨q,hq,rfl⟩;exact⟨q,oN q hq,rfl⟩
  have K6:∀z,listed.getD z false=true->(listed.setIfInBounds p.1 true).getD z false=true:=by
   intro z hz;rw[nY] at hz ⊢;rw[V'];split
   ·split<;>simp_all
   exact hz
  apply K6;by_cases e2:p.1=j
  ·subst e2;unfold Vw at he;rw[zf,cn,Vv,h3] at he;simp only[bT,EG,pb,WO,Xb] at he;obtain⟨e,⟨F0,CI⟩,rfl⟩:=he;exact h4 e F0 CI
  refine hD j hj ?_ e he;rw[nY,V',Ev e2,<-nY] at F1;exact F1
 simp only[wpOp,h3];refine YS hr gq (k:=λe h=>jO ⟨K.P,K.G,K.N⟩ (l1++l2) e h k) gr ?_;rcases J4 with⟨g1,g2,g3⟩|⟨g1,g2,g3⟩
 ·exact .inl ⟨g1,g2,g3.act⟩
 exact .inr ⟨g1,g2,g3⟩
theorem mn:∀(is:List bh) (n:Nat) (fs:List Fp) (p:Nat×bh×Fp),p∈items n is fs->n<=p.1/\is[p.1 - n]?=some p.2.1
 |[],n,fs,p,h=>by simp[items] at h
 |i::r,n,fs,p,h=>by
  simp only[items,PY] at h;rcases h with rfl|h
  ·simp
  obtain⟨h1,h2⟩:=mn r (n+1) _ p h;refine⟨sf,?_⟩;rw[show p.1 - n=(p.1 - (n+1))+1 by omega];simpa using h2
theorem lF:∀(is:List bh) (n:Nat) (fs:List Fp),(items n is fs).Pairwise λp q=>p.1<q.1
 |[],n,fs=> .nil
 |i::r,n,fs=>by
  simp only[items];refine .cons (λq hq=> ?_) (lF r (n+1) _);have:=(mn r (n+1) _ q hq).1;simp only;omega
theorem o4:∀(is:List bh) (n:Nat) (fs:List Fp),(items n is fs).length=is.length
 |[],n,fs=>rfl
 |i::r,n,fs=>by simp[items,o4 r]
theorem o5:∀(is:List bh) (n:Nat) (fs:List Fp) (j:Nat),j<is.length->∃p∈items n is fs,p.1=n+j
 |[],n,fs,j,h=>by simp at h
 |i::r,n,fs,0,h=>⟨_,Yl ..,rfl⟩
 |i::r,n,fs,j+1,h=>by
  obtain⟨p,h1,h2⟩:=o5 r (n+1) fs.tail j (by simpa using h);exact⟨p,by simp only[items];exact Nk _ h1,sf⟩
theorem lG {α β:Type} {R:α->β->Prop}:∀{l:List α} {m:List β},iF R l m->l.length=m.length/\∀(i:Nat) (y:β),m[i]?=some y->∃x,l[i]?=some x/\R x y
 |_,_,.nil=>⟨rfl,tM⟩
 |_,_,.cons h1 h2=>by
  obtain⟨e,h⟩:=lG h2;refine⟨by simp[e],λi y hy=> ?_⟩;cases i with
  |zero=>simp at hy;subst hy;exact⟨_,tM,h1⟩
  |succ i=>obtain⟨x,q1,q2⟩:=h i y (by simpa using hy);exact⟨x,by simpa using q1,q2⟩
def aH.drew {β:Lb->Option Nat} (hr:aH K β env H a w):aH K β env H a {w with drawn:=w.drawn+1}:=by
 have hg:iU w {w with drawn:=w.drawn+1}:=⟨rfl,rfl,rfl,PW _,λ_ _=>rfl⟩;have:=hr.step hg (d:=none) (x:= .un) (v:=undef) tM tM tM;simpa[cV,Act.put] using this
def ri {β:Lb->Option Nat} (hr:aH K β env H a w) {id:Nat} {ops:Array Oper} (hm:K.P.follows .mixedOrders=true) {is:List bh} {fs:List Fp}
  (dN:iF (λo i=>iY K.P K.G ops o=some (bh.fV i)) ops.toList is) (ho:uj is (Vw ops) fs=true) {k:Env->Hp->Prop} {Q:Exit->Act->World->Prop}
  (hk:∀env' H' β' a' w',k env' H'->aH K β' env' H' a' w'->Q .normal a' w') (hA:jO ⟨K.P,K.G,K.N⟩ (items 0 is fs) env H k):(Code.region id ops true).wp K.P Q a w:=by
 obtain⟨hlen,jY⟩:=lG dN;simp only[JF] at hlen;simp only[uj,QH] at ho;obtain⟨CU,ET⟩:=ho;have K7:(items 0 is fs).Pairwise λp q=>B8 (Vw ops) p.1 q.1\/indep p.2 q.2=true:=by
  rcases Bool.or_eq_true_iff.1 CU with h|h
  ·exact(jv h).imp λIE=>IE.imp .one (λh=>h)
  exact(jv h).imp λIE=>IE.imp (mQ _ _ [] rfl tM _ _) (λh=>h)
 refine wp_region_any hm (vz hk ops.size (items 0 is fs) _ env H a _ β (by rw[o4];exact hlen.symm) (lF is 0 fs) tM (λi hi=> ?_) (λp hp=> ?_)
  K7 (λi hi F1=> ?_) (λp hp e he=> ?_) hA hr.drew)
 ·rw[nY,WJ,P8 hi];simp only[EG,true_iff];obtain⟨p,h1,h2⟩:=o5 is 0 fs i sf;exact⟨p,h1,sf⟩
 ·obtain⟨h1,h2⟩:=mn is 0 fs p hp;simp only[Xa] at h2;obtain⟨o,q1,q2⟩:=jY p.1 _ h2;have:=(yY.1 h2).1;exact⟨sf,o,by simpa using q1,q2⟩
 ·rw[nY,WJ,P8 hi] at F1;simp at F1
 simp only[xa,Rh,dj] at ET;exact ET p hp e he
end

def C5 (S:St) (is:List bh) (es:List (List Nat)) (k:Env->Hp->Prop):Nat->List Nat->Env->Hp->Prop
 |0,_,env,H=>k env H
 |n+1,done,env,H=>∀j i,is[j]?=some i->j∉done->(∀e∈es.getD j [],e∈done) ->
  (gW i.g env=some true/\(∀n,i.d=some n->n<S.N)/\bg S i.d i.i env H λx H'=>C5 S is es k n (j::done) (cV env i.d x) H') \/
  (gW i.g env=some false/\(∀n,i.d=some n->n<S.N)/\C5 S is es k n (j::done) (cV env i.d .un) H)
theorem xc:∀{l m:List Nat},l.Nodup->(∀x∈l,x∈m)->l.length<=m.length
 |[],_,_,_=>zd _
 |x::l,m,h,hs=>by
  obtain⟨h1,h2⟩:=WQ.1 h;have h3:=xc (m:=m.erase x) h2 λy hy=>(List.mem_erase_of_ne (by rintro rfl;exact h1 hy)).2 (hs y (by simp[hy]));have h4:=List.length_erase_of_mem (hs x tM);have h5:=List.length_pos_of_mem (hs x tM);simp only[gL];omega
section
variable {K:Kx} {env:Env} {H:Hp} {a:Act} {w:World}
def s6 {ops : Array Oper} {is : List bh} (dN : iF (λo i => iY K.P K.G ops o = some (bh.fV i)) ops.toList is) (rh : ∀ j,∀ e ∈ (Vw ops).getD j [],e < j)
   {k : Env -> Hp -> Prop} {Q : Exit -> Act -> World -> Prop} (hk : ∀ env' H' β' a' w',k env' H' -> aH K β' env' H' a' w' -> Q .normal a' w') :
   ∀ (fuel : Nat) (done : List Nat) (listed : Array Bool) (env : Env) (H : Hp) (a : Act) (w : World) (β : Lb -> Option Nat),done.length + fuel = ops.size -> done.Nodup -> listed.size = ops.size ->
     (∀ i,i < ops.size -> (listed.getD i true = true ↔ i ∈ done)) -> (∀ i ∈ done,i < ops.size) -> C5 ⟨K.P,K.G,K.N⟩ is (Vw ops) k fuel done env H -> aH K β env H a w -> wpAny K.P .any ops Q fuel listed a w := by
 obtain ⟨hlen,jY⟩ := lG dN
 simp only [JF] at hlen
 intro fuel
 induction fuel with
 | zero =>
   intro done listed env H a w β hd F2 gm hl zR hA hr
   refine ⟨?_,hk _ _ _ _ _ hA hr⟩
   rw [M6]
   intro i hi
   obtain ⟨h1,h2,_⟩ := gP.1 hi
   have F3 : i ∈ done := by
     refine Bf λhn => ?_
     have h3 : (i :: done).length <= (List.range ops.size).length := xc (WQ.2 ⟨hn,F2⟩) λz hz => by
       rcases PY.1 hz with rfl | hz
       · exact JG.2 h1
       · exact JG.2 (zR z hz)
     simp at h3; omega
   rw [(hl i h1).2 F3] at h2; cases h2
 | succ fuel ih =>
   intro done listed env H a w β hd F2 gm hl zR hA hr
   have F4 : ∀ i,i < ops.size -> (listed.getD i false = true ↔ i ∈ done) := λi hi => by
     rw [<- hl i hi,nY,nY,ff sf]; rfl
   refine ⟨λs4 => ?_,λi hi => ?_⟩
   · -- the first of those that are left may come next
     have hex : ∃ i,i < ops.size /\ i ∉ done := by
       refine Bf λhn => ?_
       have h3 : (List.range ops.size).length <= done.length := xc List.nodup_range λz hz => Bf λoz => hn ⟨z,JG.1 hz,oz⟩
       simp at h3; omega
     have IF : ∀ n i,i <= n -> i < ops.size -> i ∉ done -> ∃ j,j < ops.size /\ j ∉ done /\ ∀ e,e < j -> e ∈ done := by
       intro n
       induction n with
       | zero => intro i h1 h2 h3; exact ⟨i,h2,h3,λe he => by omega⟩
       | succ n IG =>
         intro i h1 h2 h3
         by_cases h : ∃ e,e < i /\ e ∉ done
         · obtain ⟨e,g1,g2⟩ := h
           exact IG e sf sf g2
         · exact ⟨i,h2,h3,λe he => Bf λhn => h ⟨e,he,hn⟩⟩
     obtain ⟨i0,g1,g2⟩ := hex
     obtain ⟨j,j1,j2,j3⟩ := IF i0 i0 (PW _) g1 g2
     have : j ∈ Region.ready .any ops listed := by
       refine gP.2 ⟨j1,?_,ops[j],ff j1,λe he hb => ?_⟩
       · cases hc : listed.getD j true with
         | false => rfl
         | true => exact absurd ((hl j j1).1 hc) j2
       · have bI := rh j e.on (mR (ff j1) he hb)
         exact (F4 e.on sf).2 (j3 _ bI)
     rw [s4] at this; simp at this
   · obtain ⟨h1,h2,o,h3,h4⟩ := gP.1 hi
     have Ht : i ∉ done := λhm => by rw [(hl i h1).2 hm] at h2; cases h2
     obtain ⟨ii,J5⟩ : ∃ ii,is[i]? = some ii := ⟨_,rX sf⟩
     obtain ⟨o',FY,gq⟩ := jY i ii J5
     rw [Vv,h3] at FY; cases FY
     have F5 : ∀ e ∈ (Vw ops).getD i [],e ∈ done := by
       intro z hz
       have bI := rh i z hz
       unfold Vw at hz
       rw [zf,cn,Vv,h3] at hz
       simp only [bT,EG,pb,WO,Xb] at hz
       obtain ⟨e,⟨F0,CI⟩,rfl⟩ := hz
       exact (F4 e.on sf).1 (h4 e F0 CI)
     have gr : ∀ env' H' β' a' w',C5 ⟨K.P,K.G,K.N⟩ is (Vw ops) k fuel (i :: done) env' H' -> aH K β' env' H' a' w' -> wpAny K.P .any ops Q fuel (listed.setIfInBounds i true) a' w' := by
       intro env' H' β' a' w' q1 q2
       refine ih (i :: done) _ env' H' a' w' β' (by simp; omega) (WQ.2 ⟨Ht,F2⟩) (by simp [gm]) (λj hj => ?_) (λz hz => ?_) q1 q2
       · rw [nY,V']
         by_cases e : i = j
         · subst e; simp [gm,h1]
         · rw [Ev e,<- nY,hl j hj]
           simp [Ss e]
       · rcases PY.1 hz with rfl | hz
         · exact h1
         · exact zR z hz
     simp only [wpOp,h3]
     exact YS hr gq (k := λe h => C5 ⟨K.P,K.G,K.N⟩ is (Vw ops) k fuel (i :: done) e h) gr (hA i ii J5 Ht F5)
def s7 {β:Lb->Option Nat} (hr:aH K β env H a w) {id:Nat} {ops:Array Oper} (hm:K.P.follows .mixedOrders=true) {is:List bh}
  (dN:iF (λo i=>iY K.P K.G ops o=some (bh.fV i)) ops.toList is) (hb:((Vw ops).zipIdx.all λp=>p.1.all λe=>decide (e<p.2))=true) {k:Env->Hp->Prop} {Q:Exit->Act->World->Prop}
  (hk:∀env' H' β' a' w',k env' H'->aH K β' env' H' a' w'->Q .normal a' w') (hA:C5 ⟨K.P,K.G,K.N⟩ is (Vw ops) k is.length [] env H):(Code.region id ops true).wp K.P Q a w:=by
 obtain⟨hlen,jY⟩:=lG dN;simp only[JF] at hlen;rw[<-hlen] at hA;refine wp_region_any hm (s6 dN (λj e he=> ?_) hk ops.size [] _ env H a _ β tM .nil tM (λi hi=> ?_) tM hA hr.drew)
 ·have h1:=Rh.1 hb;rw[zf] at he;cases hj:(Vw ops)[j]? with
  |none=>rw[hj] at he;simp at he
  |some l=>
  rw[hj] at he;have:=h1 (l,j) (List.mk_mem_zipIdx_iff_getElem?.2 hj);have:=Rh.1 this e he;simpa using this
 rw[nY,WJ,P8 hi];simp
end

inductive Gh where
 |cX (ns:List Nat)
 |zS (l:Lb) (d:Nat)
 |xd (l q:Lb) (j:Nat)
 |own (d sz:Nat)
 |cut (n:Nat)
 |vk
 |J6
 |J7
inductive AC where
 |skip
 |seq (a b:AC)
 |cond (x:O) (a b:AC)
 |block (id:Nat) (c:AC)
 |loop (c:AC)
 |exit (id:Nat)
 |ret
 |cq (is:List bh)
 |VL (is:List bh) (es:List (List Nat)) (fs:List Fp)
 |gh (g:Gh) (c:AC)
abbrev aM (l:List bh) (x:AC):AC:= .seq (.cq l) x
def AC.sz:AC->Nat
 | .seq a b=>a.sz+b.sz+2
 | .cond _ a b=>a.sz+b.sz+2
 | .block _ c=>c.sz+3
 | .loop c=>c.sz+1
 | .gh _ c=>c.sz+1
 |_=>1
inductive It where
 |code (c:AC)
 |o6 (id:Nat)
def It.sz:It->Nat
 | .code c=>c.sz
 | .o6 _=>1
def mo:List It->Nat
 |[]=>0
 |i::r=>i.sz+mo r
def dR (id:Nat):List It->Option (List It)
 |[]=>none
 | .o6 i::r=>if i=id then some r else dR id r
 |_::r=>dR id r
theorem lH {id:Nat}:∀{l r:List It},dR id l=some r->mo r<=mo l
 |[],r,h=>by simp[dR] at h
 | .o6 i::l,r,h=>by
  simp only[dR] at h;split at h
  ·cases h;simp[mo]
  have:=lH h;simp only[mo];omega
 | .code c::l,r,h=>by
  simp only[dR] at h;have:=lH h;simp only[mo];omega
def AC.xe (c:AC):0<c.sz:=by cases c<;>simp[AC.sz]
def nP (ns:List Nat) (env:Env):Env:=λn=>if n∈ns then env n else .any
abbrev gI:=Exit->Env->Hp->Prop

inductive EW where
 |code (c:Code)
 |o6 (id:Nat)
def PH (P:Program) (Qh:Exit->Act->World->Prop):List EW->Exit->Act->World->Prop
 |[]=>Qh
 | .code c::k=>Exit.then (c.wp P (PH P Qh k)) (PH P Qh k)
 | .o6 id::k=>Exit.inBlock id (PH P Qh k)
def AC.bare:AC->AC
 | .seq a b=> .seq a.bare b.bare
 | .cond x a b=> .cond x a.bare b.bare
 | .block id c=> .block id c.bare
 | .loop c=> .loop c.bare
 | .cq is=> .cq (is.map bh.fV)
 | .VL is es _=> .VL (is.map bh.fV) es []
 | .gh _ c=>c.bare
 |c=>c
def atj (P:Program) (G:Nat->Option (List IV)) (ops:Array Oper):List Oper->Option (List bh)
 |[]=>some []
 |o::r=>(iY P G ops o).bind λi=>(atj P G ops r).map λs=>i::s
def mS (P:Program) (G:Nat->Option (List IV)) (ops:Array Oper):Nat->List Oper->Option (List bh)
 |_,[]=>some []
 |0,_::_=>none
 |n+1,o::r=>match p9 P o r with
  |some (d,es,r')=>(mS P G ops n r').map λs=>⟨some d,none,.qM es⟩::s
  |none=>(iY P G ops o).bind λi=>(mS P G ops n r).map λs=>i::s
def db (P:Program) (G:Nat->Option (List IV)):Code->Option AC
 | .skip=>some .skip
 | .seq a b=>(db P G a).bind λx=>(db P G b).map λy=> .seq x y
 | .cond c a b=>(co G c).bind λc=>(db P G a).bind λx=>(db P G b).map λy=> .cond c x y
 | .block id c=>(db P G c).map λx=> .block id x
 | .loop c=>(db P G c).map λx=> .loop x
 | .exit id=>some (.exit id)
 | .ret=>some .ret
 | .region _ ops false=>(mS P G ops ops.toList.length ops.toList).map .cq
 | .region _ ops true=>if P.follows .mixedOrders=true then(atj P G ops ops.toList).map λis=> .VL is (Vw ops) [] else none
 |_=>none
inductive C6 (P:Program) (G:Nat->Option (List IV)):EW->It->Prop
 |code {c:Code} {x:AC}:db P G c=some x.bare->C6 P G (.code c) (.code x)
 |o6 (id:Nat):C6 P G (.o6 id) (.o6 id)
def lift (K:Kx) (Q:gI) (e:Exit) (a:Act) (w:World):Prop:=∃env H β,Q e env H/\aH K β env H a w
def J8 (K:Kx) (Q:gI) (ck:List EW) (env:Env) (H:Hp):Prop:=∀β a w,aH K β env H a w->PH K.P (lift K Q) ck .normal a w
def lI (S:St) (Q:gI) (c:AC) (k:List It) (env:Env) (H:Hp):Prop:=
 ∀(K:Kx),(⟨K.P,K.G,K.N⟩:St)=S->(∀l,live K.H0 l->l.entry=true)->∀c0 ck,db S.P S.G c0=some c.bare->iF (C6 S.P S.G) ck k->J8 K Q (.code (.loop c0)::ck) env H
def nQ (S:St) (env:Env) (H:Hp) (env2:Env) (H2:Hp):Prop:=
 ∀(K:Kx) (β:Lb->Option Nat) (a:Act) (w:World),(⟨K.P,K.G,K.N⟩:St)=S->(∀l,live K.H0 l->l.entry=true)->aH K β env H a w->∃β',aH K β' env2 H2 a w
def Choice (S:St) (env:Env) (H:Hp) (T:Type) (E:T->Env) (HH:T->Hp):Prop:=
 ∀(K:Kx) (β:Lb->Option Nat) (a:Act) (w:World),(⟨K.P,K.G,K.N⟩:St)=S->(∀l,live K.H0 l->l.entry=true)->aH K β env H a w->∃t β',aH K β' (E t) (HH t) a w
def Cut (n:Nat) (f:Env->Hp->Prop) (env:Env) (H:Hp):Prop:=f env H
def go (S:St) (Q:gI):List It->Env->Hp->Prop
 |[]=>λenv H=>Q .normal env H
 | .o6 _::k=>go S Q k
 | .code .skip::k=>go S Q k
 | .code (.seq a b)::k=>go S Q (.code a:: .code b::k)
 | .code (.cond x a b)::k=>λenv H=>∃t,ev env x= .bool t/\(t=true->go S Q (.code a::k) env H)/\(t=false->go S Q (.code b::k) env H)
 | .code (.block id c)::k=>go S Q (.code c:: .o6 id::k)
 | .code (.loop c)::k=>lI S Q c k
 | .code (.exit id)::k=>match h:dR id k with
  |some k'=>go S Q k'
  |none=>λenv H=>Q (.exit id) env H
 | .code .ret::_=>λenv H=>Q .ret env H
 | .code (.cq is)::k=>λenv H=>AO S is env H (go S Q k)
 | .code (.VL is es fs)::k=>λenv H=>uj is es fs=true/\jO S (items 0 is fs) env H (go S Q k)
 | .code (.gh g c)::k=>match g with
  | .cX ns=>λenv H=>go S Q (.code c::k) (nP ns env) H
  | .zS l d=>λenv H=>∃sz xs i n,env d= .sl l sz i n/\H l= .live ⟨sz,aB xs⟩/\l.fresh=true/\i+n<=xs.length/\Flat xs /\
    go S Q (.code c::k) (put env d (.list ((xs.drop i).take n))) (bD H l .dead)
  | .xd l q j=>λenv H=>∃sz xs i n cs,H q= .live ⟨cs.length,[cs]⟩/\cs[j]?=some (.sl l sz i n)/\H l= .live ⟨sz,aB xs⟩/\l.fresh=true/\l≠q/\i+n<=xs.length/\Flat xs /\
    go S Q (.code c::k) env (bD (bD H l .dead) q (.live ⟨cs.length,[cs.set j (.list ((xs.drop i).take n))]⟩))
  | .own d sz=>λenv H=>env d= .nil0/\0<sz/\H (.loc d)= .unused/\go S Q (.code c::k) (put env d (.sl (.loc d) sz 0 0)) (bD H (.loc d) (.live ⟨sz,[]⟩))
  | .cut n=>Cut n (go S Q (.code c::k))
  | .vk=>λenv H=>∃env2 H2,nQ S env H env2 H2/\go S Q (.code c::k) env2 H2
  | .J6=>λenv H=>∃(T:Type) (E:T->Env) (HH:T->Hp),Choice S env H T E HH/\∀t,go S Q (.code c::k) (E t) (HH t)
  | .J7=>match c with
   | .VL is es _=>λenv H=>(es.zipIdx.all λp=>p.1.all λe=>decide (e<p.2))=true/\C5 S is es (go S Q k) is.length [] env H
   |_=>λ_ _=>False
termination_by k=>mo k
decreasing_by
 all_goals simp only[mo,It.sz,AC.sz]
 all_goals first|omega|(have:=lH h;omega)
def lJ {S:St} {Q:gI} {id:Nat} {k k':List It} (h:dR id k=some k'):go S Q (.code (.exit id)::k)=go S Q k':=by
 rw[go];split
 ·rename_i K8 h2;rw[h] at h2;cases h2;rfl
 rename_i h2;rw[h] at h2;cases h2
def lL {S:St} {Q:gI} {id:Nat} {k:List It} (h:dR id k=none):go S Q (.code (.exit id)::k)=Q (.exit id):=by
 rw[go];split
 ·rename_i K8 h2;rw[h] at h2;cases h2
 rfl
section
variable {K:Kx} {β:Lb->Option Nat} {env:Env} {H:Hp} {a:Act} {w:World}
theorem nR (P:Program) (Qh:Exit->Act->World->Prop):∀(ck:List EW) (a:Act) (w:World),Qh .ret a w->PH P Qh ck .ret a w
 |[],a,w,h=>h
 | .code c::k,a,w,h=>by simp only[PH,Exit.then];exact nR P Qh k a w h
 | .o6 id::k,a,w,h=>by simp only[PH,Exit.inBlock];exact nR P Qh k a w h
theorem ja {P:Program} {G:Nat->Option (List IV)} (Qh:Exit->Act->World->Prop) {id:Nat}:∀(ck:List EW) (k:List It),iF (C6 P G) ck k ->
  match dR id k with
  |some k'=>∃wz,iF (C6 P G) wz k'/\∀a w,PH P Qh wz .normal a w->PH P Qh ck (.exit id) a w
  |none=>∀a w,Qh (.exit id) a w->PH P Qh ck (.exit id) a w
 |_,_,.nil=>by simp only[dR];exactλa w h=>h
 |_,_,@iF.cons _ _ _ _ _ ck k h1 h2=>by
  cases h1 with
  |code hc=>
   have ih:=ja Qh (id:=id) ck k h2;simp only[dR];split<;>rename_i hp<;>rw[hp] at ih<;>simp only at ih
   ·obtain⟨wz,e1,e2⟩:=ih;exact⟨wz,e1,λa w h=>by simp only[PH,Exit.then];exact e2 a w h⟩
   exactλa w h=>by simp only[PH,Exit.then];exact ih a w h
  |o6 i=>
  have ih:=ja Qh (id:=id) ck k h2;simp only[dR];by_cases e:i=id
  ·simp only[e,Rc];exact⟨ck,h2,λa w h=>by simp only[PH,Exit.inBlock,Rc];exact h⟩
  simp only[e,nX];split<;>rename_i hp<;>rw[hp] at ih<;>simp only at ih
  ·obtain⟨wz,e1,e2⟩:=ih;exact⟨wz,e1,λa w h=>by simp only[PH,Exit.inBlock,Ss e,nX];exact e2 a w h⟩
  exactλa w h=>by simp only[PH,Exit.inBlock,Ss e,nX];exact ih a w h
theorem j6 {P:Program} {G:Nat->Option (List IV)} {ops:Array Oper}:∀(l:List Oper) (is:List bh),atj P G ops l=some (is.map bh.fV)->iF (λo i=>iY P G ops o=some (bh.fV i)) l is
 |[],is,h=>by
  simp[atj] at h;have:is=[]:=by cases is<;>simp_all
  subst this;exact .nil
 |o::r,is,h=>by
  simp only[atj] at h;obtain⟨i,h1,h⟩:=ba h;obtain⟨s,h2,h3⟩:=rl h;cases is with
  |nil=>simp at h3
  |cons j is=>
  simp only[Rj,Q5] at h3;obtain⟨rfl,rfl⟩:=h3;exact .cons h1 (j6 r is h2)
def aH.nP (hr:aH K β env H a w) (ns:List Nat):aH K β (Am.nP ns env) H a w:=
 ⟨hr.defers,hr.size,λn=>by unfold Am.nP;split;exact hr.N8 n;simp[RV],hr.rows,hr.own,hr.inj,λn l hl=>by
  unfold Am.nP at hl;split at hl
  ·exact hr.eI n l hl
  simp[AV.an] at hl,hr.cH,hr.frame,hr.W5,hr.gA,hr.fr⟩
def um (hr : aH K β env H a w) (d : Nat) {x : AV} (hx : RV w β H (Im K β H) x (a.tmps.getD d undef)) (hm : ∀ l ∈ x.an, H l ≠ .unused) : aH K β (put env d x) H a w :=
  ⟨hr.defers, hr.size, fun n => by unfold put; split; · next h => subst h; exact hx
                                   · exact hr.N8 n, hr.rows, hr.own, hr.inj, fun n l hl => by
    unfold put at hl; split at hl
    · exact hm l hl
    · exact hr.eI n l hl, hr.cH, hr.frame, hr.W5, hr.gA, hr.fr⟩
def xf (hr:aH K β env H a w) {l:Lb} {sz:Nat} {xs:List IV} {i n:Nat} {v:Value} (hl:H l= .live ⟨sz,aB xs⟩) (hf:l.fresh=true) (qB:i+n<=xs.length) (FO:Flat xs)
  (hv:RV w β H (Im K β H) (.sl l sz i n) v):RV w β (bD H l .dead) (Im K β (bD H l .dead)) (.list ((xs.drop i).take n)) v:=by
 have aK:∀q,live (bD H l .dead) q->live H q/\q≠l:=by
  rintro q ⟨r,h⟩;by_cases e:q=l
  ·subst e;simp at h
  rw[aq _ _ e] at h;exact⟨⟨r,h⟩,e⟩
 have hk:W4 w w (Im K β H) (Im K β (bD H l .dead)):=⟨λk hk hs=>⟨⟨hk.1,λq hq=>hk.2 q (aK q hq).1⟩,hs,rfl⟩⟩;simp only[RV] at hv;obtain⟨ad,c,rfl,h2,h3,h4,h5⟩:=hv;simp only[RV,NN];have hlen:((xs.drop i).take n).length=n:=aak
 rw[hlen];refine⟨ad,c,rfl,h2,h3,?_⟩;by_cases hn:n=0
 ·exact .inl hn
 right;rcases h5 ⟨_,hl⟩ with h6|⟨g,S,e1,e2,e3,e4⟩
 ·omega
 obtain⟨cur,e0,cap,k1,k2,k3,k4,k5⟩:=(hr.rows l _ hl).block e1;have gm:0<sz:=(hr.rows l _ hl).1;have EN:Im K β (bD H l .dead) g:=⟨.inr (hr.fr l g ⟨_,hl⟩ hf e1),λq hq hb=>(aK q hq).2 (hr.inj q l g (aK q hq).1 ⟨_,hl⟩ hb e1)⟩;refine⟨g,i*sz,sz,e2,EN,(Rv.1 k1).1,gm,ajy _ _ _ (λk y hy=> ?_)⟩;have C0:xs[i+k]?=some y:=by
  rw[Rd] at hy;split at hy
  ·rwa[Ba] at hy
  simp at hy
 rw[eH];have qT:y.cells.length=sz:=by
  have:=(hr.rows l _ hl).2.1 (y.cells.map IV.dQ) (by
   simp only[aB];exact V_ (f:=λy:IV=>y.cells.map IV.dQ) (PX C0))
  simpa using this
 refine⟨qT.symm,Xz _ _ _ (λj z hz=> ?_)⟩;obtain⟨u,q1,q2⟩:=k5 (i+k) j (y.cells.map IV.dQ) z.dQ (by simp[aB,C0]) (by simp[hz]);refine⟨u,?_,pX hk (FO y (PX C0) z (PX hz)) q2⟩;rw[cell_of_row w g _ cur e0 (0,0) k1,<-q1];congr 1;rw[Sv]
theorem nS {P:Program} {G:Nat->Option (List IV)} {ops:Array Oper}:∀(n:Nat) (l:List Oper) (is:List bh),mS P G ops n l=some (is.map bh.fV)->SL P G ops l is
 |n,[],is,h=>by
  have:is=[]:=by cases n<;>simp[mS] at h<;>cases is<;>simp_all
  subst this;exact .nil
 |0,_::_,is,h=>by simp[mS] at h
 |n+1,o::r,is,h=>by
  simp only[mS] at h;split at h
  ·rename_i d es r' hm;obtain⟨s,h2,h3⟩:=rl h;cases is with
   |nil=>simp at h3
   |cons j is=>
   simp only[Rj,Q5] at h3;obtain⟨h4,rfl⟩:=h3;have:j=⟨some d,none,.qM es⟩:=by
    cases j with
    |mk jd jg ji=>
    simp only[bh.fV,bh.mk.injEq] at h4;obtain⟨rfl,rfl,h5⟩:=h4;rw[cM h5.symm rfl]
   subst this;exact .lit hm (nS n r' is h2)
  obtain⟨i,h1,h⟩:=ba h;obtain⟨s,h2,h3⟩:=rl h;cases is with
  |nil=>simp at h3
  |cons j is=>
  simp only[Rj,Q5] at h3;obtain⟨rfl,rfl⟩:=h3;exact .cons h1 (nS n r is h2)
theorem NB {P:Program} {G:Nat->Option (List IV)} {c0:Code} {x:AC} (h:db P G c0=some x) :
  match x with
  | .skip=>c0= .skip
  | .seq x y=>∃a b,c0= .seq a b/\db P G a=some x/\db P G b=some y
  | .cond o x y=>∃c a b,c0= .cond c a b/\co G c=some o/\db P G a=some x/\db P G b=some y
  | .block id x=>∃a,c0= .block id a/\db P G a=some x
  | .loop x=>∃a,c0= .loop a/\db P G a=some x
  | .exit id=>c0= .exit id
  | .ret=>c0= .ret
  | .cq is=>∃id ops,c0= .region id ops false/\mS P G ops ops.toList.length ops.toList=some is
  | .VL is es fs=>∃id ops,c0= .region id ops true/\P.follows .mixedOrders=true/\es=Vw ops/\atj P G ops ops.toList=some is
  | .gh _ _=>False:=by
 cases c0 with
 |skip=>simp only[db,di] at h;subst h;rfl
 |seq a b=>
  simp only[db] at h;obtain⟨x1,h1,h⟩:=ba h;obtain⟨y1,h2,rfl⟩:=rl h;exact⟨a,b,rfl,h1,h2⟩
 |cond c a b=>
  simp only[db] at h;obtain⟨c1,h0,h⟩:=ba h;obtain⟨x1,h1,h⟩:=ba h;obtain⟨y1,h2,rfl⟩:=rl h;exact⟨c,a,b,rfl,h0,h1,h2⟩
 |block id a=>
  simp only[db] at h;obtain⟨y1,h2,rfl⟩:=rl h;exact⟨a,rfl,h2⟩
 |loop a=>
  simp only[db] at h;obtain⟨y1,h2,rfl⟩:=rl h;exact⟨a,rfl,h2⟩
 |exit id=>simp only[db,di] at h;subst h;rfl
 |ret=>simp only[db,di] at h;subst h;rfl
 |region id ops draw=>
  cases draw with
  |true=>
   simp only[db] at h;split at h
   ·rename_i hm;obtain⟨is,h2,rfl⟩:=rl h;exact⟨id,ops,rfl,hm,rfl,h2⟩
   simp at h
  |false=>
  simp only[db] at h;obtain⟨is,h2,rfl⟩:=rl h;exact⟨id,ops,rfl,h2⟩
 |rangeFunc _ _ _ _=>simp[db] at h
 |scope _=>simp[db] at h
 |label _=>simp[db] at h
 |goto _=>simp[db] at h
 |refuse _=>simp[db] at h
def go_sound (hS:∀l,live K.H0 l->l.entry=true) (Q:gI):∀(n:Nat) (k:List It) (ck:List EW),mo k<=n->iF (C6 K.P K.G) ck k ->
  ∀env H,go ⟨K.P,K.G,K.N⟩ Q k env H->J8 K Q ck env H:=by
 intro n;induction n with
 |zero=>
  intro k ck hn hc env H hg β a w hr;cases hc with
  |nil=>
   rw[go] at hg;exact⟨env,H,β,hg,hr⟩
  |@cons x i ck k h1 h2=>
  cases i with
  |code c=>have:=c.xe;simp only[mo,It.sz] at hn;omega
  |o6 id=>simp only[mo,It.sz] at hn;omega
 |succ n ih=>
 intro k ck hn hc env H hg β a w hr;cases hc with
 |nil=>
  rw[go] at hg;exact⟨env,H,β,hg,hr⟩
 |@cons x i ck k h1 h2=>
 cases h1 with
 |o6 id=>
  rw[go] at hg;simp only[PH,Exit.inBlock];exact ih k ck (by simp only[mo,It.sz] at hn;omega) h2 env H hg β a w hr
 |@code c0 c gq=>
 simp only[PH,Exit.then];have xg:=c.xe;cases c with
 |skip=>
  rw[go] at hg;simp only[AC.bare] at gq;have e:=NB gq;simp only at e;subst e;exact wp_skip (ih k ck (by simp only[mo,It.sz,AC.sz] at hn;omega) h2 env H hg β a w hr)
 |seq x y=>
  rw[go] at hg;obtain⟨x0,y0,rfl,e1,e2⟩:=NB gq;refine wp_seq ?_;have:=ih (.code x:: .code y::k) (.code x0:: .code y0::ck) (by simp only[mo,It.sz,AC.sz] at hn ⊢;omega) (.cons (.code e1) (.cons (.code e2) h2)) env H hg β a w hr;simpa only[PH,Exit.then] using this
 |cond x y z=>
  rw[go] at hg;obtain⟨o0,y0,z0,rfl,e0,e1,e2⟩:=NB gq;obtain⟨t,ht,g1,g2⟩:=hg;have hv:=hr.ev e0;rw[ht] at hv;simp only[RV] at hv;refine wp_cond_split hv ?_ ?_<;>intro h
  ·have:=ih (.code y::k) (.code y0::ck) (by simp only[mo,It.sz,AC.sz] at hn ⊢;omega) (.cons (.code e1) h2) env H (g1 h) β a w hr;simpa only[PH,Exit.then] using this
  have:=ih (.code z::k) (.code z0::ck) (by simp only[mo,It.sz,AC.sz] at hn ⊢;omega) (.cons (.code e2) h2) env H (g2 h) β a w hr;simpa only[PH,Exit.then] using this
 |block id c=>
  rw[go] at hg;obtain⟨c1,rfl,e1⟩:=NB gq;refine wp_block ?_;have:=ih (.code c:: .o6 id::k) (.code c1:: .o6 id::ck) (by simp only[mo,It.sz,AC.sz] at hn ⊢;omega) (.cons (.code e1) (.cons (.o6 id) h2)) env H hg β a w hr;simpa only[PH,Exit.then] using this
 |loop c=>
  rw[go] at hg;obtain⟨c1,rfl,e1⟩:=NB gq;have:=hg K rfl hS c1 ck e1 h2 β a w hr;simpa only[PH,Exit.then] using this
 |exit id=>
  simp only[AC.bare] at gq;have e:=NB gq;simp only at e;subst e;have hp:=ja (P:=K.P) (G:=K.G) (lift K Q) (id:=id) ck k h2;refine wp_exit ?_;cases vy:dR id k with
  |some k'=>
   rw[lJ vy] at hg;rw[vy] at hp;obtain⟨wz,e1,e2⟩:=hp;have:=lH vy;exact e2 a w (ih k' wz (by simp only[mo,It.sz,AC.sz] at hn;omega) e1 env H hg β a w hr)
  |none=>
  rw[lL vy] at hg;rw[vy] at hp;exact hp a w ⟨env,H,β,hg,hr⟩
 |ret=>
  simp only[AC.bare] at gq;have e:=NB gq;simp only at e;subst e;rw[go] at hg;exact wp_ret (nR _ _ _ _ _ ⟨env,H,β,hg,hr⟩)
 |cq is=>
  obtain⟨id,ops,rfl,e1⟩:=NB gq;rw[go] at hg;refine wp_region_list ?_;refine w9 (λenv' H' β' a' w' q1 q2=> ?_) (nS _ _ _ e1) env H a w β hg hr;exact ih k ck (by simp only[mo,It.sz,AC.sz] at hn;omega) h2 env' H' q1 β' a' w' q2
 |VL is es fs=>
  obtain⟨id,ops,rfl,hm,rfl,e1⟩:=NB gq;rw[go] at hg;refine ri hr hm (j6 _ _ e1) hg.1 (λenv' H' β' a' w' q1 q2=> ?_) hg.2;exact ih k ck (by simp only[mo,It.sz,AC.sz] at hn;omega) h2 env' H' q1 β' a' w' q2
 |gh g c=>
 have xh:db K.P K.G c0=some c.bare:=gq;have kI:∀env' H',go ⟨K.P,K.G,K.N⟩ Q (.code c::k) env' H'->∀β',aH K β' env' H' a w->c0.wp K.P (PH K.P (lift K Q) ck) a w:=by
  intro env' H' h β' lz;have:=ih (.code c::k) (.code c0::ck) (by simp only[mo,It.sz,AC.sz] at hn ⊢;omega) (.cons (.code xh) h2) env' H' h β' a w lz;simpa only[PH,Exit.then] using this
 cases g with
 |cX ns=>rw[go] at hg;exact kI _ _ hg β (hr.nP ns)
 |cut m=>rw[go] at hg;exact kI _ _ hg β hr
 |vk=>
  rw[go] at hg;obtain⟨env2,H2,g1,g2⟩:=hg;obtain⟨β',lz⟩:=g1 K β a w rfl hS hr;exact kI _ _ g2 β' lz
 |J6=>
  rw[go] at hg;obtain⟨T,E,HH,g1,g2⟩:=hg;obtain⟨t,β',lz⟩:=g1 K β a w rfl hS hr;exact kI _ _ (g2 t) β' lz
 |J7=>
  cases c with
  |VL is es fs=>
   obtain⟨id,ops,rfl,hm,rfl,e1⟩:=NB xh;rw[go] at hg;refine s7 hr hm (j6 _ _ e1) hg.1 (λenv' H' β' a' w' q1 q2=> ?_) hg.2;exact ih k ck (by simp only[mo,It.sz,AC.sz] at hn;omega) h2 env' H' q1 β' a' w' q2
  |_=>(rw[go] at hg)<;>first|exact hg.elim|(intro _ _ _ h;cases h)
 |own d sz=>
  rw[go] at hg;obtain⟨g1,g2,g3,g4⟩:=hg;have h3:=hr.OI (.loc d) g3 (r:=⟨sz,[]⟩) (Below.refl _ _) none tM tM ⟨g2,tM,tM⟩;have hv:=h3.N8 d;rw[g1] at hv;simp only[RV] at hv;obtain⟨ad,hv⟩:=hv;exact kI _ _ g4 _ (um h3 d (by rw[hv];simp only[RV];exact⟨ad,0,rfl,PW _,by simp[maxLen],tM,λ_=> .inl rfl⟩) aad)
 |zS l d=>
  rw[go] at hg;obtain⟨sz,xs,i,n,g1,g2,g3,g4,g5,g6⟩:=hg;have hv:=hr.N8 d;rw[g1] at hv;exact kI _ _ g6 _ (um (hr.kill l (by rw[g2];simp)) d (xf hr g2 g3 g4 g5 hv) aad)
 |xd l q j=>
 rw[go] at hg;obtain⟨sz,xs,i,n,cs,g1,g2,g3,g4,g5,g6,g7,g8⟩:=hg;have hk:=hr.kill l (by rw[g3];simp);have hq:bD H l .dead q= .live ⟨cs.length,[cs]⟩:=by rw[aq _ _ (Ss g5)];exact g1
 have gm:0<cs.length:=(hr.rows q _ g1).1;cases hb:β q with
 |none=>
  have:=(hr.rows q _ g1).2.2;simp[hb] at this
 |some g=>
 obtain⟨cur,e0,cap,k1,k2,k3,k4,k5⟩:=(hr.rows q _ g1).block hb;obtain⟨cur',Mh,K9,J9,Mi,Mj,Mk,K'⟩:=(hk.rows q _ hq).block hb;rw[k1] at J9;cases J9;have zk:j<cs.length:=(yY.1 g2).1;have vf:=hk.setRow q (r':=⟨cs.length,[cs.set j (.list ((xs.drop i).take n))]⟩) (cur':=cur) (cap:=cap) hq hb k1 rfl rfl k2 k3 (by simpa using k4) tM
  (by
   intro ds ua p hp;simp at ua;subst ua;have:p∈ah cs:=by
    obtain⟨y,hy,J'⟩:∃y∈cs.set j (.list ((xs.drop i).take n)),p∈y.an:=by
     generalize cs.set j (.list ((xs.drop i).take n))=ds at hp;induction ds with
     |nil=>simp[ah] at hp
     |cons y r IG=>
     simp only[ah,QL] at hp;rcases hp with hp|hp
     ·exact⟨y,tM,hp⟩
     obtain⟨z,hz,K_⟩:=IG hp;exact⟨z,by simp[hz],K_⟩
    rcases Vg hy with hy|rfl
    ·obtain⟨m,hm⟩:=Sw hy;exact cW _ _ _ hm p J'
    simp[AV.an] at J'
   have:=hk.cH q _ hq cs tM p this;exact this)
  (by
   intro i' j' ds x0 ed iX;cases i' with
   |succ i'=>simp at ed
   |zero=>
   simp at ed;subst ed;by_cases e:j'=j
   ·subst e;rw[Wj zk] at iX;cases iX;obtain⟨v,q1,q2⟩:=k5 0 j' cs _ tM g2;exact⟨v,q1,xf hr g3 g4 g6 g7 q2⟩
   rw[Bd (Ss e)] at iX;exact K' 0 j' cs x0 tM iX)
 have j0:w.setRow g cur=w:=setRow_self w g cur e0 (0,0) k1;rw[j0] at vf;exact kI _ _ g8 _ vf
end

abbrev RO:=Option (Option Nat)×Nat
def uo (P:Program):ResultVar->Option RO
 | .tmp t=>some (none,t)
 | .cell a t=>(u5 P t).map λm=>(some m,a)
def mr (P:Program):List ResultVar->Option (List RO)
 |[]=>some []
 |r::s=>(uo P r).bind λx=>(mr P s).map λy=>x::y
def oO (r:RO) (env:Env) (H:Hp):Option AV:=
 match r.1 with
 |none=>some (env r.2)
 |some m=>Wl m (env r.2) H
def ef (env:Env) (H:Hp):List RO->Option (List AV)
 |[]=>some []
 |r::s=>(oO r env H).bind λx=>(ef env H s).map λy=>x::y
def gD:List AV->AV
 |[x]=>x
 |xs=> .gf xs
def fX (rs:List RO) (R:AV->Hp->Prop):gI:=λe env H=>(e= .normal\/e= .ret)/\∃xs,ef env H rs=some xs/\R (gD xs) H
def abb {p:Prop} (h:p:=by simp[fX,ef,oO,gD]):p:=h
def jP (args:List AV):Env:=λn=>args.getD n .un
def aw (P:Program) (G:Nat->Option (List IV)) (f:Nat):Option (Nat×List RO×AC):=
 (P.funcs[f]?).bind λfn=>fn.body.bind λc=>(mr P fn.results.toList).bind λrs=>(db P G c).map λx=>(fn.ntmps,rs,x)
section
variable {K:Kx} {β:Lb->Option Nat} {env:Env} {H:Hp} {a:Act} {w:World}
theorem s8 (hr:aH K β env H a w) {rv:ResultVar} {r:RO} (hc:uo K.P rv=some r) {x:AV} (hx:oO r env H=some x) :
  ∃v,(match rv with
   | .tmp t=>(pure (a.tmps.getD t undef):Sem Value)
   | .cell b t=>do loadVar t (<-asAddr (a.tmps.getD b undef))).run K.P w= .ok v w/\RV w β H (Im K β H) x v/\∀l∈x.an,H l≠ .unused:=by
 cases rv with
 |tmp t=>
  simp only[uo,di] at hc;subst hc;simp only[oO,di] at hx;subst hx;exact⟨_,tM,hr.N8 t,hr.eI t⟩
 |cell b t=>
 simp only[uo] at hc;obtain⟨m,h1,rfl⟩:=rl hc;simp only[oO] at hx;obtain⟨v,q1,q3,q4⟩:=t_ (o:={(default:Oper) with op:= .load t (.tmp b)}) (x':= .t b) hr rfl h1 rfl hx;have hv:=hr.N8 b;cases he:env b with
 |ptr l sz i j=>
  rw[he] at hv;simp only[RV] at hv;obtain⟨ad,e1,e2⟩:=hv;simp only[execOp,Act.eval,e1,Instr.loadAt,Instr.sureAddr,Sem.run_bind,Sem.run_pure,Result.andThen_ok] at q1;refine⟨v,?_,q3,q4⟩;simp only[e1,asAddr,Sem.run_bind,Sem.run_pure,Result.andThen_ok];cases hl:(loadVar t ad).run K.P w with
  |ok u w2=>
   rw[hl] at q1;simp only[Result.andThen_ok,Result.ok.injEq] at q1;obtain⟨q1,rfl⟩:=q1;cases q1;rfl
  |_=>rw[hl] at q1;simp at q1
 |_=>rw[he] at hx;simp[Wl] at hx
theorem mT (hr:aH K β env H a w):∀(Hw:List ResultVar) (rs:List RO) (xs:List AV),mr K.P Hw=some rs->ef env H rs=some xs ->
  ∃vs,(Hw.mapM (m:=Sem) fun
   | .tmp t=>(pure (a.tmps.getD t undef):Sem Value)
   | .cell b t=>do loadVar t (<-asAddr (a.tmps.getD b undef))).run K.P w= .ok vs w/\br w β H (Im K β H) xs vs/\∀l∈ah xs,H l≠ .unused
 |[],rs,xs,hc,hx=>by
  simp only[mr,di] at hc;subst hc;simp only[ef,di] at hx;subst hx;exact⟨[],tM,abG,by simp[ah]⟩
 |rv::Hw,rs,xs,hc,hx=>by
  simp only[mr] at hc;obtain⟨r,h1,hc⟩:=ba hc;obtain⟨EX,h2,rfl⟩:=rl hc;simp only[ef] at hx;obtain⟨x,h3,hx⟩:=ba hx;obtain⟨nN,h4,rfl⟩:=rl hx;obtain⟨v,e1,e2,e3⟩:=s8 hr h1 h3;obtain⟨vs,k1,k2,k3⟩:=mT hr Hw EX nN h2 h4;refine⟨v::vs,?_,⟨v,vs,rfl,e2,k2⟩,?_⟩
  ·rw[List.mapM_cons];simp only[Sem.run_bind,e1,Result.andThen_ok,k1,Sem.run_pure]
  intro l hl;simp only[ah,QL] at hl;rcases hl with hl|hl
  ·exact e3 l hl
  exact k3 l hl
def oP (hr:aH K β env H a w) {fn:Func} {rs:List RO} {xs:List AV} (hc:mr K.P fn.results.toList=some rs) (hx:ef env H rs=some xs) :
  ∃v,(results fn a.tmps).run K.P w= .ok v w/\RV w β H (Im K β H) (gD xs) v/\∀l∈(gD xs).an,H l≠ .unused:=by
 obtain⟨vs,h1,h2,h3⟩:=mT hr _ _ _ hc hx;have hlen:=br.len _ _ h2;have gY:(results fn a.tmps).run K.P w= .ok (if h:vs.toArray.size=1 then vs.toArray[0] else .tuple vs.toArray) w:=by
  unfold results;rw[Array.mapM_eq_mapM_toList];simp only[Sem.run_bind,Sem.run_pure,map_eq_pure_bind];exact(VZ (λr:Result (List Value)=>(r.andThen λa w'=>Result.ok a.toArray w').andThen λa w'=>Result.ok (if h:a.size=1 then a[0] else Value.tuple a) w') h1).trans rfl
 refine⟨_,gY,?_⟩
 match xs,h2,h3,hlen with
 |[],h2,h3,hlen=>
  simp only[br] at h2;subst h2;simp[gD,RV,br,AV.an,ah]
 |[x],h2,h3,hlen=>
  simp only[br] at h2;obtain⟨v,us,rfl,e1,rfl⟩:=h2;simp only[gD];exact⟨by simpa using e1,λl hl=>h3 l (by simp[ah,hl])⟩
 |x::y::r,h2,h3,hlen=>
  have:vs.toArray.size≠1:=by simp;simp at hlen;omega
  rw[dif_neg this];simp only[gD,RV,AV.an];exact⟨⟨vs,rfl,h2⟩,h3⟩
def xi (args:List AV) (n:Nat) (l:Lb) (h:l∈(jP args n).an):l∈ah args:=by
 unfold jP at h;rw[zf] at h;cases hx:args[n]? with
 |none=>rw[hx] at h;simp[AV.an] at h
 |some x=>rw[hx] at h;exact cW _ _ _ hx l (by simpa using h)
def WY {P:Program} {G:Nat->Option (List IV)} {f:Nat} {n:Nat} {rs:List RO} {ac:AC} {args:List AV} {R:AV->Hp->Prop}
   (hF:aw P G f=some (n,rs,ac.bare)) (hn:args.length<=n) (IH:∀l,live H l->l.entry=true) (hm:∀l∈ah args,H l≠ .unused)
   (hg:go ⟨P,G,n⟩ (fX rs R) [.code ac] (jP args) H):ey P G f args H R:=by
 unfold aw at hF
 obtain⟨fn,hf,hF⟩:=ba hF
 obtain⟨c,hb,hF⟩:=ba hF
 obtain⟨EX,kV,hF⟩:=ba hF
 obtain⟨x,La,hF⟩:=rl hF
 simp only[eS] at hF
 obtain⟨rfl,rfl,rfl⟩:=hF
 intro w A β vs hr hv
 have hlen:=br.len _ _ hv
 refine calls_of_wp hf hb ?_
 have gm:vs.toArray.size=args.length:=by simpa using hlen
 let K:Kx:=⟨P,G,w,A,wU β H,fn.ntmps,H,β⟩
 have ju:aH K β (jP args) H {tmps:=vs.toArray++Array.replicate (fn.ntmps - vs.toArray.size) undef,defers:=[]} w:=
   { defers := rfl
     size:=by simp only[Array.size_append,Array.size_replicate,gm,K];omega
     N8 := fun m => by
       have jY:(vs.toArray++Array.replicate (fn.ntmps - vs.toArray.size) undef).getD m undef=(vs[m]?).getD undef:=by
         rw[nY]
         by_cases Lc:m<vs.length
         · rw[Wz (by simpa using Lc)];simp
         rw[Array.getElem?_append_right aak,WJ]
         rw[dV sf]
         split<;>simp
       simp only
       rw[jY]
       unfold jP
       rw[zf]
       cases hx:args[m]? with
       |none=>
         have:vs[m]?=none:=by
           rw[ow] at hx ⊢;omega
         rw[this];simp[RV,undef]
       |some y=>
       obtain⟨u,h1,h2⟩:=br.get _ _ _ _ hv hx
       rw[h1];exact h2
     rows:=hr.rows
     own:=hr.own
     inj:=hr.inj
     eI:=λm l hl=>hm l (xi args m l hl)
     cH:=hr.cH
     frame:=hr.frame
     W5:=hr.W5
     gA:=hr.gA
     fr:=hr.fr}
 have dN:iF (C6 P G) [.code c] [.code ac]:= .cons (.code La) .nil
 have:=go_sound (K:=K) IH (fX EX R) (mo [.code ac]) [.code ac] [.code c] (PW _) dN (jP args) H hg β _ w ju
 simp only[PH,Exit.then] at this
 refine wp_mono this ?_
 intro e a' w' hq
 have key:∀a' w',(lift K (fX EX R) .normal a' w'\/lift K (fX EX R) .ret a' w')->a'.defers=[]/\∃v,(results fn a'.tmps).run P w'= .ok v w' /\
     ∃v' x H' β',Ending.returned v= .returned v'/\R x H'/\aH (b8 P G w A β H) β' Env.any H' lB w' /\
     RV w' β' H' (Im (b8 P G w A β H) β' H') x v'/\∀l∈x.an,H' l≠ .unused:=by
   intro a' w' h
   have:∃e env' H' β',fX EX R e env' H'/\aH K β' env' H' a' w':=by
     rcases h with⟨env',H',β',h⟩|⟨env',H',β',h⟩<;>exact⟨_,env',H',β',h⟩
   obtain⟨e,env',H',β',⟨_,xs,h1,h2⟩,h3⟩:=this
   obtain⟨v,k1,k2,k3⟩:=oP h3 kV h1
   refine⟨h3.defers,v,k1,v,_,H',β',rfl,h2,?_,k2,k3⟩
   exact
     { defers := rfl
       size:=rfl
       N8:=λm=>by simp[Env.any,RV]
       rows:=h3.rows
       own:=h3.own
       inj:=h3.inj
       eI:=λm=>by simp[Env.any,AV.an]
       cH:=h3.cH
       frame:=h3.frame
       W5:=h3.W5
       gA:=h3.gA
       fr:=h3.fr}
 cases e with
 |normal=>exact key a' w' (.inl hq)
 |ret=>exact key a' w' (.inr hq)
 |panic ch=>obtain⟨_,_,_,⟨h,_⟩,_⟩:=hq;simp at h
 |exit id=>obtain⟨_,_,_,⟨h,_⟩,_⟩:=hq;simp at h
 |goto l=>obtain⟨_,_,_,⟨h,_⟩,_⟩:=hq;simp at h
 |outgrown=>obtain⟨_,_,_,⟨h,_⟩,_⟩:=hq;simp at h
def aR {P:Program} {G:Nat->Option (List IV)} {f:Nat} {n:Nat} {rs:List RO} {ac:AC} {args:List AV} {res:AV}
  (hF:aw P G f=some (n,rs,ac.bare)) (hn:args.length<=n) (hl:ah args=[]) (II:res.an=[])
  (hg:go ⟨P,G,n⟩ (fX rs λx _=>x=res) [.code ac] (jP args) Hp.none):au P G f args res:=
 ⟨hl,II,WY hF hn (λl ⟨r,h⟩=>by simp[Hp.none] at h) (by simp[hl]) hg⟩
end

structure Wk (ρ:Lb->Lb) (env:Env) (H:Hp) (env2:Env) (H2:Hp):Prop where
 e:∀n,env2 n= .any\/env n=bJ ρ (env2 n)
 h:∀l r,H2 l= .live r->H (ρ l)= .live (dO ρ r)
 inj:∀l l',live H2 l->live H2 l'->ρ l=ρ l'->l=l'
 m:∀n,∀l∈(env2 n).an,H2 l≠ .unused
 rm:∀l r,H2 l= .live r->∀cs∈r.els,∀q∈ah cs,H2 q≠ .unused
 st:∀l,l.entry=true->(H l≠ .unused->H2 l≠ .unused)/\(live H2 l->ρ l=l)
 fr:∀l,live H2 l->l.fresh=true->(ρ l).fresh=true
def rj {σ:Type} (S:St) (Q:gI) (k:List It) (E:σ->Env) (HH:σ->Hp) (μ:σ->Nat) (n:Nat):gI:=λe env H=>
 match e with
 | .normal=>∃s,μ s<n/\∃ρ,Wk ρ env H (E s) (HH s)
 | .exit id=>match dR id k with
  |some k'=>go S Q k' env H
  |none=>Q (.exit id) env H
 | .ret=>Q .ret env H
 |_=>False
def Wk.rel {K:Kx} {β:Lb->Option Nat} {env:Env} {H:Hp} {a:Act} {w:World} {ρ:Lb->Lb} {env2:Env} {H2:Hp} (hS:∀l,live K.H0 l->l.entry=true) (h:Wk ρ env H env2 H2) (hr:aH K β env H a w) :
  aH K (λl=>β (ρ l)) env2 H2 a w:=
 hr.vk ρ h.e h.h h.inj h.m h.rm (λl hl=>⟨(h.st l (hS l hl)).1 (hr.gA l hl).1,(h.st l (hS l hl)).2⟩) h.fr
def fY {σ:Type} {S:St} {Q:gI} {c:AC} {k:List It} {env:Env} {H:Hp} (E:σ->Env) (HH:σ->Hp) (μ:σ->Nat) (s0:σ) (ρ:Lb->Lb) (h0:Wk ρ env H (E s0) (HH s0))
  (round:∀s,go S (rj S Q k E HH μ (μ s)) [.code c] (E s) (HH s)):lI S Q c k env H:=by
 intro K IJ hS c0 ck hc dN β a w hr;subst IJ;simp only[PH,Exit.then];refine wp_loop_ghost (λn a w=>∃s β,μ s=n/\aH K β (E s) (HH s) a w) (μ s0) ⟨s0,_,rfl,h0.rel hS hr⟩ ?_;rintro n a w ⟨s,β,rfl,hr⟩;have hs:=go_sound (K:=K) hS _ (mo [.code c]) [.code c] [.code c0] (PW _) (.cons (.code hc) .nil) (E s) (HH s) (round s) β a w hr;simp only[PH,Exit.then] at hs;refine wp_mono hs ?_;rintro e a' w' ⟨env',H',β',hq,lz⟩;cases e with
 |normal=>
  obtain⟨s',bI,ρ',hw⟩:=hq;exact⟨μ s',bI,s',_,rfl,hw.rel hS lz⟩
 |exit id=>
  have hp:=ja (P:=K.P) (G:=K.G) (lift K Q) (id:=id) ck k dN;simp only[rj] at hq;show PH K.P (lift K Q) ck (.exit id) a' w';cases vy:dR id k with
  |some k'=>
   rw[vy] at hp hq;obtain⟨wz,e1,e2⟩:=hp;exact e2 a' w' (go_sound (K:=K) hS Q (mo k') k' wz (PW _) e1 env' H' hq β' a' w' lz)
  |none=>
  rw[vy] at hp hq;exact hp a' w' ⟨env',H',β',hq,lz⟩
 |ret=>exact nR _ _ _ _ _ ⟨env',H',β',hq,lz⟩
 |goto l=>exact hq.elim
 |panic ch=>exact hq.elim
 |outgrown=>exact hq.elim

inductive Tk {α:Type 1} (a:α):Type
 |mk
inductive Tp (a c:Prop):Type
 |mk
inductive Tv {α:Type} (a:α->Prop):Type
 |mk
inductive Tw (a:AV->Hp->Prop):Type
 |mk
def cw (o:Option AV) (k:AV->Prop) (_:Tv k):Prop:=∃x,o=some x/\k x
def aam {p:Prop} (h:p:=by simp only[akH,Quiet,cw,QV]):p:=h
def gB (x:AV) (t:Bool) (A B:Prop) (_:Tp A B):Prop:=
 match x with
 | .bool b=>if b=t then A else B
 | .un=>B
 |_=>False
def aby {p:Prop} (h:p:=by simp[gB]):p:=h
def cK (x:AV) (A B:Prop) (_:Tp A B):Prop:=
 match x with
 | .bool b=>if b=true then A else B
 |_=>False
def hK (o:Option Hp) (k:Hp->Prop) (_:Tv k):Prop:=∃x,o=some x/\k x
def pK (o:Option (AV×Hp)) (k:AV->Hp->Prop) (_:Tw k):Prop:=∃x h,o=some (x,h)/\k x h
def C7 (S:St) (f:Nat) (args:List AV) (H:Hp) (k:AV->Hp->Prop) (_:Tw k):Prop:=jJ S f args H k
def F6 (S:St) (f:Nat) (args:List AV) (k:AV->Prop) (_:Tv k):Prop:=∃x,au S.P S.G f args x/\k x
section
variable {S:St} {Q:gI} {env:Env} {H:Hp} {k:List It}
def xj (x:AV) (k:AV->Prop) (u:Tv k):cw (some x) k u=k x:=by simp[cw]
def zT (x:Hp) (k:Hp->Prop) (u:Tv k):hK (some x) k u=k x:=by simp[hK]
def zU (x:AV) (h:Hp) (k:AV->Hp->Prop) (u:Tw k):pK (some (x,h)) k u=k x h:=by
 simp only[pK,di,eS];apply propext;constructor
 ·rintro⟨_,_,⟨rfl,rfl⟩,h⟩;exact h
 intro h;exact⟨_,_,⟨rfl,rfl⟩,h⟩
def IK (A B:Prop) (u:Tp A B):gB (.bool true) true A B u=A:=aby
def IL (A B:Prop) (u:Tp A B):gB (.bool false) true A B u=B:=aby
def F7 (A B:Prop) (u:Tp A B):gB (.bool true) false A B u=B:=aby
def F8 (A B:Prop) (u:Tp A B):gB (.bool false) false A B u=A:=aby
def IM (t:Bool) (A B:Prop) (u:Tp A B):gB .un t A B u=B:=aby
def IN (A B:Prop) (u:Tp A B):cK (.bool true) A B u=A:=by simp[cK]
def IP (A B:Prop) (u:Tp A B):cK (.bool false) A B u=B:=by simp[cK]
def C8 (k:Env->Hp->Prop):AO S [] env H k=k env H:=rfl
def zV (n:Nat) (i:U7) (r:List bh) (k:Env->Hp->Prop) :
  AO S (⟨some n,none,i⟩::r) env H k=(n<S.N/\bg S (some n) i env H λx H'=>AO S r (put env n x) H' k):=by
 simp[AO,gW,cV]
def zW (i:U7) (r:List bh) (k:Env->Hp->Prop) :
  AO S (⟨none,none,i⟩::r) env H k=bg S none i env H λx H'=>AO S r env H' k:=by
 simp[AO,gW,cV]
def xk (n s:Nat) (t:Bool) (i:U7) (r:List bh) (k:Env->Hp->Prop) :
  AO S (⟨some n,some (s,t),i⟩::r) env H k=(n<S.N/\gB (env s) t (bg S (some n) i env H λx H'=>AO S r (put env n x) H' k) (AO S r (put env n .un) H k) .mk):=by
 simp only[AO,gW,cV];cases he:env s<;>simp[gB,he];rename_i b;cases b<;>cases t<;>simp
def vA (s:Nat) (t:Bool) (i:U7) (r:List bh) (k:Env->Hp->Prop) :
  AO S (⟨none,some (s,t),i⟩::r) env H k=gB (env s) t (bg S none i env H λx H'=>AO S r env H' k) (AO S r env H k) .mk:=by
 simp only[AO,gW,cV];cases he:env s<;>simp[gB,he];rename_i b;cases b<;>cases t<;>simp
def xl (j n:Nat) (i:U7) (f:Fp) (r:List (Nat×bh×Fp)) (k:Env->Hp->Prop) :
  jO S ((j,⟨some n,none,i⟩,f)::r) env H k=(n<S.N/\akH S f (some n) i env H λx H'=>jO S r (put env n x) H' k):=by
 simp[jO,qF,gW,cV]
def xm (j:Nat) (i:U7) (f:Fp) (r:List (Nat×bh×Fp)) (k:Env->Hp->Prop) :
  jO S ((j,⟨none,none,i⟩,f)::r) env H k=akH S f none i env H λx H'=>jO S r env H' k:=by
 simp[jO,qF,gW,cV]
def vB (j n s:Nat) (t:Bool) (i:U7) (f:Fp) (r:List (Nat×bh×Fp)) (k:Env->Hp->Prop) :
  jO S ((j,⟨some n,some (s,t),i⟩,f)::r) env H k=(n<S.N/\gB (env s) t (akH S f (some n) i env H λx H'=>jO S r (put env n x) H' k) (jO S r (put env n .un) H k) .mk):=by
 simp only[jO,qF,gW,cV];cases he:env s<;>simp[gB,he];rename_i b;cases b<;>cases t<;>simp
def C9:go S Q [] env H=Q .normal env H:=by rw[go]
def C' (id:Nat):go S Q (.o6 id::k) env H=go S Q k env H:=by rw[go]
def zX:go S Q (.code .skip::k) env H=go S Q k env H:=by rw[go]
def C_ (a b:AC):go S Q (.code (.seq a b)::k) env H=go S Q (.code a:: .code b::k) env H:=by rw[go]
def zY (x:O) (a b:AC):go S Q (.code (.cond x a b)::k) env H=cK (ev env x) (go S Q (.code a::k) env H) (go S Q (.code b::k) env H) .mk:=by
 rw[go];unfold cK;apply propext;constructor
 ·rintro⟨t,h1,h2,h3⟩;rw[h1];cases t
  ·simpa using h3 rfl
  simpa using h2 rfl
 intro h;split at h
 ·rename_i t e;refine⟨t,e,λe2=> ?_,λe2=> ?_⟩<;>subst e2<;>simpa using h
 exact h.elim
def xn (id:Nat) (c:AC):go S Q (.code (.block id c)::k) env H=go S Q (.code c:: .o6 id::k) env H:=by rw[go]
def zZ (c:AC):go S Q (.code (.loop c)::k) env H=lI S Q c k env H:=by rw[go]
def Da:go S Q (.code .ret::k) env H=Q .ret env H:=by rw[go]
def Db (is:List bh):go S Q (.code (.cq is)::k) env H=AO S is env H (go S Q k):=by rw[go]
def z6 (ns:List Nat) (c:AC):go S Q (.code (.gh (.cX ns) c)::k) env H=go S Q (.code c::k) (nP ns env) H:=by rw[go]
def Dc (l:Lb) (d:Nat) (c:AC):go S Q (.code (.gh (.zS l d) c)::k) env H=∃sz xs i n,env d= .sl l sz i n/\H l= .live ⟨sz,aB xs⟩/\l.fresh=true/\i+n<=xs.length/\Flat xs /\
 go S Q (.code c::k) (put env d (.list ((xs.drop i).take n))) (bD H l .dead):=by rw[go]
def Dd (d sz:Nat) (c:AC):go S Q (.code (.gh (.own d sz) c)::k) env H=(env d= .nil0/\0<sz/\H (.loc d)= .unused/\go S Q (.code c::k) (put env d (.sl (.loc d) sz 0 0)) (bD H (.loc d) (.live ⟨sz,[]⟩))):=by rw[go]
def Ox (c:AC):go S Q (.code (.gh .vk c)::k) env H=∃env2 H2,nQ S env H env2 H2/\go S Q (.code c::k) env2 H2:=by rw[go]
def ad4 (c:AC):go S Q (.code (.gh .J6 c)::k) env H=∃(T:Type) (E:T->Env) (HH:T->Hp),Choice S env H T E HH/\∀t,go S Q (.code c::k) (E t) (HH t):=by rw[go]
theorem z7 (id:Nat):go S Q (.code (.exit id)::k) env H=match dR id k with
  |some k'=>go S Q k' env H
  |none=>Q (.exit id) env H:=by
 cases h:dR id k with
 |some k'=>rw[lJ h]
 |none=>rw[lL h]
def amy (n:Nat) (i:bh) (is:List bh) (f:Fp) (fs:List Fp):items n (i::is) (f::fs)=(n,i,f)::items (n+1) is fs:=rfl
def De d x (k:AV->Hp->Prop):bg S d (.iC x) env H k=cw (c6 (.iC x) env) (λx=>k x H) .mk:=rfl
def z8 d c a b (k:AV->Hp->Prop):bg S d (.pick c a b) env H k=cw (c6 (.pick c a b) env) (λx=>k x H) .mk:=rfl
def Df d a off (k:AV->Hp->Prop):bg S d (.wj a off) env H k=cw (c6 (.wj a off) env) (λx=>k x H) .mk:=rfl
def Dg d x i n sz (k:AV->Hp->Prop):bg S d (.wC x i n sz) env H k=cw (c6 (.wC x i n sz) env) (λx=>k x H) .mk:=rfl
def Dh d x i sz (k:AV->Hp->Prop):bg S d (.Vc x i sz) env H k=cw (c6 (.Vc x i sz) env) (λx=>k x H) .mk:=rfl
def Di d x i (k:AV->Hp->Prop):bg S d (.lj x i) env H k=cw (c6 (.lj x i) env) (λx=>k x H) .mk:=rfl
def Dj d x (k:AV->Hp->Prop):bg S d (.len x) env H k=cw (c6 (.len x) env) (λx=>k x H) .mk:=rfl
def z_ d x (k:AV->Hp->Prop):bg S d (.lens x) env H k=cw (c6 (.lens x) env) (λx=>k x H) .mk:=rfl
def Dk d x lo hi mx sz (k:AV->Hp->Prop):bg S d (.zr x lo hi mx sz) env H k=cw (c6 (.zr x lo hi mx sz) env) (λx=>k x H) .mk:=rfl
def Aa d x lo hi (k:AV->Hp->Prop):bg S d (.ZL x lo hi) env H k=cw (c6 (.ZL x lo hi) env) (λx=>k x H) .mk:=rfl
def Dl d op x y (k:AV->Hp->Prop):bg S d (.bin op x y) env H k=cw (c6 (.bin op x y) env) (λx=>k x H) .mk:=rfl
def Dm d n x y (k:AV->Hp->Prop):bg S d (.eqb n x y) env H k=cw (c6 (.eqb n x y) env) (λx=>k x H) .mk:=rfl
def Dn d n x y (k:AV->Hp->Prop):bg S d (.zu n x y) env H k=cw (c6 (.zu n x y) env) (λx=>k x H) .mk:=rfl
def Dp d n x y (k:AV->Hp->Prop):bg S d (.zv n x y) env H k=cw (c6 (.zv n x y) env) (λx=>k x H) .mk:=rfl
def Ab d n ks x y (k:AV->Hp->Prop):bg S d (.pM n ks x y) env H k=cw (c6 (.pM n ks x y) env) (λx=>k x H) .mk:=rfl
def Dq d x (k:AV->Hp->Prop):bg S d (.not x) env H k=cw (c6 (.not x) env) (λx=>k x H) .mk:=rfl
def Dr d x (k:AV->Hp->Prop):bg S d (.neg x) env H k=cw (c6 (.neg x) env) (λx=>k x H) .mk:=rfl
def Ds d x y (k:AV->Hp->Prop):bg S d (.max x y) env H k=cw (c6 (.max x y) env) (λx=>k x H) .mk:=rfl
def Dt d x y (k:AV->Hp->Prop):bg S d (.min x y) env H k=cw (c6 (.min x y) env) (λx=>k x H) .mk:=rfl
def Du d x i (k:AV->Hp->Prop):bg S d (.ext x i) env H k=cw (c6 (.ext x i) env) (λx=>k x H) .mk:=rfl
def Dv d z ps (k:AV->Hp->Prop):bg S d (.sg z ps) env H k=cw (c6 (.sg z ps) env) (λx=>k x H) .mk:=rfl
def Ac d x off m (k:AV->Hp->Prop):bg S d (.pN x off m) env H k=cw (c6 (.pN x off m) env) (λx=>k x H) .mk:=rfl
def Ad d n sz z ps (k:AV->Hp->Prop):bg S d (.lits n sz z ps) env H k=cw (c6 (.lits n sz z ps) env) (λx=>k x H) .mk:=rfl
def Ae d x (k:AV->Hp->Prop):bg S d (.oC x) env H k=cw (c6 (.oC x) env) (λx=>k x H) .mk:=rfl
def Af d x (k:AV->Hp->Prop):bg S d (.dp x) env H k=cw (c6 (.dp x) env) (λx=>k x H) .mk:=rfl
def Dw d f cap (k:AV->Hp->Prop):bg S d (.zw f cap) env H k=cw (c6 (.zw f cap) env) (λx=>k x H) .mk:=rfl
def Dx d kd x (k:AV->Hp->Prop):bg S d (.qK kd x) env H k=cw (c6 (.qK kd x) env) (λx=>k x H) .mk:=rfl
def Dy d x (k:AV->Hp->Prop):bg S d (.YJ x) env H k=cw (c6 (.YJ x) env) (λx=>k x H) .mk:=rfl
def Dz d x (k:AV->Hp->Prop):bg S d (.zg x) env H k=cw (c6 (.zg x) env) (λx=>k x H) .mk:=rfl
def DA d x (k:AV->Hp->Prop):bg S d (.wm x) env H k=cw (c6 (.wm x) env) (λx=>k x H) .mk:=rfl
def Ag d t x (k:AV->Hp->Prop):bg S d (.pO t x) env H k=cw (c6 (.pO t x) env) (λx=>k x H) .mk:=rfl
def Ah (d:Option Nat) (m:Option Nat) (a:O) (k:AV->Hp->Prop):bg S d (.load m a) env H k=(cw (c6 (.load m a) env) (λx=>k x H) .mk\/cw (Wl m (ev env a) H) (λx=>k x H) .mk):=rfl
def B9 (m:Option Nat) (x:AV) (H:Hp):Option AV:=
 match x with
 | .lptr cs=>match m with
  |none=>cs[0]?.map IV.dQ
  |some k=>if k<=cs.length then some (.agg ((cs.take k).map IV.dQ)) else none
 |x=>Wl m x H
def F9 (d:Option Nat) (m:Option Nat) (a:O) (k:AV->Hp->Prop):bg S d (.load m a) env H k=cw (B9 m (ev env a) H) (λx=>k x H) .mk:=by
 rw[Ah];unfold B9;split
 ·rename_i cs e;simp only[c6,e,Wl,cw];apply propext;constructor
  ·rintro(h|⟨x,h,_⟩)
   ·exact h
   simp at h
  exact .inl
 rename_i x Vi;have:c6 (.load m a) env=none:=by
  simp only[c6]
 rw[this];simp[cw]
def DB (n:Nat) (cs:List AV) (k:AV->Hp->Prop):bg S (some n) (.new cs) env H k=(H (.loc n)= .unused/\0<cs.length/\cs.length<=maxLen /\
  k (.ptr (.loc n) cs.length 0 0) (bD H (.loc n) (.live ⟨cs.length,[cs]⟩))):=by
 simp[bg]
def vC (x:AV) (n:Nat) (H:Hp) (k:AV->Hp->Prop):Prop:=H (.loc n)= .unused/\x.sI=true/\0<x.cells.length/\x.cells.length<=maxLen /\
 k (.ptr (.loc n) x.cells.length 0 0) (bD H (.loc n) (.live ⟨x.cells.length,[x.cells]⟩))
def DC (n:Nat) (x:O) (k:AV->Hp->Prop):bg S (some n) (.box x) env H k=vC (ev env x) n H k:=by
 simp[bg,vC]
def xo (m:Nat) (a x:O) (k:AV->Hp->Prop):bg S none (.store m a x) env H k=hK (gZ m (ev env a) (ev env x) H) (λH'=>k .un H') .mk:=by
 simp[bg,hK]
def DD (n:Nat) (s x:O) (sz b:Nat) (k:AV->Hp->Prop):bg S (some n) (.app s x sz b) env H k=pK (jN sz b n (ev env s) (ev env x) H) k .mk:=by
 simp only[bg,pK,di];apply propext;constructor
 ·rintro⟨_,rfl,h⟩;exact h
 intro h;exact⟨_,rfl,h⟩
def Ai (d:Option Nat) (f:Nat) (args:List O) (k:AV->Hp->Prop):bg S d (.call f args) env H k=C7 S f (args.map (ev env)) H k .mk:=rfl
def ay {f:Nat} {args:List AV} {res:AV} {k:AV->Hp->Prop} (h:au S.P S.G f args res) (hk:k res H) {u:Tw k}:C7 S f args H k u:= .inl ⟨res,h,hk⟩
def jw {f:Nat} {args:List AV} {res:AV} {k:AV->Prop} (h:au S.P S.G f args res) (hk:k res) {u:Tv k}:F6 S f args k u:=⟨res,h,hk⟩
def Aj d x (k:AV->Hp->Prop):akH S .no d (.iC x) env H k=cw (c6 (.iC x) env) (λx=>k x H) .mk:=aam
def xp d c a b (k:AV->Hp->Prop):akH S .no d (.pick c a b) env H k=cw (c6 (.pick c a b) env) (λx=>k x H) .mk:=aam
def Ak d a off (k:AV->Hp->Prop):akH S .no d (.wj a off) env H k=cw (c6 (.wj a off) env) (λx=>k x H) .mk:=aam
def Al d x i sz (k:AV->Hp->Prop):akH S .no d (.Vc x i sz) env H k=cw (c6 (.Vc x i sz) env) (λx=>k x H) .mk:=aam
def An d x i n sz (k:AV->Hp->Prop):akH S .no d (.wC x i n sz) env H k=cw (c6 (.wC x i n sz) env) (λx=>k x H) .mk:=aam
def Ao d x i (k:AV->Hp->Prop):akH S .no d (.lj x i) env H k=cw (c6 (.lj x i) env) (λx=>k x H) .mk:=aam
def Ap d x (k:AV->Hp->Prop):akH S .no d (.len x) env H k=cw (c6 (.len x) env) (λx=>k x H) .mk:=aam
def xq d x (k:AV->Hp->Prop):akH S .no d (.lens x) env H k=cw (c6 (.lens x) env) (λx=>k x H) .mk:=aam
def Aq d x lo hi mx sz (k:AV->Hp->Prop):akH S .no d (.zr x lo hi mx sz) env H k=cw (c6 (.zr x lo hi mx sz) env) (λx=>k x H) .mk:=aam
def xr d x lo hi (k:AV->Hp->Prop):akH S .no d (.ZL x lo hi) env H k=cw (c6 (.ZL x lo hi) env) (λx=>k x H) .mk:=aam
def Ar d op x y (k:AV->Hp->Prop):akH S .no d (.bin op x y) env H k=cw (c6 (.bin op x y) env) (λx=>k x H) .mk:=aam
def As d n x y (k:AV->Hp->Prop):akH S .no d (.eqb n x y) env H k=cw (c6 (.eqb n x y) env) (λx=>k x H) .mk:=aam
def At d n x y (k:AV->Hp->Prop):akH S .no d (.zu n x y) env H k=cw (c6 (.zu n x y) env) (λx=>k x H) .mk:=aam
def Au d n x y (k:AV->Hp->Prop):akH S .no d (.zv n x y) env H k=cw (c6 (.zv n x y) env) (λx=>k x H) .mk:=aam
def xu d n ks x y (k:AV->Hp->Prop):akH S .no d (.pM n ks x y) env H k=cw (c6 (.pM n ks x y) env) (λx=>k x H) .mk:=aam
def Av d x (k:AV->Hp->Prop):akH S .no d (.not x) env H k=cw (c6 (.not x) env) (λx=>k x H) .mk:=aam
def Aw d x (k:AV->Hp->Prop):akH S .no d (.neg x) env H k=cw (c6 (.neg x) env) (λx=>k x H) .mk:=aam
def Ax d x y (k:AV->Hp->Prop):akH S .no d (.max x y) env H k=cw (c6 (.max x y) env) (λx=>k x H) .mk:=aam
def Ay d x y (k:AV->Hp->Prop):akH S .no d (.min x y) env H k=cw (c6 (.min x y) env) (λx=>k x H) .mk:=aam
def Az d x i (k:AV->Hp->Prop):akH S .no d (.ext x i) env H k=cw (c6 (.ext x i) env) (λx=>k x H) .mk:=aam
def AA d z ps (k:AV->Hp->Prop):akH S .no d (.sg z ps) env H k=cw (c6 (.sg z ps) env) (λx=>k x H) .mk:=aam
def xw d x off m (k:AV->Hp->Prop):akH S .no d (.pN x off m) env H k=cw (c6 (.pN x off m) env) (λx=>k x H) .mk:=aam
def xx d n sz z ps (k:AV->Hp->Prop):akH S .no d (.lits n sz z ps) env H k=cw (c6 (.lits n sz z ps) env) (λx=>k x H) .mk:=aam
def xy d x (k:AV->Hp->Prop):akH S .no d (.oC x) env H k=cw (c6 (.oC x) env) (λx=>k x H) .mk:=aam
def xz d x (k:AV->Hp->Prop):akH S .no d (.dp x) env H k=cw (c6 (.dp x) env) (λx=>k x H) .mk:=aam
def AB d f cap (k:AV->Hp->Prop):akH S .no d (.zw f cap) env H k=cw (c6 (.zw f cap) env) (λx=>k x H) .mk:=aam
def AD d kd x (k:AV->Hp->Prop):akH S .no d (.qK kd x) env H k=cw (c6 (.qK kd x) env) (λx=>k x H) .mk:=aam
def AE d x (k:AV->Hp->Prop):akH S .no d (.YJ x) env H k=cw (c6 (.YJ x) env) (λx=>k x H) .mk:=aam
def AF d x (k:AV->Hp->Prop):akH S .no d (.zg x) env H k=cw (c6 (.zg x) env) (λx=>k x H) .mk:=aam
def AG d x (k:AV->Hp->Prop):akH S .no d (.wm x) env H k=cw (c6 (.wm x) env) (λx=>k x H) .mk:=aam
def xA d t x (k:AV->Hp->Prop):akH S .no d (.pO t x) env H k=cw (c6 (.pO t x) env) (λx=>k x H) .mk:=aam
def xB d m a (k:AV->Hp->Prop):akH S .no d (.load m a) env H k=cw (c6 (.load m a) env) (λx=>k x H) .mk:=aam
def AH (d:Option Nat) (f:Nat) (args:List O) (k:AV->Hp->Prop):akH S .no d (.call f args) env H k=F6 S f (args.map (ev env)) (λx=>k x H) .mk:=by
 simp[akH,Quiet,c6,F6]
def s9 (env:Env) (n m:Nat) (x:AV):put env n x m=if m=n then x else env m:=rfl
end
def ai:=And.intro @Dg<|And.intro @De (And.intro @z8 (And.intro @Df (And.intro @Dh (And.intro @Di (And.intro @Dj (And.intro @z_ (And.intro @Dk (And.intro @Aa (And.intro @Dl (And.intro @Dm (And.intro @Dn (And.intro @Dp (And.intro @Ab (And.intro @Dq (And.intro @Dr (And.intro @Ds (And.intro @Dt (And.intro @Du (And.intro @Dv (And.intro @Ac (And.intro @Ad (And.intro @Ae (And.intro @Af (And.intro @Dw (And.intro @Dx (And.intro @Dy (And.intro @Dz (And.intro @DA (@Ag)))))))))))))))))))))))))))))
def aj:=And.intro @An<|And.intro @Aj (And.intro @xp (And.intro @Ak (And.intro @Al (And.intro @Ao (And.intro @Ap (And.intro @xq (And.intro @Aq (And.intro @xr (And.intro @Ar (And.intro @As (And.intro @At (And.intro @Au (And.intro @xu (And.intro @Av (And.intro @Aw (And.intro @Ax (And.intro @Ay (And.intro @Az (And.intro @AA (And.intro @xw (And.intro @xx (And.intro @xy (And.intro @xz (And.intro @AB (And.intro @AD (And.intro @AE (And.intro @AF (And.intro @AG (And.intro @xA (@xB))))))))))))))))))))))))))))))

def Wc (ρ:Lb->Lb) (env:Env):∀n,Env.any n= .any\/env n=bJ ρ (Env.any n):=λ_=> .inl rfl
def aT {ρ:Lb->Lb} {env e:Env} {d:Nat} {x:AV} (h1:env d=bJ ρ x) (h2:∀n,e n= .any\/env n=bJ ρ (e n)):∀n,put e d x n= .any\/env n=bJ ρ (put e d x n):=by
 intro n;unfold put;split
 ·next h=>subst h;exact .inr h1
 exact h2 n
def eB (H:Hp):∀n,∀l∈(Env.any n).an,H l≠ .unused:=by simp[Env.any,AV.an]
def aU {H:Hp} {e:Env} {d:Nat} {x:AV} (h1:∀l∈x.an,H l≠ .unused) (h2:∀n,∀l∈(e n).an,H l≠ .unused):∀n,∀l∈(put e d x n).an,H l≠ .unused:=by
 intro n;unfold put;split
 ·exact h1
 exact h2 n
mutual
theorem qc:∀x:AV,bJ id x=x
 | .sl ..| .slk ..| .ptr ..| .any| .un| .bool _| .int ..| .str _| .list _| .nil0| .jK| .iT| .lptr _| .mis _=>by simp[bJ]
 | .agg cs=>by simp[bJ,ki cs]
 | .gf cs=>by simp[bJ,ki cs]
 | .fn f fs cs=>by simp[bJ,ki fs,ki cs]
 | .ifc t x=>by simp[bJ,qc x]
theorem ki:∀xs:List AV,bu id xs=xs
 |[]=>by simp[bu]
 |x::r=>by simp[bu,qc x,ki r]
end
def qd (r:Row):dO id r=r:=by
 obtain⟨sz,els⟩:=r;simp only[dO,Row.mk.injEq,Su];rw[show bu id=id from funext ki];simp
def Wk.same {env:Env} {H:Hp} {env2:Env} (e:∀n,env2 n= .any\/env n=bJ id (env2 n)) (m:∀n,∀l∈(env2 n).an,H l≠ .unused)
  (rm:∀l r,H l= .live r->∀cs∈r.els,∀q∈ah cs,H q≠ .unused):Wk id env H env2 H:=
 ⟨e,λl r h=>by rw[qd];exact h,λ_ _ _ _ h=>h,m,rm,λl _=>⟨id,λ_=>rfl⟩,λ_ _ h=>h⟩
def Wk.none {env env2:Env} (e:∀n,env2 n= .any\/env n=bJ id (env2 n)) (m:∀n,∀l∈(env2 n).an,Hp.none l≠ .unused):Wk id env Hp.none env2 Hp.none:=
 .same e m abF
def wrap64 {n:Int} (h1: -9223372036854775808<=n) (h2:n<=9223372036854775807):IntKind.i64.wrap n=n:=by rw[IntKind.wrap_i64];omega
section
variable {σ:Type} {S:St} {Q:gI} {k:List It} {E:σ->Env} {HH:σ->Hp} {μ:σ->Nat} {n:Nat} {env:Env} {H:Hp}
def IQ:rj S Q k E HH μ n .normal env H=∃s,μ s<n/\∃ρ,Wk ρ env H (E s) (HH s):=rfl
theorem IS (id:Nat):rj S Q k E HH μ n (.exit id) env H=match dR id k with
 |some k'=>go S Q k' env H
 |none=>Q (.exit id) env H:=rfl
def IT:rj S Q k E HH μ n .ret env H=Q .ret env H:=rfl
def AI (id:Nat):dR id []=none:=rfl
def AJ (id i:Nat) (r:List It):dR id (.o6 i::r)=if i=id then some r else dR id r:=rfl
def xC (id:Nat) (c:AC) (r:List It):dR id (.code c::r)=dR id r:=rfl
def xD (is:List bh) (es:List (List Nat)) (fs:List Fp):go S Q (.code (.VL is es fs)::k) env H=(uj is es fs=true/\jO S (items 0 is fs) env H (go S Q k)):=by rw[go]
def AK (l q:Lb) (j:Nat) (c:AC):go S Q (.code (.gh (.xd l q j) c)::k) env H=∃sz xs i n cs,H q= .live ⟨cs.length,[cs]⟩/\cs[j]?=some (.sl l sz i n)/\H l= .live ⟨sz,aB xs⟩/\l.fresh=true/\l≠q/\i+n<=xs.length/\Flat xs /\
 go S Q (.code c::k) env (bD (bD H l .dead) q (.live ⟨cs.length,[cs.set j (.list ((xs.drop i).take n))]⟩)):=by rw[go]
def B_ (rs:List RO) (R:AV->Hp->Prop):fX rs R .ret env H=∃xs,ef env H rs=some xs/\R (gD xs) H:=by simp[fX]
def lM (rs:List RO) (R:AV->Hp->Prop):fX rs R .normal env H=∃xs,ef env H rs=some xs/\R (gD xs) H:=by simp[fX]
def YT (t:Nat) (R:AV->Hp->Prop):fX [(none,t)] R .ret env H=R (env t) H:=abb
def kj (m:Option Nat) (t:Nat) (R:AV->Hp->Prop):fX [(some m,t)] R .ret env H=cw (Wl m (env t) H) (λx=>R x H) .mk:=by
 simp only[fX,ef,oO,cw];cases Wl m (env t) H<;>simp[gD]
def AL (m:Option Nat) (t:Nat) (R:AV->Hp->Prop):fX [(some m,t)] R .normal env H=cw (Wl m (env t) H) (λx=>R x H) .mk:=by
 simp only[fX,ef,oO,cw];cases Wl m (env t) H<;>simp[gD]
def DE (t:Nat) (R:AV->Hp->Prop):fX [(none,t)] R .normal env H=R (env t) H:=abb
end
section
variable {S:St} {env:Env} {H:Hp}
def AM (j:Nat) (f:List Fp) (k:Env->Hp->Prop):jO S (items j [] f) env H k=k env H:=rfl
def xE (j n:Nat) (i:U7) (f:Fp) (r:List bh) (fs:List Fp) (k:Env->Hp->Prop) :
 jO S (items j (⟨some n,none,i⟩::r) (f::fs)) env H k=(n<S.N/\akH S f (some n) i env H λx H'=>jO S (items (j+1) r fs) (put env n x) H' k):=by rw[amy,xl]
def xF (j:Nat) (i:U7) (f:Fp) (r:List bh) (fs:List Fp) (k:Env->Hp->Prop) :
 jO S (items j (⟨none,none,i⟩::r) (f::fs)) env H k=akH S f none i env H λx H'=>jO S (items (j+1) r fs) env H' k:=by rw[amy,xm]
def vD (j n s:Nat) (t:Bool) (i:U7) (f:Fp) (r:List bh) (fs:List Fp) (k:Env->Hp->Prop) :
 jO S (items j (⟨some n,some (s,t),i⟩::r) (f::fs)) env H k=(n<S.N/\gB (env s) t (akH S f (some n) i env H λx H'=>jO S (items (j+1) r fs) (put env n x) H' k) (jO S (items (j+1) r fs) (put env n .un) H k) .mk):=by rw[amy,vB]
end
def dS:=And.intro @C9 (And.intro @C' (And.intro @zX (And.intro @C_ (And.intro @xn (And.intro @zZ (And.intro @Da (And.intro @Db (And.intro @z6 (And.intro @Dd (And.intro @Dc (And.intro @AK (And.intro @xD (And.intro @zY (And.intro @z7 (And.intro @C8 (And.intro @zV (And.intro @zW (And.intro @xk (And.intro @vA (And.intro @AM (And.intro @xE (And.intro @xF (And.intro @vD (And.intro @F9 (And.intro @DB (And.intro @DC (And.intro @xo (And.intro @DD (And.intro @Ai (And.intro @AH (And.intro @YT (And.intro @DE (And.intro @kj (And.intro @AL (And.intro @IQ (And.intro @IS (@IT)))))))))))))))))))))))))))))))))))))
def J_:=And.intro @xj (And.intro @zT (And.intro @zU (And.intro @IK (And.intro @IL (And.intro @F7 (And.intro @F8 (And.intro @IM (And.intro @IN (And.intro @IP (And.intro @s9 (And.intro @AI (And.intro @AJ (@xC)))))))))))))

def Flat.one {xs:List IV} (h:Flat xs):∀cs∈aB xs,AV.oJ cs:=by
 intro cs bV y hy;simp only[aB,pb] at bV;obtain⟨z,hz,rfl⟩:=bV;obtain⟨c,hc,rfl⟩:=pb.1 hy;have:=h z hz c hc;cases c<;>simp[IV.dQ,AV.one];exact absurd rfl (this _)
def o7 {sz:Nat} {xs:List IV} {H:Hp} (h:jV sz xs):al_ sz (.list xs) H=some (aB xs):=by
 simp[al_,h,aB]
def AN {sz b d:Nat} {xs:List IV} {H:Hp} (he:jV sz xs) (hf:Flat xs) (hb:xs.length*b<=140737488355328) (h0:0<b) (hu:H (.loc d)= .unused) :
  jN sz b d .nil0 (.list xs) H=some (.sl (.loc d) sz 0 xs.length,bD H (.loc d) (.live ⟨sz,aB xs⟩)):=by
 unfold jN;rw[o7 he,EF,Ev (by simpa using hf.one)];have:(aB xs).length=xs.length:=abk
 simp only;rw[P8 ⟨by rw[this];exact hb,h0,hu⟩,this]
def s_ {sz b d n:Nat} {l:Lb} {els:List (List AV)} {xs:List IV} {H:Hp} (hl:H l= .live ⟨sz,els⟩) (hn:n<=els.length) (he:jV sz xs) (hf:Flat xs) (hb:(n+xs.length)*b<=140737488355328) (h0:0<b)
  (hd:l≠l.app d) (hu:H (l.app d)= .unused) :
  jN sz b d (.sl l sz 0 n) (.list xs) H=some (.sl (l.app d) sz 0 (n+xs.length),bD (bD H l .dead) (l.app d) (.live ⟨sz,els.take n++aB xs⟩)):=by
 unfold jN;rw[o7 he,EF,Ev (by simpa using hf.one)];have:(aB xs).length=xs.length:=abk
 simp only[hl];rw[P8 ⟨rfl,rfl,rfl,hn,by rw[this];exact hb,h0,hd,hu⟩,this]
def AP (ρ:Lb->Lb) (x:IV):bJ ρ x.dQ=x.dQ:=by cases x<;>simp[IV.dQ,bJ]
theorem nT (ρ:Lb->Lb):∀xs:List IV,bu ρ (xs.map IV.dQ)=xs.map IV.dQ
 |[]=>by simp[bu]
 |x::r=>by simp[bu,AP,nT ρ r]
def rk (ρ:Lb->Lb) (sz:Nat) (xs:List IV):dO ρ ⟨sz,aB xs⟩=⟨sz,aB xs⟩:=by
 simp[dO,aB,nT]
def AQ (x:IV):x.dQ.an=[]:=by cases x<;>simp[IV.dQ,AV.an]
theorem lN:∀xs:List IV,ah (xs.map IV.dQ)=[]
 |[]=>rfl
 |x::r=>by simp[ah,AQ,lN r]
def bU {xs:List IV} {cs:List AV} (h:cs∈aB xs):ah cs=[]:=by
 simp only[aB,pb] at h;obtain⟨y,_,rfl⟩:=h;exact lN _
def Wk.one {env env2:Env} {H:Hp} {l0 l1:Lb} {sz:Nat} {xs:List IV} (he:∀n,env2 n= .any\/env n=bJ (λ_=>l1) (env2 n)) (hm:∀n,∀l∈(env2 n).an,bD Hp.none l0 (.live ⟨sz,aB xs⟩) l≠ .unused)
  (h1:H l1= .live ⟨sz,aB xs⟩) (Ld:l0.fresh=true) (B7:l1.fresh=true) (hn:∀l,l.fresh=false->H l= .unused):Wk (λ_=>l1) env H env2 (bD Hp.none l0 (.live ⟨sz,aB xs⟩)):=by
 have hl:∀l r,bD Hp.none l0 (.live ⟨sz,aB xs⟩) l= .live r->l=l0/\r=⟨sz,aB xs⟩:=by
  intro l r h;by_cases e:l=l0
  ·subst e;simp at h;exact⟨rfl,h.symm⟩
  rw[aq _ _ e] at h;simp[Hp.none] at h
 refine⟨he,λl r h=> ?_,λl l' ⟨r,h⟩ ⟨r',h'⟩ _=>(hl l r h).1.trans (hl l' r' h').1.symm,hm,λl r h cs bV q hq=> ?_,λl hle=>⟨λh=>absurd (hn l (Lb.Og hle)) h,λ⟨r,h⟩=> ?_⟩,λ_ _ _=>B7⟩
 ·obtain⟨rfl,rfl⟩:=hl l r h;rw[rk];exact h1
 ·obtain⟨rfl,rfl⟩:=hl l r h;rw[bU bV] at hq;simp at hq
 obtain⟨rfl,_⟩:=hl l r h;have Ka:=Lb.Og hle;rw[Ld] at Ka;simp at Ka
def gJ:∀l:Lb,l.fresh=false->Hp.none l= .unused:=λ_ _=>rfl
def dT {H:Hp} {n:Nat} {s:Slot} (h:∀l:Lb,l.fresh=false->H l= .unused):∀l:Lb,l.fresh=false->bD H (.loc n) s l= .unused:=by
 intro l hl;have:l≠ .loc n:=by rintro rfl;simp[Lb.fresh] at hl
 rw[aq _ _ this];exact h l hl
def ae (H:Hp) (l q:Lb) (s:Slot):bD H l s q=if q=l then s else H q:=rfl
def aai {p:Prop} (h:p:=by simp[ae]):p:=h
def aat {p:Prop} (h:p:=by simp[ae,Hp.none]):p:=h
def abp {p:Prop} (h:p:=by simp[Lb.app,Lb.fresh,ae,Hp.none]):p:=h
section
variable {S:St} {env:Env} {H:Hp}
def ar (R W:List Lb) (d:Option Nat) (m:Option Nat) (a:O) (k:AV->Hp->Prop):akH S (.rw R W) d (.load m a) env H k=cw (Wl m (ev env a) H) (λx=>(∀l∈eP (ev env a),l.iQ∈R\/l.iQ∈W)/\k x H) .mk:=by
 apply propext;simp only[akH,dm,cx,aA,cw];constructor
 ·rintro⟨x,H',h1,h2,_,h3⟩;simp only[jF,eS] at h1;obtain⟨y,h1,rfl,rfl⟩:=h1;exact⟨y,h1,h2,h3⟩
 rintro⟨x,h1,h2,h3⟩;exact⟨x,H,by simp[h1],h2,tM,h3⟩
def ak (R W:List Lb) (m:Nat) (a x:O) (k:AV->Hp->Prop):akH S (.rw R W) none (.store m a x) env H k=hK (gZ m (ev env a) (ev env x) H) (λH'=>(∀l∈eP (ev env a),l.iQ∈W)/\k .un H') .mk:=by
 apply propext;simp only[akH,dm,cx,aA,hK,Rc];constructor
 ·rintro⟨x,H',h1,_,h2,h3⟩;simp only[jF,eS] at h1;obtain⟨y,h1,rfl,rfl⟩:=h1;exact⟨_,h1,h2,h3⟩
 rintro⟨x,h1,h2,h3⟩;exact⟨.un,x,by simp[h1],tM,h2,h3⟩
def aD (R W:List Lb) (n:Nat) (cs:List AV) (k:AV->Hp->Prop):akH S (.rw R W) (some n) (.new cs) env H k=(H (.loc n)= .unused/\0<cs.length/\cs.length<=maxLen/\(Lb.loc n)∈W /\
  k (.ptr (.loc n) cs.length 0 0) (bD H (.loc n) (.live ⟨cs.length,[cs]⟩))):=by
 apply propext;simp only[akH,dm,cx,aA,EF];constructor
 ·rintro⟨x,H',h1,_,h2,h3⟩;split at h1
  ·rename_i hc;simp only[di,eS] at h1;obtain⟨rfl,rfl⟩:=h1;exact⟨hc.1,hc.2.1,hc.2.2,h2 (.loc n) tM,h3⟩
  simp at h1
 rintro⟨h1,h2,h3,h4,h5⟩;exact⟨_,_,by rw[P8 ⟨h1,h2,h3⟩],tM,by simpa[Lb.iQ] using h4,h5⟩
def aE (R W:List Lb) (n:Nat) (x:O) (k:AV->Hp->Prop):akH S (.rw R W) (some n) (.box x) env H k=(Lb.loc n∈W/\vC (ev env x) n H k):=by
 apply propext;simp only[akH,dm,cx,aA,EF,vC];constructor
 ·rintro⟨y,H',h1,_,h2,h3⟩;split at h1
  ·rename_i hc;simp only[di,eS] at h1;obtain⟨rfl,rfl⟩:=h1;exact⟨h2 (.loc n) tM,hc.1,hc.2.1,hc.2.2.1,hc.2.2.2,h3⟩
  simp at h1
 rintro⟨h4,h1,h2,h3,h6,h5⟩;exact⟨_,_,by rw[P8 ⟨h1,h2,h3,h6⟩],tM,by simpa[Lb.iQ] using h4,h5⟩
def qe (n:Nat) (s:AV):List Lb:=
 match s with
 | .sl l _ _ _=>[l,l.app n]
 | .slk l _ _ _ _=>[l,.loc n]
 |_=>[.loc n]
def aF (R W:List Lb) (n:Nat) (s x:O) (sz b:Nat) (k:AV->Hp->Prop):akH S (.rw R W) (some n) (.app s x sz b) env H k =
  pK (jN sz b n (ev env s) (ev env x) H) (λy H'=>(∀l∈eP (ev env x),l.iQ∈R\/l.iQ∈W)/\(∀l∈qe n (ev env s),l.iQ∈W)/\k y H') .mk:=by
 apply propext;have:aA (some n) (.app s x sz b) env=qe n (ev env s):=by
  simp only[aA,qe];cases ev env s<;>simp
 simp only[akH,dm,this,cx,EF,pK]
end
end Go.Am
