import Derived.Test.YtfinkeaikbmpgaaGreatDoorKAm12
set_option linter.unusedSimpArgs false
set_option linter.unusedVariables false
set_option linter.unnecessarySimpa false
set_option linter.defProp false
/- THE ABSTRACT MACHINE, part 14: regions. -/
namespace Go.Am
open Go Go.RowKit
section
variable {K:Kx} {env:Env} {H:Hp} {a:Act} {w:World}
def P1 {β:Lb→Option Nat} (hr:aH K β env H a w) {ops:Array Oper} {o:Oper} {i:bh} (hc:iY K.P K.G ops o=some i) {b:Bool} (hg:gW i.g env=some b) :
  Region.wanted o (yielded ops a.tmps)=b:=by
 unfold iY at hc;split at hc
 ·rename_i h0;obtain⟨j,_,rfl⟩:=wh hc;simp only[gW,di] at hg;subst hg;simp[Region.wanted,h0]
 rename_i j t h0;obtain⟨s,h1,hc⟩:=ba hc;obtain⟨q,_,rfl⟩:=wh hc;simp only[gW] at hg;have hv:=hr.N8 s;split at hg
 ·rename_i c e;simp only[di] at hg;subst hg;rw[e] at hv;simp only[RV] at hv;have:a.tmps[s]?=some (.bool c):=by
   rw[nY] at hv;cases hq:a.tmps[s]? with
   |none=>rw[hq] at hv;cases hv
   |some u=>rw[hq] at hv;simpa using hv
  simp[Region.wanted,h0,yielded,h1,this]
 ·rename_i e;simp only[di] at hg;subst hg;rw[e] at hv;simp only[RV] at hv;have:a.tmps[s]?=none∨a.tmps[s]?=some undef:=by
   rw[nY] at hv;cases hq:a.tmps[s]? with
   |none=>exact .inl rfl
   |some u=>rw[hq] at hv;right;simpa using hv
  rcases this with h|h<;>simp[Region.wanted,h0,yielded,h1,h,undef]
 simp at hg
def rb {P:Program} {G:Nat→Option (List IV)} {ops:Array Oper} {o:Oper} {i:bh} (hc:iY P G ops o=some i):i.d=o.dst∧comp P G o=some i.i:=by
 unfold iY at hc;split at hc
 ·obtain⟨j,h1,rfl⟩:=wh hc;exact⟨rfl,h1⟩
 obtain⟨s,_,hc⟩:=ba hc;obtain⟨q,h1,rfl⟩:=wh hc;exact⟨rfl,h1⟩
def YS {β:Lb→Option Nat} (hr:aH K β env H a w) {ops:Array Oper} {o:Oper} {i:bh} (hc:iY K.P K.G ops o=some i.fV) {k:Env→Hp→Prop} {Q:Exit→Act→World→Prop} {KK:Act→World→Prop}
  (hk:∀env' H' β' a' w',k env' H'→aH K β' env' H' a' w'→KK a' w')
  (ha:(gW i.g env=some true∧(∀n,i.d=some n→n<K.N)∧bg ⟨K.P,K.G,K.N⟩ i.d i.i env H fun x H'=>k (cV env i.d x) H') ∨
   (gW i.g env=some false∧(∀n,i.d=some n→n<K.N)∧k (cV env i.d .un) H)) :
  if Region.wanted o (yielded ops a.tmps) then o.wp K.P a w KK Q∨(o.asks K.P a w∧LetsOut Q) else KK (a.put o.dst undef) w:=by
 obtain⟨h1,h2⟩:=rb hc;have J3:i.d=o.dst:=h1;rcases ha with⟨hg,hd,ha⟩|⟨hg,hd,ha⟩
 ·have hw:Region.wanted o (yielded ops a.tmps)=true:=P1 hr (i:=i.fV) hc hg;rw[eE hw];left;rw[J3] at ha hd;exact Oper.wp_mono (fun a' w' ⟨x,H',hx,β',lz⟩=>hk _ _ _ _ _ hx lz) (vo hr hd h2 ha)
 have hw:Region.wanted o (yielded ops a.tmps)=false:=P1 hr (i:=i.fV) hc hg;rw[cY (by simp[hw])];rw[J3] at ha hd;exact hk _ _ _ _ _ ha (hr.step (Below.refl _ _) hd (fun _=>by simp[RV]) (fun _=>by simp[AV.an]))
def akl (t:TypeId) (d:Nat) (o:Oper):Option (Int×List UInt8):=
 match o.guard,o.dst,o.op with
 |none,none,.insert t' (.tmp d') (.const (.int .i64 k)) (.const (.string s))=>if t'=t∧d'=d then some (k,s.data.toList) else none
 |_,_,_=>none
def ni (t:TypeId) (d:Nat):List Oper→List (Int×List UInt8)×List Oper
 |[]=>([],[])
 |o::r=>match akl t d o with
  |some p=>(p::(ni t d r).1,(ni t d r).2)
  |none=>([],o::r)
def w7:List Int→Bool
 |[]=>true
 |x::r=>(r.all fun y=> !(y==x))&&w7 r
def p9 (P:Program) (o:Oper) (r:List Oper):Option (Nat×List (Int×List UInt8)×List Oper):=
 match o.guard,o.dst,o.op with
 |none,some d,.makeMap t none=>match P.underlying t with
  |some (.map k _)=>match P.underlying k with
   |some (.int _)=>if w7 ((ni t d r).1.map Prod.fst) then some (d,(ni t d r).1,(ni t d r).2) else none
   |_=>none
  |_=>none
 |_,_,_=>none
theorem ui:∀(done:List (Int×List UInt8)) (k:Int) (rest:List Int),w7 (done.map Prod.fst++k::rest)=true→done.lookup k=none
 |[],_,_,_=>rfl
 |p::done,k,rest,h=>by
  simp only[o2,List.cons_append,w7,de] at h;have h1:=yq.1 h.1 k N7;have e:(k==p.1)=false:=by simpa using h1
  rw[List.lookup,e];exact ui done k rest h.2
structure Ix (r:Nat) (w w':World):Prop where
 os:w'.os=w.os
 tape:w'.tape=w.tape
 output:w'.output=w.output
 size:w'.heap.size=w.heap.size
 block:∀k,k≠r→w'.heap[k]?=w.heap[k]?
theorem w8 {P:Program} {ops:Array Oper} {t k e:TypeId} {d:Nat} {kd:IntKind} (ht:P.underlying t=some (.map k e)) (hk:P.underlying k=some (.int kd)) {Q:Exit→Act→World→Prop} {a:Act} {r:Nat}
  (hd:a.tmps.getD d undef= .map (some r)):∀(l:List Oper) (w:World) (xs:Array MapEntry) (c:Nat) (done:List (Int×List UInt8)),w.heap[r]?=some (.map xs c) →
   xs.toList.map (fun e=>(e.key,e.val))=(done.map fun p=>(Value.int .i64 p.1,Value.string ⟨p.2.toArray⟩))→w7 ((done++(ni t d l).1).map Prod.fst)=true →
   (∀w' nN c',Ix r w w'→w'.heap[r]?=some (.map nN c')→nN.toList.map (fun e=>(e.key,e.val))=((done++(ni t d l).1).map fun p=>(Value.int .i64 p.1,Value.string ⟨p.2.toArray⟩))→wpList P ops Q (ni t d l).2 a w') →
   wpList P ops Q l a w
 |[],w,xs,c,done,h1,h2,_,hq=>hq w xs c ⟨rfl,rfl,rfl,rfl,fun _ _=>rfl⟩ h1 (by simpa[ni] using h2)
 |o::l,w,xs,c,done,h1,h2,h3,hq=>by
  cases ho:akl t d o with
  |none=>
   simp only[ni,ho] at hq h3;exact hq w xs c ⟨rfl,rfl,rfl,rfl,fun _ _=>rfl⟩ h1 (by simpa using h2)
  |some p=>
  simp only[ni,ho] at hq h3;unfold akl at ho;split at ho
  ·rename_i t' d' n s hg ua Iy;split at ho
   ·rename_i hc;obtain⟨rfl,rfl⟩:=hc;simp only[di] at ho;subst ho;have FQ:done.lookup n=none:=ui done n ((ni t' d' l).1.map Prod.fst) (by simpa using h3);have hf:Instr.findNow (.int kd) (.int .i64 n) xs.toList 0=some none:=by
     rcases nC kd n xs.toList done 0 h2 with⟨_,g⟩|⟨_,_,g,_⟩
     ·exact g
     rw[FQ] at g;cases g
    have bI:r<w.heap.size:=(vN.1 h1).1;have hs:Value.string s= .string ⟨s.data.toList.toArray⟩:=(by cases s;simp);unfold wpList;rw[eE (by simp[Region.wanted,hg])];left;unfold Oper.wp;have gY:(execOp a.eval o).run P w= .ok .skip {w with heap:=w.heap.setIfInBounds r (.map (xs.push ⟨.int .i64 n,.string s,c⟩) (c+1))}:=by
     have hv:a.eval (.tmp d')= .map (some r):=hd;have Iz:a.eval (.const (.int .i64 n))= .int .i64 n:=rfl;have K1:a.eval (.const (.string s))= .string s:=rfl;simp[execOp,Iy,hv,Iz,K1,Instr.mapUpdate,run_underlying ht,run_underlying hk,getObj,setObj,Sem.run,h1,jo hk,Instr.findKey,hf,Result.andThen]
    rw[gY,Oper.upon_skip,ua];refine w8 ht hk hd l _ (xs.push ⟨.int .i64 n,.string s,c⟩) (c+1) (done++[(n,s.data.toList)]) (by simp[bI]) (by simp[h2,hs]) (by simpa using h3) ?_;intro w' nN c' g1 g2 g3;refine hq w' nN c' ⟨g1.os,g1.tape,g1.output,by simpa using g1.size,fun q Vi=> ?_⟩ g2 (by simpa using g3);rw[g1.block q Vi];simp[yd Vi]
   cases ho
  cases ho
def vp {β:Lb→Option Nat} (hr:aH K β env H a w) {ops:Array Oper} {o:Oper} {l l':List Oper} {d:Nat} {es:List (Int×List UInt8)} (h:p9 K.P o l=some (d,es,l')) (hd:d<K.N)
  {Q:Exit→Act→World→Prop} (hk:∀a' w',aH K β (put env d (.mis es)) H a' w'→wpList K.P ops Q l' a' w'):wpList K.P ops Q (o::l) a w:=by
 unfold p9 at h;split at h
 ·rename_i d' t hg ua Iy;split at h
  ·rename_i k e ht;split at h
   ·rename_i kd K2;split at h
    ·rename_i FU;simp only[di,eS] at h;obtain⟨rfl,rfl,rfl⟩:=h;unfold wpList;rw[eE (by simp[Region.wanted,hg])];left;unfold Oper.wp;have gY:(execOp a.eval o).run K.P w= .ok (.value (.map (some w.heap.size))) (w.alloc (.map #[] 0)):=by
      simp[execOp,Iy,Instr.makeMap,Result.andThen]
     rw[gY,Oper.upon_value,ua];have gm:(w.alloc (.map #[] 0)).heap=w.heap.push (.map #[] 0):=rfl
     refine w8 ht K2 (a:=a.put (some d') (.map (some w.heap.size))) (r:=w.heap.size) (by
      simp only[Act.put,qN];rw[eE ⟨rfl,by rw[hr.size];exact hd⟩]) l _ #[] 0 [] (by rw[gm];simp) N7 (by simpa using FU) ?_
     intro w' xs c g1 g2 g3;have hw:w'.heap.size=w.heap.size+1:=(by rw[g1.size,gm];simp);have gw:iU w w':=⟨g1.os,g1.tape,g1.output,tM,fun q hq=>by
      rw[g1.block q tM,gm];simp[Array.getElem?_push,Nat.ne_of_lt hq]⟩
     refine hk _ _ (hr.step (d:=some d') gw (fun n e=>by cases e;exact hd) (fun _=> ?_) (fun _=>by simp[AV.an]));simp only[RV];refine⟨w.heap.size,xs,c,rfl,⟨.inr hr.frame.size,fun q hq hb=> ?_⟩,tM,g2,by simpa using g3⟩;have:=hr.YR hq hb;omega
    cases h
   cases h
  cases h
 cases h
inductive SL (P:Program) (G:Nat→Option (List IV)) (ops:Array Oper):List Oper→List bh→Prop
 |nil:SL P G ops [] []
 |cons {o:Oper} {i:bh} {l:List Oper} {is:List bh}:iY P G ops o=some (bh.fV i)→SL P G ops l is→SL P G ops (o::l) (i::is)
 |lit {o:Oper} {d:Nat} {es:List (Int×List UInt8)} {l l':List Oper} {is:List bh}:p9 P o l=some (d,es,l')→SL P G ops l' is→SL P G ops (o::l) (⟨some d,none,.qM es⟩::is)
def w9 {ops:Array Oper} {k:Env→Hp→Prop} {Q:Exit→Act→World→Prop} (hk:∀env' H' β' a' w',k env' H'→aH K β' env' H' a' w'→Q .normal a' w') {l:List Oper} {is:List bh} (h:SL K.P K.G ops l is) :
  ∀(env:Env) (H:Hp) (a:Act) (w:World) (β:Lb→Option Nat),AO ⟨K.P,K.G,K.N⟩ is env H k→aH K β env H a w→wpList K.P ops Q l a w:=by
 induction h with
 |nil=>exact fun env H a w β ha hr=>hk _ _ _ _ _ ha hr
 |@cons o i l is h1 _ ih=>
  intro env H a w β ha hr;simp only[AO] at ha;unfold wpList;exact YS hr h1 (k:=fun env' H'=>AO ⟨K.P,K.G,K.N⟩ is env' H' k) (fun env' H' β' a' w' q1 q2=>ih env' H' a' w' β' q1 q2) ha
 |@lit o d es l l' is h1 _ ih=>
 intro env H a w β ha hr;simp only[AO,gW] at ha;rcases ha with⟨_,hd,x,hx,ha⟩|⟨h,_⟩
 ·simp only[af,di] at hx;subst hx;exact vp hr h1 (hd d rfl) fun a' w' lz=>ih _ _ _ _ β ha lz
 cases h
end

def U7.os:U7→List O
 | .iC x| .wj x _| .len x| .lens x| .not x| .neg x| .ext x _| .pN x _ _| .oC x| .dp x| .qK _ x| .YJ x| .zg x| .wm x| .pO _ x| .load _ x| .box x| .BJ _ x| .cap x| .si x _ _| .oD x _ _=>[x]
 | .pick c a b=>[c,a,b]
 | .Vc x i _| .lj x i| .wC x i _ _| .sy x i=>[x,i]
 | .zr x lo hi mx _=>x::(lo.toList++hi.toList++mx.toList)
 | .ZL x lo hi=>x::(lo.toList++hi.toList)
 | .bin _ x y| .eqb _ x y| .zu _ x y| .zv _ x y| .pM _ _ x y| .max x y| .min x y| .store _ x y| .app x y _ _| .oE x y _ _| .pP x y _ _ _| .qL x y _=>[x,y]
 | .sg _ ps=>ps.map (·.2.2)
 | .lits _ _ _ ps=>ps.map (·.2)
 | .gG _ _ ps=>ps.map (·.2)
 | .zh _ qs cs=>qs++cs
 | .zw _ cs=>cs
 | .new _| .qM _=>[]
 | .stuck=>[]
 | .tU n c _ _ _=>[n,c]
 | .call _ args=>args
 | .kE _ args=>args
 | .fM x args=>x::args
def PG {p:Prop} (h:p:=by simp[U7.os]):p:=h
def O.us:O→List Nat
 | .t n=>[n]
 | .c _=>[]
def bh.us (i:bh):List Nat:=i.i.os.flatMap O.us++(match i.g with|some (s,_)=>[s]|none=>[])
def C2 {env:Env} {d:Option Nat} {y:AV} {x:O} (h:∀n,d=some n→n∉x.us):ev (cV env d y) x=ev env x:=by
 cases x with
 |c x=>rfl
 |t n=>
 cases d with
 |none=>rfl
 |some m=>
 have:=h m rfl;simp[O.us] at this;simp[ev,cV,put,yd this]
section
variable {env env':Env}
def gp {o:Option O} (h:∀x∈o.toList,ev env x=ev env' x) (m n:Nat):bnd env o m n=bnd env' o m n:=by
 cases o with
 |none=>rfl
 |some x=>simp only[bnd];rw[h x N7]
def vq {lo hi mx:Option O} (h:∀x∈lo.toList++hi.toList++mx.toList,ev env x=ev env' x) (n:Nat):nB env lo hi mx n=nB env' lo hi mx n:=by
 have h1:=fun m n=>gp (o:=lo) (fun x hx=>h x (by simp at hx ⊢;simp[hx])) m n;have h2:=fun m n=>gp (o:=hi) (fun x hx=>h x (by simp at hx ⊢;simp[hx])) m n;have h3:=fun m n=>gp (o:=mx) (fun x hx=>h x (by simp at hx ⊢;simp[hx])) m n;cases mx with
 |none=>simp only[nB,h1,h2]
 |some m=>simp only[nB,h1,h2,h3]
def vt {lo hi mx:Option O} (h:∀x∈lo.toList++hi.toList++mx.toList,ev env x=ev env' x) (n c:Nat):sH env lo hi mx n c=sH env' lo hi mx n c:=by
 have h1:=fun m n=>gp (o:=lo) (fun x hx=>h x (by simp at hx ⊢;simp[hx])) m n;have h2:=fun m n=>gp (o:=hi) (fun x hx=>h x (by simp at hx ⊢;simp[hx])) m n;have h3:=fun m n=>gp (o:=mx) (fun x hx=>h x (by simp at hx ⊢;simp[hx])) m n;cases mx with
 |none=>simp only[sH,h1,h2]
 |some m=>simp only[sH,h1,h2,h3]
def fh {i:U7} (h:∀x∈i.os,ev env x=ev env' x):af i env=af i env':=by
 cases i with
 |zr x lo hi mx sz=>
  simp only[af];rw[h x PG];have:=vq (env:=env) (env':=env') (lo:=lo) (hi:=hi) (mx:=mx) (fun y hy=>h y (by simp only[U7.os,dU];exact .inr hy));have FV:=vt (env:=env) (env':=env') (lo:=lo) (hi:=hi) (mx:=mx) (fun y hy=>h y (by simp only[U7.os,dU];exact .inr hy));unfold Cs;simp only[this,FV]
 |ZL x lo hi=>
  simp only[af];rw[h x PG];have h1:=fun m n=>gp (env:=env) (env':=env') (o:=lo) (fun y hy=>h y (by simp only[U7.os,dU,eR];exact .inr (.inl hy))) m n;have h2:=fun m n=>gp (env:=env) (env':=env') (o:=hi) (fun y hy=>h y (by simp only[U7.os,dU,eR];exact .inr (.inr hy))) m n;simp only[h1,h2]
 |sg z ps=>
  simp only[af];have:(ps.map fun p=>(p.1,p.2.1,ev env p.2.2))=ps.map fun p=>(p.1,p.2.1,ev env' p.2.2):=
   yp fun p hp=>by rw[h p.2.2 (by simp only[U7.os];exact GF (f:=fun p:Nat×Nat×O=>p.2.2) hp)]
  rw[this]
 |lits n sz z ps=>
  simp only[af];have:(ps.map fun p=>(p.1*sz,sz,ev env p.2))=ps.map fun p=>(p.1*sz,sz,ev env' p.2):=
   yp fun p hp=>by rw[h p.2 (by simp only[U7.os];exact GF (f:=fun p:Nat×O=>p.2) hp)]
  rw[this]
 |zw f cap=>
  simp only[af];have:cap.map (ev env)=cap.map (ev env'):=yp fun p hp=>h p (by simpa[U7.os] using hp);rw[this]
 |call f args=>rfl
 |fM x args=>rfl
 |kE f args=>rfl
 |pP s n sz b z=>rfl
 |gG sz z ps=>rfl
 |zh f qs cs=>
  simp only[af];have h1:qs.map (ev env)=qs.map (ev env'):=yp fun p hp=>h p (by simp only[U7.os,eR];exact .inl hp);have h2:cs.map (ev env)=cs.map (ev env'):=yp fun p hp=>h p (by simp only[U7.os,eR];exact .inr hp);rw[h1,h2]
 |cap x=>rfl
 |si x sz z=>rfl
 |oD x n sz=>simp only[af,h x PG]
 |oE x y sz b=>simp only[af,h x PG,h y PG]
 |BJ n x=>rfl
 |new cs=>rfl
 |pick c a b=>simp only[af,h c PG,h a PG,h b PG]
 |tU n c sz b z=>rfl
 |store m a x=>rfl
 |app s x sz b=>rfl
 |qL s x sz=>rfl
 |box x=>rfl
 |wm x=>simp only[af,h x PG]
 |wC x i n sz=>simp only[af,h x PG,h i PG]
 |Vc x i sz=>simp only[af,h x PG,h i PG]
 |lj x i=>simp only[af,h x PG,h i PG]
 |sy x i=>simp only[af,h x PG,h i PG]
 |qM es=>rfl
 |bin op x y=>simp only[af,h x PG,h y PG]
 |eqb n x y=>simp only[af,h x PG,h y PG]
 |zu n x y=>simp only[af,h x PG,h y PG]
 |zv n x y=>simp only[af,h x PG,h y PG]
 |pM n ks x y=>simp only[af,h x PG,h y PG]
 |max x y=>simp only[af,h x PG,h y PG]
 |min x y=>simp only[af,h x PG,h y PG]
 |iC x=>simp only[af,h x PG]
 |wj x o=>simp only[af,h x PG]
 |len x=>simp only[af,h x PG]
 |lens x=>simp only[af,h x PG]
 |not x=>simp only[af,h x PG]
 |neg x=>simp only[af,h x PG]
 |ext x i=>simp only[af,h x PG]
 |pN x o m=>simp only[af,h x PG]
 |oC x=>simp only[af,h x PG]
 |dp x=>simp only[af,h x PG]
 |stuck=>rfl
 |qK k x=>simp only[af,h x PG]
 |YJ x=>simp only[af,h x PG]
 |zg x=>simp only[af,h x PG]
 |pO t x=>simp only[af,h x PG]
 |load m x=>simp only[af,h x PG]
def vu {S:St} {d:Option Nat} {i:U7} (h:∀x∈i.os,ev env x=ev env' x) {H:Hp} {k:AV→Hp→Prop} (ha:bg S d i env H k):bg S d i env' H k:=by
 have hs:=fh h;cases i with
 |load m x=>
  simp only[bg] at ha ⊢;rw[←hs,←h x PG];exact ha
 |box x=>
  simp only[bg] at ha ⊢;rw[←h x PG];exact ha
 |new cs=>exact ha
 |store m x y=>
  simp only[bg] at ha ⊢;rw[←h x PG,←h y PG];exact ha
 |app x y sz b=>
  simp only[bg] at ha ⊢;rw[←h x PG,←h y PG];exact ha
 |call f args=>
  simp only[bg] at ha ⊢;have:args.map (ev env)=args.map (ev env'):=yp fun p hp=>h p (by simpa[U7.os] using hp);rw[←this];exact ha
 |BJ n x=>
  simp only[bg] at ha ⊢;rw[←h x PG];exact ha
 |pP x y sz b z=>
  simp only[bg] at ha ⊢;rw[←h x PG,←h y PG];exact ha
 |gG sz z ps=>
  simp only[bg] at ha ⊢;have:(ps.map fun p=>(p.1,ev env p.2))=ps.map fun p=>(p.1,ev env' p.2):=
   yp fun p hp=>by rw[h p.2 (by simp only[U7.os];exact GF (f:=fun p:Nat×O=>p.2) hp)]
  rw[←this];exact ha
 |cap x=>
  simp only[bg] at ha ⊢;rw[←h x PG];exact ha
 |si x sz z=>
  simp only[bg] at ha ⊢;rw[←h x PG];exact ha
 |qL x y sz=>
  simp only[bg] at ha ⊢;rw[←h x PG,←h y PG];exact ha
 |tU n c sz b z=>
  simp only[bg] at ha ⊢;rw[←h n PG,←h c PG];exact ha
 |kE f args=>
  simp only[bg] at ha ⊢;have:args.map (ev env)=args.map (ev env'):=yp fun p hp=>h p (by simpa[U7.os] using hp);rw[←this];exact ha
 |fM x args=>
  simp only[bg] at ha ⊢;have:args.map (ev env)=args.map (ev env'):=yp fun p hp=>h p (by simp only[U7.os,dU];exact .inr hp);rw[←this,←h x PG];exact ha
 |_=>simp only[bg] at ha ⊢;rw[←hs];exact ha
end
inductive Fp where
 |no
 |rw (rs ws:List Lb)
 |all
 |p_ (fs:List Lb)
def eP:AV→List Lb
 | .ptr l _ _ _=>[l]
 | .sl l _ _ _=>[l]
 | .slk l _ _ _ _=>[l]
 |_=>[]
open Classical in
noncomputable def dm (d:Option Nat) (i:U7) (env:Env) (H:Hp):Option (AV×Hp):=
 match i with
 | .load m a=>(Wl m (ev env a) H).map fun x=>(x,H)
 | .box x=>d.bind fun n=>if H (.loc n)= .unused∧(ev env x).sI=true∧0<(ev env x).cells.length∧(ev env x).cells.length≤maxLen then
  some (.ptr (.loc n) (ev env x).cells.length 0 0,bD H (.loc n) (.live ⟨(ev env x).cells.length,[(ev env x).cells]⟩)) else none
 | .new cs=>d.bind fun n=>if H (.loc n)= .unused∧0<cs.length∧cs.length≤maxLen then
  some (.ptr (.loc n) cs.length 0 0,bD H (.loc n) (.live ⟨cs.length,[cs]⟩)) else none
 | .store m a x=>if d=none then(gZ m (ev env a) (ev env x) H).map fun H'=>(.un,H') else none
 | .app s x sz bytes=>d.bind fun n=>jN sz bytes n (ev env s) (ev env x) H
 | .qL s x sz=>sW sz (ev env s) (ev env x) H
 | .gG sz z ps=>d.bind fun q=>sY sz q z (ps.map fun p=>(p.1,ev env p.2)) H
 | .si x sz z=>(sX sz z (ev env x) H).map fun H'=>(.gf [],H')
 | .tU n c sz b z=>d.bind fun q=>vg sz b q z (ev env n) (ev env c) H
 |_=>none
def cx (i:U7) (env:Env):List Lb:=
 match i with
 | .load _ a=>eP (ev env a)
 | .app _ x _ _=>eP (ev env x)
 | .qL _ x _=>eP (ev env x)
 |_=>[]
def aA (d:Option Nat) (i:U7) (env:Env):List Lb:=
 match i with
 | .box _| .new _| .gG _ _ _| .tU _ _ _ _ _=>d.toList.map .loc
 | .store _ a _=>eP (ev env a)
 | .app s _ _ _=>match ev env s with
  | .sl l _ _ _=>l::d.toList.map l.app
  | .slk l _ _ _ _=>l::d.toList.map .loc
  |_=>d.toList.map .loc
 | .qL s _ _=>eP (ev env s)
 | .si x _ _=>eP (ev env x)
 |_=>[]
def QD {p:Prop} (h:p:=by simp[aA]):p:=h
def vv {m:Option Nat} {x:AV} {H H1:Hp} {y:AV} (h:Wl m x H=some y) (ha:∀l∈eP x,H1 l=H l):Wl m x H1=some y:=by
 cases x with
 |ptr l sz i j=>simp only[Wl,ha l (by simp[eP])] at h ⊢;exact h
 |_=>simp[Wl] at h
def re {sz:Nat} {x:AV} {H H1:Hp} (ha:∀l∈eP x,H1 l=H l):al_ sz x H1=al_ sz x H:=by
 cases x with
 |sl l s i n=>simp only[al_,ha l (by simp[eP])]
 |slk l s i n c=>simp only[al_,ha l (by simp[eP])]
 |_=>rfl
def rf {x:AV} {p:Lb×Nat×Nat×Nat} (h:EU x=some p):eP x=[p.1]:=by
 cases x<;>simp[EU] at h
 all_goals (subst h;rfl)
def j5 {d:Option Nat} {i:U7} {env:Env} {H H' H1:Hp} {x:AV} (h:dm d i env H=some (x,H')) (ha:∀l,l∈cx i env∨l∈aA d i env→H1 l=H l) :
  ∃Hu,dm d i env H1=some (x,Hu)∧(∀l∈aA d i env,Hu l=H' l)∧∀l,l∉aA d i env→Hu l=H1 l:=by
 cases i with
 |load m a=>
  simp only[dm,bR,eS] at h ⊢;obtain⟨y,h1,rfl,rfl⟩:=h;exact⟨H1,⟨y,vv h1 (fun l hl=>ha l (.inl hl)),rfl,rfl⟩,QD,fun _ _=>rfl⟩
 |box y=>
  simp only[dm] at h ⊢;obtain⟨n,rfl,h0⟩:=ba h
  replace h:=h0
  clear h0;split at h
  ·rename_i hc;simp only[di,eS] at h;obtain⟨rfl,rfl⟩:=h;have e:=ha (.loc n) (.inr QD);refine⟨_,by simp only[eQ];rw[eE (by rw[e];exact hc)],fun l hl=> ?_,fun l hl=> ?_⟩
   ·simp[aA] at hl;subst hl;simp
   simp[aA] at hl;rw[aq _ _ hl]
  simp at h
 |new cs=>
  simp only[dm] at h ⊢;obtain⟨n,rfl,h0⟩:=ba h
  replace h:=h0
  clear h0;split at h
  ·rename_i hc;simp only[di,eS] at h;obtain⟨rfl,rfl⟩:=h;have e:=ha (.loc n) (.inr QD);refine⟨_,by simp only[eQ];rw[eE (by rw[e];exact hc)],fun l hl=> ?_,fun l hl=> ?_⟩
   ·simp[aA] at hl;subst hl;simp
   simp[aA] at hl;rw[aq _ _ hl]
  simp at h
 |store m a y=>
  simp only[dm] at h ⊢;split at h
  ·rename_i hd;rw[eE hd];simp only[bR,eS] at h ⊢;obtain⟨H2,h1,rfl,rfl⟩:=h;unfold gZ at h1 ⊢;split at h1
   ·rename_i l sz i j e;have e2:=ha l (.inr (by simp[aA,e,eP]));simp only[e,e2];split at h1
    ·rename_i r hr
     try simp only[hr]
     split at h1
     ·rename_i hc;rw[eE hc];obtain⟨cs,hi,h1⟩:=dJ.1 h1;split at h1
      ·rename_i hj;simp only[di] at h1;subst h1;refine⟨_,⟨_,by rw[hi,eQ,eE hj],trivial,rfl⟩,fun q hq=> ?_,fun q hq=> ?_⟩
       ·simp[aA,e,eP] at hq;subst hq;simp
       simp[aA,e,eP] at hq;rw[aq _ _ hq]
      simp at h1
     simp at h1
    simp at h1
   simp at h1
  simp at h
 |app s y sz bytes=>
  simp only[dm] at h ⊢;obtain⟨n,rfl,h0⟩:=ba h
  replace h:=h0
  clear h0;simp only[eQ];unfold jN at h ⊢;obtain⟨news,h1,h0⟩:=ba h
  replace h:=h0
  clear h0;rw[re (fun l hl=>ha l (.inl hl))];simp only[h1,eQ];split at h
  ·simp at h
  rename_i fw;rw[cY fw];split at h
  ·rename_i e
   try simp only[e]
   split at h
   ·rename_i hc;simp only[di,eS] at h;obtain⟨rfl,rfl⟩:=h;have e2:=ha (.loc n) (.inr (by simp[aA,e]));refine⟨_,by rw[eE (by rw[e2];exact hc)],fun l hl=> ?_,fun l hl=> ?_⟩
    ·simp[aA,e] at hl;subst hl;simp
    simp[aA,e] at hl;rw[aq _ _ hl]
   simp at h
  ·rename_i l s' i0 m e;have e1:=ha l (.inr (by simp[aA,e]));have e2:=ha (l.app n) (.inr (by simp[aA,e]));simp only[e1];split at h
   ·rename_i r hr
    try simp only[hr]
    split at h
    ·rename_i hc;simp only[di,eS] at h;obtain⟨rfl,rfl⟩:=h;refine⟨_,by rw[eE (by rw[e2];exact hc)],fun q hq=> ?_,fun q hq=> ?_⟩
     ·simp[aA,e] at hq;unfold bD;by_cases q1:q=l.app n
      ·simp[q1]
      rcases hq with hq|hq
      ·simp[hq]
      exact absurd hq q1
     simp[aA,e] at hq;rw[aq _ _ hq.2,aq _ _ hq.1]
    simp at h
   simp at h
  ·rename_i l s' i0 m c e;have e1:=ha l (.inr (by simp[aA,e]));have e2:=ha (.loc n) (.inr (by simp[aA,e]));simp only[e1];split at h
   ·rename_i r hr
    try simp only[hr]
    split at h
    ·rename_i hc;rw[eE hc];split at h
     ·rename_i hf;rw[eE hf];split at h
      ·rename_i FW;rw[eE FW];simp only[di,eS] at h;obtain⟨rfl,rfl⟩:=h;refine⟨_,rfl,fun q hq=> ?_,fun q hq=> ?_⟩
       ·simp[aA,e] at hq;by_cases q1:q=l
        ·subst q1;simp
        rw[aq _ _ q1,aq _ _ q1];rcases hq with hq|hq
        ·exact absurd hq q1
        subst hq;exact e2
       simp[aA,e] at hq;rw[aq _ _ hq.1]
      simp at h
     rename_i hf;rw[cY hf];split at h
     ·rename_i FW;rw[e2,eE FW];simp only[di,eS] at h;obtain⟨rfl,rfl⟩:=h;refine⟨_,rfl,fun q hq=> ?_,fun q hq=> ?_⟩
      ·simp[aA,e] at hq;by_cases q1:q= .loc n
       ·subst q1;simp
       rw[aq _ _ q1,aq _ _ q1];rcases hq with hq|hq
       ·subst hq;exact e1
       exact absurd hq q1
      simp[aA,e] at hq;rw[aq _ _ hq.2]
     simp at h
    simp at h
   simp at h
  simp at h
 |gG sz z ps=>
  simp only[dm] at h ⊢;obtain⟨n,rfl,h0⟩:=ba h
  replace h:=h0
  clear h0;simp only[eQ];unfold sY at h ⊢;obtain⟨cs,h1,h0⟩:=ba h
  replace h:=h0
  clear h0;rw[h1,eQ];split at h
  ·rename_i hc;simp only[di,eS] at h;obtain⟨rfl,rfl⟩:=h;have e:=ha (.loc n) (.inr QD);refine⟨_,by rw[eE (by rw[e];exact hc)],fun l hl=> ?_,fun l hl=> ?_⟩
   ·simp[aA] at hl;subst hl;simp
   simp[aA] at hl;rw[aq _ _ hl]
  simp at h
 |tU x y sz b z=>
  simp only[dm] at h ⊢;obtain⟨n,rfl,h0⟩:=ba h
  replace h:=h0
  clear h0;simp only[eQ];unfold vg at h ⊢;split at h
  ·split at h
   ·rename_i hc;simp only[di,eS] at h;obtain⟨rfl,rfl⟩:=h;have e:=ha (.loc n) (.inr QD);refine⟨_,by rw[eE (by rw[e];exact hc)],fun l hl=> ?_,fun l hl=> ?_⟩
    ·simp[aA] at hl;subst hl;simp
    simp[aA] at hl;rw[aq _ _ hl]
   simp at h
  simp at h
 |qL s y sz=>
  simp only[dm] at h ⊢;unfold sW at h ⊢;obtain⟨news,h1,h0⟩:=ba h
  replace h:=h0
  clear h0;rw[re (fun l hl=>ha l (.inl hl))];simp only[h1,eQ];obtain⟨p,hp,h0⟩:=ba h
  replace h:=h0
  clear h0;simp only[hp,eQ];split at h
  ·simp at h
  rename_i fw;rw[cY fw];have hw:aA d (.qL s y sz) env=[p.1]:=by simp only[aA];exact rf hp
  have e1:=ha p.1 (.inr (by rw[hw];simp));simp only[e1];split at h
  ·rename_i r hr
   try simp only[hr]
   split at h
   ·rename_i hc;rw[eE hc];simp only[di,eS] at h;obtain⟨rfl,rfl⟩:=h;refine⟨_,rfl,fun q hq=> ?_,fun q hq=> ?_⟩
    ·rw[hw] at hq;simp at hq;subst hq;simp
    rw[hw] at hq;simp at hq;rw[aq _ _ hq]
   simp at h
  simp at h
 |si y sz z=>
  simp only[dm,bR,eS] at h ⊢;obtain⟨H2,h,rfl,rfl⟩:=h;unfold sX at h ⊢;split at h
  ·simp at h
  rename_i fw;obtain⟨p,hp,h0⟩:=ba h
  replace h:=h0
  clear h0;have hw:aA d (.si y sz z) env=[p.1]:=by simp only[aA];exact rf hp
  have e1:=ha p.1 (.inr (by rw[hw];simp));split at h
  ·rename_i r hr;split at h
   ·rename_i hc;simp only[di] at h;subst h;refine⟨_,⟨_,by rw[cY fw,hp];simp only[eQ,e1,hr];rw[eE hc],rfl,rfl⟩,fun q hq=> ?_,fun q hq=> ?_⟩
    ·rw[hw] at hq;simp at hq;subst hq;simp
    rw[hw] at hq;simp at hq;rw[aq _ _ hq]
   simp at h
  simp at h
 |_=>simp[dm] at h
def fW {d:Option Nat} {i:U7} {env:Env} {H H':Hp} {x:AV} (h:dm d i env H=some (x,H')):∀l,l∉aA d i env→H' l=H l:=by
 obtain⟨Hu,h1,_,h3⟩:=j5 h (H1:=H) (fun _ _=>rfl);rw[h] at h1;simp only[di,eS] at h1;obtain⟨_,rfl⟩:=h1;exact h3
def gO {d:Option Nat} {i:U7} {env env':Env} (h:∀x∈i.os,ev env x=ev env' x) (H:Hp):dm d i env H=dm d i env' H∧cx i env=cx i env'∧aA d i env=aA d i env':=by
 cases i with
 |load m x=>simp only[dm,cx,aA];rw[h x PG];simp
 |box x=>simp only[dm,cx,aA];rw[h x PG];simp
 |store m x y=>simp only[dm,cx,aA];rw[h x PG,h y PG];simp
 |app x y sz b=>simp only[dm,cx,aA];rw[h x PG,h y PG];simp
 |qL x y sz=>simp only[dm,cx,aA];rw[h x PG,h y PG];simp
 |gG sz z ps=>
  simp only[dm,cx,aA];have:(ps.map fun p=>(p.1,ev env p.2))=ps.map fun p=>(p.1,ev env' p.2):=
   yp fun p hp=>by rw[h p.2 (by simp only[U7.os];exact GF (f:=fun p:Nat×O=>p.2) hp)]
  rw[this];simp
 |si x sz z=>simp only[dm,cx,aA];rw[h x PG];simp
 |tU n c sz b z=>simp only[dm,cx,aA];rw[h n PG,h c PG];simp
 |_=>simp[dm,cx,aA]
end Go.Am

namespace Go.Am
open Go Go.RowKit
def Quiet (S:St) (i:U7) (env:Env) (res:AV):Prop:=
 match i with
 | .call f args=>au S.P S.G f (args.map (ev env)) res
 | .fM x args=>∃f first cap,ev env x= .fn f first cap∧fU S.P f=true∧au S.P S.G f (first++args.map (ev env)++cap) res
 |_=>False
def FX (S:St) (F:List Lb) (f:Nat) (args:List AV) (H:Hp) (k:AV→Hp→Prop):Prop:=
 ∃Q:AV→Hp→Prop,jJ S f args H Q∧(∃x H',Q x H')∧∀x H',Q x H'→(∀l:Lb,l.iQ∈F→H' l=H l)∧k x H'
def akH (S:St) (fp:Fp) (d:Option Nat) (i:U7) (env:Env) (H:Hp) (k:AV→Hp→Prop):Prop:=
 match fp with
 | .no=>∃x,(af i env=some x∨Quiet S i env x)∧k x H
 | .rw R W=>∃x H',dm d i env H=some (x,H')∧(∀l∈cx i env,l.iQ∈R∨l.iQ∈W)∧(∀l∈aA d i env,l.iQ∈W)∧k x H'
 | .all=>bg S d i env H k
 | .p_ F=>match i with
  | .call f args=>FX S F f (args.map (ev env)) H k
  |_=>False
def jJ.mono {S:St} {f:Nat} {args:List AV} {H:Hp} {k k':AV→Hp→Prop} (hk:∀x H,k x H→k' x H) (h:jJ S f args H k):jJ S f args H k':=by
 rcases h with⟨res,h1,h2⟩|⟨U6,res,h1,h2,h3,h4⟩|⟨ρ,iu,U6,Q,h1,h2,h3,h4,h5,h6,h7,h8,h9⟩
 ·exact .inl ⟨res,h1,hk _ _ h2⟩
 ·exact .inr (.inl ⟨U6,res,h1,h2,h3,hk _ _ h4⟩)
 refine .inr<| .inr ⟨ρ,iu,U6,Q,h1,h2,h3,h4,h5,h6,h7,h8,fun x H' hq=> ?_⟩;obtain⟨ρ',kK,q1,q2,q3,q4,q5,q6,q7,q8,q9⟩:=h9 x H' hq;exact⟨ρ',kK,q1,q2,q3,q4,q5,q6,q7,q8,hk _ _ q9⟩
def bg.mono {S:St} {d:Option Nat} {i:U7} {env:Env} {H:Hp} {k k':AV→Hp→Prop} (hk:∀x H,k x H→k' x H) (h:bg S d i env H k):bg S d i env H k':=by
 cases i with
 |load m a=>
  simp only[bg] at h ⊢;rcases h with⟨x,h1,h2⟩|⟨x,h1,h2⟩
  ·exact .inl ⟨x,h1,hk _ _ h2⟩
  exact .inr ⟨x,h1,hk _ _ h2⟩
 |box x=>
  simp only[bg] at h ⊢;obtain⟨n,h1,h2,h3,h4,h5,h6⟩:=h;exact⟨n,h1,h2,h3,h4,h5,hk _ _ h6⟩
 |new cs=>
  simp only[bg] at h ⊢;obtain⟨n,h1,h2,h3,h4,h5⟩:=h;exact⟨n,h1,h2,h3,h4,hk _ _ h5⟩
 |store m a x=>
  simp only[bg] at h ⊢;obtain⟨h1,H',h2,h3⟩:=h;exact⟨h1,H',h2,hk _ _ h3⟩
 |app s x sz b=>
  simp only[bg] at h ⊢;obtain⟨n,h1,y,H',h2,h3⟩:=h;exact⟨n,h1,y,H',h2,hk _ _ h3⟩
 |call f args=>exact jJ.mono hk h
 |BJ n x=>
  simp only[bg] at h ⊢;obtain⟨bs,h1,h2⟩:=h;exact⟨bs,h1,fun b hb=>hk _ _ (h2 b hb)⟩
 |pP s n sz b z=>
  simp only[bg] at h ⊢;obtain⟨q,h1,y,H',h2,h3⟩:=h;exact⟨q,h1,y,H',h2,hk _ _ h3⟩
 |gG sz z ps=>
  simp only[bg] at h ⊢;obtain⟨q,h1,y,H',h2,h3⟩:=h;exact⟨q,h1,y,H',h2,hk _ _ h3⟩
 |cap x=>
  simp only[bg] at h ⊢;obtain⟨R,h1,h2⟩:=h;exact⟨R,h1,fun m hm K3=>hk _ _ (h2 m hm K3)⟩
 |qL s x sz=>
  simp only[bg] at h ⊢;obtain⟨y,H',h1,h2⟩:=h;exact⟨y,H',h1,hk _ _ h2⟩
 |si x sz z=>
  simp only[bg] at h ⊢;obtain⟨H',h1,h2⟩:=h;exact⟨H',h1,hk _ _ h2⟩
 |tU n c sz b z=>
  simp only[bg] at h ⊢;obtain⟨q,h1,y,H',h2,h3⟩:=h;exact⟨q,h1,y,H',h2,hk _ _ h3⟩
 |kE f args=>
  simp only[bg] at h ⊢;obtain⟨res,h1,h2⟩:=h;exact⟨res,h1,hk _ _ h2⟩
 |fM x args=>
  simp only[bg] at h ⊢;obtain⟨f,first,cap,h1,h2,h3⟩:=h
  exact⟨f,first,cap,h1,h2,jJ.mono hk h3⟩
 |_=>
 simp only[bg] at h ⊢;obtain⟨x,h1,h2⟩:=h;exact⟨x,h1,hk _ _ h2⟩
def akH.mono {S:St} {fp:Fp} {d:Option Nat} {i:U7} {env:Env} {H:Hp} {k k':AV→Hp→Prop} (hk:∀x H,k x H→k' x H) (h:akH S fp d i env H k):akH S fp d i env H k':=by
 cases fp with
 |no=>obtain⟨x,h1,h2⟩:=h;exact⟨x,h1,hk _ _ h2⟩
 |rw R W=>obtain⟨x,H',h1,h2,h3,h4⟩:=h;exact⟨x,H',h1,h2,h3,hk _ _ h4⟩
 |all=>exact bg.mono hk h
 |p_ F=>
 cases i<;>simp only[akH] at h ⊢;obtain⟨Q,h1,h2,h3⟩:=h;exact⟨Q,h1,h2,fun x H' hq=>⟨(h3 x H' hq).1,hk _ _ (h3 x H' hq).2⟩⟩
def akH.act {S:St} {fp:Fp} {d:Option Nat} {i:U7} {env:Env} {H:Hp} {k:AV→Hp→Prop} (h:akH S fp d i env H k):bg S d i env H k:=by
 cases fp with
 |all=>exact h
 |p_ F=>
  cases i<;>simp only[akH] at h;obtain⟨Q,h1,h2,h3⟩:=h;exact jJ.mono (fun x H' hq=>(h3 x H' hq).2) h1
 |no=>
  obtain⟨x,h1,h2⟩:=h;cases i with
  |load m a=>
   rcases h1 with h1|h1
   ·exact .inl ⟨x,h1,h2⟩
   exact absurd h1 (by simp[Quiet])
  |call f args=>
   rcases h1 with h1|h1
   ·simp[af] at h1
   exact .inl ⟨x,h1,h2⟩
  |fM y args=>
   rcases h1 with h1|⟨f,first,cap,e1,e2,e3⟩
   ·simp[af] at h1
   exact⟨f,first,cap,e1,e2,.inl ⟨x,e3,h2⟩⟩
  |box _=>rcases h1 with h1|h1<;>simp[af,Quiet] at h1
  |BJ _ _=>rcases h1 with h1|h1<;>simp[af,Quiet] at h1
  |new _=>rcases h1 with h1|h1<;>simp[af,Quiet] at h1
  |store _ _ _=>rcases h1 with h1|h1<;>simp[af,Quiet] at h1
  |app _ _ _ _=>rcases h1 with h1|h1<;>simp[af,Quiet] at h1
  |cap _=>rcases h1 with h1|h1<;>simp[af,Quiet] at h1
  |pP _ _ _ _ _=>rcases h1 with h1|h1<;>simp[af,Quiet] at h1
  |gG _ _ _=>rcases h1 with h1|h1<;>simp[af,Quiet] at h1
  |qL _ _ _=>rcases h1 with h1|h1<;>simp[af,Quiet] at h1
  |si _ _ _=>rcases h1 with h1|h1<;>simp[af,Quiet] at h1
  |tU _ _ _ _ _=>rcases h1 with h1|h1<;>simp[af,Quiet] at h1
  |kE _ _=>rcases h1 with h1|h1<;>simp[af,Quiet] at h1
  |_=>
  rcases h1 with h1|h1
  ·exact⟨x,h1,h2⟩
  exact absurd h1 (by simp[Quiet])
 |rw R W=>
 obtain⟨x,H',h1,_,_,h2⟩:=h;cases i with
 |load m a=>
  simp only[dm,bR,eS] at h1;obtain⟨y,h1,rfl,rfl⟩:=h1;exact .inr ⟨y,h1,h2⟩
 |box y=>
  simp only[dm] at h1;obtain⟨n,rfl,h0⟩:=ba h1;split at h0
  ·rename_i hc;simp only[di,eS] at h0;obtain⟨rfl,rfl⟩:=h0;exact⟨n,rfl,hc.1,hc.2.1,hc.2.2.1,hc.2.2.2,h2⟩
  simp at h0
 |new cs=>
  simp only[dm] at h1;obtain⟨n,rfl,h0⟩:=ba h1;split at h0
  ·rename_i hc;simp only[di,eS] at h0;obtain⟨rfl,rfl⟩:=h0;exact⟨n,rfl,hc.1,hc.2.1,hc.2.2,h2⟩
  simp at h0
 |store m a y=>
  simp only[dm] at h1;split at h1
  ·rename_i hd;simp only[bR,eS] at h1;obtain⟨H2,h1,rfl,rfl⟩:=h1;exact⟨hd,H2,h1,h2⟩
  simp at h1
 |app s y sz bytes=>
  simp only[dm] at h1;obtain⟨n,rfl,h0⟩:=ba h1;exact⟨n,rfl,x,H',h0,h2⟩
 |gG sz z ps=>
  simp only[dm] at h1;obtain⟨q,rfl,h0⟩:=ba h1;exact⟨q,rfl,x,H',h0,h2⟩
 |qL s y sz=>
  simp only[dm] at h1;exact⟨x,H',h1,h2⟩
 |tU n c sz b z=>
  simp only[dm] at h1;obtain⟨q,rfl,h0⟩:=ba h1;exact⟨q,rfl,x,H',h0,h2⟩
 |si y sz z=>
  simp only[dm,bR,eS] at h1;obtain⟨H2,h1,rfl,rfl⟩:=h1;exact⟨H2,h1,h2⟩
 |_=>simp[dm] at h1
def kY {S:St} {i:U7} {env env':Env} (h:∀x∈i.os,ev env x=ev env' x) {x:AV} (hq:Quiet S i env x):Quiet S i env' x:=by
 cases i with
 |call f args=>
  simp only[Quiet] at hq ⊢;have:args.map (ev env)=args.map (ev env'):=yp fun p hp=>h p (by simpa[U7.os] using hp);rw[←this];exact hq
 |fM y args=>
  simp only[Quiet] at hq ⊢;have:args.map (ev env)=args.map (ev env'):=yp fun p hp=>h p (by simp only[U7.os,dU];exact .inr hp);rw[←this,←h y PG];exact hq
 |_=>exact hq
def kZ {S:St} {fp:Fp} {d:Option Nat} {i:U7} {env env':Env} (h:∀x∈i.os,ev env x=ev env' x) {H:Hp} {k:AV→Hp→Prop} (ha:akH S fp d i env H k):akH S fp d i env' H k:=by
 cases fp with
 |no=>
  obtain⟨x,h1,h2⟩:=ha;refine⟨x,?_,h2⟩;rcases h1 with h1|h1
  ·exact .inl (by rw[←fh h];exact h1)
  exact .inr (kY h h1)
 |rw R W=>
  obtain⟨x,H',h1,h2,h3,h4⟩:=ha;obtain⟨e1,e2,e3⟩:=gO (d:=d) h H;exact⟨x,H',by rw[←e1];exact h1,by rw[←e2];exact h2,by rw[←e3];exact h3,h4⟩
 |all=>exact vu h ha
 |p_ F=>
 cases i with
 |call f args=>
  simp only[akH] at ha ⊢;have:args.map (ev env)=args.map (ev env'):=yp fun p hp=>h p (by simpa[U7.os] using hp);rw[←this];exact ha
 |_=>simp only[akH] at ha
def akH.IA {S:St} {F:List Lb} {d:Option Nat} {i:U7} {env:Env} {H:Hp} {k:AV→Hp→Prop} (h:akH S (.p_ F) d i env H k):akH S (.p_ F) d i env H fun x H'=>(∀l:Lb,l.iQ∈F→H' l=H l)∧k x H':=by
 cases i<;>simp only[akH] at h ⊢;obtain⟨Q,h1,h2,h3⟩:=h;exact⟨Q,h1,h2,fun x H' hq=>⟨(h3 x H' hq).1,h3 x H' hq⟩⟩
def qF (S:St) (p:bh×Fp) (env:Env) (H:Hp) (k:Env→Hp→Prop):Prop:=
 (gW p.1.g env=some true∧(∀n,p.1.d=some n→n<S.N)∧akH S p.2 p.1.d p.1.i env H fun x H'=>k (cV env p.1.d x) H') ∨
  (gW p.1.g env=some false∧(∀n,p.1.d=some n→n<S.N)∧k (cV env p.1.d .un) H)
def jO (S:St):List (Nat×bh×Fp)→Env→Hp→(Env→Hp→Prop)→Prop
 |[],env,H,k=>k env H
 |p::r,env,H,k=>qF S p.2 env H fun e h=>jO S r e h k
def kh (d:Option Nat) (us:List Nat):Bool:=match d with|some n=> !us.contains n|none=>true
def o3 (p q:bh):Bool:=kh p.d q.us&&kh q.d p.us&&(p.d.isNone||p.d !=q.d)
def Fp.B6:Fp→Bool
 | .p_ _=>true
 |_=>false
def iw:Fp→Fp→Bool
 | .no,_=>true
 | .rw _ _,.no=>true
 | .rw R W,.rw R' W'=>W.all (fun l=> !R'.contains l&& !W'.contains l)&&R.all (fun l=> !W'.contains l)
 | .rw R W,.p_ F=>W.isEmpty&&R.all (fun l=>F.contains l)
 | .p_ _,.no=>true
 | .p_ F,.rw R W=>W.isEmpty&&R.all (fun l=>F.contains l)
 |_,_=>false
def U7.s5:U7→Bool
 | .call _ _| .fM _ _=>true
 |_=>false
def indep (p q:bh×Fp):Bool:=o3 p.1 q.1&&(iw p.2 q.2&& !(p.2.B6&&q.1.i.s5))
section
variable {S:St} {env:Env} {H:Hp}
def qF.mono {p:bh×Fp} {k k':Env→Hp→Prop} (hk:∀e h,k e h→k' e h) (h:qF S p env H k):qF S p env H k':=by
 rcases h with⟨h1,h2,h3⟩|⟨h1,h2,h3⟩
 ·exact .inl ⟨h1,h2,h3.mono fun _ _=>hk _ _⟩
 exact .inr ⟨h1,h2,hk _ _ h3⟩
theorem jO.mono {k k':Env→Hp→Prop} (hk:∀e h,k e h→k' e h):∀(l:List (Nat×bh×Fp)) (env:Env) (H:Hp),jO S l env H k→jO S l env H k'
 |[],env,H,h=>hk _ _ h
 |p::r,env,H,h=>qF.mono (fun e h'=>jO.mono hk r e h') h
def eJ {d d':Option Nat} (h:d=none∨d≠d') (x y:AV):cV (cV env d x) d' y=cV (cV env d' y) d x:=by
 cases d with
 |none=>rfl
 |some n=>
 cases d' with
 |none=>rfl
 |some m=>
 have:n≠m:=by rcases h with h|h;simp at h;simpa using h
 funext q;simp only[cV,put];by_cases e1:q=n
 ·by_cases e2:q=m
  ·exact absurd (e1.symm.trans e2) this
  simp[e1,this]
 by_cases e2:q=m
 ·simp[e2,yd this]
 simp[e1,e2]
def C3 {g:Option (Nat×Bool)} {d:Option Nat} {x:AV} (h:∀n,d=some n→n∉(match g with|some (s,_)=>[s]|none=>([]:List Nat))):gW g (cV env d x)=gW g env:=by
 cases g with
 |none=>rfl
 |some p=>
 obtain⟨s,t⟩:=p;cases d with
 |none=>rfl
 |some m=>
 have:=h m rfl;simp at this;simp[gW,cV,put,yd this]
def qa {d:Option Nat} {us:List Nat} (h:kh d us=true):∀n,d=some n→n∉us:=by
 rintro n rfl;simpa[kh] using h
def ez {q:bh} {d:Option Nat} (h:kh d q.us=true) (x:AV) (env:Env):gW q.g (cV env d x)=gW q.g env∧∀o∈q.i.os,ev (cV env d x) o=ev env o:=by
 have h':=qa h;refine⟨C3 fun n hn hm=>h' n hn (by simp only[bh.us,eR];exact .inr hm),fun o ho=>C2 fun n hn hm=>h' n hn ?_⟩;simp only[bh.us,eR,Ob];exact .inl ⟨o,ho,hm⟩
def qF.shift {q:bh×Fp} {d:Option Nat} (h:kh d q.1.us=true) (hd:d=none∨d≠q.1.d) {x:AV} {k:Env→Hp→Prop} (hs:qF S q (cV env d x) H k) :
  qF S q env H fun e h=>k (cV e d x) h∧∃y,e=cV env q.1.d y:=by
 obtain⟨e1,e2⟩:=ez h x env;rcases hs with⟨h1,h2,h3⟩|⟨h1,h2,h3⟩
 ·exact .inl ⟨by rw[←e1];exact h1,h2,(kZ e2 h3).mono fun y H' hk=>⟨by rw[←eJ hd];exact hk,y,rfl⟩⟩
 exact .inr ⟨by rw[←e1];exact h1,h2,by rw[←eJ hd];exact h3,_,rfl⟩
def qF.swap {p q:bh×Fp} (hi:indep p q=true) {k:Env→Hp→Prop} (h:qF S p env H fun e h=>qF S q e h k):qF S q env H fun e h=>qF S p e h k:=by
 simp only[indep,o3,de,Be,Option.isNone_iff_eq_none,sd] at hi;obtain⟨⟨⟨r1,r2⟩,r3⟩,hf,IB⟩:=hi;obtain⟨lp,fp⟩:=p;obtain⟨lq,fq⟩:=q;simp only at r1 r2 r3 hf;have Me:lq.d=none∨lq.d≠lp.d:=by
  rcases r3 with r3|r3
  ·by_cases e:lq.d=none
   ·exact .inl e
   exact .inr (by rw[r3];exact e)
  exact .inr (yd r3)
 rcases h with⟨h1,h2,h3⟩|⟨h1,h2,h3⟩
 ·cases fp with
  |no=>
   obtain⟨x,h4,h5⟩:=h3;refine(h5.shift r1 r3).mono ?_;rintro e h' ⟨hk,y,rfl⟩;obtain⟨e1,e2⟩:=ez r2 y env;refine .inl ⟨by simp only;rw[e1];exact h1,h2,x,?_,hk⟩;rcases h4 with h4|h4
   ·exact .inl (by simp only;rw[fh e2];exact h4)
   exact .inr (kY (fun o ho=>(e2 o ho).symm) h4)
  |rw R W=>
   obtain⟨x,H',m1,m2,m3,m4⟩:=h3;have vw:∀y,dm lp.d lp.i (cV env lq.d y) H=some (x,H')∧cx lp.i (cV env lq.d y)=cx lp.i env∧aA lp.d lp.i (cV env lq.d y)=aA lp.d lp.i env:=fun y=>by
    obtain⟨c1,c2,c3⟩:=gO (d:=lp.d) (ez r2 y env).2 H;exact⟨by rw[c1];exact m1,c2,c3⟩
   obtain⟨f1,f2⟩:=ez r1 x env;have g2:∀y,gW lp.g (cV env lq.d y)=some true:=fun y=>(by rw[(ez r2 y env).1];exact h1);rcases m4 with⟨k1,k2,k3⟩|⟨k1,k2,k3⟩
   ·cases fq with
    |no=>
     obtain⟨y,k4,k5⟩:=k3;refine .inl ⟨by simp only;rw[←f1];exact k1,k2,y,?_,?_⟩
     ·rcases k4 with k4|k4
      ·exact .inl (by simp only;rw[←fh f2];exact k4)
      exact .inr (kY f2 k4)
     exact .inl ⟨g2 y,h2,x,H',(vw y).1,by simp only;rw[(vw y).2.1];exact m2,by simp only;rw[(vw y).2.2];exact m3,by simp only;rw[←eJ r3];exact k5⟩
    |rw R' W'=>
     obtain⟨y,kK,k4,k5,k6,k7⟩:=k3;obtain⟨c1,c2,c3⟩:=gO (d:=lq.d) f2 H';simp only at k4 k5 k6 k7;rw[c1] at k4;rw[c2] at k5;rw[c3] at k6;simp only[iw,de,yq,D0,I7,D5] at hf;obtain⟨B7,FW⟩:=hf;have pW:∀l,l∈aA lp.d lp.i env→l.iQ∉R'∧l.iQ∉W':=fun l hl=>B7 l.iQ (m3 l hl);have C4:∀l,l∈cx lq.i env∨l∈aA lq.d lq.i env→H l=H' l:=by
      intro l hl;refine(fW m1 l fun hw=> ?_).symm;rcases hl with hl|hl
      ·rcases k5 l hl with e|e
       ·exact(pW l hw).1 e
       exact(pW l hw).2 e
      exact(pW l hw).2 (k6 l hl)
     obtain⟨H2,a1,a2,a3⟩:=j5 k4 C4;have qb:∀l,l∈cx lp.i env∨l∈aA lp.d lp.i env→H2 l=H l:=by
      intro l hl;refine a3 l fun hw=> ?_;rcases hl with hl|hl
      ·rcases m2 l hl with e|e
       ·exact FW l.iQ e (k6 l hw)
       exact(B7 l.iQ e).2 (k6 l hw)
      exact(pW l hl).2 (k6 l hw)
     obtain⟨H3,b1,b2,b3⟩:=j5 m1 qb;have hH:H3=kK:=by
      funext l;by_cases hw:l∈aA lp.d lp.i env
      ·rw[b2 l hw];exact(fW k4 l fun hq=>(pW l hw).2 (k6 l hq)).symm
      rw[b3 l hw];by_cases hq:l∈aA lq.d lq.i env
      ·exact a2 l hq
      rw[a3 l hq,fW k4 l hq,fW m1 l hw]
     subst hH;refine .inl ⟨by simp only;rw[←f1];exact k1,k2,y,H2,a1,k5,k6,?_⟩;obtain⟨d1,d2,d3⟩:=gO (d:=lp.d) (ez r2 y env).2 H2;exact .inl ⟨g2 y,h2,x,H3,by simp only;rw[d1];exact b1,by simp only;rw[d2];exact m2,by simp only;rw[d3];exact m3,by simp only;rw[←eJ r3];exact k7⟩
    |all=>simp[iw] at hf
    |p_ F=>
     simp only[iw,de,O8,yq,I7,dj] at hf;obtain⟨rfl,hf⟩:=hf;have zO:∀l,l∉aA lp.d lp.i env:=fun l hl=>(by simpa using m3 l hl);have hH:H'=H:=funext fun l=>fW m1 l (zO l);subst hH;refine .inl ⟨by simp only;rw[←f1];exact k1,k2,?_⟩;refine akH.mono (fp:= .p_ F) (k:=fun y H2=>(∀l:Lb,l.iQ∈F→H2 l=H' l)∧k (cV (cV env lp.d x) lq.d y) H2) ?_ (kZ f2 (akH.IA k3));rintro y H2 ⟨g1,g3⟩;have qb:∀l,l∈cx lp.i env∨l∈aA lp.d lp.i env→H2 l=H' l:=by
      intro l hl;rcases hl with hl|hl
      ·rcases m2 l hl with e|e
       ·exact g1 l (hf _ e)
       simp at e
      exact absurd hl (zO l)
     obtain⟨H3,b1,b2,b3⟩:=j5 m1 qb;have hH:H3=H2:=funext fun l=>b3 l (zO l);subst hH;obtain⟨d1,d2,d3⟩:=gO (d:=lp.d) (ez r2 y env).2 H3;exact .inl ⟨g2 y,h2,x,H3,by simp only;rw[d1];exact b1,by simp only;rw[d2];exact m2,by simp only;rw[d3];exact m3,by simp only;rw[←eJ r3];exact g3⟩
   refine .inr ⟨by simp only;rw[←f1];exact k1,k2,?_⟩;exact .inl ⟨g2 .un,h2,x,H',(vw .un).1,by simp only;rw[(vw .un).2.1];exact m2,by simp only;rw[(vw .un).2.2];exact m3,by simp only;rw[←eJ r3];exact k3⟩
  |all=>cases fq<;>simp[iw] at hf
  |p_ F=>
   cases IC:lp.i with
   |call f args=>
    rw[IC] at h3;simp only[akH] at h3;obtain⟨Q,m1,⟨x0,H0,m2⟩,m3⟩:=h3;have Hr:∀x H',Q x H'→∀l:Lb,l.iQ∈F→H' l=H l:=fun x H' hq=>(m3 x H' hq).1;have g_:∀x H',Q x H'→qF S (lq,fq) (cV env lp.d x) H' k:=fun x H' hq=>(m3 x H' hq).2;have fs:=fun x:AV=>ez r1 x env;have back:∀(y:AV) (k':AV→Hp→Prop),(∀x H',Q x H'→k' x H')→akH S (.p_ F) lp.d lp.i (cV env lq.d y) H k':=fun y k' vy=>by
     have h4:akH S (.p_ F) lp.d lp.i env H k':=by
      rw[IC];simp only[akH];exact⟨Q,m1,⟨x0,H0,m2⟩,fun x H' hq=>⟨Hr x H' hq,vy x H' hq⟩⟩
     exact kZ (fun o ho=>((ez r2 y env).2 o ho).symm) h4
    have g2:∀y,gW lp.g (cV env lq.d y)=some true:=fun y=>(by rw[(ez r2 y env).1];exact h1);rcases g_ x0 H0 m2 with⟨k1,k2,k3⟩|⟨k1,k2,k3⟩
    ·simp only at k1 k2 k3;rw[(fs x0).1] at k1;have dN:∀x H',Q x H'→akH S fq lq.d lq.i (cV env lp.d x) H' fun y kK=>k (cV (cV env lp.d x) lq.d y) kK:=by
      intro x H' hq;rcases g_ x H' hq with⟨e1,e2,e3⟩|⟨e1,e2,e3⟩
      ·exact e3
      simp only at e1;rw[(fs x).1,k1] at e1;simp at e1
     cases fq with
     |no=>
      have BP:∀(y:AV) (env':Env),Quiet S lq.i env' y→False:=by
       intro y env' hq;have:lq.i.s5=false:=(by simpa[Fp.B6] using IB);cases hi:lq.i<;>simp_all[Quiet,U7.s5]
      obtain⟨y,k4,_⟩:=k3;have k4:af lq.i env=some y:=by
       rcases k4 with k4|k4
       ·rwa[fh (fs x0).2] at k4
       exact(BP y _ k4).elim
      refine .inl ⟨k1,k2,y,.inl k4,?_⟩;refine .inl ⟨g2 y,h2,back y _ fun x H' hq=> ?_⟩;obtain⟨y',e1,e2⟩:=dN x H' hq;have e1:af lq.i env=some y':=by
       rcases e1 with e1|e1
       ·rwa[fh (fs x).2] at e1
       exact(BP y' _ e1).elim
      rw[k4] at e1;cases e1;simp only;rw[←eJ r3];exact e2
     |rw R W=>
      simp only[iw,de,O8,yq,I7,dj] at hf;obtain⟨rfl,hf⟩:=hf;have one:∀x H',Q x H'→∀y H2,dm lq.d lq.i (cV env lp.d x) H'=some (y,H2)→(∀l∈cx lq.i (cV env lp.d x),l.iQ∈R∨l.iQ∈([]:List Lb))→(∀l∈aA lq.d lq.i (cV env lp.d x),l.iQ∈([]:List Lb)) →
        dm lq.d lq.i env H=some (y,H)∧H2=H'∧(∀l∈cx lq.i env,l.iQ∈R∨l.iQ∈([]:List Lb))∧∀l∈aA lq.d lq.i env,l.iQ∈([]:List Lb):=by
       intro x H' hq y H2 e1 e2 e3;obtain⟨c1,c2,c3⟩:=gO (d:=lq.d) (fs x).2 H';rw[c1] at e1;rw[c2] at e2;rw[c3] at e3;have zO:∀l,l∉aA lq.d lq.i env:=fun l hl=>(by simpa using e3 l hl);have zA:∀l,l∈cx lq.i env∨l∈aA lq.d lq.i env→H l=H' l:=by
        intro l hl;rcases hl with hl|hl
        ·rcases e2 l hl with e|e
         ·exact(Hr x H' hq l (hf _ e)).symm
         simp at e
        exact absurd hl (zO l)
       obtain⟨H3,b1,b2,b3⟩:=j5 e1 zA;have hH:H3=H:=funext fun l=>b3 l (zO l);subst hH;exact⟨b1,funext fun l=>fW e1 l (zO l),e2,e3⟩
      obtain⟨y,H2,q1,q2,q3,_⟩:=k3;obtain⟨a1,_,a3,a4⟩:=one x0 H0 m2 y H2 q1 q2 q3;refine .inl ⟨k1,k2,y,H,a1,a3,a4,?_⟩;refine .inl ⟨g2 y,h2,back y _ fun x H' hq=> ?_⟩;obtain⟨y',K4,p1,p2,p3,p4⟩:=dN x H' hq;obtain⟨b1,rfl,_,_⟩:=one x H' hq y' K4 p1 p2 p3;rw[a1] at b1;cases b1;simp only;rw[←eJ r3];exact p4
     |all=>simp[iw] at hf
     |p_ F'=>simp[iw] at hf
    simp only at k1 k2 k3;rw[(fs x0).1] at k1;refine .inr ⟨k1,k2,?_⟩;refine .inl ⟨g2 .un,h2,back .un _ fun x H' hq=> ?_⟩;rcases g_ x H' hq with⟨e1,e2,e3⟩|⟨e1,e2,e3⟩
    ·simp only at e1;rw[(fs x).1,k1] at e1;simp at e1
    simp only;rw[←eJ r3];exact e3
   |_=>rw[IC] at h3;simp only[akH] at h3
 refine(h3.shift r1 r3).mono ?_;rintro e h' ⟨hk,y,rfl⟩;obtain⟨e1,e2⟩:=ez r2 y env;exact .inr ⟨by simp only;rw[e1];exact h1,h2,hk⟩
theorem jO.front {q:Nat×bh×Fp} {l2:List (Nat×bh×Fp)} {k:Env→Hp→Prop}:∀(l1:List (Nat×bh×Fp)) (env:Env) (H:Hp),(∀p∈l1,indep p.2 q.2=true)→jO S (l1++q::l2) env H k →
  jO S (q::(l1++l2)) env H k
 |[],env,H,_,h=>h
 |p::l1,env,H,hi,h=>by
  simp only[List.cons_append,jO] at h ⊢;refine qF.swap (hi p N7) (h.mono fun e h' hq=> ?_);have:=jO.front l1 e h' (fun p' BT=>hi p' (by simp[BT])) hq;simpa only[jO] using this
end

def Vw (ops:Array Oper):List (List Nat):=ops.toList.map fun o=>(o.after.toList.filter (Region.binds .any)).map (·.on)
def items:Nat→List bh→List Fp→List (Nat×bh×Fp)
 |_,[],_=>[]
 |n,i::r,fs=>(n,i,fs.headD .no)::items (n+1) r fs.tail
def lE (es:List (List Nat)):List (Nat×bh×Fp)→Bool
 |[]=>true
 |p::r=>r.all (fun q=>(es.getD q.1 []).contains p.1||indep p.2 q.2)&&lE es r
def nO (acc:List (List Nat)):List (List Nat)→List (List Nat)
 |[]=>acc
 |x::r=>nO (acc++[(x.flatMap fun e=>acc.getD e []).foldl (fun a e=>if a.contains e then a else e::a) x]) r
inductive B8 (es:List (List Nat)):Nat→Nat→Prop where
 |one {p q:Nat}:p∈es.getD q []→B8 es p q
 |more {p r q:Nat}:r∈es.getD q []→B8 es p r→B8 es p q
def w_ {l x:List Nat} {p:Nat} (h:p∈l.foldl (fun a e=>if a.contains e then a else e::a) x):p∈x∨p∈l:=by
 induction l generalizing x with
 |nil=>exact .inl h
 |cons e l ih=>
 simp only[Bw] at h;rcases ih h with h|h
 ·split at h
  ·exact .inl h
  rcases dU.1 h with rfl|h
  ·exact .inr N7
  exact .inl h
 exact .inr (by simp[h])
theorem mQ (es:List (List Nat)):∀(r acc:List (List Nat)),es.drop acc.length=r→(∀i p,p∈acc.getD i []→B8 es p i)→∀i p,p∈(nO acc r).getD i []→B8 es p i
 |[],acc,_,h=>by simpa[nO] using h
 |x::r,acc,hd,h=>by
  simp only[nO];have hx:es[acc.length]?=some x:=by
   have:=GB (fun l=>l[0]?) hd;simpa using this
  refine mQ es r _ ?_ ?_
  ·rw[ko,List.length_singleton,←JO,hd];rfl
  intro i p hp;rw[zf] at hp;by_cases hi:i<acc.length
  ·rw[bB hi,←zf] at hp;exact h i p hp
  rw[b_ tM] at hp;by_cases e:i=acc.length
  ·subst e;simp only[Gl,yr,EG] at hp;have Hv:es.getD acc.length []=x:=(by rw[zf,hx];rfl);rcases w_ hp with hp|hp
   ·exact .one (by rw[Hv];exact hp)
   obtain⟨e,he,hp⟩:=Ob.1 hp;exact .more (by rw[Hv];exact he) (h e p hp)
  rw[dV PJ] at hp;simp at hp
def xa (es:List (List Nat)) (l:List (Nat×bh×Fp)):Bool:=l.all fun p=>(es.getD p.1 []).all fun e=>decide (e<p.1)
def uj (is:List bh) (es:List (List Nat)) (fs:List Fp):Bool:=(lE es (items 0 is fs)||lE (nO [] es) (items 0 is fs))&&xa es (items 0 is fs)
theorem jv {es:List (List Nat)}:∀{l:List (Nat×bh×Fp)},lE es l=true→l.Pairwise fun p q=>p.1∈es.getD q.1 []∨indep p.2 q.2=true
 |[],_=> .nil
 |p::r,h=>by
  simp only[lE,de,yq,Be,I7,dj] at h;exact .cons h.1 (jv h.2)
section
variable {K:Kx} {env:Env} {H:Hp} {a:Act} {w:World}
def gP {ops:Array Oper} {listed:Array Bool} {i:Nat}:i∈Region.ready .any ops listed ↔
  i<ops.size∧listed.getD i true=false∧∃o,ops[i]?=some o∧∀e∈o.after,Region.binds .any e=true→listed.getD e.on false=true:=by
 unfold Region.ready;simp only[A6,JG,de,D0];constructor
 ·rintro⟨h1,h2,h3⟩;refine⟨h1,h2,?_⟩;cases ho:ops[i]? with
  |none=>rw[ho] at h3;simp at h3
  |some o=>
  rw[ho] at h3;simp only[bT,EG] at h3;refine⟨o,rfl,fun e he hb=> ?_⟩;have K5:=NA.1 h3;have:=K5 e he;simpa[hb] using this
 rintro⟨h1,h2,o,h3,h4⟩;refine⟨h1,h2,?_⟩;rw[h3];simp only[bT,EG];refine NA.2 fun e he=> ?_;cases hb:Region.binds .any e with
 |false=>rfl
 |true=>simpa using h4 e he hb
def mR {ops:Array Oper} {i:Nat} {o:Oper} (ho:ops[i]?=some o) {e:Edge} (he:e∈o.after) (hb:Region.binds .any e=true):e.on∈(Vw ops).getD i []:=by
 unfold Vw;rw[zf,cn,D_,ho];simp only[bT,EG,pb,A6,Nl];exact⟨e,⟨he,hb⟩,rfl⟩
def vz {ops:Array Oper} {k:Env→Hp→Prop} {Q:Exit→Act→World→Prop} (hk:∀env' H' β' a' w',k env' H'→aH K β' env' H' a' w'→Q .normal a' w') :
  ∀(fuel:Nat) (l:List (Nat×bh×Fp)) (listed:Array Bool) (env:Env) (H:Hp) (a:Act) (w:World) (β:Lb→Option Nat),l.length=fuel →
   l.Pairwise (fun p q=>p.1<q.1)→listed.size=ops.size→(∀i,i<ops.size→(listed.getD i true=false↔∃p∈l,p.1=i)) →
   (∀p∈l,p.1<ops.size∧∃o,ops[p.1]?=some o∧iY K.P K.G ops o=some p.2.1.fV) →
   l.Pairwise (fun p q=>B8 (Vw ops) p.1 q.1∨indep p.2 q.2=true)→(∀i,i<ops.size→listed.getD i true=true→∀e∈(Vw ops).getD i [],listed.getD e false=true)→(∀p∈l,∀e∈(Vw ops).getD p.1 [],e<p.1) →
   jO ⟨K.P,K.G,K.N⟩ l env H k→aH K β env H a w→wpAny K.P .any ops Q fuel listed a w:=by
 intro fuel;induction fuel with
 |zero=>
  intro l listed env H a w β hlen _ _ hl _ _ _ _ hA hr;have:l=[]:=wc hlen;subst this;refine⟨?_,hk _ _ _ _ _ hA hr⟩;rw[M6];intro i hi;obtain⟨h1,h2,_⟩:=gP.1 hi;obtain⟨p,hp,_⟩:=(hl i h1).1 h2;simp at hp
 |succ fuel ih=>
 intro l listed env H a w β hlen uk gm hl zP xb hD rh hA hr;refine⟨fun s4=> ?_,fun i hi=> ?_⟩
 ·exfalso;cases l with
  |nil=>simp at hlen
  |cons p r=>
  obtain⟨zQ,o,B1,Mf⟩:=zP p N7;have:p.1∈Region.ready .any ops listed:=by
   refine gP.2 ⟨zQ,(hl p.1 zQ).2 ⟨p,N7,rfl⟩,o,B1,fun e he hb=> ?_⟩;have bI:=rh p N7 e.on (mR B1 he hb);have iG:e.on<ops.size:=tM;have Vi:¬listed.getD e.on true=false:=by
    rw[hl e.on iG];rintro⟨q,hq,Mg⟩;rcases dU.1 hq with rfl|hq
    ·omega
    have:=(Mu.1 uk).1 q hq;omega
   rw[nY] at Vi ⊢;rw[ff tM] at Vi ⊢;simpa using Vi
  rw[s4] at this;simp at this
 obtain⟨h1,h2,o,h3,h4⟩:=gP.1 hi;obtain⟨p,hp,rfl⟩:=(hl i h1).1 h2;obtain⟨l1,l2,rfl⟩:=List.append_of_mem hp;obtain⟨_,o',FY,gq⟩:=zP p hp;rw[h3] at FY;cases FY;have ID:∀q∈l1,indep q.2 p.2=true:=by
  intro q hq;rcases (jk.1 xb).2.2 q hq p N7 with he|he
  ·exfalso;have FZ:∀z∈(Vw ops).getD p.1 [],listed.getD z false=true:=by
    intro z he;unfold Vw at he;rw[zf,cn,D_,h3] at he;simp only[bT,EG,pb,A6,Nl] at he;obtain⟨e,⟨F0,CI⟩,rfl⟩:=he;exact h4 e F0 CI
   have qT:∀z t,B8 (Vw ops) z t→listed.getD t false=true→listed.getD z false=true:=by
    intro z t hr;induction hr with
    |@one t hz=>
     intro ht;have EV:t<ops.size:=by
      rw[nY] at ht;cases hh:listed[t]? with
      |none=>rw[hh] at ht;simp at ht
      |some b=>have:=(vN.1 hh).1;omega
     refine hD t EV ?_ z hz;rw[nY] at ht ⊢;rw[ff tM] at ht ⊢;simpa using ht
    |@more r t hz _ ih=>
    intro ht;refine ih ?_;have EV:t<ops.size:=by
     rw[nY] at ht;cases hh:listed[t]? with
     |none=>rw[hh] at ht;simp at ht
     |some b=>have:=(vN.1 hh).1;omega
    refine hD t EV ?_ r hz;rw[nY] at ht ⊢;rw[ff tM] at ht ⊢;simpa using ht
   have wX:listed.getD q.1 false=true:=by
    cases he with
    |one hz=>exact FZ _ hz
    |more hz hr=>exact qT _ _ hr (FZ _ hz)
   have EM:=(zP q (by simp[hq])).1;have wx:=(hl q.1 EM).2 ⟨q,by simp[hq],rfl⟩;rw[nY] at wX wx;rw[ff tM] at wX wx;simp at wX wx;rw[wX] at wx;simp at wx
  exact he
 have J4:=jO.front l1 env H ID hA;simp only[jO] at J4;have Vi:∀q∈l1++l2,q.1≠p.1:=by
  intro q hq e;rcases eR.1 hq with hq|hq
  ·have:=(jk.1 uk).2.2 q hq p N7;omega
  have:=(Mu.1 (jk.1 uk).2.1).1 q hq;omega
 have Rx:(l1++l2).Sublist (l1++p::l2):=List.Sublist.append_left (List.sublist_cons_self p l2) l1;have oN:∀q∈l1++l2,q∈l1++p::l2:=fun q hq=>Rx.subset hq;have gr:∀env' H' β' a' w',jO ⟨K.P,K.G,K.N⟩ (l1++l2) env' H' k→aH K β' env' H' a' w'→wpAny K.P .any ops Q fuel (listed.setIfInBounds p.1 true) a' w':=by
  intro env' H' β' a' w' q1 q2;refine ih (l1++l2) _ env' H' a' w' β' (by simp at hlen ⊢;omega) (uk.sublist Rx) (by simp[gm]) (fun j hj=> ?_) (fun q hq=>zP q (oN q hq)) (xb.sublist Rx) (fun j hj F1 e he=> ?_)
   (fun q hq=>rh q (oN q hq)) q1 q2
  rw[nY,Gz];by_cases e:p.1=j
  ·subst e;simp only[ku];rw[eE tM];simp only[EG,Bool.true_eq_false,false_iff];rintro⟨q,hq,e⟩;exact Vi q hq e
  ·rw[cY e,←nY,hl j hj];constructor
   ·rintro⟨q,hq,rfl⟩;refine⟨q,?_,rfl⟩;simp only[eR,dU] at hq ⊢;rcases hq with hq|hq|hq
    ·exact .inl hq
    ·subst hq;exact absurd rfl e
    exact .inr hq
   rintro⟨q,hq,rfl⟩;exact⟨q,oN q hq,rfl⟩
  have K6:∀z,listed.getD z false=true→(listed.setIfInBounds p.1 true).getD z false=true:=by
   intro z hz;rw[nY] at hz ⊢;rw[Gz];split
   ·split<;>simp_all
   exact hz
  apply K6;by_cases e2:p.1=j
  ·subst e2;unfold Vw at he;rw[zf,cn,D_,h3] at he;simp only[bT,EG,pb,A6,Nl] at he;obtain⟨e,⟨F0,CI⟩,rfl⟩:=he;exact h4 e F0 CI
  refine hD j hj ?_ e he;rw[nY,Gz,cY e2,←nY] at F1;exact F1
 simp only[wpOp,h3];refine YS hr gq (k:=fun e h=>jO ⟨K.P,K.G,K.N⟩ (l1++l2) e h k) gr ?_;rcases J4 with⟨g1,g2,g3⟩|⟨g1,g2,g3⟩
 ·exact .inl ⟨g1,g2,g3.act⟩
 exact .inr ⟨g1,g2,g3⟩
theorem mn:∀(is:List bh) (n:Nat) (fs:List Fp) (p:Nat×bh×Fp),p∈items n is fs→n≤p.1∧is[p.1 - n]?=some p.2.1
 |[],n,fs,p,h=>by simp[items] at h
 |i::r,n,fs,p,h=>by
  simp only[items,dU] at h;rcases h with rfl|h
  ·simp
  obtain⟨h1,h2⟩:=mn r (n+1) _ p h;refine⟨tM,?_⟩;rw[show p.1 - n=(p.1 - (n+1))+1 by omega];simpa using h2
theorem lF:∀(is:List bh) (n:Nat) (fs:List Fp),(items n is fs).Pairwise fun p q=>p.1<q.1
 |[],n,fs=> .nil
 |i::r,n,fs=>by
  simp only[items];refine .cons (fun q hq=> ?_) (lF r (n+1) _);have:=(mn r (n+1) _ q hq).1;simp only;omega
theorem o4:∀(is:List bh) (n:Nat) (fs:List Fp),(items n is fs).length=is.length
 |[],n,fs=>rfl
 |i::r,n,fs=>by simp[items,o4 r]
theorem o5:∀(is:List bh) (n:Nat) (fs:List Fp) (j:Nat),j<is.length→∃p∈items n is fs,p.1=n+j
 |[],n,fs,j,h=>by simp at h
 |i::r,n,fs,0,h=>⟨_,List.mem_cons_self ..,rfl⟩
 |i::r,n,fs,j+1,h=>by
  obtain⟨p,h1,h2⟩:=o5 r (n+1) fs.tail j (by simpa using h);exact⟨p,by simp only[items];exact Nk _ h1,tM⟩
theorem lG {α β:Type} {R:α→β→Prop}:∀{l:List α} {m:List β},iF R l m→l.length=m.length∧∀(i:Nat) (y:β),m[i]?=some y→∃x,l[i]?=some x∧R x y
 |_,_,.nil=>⟨rfl,N7⟩
 |_,_,.cons h1 h2=>by
  obtain⟨e,h⟩:=lG h2;refine⟨by simp[e],fun i y hy=> ?_⟩;cases i with
  |zero=>simp at hy;subst hy;exact⟨_,N7,h1⟩
  |succ i=>obtain⟨x,q1,q2⟩:=h i y (by simpa using hy);exact⟨x,by simpa using q1,q2⟩
def aH.drew {β:Lb→Option Nat} (hr:aH K β env H a w):aH K β env H a {w with drawn:=w.drawn+1}:=by
 have hg:iU w {w with drawn:=w.drawn+1}:=⟨rfl,rfl,rfl,eM _,fun _ _=>rfl⟩;have:=hr.step hg (d:=none) (x:= .un) (v:=undef) N7 N7 N7;simpa[cV,Act.put] using this
def ri {β:Lb→Option Nat} (hr:aH K β env H a w) {id:Nat} {ops:Array Oper} (hm:K.P.follows .mixedOrders=true) {is:List bh} {fs:List Fp}
  (dN:iF (fun o i=>iY K.P K.G ops o=some (bh.fV i)) ops.toList is) (ho:uj is (Vw ops) fs=true) {k:Env→Hp→Prop} {Q:Exit→Act→World→Prop}
  (hk:∀env' H' β' a' w',k env' H'→aH K β' env' H' a' w'→Q .normal a' w') (hA:jO ⟨K.P,K.G,K.N⟩ (items 0 is fs) env H k):(Code.region id ops true).wp K.P Q a w:=by
 obtain⟨hlen,jY⟩:=lG dN;simp only[JF] at hlen;simp only[uj,de] at ho;obtain⟨CU,ET⟩:=ho;have K7:(items 0 is fs).Pairwise fun p q=>B8 (Vw ops) p.1 q.1∨indep p.2 q.2=true:=by
  rcases Bool.or_eq_true_iff.1 CU with h|h
  ·exact(jv h).imp fun IE=>IE.imp .one (fun h=>h)
  exact(jv h).imp fun IE=>IE.imp (mQ _ _ [] rfl N7 _ _) (fun h=>h)
 refine wp_region_any hm (vz hk ops.size (items 0 is fs) _ env H a _ β (by rw[o4];exact hlen.symm) (lF is 0 fs) N7 (fun i hi=> ?_) (fun p hp=> ?_)
  K7 (fun i hi F1=> ?_) (fun p hp e he=> ?_) hA hr.drew)
 ·rw[nY,MZ,eE hi];simp only[EG,true_iff];obtain⟨p,h1,h2⟩:=o5 is 0 fs i tM;exact⟨p,h1,tM⟩
 ·obtain⟨h1,h2⟩:=mn is 0 fs p hp;simp only[NS] at h2;obtain⟨o,q1,q2⟩:=jY p.1 _ h2;have:=(bd.1 h2).1;exact⟨tM,o,by simpa using q1,q2⟩
 ·rw[nY,MZ,eE hi] at F1;simp at F1
 simp only[xa,yq,dj] at ET;exact ET p hp e he
end
end Go.Am
