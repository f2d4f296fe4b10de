import Derived.Test.YtfinkeaikbmpgaaGreatDoorKAm14
import Derived.Deep.LoopGhost
import Derived.IntWalk
set_option linter.unusedSimpArgs false
set_option linter.unusedVariables false
set_option linter.unnecessarySimpa false
set_option linter.defProp false
/- THE ABSTRACT MACHINE, part 56: a region whose order matters: whatever order is drawn. -/
namespace Go.Am
open Go Go.RowKit
def C5 (S:St) (is:List bh) (es:List (List Nat)) (k:Env→Hp→Prop):Nat→List Nat→Env→Hp→Prop
 |0,_,env,H=>k env H
 |n+1,done,env,H=>∀j i,is[j]?=some i→j∉done→(∀e∈es.getD j [],e∈done) →
  (gW i.g env=some true∧(∀n,i.d=some n→n<S.N)∧bg S i.d i.i env H fun x H'=>C5 S is es k n (j::done) (cV env i.d x) H') ∨
  (gW i.g env=some false∧(∀n,i.d=some n→n<S.N)∧C5 S is es k n (j::done) (cV env i.d .un) H)
theorem xc:∀{l m:List Nat},l.Nodup→(∀x∈l,x∈m)→l.length≤m.length
 |[],_,_,_=>zd _
 |x::l,m,h,hs=>by
  obtain⟨h1,h2⟩:=Jb.1 h;have h3:=xc (m:=m.erase x) h2 fun y hy=>(List.mem_erase_of_ne (by rintro rfl;exact h1 hy)).2 (hs y (by simp[hy]));have h4:=List.length_erase_of_mem (hs x N7);have h5:=List.length_pos_of_mem (hs x N7);simp only[gL];omega
section
variable {K:Kx} {env:Env} {H:Hp} {a:Act} {w:World}
def s6 {ops : Array Oper} {is : List bh} (dN : iF (fun o i => iY K.P K.G ops o = some (bh.fV i)) ops.toList is) (rh : ∀ j,∀ e ∈ (Vw ops).getD j [],e < j)
   {k : Env → Hp → Prop} {Q : Exit → Act → World → Prop} (hk : ∀ env' H' β' a' w',k env' H' → aH K β' env' H' a' w' → Q .normal a' w') :
   ∀ (fuel : Nat) (done : List Nat) (listed : Array Bool) (env : Env) (H : Hp) (a : Act) (w : World) (β : Lb → Option Nat),done.length + fuel = ops.size → done.Nodup → listed.size = ops.size →
     (∀ i,i < ops.size → (listed.getD i true = true ↔ i ∈ done)) → (∀ i ∈ done,i < ops.size) → C5 ⟨K.P,K.G,K.N⟩ is (Vw ops) k fuel done env H → aH K β env H a w → wpAny K.P .any ops Q fuel listed a w := by
 obtain ⟨hlen,jY⟩ := lG dN
 simp only [JF] at hlen
 intro fuel
 induction fuel with
 | zero =>
   intro done listed env H a w β hd F2 gm hl zR hA hr
   refine ⟨?_,hk _ _ _ _ _ hA hr⟩
   rw [M6]
   intro i hi
   obtain ⟨h1,h2,_⟩ := gP.1 hi
   have F3 : i ∈ done := by
     refine Bf fun hn => ?_
     have h3 : (i :: done).length ≤ (List.range ops.size).length := xc (Jb.2 ⟨hn,F2⟩) fun z hz => by
       rcases dU.1 hz with rfl | hz
       · exact JG.2 h1
       · exact JG.2 (zR z hz)
     simp at h3; omega
   rw [(hl i h1).2 F3] at h2; cases h2
 | succ fuel ih =>
   intro done listed env H a w β hd F2 gm hl zR hA hr
   have F4 : ∀ i,i < ops.size → (listed.getD i false = true ↔ i ∈ done) := fun i hi => by
     rw [← hl i hi,nY,nY,ff tM]; rfl
   refine ⟨fun s4 => ?_,fun i hi => ?_⟩
   · -- the first of those that are left may come next
     have hex : ∃ i,i < ops.size ∧ i ∉ done := by
       refine Bf fun hn => ?_
       have h3 : (List.range ops.size).length ≤ done.length := xc List.nodup_range fun z hz => Bf fun oz => hn ⟨z,JG.1 hz,oz⟩
       simp at h3; omega
     have IF : ∀ n i,i ≤ n → i < ops.size → i ∉ done → ∃ j,j < ops.size ∧ j ∉ done ∧ ∀ e,e < j → e ∈ done := by
       intro n
       induction n with
       | zero => intro i h1 h2 h3; exact ⟨i,h2,h3,fun e he => by omega⟩
       | succ n IG =>
         intro i h1 h2 h3
         by_cases h : ∃ e,e < i ∧ e ∉ done
         · obtain ⟨e,g1,g2⟩ := h
           exact IG e tM tM g2
         · exact ⟨i,h2,h3,fun e he => Bf fun hn => h ⟨e,he,hn⟩⟩
     obtain ⟨i0,g1,g2⟩ := hex
     obtain ⟨j,j1,j2,j3⟩ := IF i0 i0 (eM _) g1 g2
     have : j ∈ Region.ready .any ops listed := by
       refine gP.2 ⟨j1,?_,ops[j],ff j1,fun e he hb => ?_⟩
       · cases hc : listed.getD j true with
         | false => rfl
         | true => exact absurd ((hl j j1).1 hc) j2
       · have bI := rh j e.on (mR (ff j1) he hb)
         exact (F4 e.on tM).2 (j3 _ bI)
     rw [s4] at this; simp at this
   · obtain ⟨h1,h2,o,h3,h4⟩ := gP.1 hi
     have Ht : i ∉ done := fun hm => by rw [(hl i h1).2 hm] at h2; cases h2
     obtain ⟨ii,J5⟩ : ∃ ii,is[i]? = some ii := ⟨_,bS tM⟩
     obtain ⟨o',FY,gq⟩ := jY i ii J5
     rw [D_,h3] at FY; cases FY
     have F5 : ∀ e ∈ (Vw ops).getD i [],e ∈ done := by
       intro z hz
       have bI := rh i z hz
       unfold Vw at hz
       rw [zf,cn,D_,h3] at hz
       simp only [bT,EG,pb,A6,Nl] at hz
       obtain ⟨e,⟨F0,CI⟩,rfl⟩ := hz
       exact (F4 e.on tM).1 (h4 e F0 CI)
     have gr : ∀ env' H' β' a' w',C5 ⟨K.P,K.G,K.N⟩ is (Vw ops) k fuel (i :: done) env' H' → aH K β' env' H' a' w' → wpAny K.P .any ops Q fuel (listed.setIfInBounds i true) a' w' := by
       intro env' H' β' a' w' q1 q2
       refine ih (i :: done) _ env' H' a' w' β' (by simp; omega) (Jb.2 ⟨Ht,F2⟩) (by simp [gm]) (fun j hj => ?_) (fun z hz => ?_) q1 q2
       · rw [nY,Gz]
         by_cases e : i = j
         · subst e; simp [gm,h1]
         · rw [cY e,← nY,hl j hj]
           simp [yd e]
       · rcases dU.1 hz with rfl | hz
         · exact h1
         · exact zR z hz
     simp only [wpOp,h3]
     exact YS hr gq (k := fun e h => C5 ⟨K.P,K.G,K.N⟩ is (Vw ops) k fuel (i :: done) e h) gr (hA i ii J5 Ht F5)
def s7 {β:Lb→Option Nat} (hr:aH K β env H a w) {id:Nat} {ops:Array Oper} (hm:K.P.follows .mixedOrders=true) {is:List bh}
  (dN:iF (fun o i=>iY K.P K.G ops o=some (bh.fV i)) ops.toList is) (hb:((Vw ops).zipIdx.all fun p=>p.1.all fun e=>decide (e<p.2))=true) {k:Env→Hp→Prop} {Q:Exit→Act→World→Prop}
  (hk:∀env' H' β' a' w',k env' H'→aH K β' env' H' a' w'→Q .normal a' w') (hA:C5 ⟨K.P,K.G,K.N⟩ is (Vw ops) k is.length [] env H):(Code.region id ops true).wp K.P Q a w:=by
 obtain⟨hlen,jY⟩:=lG dN;simp only[JF] at hlen;rw[←hlen] at hA;refine wp_region_any hm (s6 dN (fun j e he=> ?_) hk ops.size [] _ env H a _ β N7 .nil N7 (fun i hi=> ?_) N7 hA hr.drew)
 ·have h1:=yq.1 hb;rw[zf] at he;cases hj:(Vw ops)[j]? with
  |none=>rw[hj] at he;simp at he
  |some l=>
  rw[hj] at he;have:=h1 (l,j) (List.mk_mem_zipIdx_iff_getElem?.2 hj);have:=yq.1 this e he;simpa using this
 rw[nY,MZ,eE hi];simp
end

inductive Gh where
 |cX (ns:List Nat)
 |zS (l:Lb) (d:Nat)
 |xd (l q:Lb) (j:Nat)
 |own (d sz:Nat)
 |cut (n:Nat)
 |vk
 |J6
 |J7
inductive AC where
 |skip
 |seq (a b:AC)
 |cond (x:O) (a b:AC)
 |block (id:Nat) (c:AC)
 |loop (c:AC)
 |exit (id:Nat)
 |ret
 |cq (is:List bh)
 |VL (is:List bh) (es:List (List Nat)) (fs:List Fp)
 |gh (g:Gh) (c:AC)
abbrev aM (l:List bh) (x:AC):AC:= .seq (.cq l) x
def AC.sz:AC→Nat
 | .seq a b=>a.sz+b.sz+2
 | .cond _ a b=>a.sz+b.sz+2
 | .block _ c=>c.sz+3
 | .loop c=>c.sz+1
 | .gh _ c=>c.sz+1
 |_=>1
inductive It where
 |code (c:AC)
 |o6 (id:Nat)
def It.sz:It→Nat
 | .code c=>c.sz
 | .o6 _=>1
def mo:List It→Nat
 |[]=>0
 |i::r=>i.sz+mo r
def dR (id:Nat):List It→Option (List It)
 |[]=>none
 | .o6 i::r=>if i=id then some r else dR id r
 |_::r=>dR id r
theorem lH {id:Nat}:∀{l r:List It},dR id l=some r→mo r≤mo l
 |[],r,h=>by simp[dR] at h
 | .o6 i::l,r,h=>by
  simp only[dR] at h;split at h
  ·cases h;simp[mo]
  have:=lH h;simp only[mo];omega
 | .code c::l,r,h=>by
  simp only[dR] at h;have:=lH h;simp only[mo];omega
def AC.xe (c:AC):0<c.sz:=by cases c<;>simp[AC.sz]
def nP (ns:List Nat) (env:Env):Env:=fun n=>if n∈ns then env n else .any
abbrev gI:=Exit→Env→Hp→Prop

inductive EW where
 |code (c:Code)
 |o6 (id:Nat)
def PH (P:Program) (Qh:Exit→Act→World→Prop):List EW→Exit→Act→World→Prop
 |[]=>Qh
 | .code c::k=>Exit.then (c.wp P (PH P Qh k)) (PH P Qh k)
 | .o6 id::k=>Exit.inBlock id (PH P Qh k)
def AC.bare:AC→AC
 | .seq a b=> .seq a.bare b.bare
 | .cond x a b=> .cond x a.bare b.bare
 | .block id c=> .block id c.bare
 | .loop c=> .loop c.bare
 | .cq is=> .cq (is.map bh.fV)
 | .VL is es _=> .VL (is.map bh.fV) es []
 | .gh _ c=>c.bare
 |c=>c
def mq (P:Program) (G:Nat→Option (List IV)) (ops:Array Oper):List Oper→Option (List bh)
 |[]=>some []
 |o::r=>(iY P G ops o).bind fun i=>(mq P G ops r).map fun s=>i::s
def mS (P:Program) (G:Nat→Option (List IV)) (ops:Array Oper):Nat→List Oper→Option (List bh)
 |_,[]=>some []
 |0,_::_=>none
 |n+1,o::r=>match p9 P o r with
  |some (d,es,r')=>(mS P G ops n r').map fun s=>⟨some d,none,.qM es⟩::s
  |none=>(iY P G ops o).bind fun i=>(mS P G ops n r).map fun s=>i::s
def db (P:Program) (G:Nat→Option (List IV)):Code→Option AC
 | .skip=>some .skip
 | .seq a b=>(db P G a).bind fun x=>(db P G b).map fun y=> .seq x y
 | .cond c a b=>(co G c).bind fun c=>(db P G a).bind fun x=>(db P G b).map fun y=> .cond c x y
 | .block id c=>(db P G c).map fun x=> .block id x
 | .loop c=>(db P G c).map fun x=> .loop x
 | .exit id=>some (.exit id)
 | .ret=>some .ret
 | .region _ ops false=>(mS P G ops ops.toList.length ops.toList).map .cq
 | .region _ ops true=>if P.follows .mixedOrders=true then(mq P G ops ops.toList).map fun is=> .VL is (Vw ops) [] else none
 |_=>none
inductive C6 (P:Program) (G:Nat→Option (List IV)):EW→It→Prop
 |code {c:Code} {x:AC}:db P G c=some x.bare→C6 P G (.code c) (.code x)
 |o6 (id:Nat):C6 P G (.o6 id) (.o6 id)
def lift (K:Kx) (Q:gI) (e:Exit) (a:Act) (w:World):Prop:=∃env H β,Q e env H∧aH K β env H a w
def J8 (K:Kx) (Q:gI) (ck:List EW) (env:Env) (H:Hp):Prop:=∀β a w,aH K β env H a w→PH K.P (lift K Q) ck .normal a w
def lI (S:St) (Q:gI) (c:AC) (k:List It) (env:Env) (H:Hp):Prop:=
 ∀(K:Kx),(⟨K.P,K.G,K.N⟩:St)=S→(∀l,live K.H0 l→l.entry=true)→∀c0 ck,db S.P S.G c0=some c.bare→iF (C6 S.P S.G) ck k→J8 K Q (.code (.loop c0)::ck) env H
def nQ (S:St) (env:Env) (H:Hp) (env2:Env) (H2:Hp):Prop:=
 ∀(K:Kx) (β:Lb→Option Nat) (a:Act) (w:World),(⟨K.P,K.G,K.N⟩:St)=S→(∀l,live K.H0 l→l.entry=true)→aH K β env H a w→∃β',aH K β' env2 H2 a w
def Choice (S:St) (env:Env) (H:Hp) (T:Type) (E:T→Env) (HH:T→Hp):Prop:=
 ∀(K:Kx) (β:Lb→Option Nat) (a:Act) (w:World),(⟨K.P,K.G,K.N⟩:St)=S→(∀l,live K.H0 l→l.entry=true)→aH K β env H a w→∃t β',aH K β' (E t) (HH t) a w
def Cut (n:Nat) (f:Env→Hp→Prop) (env:Env) (H:Hp):Prop:=f env H
def go (S:St) (Q:gI):List It→Env→Hp→Prop
 |[]=>fun env H=>Q .normal env H
 | .o6 _::k=>go S Q k
 | .code .skip::k=>go S Q k
 | .code (.seq a b)::k=>go S Q (.code a:: .code b::k)
 | .code (.cond x a b)::k=>fun env H=>∃t,ev env x= .bool t∧(t=true→go S Q (.code a::k) env H)∧(t=false→go S Q (.code b::k) env H)
 | .code (.block id c)::k=>go S Q (.code c:: .o6 id::k)
 | .code (.loop c)::k=>lI S Q c k
 | .code (.exit id)::k=>match h:dR id k with
  |some k'=>go S Q k'
  |none=>fun env H=>Q (.exit id) env H
 | .code .ret::_=>fun env H=>Q .ret env H
 | .code (.cq is)::k=>fun env H=>AO S is env H (go S Q k)
 | .code (.VL is es fs)::k=>fun env H=>uj is es fs=true∧jO S (items 0 is fs) env H (go S Q k)
 | .code (.gh g c)::k=>match g with
  | .cX ns=>fun env H=>go S Q (.code c::k) (nP ns env) H
  | .zS l d=>fun env H=>∃sz xs i n,env d= .sl l sz i n∧H l= .live ⟨sz,aB xs⟩∧l.fresh=true∧i+n≤xs.length∧Flat xs ∧
    go S Q (.code c::k) (put env d (.list ((xs.drop i).take n))) (bD H l .dead)
  | .xd l q j=>fun env H=>∃sz xs i n cs,H q= .live ⟨cs.length,[cs]⟩∧cs[j]?=some (.sl l sz i n)∧H l= .live ⟨sz,aB xs⟩∧l.fresh=true∧l≠q∧i+n≤xs.length∧Flat xs ∧
    go S Q (.code c::k) env (bD (bD H l .dead) q (.live ⟨cs.length,[cs.set j (.list ((xs.drop i).take n))]⟩))
  | .own d sz=>fun env H=>env d= .nil0∧0<sz∧H (.loc d)= .unused∧go S Q (.code c::k) (put env d (.sl (.loc d) sz 0 0)) (bD H (.loc d) (.live ⟨sz,[]⟩))
  | .cut n=>Cut n (go S Q (.code c::k))
  | .vk=>fun env H=>∃env2 H2,nQ S env H env2 H2∧go S Q (.code c::k) env2 H2
  | .J6=>fun env H=>∃(T:Type) (E:T→Env) (HH:T→Hp),Choice S env H T E HH∧∀t,go S Q (.code c::k) (E t) (HH t)
  | .J7=>match c with
   | .VL is es _=>fun env H=>(es.zipIdx.all fun p=>p.1.all fun e=>decide (e<p.2))=true∧C5 S is es (go S Q k) is.length [] env H
   |_=>fun _ _=>False
termination_by k=>mo k
decreasing_by
 all_goals simp only[mo,It.sz,AC.sz]
 all_goals first|omega|(have:=lH h;omega)
def lJ {S:St} {Q:gI} {id:Nat} {k k':List It} (h:dR id k=some k'):go S Q (.code (.exit id)::k)=go S Q k':=by
 rw[go];split
 ·rename_i K8 h2;rw[h] at h2;cases h2;rfl
 rename_i h2;rw[h] at h2;cases h2
def lL {S:St} {Q:gI} {id:Nat} {k:List It} (h:dR id k=none):go S Q (.code (.exit id)::k)=Q (.exit id):=by
 rw[go];split
 ·rename_i K8 h2;rw[h] at h2;cases h2
 rfl
section
variable {K:Kx} {β:Lb→Option Nat} {env:Env} {H:Hp} {a:Act} {w:World}
theorem nR (P:Program) (Qh:Exit→Act→World→Prop):∀(ck:List EW) (a:Act) (w:World),Qh .ret a w→PH P Qh ck .ret a w
 |[],a,w,h=>h
 | .code c::k,a,w,h=>by simp only[PH,Exit.then];exact nR P Qh k a w h
 | .o6 id::k,a,w,h=>by simp only[PH,Exit.inBlock];exact nR P Qh k a w h
theorem ja {P:Program} {G:Nat→Option (List IV)} (Qh:Exit→Act→World→Prop) {id:Nat}:∀(ck:List EW) (k:List It),iF (C6 P G) ck k →
  match dR id k with
  |some k'=>∃wz,iF (C6 P G) wz k'∧∀a w,PH P Qh wz .normal a w→PH P Qh ck (.exit id) a w
  |none=>∀a w,Qh (.exit id) a w→PH P Qh ck (.exit id) a w
 |_,_,.nil=>by simp only[dR];exact fun a w h=>h
 |_,_,@iF.cons _ _ _ _ _ ck k h1 h2=>by
  cases h1 with
  |code hc=>
   have ih:=ja Qh (id:=id) ck k h2;simp only[dR];split<;>rename_i hp<;>rw[hp] at ih<;>simp only at ih
   ·obtain⟨wz,e1,e2⟩:=ih;exact⟨wz,e1,fun a w h=>by simp only[PH,Exit.then];exact e2 a w h⟩
   exact fun a w h=>by simp only[PH,Exit.then];exact ih a w h
  |o6 i=>
  have ih:=ja Qh (id:=id) ck k h2;simp only[dR];by_cases e:i=id
  ·simp only[e,ku];exact⟨ck,h2,fun a w h=>by simp only[PH,Exit.inBlock,ku];exact h⟩
  simp only[e,nX];split<;>rename_i hp<;>rw[hp] at ih<;>simp only at ih
  ·obtain⟨wz,e1,e2⟩:=ih;exact⟨wz,e1,fun a w h=>by simp only[PH,Exit.inBlock,yd e,nX];exact e2 a w h⟩
  exact fun a w h=>by simp only[PH,Exit.inBlock,yd e,nX];exact ih a w h
theorem j6 {P:Program} {G:Nat→Option (List IV)} {ops:Array Oper}:∀(l:List Oper) (is:List bh),mq P G ops l=some (is.map bh.fV)→iF (fun o i=>iY P G ops o=some (bh.fV i)) l is
 |[],is,h=>by
  simp[mq] at h;have:is=[]:=by cases is<;>simp_all
  subst this;exact .nil
 |o::r,is,h=>by
  simp only[mq] at h;obtain⟨i,h1,h⟩:=ba h;obtain⟨s,h2,h3⟩:=wh h;cases is with
  |nil=>simp at h3
  |cons j is=>
  simp only[o2,yn] at h3;obtain⟨rfl,rfl⟩:=h3;exact .cons h1 (j6 r is h2)
def aH.nP (hr:aH K β env H a w) (ns:List Nat):aH K β (Am.nP ns env) H a w:=
 ⟨hr.defers,hr.size,fun n=>by unfold Am.nP;split;exact hr.N8 n;simp[RV],hr.rows,hr.own,hr.inj,fun n l hl=>by
  unfold Am.nP at hl;split at hl
  ·exact hr.eI n l hl
  simp[AV.an] at hl,hr.cH,hr.frame,hr.W5,hr.gA,hr.fr⟩
def um (hr:aH K β env H a w) (d:Nat) {x:AV} (hx:RV w β H (Im K β H) x (a.tmps.getD d undef)) (hm:∀l∈x.an,H l≠ .unused):aH K β (put env d x) H a w:=
  ⟨hr.defers, hr.size, fun n => by unfold put; split; · next h => subst h; exact hx
                                   exact hr.N8 n,hr.rows,hr.own,hr.inj,fun n l hl=>by
    unfold put at hl;split at hl
    · exact hm l hl
    exact hr.eI n l hl,hr.cH,hr.frame,hr.W5,hr.gA,hr.fr⟩
def xf (hr:aH K β env H a w) {l:Lb} {sz:Nat} {xs:List IV} {i n:Nat} {v:Value} (hl:H l= .live ⟨sz,aB xs⟩) (hf:l.fresh=true) (qB:i+n≤xs.length) (FO:Flat xs)
  (hv:RV w β H (Im K β H) (.sl l sz i n) v):RV w β (bD H l .dead) (Im K β (bD H l .dead)) (.list ((xs.drop i).take n)) v:=by
 have aK:∀q,live (bD H l .dead) q→live H q∧q≠l:=by
  rintro q ⟨r,h⟩;by_cases e:q=l
  ·subst e;simp at h
  rw[aq _ _ e] at h;exact⟨⟨r,h⟩,e⟩
 have hk:W4 w w (Im K β H) (Im K β (bD H l .dead)):=⟨fun k hk hs=>⟨⟨hk.1,fun q hq=>hk.2 q (aK q hq).1⟩,hs,rfl⟩⟩;simp only[RV] at hv;obtain⟨ad,c,rfl,h2,h3,h4,h5⟩:=hv;simp only[RV,NN];have hlen:((xs.drop i).take n).length=n:=PJ
 rw[hlen];refine⟨ad,c,rfl,h2,h3,?_⟩;by_cases hn:n=0
 ·exact .inl hn
 right;rcases h5 ⟨_,hl⟩ with h6|⟨g,S,e1,e2,e3,e4⟩
 ·omega
 obtain⟨cur,e0,cap,k1,k2,k3,k4,k5⟩:=(hr.rows l _ hl).block e1;have gm:0<sz:=(hr.rows l _ hl).1;have EN:Im K β (bD H l .dead) g:=⟨.inr (hr.fr l g ⟨_,hl⟩ hf e1),fun q hq hb=>(aK q hq).2 (hr.inj q l g (aK q hq).1 ⟨_,hl⟩ hb e1)⟩;refine⟨g,i*sz,sz,e2,EN,(vN.1 k1).1,gm,ajy _ _ _ (fun k y hy=> ?_)⟩;have C0:xs[i+k]?=some y:=by
  rw[oe] at hy;split at hy
  ·rwa[Ba] at hy
  simp at hy
 rw[eH];have qT:y.cells.length=sz:=by
  have:=(hr.rows l _ hl).2.1 (y.cells.map IV.dQ) (by
   simp only[aB];exact GF (f:=fun y:IV=>y.cells.map IV.dQ) (dc C0))
  simpa using this
 refine⟨qT.symm,Xz _ _ _ (fun j z hz=> ?_)⟩;obtain⟨u,q1,q2⟩:=k5 (i+k) j (y.cells.map IV.dQ) z.dQ (by simp[aB,C0]) (by simp[hz]);refine⟨u,?_,pX hk (FO y (dc C0) z (dc hz)) q2⟩;rw[cell_of_row w g _ cur e0 (0,0) k1,←q1];congr 1;rw[uQ]
theorem nS {P:Program} {G:Nat→Option (List IV)} {ops:Array Oper}:∀(n:Nat) (l:List Oper) (is:List bh),mS P G ops n l=some (is.map bh.fV)→SL P G ops l is
 |n,[],is,h=>by
  have:is=[]:=by cases n<;>simp[mS] at h<;>cases is<;>simp_all
  subst this;exact .nil
 |0,_::_,is,h=>by simp[mS] at h
 |n+1,o::r,is,h=>by
  simp only[mS] at h;split at h
  ·rename_i d es r' hm;obtain⟨s,h2,h3⟩:=wh h;cases is with
   |nil=>simp at h3
   |cons j is=>
   simp only[o2,yn] at h3;obtain⟨h4,rfl⟩:=h3;have:j=⟨some d,none,.qM es⟩:=by
    cases j with
    |mk jd jg ji=>
    simp only[bh.fV,bh.mk.injEq] at h4;obtain⟨rfl,rfl,h5⟩:=h4;rw[cM h5.symm rfl]
   subst this;exact .lit hm (nS n r' is h2)
  obtain⟨i,h1,h⟩:=ba h;obtain⟨s,h2,h3⟩:=wh h;cases is with
  |nil=>simp at h3
  |cons j is=>
  simp only[o2,yn] at h3;obtain⟨rfl,rfl⟩:=h3;exact .cons h1 (nS n r is h2)
theorem NB {P:Program} {G:Nat→Option (List IV)} {c0:Code} {x:AC} (h:db P G c0=some x) :
  match x with
  | .skip=>c0= .skip
  | .seq x y=>∃a b,c0= .seq a b∧db P G a=some x∧db P G b=some y
  | .cond o x y=>∃c a b,c0= .cond c a b∧co G c=some o∧db P G a=some x∧db P G b=some y
  | .block id x=>∃a,c0= .block id a∧db P G a=some x
  | .loop x=>∃a,c0= .loop a∧db P G a=some x
  | .exit id=>c0= .exit id
  | .ret=>c0= .ret
  | .cq is=>∃id ops,c0= .region id ops false∧mS P G ops ops.toList.length ops.toList=some is
  | .VL is es fs=>∃id ops,c0= .region id ops true∧P.follows .mixedOrders=true∧es=Vw ops∧mq P G ops ops.toList=some is
  | .gh _ _=>False:=by
 cases c0 with
 |skip=>simp only[db,di] at h;subst h;rfl
 |seq a b=>
  simp only[db] at h;obtain⟨x1,h1,h⟩:=ba h;obtain⟨y1,h2,rfl⟩:=wh h;exact⟨a,b,rfl,h1,h2⟩
 |cond c a b=>
  simp only[db] at h;obtain⟨c1,h0,h⟩:=ba h;obtain⟨x1,h1,h⟩:=ba h;obtain⟨y1,h2,rfl⟩:=wh h;exact⟨c,a,b,rfl,h0,h1,h2⟩
 |block id a=>
  simp only[db] at h;obtain⟨y1,h2,rfl⟩:=wh h;exact⟨a,rfl,h2⟩
 |loop a=>
  simp only[db] at h;obtain⟨y1,h2,rfl⟩:=wh h;exact⟨a,rfl,h2⟩
 |exit id=>simp only[db,di] at h;subst h;rfl
 |ret=>simp only[db,di] at h;subst h;rfl
 |region id ops draw=>
  cases draw with
  |true=>
   simp only[db] at h;split at h
   ·rename_i hm;obtain⟨is,h2,rfl⟩:=wh h;exact⟨id,ops,rfl,hm,rfl,h2⟩
   simp at h
  |false=>
  simp only[db] at h;obtain⟨is,h2,rfl⟩:=wh h;exact⟨id,ops,rfl,h2⟩
 |rangeFunc _ _ _ _=>simp[db] at h
 |scope _=>simp[db] at h
 |label _=>simp[db] at h
 |goto _=>simp[db] at h
 |refuse _=>simp[db] at h
def go_sound (hS:∀l,live K.H0 l→l.entry=true) (Q:gI):∀(n:Nat) (k:List It) (ck:List EW),mo k≤n→iF (C6 K.P K.G) ck k →
  ∀env H,go ⟨K.P,K.G,K.N⟩ Q k env H→J8 K Q ck env H:=by
 intro n;induction n with
 |zero=>
  intro k ck hn hc env H hg β a w hr;cases hc with
  |nil=>
   rw[go] at hg;exact⟨env,H,β,hg,hr⟩
  |@cons x i ck k h1 h2=>
  cases i with
  |code c=>have:=c.xe;simp only[mo,It.sz] at hn;omega
  |o6 id=>simp only[mo,It.sz] at hn;omega
 |succ n ih=>
 intro k ck hn hc env H hg β a w hr;cases hc with
 |nil=>
  rw[go] at hg;exact⟨env,H,β,hg,hr⟩
 |@cons x i ck k h1 h2=>
 cases h1 with
 |o6 id=>
  rw[go] at hg;simp only[PH,Exit.inBlock];exact ih k ck (by simp only[mo,It.sz] at hn;omega) h2 env H hg β a w hr
 |@code c0 c gq=>
 simp only[PH,Exit.then];have xg:=c.xe;cases c with
 |skip=>
  rw[go] at hg;simp only[AC.bare] at gq;have e:=NB gq;simp only at e;subst e;exact wp_skip (ih k ck (by simp only[mo,It.sz,AC.sz] at hn;omega) h2 env H hg β a w hr)
 |seq x y=>
  rw[go] at hg;obtain⟨x0,y0,rfl,e1,e2⟩:=NB gq;refine wp_seq ?_;have:=ih (.code x:: .code y::k) (.code x0:: .code y0::ck) (by simp only[mo,It.sz,AC.sz] at hn ⊢;omega) (.cons (.code e1) (.cons (.code e2) h2)) env H hg β a w hr;simpa only[PH,Exit.then] using this
 |cond x y z=>
  rw[go] at hg;obtain⟨o0,y0,z0,rfl,e0,e1,e2⟩:=NB gq;obtain⟨t,ht,g1,g2⟩:=hg;have hv:=hr.ev e0;rw[ht] at hv;simp only[RV] at hv;refine wp_cond_split hv ?_ ?_<;>intro h
  ·have:=ih (.code y::k) (.code y0::ck) (by simp only[mo,It.sz,AC.sz] at hn ⊢;omega) (.cons (.code e1) h2) env H (g1 h) β a w hr;simpa only[PH,Exit.then] using this
  have:=ih (.code z::k) (.code z0::ck) (by simp only[mo,It.sz,AC.sz] at hn ⊢;omega) (.cons (.code e2) h2) env H (g2 h) β a w hr;simpa only[PH,Exit.then] using this
 |block id c=>
  rw[go] at hg;obtain⟨c1,rfl,e1⟩:=NB gq;refine wp_block ?_;have:=ih (.code c:: .o6 id::k) (.code c1:: .o6 id::ck) (by simp only[mo,It.sz,AC.sz] at hn ⊢;omega) (.cons (.code e1) (.cons (.o6 id) h2)) env H hg β a w hr;simpa only[PH,Exit.then] using this
 |loop c=>
  rw[go] at hg;obtain⟨c1,rfl,e1⟩:=NB gq;have:=hg K rfl hS c1 ck e1 h2 β a w hr;simpa only[PH,Exit.then] using this
 |exit id=>
  simp only[AC.bare] at gq;have e:=NB gq;simp only at e;subst e;have hp:=ja (P:=K.P) (G:=K.G) (lift K Q) (id:=id) ck k h2;refine wp_exit ?_;cases vy:dR id k with
  |some k'=>
   rw[lJ vy] at hg;rw[vy] at hp;obtain⟨wz,e1,e2⟩:=hp;have:=lH vy;exact e2 a w (ih k' wz (by simp only[mo,It.sz,AC.sz] at hn;omega) e1 env H hg β a w hr)
  |none=>
  rw[lL vy] at hg;rw[vy] at hp;exact hp a w ⟨env,H,β,hg,hr⟩
 |ret=>
  simp only[AC.bare] at gq;have e:=NB gq;simp only at e;subst e;rw[go] at hg;exact wp_ret (nR _ _ _ _ _ ⟨env,H,β,hg,hr⟩)
 |cq is=>
  obtain⟨id,ops,rfl,e1⟩:=NB gq;rw[go] at hg;refine wp_region_list ?_;refine w9 (fun env' H' β' a' w' q1 q2=> ?_) (nS _ _ _ e1) env H a w β hg hr;exact ih k ck (by simp only[mo,It.sz,AC.sz] at hn;omega) h2 env' H' q1 β' a' w' q2
 |VL is es fs=>
  obtain⟨id,ops,rfl,hm,rfl,e1⟩:=NB gq;rw[go] at hg;refine ri hr hm (j6 _ _ e1) hg.1 (fun env' H' β' a' w' q1 q2=> ?_) hg.2;exact ih k ck (by simp only[mo,It.sz,AC.sz] at hn;omega) h2 env' H' q1 β' a' w' q2
 |gh g c=>
 have xh:db K.P K.G c0=some c.bare:=gq;have kI:∀env' H',go ⟨K.P,K.G,K.N⟩ Q (.code c::k) env' H'→∀β',aH K β' env' H' a w→c0.wp K.P (PH K.P (lift K Q) ck) a w:=by
  intro env' H' h β' lz;have:=ih (.code c::k) (.code c0::ck) (by simp only[mo,It.sz,AC.sz] at hn ⊢;omega) (.cons (.code xh) h2) env' H' h β' a w lz;simpa only[PH,Exit.then] using this
 cases g with
 |cX ns=>rw[go] at hg;exact kI _ _ hg β (hr.nP ns)
 |cut m=>rw[go] at hg;exact kI _ _ hg β hr
 |vk=>
  rw[go] at hg;obtain⟨env2,H2,g1,g2⟩:=hg;obtain⟨β',lz⟩:=g1 K β a w rfl hS hr;exact kI _ _ g2 β' lz
 |J6=>
  rw[go] at hg;obtain⟨T,E,HH,g1,g2⟩:=hg;obtain⟨t,β',lz⟩:=g1 K β a w rfl hS hr;exact kI _ _ (g2 t) β' lz
 |J7=>
  cases c with
  |VL is es fs=>
   obtain⟨id,ops,rfl,hm,rfl,e1⟩:=NB xh;rw[go] at hg;refine s7 hr hm (j6 _ _ e1) hg.1 (fun env' H' β' a' w' q1 q2=> ?_) hg.2;exact ih k ck (by simp only[mo,It.sz,AC.sz] at hn;omega) h2 env' H' q1 β' a' w' q2
  |_=>(rw[go] at hg)<;>first|exact hg.elim|(intro _ _ _ h;cases h)
 |own d sz=>
  rw[go] at hg;obtain⟨g1,g2,g3,g4⟩:=hg;have h3:=hr.OI (.loc d) g3 (r:=⟨sz,[]⟩) (Below.refl _ _) none N7 N7 ⟨g2,N7,N7⟩;have hv:=h3.N8 d;rw[g1] at hv;simp only[RV] at hv;obtain⟨ad,hv⟩:=hv;exact kI _ _ g4 _ (um h3 d (by rw[hv];simp only[RV];exact⟨ad,0,rfl,eM _,by simp[maxLen],N7,fun _=> .inl rfl⟩) Pv)
 |zS l d=>
  rw[go] at hg;obtain⟨sz,xs,i,n,g1,g2,g3,g4,g5,g6⟩:=hg;have hv:=hr.N8 d;rw[g1] at hv;exact kI _ _ g6 _ (um (hr.kill l (by rw[g2];simp)) d (xf hr g2 g3 g4 g5 hv) Pv)
 |xd l q j=>
 rw[go] at hg;obtain⟨sz,xs,i,n,cs,g1,g2,g3,g4,g5,g6,g7,g8⟩:=hg;have hk:=hr.kill l (by rw[g3];simp);have hq:bD H l .dead q= .live ⟨cs.length,[cs]⟩:=by rw[aq _ _ (yd g5)];exact g1
 have gm:0<cs.length:=(hr.rows q _ g1).1;cases hb:β q with
 |none=>
  have:=(hr.rows q _ g1).2.2;simp[hb] at this
 |some g=>
 obtain⟨cur,e0,cap,k1,k2,k3,k4,k5⟩:=(hr.rows q _ g1).block hb;obtain⟨cur',Mh,K9,J9,Mi,Mj,Mk,K'⟩:=(hk.rows q _ hq).block hb;rw[k1] at J9;cases J9;have zk:j<cs.length:=(bd.1 g2).1;have vf:=hk.setRow q (r':=⟨cs.length,[cs.set j (.list ((xs.drop i).take n))]⟩) (cur':=cur) (cap:=cap) hq hb k1 rfl rfl k2 k3 (by simpa using k4) N7
  (by
   intro ds ua p hp;simp at ua;subst ua;have:p∈ah cs:=by
    obtain⟨y,hy,J'⟩:∃y∈cs.set j (.list ((xs.drop i).take n)),p∈y.an:=by
     generalize cs.set j (.list ((xs.drop i).take n))=ds at hp;induction ds with
     |nil=>simp[ah] at hp
     |cons y r IG=>
     simp only[ah,eR] at hp;rcases hp with hp|hp
     ·exact⟨y,N7,hp⟩
     obtain⟨z,hz,K_⟩:=IG hp;exact⟨z,by simp[hz],K_⟩
    rcases D9 hy with hy|rfl
    ·obtain⟨m,hm⟩:=yl hy;exact cW _ _ _ hm p J'
    simp[AV.an] at J'
   have:=hk.cH q _ hq cs N7 p this;exact this)
  (by
   intro i' j' ds x0 ed iX;cases i' with
   |succ i'=>simp at ed
   |zero=>
   simp at ed;subst ed;by_cases e:j'=j
   ·subst e;rw[A9 zk] at iX;cases iX;obtain⟨v,q1,q2⟩:=k5 0 j' cs _ N7 g2;exact⟨v,q1,xf hr g3 g4 g6 g7 q2⟩
   rw[Bd (yd e)] at iX;exact K' 0 j' cs x0 N7 iX)
 have j0:w.setRow g cur=w:=setRow_self w g cur e0 (0,0) k1;rw[j0] at vf;exact kI _ _ g8 _ vf
end

abbrev RO:=Option (Option Nat)×Nat
def uo (P:Program):ResultVar→Option RO
 | .tmp t=>some (none,t)
 | .cell a t=>(u5 P t).map fun m=>(some m,a)
def mr (P:Program):List ResultVar→Option (List RO)
 |[]=>some []
 |r::s=>(uo P r).bind fun x=>(mr P s).map fun y=>x::y
def oO (r:RO) (env:Env) (H:Hp):Option AV:=
 match r.1 with
 |none=>some (env r.2)
 |some m=>Wl m (env r.2) H
def ef (env:Env) (H:Hp):List RO→Option (List AV)
 |[]=>some []
 |r::s=>(oO r env H).bind fun x=>(ef env H s).map fun y=>x::y
def gD:List AV→AV
 |[x]=>x
 |xs=> .gf xs
def PY {p:Prop} (h:p:=by simp[gD,AV.an,ah]):p:=h
def fX (rs:List RO) (R:AV→Hp→Prop):gI:=fun e env H=>(e= .normal∨e= .ret)∧∃xs,ef env H rs=some xs∧R (gD xs) H
def Qr {p:Prop} (h:p:=by simp[fX,ef,oO,gD]):p:=h
def jP (args:List AV):Env:=fun n=>args.getD n .un
def aw (P:Program) (G:Nat→Option (List IV)) (f:Nat):Option (Nat×List RO×AC):=
 (P.funcs[f]?).bind fun fn=>fn.body.bind fun c=>(mr P fn.results.toList).bind fun rs=>(db P G c).map fun x=>(fn.ntmps,rs,x)
section
variable {K:Kx} {β:Lb→Option Nat} {env:Env} {H:Hp} {a:Act} {w:World}
theorem s8 (hr:aH K β env H a w) {rv:ResultVar} {r:RO} (hc:uo K.P rv=some r) {x:AV} (hx:oO r env H=some x) :
  ∃v,(match rv with
   | .tmp t=>(pure (a.tmps.getD t undef):Sem Value)
   | .cell b t=>do loadVar t (←asAddr (a.tmps.getD b undef))).run K.P w= .ok v w∧RV w β H (Im K β H) x v∧∀l∈x.an,H l≠ .unused:=by
 cases rv with
 |tmp t=>
  simp only[uo,di] at hc;subst hc;simp only[oO,di] at hx;subst hx;exact⟨_,N7,hr.N8 t,hr.eI t⟩
 |cell b t=>
 simp only[uo] at hc;obtain⟨m,h1,rfl⟩:=wh hc;simp only[oO] at hx;obtain⟨v,q1,q3,q4⟩:=t_ (o:={(default:Oper) with op:= .load t (.tmp b)}) (x':= .t b) hr rfl h1 rfl hx;have hv:=hr.N8 b;cases he:env b with
 |ptr l sz i j=>
  rw[he] at hv;simp only[RV] at hv;obtain⟨ad,e1,e2⟩:=hv;simp only[execOp,Act.eval,e1,Instr.loadAt,Instr.sureAddr,Sem.run_bind,Sem.run_pure,Result.andThen_ok] at q1;refine⟨v,?_,q3,q4⟩;simp only[e1,asAddr,Sem.run_bind,Sem.run_pure,Result.andThen_ok];cases hl:(loadVar t ad).run K.P w with
  |ok u w2=>
   rw[hl] at q1;simp only[Result.andThen_ok,Result.ok.injEq] at q1;obtain⟨q1,rfl⟩:=q1;cases q1;rfl
  |_=>rw[hl] at q1;simp at q1
 |_=>rw[he] at hx;simp[Wl] at hx
theorem mT (hr:aH K β env H a w):∀(Hw:List ResultVar) (rs:List RO) (xs:List AV),mr K.P Hw=some rs→ef env H rs=some xs →
  ∃vs,(Hw.mapM (m:=Sem) fun
   | .tmp t=>(pure (a.tmps.getD t undef):Sem Value)
   | .cell b t=>do loadVar t (←asAddr (a.tmps.getD b undef))).run K.P w= .ok vs w∧br w β H (Im K β H) xs vs∧∀l∈ah xs,H l≠ .unused
 |[],rs,xs,hc,hx=>by
  simp only[mr,di] at hc;subst hc;simp only[ef,di] at hx;subst hx;exact⟨[],N7,QK,by simp[ah]⟩
 |rv::Hw,rs,xs,hc,hx=>by
  simp only[mr] at hc;obtain⟨r,h1,hc⟩:=ba hc;obtain⟨EX,h2,rfl⟩:=wh hc;simp only[ef] at hx;obtain⟨x,h3,hx⟩:=ba hx;obtain⟨nN,h4,rfl⟩:=wh hx;obtain⟨v,e1,e2,e3⟩:=s8 hr h1 h3;obtain⟨vs,k1,k2,k3⟩:=mT hr Hw EX nN h2 h4;refine⟨v::vs,?_,⟨v,vs,rfl,e2,k2⟩,?_⟩
  ·rw[List.mapM_cons];simp only[Sem.run_bind,e1,Result.andThen_ok,k1,Sem.run_pure]
  intro l hl;simp only[ah,eR] at hl;rcases hl with hl|hl
  ·exact e3 l hl
  exact k3 l hl
def oP (hr:aH K β env H a w) {fn:Func} {rs:List RO} {xs:List AV} (hc:mr K.P fn.results.toList=some rs) (hx:ef env H rs=some xs) :
  ∃v,(results fn a.tmps).run K.P w= .ok v w∧RV w β H (Im K β H) (gD xs) v∧∀l∈(gD xs).an,H l≠ .unused:=by
 obtain⟨vs,h1,h2,h3⟩:=mT hr _ _ _ hc hx;have hlen:=br.len _ _ h2;have gY:(results fn a.tmps).run K.P w= .ok (if h:vs.toArray.size=1 then vs.toArray[0] else .tuple vs.toArray) w:=by
  unfold results;rw[Array.mapM_eq_mapM_toList];simp only[Sem.run_bind,Sem.run_pure,map_eq_pure_bind];exact(GB (fun r:Result (List Value)=>(r.andThen fun a w'=>Result.ok a.toArray w').andThen fun a w'=>Result.ok (if h:a.size=1 then a[0] else Value.tuple a) w') h1).trans rfl
 refine⟨_,gY,?_⟩
 match xs,h2,h3,hlen with
 |[],h2,h3,hlen=>
  simp only[br] at h2;subst h2;simp[gD,RV,br,AV.an,ah]
 |[x],h2,h3,hlen=>
  simp only[br] at h2;obtain⟨v,us,rfl,e1,rfl⟩:=h2;simp only[gD];exact⟨by simpa using e1,fun l hl=>h3 l (by simp[ah,hl])⟩
 |x::y::r,h2,h3,hlen=>
  have:vs.toArray.size≠1:=by simp;simp at hlen;omega
  rw[dif_neg this];simp only[gD,RV,AV.an];exact⟨⟨vs,rfl,h2⟩,h3⟩
def xi (args:List AV) (n:Nat) (l:Lb) (h:l∈(jP args n).an):l∈ah args:=by
 unfold jP at h;rw[zf] at h;cases hx:args[n]? with
 |none=>rw[hx] at h;simp[AV.an] at h
 |some x=>rw[hx] at h;exact cW _ _ _ hx l (by simpa using h)
def WY {P:Program} {G:Nat→Option (List IV)} {f:Nat} {n:Nat} {rs:List RO} {ac:AC} {args:List AV} {R:AV→Hp→Prop}
   (hF:aw P G f=some (n,rs,ac.bare)) (hn:args.length≤n) (IH:∀l,live H l→l.entry=true) (hm:∀l∈ah args,H l≠ .unused)
   (hg:go ⟨P,G,n⟩ (fX rs R) [.code ac] (jP args) H):ey P G f args H R:=by
 unfold aw at hF
 obtain⟨fn,hf,hF⟩:=ba hF
 obtain⟨c,hb,hF⟩:=ba hF
 obtain⟨EX,kV,hF⟩:=ba hF
 obtain⟨x,La,hF⟩:=wh hF
 simp only[eS] at hF
 obtain⟨rfl,rfl,rfl⟩:=hF
 intro w A β vs hr hv
 have hlen:=br.len _ _ hv
 refine calls_of_wp hf hb ?_
 have gm:vs.toArray.size=args.length:=by simpa using hlen
 let K:Kx:=⟨P,G,w,A,wU β H,fn.ntmps,H,β⟩
 have ju:aH K β (jP args) H {tmps:=vs.toArray++Array.replicate (fn.ntmps - vs.toArray.size) undef,defers:=[]} w:=
   { defers := rfl
     size:=by simp only[Array.size_append,Array.size_replicate,gm,K];omega
     N8 := fun m => by
       have jY:(vs.toArray++Array.replicate (fn.ntmps - vs.toArray.size) undef).getD m undef=(vs[m]?).getD undef:=by
         rw[nY]
         by_cases Lc:m<vs.length
         · rw[MT (by simpa using Lc)];simp
         rw[Array.getElem?_append_right PJ,MZ]
         rw[dV tM]
         split<;>simp
       simp only
       rw[jY]
       unfold jP
       rw[zf]
       cases hx:args[m]? with
       |none=>
         have:vs[m]?=none:=by
           rw[ow] at hx ⊢;omega
         rw[this];simp[RV,undef]
       |some y=>
       obtain⟨u,h1,h2⟩:=br.get _ _ _ _ hv hx
       rw[h1];exact h2
     rows:=hr.rows
     own:=hr.own
     inj:=hr.inj
     eI:=fun m l hl=>hm l (xi args m l hl)
     cH:=hr.cH
     frame:=hr.frame
     W5:=hr.W5
     gA:=hr.gA
     fr:=hr.fr}
 have dN:iF (C6 P G) [.code c] [.code ac]:= .cons (.code La) .nil
 have:=go_sound (K:=K) IH (fX EX R) (mo [.code ac]) [.code ac] [.code c] (eM _) dN (jP args) H hg β _ w ju
 simp only[PH,Exit.then] at this
 refine wp_mono this ?_
 intro e a' w' hq
 have key:∀a' w',(lift K (fX EX R) .normal a' w'∨lift K (fX EX R) .ret a' w')→a'.defers=[]∧∃v,(results fn a'.tmps).run P w'= .ok v w' ∧
     ∃v' x H' β',Ending.returned v= .returned v'∧R x H'∧aH (b8 P G w A β H) β' Env.any H' lB w' ∧
     RV w' β' H' (Im (b8 P G w A β H) β' H') x v'∧∀l∈x.an,H' l≠ .unused:=by
   intro a' w' h
   have:∃e env' H' β',fX EX R e env' H'∧aH K β' env' H' a' w':=by
     rcases h with⟨env',H',β',h⟩|⟨env',H',β',h⟩<;>exact⟨_,env',H',β',h⟩
   obtain⟨e,env',H',β',⟨_,xs,h1,h2⟩,h3⟩:=this
   obtain⟨v,k1,k2,k3⟩:=oP h3 kV h1
   refine⟨h3.defers,v,k1,v,_,H',β',rfl,h2,?_,k2,k3⟩
   exact
     { defers := rfl
       size:=rfl
       N8:=fun m=>by simp[Env.any,RV]
       rows:=h3.rows
       own:=h3.own
       inj:=h3.inj
       eI:=fun m=>by simp[Env.any,AV.an]
       cH:=h3.cH
       frame:=h3.frame
       W5:=h3.W5
       gA:=h3.gA
       fr:=h3.fr}
 cases e with
 |normal=>exact key a' w' (.inl hq)
 |ret=>exact key a' w' (.inr hq)
 |panic ch=>obtain⟨_,_,_,⟨h,_⟩,_⟩:=hq;simp at h
 |exit id=>obtain⟨_,_,_,⟨h,_⟩,_⟩:=hq;simp at h
 |goto l=>obtain⟨_,_,_,⟨h,_⟩,_⟩:=hq;simp at h
 |outgrown=>obtain⟨_,_,_,⟨h,_⟩,_⟩:=hq;simp at h
def aR {P:Program} {G:Nat→Option (List IV)} {f:Nat} {n:Nat} {rs:List RO} {ac:AC} {args:List AV} {res:AV}
  (hF:aw P G f=some (n,rs,ac.bare)) (hn:args.length≤n) (hl:ah args=[]) (II:res.an=[])
  (hg:go ⟨P,G,n⟩ (fX rs fun x _=>x=res) [.code ac] (jP args) Hp.none):au P G f args res:=
 ⟨hl,II,WY hF hn (fun l ⟨r,h⟩=>by simp[Hp.none] at h) (by simp[hl]) hg⟩
end

structure Wk (ρ:Lb→Lb) (env:Env) (H:Hp) (env2:Env) (H2:Hp):Prop where
 e:∀n,env2 n= .any∨env n=bJ ρ (env2 n)
 h:∀l r,H2 l= .live r→H (ρ l)= .live (dO ρ r)
 inj:∀l l',live H2 l→live H2 l'→ρ l=ρ l'→l=l'
 m:∀n,∀l∈(env2 n).an,H2 l≠ .unused
 rm:∀l r,H2 l= .live r→∀cs∈r.els,∀q∈ah cs,H2 q≠ .unused
 st:∀l,l.entry=true→(H l≠ .unused→H2 l≠ .unused)∧(live H2 l→ρ l=l)
 fr:∀l,live H2 l→l.fresh=true→(ρ l).fresh=true
def rj {σ:Type} (S:St) (Q:gI) (k:List It) (E:σ→Env) (HH:σ→Hp) (μ:σ→Nat) (n:Nat):gI:=fun e env H=>
 match e with
 | .normal=>∃s,μ s<n∧∃ρ,Wk ρ env H (E s) (HH s)
 | .exit id=>match dR id k with
  |some k'=>go S Q k' env H
  |none=>Q (.exit id) env H
 | .ret=>Q .ret env H
 |_=>False
def Wk.rel {K:Kx} {β:Lb→Option Nat} {env:Env} {H:Hp} {a:Act} {w:World} {ρ:Lb→Lb} {env2:Env} {H2:Hp} (hS:∀l,live K.H0 l→l.entry=true) (h:Wk ρ env H env2 H2) (hr:aH K β env H a w) :
  aH K (fun l=>β (ρ l)) env2 H2 a w:=
 hr.vk ρ h.e h.h h.inj h.m h.rm (fun l hl=>⟨(h.st l (hS l hl)).1 (hr.gA l hl).1,(h.st l (hS l hl)).2⟩) h.fr
def fY {σ:Type} {S:St} {Q:gI} {c:AC} {k:List It} {env:Env} {H:Hp} (E:σ→Env) (HH:σ→Hp) (μ:σ→Nat) (s0:σ) (ρ:Lb→Lb) (h0:Wk ρ env H (E s0) (HH s0))
  (round:∀s,go S (rj S Q k E HH μ (μ s)) [.code c] (E s) (HH s)):lI S Q c k env H:=by
 intro K IJ hS c0 ck hc dN β a w hr;subst IJ;simp only[PH,Exit.then];refine wp_loop_ghost (fun n a w=>∃s β,μ s=n∧aH K β (E s) (HH s) a w) (μ s0) ⟨s0,_,rfl,h0.rel hS hr⟩ ?_;rintro n a w ⟨s,β,rfl,hr⟩;have hs:=go_sound (K:=K) hS _ (mo [.code c]) [.code c] [.code c0] (eM _) (.cons (.code hc) .nil) (E s) (HH s) (round s) β a w hr;simp only[PH,Exit.then] at hs;refine wp_mono hs ?_;rintro e a' w' ⟨env',H',β',hq,lz⟩;cases e with
 |normal=>
  obtain⟨s',bI,ρ',hw⟩:=hq;exact⟨μ s',bI,s',_,rfl,hw.rel hS lz⟩
 |exit id=>
  have hp:=ja (P:=K.P) (G:=K.G) (lift K Q) (id:=id) ck k dN;simp only[rj] at hq;show PH K.P (lift K Q) ck (.exit id) a' w';cases vy:dR id k with
  |some k'=>
   rw[vy] at hp hq;obtain⟨wz,e1,e2⟩:=hp;exact e2 a' w' (go_sound (K:=K) hS Q (mo k') k' wz (eM _) e1 env' H' hq β' a' w' lz)
  |none=>
  rw[vy] at hp hq;exact hp a' w' ⟨env',H',β',hq,lz⟩
 |ret=>exact nR _ _ _ _ _ ⟨env',H',β',hq,lz⟩
 |goto l=>exact hq.elim
 |panic ch=>exact hq.elim
 |outgrown=>exact hq.elim

inductive Tk {α:Type 1} (a:α):Type
 |mk
inductive Tp (a c:Prop):Type
 |mk
inductive Tv {α:Type} (a:α→Prop):Type
 |mk
inductive Tw (a:AV→Hp→Prop):Type
 |mk
def cw (o:Option AV) (k:AV→Prop) (_:Tv k):Prop:=∃x,o=some x∧k x
def PI {p:Prop} (h:p:=by simp only[akH,Quiet,cw,kt]):p:=h
def gB (x:AV) (t:Bool) (A B:Prop) (_:Tp A B):Prop:=
 match x with
 | .bool b=>if b=t then A else B
 | .un=>B
 |_=>False
def QE {p:Prop} (h:p:=by simp[gB]):p:=h
def cK (x:AV) (A B:Prop) (_:Tp A B):Prop:=
 match x with
 | .bool b=>if b=true then A else B
 |_=>False
def hK (o:Option Hp) (k:Hp→Prop) (_:Tv k):Prop:=∃x,o=some x∧k x
def pK (o:Option (AV×Hp)) (k:AV→Hp→Prop) (_:Tw k):Prop:=∃x h,o=some (x,h)∧k x h
def C7 (S:St) (f:Nat) (args:List AV) (H:Hp) (k:AV→Hp→Prop) (_:Tw k):Prop:=jJ S f args H k
def F6 (S:St) (f:Nat) (args:List AV) (k:AV→Prop) (_:Tv k):Prop:=∃x,au S.P S.G f args x∧k x
section
variable {S:St} {Q:gI} {env:Env} {H:Hp} {k:List It}
def xj (x:AV) (k:AV→Prop) (u:Tv k):cw (some x) k u=k x:=by simp[cw]
def zT (x:Hp) (k:Hp→Prop) (u:Tv k):hK (some x) k u=k x:=by simp[hK]
def zU (x:AV) (h:Hp) (k:AV→Hp→Prop) (u:Tw k):pK (some (x,h)) k u=k x h:=by
 simp only[pK,di,eS];apply propext;constructor
 ·rintro⟨_,_,⟨rfl,rfl⟩,h⟩;exact h
 intro h;exact⟨_,_,⟨rfl,rfl⟩,h⟩
def IK (A B:Prop) (u:Tp A B):gB (.bool true) true A B u=A:=QE
def IL (A B:Prop) (u:Tp A B):gB (.bool false) true A B u=B:=QE
def F7 (A B:Prop) (u:Tp A B):gB (.bool true) false A B u=B:=QE
def F8 (A B:Prop) (u:Tp A B):gB (.bool false) false A B u=A:=QE
def IM (t:Bool) (A B:Prop) (u:Tp A B):gB .un t A B u=B:=QE
def IN (A B:Prop) (u:Tp A B):cK (.bool true) A B u=A:=by simp[cK]
def IP (A B:Prop) (u:Tp A B):cK (.bool false) A B u=B:=by simp[cK]
def C8 (k:Env→Hp→Prop):AO S [] env H k=k env H:=rfl
def zV (n:Nat) (i:U7) (r:List bh) (k:Env→Hp→Prop) :
  AO S (⟨some n,none,i⟩::r) env H k=(n<S.N∧bg S (some n) i env H fun x H'=>AO S r (put env n x) H' k):=by
 simp[AO,gW,cV]
def zW (i:U7) (r:List bh) (k:Env→Hp→Prop) :
  AO S (⟨none,none,i⟩::r) env H k=bg S none i env H fun x H'=>AO S r env H' k:=by
 simp[AO,gW,cV]
def xk (n s:Nat) (t:Bool) (i:U7) (r:List bh) (k:Env→Hp→Prop) :
  AO S (⟨some n,some (s,t),i⟩::r) env H k=(n<S.N∧gB (env s) t (bg S (some n) i env H fun x H'=>AO S r (put env n x) H' k) (AO S r (put env n .un) H k) .mk):=by
 simp only[AO,gW,cV];cases he:env s<;>simp[gB,he];rename_i b;cases b<;>cases t<;>simp
def vA (s:Nat) (t:Bool) (i:U7) (r:List bh) (k:Env→Hp→Prop) :
  AO S (⟨none,some (s,t),i⟩::r) env H k=gB (env s) t (bg S none i env H fun x H'=>AO S r env H' k) (AO S r env H k) .mk:=by
 simp only[AO,gW,cV];cases he:env s<;>simp[gB,he];rename_i b;cases b<;>cases t<;>simp
def xl (j n:Nat) (i:U7) (f:Fp) (r:List (Nat×bh×Fp)) (k:Env→Hp→Prop) :
  jO S ((j,⟨some n,none,i⟩,f)::r) env H k=(n<S.N∧akH S f (some n) i env H fun x H'=>jO S r (put env n x) H' k):=by
 simp[jO,qF,gW,cV]
def xm (j:Nat) (i:U7) (f:Fp) (r:List (Nat×bh×Fp)) (k:Env→Hp→Prop) :
  jO S ((j,⟨none,none,i⟩,f)::r) env H k=akH S f none i env H fun x H'=>jO S r env H' k:=by
 simp[jO,qF,gW,cV]
def vB (j n s:Nat) (t:Bool) (i:U7) (f:Fp) (r:List (Nat×bh×Fp)) (k:Env→Hp→Prop) :
  jO S ((j,⟨some n,some (s,t),i⟩,f)::r) env H k=(n<S.N∧gB (env s) t (akH S f (some n) i env H fun x H'=>jO S r (put env n x) H' k) (jO S r (put env n .un) H k) .mk):=by
 simp only[jO,qF,gW,cV];cases he:env s<;>simp[gB,he];rename_i b;cases b<;>cases t<;>simp
def C9:go S Q [] env H=Q .normal env H:=by rw[go]
def C' (id:Nat):go S Q (.o6 id::k) env H=go S Q k env H:=by rw[go]
def zX:go S Q (.code .skip::k) env H=go S Q k env H:=by rw[go]
def C_ (a b:AC):go S Q (.code (.seq a b)::k) env H=go S Q (.code a:: .code b::k) env H:=by rw[go]
def zY (x:O) (a b:AC):go S Q (.code (.cond x a b)::k) env H=cK (ev env x) (go S Q (.code a::k) env H) (go S Q (.code b::k) env H) .mk:=by
 rw[go];unfold cK;apply propext;constructor
 ·rintro⟨t,h1,h2,h3⟩;rw[h1];cases t
  ·simpa using h3 rfl
  simpa using h2 rfl
 intro h;split at h
 ·rename_i t e;refine⟨t,e,fun e2=> ?_,fun e2=> ?_⟩<;>subst e2<;>simpa using h
 exact h.elim
def xn (id:Nat) (c:AC):go S Q (.code (.block id c)::k) env H=go S Q (.code c:: .o6 id::k) env H:=by rw[go]
def zZ (c:AC):go S Q (.code (.loop c)::k) env H=lI S Q c k env H:=by rw[go]
def Da:go S Q (.code .ret::k) env H=Q .ret env H:=by rw[go]
def Db (is:List bh):go S Q (.code (.cq is)::k) env H=AO S is env H (go S Q k):=by rw[go]
def z6 (ns:List Nat) (c:AC):go S Q (.code (.gh (.cX ns) c)::k) env H=go S Q (.code c::k) (nP ns env) H:=by rw[go]
def Dc (l:Lb) (d:Nat) (c:AC):go S Q (.code (.gh (.zS l d) c)::k) env H=∃sz xs i n,env d= .sl l sz i n∧H l= .live ⟨sz,aB xs⟩∧l.fresh=true∧i+n≤xs.length∧Flat xs ∧
 go S Q (.code c::k) (put env d (.list ((xs.drop i).take n))) (bD H l .dead):=by rw[go]
def Dd (d sz:Nat) (c:AC):go S Q (.code (.gh (.own d sz) c)::k) env H=(env d= .nil0∧0<sz∧H (.loc d)= .unused∧go S Q (.code c::k) (put env d (.sl (.loc d) sz 0 0)) (bD H (.loc d) (.live ⟨sz,[]⟩))):=by rw[go]
def Ox (c:AC):go S Q (.code (.gh .vk c)::k) env H=∃env2 H2,nQ S env H env2 H2∧go S Q (.code c::k) env2 H2:=by rw[go]
def ad4 (c:AC):go S Q (.code (.gh .J6 c)::k) env H=∃(T:Type) (E:T→Env) (HH:T→Hp),Choice S env H T E HH∧∀t,go S Q (.code c::k) (E t) (HH t):=by rw[go]
theorem z7 (id:Nat):go S Q (.code (.exit id)::k) env H=match dR id k with
  |some k'=>go S Q k' env H
  |none=>Q (.exit id) env H:=by
 cases h:dR id k with
 |some k'=>rw[lJ h]
 |none=>rw[lL h]
def amy (n:Nat) (i:bh) (is:List bh) (f:Fp) (fs:List Fp):items n (i::is) (f::fs)=(n,i,f)::items (n+1) is fs:=rfl
def De d x (k:AV→Hp→Prop):bg S d (.iC x) env H k=cw (af (.iC x) env) (fun x=>k x H) .mk:=rfl
def z8 d c a b (k:AV→Hp→Prop):bg S d (.pick c a b) env H k=cw (af (.pick c a b) env) (fun x=>k x H) .mk:=rfl
def Df d a off (k:AV→Hp→Prop):bg S d (.wj a off) env H k=cw (af (.wj a off) env) (fun x=>k x H) .mk:=rfl
def Dg d x i n sz (k:AV→Hp→Prop):bg S d (.wC x i n sz) env H k=cw (af (.wC x i n sz) env) (fun x=>k x H) .mk:=rfl
def Dh d x i sz (k:AV→Hp→Prop):bg S d (.Vc x i sz) env H k=cw (af (.Vc x i sz) env) (fun x=>k x H) .mk:=rfl
def Di d x i (k:AV→Hp→Prop):bg S d (.lj x i) env H k=cw (af (.lj x i) env) (fun x=>k x H) .mk:=rfl
def Dj d x (k:AV→Hp→Prop):bg S d (.len x) env H k=cw (af (.len x) env) (fun x=>k x H) .mk:=rfl
def z_ d x (k:AV→Hp→Prop):bg S d (.lens x) env H k=cw (af (.lens x) env) (fun x=>k x H) .mk:=rfl
def Dk d x lo hi mx sz (k:AV→Hp→Prop):bg S d (.zr x lo hi mx sz) env H k=cw (af (.zr x lo hi mx sz) env) (fun x=>k x H) .mk:=rfl
def Aa d x lo hi (k:AV→Hp→Prop):bg S d (.ZL x lo hi) env H k=cw (af (.ZL x lo hi) env) (fun x=>k x H) .mk:=rfl
def Dl d op x y (k:AV→Hp→Prop):bg S d (.bin op x y) env H k=cw (af (.bin op x y) env) (fun x=>k x H) .mk:=rfl
def Dm d n x y (k:AV→Hp→Prop):bg S d (.eqb n x y) env H k=cw (af (.eqb n x y) env) (fun x=>k x H) .mk:=rfl
def Dn d n x y (k:AV→Hp→Prop):bg S d (.zu n x y) env H k=cw (af (.zu n x y) env) (fun x=>k x H) .mk:=rfl
def Dp d n x y (k:AV→Hp→Prop):bg S d (.zv n x y) env H k=cw (af (.zv n x y) env) (fun x=>k x H) .mk:=rfl
def Ab d n ks x y (k:AV→Hp→Prop):bg S d (.pM n ks x y) env H k=cw (af (.pM n ks x y) env) (fun x=>k x H) .mk:=rfl
def Dq d x (k:AV→Hp→Prop):bg S d (.not x) env H k=cw (af (.not x) env) (fun x=>k x H) .mk:=rfl
def Dr d x (k:AV→Hp→Prop):bg S d (.neg x) env H k=cw (af (.neg x) env) (fun x=>k x H) .mk:=rfl
def Ds d x y (k:AV→Hp→Prop):bg S d (.max x y) env H k=cw (af (.max x y) env) (fun x=>k x H) .mk:=rfl
def Dt d x y (k:AV→Hp→Prop):bg S d (.min x y) env H k=cw (af (.min x y) env) (fun x=>k x H) .mk:=rfl
def Du d x i (k:AV→Hp→Prop):bg S d (.ext x i) env H k=cw (af (.ext x i) env) (fun x=>k x H) .mk:=rfl
def Dv d z ps (k:AV→Hp→Prop):bg S d (.sg z ps) env H k=cw (af (.sg z ps) env) (fun x=>k x H) .mk:=rfl
def Ac d x off m (k:AV→Hp→Prop):bg S d (.pN x off m) env H k=cw (af (.pN x off m) env) (fun x=>k x H) .mk:=rfl
def Ad d n sz z ps (k:AV→Hp→Prop):bg S d (.lits n sz z ps) env H k=cw (af (.lits n sz z ps) env) (fun x=>k x H) .mk:=rfl
def Ae d x (k:AV→Hp→Prop):bg S d (.oC x) env H k=cw (af (.oC x) env) (fun x=>k x H) .mk:=rfl
def Af d x (k:AV→Hp→Prop):bg S d (.dp x) env H k=cw (af (.dp x) env) (fun x=>k x H) .mk:=rfl
def Dw d f cap (k:AV→Hp→Prop):bg S d (.zw f cap) env H k=cw (af (.zw f cap) env) (fun x=>k x H) .mk:=rfl
def Dx d kd x (k:AV→Hp→Prop):bg S d (.qK kd x) env H k=cw (af (.qK kd x) env) (fun x=>k x H) .mk:=rfl
def Dy d x (k:AV→Hp→Prop):bg S d (.YJ x) env H k=cw (af (.YJ x) env) (fun x=>k x H) .mk:=rfl
def Dz d x (k:AV→Hp→Prop):bg S d (.zg x) env H k=cw (af (.zg x) env) (fun x=>k x H) .mk:=rfl
def DA d x (k:AV→Hp→Prop):bg S d (.wm x) env H k=cw (af (.wm x) env) (fun x=>k x H) .mk:=rfl
def Ag d t x (k:AV→Hp→Prop):bg S d (.pO t x) env H k=cw (af (.pO t x) env) (fun x=>k x H) .mk:=rfl
def Ah (d:Option Nat) (m:Option Nat) (a:O) (k:AV→Hp→Prop):bg S d (.load m a) env H k=(cw (af (.load m a) env) (fun x=>k x H) .mk∨cw (Wl m (ev env a) H) (fun x=>k x H) .mk):=rfl
def B9 (m:Option Nat) (x:AV) (H:Hp):Option AV:=
 match x with
 | .lptr cs=>match m with
  |none=>cs[0]?.map IV.dQ
  |some k=>if k≤cs.length then some (.agg ((cs.take k).map IV.dQ)) else none
 |x=>Wl m x H
def F9 (d:Option Nat) (m:Option Nat) (a:O) (k:AV→Hp→Prop):bg S d (.load m a) env H k=cw (B9 m (ev env a) H) (fun x=>k x H) .mk:=by
 rw[Ah];unfold B9;split
 ·rename_i cs e;simp only[af,e,Wl,cw];apply propext;constructor
  ·rintro(h|⟨x,h,_⟩)
   ·exact h
   simp at h
  exact .inl
 rename_i x Vi;have:af (.load m a) env=none:=by
  simp only[af]
 rw[this];simp[cw]
def DB (n:Nat) (cs:List AV) (k:AV→Hp→Prop):bg S (some n) (.new cs) env H k=(H (.loc n)= .unused∧0<cs.length∧cs.length≤maxLen ∧
  k (.ptr (.loc n) cs.length 0 0) (bD H (.loc n) (.live ⟨cs.length,[cs]⟩))):=by
 simp[bg]
def vC (x:AV) (n:Nat) (H:Hp) (k:AV→Hp→Prop):Prop:=H (.loc n)= .unused∧x.sI=true∧0<x.cells.length∧x.cells.length≤maxLen ∧
 k (.ptr (.loc n) x.cells.length 0 0) (bD H (.loc n) (.live ⟨x.cells.length,[x.cells]⟩))
def DC (n:Nat) (x:O) (k:AV→Hp→Prop):bg S (some n) (.box x) env H k=vC (ev env x) n H k:=by
 simp[bg,vC]
def xo (m:Nat) (a x:O) (k:AV→Hp→Prop):bg S none (.store m a x) env H k=hK (gZ m (ev env a) (ev env x) H) (fun H'=>k .un H') .mk:=by
 simp[bg,hK]
def DD (n:Nat) (s x:O) (sz b:Nat) (k:AV→Hp→Prop):bg S (some n) (.app s x sz b) env H k=pK (jN sz b n (ev env s) (ev env x) H) k .mk:=by
 simp only[bg,pK,di];apply propext;constructor
 ·rintro⟨_,rfl,h⟩;exact h
 intro h;exact⟨_,rfl,h⟩
def Ai (d:Option Nat) (f:Nat) (args:List O) (k:AV→Hp→Prop):bg S d (.call f args) env H k=C7 S f (args.map (ev env)) H k .mk:=rfl
def ay {f:Nat} {args:List AV} {res:AV} {k:AV→Hp→Prop} (h:au S.P S.G f args res) (hk:k res H) {u:Tw k}:C7 S f args H k u:= .inl ⟨res,h,hk⟩
def ab7 {f:Nat} {args U6:List AV} {res:AV} {k:AV→Hp→Prop} (h:au S.P S.G f U6 res) (ha:iF (wV H) args U6) (hs:res.scalar=true) (hk:k res H) {u:Tw k}:C7 S f args H k u:= .inr (.inl ⟨U6,res,ha,h,hs,hk⟩)
def jw {f:Nat} {args:List AV} {res:AV} {k:AV→Prop} (h:au S.P S.G f args res) (hk:k res) {u:Tv k}:F6 S f args k u:=⟨res,h,hk⟩
def Aj d x (k:AV→Hp→Prop):akH S .no d (.iC x) env H k=cw (af (.iC x) env) (fun x=>k x H) .mk:=PI
def xp d c a b (k:AV→Hp→Prop):akH S .no d (.pick c a b) env H k=cw (af (.pick c a b) env) (fun x=>k x H) .mk:=PI
def Ak d a off (k:AV→Hp→Prop):akH S .no d (.wj a off) env H k=cw (af (.wj a off) env) (fun x=>k x H) .mk:=PI
def Al d x i sz (k:AV→Hp→Prop):akH S .no d (.Vc x i sz) env H k=cw (af (.Vc x i sz) env) (fun x=>k x H) .mk:=PI
def An d x i n sz (k:AV→Hp→Prop):akH S .no d (.wC x i n sz) env H k=cw (af (.wC x i n sz) env) (fun x=>k x H) .mk:=PI
def Ao d x i (k:AV→Hp→Prop):akH S .no d (.lj x i) env H k=cw (af (.lj x i) env) (fun x=>k x H) .mk:=PI
def Ap d x (k:AV→Hp→Prop):akH S .no d (.len x) env H k=cw (af (.len x) env) (fun x=>k x H) .mk:=PI
def xq d x (k:AV→Hp→Prop):akH S .no d (.lens x) env H k=cw (af (.lens x) env) (fun x=>k x H) .mk:=PI
def Aq d x lo hi mx sz (k:AV→Hp→Prop):akH S .no d (.zr x lo hi mx sz) env H k=cw (af (.zr x lo hi mx sz) env) (fun x=>k x H) .mk:=PI
def xr d x lo hi (k:AV→Hp→Prop):akH S .no d (.ZL x lo hi) env H k=cw (af (.ZL x lo hi) env) (fun x=>k x H) .mk:=PI
def Ar d op x y (k:AV→Hp→Prop):akH S .no d (.bin op x y) env H k=cw (af (.bin op x y) env) (fun x=>k x H) .mk:=PI
def As d n x y (k:AV→Hp→Prop):akH S .no d (.eqb n x y) env H k=cw (af (.eqb n x y) env) (fun x=>k x H) .mk:=PI
def At d n x y (k:AV→Hp→Prop):akH S .no d (.zu n x y) env H k=cw (af (.zu n x y) env) (fun x=>k x H) .mk:=PI
def Au d n x y (k:AV→Hp→Prop):akH S .no d (.zv n x y) env H k=cw (af (.zv n x y) env) (fun x=>k x H) .mk:=PI
def xu d n ks x y (k:AV→Hp→Prop):akH S .no d (.pM n ks x y) env H k=cw (af (.pM n ks x y) env) (fun x=>k x H) .mk:=PI
def Av d x (k:AV→Hp→Prop):akH S .no d (.not x) env H k=cw (af (.not x) env) (fun x=>k x H) .mk:=PI
def Aw d x (k:AV→Hp→Prop):akH S .no d (.neg x) env H k=cw (af (.neg x) env) (fun x=>k x H) .mk:=PI
def Ax d x y (k:AV→Hp→Prop):akH S .no d (.max x y) env H k=cw (af (.max x y) env) (fun x=>k x H) .mk:=PI
def Ay d x y (k:AV→Hp→Prop):akH S .no d (.min x y) env H k=cw (af (.min x y) env) (fun x=>k x H) .mk:=PI
def Az d x i (k:AV→Hp→Prop):akH S .no d (.ext x i) env H k=cw (af (.ext x i) env) (fun x=>k x H) .mk:=PI
def AA d z ps (k:AV→Hp→Prop):akH S .no d (.sg z ps) env H k=cw (af (.sg z ps) env) (fun x=>k x H) .mk:=PI
def xw d x off m (k:AV→Hp→Prop):akH S .no d (.pN x off m) env H k=cw (af (.pN x off m) env) (fun x=>k x H) .mk:=PI
def xx d n sz z ps (k:AV→Hp→Prop):akH S .no d (.lits n sz z ps) env H k=cw (af (.lits n sz z ps) env) (fun x=>k x H) .mk:=PI
def xy d x (k:AV→Hp→Prop):akH S .no d (.oC x) env H k=cw (af (.oC x) env) (fun x=>k x H) .mk:=PI
def xz d x (k:AV→Hp→Prop):akH S .no d (.dp x) env H k=cw (af (.dp x) env) (fun x=>k x H) .mk:=PI
def AB d f cap (k:AV→Hp→Prop):akH S .no d (.zw f cap) env H k=cw (af (.zw f cap) env) (fun x=>k x H) .mk:=PI
def AD d kd x (k:AV→Hp→Prop):akH S .no d (.qK kd x) env H k=cw (af (.qK kd x) env) (fun x=>k x H) .mk:=PI
def AE d x (k:AV→Hp→Prop):akH S .no d (.YJ x) env H k=cw (af (.YJ x) env) (fun x=>k x H) .mk:=PI
def AF d x (k:AV→Hp→Prop):akH S .no d (.zg x) env H k=cw (af (.zg x) env) (fun x=>k x H) .mk:=PI
def AG d x (k:AV→Hp→Prop):akH S .no d (.wm x) env H k=cw (af (.wm x) env) (fun x=>k x H) .mk:=PI
def xA d t x (k:AV→Hp→Prop):akH S .no d (.pO t x) env H k=cw (af (.pO t x) env) (fun x=>k x H) .mk:=PI
def xB d m a (k:AV→Hp→Prop):akH S .no d (.load m a) env H k=cw (af (.load m a) env) (fun x=>k x H) .mk:=PI
def AH (d:Option Nat) (f:Nat) (args:List O) (k:AV→Hp→Prop):akH S .no d (.call f args) env H k=F6 S f (args.map (ev env)) (fun x=>k x H) .mk:=by
 simp[akH,Quiet,af,F6]
def s9 (env:Env) (n m:Nat) (x:AV):put env n x m=if m=n then x else env m:=rfl
end
def ai:=And.intro @Dg<|And.intro @De (And.intro @z8 (And.intro @Df (And.intro @Dh (And.intro @Di (And.intro @Dj (And.intro @z_ (And.intro @Dk (And.intro @Aa (And.intro @Dl (And.intro @Dm (And.intro @Dn (And.intro @Dp (And.intro @Ab (And.intro @Dq (And.intro @Dr (And.intro @Ds (And.intro @Dt (And.intro @Du (And.intro @Dv (And.intro @Ac (And.intro @Ad (And.intro @Ae (And.intro @Af (And.intro @Dw (And.intro @Dx (And.intro @Dy (And.intro @Dz (And.intro @DA (@Ag)))))))))))))))))))))))))))))
def aj:=And.intro @An<|And.intro @Aj (And.intro @xp (And.intro @Ak (And.intro @Al (And.intro @Ao (And.intro @Ap (And.intro @xq (And.intro @Aq (And.intro @xr (And.intro @Ar (And.intro @As (And.intro @At (And.intro @Au (And.intro @xu (And.intro @Av (And.intro @Aw (And.intro @Ax (And.intro @Ay (And.intro @Az (And.intro @AA (And.intro @xw (And.intro @xx (And.intro @xy (And.intro @xz (And.intro @AB (And.intro @AD (And.intro @AE (And.intro @AF (And.intro @AG (And.intro @xA (@xB))))))))))))))))))))))))))))))

def Wc (ρ:Lb→Lb) (env:Env):∀n,Env.any n= .any∨env n=bJ ρ (Env.any n):=fun _=> .inl rfl
def aT {ρ:Lb→Lb} {env e:Env} {d:Nat} {x:AV} (h1:env d=bJ ρ x) (h2:∀n,e n= .any∨env n=bJ ρ (e n)):∀n,put e d x n= .any∨env n=bJ ρ (put e d x n):=by
 intro n;unfold put;split
 ·next h=>subst h;exact .inr h1
 exact h2 n
def eB (H:Hp):∀n,∀l∈(Env.any n).an,H l≠ .unused:=by simp[Env.any,AV.an]
def aU {H:Hp} {e:Env} {d:Nat} {x:AV} (h1:∀l∈x.an,H l≠ .unused) (h2:∀n,∀l∈(e n).an,H l≠ .unused):∀n,∀l∈(put e d x n).an,H l≠ .unused:=by
 intro n;unfold put;split
 ·exact h1
 exact h2 n
mutual
theorem qc:∀x:AV,bJ id x=x
 | .sl ..| .slk ..| .ptr ..| .any| .un| .bool _| .int ..| .str _| .list _| .nil0| .jK| .iT| .lptr _| .mis _=>by simp[bJ]
 | .agg cs=>by simp[bJ,ki cs]
 | .gf cs=>by simp[bJ,ki cs]
 | .fn f fs cs=>by simp[bJ,ki fs,ki cs]
 | .ifc t x=>by simp[bJ,qc x]
theorem ki:∀xs:List AV,bu id xs=xs
 |[]=>by simp[bu]
 |x::r=>by simp[bu,qc x,ki r]
end
def qd (r:Row):dO id r=r:=by
 obtain⟨sz,els⟩:=r;simp only[dO,Row.mk.injEq,tk];rw[show bu id=id from funext ki];simp
def Wk.same {env:Env} {H:Hp} {env2:Env} (e:∀n,env2 n= .any∨env n=bJ id (env2 n)) (m:∀n,∀l∈(env2 n).an,H l≠ .unused)
  (rm:∀l r,H l= .live r→∀cs∈r.els,∀q∈ah cs,H q≠ .unused):Wk id env H env2 H:=
 ⟨e,fun l r h=>by rw[qd];exact h,fun _ _ _ _ h=>h,m,rm,fun l _=>⟨id,fun _=>rfl⟩,fun _ _ h=>h⟩
def Wk.none {env env2:Env} (e:∀n,env2 n= .any∨env n=bJ id (env2 n)) (m:∀n,∀l∈(env2 n).an,Hp.none l≠ .unused):Wk id env Hp.none env2 Hp.none:=
 .same e m (by simp[Hp.none])
def wrap64 {n:Int} (h1: -9223372036854775808≤n) (h2:n≤9223372036854775807):IntKind.i64.wrap n=n:=by rw[IntKind.wrap_i64];omega
section
variable {σ:Type} {S:St} {Q:gI} {k:List It} {E:σ→Env} {HH:σ→Hp} {μ:σ→Nat} {n:Nat} {env:Env} {H:Hp}
def IQ:rj S Q k E HH μ n .normal env H=∃s,μ s<n∧∃ρ,Wk ρ env H (E s) (HH s):=rfl
theorem IS (id:Nat):rj S Q k E HH μ n (.exit id) env H=match dR id k with
 |some k'=>go S Q k' env H
 |none=>Q (.exit id) env H:=rfl
def IT:rj S Q k E HH μ n .ret env H=Q .ret env H:=rfl
def AI (id:Nat):dR id []=none:=rfl
def AJ (id i:Nat) (r:List It):dR id (.o6 i::r)=if i=id then some r else dR id r:=rfl
def xC (id:Nat) (c:AC) (r:List It):dR id (.code c::r)=dR id r:=rfl
def xD (is:List bh) (es:List (List Nat)) (fs:List Fp):go S Q (.code (.VL is es fs)::k) env H=(uj is es fs=true∧jO S (items 0 is fs) env H (go S Q k)):=by rw[go]
def AK (l q:Lb) (j:Nat) (c:AC):go S Q (.code (.gh (.xd l q j) c)::k) env H=∃sz xs i n cs,H q= .live ⟨cs.length,[cs]⟩∧cs[j]?=some (.sl l sz i n)∧H l= .live ⟨sz,aB xs⟩∧l.fresh=true∧l≠q∧i+n≤xs.length∧Flat xs ∧
 go S Q (.code c::k) env (bD (bD H l .dead) q (.live ⟨cs.length,[cs.set j (.list ((xs.drop i).take n))]⟩)):=by rw[go]
def B_ (rs:List RO) (R:AV→Hp→Prop):fX rs R .ret env H=∃xs,ef env H rs=some xs∧R (gD xs) H:=by simp[fX]
def lM (rs:List RO) (R:AV→Hp→Prop):fX rs R .normal env H=∃xs,ef env H rs=some xs∧R (gD xs) H:=by simp[fX]
def YT (t:Nat) (R:AV→Hp→Prop):fX [(none,t)] R .ret env H=R (env t) H:=Qr
def kj (m:Option Nat) (t:Nat) (R:AV→Hp→Prop):fX [(some m,t)] R .ret env H=cw (Wl m (env t) H) (fun x=>R x H) .mk:=by
 simp only[fX,ef,oO,cw];cases Wl m (env t) H<;>simp[gD]
def AL (m:Option Nat) (t:Nat) (R:AV→Hp→Prop):fX [(some m,t)] R .normal env H=cw (Wl m (env t) H) (fun x=>R x H) .mk:=by
 simp only[fX,ef,oO,cw];cases Wl m (env t) H<;>simp[gD]
def DE (t:Nat) (R:AV→Hp→Prop):fX [(none,t)] R .normal env H=R (env t) H:=Qr
end
section
variable {S:St} {env:Env} {H:Hp}
def AM (j:Nat) (f:List Fp) (k:Env→Hp→Prop):jO S (items j [] f) env H k=k env H:=rfl
def xE (j n:Nat) (i:U7) (f:Fp) (r:List bh) (fs:List Fp) (k:Env→Hp→Prop) :
 jO S (items j (⟨some n,none,i⟩::r) (f::fs)) env H k=(n<S.N∧akH S f (some n) i env H fun x H'=>jO S (items (j+1) r fs) (put env n x) H' k):=by rw[amy,xl]
def xF (j:Nat) (i:U7) (f:Fp) (r:List bh) (fs:List Fp) (k:Env→Hp→Prop) :
 jO S (items j (⟨none,none,i⟩::r) (f::fs)) env H k=akH S f none i env H fun x H'=>jO S (items (j+1) r fs) env H' k:=by rw[amy,xm]
def vD (j n s:Nat) (t:Bool) (i:U7) (f:Fp) (r:List bh) (fs:List Fp) (k:Env→Hp→Prop) :
 jO S (items j (⟨some n,some (s,t),i⟩::r) (f::fs)) env H k=(n<S.N∧gB (env s) t (akH S f (some n) i env H fun x H'=>jO S (items (j+1) r fs) (put env n x) H' k) (jO S (items (j+1) r fs) (put env n .un) H k) .mk):=by rw[amy,vB]
end
def dS:=And.intro @C9 (And.intro @C' (And.intro @zX (And.intro @C_ (And.intro @xn (And.intro @zZ (And.intro @Da (And.intro @Db (And.intro @z6 (And.intro @Dd (And.intro @Dc (And.intro @AK (And.intro @xD (And.intro @zY (And.intro @z7 (And.intro @C8 (And.intro @zV (And.intro @zW (And.intro @xk (And.intro @vA (And.intro @AM (And.intro @xE (And.intro @xF (And.intro @vD (And.intro @F9 (And.intro @DB (And.intro @DC (And.intro @xo (And.intro @DD (And.intro @Ai (And.intro @AH (And.intro @YT (And.intro @DE (And.intro @kj (And.intro @AL (And.intro @IQ (And.intro @IS (@IT)))))))))))))))))))))))))))))))))))))
def J_:=And.intro @xj (And.intro @zT (And.intro @zU (And.intro @IK (And.intro @IL (And.intro @F7 (And.intro @F8 (And.intro @IM (And.intro @IN (And.intro @IP (And.intro @s9 (And.intro @AI (And.intro @AJ (@xC)))))))))))))
end Go.Am
