import Derived.Test.YtfinkeaikbmpgaaKT8
set_option linter.unusedSimpArgs false
set_option linter.unusedVariables false
set_option linter.unnecessarySimpa false
set_option linter.defProp false
/- THE ABSTRACT MACHINE, part 33: slices held against nil; loops of calls with pointers. -/
namespace Go.Am
open Go Go.RowKit
inductive Tb (k:Bool→Prop):Type
 |mk
def nK (o:Option (List Bool)) (k:Bool→Prop) (_:Tb k):Prop:=∃bs,o=some bs∧∀b∈bs,k b
theorem x8 {S:St} {env:Env} {H:Hp} (d:Option Nat) (n:Bool) (x:O) (k:AV→Hp→Prop):bX S d (.zZ n x) env H k=nK (sI (ev env x)) (fun b=>k (.bool (n ^^ b)) H) .mk:=rfl
theorem uR {xs:List IV} {k:Bool→Prop} {u:Tb k} (h1:xs=[]→k true) (h2:k false):nK (sI (.list xs)) k u:=by
 cases xs with
 |nil=>exact⟨_,rfl,fun b _=>by cases b;exact h2;exact h1 rfl⟩
 |cons x r=>exact⟨_,rfl,fun b hb=>by simp only[List.mem_singleton] at hb;subst hb;exact h2⟩
theorem oH (sz b d:Nat) (xs:List IV) {H:Hp} (he:iw sz xs) (hf:Flat xs) (hb:xs.length*b≤140737488355328) (h0:0<b) (hu:H (.loc d)= .unused) :
 j8 sz b d .nil0 (.list xs) H=some (.sl (.loc d) sz 0 xs.length,bG H (.loc d) (.live ⟨sz,ay xs⟩)):=Fo he hf hb h0 hu
end Go.Am

/- Copies of slices. -/
namespace Go.Am
open Go Go.RowKit
def cP:AC:=
(.seq (.aM [⟨some 2,none,.ak (.c .nil0)⟩]) (.seq (.seq (.aM [⟨some 3,none,.ak (.t 0)⟩,⟨some 4,none,.zZ false (.t 3)⟩]) (.cond (.t 4) (.seq (.aM [⟨some 2,none,.ak (.c .nil0)⟩]) .ret) .skip)) (.seq (.aM [⟨some 5,none,.lits 0 2 [(.str []),(.str [])] []⟩,⟨some 6,none,.ak (.t 0)⟩,⟨some 7,none,.app (.t 5) (.t 6) 2 32⟩,⟨some 2,none,.ak (.t 7)⟩]) (.gh (.Ez (.loc 7) 2) .ret))))
def fC:AC:=
(.seq (.aM [⟨some 2,none,.ak (.c .nil0)⟩]) (.seq (.seq (.aM [⟨some 3,none,.ak (.t 0)⟩,⟨some 4,none,.zZ false (.t 3)⟩]) (.cond (.t 4) (.seq (.aM [⟨some 2,none,.ak (.c .nil0)⟩]) .ret) .skip)) (.seq (.aM [⟨some 5,none,.lits 0 1 [(.int .i64 0)] []⟩,⟨some 6,none,.ak (.t 0)⟩,⟨some 7,none,.app (.t 5) (.t 6) 1 8⟩,⟨some 2,none,.ak (.t 7)⟩]) (.gh (.Ez (.loc 7) 2) .ret))))
theorem zl {P:Program} {G:Nat→Option (List IV)} {ah:Nat} (hF:aA P G ah=some (8,[(none,2)],cP.bare)) (xs:List Attr) (hx:xs.length≤B):az P G ah [.list (dY xs)] (.list (dY xs)):=by
 refine jr hF (by simp) (by simp[ax,AV.aI]) (by simp[AV.aI]) ?_;unfold cP;simp only[↓aX,mX,reduceCtorEq,Nat.reduceEqDiff,Nat.reduceLT,Nat.reduceLeDiff,Nat.reduceAdd,Nat.reduceMul,Int.reduceToNat,Int.reduceLE,Int.reduceLT,x8];refine uR (fun h=> ?_) ?_
 ·simp only[↓aX,mX,reduceCtorEq,Nat.reduceEqDiff,Nat.reduceLT,Nat.reduceLeDiff,Nat.reduceAdd,Nat.reduceMul,Int.reduceToNat,Int.reduceLE,Int.reduceLT,norm,h]
 ·simp only[↓aX,mX,reduceCtorEq,Nat.reduceEqDiff,Nat.reduceLT,Nat.reduceLeDiff,Nat.reduceAdd,Nat.reduceMul,Int.reduceToNat,Int.reduceLE,Int.reduceLT,norm];rw[oH 2 32 7 (dY xs) (mA _) (pU _) (by rw[cX];unfold B at hx;omega) (by decide) rfl];simp only[↓aX,mX,reduceCtorEq,Nat.reduceEqDiff,Nat.reduceLT,Nat.reduceLeDiff,Nat.reduceAdd,Nat.reduceMul,Int.reduceToNat,Int.reduceLE,Int.reduceLT,norm]
  exact⟨2,dY xs,0,_,rfl,rfl,by simp,pU _,by simp⟩
end Go.Am

/- THE ABSTRACT MACHINE, part 34: a list of structs behind a pointer. -/
namespace Go.Am
open Go Go.RowKit
theorem FJ (sz b d:Nat) (l:Lb) (xs:List IV) (x:IV) {n:Nat} {H:Hp} (hf:l.fresh=false) (hl:H l= .live ⟨sz,ay xs⟩) (hn:xs.length=n) (he:x.cells.length=sz) (vD:∀z∈x.cells,∀cs,z≠ .agg cs) (hb:(n+1)*b≤140737488355328) (h0:0<b)
  (hd:l≠ .gen d) (hu:H (.gen d)= .unused) :
  j8 sz b d (.sl l sz 0 n) (.list [x]) H=some (.sl (.gen d) sz 0 (n+1),bG (bG H l .dead) (.gen d) (.live ⟨sz,ay (xs++[x])⟩)):=by
 have e:l.app d= .gen d:=by unfold Lb.app;rw[hf];rfl
 have:=zf (l:=l) (d:=d) hl (by rw[cB];exact hn) he vD hb h0 (by rw[e];exact hd) (by rw[e];exact hu);rw[e] at this;rw[this,gS]
def fM (u:Lb→Bool) (rs:List (Lb×Row)):Hp:=fun q=>match jD rs q with
 | .unused=>if u q then .dead else .unused
 |s=>s
theorem iE {u:Lb→Bool} {rs:List (Lb×Row)} {l:Lb} {r:Row}:fM u rs l= .live r↔jD rs l= .live r:=by
 unfold fM;cases h:jD rs l with
 |unused=>by_cases hu:u l=true<;>simp[hu]
 |dead=>simp
 |live r'=>simp
theorem ju {u:Lb→Bool} {rs:List (Lb×Row)} {l:Lb} (h:l∈rs.map Prod.fst∨u l=true):fM u rs l≠ .unused:=by
 unfold fM;rcases h with h|h
 ·have:=oz h;cases h2:jD rs l with
  |unused=>exact absurd h2 this
  |dead=>simp
  |live r=>simp
 ·cases h2:jD rs l with
  |unused=>simp[h]
  |dead=>simp
  |live r=>simp
structure WU (ls:List Lb) (u:Lb→Bool) (ps:List (Nat×AV)) (rs:List (Lb×Row)) (env:Env) (H:Hp) (m:List (Lb×Lb)):Prop where
 nf:∀l:Lb,l.fresh=false→H l≠ .unused→l∈ls∨u l=true
 e:nt (dS m) env ps
 r:zb (dS m) H rs
 inj:(ls.map (dS m)).Nodup
 fr:∀l∈ls,(l.fresh=true→(dS m l).fresh=true)∧(l.fresh=false→dS m l=l)
theorem WU.wk {ls:List Lb} {u:Lb→Bool} {ps:List (Nat×AV)} {rs:List (Lb×Row)} {env:Env} {H:Hp} {m:List (Lb×Lb)} (h:WU ls u ps rs env H m) (nr:rs.map Prod.fst=ls) (hp:∀l∈ax (ps.map Prod.snd),l∈ls)
  (hr:∀q∈rs,∀cs∈q.2.els,∀l∈ax cs,l∈ls):Wk (dS m) env H (kF ps) (fM u rs):=by
 have sQ:∀l,live (fM u rs) l→l∈ls:=fun l ⟨r,h⟩=>by rw[←nr];exact List.mem_map.2 ⟨_,fI (iE.1 h),rfl⟩
 refine⟨h.e.we,fun l r hl=>qz h.r (fI (iE.1 hl)),fun l l' h1 h2 e=>gR h.inj l (sQ l h1) l' (sQ l' h2) e,nY fun l hl=>ju (.inl (by rw[nr];exact hp l hl)),fun l r hl cs b5 q hq=> ?_,
  fun l hf=>⟨fun hu=> ?_,fun hl=>(h.fr l (sQ l hl)).2 (Lb.jg hf)⟩,fun l hl hf=>(h.fr l (sQ l hl)).1 hf⟩
 ·exact ju (.inl (by rw[nr];exact hr _ (fI (iE.1 hl)) cs b5 q hq))
 ·exact ju (by rw[nr];exact h.nf l (Lb.jg hf) hu)
theorem lv {σ:Type} {S:St} {Q:ka} {c:AC} {k:List It} {env:Env} {H:Hp} (ls:σ→List Lb) (u:σ→Lb→Bool) (ps:σ→List (Nat×AV)) (rs:σ→List (Lb×Row)) (μ:σ→Nat) (s0:σ)
  (nr:∀s,(rs s).map Prod.fst=ls s) (hp:∀s,∀l∈ax ((ps s).map Prod.snd),l∈ls s) (hr:∀s,∀q∈rs s,∀cs∈q.2.els,∀l∈ax cs,l∈ls s) (h0:∃m,WU (ls s0) (u s0) (ps s0) (rs s0) env H m)
  (round:∀s,go S (nD S Q k (fun env H s=>∃m,WU (ls s) (u s) (ps s) (rs s) env H m) μ (μ s)) [.code c] (kF (ps s)) (fM (u s) (rs s))):oq S Q c k env H:=
 mB (fun s=>kF (ps s)) (fun s=>fM (u s) (rs s)) _ (fun _ _ s ⟨m,h⟩=>⟨_,h.wk (nr s) (hp s) (hr s)⟩) μ s0 h0 round
def CD (sz:Nat) (l:Lb) (o:Option Lb) (xs:List IV) (H:Hp):Prop:=match o with
 |none=>H l= .live ⟨1,[[.nil0]]⟩∧xs=[]
 |some L=>L≠l∧H l= .live ⟨1,[[.sl L sz 0 xs.length]]⟩∧H L= .live ⟨sz,ay xs⟩
def jv (sz:Nat) (xs:List IV):Bool→Hp
 |false=>bG Hp.none (.par 0) (.live ⟨1,[[.nil0]]⟩)
 |true=>bG (bG Hp.none (.par 1) (.live ⟨sz,ay xs⟩)) (.par 0) (.live ⟨1,[[.sl (.par 1) sz 0 xs.length]]⟩)
def AE (P:Program) (G:Nat→Option (List IV)) (sz f:Nat) (args:List AV) (xs:List IV) (res:AV) (ys:List IV):Prop:=
 (∀l∈ax args,l= .par 0)∧res.aI=[]∧∀b:Bool,(b=false→xs=[])→eB P G f args (jv sz xs b) fun x H'=>x=res∧∃L,CD sz (.par 0) (some L) ys H'
theorem de (ρ:Lb→Lb) (sz:Nat) (xs:List IV):dB ρ ⟨sz,ay xs⟩=⟨sz,ay xs⟩:=vO ρ sz xs
theorem eB.L3 {P:Program} {G:Nat→Option (List IV)} {f:Nat} {args:List AV} {H:Hp} {Q:AV→Hp→Prop} (h:eB P G f args H Q) (kp:Hp→Lb→Prop) :
  eB P G f args H fun x H'=>∃H1,Q x H1∧H'=dN (kp H1) H1:=by
 intro w A β vs hr hv;refine(h w A β vs hr hv).mono ?_;rintro e w' ⟨v,x,H1,β',rfl,hq,mq,hx,hm⟩;exact⟨v,x,dN (kp H1) H1,β',rfl,⟨H1,hq,rfl⟩,mq.dN _,hx.dN _,fun l hl=>by rw[Ne,fw];exact hm l hl⟩
mutual
theorem tv {ρ ρ':Lb→Lb}:∀x:AV,(∀l∈x.aI,ρ l=ρ' l)→cG ρ x=cG ρ' x
 | .sl l ..,h| .slk l ..,h| .ptr l ..,h=>by simp[cG,h l (by simp[AV.aI])]
 | .any,_| .un,_| .bool _,_| .int ..,_| .str _,_| .list _,_| .nil0,_| .kL,_| .jG,_| .lptr _,_=>by simp[cG]
 | .agg cs,h=>by simp only[AV.aI] at h;simp[cG,gp cs h]
 | .dU cs,h=>by simp only[AV.aI] at h;simp[cG,gp cs h]
 | .fn f fs cs,h=>by
  simp only[AV.aI,List.mem_append] at h;simp[cG,gp fs (fun l hl=>h l (.inl hl)),gp cs (fun l hl=>h l (.inr hl))]
 | .ifc t x,h=>by simp only[AV.aI] at h;simp[cG,tv x h]
theorem gp {ρ ρ':Lb→Lb}:∀xs:List AV,(∀l∈ax xs,ρ l=ρ' l)→cn ρ xs=cn ρ' xs
 |[],_=>by simp[cn]
 |x::r,h=>by
  simp only[ax,List.mem_append] at h;simp[cn,tv x (fun l hl=>h l (.inl hl)),gp r (fun l hl=>h l (.inr hl))]
end
theorem fE {sz:Nat} {xs:List IV} {b:Bool} {q:Lb} {r:Row} (h:jv sz xs b q= .live r) :
  (q= .par 0∧r=⟨1,[[if b then .sl (.par 1) sz 0 xs.length else .nil0]]⟩)∨(b=true∧q= .par 1∧r=⟨sz,ay xs⟩):=by
 cases b with
 |false=>
  simp only[jv] at h;by_cases e:q= .par 0
  ·subst e;simp at h;exact .inl ⟨rfl,by rw[←h];rfl⟩
  ·rw[aq _ _ e] at h;simp[Hp.none] at h
 |true=>
  simp only[jv] at h;by_cases e:q= .par 0
  ·subst e;simp at h;exact .inl ⟨rfl,by rw[←h];rfl⟩
  ·rw[aq _ _ e] at h;by_cases e1:q= .par 1
   ·subst e1;simp at h;exact .inr ⟨rfl,rfl,h.symm⟩
   ·rw[aq _ _ e1] at h;simp[Hp.none] at h
open Classical in
theorem pr {S : St} {sz f : Nat} {args cO : List AV} {xs ys : List IV} {res : AV} {H : Hp} {k : AV → Hp → Prop} {u : Tw k} {l N : Lb} {o : Option Lb} (h : AE S.P S.G sz f cO xs res ys)
   (ha:args=cn (xR l) cO) (hl:CD sz l o xs H) (hN:H N= .unused) (Jv:N.fresh=true→l.fresh=true∧∀L,o=some L→L.fresh=true)
   (hk:∀L' iy,(L'=N∨o=some L')→CD sz l (some L') ys iy→(∀q,q≠l→q≠N→o≠some q→iy q=H q)→(∀q,H q≠ .unused→iy q≠ .unused)→k res iy):Bq S f args H k u:=by
 obtain⟨h1,h2,h3⟩:=h
 have Q9:o.isSome=false→xs=[]:=by
   intro ho
   cases o with
   |none=>exact hl.2
   |some L=>simp at ho
 have L4:=(h3 o.isSome Q9).L3 fun H1 q=>q= .par 0∨∃n,H1 (.par 0)= .live ⟨1,[[.sl q sz 0 n]]⟩
 let L0:Lb:=o.getD N
 let ρ:Lb→Lb:=fun q=>if q= .par 0 then l else if q= .par 1 then L0 else q
 have AF:ρ (.par 0)=l:=by simp[ρ]
 have AG:ρ (.par 1)=L0:=by simp[ρ]
 have OB:H l≠ .unused:=by cases o with
   |none=>rw[hl.1];simp
   |some L=>rw[hl.2.1];simp
 have Jw:N≠l:=by rintro rfl;exact OB hN
 have L5:L0≠l:=by cases o with
   |none=>exact Jw
   |some L=>exact hl.1
 refine .inr<| .inr ⟨⟨ρ,jv sz xs o.isSome,cO,_,L4,?_,?_,?_,?_,?_,?_,?_,?_⟩⟩
 · rw[ha]
   exact gp _ fun q hq=>by rw[h1 q hq];simp[xR,ρ]
 · intro q r hq
   rcases fE hq with⟨rfl,rfl⟩|⟨hb,rfl,rfl⟩
   · rw[AF]
     cases o with
     |none=>rw[hl.1];simp[dB,cn,cG]
     |some L=>rw[hl.2.1];simp[dB,cn,cG,ρ,L0]
   · rw[AG,de]
     cases o with
     |none=>simp at hb
     |some L=>exact hl.2.2
 · intro q hq
   cases hb:o.isSome with
   |false=>
     rw[hb] at hq
     simp only[jv] at hq
     by_cases e:q= .par 0
     · subst e;exact⟨_,by simp[jv];rfl⟩
     · rw[aq _ _ e] at hq;simp[Hp.none] at hq
   |true=>
     rw[hb] at hq
     simp only[jv] at hq
     by_cases e:q= .par 0
     · subst e;exact⟨_,by simp[jv];rfl⟩
     · rw[aq _ _ e] at hq
       by_cases e1:q= .par 1
       · subst e1;exact⟨_,by simp[jv,bG];rfl⟩
       · rw[aq _ _ e1] at hq;simp[Hp.none] at hq
 · rintro q q' ⟨r,hq⟩ ⟨r',pP⟩ he
   rcases fE hq with⟨rfl,_⟩|⟨_,rfl,_⟩<;>rcases fE pP with⟨rfl,_⟩|⟨_,rfl,_⟩
   · rfl
   · rw[AF,AG] at he;exact absurd he.symm L5
   · rw[AF,AG] at he;exact absurd he L5
   · rfl
 · intro q hq
   rw[h1 q hq]
   cases o.isSome<;>simp[jv]
 · rintro q ⟨r,hq⟩
   rcases fE hq with⟨rfl,_⟩|⟨_,rfl,_⟩<;>rfl
 · intro q r hq cs b5 z hz
   rcases fE hq with⟨rfl,rfl⟩|⟨hb,rfl,rfl⟩
   · simp only[List.mem_singleton] at b5
     subst b5
     cases hb:o.isSome with
     |false=>rw[hb] at hz;simp[ax,AV.aI] at hz
     |true=>rw[hb] at hz;simp[ax,AV.aI] at hz;subst hz;simp[jv,bG]
   · rw[dK b5] at hz;simp at hz
 · rintro x H' ⟨H1,⟨rfl,L,Q_⟩,rfl⟩
   obtain⟨Ra,hp,P4⟩:=Q_
   let L1:Lb:=if L= .par 1∧o.isSome=true then L0 else N
   have Jx:L1=N∨o=some L1:=by
     by_cases e:L= .par 1∧o.isSome=true
     · right
       simp only[L1,if_pos e,L0]
       cases o with
       |none=>simp at e
       |some Lo=>rfl
     · left;simp only[L1,if_neg e]
   have FK:L1≠l:=by
     rcases Jx with e|e
     · rw[e];exact Jw
     · intro e2
       rw[e2] at e
       cases o with
       |none=>simp at e
       |some Lo=>simp only[Option.some.injEq] at e;exact hl.1 e
   let ρ':Lb→Lb:=fun q=>if q= .par 0 then l else if q=L then L1 else q
   have zm:ρ' (.par 0)=l:=by simp[ρ']
   have rQ:ρ' L=L1:=by simp[ρ',Ra]
   let Hk:Hp:=match o with
     |some Lo=>bG H Lo .dead
     |none=>H
   have GM:∀q,o≠some q→Hk q=H q:=by
     intro q hq
     cases o with
     |none=>rfl
     |some Lo=>exact aq _ _ (fun e=>hq (by rw[e]))
   have L6:∀q,o=some q→Hk q= .dead:=by
     intro q hq
     subst hq
     simp[Hk]
   have bz:∀q r,dN (fun q=>q= .par 0∨∃n,H1 (.par 0)= .live ⟨1,[[.sl q sz 0 n]]⟩) H1 q= .live r→(q= .par 0∧r=⟨1,[[.sl L sz 0 ys.length]]⟩)∨(q=L∧r=⟨sz,ay ys⟩):=by
     intro q r hq
     obtain⟨g1,g2⟩:=dj.1 hq
     rcases g2 with rfl|⟨n,g2⟩
     · rw[hp] at g1;cases g1;exact .inl ⟨rfl,rfl⟩
     · rw[hp] at g2
       simp only[Slot.live.injEq,Row.mk.injEq,List.cons.injEq,and_true,true_and,AV.sl.injEq] at g2
       obtain⟨rfl,_⟩:=g2
       rw[P4] at g1;cases g1;exact .inr ⟨rfl,rfl⟩
   have Jy:dN (fun q=>q= .par 0∨∃n,H1 (.par 0)= .live ⟨1,[[.sl q sz 0 n]]⟩) H1 (.par 0)= .live ⟨1,[[.sl L sz 0 ys.length]]⟩:=dj.2 ⟨hp,.inl rfl⟩
   have CE:dN (fun q=>q= .par 0∨∃n,H1 (.par 0)= .live ⟨1,[[.sl q sz 0 n]]⟩) H1 L= .live ⟨sz,ay ys⟩:=dj.2 ⟨P4,.inr ⟨_,hp⟩⟩
   let iy:Hp:=bG (bG Hk l (.live ⟨1,[[.sl L1 sz 0 ys.length]]⟩)) L1 (.live ⟨sz,ay ys⟩)
   have He:iy L1= .live ⟨sz,ay ys⟩:=by simp[iy]
   have Jz:iy l= .live ⟨1,[[.sl L1 sz 0 ys.length]]⟩:=by
     show bG _ L1 _ l=_
     rw[aq _ _ (Ne.symm FK)];simp
   have OC:∀q,q≠L1→q≠l→iy q=Hk q:=by
     intro q e1 e2
     show bG _ L1 _ q=_
     rw[aq _ _ e1,aq _ _ e2]
   have nG:∀q,H q≠ .unused→iy q≠ .unused:=by
     intro q hq
     by_cases e1:q=L1
     · rw[e1,He];simp
     · by_cases e2 : q = l
       · rw[e2,Jz];simp
       · rw[OC q e1 e2]
         by_cases e3:o=some q
         · rw[L6 q e3];simp
         · rw[GM q e3];exact hq
   refine⟨ρ',iy,?_,?_,?_,nG,?_,?_,?_,?_,?_⟩
   · rintro q ⟨r,hq⟩ ⟨r',pP⟩
     rcases fE hq with⟨rfl,_⟩|⟨hb,rfl,_⟩
     · rw[AF,zm]
     · rcases bz _ _ pP with⟨e,_⟩|⟨e,_⟩
       · cases e
       · rw[AG,e,rQ]
         simp only[L1,if_pos (⟨e.symm,hb⟩:L= .par 1∧o.isSome=true)]
   · intro q r hq
     by_cases e1:q=L1
     · subst e1
       rw[He] at hq
       simp only[Slot.live.injEq] at hq
       exact .inr ⟨L,_,CE,rQ,by rw[de];exact hq.symm⟩
     · by_cases e2 : q = l
       · subst e2
         rw[Jz] at hq
         simp only[Slot.live.injEq] at hq
         refine .inr ⟨.par 0,_,Jy,zm,?_⟩
         rw[←hq]
         simp[dB,cn,cG,rQ]
       · rw[OC q e1 e2] at hq
         by_cases e3:o=some q
         · rw[L6 q e3] at hq;cases hq
         · rw[GM q e3] at hq
           refine .inl ⟨hq,?_⟩
           rintro z ⟨r',hz⟩ L7
           rcases fE hz with⟨rfl,_⟩|⟨hb,rfl,_⟩
           · rw[AF] at L7;exact e2 L7.symm
           · rw[AG] at L7
             apply e3
             cases o with
             |none=>simp at hb
             |some Lo=>simp only[L0,Option.getD_some] at L7;rw[L7]
   · rintro q q' ⟨r,hq⟩ ⟨r',pP⟩ he
     rcases bz _ _ hq with⟨rfl,_⟩|⟨rfl,_⟩<;>rcases bz _ _ pP with⟨rfl,_⟩|⟨rfl,_⟩
     · rfl
     · rw[zm,rQ] at he;exact absurd he.symm FK
     · rw[zm,rQ] at he;exact absurd he FK
     · rfl
   · intro q hq;rw[h2] at hq;simp at hq
   · intro q r hq cs b5 z hz
     rcases bz _ _ hq with⟨rfl,rfl⟩|⟨rfl,rfl⟩
     · simp only[List.mem_singleton] at b5
       subst b5
       simp only[ax,AV.aI,List.append_nil,List.mem_singleton] at hz
       subst hz
       rw[rQ,He];simp
     · rw[dK b5] at hz;simp at hz
   · rintro q ⟨r,hq⟩
     rcases bz _ _ hq with⟨rfl,_⟩|⟨rfl,_⟩
     · left
       cases o.isSome<;>exact⟨_,by simp[jv];rfl⟩
     · by_cases e : q = .par 1 ∧ o.isSome = true
       · left
         rw[e.1,e.2]
         exact⟨_,by simp[jv,bG];rfl⟩
       · right
         rw[rQ]
         simp only[L1,if_neg e]
         refine⟨hN,fun hf=> .inr ?_⟩
         obtain⟨g1,g2⟩:=Jv hf
         rintro z ⟨r',hz⟩
         rcases fE hz with⟨rfl,_⟩|⟨hb,rfl,_⟩
         · rw[AF];exact g1
         · rw[AG]
           cases o with
           |none=>simp at hb
           |some Lo=>exact g2 Lo rfl
   · rintro q (hq|⟨l1,r1,cs,g1,g2,g3⟩) _
     · rw[h2] at hq;simp at hq
     · rcases bz _ _ g1 with⟨rfl,rfl⟩|⟨rfl,rfl⟩
       · simp only[List.mem_singleton] at g2
         subst g2
         simp only[ax,AV.aI,List.append_nil,List.mem_singleton] at g3
         subst g3
         exact⟨_,CE⟩
       · rw[dK g2] at g3;simp at g3
   · rw[mC _ _ h2]
     refine hk L1 iy Jx ⟨FK,Jz,He⟩ ?_ nG
     intro q e1 e2 e3
     have:q≠L1:=by
       rintro rfl
       rcases Jx with e|e
       · exact e2 e
       · exact e3 e
     rw[OC q this e1,GM q e3]
end Go.Am

/- A tree is put behind a document's nodes. -/
namespace Go.Am
open Go Go.RowKit
def m9 (ah dF:Nat):AC:=
(.seq (.aM [⟨some 4,none,.box (.t 1)⟩,⟨some 6,none,.ak (.c (.int .i64 0))⟩]) (.seq (.aM [⟨some 11,none,.ak (.t 0)⟩,⟨some 12,none,.ef (.t 11)⟩,⟨some 13,none,.bV (.t 12) 0⟩,⟨some 14,none,.load none (.t 13)⟩,⟨some 15,none,.len (.t 14)⟩,⟨some 7,none,.ak (.t 15)⟩]) (.seq (.eY [⟨some 16,none,.ak (.t 0)⟩,⟨some 17,none,.ak (.t 0)⟩,⟨some 18,none,.ef (.t 17)⟩,⟨some 19,none,.bV (.t 18) 0⟩,⟨some 20,none,.load none (.t 19)⟩,⟨some 21,none,.bV (.t 4) 0⟩,⟨some 22,none,.load none (.t 21)⟩,⟨some 23,none,.bV (.t 4) 1⟩,⟨some 24,none,.load none (.t 23)⟩,⟨some 25,none,.bV (.t 4) 2⟩,⟨some 26,none,.load none (.t 25)⟩,⟨some 27,none,.call ah [(.t 26)]⟩,⟨some 28,none,.ak (.t 2)⟩,⟨some 29,none,.o7 [(.bool false),(.str []),.nil0,(.int .i64 0),.nil0] [(0,(1,(.t 22))),(1,(1,(.t 24))),(2,(1,(.t 27))),(3,(1,(.t 28)))]⟩,⟨some 30,none,.lits 1 5 [(.bool false),(.str []),.nil0,(.int .i64 0),.nil0] [(0,(.t 29))]⟩,⟨some 31,none,.app (.t 20) (.t 30) 5 80⟩,⟨some 32,none,.ef (.t 16)⟩,⟨some 33,none,.bV (.t 32) 0⟩,⟨none,none,.store 1 (.t 33) (.t 31)⟩] [[],[],[1],[2],[3],[],[5],[],[7],[],[9],[10],[],[6,8,11,12],[13],[4,14,11],[0,0,1,2,3,4,5,6,7,8,9,10,11,12,13,14,15],[16,0,1,2,3,4,5,6,7,8,9,10,11,12,13,14,15],[17,15,15,0,1,2,3,4,5,6,7,8,9,10,11,12,13,14,15]] [.no,.no,.no,.no,(.rw [.par 0] []),.no,.rw [.loc 4] [],.no,.rw [.loc 4] [],.no,.rw [.loc 4] [],.no,.no,.no,.no,(.rw [] [.par 1,.gen 31,.loc 31]),.no,.no,(.rw [] [.par 0])]) (.seq (.aM [⟨some 8,none,.ak (.c .nil0)⟩]) (.gh (.own 8 1) (.seq (.seq (.aM [⟨some 34,none,.bV (.t 4) 3⟩,⟨some 35,none,.load none (.t 34)⟩,⟨some 36,none,.len (.t 35)⟩,⟨some 37,none,.ak (.c (.int .i64 0))⟩]) (.block 0 (.loop (.seq (.aM [⟨some 38,none,.bin .lss (.t 37) (.t 36)⟩]) (.seq (.cond (.t 38) .skip (.exit 0)) (.seq (.block 1 (.seq (.aM [⟨some 39,none,.fJ (.t 35) (.t 37) 4⟩,⟨some 40,none,.load (some 4) (.t 39)⟩,⟨some 10,none,.new [(.bool false),(.str []),.nil0,.nil0]⟩,⟨none,none,.store 4 (.t 10) (.t 40)⟩]) (.aM [⟨some 41,none,.ak (.t 8)⟩,⟨some 42,none,.ak (.t 0)⟩,⟨some 43,none,.load (some 4) (.t 10)⟩,⟨some 44,none,.ak (.t 7)⟩,⟨some 45,none,.call dF [(.t 42),(.t 43),(.t 44)]⟩,⟨some 46,none,.lits 1 1 [(.int .i64 0)] [(0,(.t 45))]⟩,⟨some 47,none,.app (.t 41) (.t 46) 1 8⟩,⟨some 8,none,.ak (.t 47)⟩]))) (.aM [⟨some 48,none,.bin .add (.t 37) (.c (.int .i64 1))⟩,⟨some 37,none,.ak (.t 48)⟩]))))))) (.gh (.Ez (.loc 8) 8) (.seq (.aM [⟨some 49,none,.ak (.t 0)⟩,⟨some 50,none,.ef (.t 49)⟩,⟨some 51,none,.bV (.t 50) 0⟩,⟨some 52,none,.load none (.t 51)⟩,⟨some 53,none,.ak (.t 7)⟩,⟨some 54,none,.ak (.t 8)⟩,⟨some 55,none,.fJ (.t 52) (.t 53) 5⟩,⟨some 56,none,.bV (.t 55) 4⟩,⟨none,none,.store 1 (.t 56) (.t 54)⟩]) (.seq (.aM [⟨some 57,none,.ak (.t 7)⟩,⟨some 6,none,.ak (.t 57)⟩]) .ret)))))))))
def Tree.zn (x:Tree) (p:Int):Node:=⟨x.text,x.s,x.attrs,p,[]⟩
def ga (d:Doc) (x:Tree) (p:Int) (i:Nat):Doc:=d++[x.zn p]++cR (d.length+1) d.length (x.kids.take i)
theorem kf (d:Doc) (x:Tree) (p:Int) (i:Nat):(ga d x p i).length=d.length+1+bC (x.kids.take i):=by simp[ga,ik];omega
theorem tw {d:Doc} {x:Tree} {p:Int} {i:Nat} {k:Tree} (h:x.kids[i]?=some k):ga d x p (i+1)=ga d x p i++k.flat (ga d x p i).length d.length:=by
 rw[kf];unfold ga;rw[List.take_add_one,h,jY];simp[cR]
structure AH (x:Tree) where
 i:Nat
 L:Lb
 u:Lb→Bool
 hi:i≤x.kids.length
 l0:L≠ .par 0
 l8:L≠ .loc 8
 Hf:L≠ .loc 10
 Hg:L≠ .loc 47
 lg:∀j,i≤j→L≠ .gen (1000+j)
 Hh:u (.loc 10)=false
 Hi:u (.loc 47)=false
 ug:∀j,i≤j→u (.gen (1000+j))=false
def jw {x:Tree} (q:AH x):List Lb:=[.par 0,q.L,.loc 8]
def kI (d:Doc) {x:Tree} (q:AH x):List (Nat×AV):=
 [(0,.ptr (.par 0) 1 0 0),(7,.int .i64 d.length),(8,.sl (.loc 8) 1 0 (aS (d.length+1) (x.kids.take q.i)).length),(35,.list (dc x.kids)),(36,.int .i64 x.kids.length),(37,.int .i64 q.i)]
def dO (d:Doc) (p:Int) {x:Tree} (q:AH x):List (Lb×Row):=
 [(.par 0,⟨1,[[.sl q.L 5 0 (ga d x p q.i).length]]⟩),(q.L,⟨5,ay ((ga d x p q.i).map Node.iv)⟩),(.loc 8,⟨1,ay ((aS (d.length+1) (x.kids.take q.i)).map a6)⟩)]
theorem tx {x:Tree} (d:Doc) (p:Int) (q:AH x):∀r∈dO d p q,∀cs∈r.2.els,∀l∈ax cs,l∈jw q:=by
 intro r hr cs b5 l hl;simp only[dO,List.mem_cons,List.not_mem_nil,or_false] at hr;rcases hr with rfl|rfl|rfl
 ·simp only[List.mem_singleton] at b5;subst b5;simp only[ax,AV.aI,List.append_nil,List.mem_singleton] at hl;subst hl;simp[jw]
 ·rw[dK b5] at hl;simp at hl
 ·rw[dK b5] at hl;simp at hl
theorem OD {P : Program} {G : Nat → Option (List IV)} {dF ah : Nat} (hF : aA P G dF = some (58,[(none,6)],(m9 ah dF).bare)) (x : Tree) (d : Doc) (p : Int) (hx : d.length + x.wt ≤ B)
   (hC:az P G ah [.list (dY x.attrs)] (.list (dY x.attrs)))
   (hK:∀k∈x.kids,∀(d':Doc),d'.length+k.wt≤d.length+x.wt→AE P G 5 dF [.ptr (.par 0) 1 0 0,k.av,.int .i64 d.length] (d'.map Node.iv) (.int .i64 d'.length) ((d'++k.flat d'.length d.length).map Node.iv)) :
   AE P G 5 dF [.ptr (.par 0) 1 0 0,x.av,.int .i64 p] (d.map Node.iv) (.int .i64 d.length) ((d++x.flat d.length p).map Node.iv):=by
 refine⟨by simp[ax,AV.aI,Tree.av],rfl,fun b hb=> ?_⟩
 refine hQ hF (by simp) ?_ ?_ ?_
 · rintro l ⟨r,h⟩
   rcases fE h with⟨rfl,_⟩|⟨_,rfl,_⟩<;>rfl
 · intro l hl
   simp[ax,AV.aI,Tree.av] at hl
   subst hl
   cases b<;>simp[jv]
 have Rb:d.length≤B:=by omega
 have OE:=x.iB
 have yU:=fu x.kids
 unfold m9
 have pY:(x.zn p).iv= .agg [.bool x.text,.str x.s,.list (dY x.attrs),.int .i64 p,.list []]:=rfl
 cases b with
 |true=>
   simp only[↓aX,mX,reduceCtorEq,Nat.reduceEqDiff,Nat.reduceLT,Nat.reduceLeDiff,Nat.reduceAdd,Nat.reduceMul,Int.reduceToNat,Int.reduceLE,Int.reduceLT,jv,Tree.av,List.length_map]
   refine⟨rfl,kb hC ?_⟩
   simp only[↓aX,mX,reduceCtorEq,Nat.reduceEqDiff,Nat.reduceLT,Nat.reduceLeDiff,Nat.reduceAdd,Nat.reduceMul,Int.reduceToNat,Int.reduceLE,Int.reduceLT]
   rw[FJ 5 80 31 (.par 1) (d.map Node.iv) (.agg [.bool x.text,.str x.s,.list (dY x.attrs),.int .i64 p,.list []]) rfl (by simp[ai]) (by simp) rfl (by simp[IV.cells]) (by unfold B at Rb;omega) (by decide) (by simp) (by simp[ai,Hp.none])]
   simp only[↓aX,mX,reduceCtorEq,Nat.reduceEqDiff,Nat.reduceLT,Nat.reduceLeDiff,Nat.reduceAdd,Nat.reduceMul,Int.reduceToNat,Int.reduceLE,Int.reduceLT,bb]
   refine⟨by rintro l (rfl|rfl)<;>simp[Lb.iJ],?_⟩
   refine lv (σ:=AH x) jw (fun q=>q.u) (kI d) (dO d p) (fun q=>x.kids.length - q.i)
     {i:=0,L:= .gen 31,u:=fun q=>decide (q= .par 1),hi:=Nat.zero_le _,l0:=by simp,l8:=by simp,Hf:=by simp,Hg:=by simp,lg:=fun j _=>by simp;omega,Hh:=by simp,Hi:=by simp,ug:=fun j _=>by simp}
     (fun _=>rfl) (fun q=>by simp[ax,AV.aI,kI,jw]) (tx d p) ⟨[],?_⟩ ?_
   · refine ⟨?_,?_,?_,by simp [jw,dS],fun l _ => ⟨id,fun _ => rfl⟩⟩
     · intro l hf hu
       by_cases e0:l= .par 0
       · subst e0;simp[jw]
       · by_cases e1 : l = .gen 31
         · subst e1;simp[jw]
         · by_cases e2 : l = .par 1
           · subst e2;simp
           · exfalso;apply hu
             cases l<;>simp_all[Lb.fresh,ai,Hp.none]
     · simp[kI,nt,dS,cG,aS,put,b7]
     · simp[dO,zb,dS,ai,dB,cn,cG,ga,cR,aS,ay,Node.iv,Node.cs,Tree.zn,IV.cells,IV.cW,ll]
   · intro q
     have a0:fM q.u (dO d p q) (.par 0)= .live ⟨1,[[.sl q.L 5 0 (ga d x p q.i).length]]⟩:=by simp[fM,dO,jD,bG]
     have aL:fM q.u (dO d p q) q.L= .live ⟨5,ay ((ga d x p q.i).map Node.iv)⟩:=by simp[fM,dO,jD,bG,q.l0]
     have a8:fM q.u (dO d p q) (.loc 8)= .live ⟨1,ay ((aS (d.length+1) (x.kids.take q.i)).map a6)⟩:=by simp[fM,dO,jD,bG,Ne.symm q.l8]
     have JA:fM q.u (dO d p q) (.loc 10)= .unused:=by simp[fM,dO,jD,bG,Ne.symm q.Hf,q.Hh,Hp.none]
     have L8:fM q.u (dO d p q) (.loc 47)= .unused:=by simp[fM,dO,jD,bG,Ne.symm q.Hg,q.Hi,Hp.none]
     have ag:fM q.u (dO d p q) (.gen (1000+q.i))= .unused:=by simp[fM,dO,jD,bG,Ne.symm (q.lg q.i (Nat.le_refl _)),q.ug q.i (Nat.le_refl _),Hp.none]
     have JB:∀l:Lb,l.fresh=false→fM q.u (dO d p q) l≠ .unused→l= .par 0∨l=q.L∨q.u l=true:=by
       intro l hf hu
       by_cases e0:l= .par 0
       · exact .inl e0
       · by_cases e1 : l = q.L
         · exact .inr (.inl e1)
         · by_cases e2 : q.u l = true
           · exact .inr (.inr e2)
           · exfalso;apply hu
             have e3:l≠ .loc 8:=by rintro rfl;simp[Lb.fresh] at hf
             simp[fM,dO,jD,bG,e0,e1,e2,e3,Hp.none]
     have nr:ax ((kI d q).map Prod.snd)=[.par 0,.loc 8]:=by simp[ax,AV.aI,kI]
     generalize fM q.u (dO d p q)=H0 at *
     have x9:=q.Hf
     have JC:=q.l8
     have x_:=q.Hg
     have hi:=q.hi
     have sx:(aS (d.length+1) (x.kids.take q.i)).length=q.i:=by rw[ep,List.length_take];omega
     have OF:=jP (x.kids.take q.i)
     have P5:=gn x.kids q.i
     simp only[↓aX,mX,reduceCtorEq,Nat.reduceEqDiff,Nat.reduceLT,Nat.reduceLeDiff,Nat.reduceAdd,Nat.reduceMul,Int.reduceToNat,Int.reduceLE,Int.reduceLT,kI]
     refine nu (fun h=> ?_) (fun h=> ?_)
     · have cj:q.i<x.kids.length:=by simpa using h
       obtain⟨k,nE⟩:∃k,x.kids[q.i]?=some k:=⟨_,List.getElem?_eq_getElem cj⟩
       have hw:IntKind.i64.wrap ((q.i:Int)+1)=((q.i+1:Nat):Int):=wrap64 (by omega) (by unfold B at hx;omega)
       have o4:x.kids.take (q.i+1)=x.kids.take q.i++[k]:=eo nE
       have FL:di (x.kids.take q.i)+k.wt≤di x.kids:=by
         have:=gn x.kids (q.i+1)
         rw[o4,fW] at this
         simp only[di] at this;omega
       simp only[↓aX,mX,reduceCtorEq,Nat.reduceEqDiff,Nat.reduceLT,Nat.reduceLeDiff,Nat.reduceAdd,Nat.reduceMul,Int.reduceToNat,Int.reduceLE,Int.reduceLT,gC,nE,l9,Tree.bL,Tree.cs,JA]
       refine pr (l:= .par 0) (N:= .gen (1000+q.i)) (o:=some q.L) (hK k (List.mem_of_getElem? nE) (ga d x p q.i) (by rw[kf];omega)) rfl ⟨q.l0,by simp only[↓aX,mX,reduceCtorEq,Nat.reduceEqDiff,Nat.reduceLT,Nat.reduceLeDiff,Nat.reduceAdd,Nat.reduceMul,Int.reduceToNat,Int.reduceLE,Int.reduceLT,a0,List.length_map],by simp only[↓aX,mX,reduceCtorEq,Nat.reduceEqDiff,Nat.reduceLT,Nat.reduceLeDiff,Nat.reduceAdd,Nat.reduceMul,Int.reduceToNat,Int.reduceLE,Int.reduceLT,aL,if_neg x9]⟩ (by simp only[↓aX,mX,reduceCtorEq,Nat.reduceEqDiff,Nat.reduceLT,Nat.reduceLeDiff,Nat.reduceAdd,Nat.reduceMul,Int.reduceToNat,Int.reduceLE,Int.reduceLT,ag]) (by intro h;simp[Lb.fresh] at h) ?_
       rintro L' iy AI ⟨b1,b2,b3⟩ dM nG
       have c8:iy (.loc 8)= .live ⟨1,ay ((aS (d.length+1) (x.kids.take q.i)).map a6)⟩:=by
         rw[dM _ (by simp) (by simp) (by simpa using JC)];simp only[↓aX,mX,reduceCtorEq,Nat.reduceEqDiff,Nat.reduceLT,Nat.reduceLeDiff,Nat.reduceAdd,Nat.reduceMul,Int.reduceToNat,Int.reduceLE,Int.reduceLT,a8]
       have OG:iy (.loc 47)= .unused:=by
         rw[dM _ (by simp) (by simp) (by simpa using x_)];simp only[↓aX,mX,reduceCtorEq,Nat.reduceEqDiff,Nat.reduceLT,Nat.reduceLeDiff,Nat.reduceAdd,Nat.reduceMul,Int.reduceToNat,Int.reduceLE,Int.reduceLT,L8]
       simp only[↓aX,mX,reduceCtorEq,Nat.reduceEqDiff,Nat.reduceLT,Nat.reduceLeDiff,Nat.reduceAdd,Nat.reduceMul,Int.reduceToNat,Int.reduceLE,Int.reduceLT]
       rw[jO 1 8 47 8 ((aS (d.length+1) (x.kids.take q.i)).map a6) (.int .i64 (ga d x p q.i).length) c8 (by rw[List.length_map]) rfl (by simp[IV.cells]) (by rw[sx];unfold B at hx;omega) (by decide) (by decide) OG]
       simp only[↓aX,mX,reduceCtorEq,Nat.reduceEqDiff,Nat.reduceLT,Nat.reduceLeDiff,Nat.reduceAdd,Nat.reduceMul,Int.reduceToNat,Int.reduceLE,Int.reduceLT,hw]
       have CF:L'≠ .loc 8:=by rcases AI with rfl|e;simp;simp only[Option.some.injEq] at e;rw[←e];exact JC
       have JD:L'≠ .loc 10:=by rcases AI with rfl|e;simp;simp only[Option.some.injEq] at e;rw[←e];exact x9
       have ya:L'≠ .loc 47:=by rcases AI with rfl|e;simp;simp only[Option.some.injEq] at e;rw[←e];exact x_
       refine⟨{i:=q.i+1,L:=L',u:=fun l=>q.u l||(decide (l=q.L)||decide (l= .gen (1000+q.i))),hi:=cj,l0:=b1,l8:=CF,Hf:=JD,Hg:=ya,lg:= ?_,Hh:= ?_,Hi:= ?_,ug:= ?_},by simp only;omega,[(.loc 8,.loc 47)],?_⟩
       · intro j hj
         rcases AI with rfl|e
         · simp;omega
         · simp only[Option.some.injEq] at e;rw[←e];exact q.lg j (by omega)
       · simp[q.Hh,Ne.symm x9]
       · simp[q.Hi,Ne.symm x_]
       · intro j hj
         have:=Ne.symm (q.lg j (by omega))
         simp[q.ug j (by omega),this];omega
       have hP:=tw (d:=d) (p:=p) nE
       have yb:aS (d.length+1) (x.kids.take (q.i+1))=aS (d.length+1) (x.kids.take q.i)++[((ga d x p q.i).length:Int)]:=by
         rw[o4,hZ,kf];simp[aS]
       refine⟨?_,?_,?_,?_,?_⟩
       · intro l hf hu
         by_cases e0:l= .par 0
         · subst e0;simp[jw]
         · by_cases e1 : l = q.L
           · right;simp[e1]
           · by_cases e2 : l = .gen (1000 + q.i)
             · right;simp[e2]
             · have e3:l≠ .loc 47:=by rintro rfl;simp[Lb.fresh] at hf
               have e4:l≠ .loc 8:=by rintro rfl;simp[Lb.fresh] at hf
               have e5:l≠ .loc 10:=by rintro rfl;simp[Lb.fresh] at hf
               rw[aq _ _ e3,aq _ _ e4,dM l e0 e2 (by simpa using Ne.symm e1),aq _ _ e5,aq _ _ e5] at hu
               rcases JB l hf hu with h|h|h
               · exact absurd h e0
               · exact absurd h e1
               · right;simp[h]
       · simp[kI,nt,dS,cG,put,sx,o4,hZ,aS]
       · have r0:dS [(.loc 8,.loc 47)] (.par 0)= .par 0:=rfl
         have rL:dS [(.loc 8,.loc 47)] L'=L':=by simp[dS,CF]
         have r8:dS [(.loc 8,.loc 47)] (.loc 8)= .loc 47:=rfl
         refine⟨?_,?_,?_,trivial⟩
         · show bG (bG iy (.loc 8) .dead) (.loc 47) _ (.par 0)= .live (dB (dS [(.loc 8,.loc 47)]) ⟨1,[[.sl L' 5 0 (ga d x p (q.i+1)).length]]⟩)
           rw[aq _ _ (by simp),aq _ _ (by simp),b2,hP]
           simp[dB,cn,cG,rL]
         · show bG (bG iy (.loc 8) .dead) (.loc 47) _ (dS [(.loc 8,.loc 47)] L')= .live (dB (dS [(.loc 8,.loc 47)]) ⟨5,ay ((ga d x p (q.i+1)).map Node.iv)⟩)
           rw[rL,aq _ _ ya,aq _ _ CF,b3,de,hP]
         · show bG (bG iy (.loc 8) .dead) (.loc 47) _ (.loc 47)= .live (dB (dS [(.loc 8,.loc 47)]) ⟨1,ay ((aS (d.length+1) (x.kids.take (q.i+1))).map a6)⟩)
           rw[de,yb,List.map_append]
           simp only[↓aX,mX,reduceCtorEq,Nat.reduceEqDiff,Nat.reduceLT,Nat.reduceLeDiff,Nat.reduceAdd,Nat.reduceMul,Int.reduceToNat,Int.reduceLE,Int.reduceLT]
           rfl
       · simp[jw,dS,CF,Ne.symm b1,ya]
       · intro l hl
         simp only[jw,List.mem_cons,List.not_mem_nil,or_false] at hl
         rcases hl with rfl|rfl|rfl
         · exact⟨id,fun _=>rfl⟩
         · have rL:dS [(.loc 8,.loc 47)] l=l:=by simp[dS,CF]
           rw[rL];exact⟨id,fun _=>rfl⟩
         · exact⟨fun _=>rfl,fun h=>by simp[Lb.fresh] at h⟩
     · have qT:q.i=x.kids.length:=by simp at h;omega
       have Ab:x.kids.take q.i=x.kids:=by rw[qT,List.take_length]
       rw[Ab] at a8
       have xk:=kf d x p q.i
       have cj:d.length<(ga d x p q.i).length:=by omega
       have cM:(ay ((ga d x p q.i).map Node.iv))[d.length]?=some [.bool x.text,.str x.s,.list (dY x.attrs),.int .i64 p,.list []]:=by
         rw[rj,List.getElem?_map,ga,List.append_assoc,List.getElem?_append_right (Nat.le_refl _),Nat.sub_self]
         rfl
       simp only[↓aX,mX,reduceCtorEq,Nat.reduceEqDiff,Nat.reduceLT,Nat.reduceLeDiff,Nat.reduceAdd,Nat.reduceMul,Int.reduceToNat,Int.reduceLE,Int.reduceLT,h,Ab]
       refine⟨1,(aS (d.length+1) x.kids).map a6,0,_,rfl,a8,by simp,mb _,?_⟩
       simp only[↓aX,mX,reduceCtorEq,Nat.reduceEqDiff,Nat.reduceLT,Nat.reduceLeDiff,Nat.reduceAdd,Nat.reduceMul,Int.reduceToNat,Int.reduceLE,Int.reduceLT,a0,aL,cj,JC,cM,cB,List.length_map]
       have uU:(ay ((ga d x p q.i).map Node.iv)).set d.length ((x.node d.length p).iv.cells.map IV.cW)=ay ((d++x.flat d.length p).map Node.iv):=by
         rw[x.kG,rk,ga,Ab]
         congr 1
         simp[List.set_append]
       have mc:(d++x.flat d.length p).length=(ga d x p q.i).length:=by
         rw[List.length_append,x.dJ,xk,Ab,x.gm];omega
       refine⟨q.L,q.l0,?_,?_⟩
       · rw[aq _ _ (Ne.symm q.l0),aq _ _ (by simp),a0,List.length_map,mc]
       · rw[←uU]
         have:(List.take (aS (d.length+1) x.kids).length ((aS (d.length+1) x.kids).map a6))=(aS (d.length+1) x.kids).map a6:=List.take_of_length_le (by simp)
         rw[this]
         simp only[↓aX,mX,reduceCtorEq,Nat.reduceEqDiff,Nat.reduceLT,Nat.reduceLeDiff,Nat.reduceAdd,Nat.reduceMul,Int.reduceToNat,Int.reduceLE,Int.reduceLT]
         rfl
 |false=>
   have hd:d=[]:=by simpa using hb rfl
   have L9:d.length=0:=by rw[hd];rfl
   simp only[↓aX,mX,reduceCtorEq,Nat.reduceEqDiff,Nat.reduceLT,Nat.reduceLeDiff,Nat.reduceAdd,Nat.reduceMul,Int.reduceToNat,Int.reduceLE,Int.reduceLT,jv,Tree.av]
   refine⟨rfl,kb hC ?_⟩
   simp only[↓aX,mX,reduceCtorEq,Nat.reduceEqDiff,Nat.reduceLT,Nat.reduceLeDiff,Nat.reduceAdd,Nat.reduceMul,Int.reduceToNat,Int.reduceLE,Int.reduceLT]
   rw[oH 5 80 31 [.agg [.bool x.text,.str x.s,.list (dY x.attrs),.int .i64 p,.list []]] (by simp[iw,IV.cells]) (by simp[Flat,IV.cells]) (by simp) (by decide) (by simp[ai,Hp.none])]
   simp only[↓aX,mX,reduceCtorEq,Nat.reduceEqDiff,Nat.reduceLT,Nat.reduceLeDiff,Nat.reduceAdd,Nat.reduceMul,Int.reduceToNat,Int.reduceLE,Int.reduceLT,bb]
   refine⟨by simp,?_⟩
   refine lv (σ:=AH x) jw (fun q=>q.u) (kI d) (dO d p) (fun q=>x.kids.length - q.i)
     {i:=0,L:= .loc 31,u:=fun q=>false,hi:=Nat.zero_le _,l0:=by simp,l8:=by simp,Hf:=by simp,Hg:=by simp,lg:=fun j _=>by simp,Hh:=rfl,Hi:=rfl,ug:=fun j _=>rfl}
     (fun _=>rfl) (fun q=>by simp[ax,AV.aI,kI,jw]) (tx d p) ⟨[],?_⟩ ?_
   · refine⟨?_,?_,?_,by simp[jw,dS],fun l _=>⟨id,fun _=>rfl⟩⟩
     · intro l hf hu
       by_cases e0:l= .par 0
       · subst e0;simp[jw]
       · exfalso;apply hu
         cases l<;>simp_all[Lb.fresh,ai,Hp.none]
     · simp[kI,nt,dS,cG,aS,put,b7,hd]
     · simp[dO,zb,dS,ai,dB,cn,cG,ga,cR,aS,ay,Node.iv,Node.cs,Tree.zn,IV.cells,IV.cW,ll,hd]
   · intro q
     have a0:fM q.u (dO d p q) (.par 0)= .live ⟨1,[[.sl q.L 5 0 (ga d x p q.i).length]]⟩:=by simp[fM,dO,jD,bG]
     have aL:fM q.u (dO d p q) q.L= .live ⟨5,ay ((ga d x p q.i).map Node.iv)⟩:=by simp[fM,dO,jD,bG,q.l0]
     have a8:fM q.u (dO d p q) (.loc 8)= .live ⟨1,ay ((aS (d.length+1) (x.kids.take q.i)).map a6)⟩:=by simp[fM,dO,jD,bG,Ne.symm q.l8]
     have JA:fM q.u (dO d p q) (.loc 10)= .unused:=by simp[fM,dO,jD,bG,Ne.symm q.Hf,q.Hh,Hp.none]
     have L8:fM q.u (dO d p q) (.loc 47)= .unused:=by simp[fM,dO,jD,bG,Ne.symm q.Hg,q.Hi,Hp.none]
     have ag:fM q.u (dO d p q) (.gen (1000+q.i))= .unused:=by simp[fM,dO,jD,bG,Ne.symm (q.lg q.i (Nat.le_refl _)),q.ug q.i (Nat.le_refl _),Hp.none]
     have JB:∀l:Lb,l.fresh=false→fM q.u (dO d p q) l≠ .unused→l= .par 0∨l=q.L∨q.u l=true:=by
       intro l hf hu
       by_cases e0:l= .par 0
       · exact .inl e0
       · by_cases e1 : l = q.L
         · exact .inr (.inl e1)
         · by_cases e2 : q.u l = true
           · exact .inr (.inr e2)
           · exfalso;apply hu
             have e3:l≠ .loc 8:=by rintro rfl;simp[Lb.fresh] at hf
             simp[fM,dO,jD,bG,e0,e1,e2,e3,Hp.none]
     have nr:ax ((kI d q).map Prod.snd)=[.par 0,.loc 8]:=by simp[ax,AV.aI,kI]
     generalize fM q.u (dO d p q)=H0 at *
     have x9:=q.Hf
     have JC:=q.l8
     have x_:=q.Hg
     have hi:=q.hi
     have sx:(aS (d.length+1) (x.kids.take q.i)).length=q.i:=by rw[ep,List.length_take];omega
     have OF:=jP (x.kids.take q.i)
     have P5:=gn x.kids q.i
     simp only[↓aX,mX,reduceCtorEq,Nat.reduceEqDiff,Nat.reduceLT,Nat.reduceLeDiff,Nat.reduceAdd,Nat.reduceMul,Int.reduceToNat,Int.reduceLE,Int.reduceLT,kI]
     refine nu (fun h=> ?_) (fun h=> ?_)
     · have cj:q.i<x.kids.length:=by simpa using h
       obtain⟨k,nE⟩:∃k,x.kids[q.i]?=some k:=⟨_,List.getElem?_eq_getElem cj⟩
       have hw:IntKind.i64.wrap ((q.i:Int)+1)=((q.i+1:Nat):Int):=wrap64 (by omega) (by unfold B at hx;omega)
       have o4:x.kids.take (q.i+1)=x.kids.take q.i++[k]:=eo nE
       have FL:di (x.kids.take q.i)+k.wt≤di x.kids:=by
         have:=gn x.kids (q.i+1)
         rw[o4,fW] at this
         simp only[di] at this;omega
       simp only[↓aX,mX,reduceCtorEq,Nat.reduceEqDiff,Nat.reduceLT,Nat.reduceLeDiff,Nat.reduceAdd,Nat.reduceMul,Int.reduceToNat,Int.reduceLE,Int.reduceLT,gC,nE,l9,Tree.bL,Tree.cs,JA]
       refine pr (l:= .par 0) (N:= .gen (1000+q.i)) (o:=some q.L) (hK k (List.mem_of_getElem? nE) (ga d x p q.i) (by rw[kf];omega)) rfl ⟨q.l0,by simp only[↓aX,mX,reduceCtorEq,Nat.reduceEqDiff,Nat.reduceLT,Nat.reduceLeDiff,Nat.reduceAdd,Nat.reduceMul,Int.reduceToNat,Int.reduceLE,Int.reduceLT,a0,List.length_map],by simp only[↓aX,mX,reduceCtorEq,Nat.reduceEqDiff,Nat.reduceLT,Nat.reduceLeDiff,Nat.reduceAdd,Nat.reduceMul,Int.reduceToNat,Int.reduceLE,Int.reduceLT,aL,if_neg x9]⟩ (by simp only[↓aX,mX,reduceCtorEq,Nat.reduceEqDiff,Nat.reduceLT,Nat.reduceLeDiff,Nat.reduceAdd,Nat.reduceMul,Int.reduceToNat,Int.reduceLE,Int.reduceLT,ag]) (by intro h;simp[Lb.fresh] at h) ?_
       rintro L' iy AI ⟨b1,b2,b3⟩ dM nG
       have c8:iy (.loc 8)= .live ⟨1,ay ((aS (d.length+1) (x.kids.take q.i)).map a6)⟩:=by
         rw[dM _ (by simp) (by simp) (by simpa using JC)];simp only[↓aX,mX,reduceCtorEq,Nat.reduceEqDiff,Nat.reduceLT,Nat.reduceLeDiff,Nat.reduceAdd,Nat.reduceMul,Int.reduceToNat,Int.reduceLE,Int.reduceLT,a8]
       have OG:iy (.loc 47)= .unused:=by
         rw[dM _ (by simp) (by simp) (by simpa using x_)];simp only[↓aX,mX,reduceCtorEq,Nat.reduceEqDiff,Nat.reduceLT,Nat.reduceLeDiff,Nat.reduceAdd,Nat.reduceMul,Int.reduceToNat,Int.reduceLE,Int.reduceLT,L8]
       simp only[↓aX,mX,reduceCtorEq,Nat.reduceEqDiff,Nat.reduceLT,Nat.reduceLeDiff,Nat.reduceAdd,Nat.reduceMul,Int.reduceToNat,Int.reduceLE,Int.reduceLT]
       rw[jO 1 8 47 8 ((aS (d.length+1) (x.kids.take q.i)).map a6) (.int .i64 (ga d x p q.i).length) c8 (by rw[List.length_map]) rfl (by simp[IV.cells]) (by rw[sx];unfold B at hx;omega) (by decide) (by decide) OG]
       simp only[↓aX,mX,reduceCtorEq,Nat.reduceEqDiff,Nat.reduceLT,Nat.reduceLeDiff,Nat.reduceAdd,Nat.reduceMul,Int.reduceToNat,Int.reduceLE,Int.reduceLT,hw]
       have CF:L'≠ .loc 8:=by rcases AI with rfl|e;simp;simp only[Option.some.injEq] at e;rw[←e];exact JC
       have JD:L'≠ .loc 10:=by rcases AI with rfl|e;simp;simp only[Option.some.injEq] at e;rw[←e];exact x9
       have ya:L'≠ .loc 47:=by rcases AI with rfl|e;simp;simp only[Option.some.injEq] at e;rw[←e];exact x_
       refine⟨{i:=q.i+1,L:=L',u:=fun l=>q.u l||(decide (l=q.L)||decide (l= .gen (1000+q.i))),hi:=cj,l0:=b1,l8:=CF,Hf:=JD,Hg:=ya,lg:= ?_,Hh:= ?_,Hi:= ?_,ug:= ?_},by simp only;omega,[(.loc 8,.loc 47)],?_⟩
       · intro j hj
         rcases AI with rfl|e
         · simp;omega
         · simp only[Option.some.injEq] at e;rw[←e];exact q.lg j (by omega)
       · simp[q.Hh,Ne.symm x9]
       · simp[q.Hi,Ne.symm x_]
       · intro j hj
         have:=Ne.symm (q.lg j (by omega))
         simp[q.ug j (by omega),this];omega
       have hP:=tw (d:=d) (p:=p) nE
       have yb:aS (d.length+1) (x.kids.take (q.i+1))=aS (d.length+1) (x.kids.take q.i)++[((ga d x p q.i).length:Int)]:=by
         rw[o4,hZ,kf];simp[aS]
       refine⟨?_,?_,?_,?_,?_⟩
       · intro l hf hu
         by_cases e0:l= .par 0
         · subst e0;simp[jw]
         · by_cases e1 : l = q.L
           · right;simp[e1]
           · by_cases e2 : l = .gen (1000 + q.i)
             · right;simp[e2]
             · have e3:l≠ .loc 47:=by rintro rfl;simp[Lb.fresh] at hf
               have e4:l≠ .loc 8:=by rintro rfl;simp[Lb.fresh] at hf
               have e5:l≠ .loc 10:=by rintro rfl;simp[Lb.fresh] at hf
               rw[aq _ _ e3,aq _ _ e4,dM l e0 e2 (by simpa using Ne.symm e1),aq _ _ e5,aq _ _ e5] at hu
               rcases JB l hf hu with h|h|h
               · exact absurd h e0
               · exact absurd h e1
               · right;simp[h]
       · simp[kI,nt,dS,cG,put,sx,o4,hZ,aS]
       · have r0:dS [(.loc 8,.loc 47)] (.par 0)= .par 0:=rfl
         have rL:dS [(.loc 8,.loc 47)] L'=L':=by simp[dS,CF]
         have r8:dS [(.loc 8,.loc 47)] (.loc 8)= .loc 47:=rfl
         refine⟨?_,?_,?_,trivial⟩
         · show bG (bG iy (.loc 8) .dead) (.loc 47) _ (.par 0)= .live (dB (dS [(.loc 8,.loc 47)]) ⟨1,[[.sl L' 5 0 (ga d x p (q.i+1)).length]]⟩)
           rw[aq _ _ (by simp),aq _ _ (by simp),b2,hP]
           simp[dB,cn,cG,rL]
         · show bG (bG iy (.loc 8) .dead) (.loc 47) _ (dS [(.loc 8,.loc 47)] L')= .live (dB (dS [(.loc 8,.loc 47)]) ⟨5,ay ((ga d x p (q.i+1)).map Node.iv)⟩)
           rw[rL,aq _ _ ya,aq _ _ CF,b3,de,hP]
         · show bG (bG iy (.loc 8) .dead) (.loc 47) _ (.loc 47)= .live (dB (dS [(.loc 8,.loc 47)]) ⟨1,ay ((aS (d.length+1) (x.kids.take (q.i+1))).map a6)⟩)
           rw[de,yb,List.map_append]
           simp only[↓aX,mX,reduceCtorEq,Nat.reduceEqDiff,Nat.reduceLT,Nat.reduceLeDiff,Nat.reduceAdd,Nat.reduceMul,Int.reduceToNat,Int.reduceLE,Int.reduceLT]
           rfl
       · simp[jw,dS,CF,Ne.symm b1,ya]
       · intro l hl
         simp only[jw,List.mem_cons,List.not_mem_nil,or_false] at hl
         rcases hl with rfl|rfl|rfl
         · exact⟨id,fun _=>rfl⟩
         · have rL:dS [(.loc 8,.loc 47)] l=l:=by simp[dS,CF]
           rw[rL];exact⟨id,fun _=>rfl⟩
         · exact⟨fun _=>rfl,fun h=>by simp[Lb.fresh] at h⟩
     · have qT:q.i=x.kids.length:=by simp at h;omega
       have Ab:x.kids.take q.i=x.kids:=by rw[qT,List.take_length]
       rw[Ab] at a8
       have xk:=kf d x p q.i
       have cj:d.length<(ga d x p q.i).length:=by omega
       have cM:(ay ((ga d x p q.i).map Node.iv))[d.length]?=some [.bool x.text,.str x.s,.list (dY x.attrs),.int .i64 p,.list []]:=by
         rw[rj,List.getElem?_map,ga,List.append_assoc,List.getElem?_append_right (Nat.le_refl _),Nat.sub_self]
         rfl
       simp only[↓aX,mX,reduceCtorEq,Nat.reduceEqDiff,Nat.reduceLT,Nat.reduceLeDiff,Nat.reduceAdd,Nat.reduceMul,Int.reduceToNat,Int.reduceLE,Int.reduceLT,h,Ab]
       refine⟨1,(aS (d.length+1) x.kids).map a6,0,_,rfl,a8,by simp,mb _,?_⟩
       simp only[↓aX,mX,reduceCtorEq,Nat.reduceEqDiff,Nat.reduceLT,Nat.reduceLeDiff,Nat.reduceAdd,Nat.reduceMul,Int.reduceToNat,Int.reduceLE,Int.reduceLT,a0,aL,cj,JC,cM,cB,List.length_map]
       have uU:(ay ((ga d x p q.i).map Node.iv)).set d.length ((x.node d.length p).iv.cells.map IV.cW)=ay ((d++x.flat d.length p).map Node.iv):=by
         rw[x.kG,rk,ga,Ab]
         congr 1
         simp[List.set_append]
       have mc:(d++x.flat d.length p).length=(ga d x p q.i).length:=by
         rw[List.length_append,x.dJ,xk,Ab,x.gm];omega
       refine⟨q.L,q.l0,?_,?_⟩
       · rw[aq _ _ (Ne.symm q.l0),aq _ _ (by simp),a0,List.length_map,mc]
       · rw[←uU]
         have:(List.take (aS (d.length+1) x.kids).length ((aS (d.length+1) x.kids).map a6))=(aS (d.length+1) x.kids).map a6:=List.take_of_length_le (by simp)
         rw[this]
         simp only[↓aX,mX,reduceCtorEq,Nat.reduceEqDiff,Nat.reduceLT,Nat.reduceLeDiff,Nat.reduceAdd,Nat.reduceMul,Int.reduceToNat,Int.reduceLE,Int.reduceLT]
         rfl
end Go.Am

/- THE ABSTRACT MACHINE, part 35: an empty slice in a cell, owned. -/
namespace Go.Am
open Go Go.RowKit
theorem rR {p:Lb}:∀{ds:List AV},p∈ax ds→∃y∈ds,p∈y.aI
 |[],h=>by simp[ax] at h
 |y::r,h=>by
  simp only[ax,List.mem_append] at h;rcases h with h|h
  ·exact⟨y,by simp,h⟩
  ·obtain⟨z,hz,hp⟩:=rR h;exact⟨z,by simp[hz],hp⟩
theorem pZ {S:St} {env:Env} {H:Hp} {q:Lb} {cs:List AV} {j d sz:Nat} (g1:H q= .live ⟨cs.length,[cs]⟩) (g2:cs[j]?=some .nil0) (g3:H (.loc d)= .unused) (g4:0<sz) :
  iz S env H env (bG (bG H (.loc d) (.live ⟨sz,[]⟩)) q (.live ⟨cs.length,[cs.set j (.sl (.loc d) sz 0 0)]⟩)):=by
 intro K β a w Lv hS hr;have hk:=hr.mr (.loc d) g3 (r:=⟨sz,[]⟩) (Below.refl _ _) none (by simp) (by simp) ⟨g4,by simp,by simp⟩;have JE:q≠ .loc d:=by rintro rfl;rw[g1] at g3;cases g3
 have hq:bG H (.loc d) (.live ⟨sz,[]⟩) q= .live ⟨cs.length,[cs]⟩:=by rw[aq _ _ JE];exact g1
 have k8:0<cs.length:=(hr.rows q _ g1).1;have L_:bG β (.loc d) none q=β q:=aq _ _ JE;cases hb:β q with
 |none=>
  have:=(hr.rows q _ g1).2.2;simp[hb] at this
 |some g=>
  obtain⟨cur,e0,cap,k1,k2,k3,k4,k5⟩:=(hk.rows q _ hq).block (L_.trans hb);have yR:j<cs.length:=(List.getElem?_eq_some_iff.1 g2).1
  have ld:=hk.setRow q (r':=⟨cs.length,[cs.set j (.sl (.loc d) sz 0 0)]⟩) (cur':=cur) (cap:=cap) hq (L_.trans hb) k1 rfl rfl k2 k3 (by simpa using k4) (by simp)
   (by
    intro ds vy p hp;simp at vy;subst vy;obtain⟨y,hy,D0⟩:=rR hp;rcases List.mem_or_eq_of_mem_set hy with hy|rfl
    ·obtain⟨m,hm⟩:=List.getElem?_of_mem hy;exact hk.dA q _ hq cs (by simp) p (dI _ _ _ hm p D0)
    ·simp only[AV.aI,List.mem_singleton] at D0;subst D0;simp)
   (by
    intro i' j' ds x0 eJ jB;cases i' with
    |succ i'=>simp at eJ
    |zero=>
     simp at eJ;subst eJ;by_cases e:j'=j
     ·subst e;rw[List.getElem?_set_self yR] at jB;cases jB;obtain⟨v,q1,q2⟩:=k5 0 j' cs _ (by simp) g2;simp only[RV] at q2;obtain⟨ad,rfl⟩:=q2;refine⟨_,q1,?_⟩;simp only[RV];exact⟨ad,0,rfl,Nat.le_refl _,by simp[maxLen],by simp,fun _=> .inl rfl⟩
     ·rw[List.getElem?_set_ne (Ne.symm e)] at jB;exact k5 0 j' cs x0 (by simp) jB)
  have dM:w.setRow g cur=w:=setRow_self w g cur e0 (0,0) k1;rw[dM] at ld;exact⟨_,ld⟩
section
variable {env:Env} {H:Hp}
theorem iZ (m:Option Nat) (t u:Nat) (R:AV→Hp→Prop):iP [(some m,t),(none,u)] R .ret env H=dC (bq m (env t) H) (fun x=>R (.dU [x,env u]) H) .mk:=by
 simp only[iP,jo,pj,dC];cases bq m (env t) H<;>simp[gQ]
end
end Go.Am

/- Trees, level by level; how a document is made by a stack. -/
namespace Go.Am
open Go Go.RowKit
def JF (j:Int) (ps:List (Nat×Int)):List Int:=(ps.filter fun x=>x.2==j).map fun x=>(x.1:Int)
def fill (ps:List (Nat×Int)):Nat→List Node→List Node
 |_,[]=>[]
 |j,x::r=>{x with kids:=x.kids++JF j ps}::fill ps (j+1) r
end Go.Am

/- Documents, by who has which parent. -/
namespace Go.Am
open Go Go.RowKit
def dX (m:Int):Nat→List Node→List Nat
 |_,[]=>[]
 |j,x::r=>(if x.parent=m then [j] else [])++dX m (j+1) r
theorem kg (m:Int):∀(j:Nat) (a b:List Node),dX m j (a++b)=dX m j a++dX m (j+a.length) b
 |j,[],b=>by simp[dX]
 |j,x::a,b=>by simp only[List.cons_append,dX,kg m (j+1) a b,List.length_cons,List.append_assoc,Nat.add_comm 1,Nat.add_assoc]
theorem rS (m:Int):∀(j:Nat) (a:List Node) (k:Nat),k∈dX m j a↔j≤k∧∃x,a[k - j]?=some x∧x.parent=m
 |j,[],k=>by simp[dX]
 |j,x::a,k=>by
  simp only[dX,List.mem_append,rS m (j+1) a k];constructor
  ·rintro(h|⟨h1,y,h2,h3⟩)
   ·split at h
    ·rename_i hp;simp only[List.mem_singleton] at h;subst h;exact⟨Nat.le_refl _,x,by simp,hp⟩
    ·simp at h
   ·exact⟨by omega,y,by rw[show k - j=(k - (j+1))+1 by omega];simpa using h2,h3⟩
  ·rintro⟨h1,y,h2,h3⟩;by_cases e:k=j
   ·subst e;simp only[Nat.sub_self,List.getElem?_cons_zero,Option.some.injEq] at h2;subst h2;left;rw[if_pos h3];simp
   ·right;rw[show k - j=(k - (j+1))+1 by omega,List.getElem?_cons_succ] at h2;exact⟨by omega,y,h2,h3⟩
mutual
theorem Tree.zo (off:Nat) (p m:Int):∀x:Tree,(m<off∨(off+x.dg:Nat)≤m)→dX m off (x.flat off p)=if p=m then [off] else []
 | .mk t s as ks,h=>by
  simp only[Tree.flat,dX];simp only[Tree.dg] at h;rw[oJ (off+1) off m ks (by omega) (by omega)];simp
theorem oJ (off p:Nat) (m:Int):∀xs:List Tree,(m<off∨(off+bC xs:Nat)≤m)→(p:Int)≠m→dX m off (cR off p xs)=[]
 |[],_,_=>rfl
 |k::r,h,hp=>by
  simp only[bC] at h;simp only[cR,kg,k.dJ];rw[k.zo off p m (by omega),oJ (off+k.dg) p m r (by omega) hp,if_neg hp];rfl
end
def cC (off:Nat):List Tree→List Nat
 |[]=>[]
 |k::r=>off::cC (off+k.dg) r
theorem tz:∀(off:Nat) (xs:List Tree),(cC off xs).map (fun k:Nat=>(k:Int))=aS off xs
 |_,[]=>rfl
 |off,k::r=>by simp[cC,aS,tz _ r]
theorem tC (off p:Nat):∀xs:List Tree,p<off→dX p off (cR off p xs)=cC off xs
 |[],_=>rfl
 |k::r,h=>by
  simp only[cR,kg,k.dJ,cC];rw[k.zo off p p (by omega),tC (off+k.dg) p r (by omega)];simp
theorem Sub.OH {off:Nat} {p:Int} {t:Tree} {n:Nat} {q:Int} {y:Tree} (h:Sub off p t n q y):p<off→dX n off (t.flat off p)=cC (n+1) y.kids:=by
 induction h with
 |self off p t=>
  intro hp;rw[t.kG];simp only[dX];rw[if_neg (show ¬(t.node off p).parent=(off:Int) by show ¬p=(off:Int);omega),tC (off+1) off t.kids (by omega)];rfl
 |@rM off p t n q y a b k hk hs ih=>
  intro hp;have hr:=hs.xX;have h1:=t.gm;rw[hk,eP] at h1;simp only[bC] at h1;have hy:=y.cu;rw[t.kG,hk,jY];simp only[dX,kg,ik,cR,k.dJ];rw[if_neg (show ¬(t.node off p).parent=(n:Int) by show ¬p=(n:Int);omega),oJ (off+1) off n a (by omega) (by omega),ih (by omega),oJ (off+1+bC a+k.dg) off n b (by omega) (by omega)];simp
theorem CG {t:Tree} {n:Nat} {q:Int} {y:Tree} (h:Sub 0 (-1) t n q y):dX n 0 (bF t)=cC (n+1) y.kids:=h.OH (by omega)
def kJ (d:Doc):Nat→Nat→Tree
 |0,_=> .mk false [] [] []
 |f+1,n=>match d[n]? with
  |some x=> .mk x.text x.s x.attrs ((dX n (n+1) (d.drop (n+1))).map (kJ d f))
  |none=> .mk false [] [] []
theorem v_ {d:Doc} {m:Int} {n:Nat} (h:∀k∈dX m 0 d,n≤k) (hn:n≤d.length):dX m n (d.drop n)=dX m 0 d:=by
 have e:d=d.take n++d.drop n:=(List.take_append_drop n d).symm
 have h2:dX m 0 d=dX m 0 (d.take n)++dX m n (d.drop n):=by
  conv=>lhs;rw[e]
  rw[kg,List.length_take,Nat.min_eq_left hn,Nat.zero_add]
 have h3:dX m 0 (d.take n)=[]:=by
  apply List.eq_nil_iff_forall_not_mem.2;intro k hk;have:=h k (by rw[h2];simp[hk]);obtain⟨_,x,hx,_⟩:=(rS m 0 _ k).1 hk;have:=(List.getElem?_eq_some_iff.1 hx).1;simp at this;omega
 rw[h2,h3];rfl
theorem oK:∀(off:Nat) (xs:List Tree),∀k∈cC off xs,off≤k
 |_,[],k,h=>by simp[cC] at h
 |off,x::r,k,h=>by
  simp only[cC,List.mem_cons] at h;rcases h with rfl|h
  ·exact Nat.le_refl _
  ·have:=oK _ r k h;omega
theorem p9 {t:Tree}:∀(f:Nat) (n:Nat) (q:Int) (y:Tree),Sub 0 (-1) t n q y→y.dep≤f→kJ (bF t) f n=y:=by
 intro f
 induction f with
 |zero=>intro n q y _ h;rw[y.pn] at h;omega
 |succ f ih=>
  intro n q y hs hd;have hl:=hs.rN (bF t) ⟨[],by simp[bF]⟩;have pY:=hl.node;have hlen:=hl.len;have hp:=CG hs;have hy:=y.cu;unfold kJ;rw[pY];simp only[Tree.node];rw[v_ (by rw[hp];exact oK _ _) (by omega),hp]
  have kids:∀(b a:List Tree),y.kids=a++b→(cC (n+1+bC a) b).map (kJ (bF t) f)=b:=by
   intro b
   induction b with
   |nil=>intro a _;rfl
   |cons k b Rc=>
    intro a hk;simp only[cC,List.map_cons]
    have Rd:k.dep≤f:=by
     have h1:=y.pn;rw[hk,mE] at h1;simp only[ff] at h1;omega
    rw[ih _ n k (hs.trans (.rM a b k hk (.self _ _ _))) Rd];have:=Rc (a++[k]) (by rw[hk];simp);rw[eP] at this;simp only[bC,Nat.add_zero] at this;rw[show n+1+bC a+k.dg=n+1+(bC a+k.dg) by omega,this]
  have:=kids y.kids [] rfl;simp only[bC,Nat.add_zero] at this;rw[this];cases y;rfl
end Go.Am

/- Documents: what is told of them. -/
namespace Go.Am
open Go Go.RowKit
noncomputable def kK (d:Doc) (n:Int):Tree×Int:=if fX d=true then(if 0≤n∧n<d.length then(kJ d d.length n.toNat,0) else(.mk false [] [] [],3)) else(.mk false [] [] [],1)
def lx (x:Tree):Doc×Int:=if x.iu=true then(bF x,0) else([],1)
section
variable {t:Tree}
theorem wa (ht:t.iu=true) {n:Nat} {q:Int} {y:Tree} (hs:Sub 0 (-1) t n q y):kK (bF t) n=(y,0):=by
 have h:=hs.rN (bF t) ⟨[],by simp[bF]⟩;have hl:=h.len;have hc:=y.cu;unfold kK;rw[if_pos (oF ht),if_pos ⟨by omega,by omega⟩,Int.toNat_natCast]
 have hd:y.dep≤(bF t).length:=by
  have h1:=(jt t).1 ht
  have h2:∀x:Tree,x.dep≤x.dg:=by
   have key:∀n:Nat,(∀x:Tree,x.dg≤n→x.dep≤x.dg)∧∀xs:List Tree,bC xs≤n→ff xs≤bC xs:=by
    intro n
    induction n with
    |zero=>exact⟨fun x h=>by have:=x.cu;omega,fun xs h=>by cases xs with|nil=>simp[ff]|cons a r=>have:=a.cu;simp[bC] at h;omega⟩
    |succ n ih=>
     have one:∀x:Tree,x.dg≤n+1→x.dep≤x.dg:=fun x h=>by
      have:=ih.2 x.kids (by have:=x.gm;omega);rw[x.pn,x.gm];omega
     refine⟨one,fun xs=> ?_⟩
     induction xs with
     |nil=>intro _;simp[ff]
     |cons a r On=>
      intro h;simp only[bC] at h;have:=a.cu;have:=one a (by omega);have:=On (by omega);simp only[ff,bC];omega
   exact fun x=>(key x.dg).1 x (Nat.le_refl _)
  have:=h2 y;omega
 rw[p9 _ n q y hs hd]
end
end Go.Am
