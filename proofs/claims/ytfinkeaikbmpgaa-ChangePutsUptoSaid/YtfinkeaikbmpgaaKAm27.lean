import Derived.Test.YtfinkeaikbmpgaaKAm15
import Derived.Deep.LoopGhost
set_option linter.unusedSimpArgs false
set_option linter.unusedVariables false
set_option linter.unnecessarySimpa false
set_option linter.defProp false
/- THE ABSTRACT MACHINE, part 27: loops by lists of slots; forks by their sides. -/
namespace Go.Am
open Go Go.RowKit
def kF:List (Nat×AV)→Env
 |[]=>Env.any
 |(n,x)::r=>put (kF r) n x
theorem Ft:kF []=Env.any:=rfl
theorem vU (n:Nat) (x:AV) (r:List (Nat×AV)):kF ((n,x)::r)=put (kF r) n x:=rfl
def nt (ρ:Lb→Lb) (env:Env):List (Nat×AV)→Prop
 |[]=>True
 |(n,x)::r=>env n=cG ρ x∧nt ρ env r
def xO (env:Env):List (Nat×AV)→Prop
 |[]=>True
 |(n,x)::r=>env n=x∧xO env r
theorem nt.we {ρ:Lb→Lb} {env:Env}:∀{ps:List (Nat×AV)},nt ρ env ps→∀n,kF ps n= .any∨env n=cG ρ (kF ps n)
 |[],_=>gk ρ env
 |(n,x)::r,h=>bJ h.1 (nt.we h.2)
theorem xO.eql {env:Env}:∀{ps:List (Nat×AV)},xO env ps→nt id env ps
 |[],_=>trivial
 |(n,x)::r,h=>⟨by rw[uF];exact h.1,xO.eql h.2⟩
theorem nY {H:Hp}:∀{ps:List (Nat×AV)},(∀l∈ax (ps.map Prod.snd),H l≠ .unused)→∀n,∀l∈(kF ps n).aI,H l≠ .unused
 |[],_=>gl H
 |(n,x)::r,h=>bK (fun l hl=>h l (by simp[ax,hl])) (nY fun l hl=>h l (by simp only[List.map_cons,ax,List.mem_append];exact .inr hl))
def NF (H:Hp):Prop:=∀l:Lb,l.fresh=false→H l= .unused
theorem Fu:NF Hp.none=True:=by simp[NF,Hp.none]
theorem I9 (H:Hp) (n:Nat) (s:Slot):NF (bG H (.loc n) s)=NF H:=by
 apply propext;constructor
 ·intro h l hl;have:=h l hl;have dm:l≠ .loc n:=by rintro rfl;simp[Lb.fresh] at hl
  rwa[aq _ _ dm] at this
 ·exact iA
def nD {σ:Type} (S:St) (Q:ka) (k:List It) (W:Env→Hp→σ→Prop) (μ:σ→Nat) (n:Nat):ka:=fun e env H=>
 match e with
 | .normal=>∃s,μ s<n∧W env H s
 | .exit id=>match fe id k with
  |some k'=>go S Q k' env H
  |none=>Q (.exit id) env H
 | .ret=>Q .ret env H
 |_=>False
theorem mB {σ:Type} {S:St} {Q:ka} {c:AC} {k:List It} {env:Env} {H:Hp} (E:σ→Env) (HH:σ→Hp) (W:Env→Hp→σ→Prop) (hW:∀env H s,W env H s→∃ρ,Wk ρ env H (E s) (HH s))
  (μ:σ→Nat) (s0:σ) (h0:W env H s0) (round:∀s,go S (nD S Q k W μ (μ s)) [.code c] (E s) (HH s)):oq S Q c k env H:=by
 intro K Lv hS c0 ck hc gf β a w hr;subst Lv;simp only[PH,Exit.then];obtain⟨ρ,h0⟩:=hW _ _ _ h0;refine wp_loop_ghost (fun n a w=>∃s β,μ s=n∧bj K β (E s) (HH s) a w) (μ s0) ⟨s0,_,rfl,h0.rel hS hr⟩ ?_;rintro n a w ⟨s,β,rfl,hr⟩;have hs:=go_sound (K:=K) hS _ (pR [.code c]) [.code c] [.code c0] (Nat.le_refl _) (.cons (.code hc) .nil) (E s) (HH s) (round s) β a w hr;simp only[PH,Exit.then] at hs
 refine wp_mono hs ?_;rintro e a' w' ⟨env',H',β',hq,mq⟩;cases e with
 |normal=>
  obtain⟨s',cj,hw⟩:=hq;obtain⟨ρ',hw⟩:=hW _ _ _ hw;exact⟨μ s',cj,s',_,rfl,hw.rel hS mq⟩
 |exit id=>
  have hp:=lk (P:=K.P) (G:=K.G) (lift K Q) (id:=id) ck k gf;simp only[nD] at hq;show PH K.P (lift K Q) ck (.exit id) a' w';cases nV:fe id k with
  |some k'=>
   rw[nV] at hp hq;obtain⟨Bp,e1,e2⟩:=hp;exact e2 a' w' (go_sound (K:=K) hS Q (pR k') k' Bp (Nat.le_refl _) e1 env' H' hq β' a' w' mq)
  |none=>
   rw[nV] at hp hq;exact hp a' w' ⟨env',H',β',hq,mq⟩
 |ret=>exact re _ _ _ _ _ ⟨env',H',β',hq,mq⟩
 |goto l=>exact hq.elim
 |panic ch=>exact hq.elim
 |outgrown=>exact hq.elim
mutual
theorem mC (ρ:Lb→Lb):∀x:AV,x.aI=[]→cG ρ x=x
 | .sl ..,h| .slk ..,h| .ptr ..,h=>by simp[AV.aI] at h
 | .any,_| .un,_| .bool _,_| .int ..,_| .str _,_| .list _,_| .nil0,_| .kL,_| .jG,_| .lptr _,_=>by simp[cG]
 | .agg cs,h=>by simp only[AV.aI] at h;simp[cG,ij ρ cs h]
 | .dU cs,h=>by simp only[AV.aI] at h;simp[cG,ij ρ cs h]
 | .fn f fs cs,h=>by simp only[AV.aI,List.append_eq_nil_iff] at h;simp[cG,ij ρ fs h.1,ij ρ cs h.2]
 | .ifc t x,h=>by simp only[AV.aI] at h;simp[cG,mC ρ x h]
theorem ij (ρ:Lb→Lb):∀xs:List AV,ax xs=[]→cn ρ xs=xs
 |[],_=>by simp[cn]
 |x::r,h=>by simp only[ax,List.append_eq_nil_iff] at h;simp[cn,mC ρ x h.1,ij ρ r h.2]
end
def WD {σ:Type} (ps:σ→List (Nat×AV)) (env:Env) (H:Hp) (s:σ):Prop:=NF H∧xO env (ps s)
theorem jW {σ:Type} {S:St} {Q:ka} {c:AC} {k:List It} {env:Env} {H:Hp} (ps:σ→List (Nat×AV)) (μ:σ→Nat) (s0:σ) (hl:∀s,ax ((ps s).map Prod.snd)=[]) (h0:WD ps env H s0)
  (round:∀s,go S (nD S Q k (WD ps) μ (μ s)) [.code c] (kF (ps s)) Hp.none):oq S Q c k env H:=
 mB (fun s=>kF (ps s)) (fun _=>Hp.none) (WD ps) (fun env H s ⟨h1,h2⟩=>⟨id,h2.eql.we,fun l r h=>by simp[Hp.none] at h,fun _ _ ⟨r,h⟩=>by simp[Hp.none] at h,nY (by rw[hl];simp),fun l r h=>by simp[Hp.none] at h,
  fun l hl=>⟨fun h=>absurd (h1 l (Lb.jg hl)) h,fun _=>rfl⟩,fun l ⟨r,h⟩=>by simp[Hp.none] at h⟩) μ s0 h0 round
def WR {σ:Type} (d sz:Nat) (ps:σ→List (Nat×AV)) (xs:σ→List IV) (env:Env) (H:Hp) (s:σ):Prop:=
 NF H∧xO env (ps s)∧∃n els,env d= .sl (.loc n) sz 0 (xs s).length∧H (.loc n)= .live ⟨sz,els⟩∧els=ay (xs s)
theorem Cm {σ:Type} {S:St} {Q:ka} {c:AC} {k:List It} {env:Env} {H:Hp} (d sz:Nat) (ps:σ→List (Nat×AV)) (xs:σ→List IV) (μ:σ→Nat) (s0:σ) (hl:∀s,ax ((ps s).map Prod.snd)=[]) (h0:WR d sz ps xs env H s0)
  (round:∀s,go S (nD S Q k (WR d sz ps xs) μ (μ s)) [.code c] (kF ((d,.sl (.loc d) sz 0 (xs s).length)::ps s)) (bG Hp.none (.loc d) (.live ⟨sz,ay (xs s)⟩))):oq S Q c k env H:=by
 refine mB (fun s=>kF ((d,.sl (.loc d) sz 0 (xs s).length)::ps s)) (fun s=>bG Hp.none (.loc d) (.live ⟨sz,ay (xs s)⟩)) (WR d sz ps xs) ?_ μ s0 h0 round;rintro env H s ⟨h1,h2,n,els,h3,h4,rfl⟩
 have key:∀{r:List (Nat×AV)},xO env r→ax (r.map Prod.snd)=[]→nt (fun _=> .loc n) env r:=by
  intro r
  induction r with
  |nil=>exact fun _ _=>trivial
  |cons p r ih=>
   obtain⟨m,x⟩:=p;intro h ir;simp only[List.map_cons,ax,List.append_eq_nil_iff] at ir;refine⟨?_,ih h.2 ir.2⟩;rw[h.1];exact(mC _ x ir.1).symm
 refine⟨fun _=> .loc n,Wk.one (nt.we (ps:=(d,.sl (.loc d) sz 0 (xs s).length)::ps s) ⟨h3,key h2 (hl s)⟩) (nY ?_) h4 rfl rfl h1⟩;simp[ax,AV.aI,hl s]
def jD:List (Lb×Row)→Hp
 |[]=>Hp.none
 |(l,r)::t=>bG (jD t) l (.live r)
def dS:List (Lb×Lb)→Lb→Lb
 |[],l=>l
 |(a,b)::t,l=>if l=a then b else dS t l
def zb (ρ:Lb→Lb) (H:Hp):List (Lb×Row)→Prop
 |[]=>True
 |(l,r)::t=>H (ρ l)= .live (dB ρ r)∧zb ρ H t
def I_ (H:Hp) (ls:List Lb):Prop:=∀l:Lb,l.fresh=false→H l≠ .unused→l∈ls
theorem ri (ls:List Lb):I_ Hp.none ls=True:=by simp[I_,Hp.none]
theorem uM (H:Hp) (n:Nat) (s:Slot) (ls:List Lb):I_ (bG H (.loc n) s) ls=I_ H ls:=by
 apply propext;constructor
 ·intro h l hl hu;have dm:l≠ .loc n:=by rintro rfl;simp[Lb.fresh] at hl
  exact h l hl (by rwa[aq _ _ dm])
 ·intro h l hl hu;have dm:l≠ .loc n:=by rintro rfl;simp[Lb.fresh] at hl
  rw[aq _ _ dm] at hu;exact h l hl hu
structure Oq (ls:List Lb) (ps:List (Nat×AV)) (rs:List (Lb×Row)) (env:Env) (H:Hp) (m:List (Lb×Lb)):Prop where
 nf:I_ H ls
 e:nt (dS m) env ps
 r:zb (dS m) H rs
 inj:(ls.map (dS m)).Nodup
 fr:∀l∈ls,(l.fresh=true→(dS m l).fresh=true)∧(l.fresh=false→dS m l=l)
theorem fI {rs:List (Lb×Row)}:∀{l:Lb} {r:Row},jD rs l= .live r→(l,r)∈rs:=by
 induction rs with
 |nil=>intro l r h;simp[jD,Hp.none] at h
 |cons p t ih=>
  obtain⟨l0,r0⟩:=p;intro l r h;simp only[jD,bG] at h;split at h
  ·next e=>cases h;subst e;simp
  ·exact List.mem_cons_of_mem _ (ih h)
theorem oz {rs:List (Lb×Row)} {l:Lb} (h:l∈rs.map Prod.fst):jD rs l≠ .unused:=by
 induction rs with
 |nil=>simp at h
 |cons p t ih=>
  obtain⟨l0,r0⟩:=p;simp only[jD,bG];split
  ·simp
  ·next e=>exact ih (by simpa[e] using h)
theorem qz {ρ:Lb→Lb} {H:Hp}:∀{rs:List (Lb×Row)},zb ρ H rs→∀{l:Lb} {r:Row},(l,r)∈rs→H (ρ l)= .live (dB ρ r)
 |[],_,_,_,h=>by simp at h
 |(l0,r0)::t,h,l,r,hm=>by
  simp only[List.mem_cons,Prod.mk.injEq] at hm;rcases hm with⟨rfl,rfl⟩|hm
  ·exact h.1
  ·exact qz h.2 hm
theorem gR {α β:Type} [DecidableEq β] {f:α→β}:∀{l:List α},(l.map f).Nodup→∀a∈l,∀b∈l,f a=f b→a=b
 |[],_,_,h,_,_,_=>by simp at h
 |x::l,hd,a,ha,b,hb,e=>by
  simp only[List.map_cons,List.nodup_cons,List.mem_map,not_exists,not_and] at hd;simp only[List.mem_cons] at ha hb;rcases ha with rfl|ha<;>rcases hb with rfl|hb
  ·rfl
  ·exact absurd e.symm (hd.1 b hb)
  ·exact absurd e (hd.1 a ha)
  ·exact gR hd.2 a ha b hb e
theorem Oq.wk {ls:List Lb} {ps:List (Nat×AV)} {rs:List (Lb×Row)} {env:Env} {H:Hp} {m:List (Lb×Lb)} (h:Oq ls ps rs env H m) (nr:rs.map Prod.fst=ls) (hp:∀l∈ax (ps.map Prod.snd),l∈ls)
  (hr:∀q∈rs,∀cs∈q.2.els,∀l∈ax cs,l∈ls):Wk (dS m) env H (kF ps) (jD rs):=by
 have sQ:∀l,live (jD rs) l→l∈ls:=fun l ⟨r,h⟩=>by rw[←nr];exact List.mem_map.2 ⟨_,fI h,rfl⟩
 refine⟨h.e.we,fun l r hl=>qz h.r (fI hl),fun l l' h1 h2 e=>gR h.inj l (sQ l h1) l' (sQ l' h2) e,nY fun l hl=>oz (by rw[nr];exact hp l hl),fun l r hl cs b5 q hq=> ?_,fun l hf=>⟨fun hu=> ?_,fun hl=>(h.fr l (sQ l hl)).2 (Lb.jg hf)⟩,fun l hl hf=>(h.fr l (sQ l hl)).1 hf⟩
 ·exact oz (by rw[nr];exact hr _ (fI hl) cs b5 q hq)
 ·exact oz (by rw[nr];exact h.nf l (Lb.jg hf) hu)
section
variable {σ:Type} {S:St} {Q:ka} {k:List It} {W:Env→Hp→σ→Prop} {μ:σ→Nat} {n:Nat} {env:Env} {H:Hp}
theorem Ot:nD S Q k W μ n .normal env H=∃s,μ s<n∧W env H s:=rfl
theorem Ou (id:Nat):nD S Q k W μ n (.exit id) env H=match fe id k with
 |some k'=>go S Q k' env H
 |none=>Q (.exit id) env H:=rfl
theorem Ov:nD S Q k W μ n .ret env H=Q .ret env H:=rfl
theorem zc:xO env []=True:=rfl
theorem vV (n:Nat) (x:AV) (r:List (Nat×AV)):xO env ((n,x)::r)=(env n=x∧xO env r):=rfl
end
theorem nu {b:Bool} {A B:Prop} {u:Tp A B} (h1:b=true→A) (h2:b=false→B):cK (.bool b) A B u:=by
 cases b
 ·exact h2 rfl
 ·exact h1 rfl
theorem Ow {b:Bool} {A B:Prop} {u:Tp A B} (h1:b=true→A) (h2:b=false→B):gB (.bool b) true A B u:=by
 cases b
 ·rw[Lx];exact h2 rfl
 ·rw[Lw];exact h1 rfl
theorem Ox (env:Env) (n:Nat):ev env (.t n)=env n:=rfl
theorem Oy (env:Env) (x:AV):ev env (.c x)=x:=rfl
theorem Ja (n:Nat) (h:n≤4000):(n≤maxLen)=True:=by simp[maxLen];omega
end Go.Am

/- THE ABSTRACT MACHINE, part 28: the walk's equations, in few words. -/
namespace Go.Am
open Go Go.RowKit
theorem Jb (b:Bool) (A B:Prop) (u:Tp A B):cK (.bool (!b)) A B u=cK (.bool b) B A .mk:=by cases b<;>simp[cK]
theorem Jc (b t:Bool) (A B:Prop) (u:Tp A B):gB (.bool (!b)) t A B u=gB (.bool b) (!t) A B .mk:=by cases b<;>cases t<;>simp[gB]
theorem zd (args:List AV) (n:Nat):b7 args n=args.getD n .un:=rfl
theorem ze (l:Lb):Hp.none l= .unused:=rfl
theorem Jd (n:Nat):Env.any n= .any:=rfl
theorem LJ {σ:Type} (ps:σ→List (Nat×AV)) (env:Env) (H:Hp) (s:σ):WD ps env H s=(NF H∧xO env (ps s)):=rfl
theorem Az (cs:List IV):(IV.agg cs).cells=cs:=rfl
theorem LK (b:Bool):(false ^^ b)=b:=by cases b<;>rfl
theorem LL (b:Bool):(true ^^ b)= !b:=by cases b<;>rfl
def sR:=And.intro @List.getD_cons_zero.{0} (And.intro @List.getD_cons_succ.{0} (And.intro @List.length_map.{0,0} (And.intro @List.length_cons.{0} (And.intro @List.length_nil.{0} (And.intro @ai (And.intro @List.getElem?_cons_zero.{0} (And.intro @List.getElem?_cons_succ.{0} (And.intro @Option.bind_some.{0,0} (And.intro @Option.map_some.{0,0} (And.intro @List.map_cons.{0,0} (And.intro @List.map_nil.{0,0} (And.intro @Int.natCast_nonneg (And.intro @Int.toNat_natCast (And.intro @List.all_cons.{0} (And.intro @List.all_nil.{0} (And.intro @List.take_succ_cons.{0} (And.intro @List.take_zero.{0} (And.intro @List.drop_succ_cons.{0} (And.intro @List.drop_zero.{0} (And.intro @List.cons_append.{0} (And.intro @List.nil_append.{0} (And.intro @List.append_nil.{0} (And.intro @List.set_cons_zero.{0} (And.intro @List.set_cons_succ.{0} (And.intro @List.take_nil.{0} (And.intro @List.drop_nil.{0} (And.intro @List.replicate_one.{0} (And.intro @List.flatten_cons.{0} (And.intro @List.flatten_nil.{0} (And.intro @zd (And.intro @ze (And.intro @Jd (And.intro @Ox (And.intro @Oy (And.intro @Ot (And.intro @Ou (And.intro @Ov (And.intro @Ft (And.intro @vU (And.intro @zc (And.intro @vV (And.intro @Fu (And.intro @I9 (And.intro @Jb (And.intro @Jc (And.intro @LJ (And.intro @Az (And.intro @LK @LL))))))))))))))))))))))))))))))))))))))))))))))))
def Q5:=And.intro @Nat.zero_mul (And.intro @Nat.zero_add (And.intro @Nat.mul_one (And.intro @Nat.le_refl (And.intro @Ja (And.intro @Bool.and_self (And.intro @Bool.and_true (And.intro @Bool.true_and (And.intro @Bool.not_true (And.intro @Bool.not_false (And.intro @Bool.not_not (And.intro @true_and (And.intro @and_true (And.intro @or_false (And.intro @implies_true.{1} (And.intro @false_implies (@List.mem_cons.{0}))))))))))))))))
def Je (x:AV) (k:AV→Prop) (_:Tv k):Prop:=∃R,BJ x=some R∧∀m,R m→m≤maxLen→k (.int .i64 (m:Int))
def P2 (S:St) (f:Nat) (args:List AV) (H:Hp) (k:AV→Prop) (_:Tv k):Prop:=∃res,mu S f args H res∧k res
section
variable {S:St} {Q:ka} {env:Env} {H:Hp}
theorem Jf (d:Option Nat) (x:O) (k:AV→Hp→Prop):bX S d (.cap x) env H k=Je (ev env x) (fun y=>k y H) .mk:=rfl
theorem Jg (d:Option Nat) (s x:O) (sz:Nat) (k:AV→Hp→Prop):bX S d (.o8 s x sz) env H k=pK (uo sz (ev env s) (ev env x) H) k .mk:=rfl
theorem Jh (d:Option Nat) (x:O) (sz:Nat) (z:List AV) (k:AV→Hp→Prop):bX S d (.vl x sz z) env H k=hK (uq sz z (ev env x) H) (fun H'=>k (.dU []) H') .mk:=rfl
theorem Ji (q:Nat) (n c:O) (sz b:Nat) (z:List AV) (k:AV→Hp→Prop):bX S (some q) (.vt n c sz b z) env H k=pK (ur sz b q z (ev env n) (ev env c) H) k .mk:=by
 simp[bX,pK]
theorem Cn (d:Option Nat) (f:Nat) (args:List O) (k:AV→Hp→Prop):bX S d (.lZ f args) env H k=P2 S f (args.map (ev env)) H (fun y=>k y H) .mk:=rfl
theorem Fv d x n sz (k:AV→Hp→Prop):bX S d (.uh x n sz) env H k=dC (ae (.uh x n sz) env) (fun x=>k x H) .mk:=rfl
theorem Fw d s x sz b (k:AV→Hp→Prop):bX S d (.sG s x sz b) env H k=dC (ae (.sG s x sz b) env) (fun x=>k x H) .mk:=rfl
theorem Co d x n sz (k:AV→Hp→Prop):aZ S .no d (.uh x n sz) env H k=dC (ae (.uh x n sz) env) (fun x=>k x H) .mk:=by simp only[aZ,cA,dC,or_false]
theorem Cp d s x sz b (k:AV→Hp→Prop):aZ S .no d (.sG s x sz b) env H k=dC (ae (.sG s x sz b) env) (fun x=>k x H) .mk:=by simp only[aZ,cA,dC,or_false]
theorem Jj (R W:List Lb) (d:Option Nat) (s x:O) (sz:Nat) (k:AV→Hp→Prop):aZ S (.rw R W) d (.o8 s x sz) env H k =
  pK (uo sz (ev env s) (ev env x) H) (fun y H'=>(∀l∈bU (ev env x),l.iJ∈R∨l.iJ∈W)∧(∀l∈bU (ev env s),l.iJ∈W)∧k y H') .mk:=by
 simp only[aZ,ek,dz,a7,pK]
theorem Jk (R W:List Lb) (d:Option Nat) (x:O) (sz:Nat) (z:List AV) (k:AV→Hp→Prop):aZ S (.rw R W) d (.vl x sz z) env H k =
  hK (uq sz z (ev env x) H) (fun H'=>(∀l∈bU (ev env x),l.iJ∈W)∧k (.dU []) H') .mk:=by
 apply propext;simp only[aZ,ek,dz,a7,hK];constructor
 ·rintro⟨x1,H',h1,_,h2,h3⟩;obtain⟨H2,h5,h4⟩:=Option.map_eq_some_iff.1 h1;simp only[Prod.mk.injEq] at h4;obtain⟨rfl,rfl⟩:=h4;exact⟨H2,h5,h2,h3⟩
 ·rintro⟨H2,h1,h2,h3⟩;exact⟨.dU [],H2,by rw[h1];rfl,by simp,h2,h3⟩
theorem Fx (q:Nat) (s n:O) (sz b:Nat) (z:List AV) (k:AV→Hp→Prop):bX S (some q) (.qK s n sz b z) env H k=pK (s6 sz b q z (ev env s) (ev env n) H) k .mk:=by
 simp[bX,pK]
theorem Cq (q:Nat) (sz:Nat) (z:List AV) (ps:List (Nat×O)) (k:AV→Hp→Prop):bX S (some q) (.ji sz z ps) env H k=pK (uu sz q z (ps.map fun p=>(p.1,ev env p.2)) H) k .mk:=by
 simp[bX,pK]
theorem Cr (R W:List Lb) (q:Nat) (sz:Nat) (z:List AV) (ps:List (Nat×O)) (k:AV→Hp→Prop):aZ S (.rw R W) (some q) (.ji sz z ps) env H k =
  pK (uu sz q z (ps.map fun p=>(p.1,ev env p.2)) H) (fun y H'=>Lb.loc q∈W∧k y H') .mk:=by
 simp[aZ,ek,dz,a7,pK,Lb.iJ]
theorem Jl d f qs cs (k:AV→Hp→Prop):bX S d (.Ed f qs cs) env H k=dC (ae (.Ed f qs cs) env) (fun x=>k x H) .mk:=rfl
theorem Fy d f qs cs (k:AV→Hp→Prop):aZ S .no d (.Ed f qs cs) env H k=dC (ae (.Ed f qs cs) env) (fun x=>k x H) .mk:=by simp only[aZ,cA,dC,or_false]
theorem Fz {sz d:Nat} {z:List AV} {ps:List (Nat×AV)} {cs:List AV} (h1:bu z (ps.map fun p=>(p.1*sz,sz,p.2))=some cs) (h2:H (.loc d)= .unused) (h3:cs.length=sz) (h4:0<sz) :
  uu sz d z ps H=some (.sl (.loc d) sz 0 1,bG H (.loc d) (.live ⟨sz,[cs]⟩)):=by
 unfold uu;rw[h1,Option.bind_some,if_pos ⟨h2,h3,h4⟩]
theorem Jm (d:Option Nat) (i:cV) (k:AV→Hp→Prop):aZ S .all d i env H k=bX S d i env H k:=rfl
def FA (S:St) (F:List Lb) (f:Nat) (args:List AV) (H:Hp) (k:AV→Hp→Prop) (_:Tw k):Prop:=Lr S F f args H k
theorem Jn (F:List Lb) (d:Option Nat) (f:Nat) (args:List O) (k:AV→Hp→Prop):aZ S (.qx F) d (.call f args) env H k=FA S F f (args.map (ev env)) H k .mk:=rfl
theorem Cs {F:List Lb} {f:Nat} {args cO:List AV} {res:AV} {k:AV→Hp→Prop} (h:az S.P S.G f cO res) (ha:dP (uw H) args cO) (hs:res.scalar=true) (hk:k res H) {u:Tw k}:FA S F f args H k u:=
 ⟨fun x H'=>x=res∧H'=H,.inr (.inl ⟨cO,res,ha,h,hs,rfl,rfl⟩),⟨res,H,rfl,rfl⟩,fun x H' ⟨e1,e2⟩=>by subst e1;subst e2;exact⟨fun _ _=>rfl,hk⟩⟩
theorem xP {f:Nat} {args:List AV} {res:AV} {k:AV→Prop} (h:mu S f args H res) (hk:k res) {u:Tv k}:P2 S f args H k u:=⟨res,h,hk⟩
theorem vW (l:Lb) (sz i n c:Nat) (k:AV→Prop) (u:Tv k):Je (.slk l sz i n c) k u=(c≤maxLen→k (.int .i64 (c:Int))):=by
 simp only[Je,BJ,Option.some.injEq];apply propext;constructor
 ·rintro⟨R,rfl,h⟩ hc;exact h c rfl hc
 ·intro h;exact⟨_,rfl,fun m hm hc=>by subst hm;exact h hc⟩
end
def Q6:=And.intro @Fx<|And.intro @Cq<|And.intro @Cr<|And.intro @Jl<|And.intro @Fy<|And.intro @Jf (And.intro @Jg (And.intro @Jh (And.intro @Ji (And.intro @Cn (And.intro @Fv (And.intro @Fw (And.intro @Co (And.intro @Cp (And.intro @Jj (And.intro @Jk<|And.intro @Jn @Jm))))))))))
def aX:=And.intro fk<|And.intro Q6<|And.intro aE<|And.intro aF<|And.intro @aT<|And.intro @aG<|And.intro @bp<|And.intro @bn @bo
def mP:=And.intro Lb.loc.injEq<|And.intro Lb.par.injEq<|And.intro Lb.gen.injEq<|And.intro @aP<|And.intro @aQ<|And.intro @aR<|And.intro @aD<|And.intro Bool.false_eq_true<|And.intro Int.le_refl Int.toNat_zero
def mX:=And.intro fl (And.intro sR (And.intro Q5 (And.intro mP (And.intro @cF.eq_1 (And.intro @ae.eq_1 (And.intro @ae.eq_2 (And.intro @ae.eq_3 (And.intro @ae.eq_4 (And.intro @ae.eq_5 (And.intro @ae.eq_6 (And.intro @ae.eq_7 (And.intro @ae.eq_8 (And.intro @ae.eq_9 (And.intro @ae.eq_10 (And.intro @ae.eq_11 (And.intro @ae.eq_12 (And.intro @ae.eq_13 (And.intro @ae.eq_14 (And.intro @ae.eq_15 (And.intro @ae.eq_16 (And.intro @ae.eq_17 (And.intro @ae.eq_18 (And.intro @ae.eq_19 (And.intro @ae.eq_20 (And.intro @ae.eq_21 (And.intro @ae.eq_22 (And.intro @ae.eq_23 (And.intro @ae.eq_24 (And.intro @ae.eq_25 (And.intro @ae.eq_26 (And.intro @ae.eq_27 (And.intro @ae.eq_28 (And.intro @ae.eq_29 (And.intro @ae.eq_30 (And.intro @ae.eq_31 (And.intro @ae.eq_32 (And.intro @ae.eq_33 (And.intro @ae.eq_34 (And.intro @ae.eq_35 (And.intro @ae.eq_36 (And.intro @bY.eq_1 (And.intro @bY.eq_2 (And.intro @bY.eq_3 (And.intro @bY.eq_4 (And.intro @bY.eq_5 (And.intro @bY.eq_6 (And.intro @bY.eq_7 (And.intro @bY.eq_8 (And.intro @bY.eq_9 (And.intro @bY.eq_10 (And.intro @bY.eq_11 (And.intro @bY.eq_12 (And.intro @bY.eq_13 (And.intro @bY.eq_14 (And.intro @bY.eq_15 (And.intro @bY.eq_16 (And.intro @bY.eq_17 (And.intro @bY.eq_18 (And.intro @bY.eq_19 (And.intro @bY.eq_20 (And.intro @bY.eq_21 (And.intro @bY.eq_22 (And.intro @bq.eq_1 (And.intro @bq.eq_2 (And.intro @a_.eq_1 (And.intro @a_.eq_2 (And.intro @e_.eq_1 (And.intro @e_.eq_2 (And.intro @e_.eq_3 (And.intro @bU.eq_1 (And.intro @bU.eq_2 (And.intro @bU.eq_3 (And.intro @bU.eq_4 (And.intro @cw.eq_1 (And.intro @cw.eq_2 (And.intro @cw.eq_3 (And.intro @bu.eq_1 (And.intro @bu.eq_2 (And.intro @chunks.eq_1 (And.intro @chunks.eq_2 (And.intro @eg.eq_1 (And.intro @eg.eq_2 (And.intro @eW.eq_1 (And.intro @eW.eq_2 (And.intro @AV.cells.eq_1 (And.intro @AV.cells.eq_2 (And.intro @AV.ew.eq_1 (And.intro @AV.ew.eq_2 (And.intro @AV.one.eq_1 (And.intro @AV.one.eq_2 (And.intro @AV.one.eq_3 (And.intro @AV.one.eq_4 (And.intro @AV.one.eq_5 (And.intro @IV.cW.eq_1 (And.intro @IV.cW.eq_2 (And.intro @IV.cW.eq_3 (And.intro @IV.cW.eq_4 (And.intro @IV.cW.eq_5 (And.intro @Lb.app.eq_1 (And.intro @Lb.fresh.eq_1 (And.intro @Lb.fresh.eq_2 (And.intro @Lb.fresh.eq_3 (And.intro @AV.iv.eq_1 (And.intro @AV.iv.eq_2 (And.intro @AV.iv.eq_3 (And.intro @AV.iv.eq_4 (And.intro @AV.iv.eq_5 (And.intro @AV.iv.eq_6 (And.intro @if_true.{1} (And.intro @if_false.{1} (And.intro @List.not_mem_nil.{0} (And.intro @forall_eq.{1} (And.intro @beq_self_eq_true.{0} @List.isEmpty_nil.{0})))))))))))))))))))))))))))))))))))))))))))))))))))))))))))))))))))))))))))))))))))))))))))))))))))))))))))))))))
def lX:=And.intro @ev.eq_1 (And.intro @ev.eq_2 (And.intro @zd (And.intro @List.getD_cons_zero.{0} (And.intro @List.getD_cons_succ.{0} (And.intro @true_and (And.intro @and_true (And.intro @List.length_map.{0,0} (And.intro @List.length_cons.{0} (And.intro @List.length_nil.{0} (And.intro @ai (And.intro @Lb.loc.injEq (And.intro @List.getElem?_cons_zero.{0} (And.intro @List.getElem?_cons_succ.{0} (And.intro @Option.bind_some.{0,0} (And.intro @Option.map_some.{0,0} (And.intro @List.map_cons.{0,0} (And.intro @List.map_nil.{0,0} (And.intro @Int.natCast_nonneg (And.intro @Int.toNat_natCast (And.intro @List.all_cons.{0} (And.intro @List.all_nil.{0} (And.intro @Bool.and_self (And.intro @Bool.and_true (And.intro @Bool.true_and (And.intro @List.take_succ_cons.{0} (And.intro @List.take_zero.{0} (And.intro @List.drop_succ_cons.{0} (And.intro @List.drop_zero.{0} (And.intro @List.cons_append.{0} (And.intro @List.nil_append.{0} (And.intro @List.append_nil.{0} (And.intro @List.set_cons_zero.{0} (And.intro @aP (And.intro @aQ (And.intro @aR (And.intro @aD (And.intro @Bool.false_eq_true (And.intro @List.mem_cons.{0} (And.intro @or_false (And.intro @false_implies (And.intro @implies_true.{1} (And.intro @ze (And.intro @Nat.le_refl (And.intro @List.set_cons_succ.{0} (And.intro @List.replicate_one.{0} (And.intro @List.flatten_cons.{0} (And.intro @List.flatten_nil.{0} (And.intro @Nat.zero_mul (And.intro @Nat.zero_add @Nat.mul_one)))))))))))))))))))))))))))))))))))))))))))))))))
end Go.Am

/- THE ABSTRACT MACHINE, part 30: functions that are handed one row of data by a pointer. -/
namespace Go.Am
open Go Go.RowKit
open Classical in
noncomputable def dN (kp:Lb→Prop) (H:Hp):Hp:=fun l=>match H l with
 | .live r=>if kp l then .live r else .dead
 |s=>s
theorem dj {kp:Lb→Prop} {H:Hp} {l:Lb} {r:Row}:dN kp H l= .live r↔H l= .live r∧kp l:=by
 unfold dN;cases h:H l with
 |live r'=>
  by_cases hk:kp l
  ·simp[hk]
  ·simp[hk]
 |unused=>simp
 |dead=>simp
theorem fw {kp:Lb→Prop} {H:Hp} {l:Lb}:dN kp H l= .unused↔H l= .unused:=by
 unfold dN;cases h:H l with
 |live r'=>
  by_cases hk:kp l
  ·simp[hk]
  ·simp[hk]
 |unused=>simp
 |dead=>simp
section
variable {K:Kx} {β:Lb→Option Nat} {env:Env} {H:Hp} {a:Act} {w:World}
theorem bj.dN (hr:bj K β env H a w) (kp:Lb→Prop):bj K β env (Am.dN kp H) a w:=by
 have:=hr.qn id (env2:=env) (H2:=Am.dN kp H) (fun n=> .inr (uF _).symm) (fun l r h=>by rw[uG];exact(dj.1 h).1) (fun _ _ _ _ h=>h)
  (fun n l hl=>by rw[Ne,fw];exact hr.gO n l hl) (fun l r h cs b5 q hq=>by rw[Ne,fw];exact hr.dA l r (dj.1 h).1 cs b5 q hq)
  (fun l hl=>⟨by rw[Ne,fw];exact(hr.jJ l hl).1,fun _=>rfl⟩) (fun _ _ h=>h)
 exact this
theorem Ct {K:Kx} {β:Lb→Option Nat} {H:Hp} (kp:Lb→Prop) {k:Nat} (h:Im K β H k):Im K β (Am.dN kp H) k:=
 ⟨h.1,fun l ⟨r,hl⟩=>h.2 l ⟨r,(dj.1 hl).1⟩⟩
theorem RV.dN {w:World} {β:Lb→Option Nat} {H:Hp} {x:AV} {v:Value} (kp:Lb→Prop) (h:RV w β H (Im K β H) x v):RV w β (Am.dN kp H) (Im K β (Am.dN kp H)) x v:=
 RV.mono x v {im:=fun k hk hs=>⟨Ct kp hk,hs,rfl⟩,lb:=fun l _ ⟨r,hl⟩=>⟨⟨r,(dj.1 hl).1⟩,rfl,fun _ _ _ h=>h⟩} h
end
theorem eB.eM {P:Program} {G:Nat→Option (List IV)} {f:Nat} {args:List AV} {H:Hp} {Q:AV→Hp→Prop} (h:eB P G f args H Q) (kp:Lb→Prop) :
  eB P G f args H fun x H'=>∃H1,Q x H1∧H'=dN kp H1:=by
 intro w A β vs hr hv;refine(h w A β vs hr hv).mono ?_;rintro e w' ⟨v,x,H1,β',rfl,hq,mq,hx,hm⟩;exact⟨v,x,dN kp H1,β',rfl,⟨H1,hq,rfl⟩,mq.dN kp,hx.dN kp,fun l hl=>by rw[Ne,fw];exact hm l hl⟩
def oB (cs:List AV):Hp:=bG Hp.none (.par 0) (.live ⟨cs.length,[cs]⟩)
def xQ (P:Program) (G:Nat→Option (List IV)) (f:Nat) (args:List AV) (cs:List AV) (R:AV→List AV→Prop):Prop:=
 (∀l∈ax args,l= .par 0)∧ax cs=[]∧eB P G f args (oB cs) fun x H'=>∃oe,R x oe∧x.aI=[]∧ax oe=[]∧oe.length=cs.length∧H' (.par 0)= .live ⟨cs.length,[oe]⟩
def xR (l:Lb):Lb→Lb:=fun q=>if q= .par 0 then l else q
theorem th {S:St} {f:Nat} {args cO:List AV} {cs:List AV} {R:AV→List AV→Prop} {H:Hp} {k:AV→Hp→Prop} {u:Tw k} {l:Lb} (h:xQ S.P S.G f cO cs R)
  (ha:args=cn (xR l) cO) (hl:H l= .live ⟨cs.length,[cs]⟩) (hk:∀x oe,R x oe→x.aI=[]→ax oe=[]→oe.length=cs.length→k x (bG H l (.live ⟨cs.length,[oe]⟩))):Bq S f args H k u:=by
 obtain⟨h1,h2,h3⟩:=h
 have bz:∀q r,oB cs q= .live r→q= .par 0∧r=⟨cs.length,[cs]⟩:=by
  intro q r h;by_cases e:q= .par 0
  ·subst e;simp[oB] at h;exact⟨rfl,h.symm⟩
  ·rw[oB,aq _ _ e] at h;simp[Hp.none] at h
 refine .inr<| .inr ⟨⟨xR l,oB cs,cO,_,h3.eM (fun q=>q= .par 0),ha,?_,?_,?_,?_,?_,?_,?_⟩⟩
 ·intro q r h;obtain⟨rfl,rfl⟩:=bz q r h;simp only[xR,if_true,hl,Slot.live.injEq,dB,Row.mk.injEq,List.map_cons,List.map_nil,true_and,List.cons.injEq,and_true];exact(ij _ _ h2).symm
 ·intro q hq;by_cases e:q= .par 0
  ·subst e;exact⟨_,by simp[oB];rfl⟩
  ·rw[oB,aq _ _ e] at hq;simp[Hp.none] at hq
 ·rintro q q' ⟨r,h⟩ ⟨r',h'⟩ _;rw[(bz q r h).1,(bz q' r' h').1]
 ·intro q hq;rw[h1 q hq];simp[oB]
 ·rintro q ⟨r,h⟩;rw[(bz q r h).1];rfl
 ·intro q r h c hc z hz;obtain⟨rfl,rfl⟩:=bz q r h;simp only[List.mem_singleton] at hc;subst hc;rw[h2] at hz;simp at hz
 ·rintro x H' ⟨H1,⟨oe,e1,e2,e3,e4,e5⟩,rfl⟩
  have hH:∀q r,dN (fun q=>q= .par 0) H1 q= .live r→q= .par 0∧r=⟨cs.length,[oe]⟩:=by
   intro q r h;obtain⟨g1,rfl⟩:=dj.1 h;rw[e5] at g1;cases g1;exact⟨rfl,rfl⟩
  have pk:dN (fun q=>q= .par 0) H1 (.par 0)= .live ⟨cs.length,[oe]⟩:=dj.2 ⟨e5,rfl⟩;refine⟨xR l,bG H l (.live ⟨cs.length,[oe]⟩),fun _ _ _=>rfl,?_,?_,?_,?_,?_,?_,?_,?_⟩
  ·intro q r h;by_cases e:q=l
   ·subst e;simp at h;refine .inr ⟨.par 0,_,pk,by simp[xR],?_⟩;rw[←h];simp only[dB,Row.mk.injEq,List.map_cons,List.map_nil,true_and,List.cons.injEq,and_true];exact(ij _ _ e3).symm
   ·rw[aq _ _ e] at h;refine .inl ⟨h,?_⟩;rintro z ⟨r',hz⟩;rw[(bz z r' hz).1];simp only[xR,if_true];exact Ne.symm e
  ·rintro q q' ⟨r,h⟩ ⟨r',h'⟩ _;rw[(hH q r h).1,(hH q' r' h').1]
  ·intro q hq;by_cases e:q=l
   ·subst e;simp
   ·rw[aq _ _ e];exact hq
  ·intro q hq;rw[e2] at hq;simp at hq
  ·intro q r h c hc z hz;obtain⟨rfl,rfl⟩:=hH q r h;simp only[List.mem_singleton] at hc;subst hc;rw[e3] at hz;simp at hz
  ·rintro q ⟨r,h⟩;obtain⟨rfl,rfl⟩:=hH q r h;exact .inl ⟨_,by simp[oB];rfl⟩
  ·rintro q (hq|⟨l1,r1,c,g1,g2,g3⟩) _
   ·rw[e2] at hq;simp at hq
   ·obtain⟨rfl,rfl⟩:=hH l1 r1 g1;simp only[List.mem_singleton] at g2;subst g2;rw[e3] at g3;simp at g3
  ·rw[mC _ _ e2];exact hk x oe e1 e2 e3 e4
theorem tj {P:Program} {G:Nat→Option (List IV)} {f:Nat} {n:Nat} {rs:List RO} {ac:AC} {args cs:List AV} {R:AV→List AV→Prop}
  (hF:aA P G f=some (n,rs,ac.bare)) (hn:args.length≤n) (ha:∀l∈ax args,l= .par 0) (hc:ax cs=[])
  (hg:go ⟨P,G,n⟩ (iP rs fun x H'=>∃oe,R x oe∧x.aI=[]∧ax oe=[]∧oe.length=cs.length∧H' (.par 0)= .live ⟨cs.length,[oe]⟩) [.code ac] (b7 args) (oB cs)):xQ P G f args cs R:=by
 refine⟨ha,hc,hQ hF hn ?_ ?_ hg⟩
 ·rintro l ⟨r,h⟩;by_cases e:l= .par 0
  ·subst e;rfl
  ·rw[oB,aq _ _ e] at h;simp[Hp.none] at h
 ·intro l hl;rw[ha l hl];simp[oB]
theorem xQ.mono {P:Program} {G:Nat→Option (List IV)} {f:Nat} {args cs:List AV} {R R':AV→List AV→Prop} (h:xQ P G f args cs R) (hq:∀x c,R x c→R' x c):xQ P G f args cs R':=
 ⟨h.1,h.2.1,h.2.2.mono fun x H ⟨c,h1,h2⟩=>⟨c,hq _ _ h1,h2⟩⟩
end Go.Am

/- THE ABSTRACT MACHINE, part 31: nil slices are empty lists. -/
namespace Go.Am
open Go Go.RowKit
mutual
def norm:AV→AV
 | .nil0=> .list []
 | .agg cs=> .agg (ln cs)
 | .dU cs=> .dU (ln cs)
 |x=>x
def ln:List AV→List AV
 |[]=>[]
 |x::r=>norm x::ln r
end
mutual
theorem vX:∀x:AV,(norm x).aI=x.aI
 | .nil0=>rfl
 | .agg cs=>by simp[norm,AV.aI,mZ cs]
 | .dU cs=>by simp[norm,AV.aI,mZ cs]
 | .sl ..| .slk ..| .ptr ..| .any| .un| .bool _| .int ..| .str _| .list _| .kL| .jG| .lptr _| .fn ..| .ifc ..=>rfl
theorem mZ:∀xs:List AV,ax (ln xs)=ax xs
 |[]=>rfl
 |x::r=>by simp[ln,ax,vX x,mZ r]
end
mutual
theorem RV.norm {w:World} {β:Lb→Option Nat} {H:Hp} {I:Nat→Prop}:∀(x:AV) (v:Value),RV w β H I x v→RV w β H I (Am.norm x) v
 | .nil0,v,h=>by
  simp only[RV] at h;obtain⟨a,rfl⟩:=h;simp only[Am.norm,RV,ic];exact⟨a,0,rfl,Nat.le_refl _,by simp[maxLen],.inl rfl⟩
 | .agg cs,v,h=>by
  simp only[RV,Am.norm] at h ⊢;obtain⟨vs,h1,h2⟩:=h;exact⟨vs,h1,b8.norm cs vs h2⟩
 | .dU cs,v,h=>by
  simp only[RV,Am.norm] at h ⊢;obtain⟨vs,h1,h2⟩:=h;exact⟨vs,h1,b8.norm cs vs h2⟩
 | .sl ..,v,h| .slk ..,v,h| .ptr ..,v,h| .any,v,h| .un,v,h| .bool _,v,h| .int ..,v,h| .str _,v,h| .list _,v,h| .kL,v,h| .jG,v,h| .lptr _,v,h| .fn ..,v,h| .ifc ..,v,h=>h
theorem b8.norm {w:World} {β:Lb→Option Nat} {H:Hp} {I:Nat→Prop}:∀(xs:List AV) (vs:List Value),b8 w β H I xs vs→b8 w β H I (ln xs) vs
 |[],vs,h=>h
 |x::r,vs,h=>by
  simp only[b8,ln] at h ⊢;obtain⟨v,us,h1,h2,h3⟩:=h;exact⟨v,us,h1,RV.norm x v h2,b8.norm r us h3⟩
end
theorem eB.n {P:Program} {G:Nat→Option (List IV)} {f:Nat} {args:List AV} {H:Hp} {Q:AV→Hp→Prop} (h:eB P G f (ln args) H Q):eB P G f args H Q:=
 fun w A β vs hr hv=>h w A β vs hr (b8.norm _ _ hv)
theorem eB.res {P:Program} {G:Nat→Option (List IV)} {f:Nat} {args:List AV} {H:Hp} {Q:AV→Hp→Prop} (h:eB P G f args H Q):eB P G f args H fun x H'=>∃y,Q y H'∧x=norm y:=by
 intro w A β vs hr hv;refine(h w A β vs hr hv).mono ?_;rintro e w' ⟨v,x,H',β',rfl,h1,h2,h3,h4⟩;exact⟨v,norm x,H',β',rfl,⟨x,h1,rfl⟩,h2,RV.norm _ _ h3,by rw[vX];exact h4⟩
theorem az.n {P:Program} {G:Nat→Option (List IV)} {f:Nat} {args:List AV} {res:AV} (h:az P G f (ln args) res):az P G f args res:=
 ⟨by have:=h.1;rwa[mZ] at this,h.2.1,h.2.2.n⟩
theorem az.of {P:Program} {G:Nat→Option (List IV)} {f:Nat} {args G4:List AV} {res:AV} (h:az P G f G4 res) (e:ln args=G4):az P G f args res:=az.n (by rw[e];exact h)
theorem jr {P:Program} {G:Nat→Option (List IV)} {f:Nat} {n:Nat} {rs:List RO} {ac:AC} {args:List AV} {res:AV}
  (hF:aA P G f=some (n,rs,ac.bare)) (hn:args.length≤n) (hl:ax args=[]) (At:res.aI=[])
  (hg:go ⟨P,G,n⟩ (iP rs fun x _=>norm x=res) [.code ac] (b7 args) Hp.none):az P G f args res:=
 ⟨hl,At,((hQ hF hn (fun l ⟨r,h⟩=>by simp[Hp.none] at h) (by simp[hl]) hg).res).mono fun x H ⟨y,h1,h2⟩=>by rw[h2];exact h1⟩
theorem rj (xs:List IV) (i:Nat):(ay xs)[i]?=xs[i]?.map fun y=>y.cells.map IV.cW:=by simp[ay]
theorem cB (xs:List IV):(ay xs).length=xs.length:=by simp[ay]
theorem rk (xs:List IV) (i:Nat) (y:IV):(ay xs).set i (y.cells.map IV.cW)=ay (xs.set i y):=by simp[ay,List.map_set]
theorem gS (xs ys:List IV):ay (xs++ys)=ay xs++ay ys:=by simp[ay]
theorem G5 {σ:Type} (d sz:Nat) (ps:σ→List (Nat×AV)) (xs:σ→List IV) (env:Env) (H:Hp) (s:σ) :
 WR d sz ps xs env H s=(NF H∧xO env (ps s)∧∃n els,env d= .sl (.loc n) sz 0 (xs s).length∧H (.loc n)= .live ⟨sz,els⟩∧els=ay (xs s)):=rfl
theorem zf {sz b d n:Nat} {l:Lb} {els:List (List AV)} {x:IV} {H:Hp} (hl:H l= .live ⟨sz,els⟩) (hn:els.length=n) (he:x.cells.length=sz) (hf:∀z∈x.cells,∀cs,z≠ .agg cs) (hb:(n+1)*b≤140737488355328) (h0:0<b)
  (hd:l≠l.app d) (hu:H (l.app d)= .unused) :
  j8 sz b d (.sl l sz 0 n) (.list [x]) H=some (.sl (l.app d) sz 0 (n+1),bG (bG H l .dead) (l.app d) (.live ⟨sz,els++ay [x]⟩)):=by
 have:=Cf (xs:=[x]) hl (Nat.le_of_eq hn.symm) (by intro y hy;simp only[List.mem_singleton] at hy;subst hy;exact he) (by intro y hy;simp only[List.mem_singleton] at hy;subst hy;exact hf) (by simpa using hb) h0 hd hu;rw[this];simp only[List.length_cons,List.length_nil,Nat.zero_add,Option.some.injEq,Prod.mk.injEq,true_and];rw[List.take_of_length_le (Nat.le_of_eq hn)]
theorem jO (sz b d k:Nat) (xs:List IV) (x:IV) {n:Nat} {H:Hp} (hl:H (.loc k)= .live ⟨sz,ay xs⟩) (hn:xs.length=n) (he:x.cells.length=sz) (hf:∀z∈x.cells,∀cs,z≠ .agg cs) (hb:(n+1)*b≤140737488355328) (h0:0<b)
  (hd:k≠d) (hu:H (.loc d)= .unused) :
  j8 sz b d (.sl (.loc k) sz 0 n) (.list [x]) H=some (.sl (.loc d) sz 0 (n+1),bG (bG H (.loc k) .dead) (.loc d) (.live ⟨sz,ay (xs++[x])⟩)):=by
 have e:(Lb.loc k).app d= .loc d:=rfl;have:=zf (l:= .loc k) (d:=d) hl (by rw[cB];exact hn) he hf hb h0 (by rw[e];simpa using hd) (by rw[e];exact hu);rw[e] at this;rw[this,gS]
end Go.Am
