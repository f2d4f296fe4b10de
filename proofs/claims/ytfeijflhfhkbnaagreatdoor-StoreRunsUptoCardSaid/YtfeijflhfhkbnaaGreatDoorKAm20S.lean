import Derived.Test.YtfeijflhfhkbnaaGreatDoorKAm38S
import Derived.Deep.LoopGhost
import Derived.IntWalk
set_option linter.all false
/- THE ABSTRACT MACHINE, part 20: regions whose order is drawn are sound. -/
namespace Go.Am
open Go Go.RowKit
def dJ (ops:Array Oper):List (List Nat):=ops.toList.map λo=>(o.after.toList.filter (Region.binds .any)).map (·.on)
def items:Nat->List bd->List Fp->List (Nat×bd×Fp)
 |_,[],_=>[]
 |n,i::r,fs=>(n,i,fs.headD .no)::items (n+1) r fs.tail
def uF (es:List (List Nat)):List (Nat×bd×Fp)->Bool
 |[]=>true
 |p::r=>r.all (λq=>(es.getD q.1 []).contains p.1||indep p.2 q.2)&&uF es r
def zi (acc:List (List Nat)):List (List Nat)->List (List Nat)
 |[]=>acc
 |x::r=>zi (acc++[(x.flatMap λe=>acc.getD e []).foldl (λa e=>if a.contains e then a else e::a) x]) r
inductive Vl (es:List (List Nat)):Nat->Nat->Prop where
 |one {p q:Nat}:p∈es.getD q []->Vl es p q
 |more {p r q:Nat}:r∈es.getD q []->Vl es p r->Vl es p q
def Ow {l x:List Nat} {p:Nat} (h:p∈l.foldl (λa e=>if a.contains e then a else e::a) x):p∈x\/p∈l:=by
 induction l generalizing x with
 |nil=>exact .inl h
 |cons e l ih=>
 simp only[ah2] at h;rcases ih h with h|h
 ·split at h
  ·exact .inl h
  rcases aga.1 h with rfl|h
  ·exact .inr ajL
  exact .inl h
 exact .inr anM
theorem xB (es:List (List Nat)):∀(r acc:List (List Nat)),es.drop acc.length=r->(∀i p,p∈acc.getD i []->Vl es p i)->∀i p,p∈(zi acc r).getD i []->Vl es p i
 |[],acc,_,h=>by simpa[zi] using h
 |x::r,acc,hd,h=>by
  simp only[zi];have hx:es[acc.length]?=some x:=by
   have:=ahp (λl=>l[0]?) hd;simpa using this
  refine xB es r _ ?_ ?_
  ·rw[age,ahl,<-ahJ,hd];rfl
  intro i p hp;rw[agW] at hp;by_cases hi:i<acc.length
  ·rw[agB hi,<-agW] at hp;exact h i p hp
  rw[agr ajK] at hp;by_cases e:i=acc.length
  ·subst e;simp only[ahc,agF,ahy] at hp;have hxe:es.getD acc.length []=x:=(by rw[agW,hx];rfl);rcases Ow hp with hp|hp
   ·exact .one (by rw[hxe];exact hp)
   obtain⟨e,he,hp⟩:=List.mem_flatMap.1 hp;exact .more (by rw[hxe];exact he) (h e p hp)
  rw[agK ajY] at hp;simp at hp
def Ox (es:List (List Nat)) (l:List (Nat×bd×Fp)):Bool:=l.all λp=>(es.getD p.1 []).all λe=>decide (e<p.1)
def JZ (is:List bd) (es:List (List Nat)) (fs:List Fp):Bool:=(uF es (items 0 is fs)||uF (zi [] es) (items 0 is fs))&&Ox es (items 0 is fs)
theorem pw {es:List (List Nat)}:∀{l:List (Nat×bd×Fp)},uF es l=true->l.Pairwise λp q=>p.1∈es.getD q.1 []\/indep p.2 q.2=true
 |[],_=> .nil
 |p::r,h=>by
  simp only[uF,agm,agJ,ahu,ahT,agv] at h;exact .cons h.1 (pw h.2)
section
variable {K:Kx} {env:Env} {H:Hp} {a:Act} {w:World}
def mD {ops:Array Oper} {listed:Array Bool} {i:Nat}:i∈Region.ready .any ops listed ↔
  i<ops.size/\listed.getD i true=false/\∃o,ops[i]?=some o/\∀e∈o.after,Region.binds .any e=true->listed.getD e.on false=true:=by
 unfold Region.ready;simp only[ahB,ahZ,agm,aiq];constructor
 ·rintro⟨h1,h2,h3⟩;refine⟨h1,h2,?_⟩;cases ho:ops[i]? with
  |none=>rw[ho] at h3;simp at h3
  |some o=>
  rw[ho] at h3;simp only[af9,ahy] at h3;refine⟨o,rfl,λe he hb=> ?_⟩;have h3':=aiL.1 h3;have:=h3' e he;simpa[hb] using this
 rintro⟨h1,h2,o,h3,h4⟩;refine⟨h1,h2,?_⟩;rw[h3];simp only[af9,ahy];refine aiL.2 λe he=> ?_;cases hb:Region.binds .any e with
 |false=>rfl
 |true=>simpa using h4 e he hb
def xC {ops:Array Oper} {i:Nat} {o:Oper} (ho:ops[i]?=some o) {e:Edge} (he:e∈o.after) (hb:Region.binds .any e=true):e.on∈(dJ ops).getD i []:=by
 unfold dJ;rw[agW,ago,ahD,ho];simp only[af9,ahy,agp,ahB,aix];exact⟨e,⟨he,hb⟩,rfl⟩
def LP {ops:Array Oper} {k:Env->Hp->Prop} {Q:Exit->Act->World->Prop} (hk:∀bJ H' β' a' w',k bJ H'->aO K β' bJ H' a' w'->Q .normal a' w') :
  ∀(fuel:Nat) (l:List (Nat×bd×Fp)) (listed:Array Bool) (env:Env) (H:Hp) (a:Act) (w:World) (β:Lb->Option Nat),l.length=fuel ->
   l.Pairwise (λp q=>p.1<q.1)->listed.size=ops.size->(∀i,i<ops.size->(listed.getD i true=false↔∃p∈l,p.1=i)) ->
   (∀p∈l,p.1<ops.size/\∃o,ops[p.1]?=some o/\oH K.P K.G ops o=some p.2.1.lU) ->
   l.Pairwise (λp q=>Vl (dJ ops) p.1 q.1\/indep p.2 q.2=true)->(∀i,i<ops.size->listed.getD i true=true->∀e∈(dJ ops).getD i [],listed.getD e false=true)->(∀p∈l,∀e∈(dJ ops).getD p.1 [],e<p.1) ->
   qh ⟨K.P,K.G,K.N⟩ l env H k->aO K β env H a w->wpAny K.P .any ops Q fuel listed a w:=by
 intro fuel;induction fuel with
 |zero=>
  intro l listed env H a w β hlen _ _ hl _ _ _ _ hA hr;have:l=[]:=agU hlen;subst this;refine⟨?_,hk _ _ _ _ _ hA hr⟩;rw[aij];intro i hi;obtain⟨h1,h2,_⟩:=mD.1 hi;obtain⟨p,hp,_⟩:=(hl i h1).1 h2;simp at hp
 |succ fuel ih=>
 intro l listed env H a w β hlen J0 j9 hl SI Oy hD ES hA hr;refine⟨λWZ=> ?_,λi hi=> ?_⟩
 ·exfalso;cases l with
  |nil=>simp at hlen
  |cons p r=>
  obtain⟨NP,o,HP,hp3⟩:=SI p ajL;have:p.1∈Region.ready .any ops listed:=by
   refine mD.2 ⟨NP,(hl p.1 NP).2 ⟨p,ajL,rfl⟩,o,HP,λe he hb=> ?_⟩;have aF:=ES p ajL e.on (xC HP he hb);have iw:e.on<ops.size:=ajK;have cf:¬listed.getD e.on true=false:=by
    rw[hl e.on iw];rintro⟨q,hq,hqe⟩;rcases aga.1 hq with rfl|hq
    ·omega
    have:=(aik.1 J0).1 q hq;omega
   rw[ags] at cf ⊢;rw[ag5 ajK] at cf ⊢;simpa using cf
  rw[WZ] at this;simp at this
 obtain⟨h1,h2,o,h3,h4⟩:=mD.1 hi;obtain⟨p,hp,rfl⟩:=(hl i h1).1 h2;obtain⟨l1,l2,rfl⟩:=List.append_of_mem hp;obtain⟨_,o',SJ,lF⟩:=SI p hp;rw[h3] at SJ;cases SJ;have adK:∀q∈l1,indep q.2 p.2=true:=by
  intro q hq;rcases (ahU.1 Oy).2.2 q hq p ajL with he|he
  ·exfalso;have aaT:∀z∈(dJ ops).getD p.1 [],listed.getD z false=true:=by
    intro z he;unfold dJ at he;rw[agW,ago,ahD,h3] at he;simp only[af9,ahy,agp,ahB,aix] at he;obtain⟨e,⟨he1,Wu⟩,rfl⟩:=he;exact h4 e he1 Wu
   have yA:∀z t,Vl (dJ ops) z t->listed.getD t false=true->listed.getD z false=true:=by
    intro z t hr;induction hr with
    |@one t hz=>
     intro ht;have Z_:t<ops.size:=by
      rw[ags] at ht;cases hh:listed[t]? with
      |none=>rw[hh] at ht;simp at ht
      |some b=>have:=(agS.1 hh).1;omega
     refine hD t Z_ ?_ z hz;rw[ags] at ht ⊢;rw[ag5 ajK] at ht ⊢;simpa using ht
    |@more r t hz _ ih=>
    intro ht;refine ih ?_;have Z_:t<ops.size:=by
     rw[ags] at ht;cases hh:listed[t]? with
     |none=>rw[hh] at ht;simp at ht
     |some b=>have:=(agS.1 hh).1;omega
    refine hD t Z_ ?_ r hz;rw[ags] at ht ⊢;rw[ag5 ajK] at ht ⊢;simpa using ht
   have Hl:listed.getD q.1 false=true:=by
    cases he with
    |one hz=>exact aaT _ hz
    |more hz hr=>exact yA _ _ hr (aaT _ hz)
   have hqs:=(SI q anv).1;have BU:=(hl q.1 hqs).2 ⟨q,anv,rfl⟩;rw[ags] at Hl BU;rw[ag5 ajK] at Hl BU;simp at Hl BU;rw[Hl] at BU;simp at BU
  exact he
 have W0:=qh.front l1 env H adK hA;simp only[qh] at W0;have cf:∀q∈l1++l2,q.1≠p.1:=by
  intro q hq e;rcases agi.1 hq with hq|hq
  ·have:=(ahU.1 J0).2.2 q hq p ajL;omega
  have:=(aik.1 (ahU.1 J0).2.1).1 q hq;omega
 have Lx:(l1++l2).Sublist (l1++p::l2):=List.Sublist.append_left (List.sublist_cons_self p l2) l1;have qD:∀q∈l1++l2,q∈l1++p::l2:=λq hq=>Lx.subset hq;have eW:∀bJ H' β' a' w',qh ⟨K.P,K.G,K.N⟩ (l1++l2) bJ H' k->aO K β' bJ H' a' w'->wpAny K.P .any ops Q fuel (listed.setIfInBounds p.1 true) a' w':=by
  intro bJ H' β' a' w' q1 q2;refine ih (l1++l2) _ bJ H' a' w' β' (by simp at hlen ⊢;omega) (J0.sublist Lx) (by simp[j9]) (λj hj=> ?_) (λq hq=>SI q (qD q hq)) (Oy.sublist Lx) (λj hj W1 e he=> ?_)
   (λq hq=>ES q (qD q hq)) q1 q2
  rw[ags,ahI];by_cases e:p.1=j
  ·subst e;simp only[agn];rw[agc ajK];simp only[ahy,Bool.true_eq_false,false_iff];rintro⟨q,hq,e⟩;exact cf q hq e
  ·rw[af8 e,<-ags,hl j hj];constructor
   ·rintro⟨q,hq,rfl⟩;refine⟨q,?_,rfl⟩;simp only[agi,aga] at hq ⊢;rcases hq with hq|hq|hq
    ·exact .inl hq
    ·subst hq;exact absurd rfl e
    exact .inr hq
   rintro⟨q,hq,rfl⟩;exact⟨q,qD q hq,rfl⟩
  have hup:∀z,listed.getD z false=true->(listed.setIfInBounds p.1 true).getD z false=true:=by
   intro z hz;rw[ags] at hz ⊢;rw[ahI];split
   ·split<;>simp_all
   exact hz
  apply hup;by_cases e2:p.1=j
  ·subst e2;unfold dJ at he;rw[agW,ago,ahD,h3] at he;simp only[af9,ahy,agp,ahB,aix] at he;obtain⟨e,⟨he1,Wu⟩,rfl⟩:=he;exact h4 e he1 Wu
  refine hD j hj ?_ e he;rw[ags,ahI,af8 e2,<-ags] at W1;exact W1
 simp only[wpOp,h3];refine te hr lF (k:=λe h=>qh ⟨K.P,K.G,K.N⟩ (l1++l2) e h k) eW ?_;rcases W0 with⟨g1,g2,g3⟩|⟨g1,g2,g3⟩
 ·exact .inl ⟨g1,g2,g3.act⟩
 exact .inr ⟨g1,g2,g3⟩
theorem wo:∀(is:List bd) (n:Nat) (fs:List Fp) (p:Nat×bd×Fp),p∈items n is fs->n<=p.1/\is[p.1 - n]?=some p.2.1
 |[],n,fs,p,h=>by simp[items] at h
 |i::r,n,fs,p,h=>by
  simp only[items,aga] at h;rcases h with rfl|h
  ·simp
  obtain⟨h1,h2⟩:=wo r (n+1) _ p h;refine⟨ajK,?_⟩;rw[show p.1 - n=(p.1 - (n+1))+1 by omega];simpa using h2
theorem uG:∀(is:List bd) (n:Nat) (fs:List Fp),(items n is fs).Pairwise λp q=>p.1<q.1
 |[],n,fs=> .nil
 |i::r,n,fs=>by
  simp only[items];refine .cons (λq hq=> ?_) (uG r (n+1) _);have:=(wo r (n+1) _ q hq).1;simp only;omega
theorem B5:∀(is:List bd) (n:Nat) (fs:List Fp),(items n is fs).length=is.length
 |[],n,fs=>rfl
 |i::r,n,fs=>by simp[items,B5 r]
theorem B6:∀(is:List bd) (n:Nat) (fs:List Fp) (j:Nat),j<is.length->∃p∈items n is fs,p.1=n+j
 |[],n,fs,j,h=>by simp at h
 |i::r,n,fs,0,h=>⟨_,List.mem_cons_self ..,rfl⟩
 |i::r,n,fs,j+1,h=>by
  obtain⟨p,h1,h2⟩:=B6 r (n+1) fs.tail j aj6;exact⟨p,by simp only[items];exact ah9 _ h1,ajK⟩
theorem uH {α β:Type} {R:α->β->Prop}:∀{l:List α} {m:List β},dN R l m->l.length=m.length/\∀(i:Nat) (y:β),m[i]?=some y->∃x,l[i]?=some x/\R x y
 |_,_,.nil=>⟨rfl,ajL⟩
 |_,_,.cons h1 h2=>by
  obtain⟨e,h⟩:=uH h2;refine⟨an_,λi y hy=> ?_⟩;cases i with
  |zero=>simp at hy;subst hy;exact⟨_,ajL,h1⟩
  |succ i=>obtain⟨x,q1,q2⟩:=h i y anT;exact⟨x,alf,q2⟩
def aO.drew {β:Lb->Option Nat} (hr:aO K β env H a w):aO K β env H a {w with drawn:=w.drawn+1}:=by
 have hg:oB w {w with drawn:=w.drawn+1}:=⟨rfl,rfl,rfl,af6 _,λ_ _=>rfl⟩;have:=hr.step hg (d:=none) (x:= .un) (v:=undef) ajL ajL ajL;simpa[eh,Act.put] using this
def ET {β:Lb->Option Nat} (hr:aO K β env H a w) {id:Nat} {ops:Array Oper} (hm:K.P.follows .mixedOrders=true) {is:List bd} {fs:List Fp}
  (bV:dN (λo i=>oH K.P K.G ops o=some (bd.lU i)) ops.toList is) (ho:JZ is (dJ ops) fs=true) {k:Env->Hp->Prop} {Q:Exit->Act->World->Prop}
  (hk:∀bJ H' β' a' w',k bJ H'->aO K β' bJ H' a' w'->Q .normal a' w') (hA:qh ⟨K.P,K.G,K.N⟩ (items 0 is fs) env H k):(Code.region id ops true).wp K.P Q a w:=by
 obtain⟨hlen,bU⟩:=uH bV;simp only[aie] at hlen;simp only[JZ,agm] at ho;obtain⟨WG,Z6⟩:=ho;have hpw:(items 0 is fs).Pairwise λp q=>Vl (dJ ops) p.1 q.1\/indep p.2 q.2=true:=by
  rcases Bool.or_eq_true_iff.1 WG with h|h
  ·exact(pw h).imp λhpq=>hpq.imp .one (λh=>h)
  exact(pw h).imp λhpq=>hpq.imp (xB _ _ [] rfl ajL _ _) (λh=>h)
 refine wp_region_any hm (LP hk ops.size (items 0 is fs) _ env H a _ β (by rw[B5];exact hlen.symm) (uG is 0 fs) ajL (λi hi=> ?_) (λp hp=> ?_)
  hpw (λi hi W1=> ?_) (λp hp e he=> ?_) hA hr.drew)
 ·rw[ags,aia,agc hi];simp only[ahy,true_iff];obtain⟨p,h1,h2⟩:=B6 is 0 fs i ajK;exact⟨p,h1,ajK⟩
 ·obtain⟨h1,h2⟩:=wo is 0 fs p hp;simp only[ait] at h2;obtain⟨o,q1,q2⟩:=bU p.1 _ h2;have:=(afY.1 h2).1;exact⟨ajK,o,alf,q2⟩
 ·rw[ags,aia,agc hi] at W1;simp at W1
 simp only[Ox,agJ,agv] at Z6;exact Z6 p hp e he
end

def R9 (S:St) (is:List bd) (es:List (List Nat)) (k:Env->Hp->Prop):Nat->List Nat->Env->Hp->Prop
 |0,_,env,H=>k env H
 |n+1,done,env,H=>∀j i,is[j]?=some i->j∉done->(∀e∈es.getD j [],e∈done) ->
  (gW i.g env=some true/\(∀n,i.d=some n->n<S.N)/\dX S i.d i.i env H λx H'=>R9 S is es k n (j::done) (eh env i.d x) H') \/
  (gW i.g env=some false/\(∀n,i.d=some n->n<S.N)/\R9 S is es k n (j::done) (eh env i.d .un) H)
theorem Oz:∀{l m:List Nat},l.Nodup->(∀x∈l,x∈m)->l.length<=m.length
 |[],_,_,_=>agO _
 |x::l,m,h,hs=>by
  obtain⟨h1,h2⟩:=ah3.1 h;have h3:=Oz (m:=m.erase x) h2 λy hy=>(List.mem_erase_of_ne (by rintro rfl;exact h1 hy)).2 (hs y alK);have h4:=List.length_erase_of_mem (hs x ajL);have h5:=List.length_pos_of_mem (hs x ajL);simp only[agd];omega
section
variable {K:Kx} {env:Env} {H:Hp} {a:Act} {w:World}
def HU {ops : Array Oper} {is : List bd} (bV : dN (λo i => oH K.P K.G ops o = some (bd.lU i)) ops.toList is) (ES : ∀ j,∀ e ∈ (dJ ops).getD j [],e < j)
   {k : Env -> Hp -> Prop} {Q : Exit -> Act -> World -> Prop} (hk : ∀ bJ H' β' a' w',k bJ H' -> aO K β' bJ H' a' w' -> Q .normal a' w') :
   ∀ (fuel : Nat) (done : List Nat) (listed : Array Bool) (env : Env) (H : Hp) (a : Act) (w : World) (β : Lb -> Option Nat),done.length + fuel = ops.size -> done.Nodup -> listed.size = ops.size ->
     (∀ i,i < ops.size -> (listed.getD i true = true ↔ i ∈ done)) -> (∀ i ∈ done,i < ops.size) -> R9 ⟨K.P,K.G,K.N⟩ is (dJ ops) k fuel done env H -> aO K β env H a w -> wpAny K.P .any ops Q fuel listed a w := by
 obtain ⟨hlen,bU⟩ := uH bV
 simp only [aie] at hlen
 intro fuel
 induction fuel with
 | zero =>
   intro done listed env H a w β hd yo j9 hl xD hA hr
   refine ⟨?_,hk _ _ _ _ _ hA hr⟩
   rw [aij]
   intro i hi
   obtain ⟨h1,h2,_⟩ := mD.1 hi
   have aaU : i ∈ done := by
     refine ahh λhn => ?_
     have h3 : (i :: done).length <= (List.range ops.size).length := Oz (ah3.2 ⟨hn,yo⟩) λz hz => by
       rcases aga.1 hz with rfl | hz
       · exact ahZ.2 h1
       · exact ahZ.2 (xD z hz)
     simp at h3; omega
   rw [(hl i h1).2 aaU] at h2; cases h2
 | succ fuel ih =>
   intro done listed env H a w β hd yo j9 hl xD hA hr
   have aaV : ∀ i,i < ops.size -> (listed.getD i false = true ↔ i ∈ done) := λi hi => by
     rw [<- hl i hi,ags,ags,ag5 ajK]; rfl
   refine ⟨λWZ => ?_,λi hi => ?_⟩
   · -- the first of those that are left may come next
     have hex : ∃ i,i < ops.size /\ i ∉ done := by
       refine ahh λhn => ?_
       have h3 : (List.range ops.size).length <= done.length := Oz List.nodup_range λz hz => ahh λDd => hn ⟨z,ahZ.1 hz,Dd⟩
       simp at h3; omega
     have OA : ∀ n i,i <= n -> i < ops.size -> i ∉ done -> ∃ j,j < ops.size /\ j ∉ done /\ ∀ e,e < j -> e ∈ done := by
       intro n
       induction n with
       | zero => intro i h1 h2 h3; exact ⟨i,h2,h3,λe he => by omega⟩
       | succ n ih2 =>
         intro i h1 h2 h3
         by_cases h : ∃ e,e < i /\ e ∉ done
         · obtain ⟨e,g1,g2⟩ := h
           exact ih2 e ajK ajK g2
         · exact ⟨i,h2,h3,λe he => ahh λhn => h ⟨e,he,hn⟩⟩
     obtain ⟨i0,g1,g2⟩ := hex
     obtain ⟨j,j1,j2,j3⟩ := OA i0 i0 (af6 _) g1 g2
     have : j ∈ Region.ready .any ops listed := by
       refine mD.2 ⟨j1,?_,ops[j],ag5 j1,λe he hb => ?_⟩
       · cases hc : listed.getD j true with
         | false => rfl
         | true => exact absurd ((hl j j1).1 hc) j2
       · have aF := ES j e.on (xC (ag5 j1) he hb)
         exact (aaV e.on ajK).2 (j3 _ aF)
     rw [WZ] at this; simp at this
   · obtain ⟨h1,h2,o,h3,h4⟩ := mD.1 hi
     have hni : i ∉ done := λhm => by rw [(hl i h1).2 hm] at h2; cases h2
     obtain ⟨ii,hii⟩ : ∃ ii,is[i]? = some ii := ⟨_,af7 ajK⟩
     obtain ⟨o',SJ,lF⟩ := bU i ii hii
     rw [ahD,h3] at SJ; cases SJ
     have aaW : ∀ e ∈ (dJ ops).getD i [],e ∈ done := by
       intro z hz
       have aF := ES i z hz
       unfold dJ at hz
       rw [agW,ago,ahD,h3] at hz
       simp only [af9,ahy,agp,ahB,aix] at hz
       obtain ⟨e,⟨he1,Wu⟩,rfl⟩ := hz
       exact (aaV e.on ajK).1 (h4 e he1 Wu)
     have eW : ∀ bJ H' β' a' w',R9 ⟨K.P,K.G,K.N⟩ is (dJ ops) k fuel (i :: done) bJ H' -> aO K β' bJ H' a' w' -> wpAny K.P .any ops Q fuel (listed.setIfInBounds i true) a' w' := by
       intro bJ H' β' a' w' q1 q2
       refine ih (i :: done) _ bJ H' a' w' β' anA (ah3.2 ⟨hni,yo⟩) (by simp [j9]) (λj hj => ?_) (λz hz => ?_) q1 q2
       · rw [ags,ahI]
         by_cases e : i = j
         · subst e; simp [j9,h1]
         · rw [af8 e,<- ags,hl j hj]
           simp [agQ e]
       · rcases aga.1 hz with rfl | hz
         · exact h1
         · exact xD z hz
     simp only [wpOp,h3]
     exact te hr lF (k := λe h => R9 ⟨K.P,K.G,K.N⟩ is (dJ ops) k fuel (i :: done) e h) eW (hA i ii hii hni aaW)
def HV {β:Lb->Option Nat} (hr:aO K β env H a w) {id:Nat} {ops:Array Oper} (hm:K.P.follows .mixedOrders=true) {is:List bd}
  (bV:dN (λo i=>oH K.P K.G ops o=some (bd.lU i)) ops.toList is) (hb:((dJ ops).zipIdx.all λp=>p.1.all λe=>decide (e<p.2))=true) {k:Env->Hp->Prop} {Q:Exit->Act->World->Prop}
  (hk:∀bJ H' β' a' w',k bJ H'->aO K β' bJ H' a' w'->Q .normal a' w') (hA:R9 ⟨K.P,K.G,K.N⟩ is (dJ ops) k is.length [] env H):(Code.region id ops true).wp K.P Q a w:=by
 obtain⟨hlen,bU⟩:=uH bV;simp only[aie] at hlen;rw[<-hlen] at hA;refine wp_region_any hm (HU bV (λj e he=> ?_) hk ops.size [] _ env H a _ β ajL .nil ajL (λi hi=> ?_) ajL hA hr.drew)
 ·have h1:=agJ.1 hb;rw[agW] at he;cases hj:(dJ ops)[j]? with
  |none=>rw[hj] at he;simp at he
  |some l=>
  rw[hj] at he;have:=h1 (l,j) (List.mk_mem_zipIdx_iff_getElem?.2 hj);have:=agJ.1 this e he;simpa using this
 rw[ags,aia,agc hi];simp
end

inductive Gh where
 |d_ (ns:List Nat)
 |tj (l:Lb) (d:Nat)
 |uJ (l q:Lb) (j:Nat)
 |own (d sz:Nat)
 |cut (n:Nat)
 |jf
 |sel
 |drw
inductive AC where
 |skip
 |seq (a b:AC)
 |cond (x:O) (a b:AC)
 |block (id:Nat) (c:AC)
 |loop (c:AC)
 |exit (id:Nat)
 |ret
 |nD (is:List bd)
 |nJ (is:List bd) (es:List (List Nat)) (fs:List Fp)
 |gh (g:Gh) (c:AC)
abbrev zzS (l:List bd) (x:AC):AC:= .seq (.nD l) x
def AC.sz:AC->Nat
 | .seq a b=>a.sz+b.sz+2
 | .cond _ a b=>a.sz+b.sz+2
 | .block _ c=>c.sz+3
 | .loop c=>c.sz+1
 | .gh _ c=>c.sz+1
 |_=>1
inductive It where
 |code (c:AC)
 |yF (id:Nat)
def It.sz:It->Nat
 | .code c=>c.sz
 | .yF _=>1
def wq:List It->Nat
 |[]=>0
 |i::r=>i.sz+wq r
def gi (id:Nat):List It->Option (List It)
 |[]=>none
 | .yF i::r=>if i=id then some r else gi id r
 |_::r=>gi id r
theorem uM {id:Nat}:∀{l r:List It},gi id l=some r->wq r<=wq l
 |[],r,h=>by simp[gi] at h
 | .yF i::l,r,h=>by
  simp only[gi] at h;split at h
  ·cases h;simp[wq]
  have:=uM h;simp only[wq];omega
 | .code c::l,r,h=>by
  simp only[gi] at h;have:=uM h;simp only[wq];omega
def AC.OB (c:AC):0<c.sz:=by cases c<;>simp[AC.sz]
def zj (ns:List Nat) (env:Env):Env:=λn=>if n∈ns then env n else .any
abbrev ir:=Exit->Env->Hp->Prop

inductive CIt where
 |code (c:Code)
 |yF (id:Nat)
def PH (P:Program) (Qh:Exit->Act->World->Prop):List CIt->Exit->Act->World->Prop
 |[]=>Qh
 | .code c::k=>Exit.then (c.wp P (PH P Qh k)) (PH P Qh k)
 | .yF id::k=>Exit.inBlock id (PH P Qh k)
def AC.bare:AC->AC
 | .seq a b=> .seq a.bare b.bare
 | .cond x a b=> .cond x a.bare b.bare
 | .block id c=> .block id c.bare
 | .loop c=> .loop c.bare
 | .nD is=> .nD (is.map bd.lU)
 | .nJ is es _=> .nJ (is.map bd.lU) es []
 | .gh _ c=>c.bare
 |c=>c
def wu (P:Program) (G:Nat->Option (List IV)) (ops:Array Oper):List Oper->Option (List bd)
 |[]=>some []
 |o::r=>(oH P G ops o).bind λi=>(wu P G ops r).map λs=>i::s
def xE (P:Program) (G:Nat->Option (List IV)) (ops:Array Oper):Nat->List Oper->Option (List bd)
 |_,[]=>some []
 |0,_::_=>none
 |n+1,o::r=>match De P o r with
  |some (d,es,r')=>(xE P G ops n r').map λs=>⟨some d,none,.Lt es⟩::s
  |none=>(oH P G ops o).bind λi=>(xE P G ops n r).map λs=>i::s
def eX (P:Program) (G:Nat->Option (List IV)):Code->Option AC
 | .skip=>some .skip
 | .seq a b=>(eX P G a).bind λx=>(eX P G b).map λy=> .seq x y
 | .cond c a b=>(co G c).bind λc=>(eX P G a).bind λx=>(eX P G b).map λy=> .cond c x y
 | .block id c=>(eX P G c).map λx=> .block id x
 | .loop c=>(eX P G c).map λx=> .loop x
 | .exit id=>some (.exit id)
 | .ret=>some .ret
 | .region _ ops false=>(xE P G ops ops.toList.length ops.toList).map .nD
 | .region _ ops true=>if P.follows .mixedOrders=true then(wu P G ops ops.toList).map λis=> .nJ is (dJ ops) [] else none
 |_=>none
inductive W2 (P:Program) (G:Nat->Option (List IV)):CIt->It->Prop
 |code {c:Code} {x:AC}:eX P G c=some x.bare->W2 P G (.code c) (.code x)
 |yF (id:Nat):W2 P G (.yF id) (.yF id)
def lift (K:Kx) (Q:ir) (e:Exit) (a:Act) (w:World):Prop:=∃env H β,Q e env H/\aO K β env H a w
def SOK (K:Kx) (Q:ir) (ck:List CIt) (env:Env) (H:Hp):Prop:=∀β a w,aO K β env H a w->PH K.P (lift K Q) ck .normal a w
def oL (S:St) (Q:ir) (c:AC) (k:List It) (env:Env) (H:Hp):Prop:=
 ∀(K:Kx),(⟨K.P,K.G,K.N⟩:St)=S->(∀l,live K.H0 l->l.entry=true)->∀c0 ck,eX S.P S.G c0=some c.bare->dN (W2 S.P S.G) ck k->SOK K Q (.code (.loop c0)::ck) env H
def eE (S:St) (env:Env) (H:Hp) (env2:Env) (H2:Hp):Prop:=
 ∀(K:Kx) (β:Lb->Option Nat) (a:Act) (w:World),(⟨K.P,K.G,K.N⟩:St)=S->(∀l,live K.H0 l->l.entry=true)->aO K β env H a w->∃β',aO K β' env2 H2 a w
def Choice (S:St) (env:Env) (H:Hp) (T:Type) (E:T->Env) (HH:T->Hp):Prop:=
 ∀(K:Kx) (β:Lb->Option Nat) (a:Act) (w:World),(⟨K.P,K.G,K.N⟩:St)=S->(∀l,live K.H0 l->l.entry=true)->aO K β env H a w->∃t β',aO K β' (E t) (HH t) a w
def Cut (n:Nat) (f:Env->Hp->Prop) (env:Env) (H:Hp):Prop:=f env H
def go (S:St) (Q:ir):List It->Env->Hp->Prop
 |[]=>λenv H=>Q .normal env H
 | .yF _::k=>go S Q k
 | .code .skip::k=>go S Q k
 | .code (.seq a b)::k=>go S Q (.code a:: .code b::k)
 | .code (.cond x a b)::k=>λenv H=>∃t,ev env x= .bool t/\(t=true->go S Q (.code a::k) env H)/\(t=false->go S Q (.code b::k) env H)
 | .code (.block id c)::k=>go S Q (.code c:: .yF id::k)
 | .code (.loop c)::k=>oL S Q c k
 | .code (.exit id)::k=>match h:gi id k with
  |some k'=>go S Q k'
  |none=>λenv H=>Q (.exit id) env H
 | .code .ret::_=>λenv H=>Q .ret env H
 | .code (.nD is)::k=>λenv H=>AO S is env H (go S Q k)
 | .code (.nJ is es fs)::k=>λenv H=>JZ is es fs=true/\qh S (items 0 is fs) env H (go S Q k)
 | .code (.gh g c)::k=>match g with
  | .d_ ns=>λenv H=>go S Q (.code c::k) (zj ns env) H
  | .tj l d=>λenv H=>∃sz xs i n,env d= .sl l sz i n/\H l= .live ⟨sz,ak xs⟩/\l.fresh=true/\i+n<=xs.length/\Flat xs /\
    go S Q (.code c::k) (put env d (.list ((xs.drop i).take n))) (aS H l .dead)
  | .uJ l q j=>λenv H=>∃sz xs i n cs,H q= .live ⟨cs.length,[cs]⟩/\cs[j]?=some (.sl l sz i n)/\H l= .live ⟨sz,ak xs⟩/\l.fresh=true/\l≠q/\i+n<=xs.length/\Flat xs /\
    go S Q (.code c::k) env (aS (aS H l .dead) q (.live ⟨cs.length,[cs.set j (.list ((xs.drop i).take n))]⟩))
  | .own d sz=>λenv H=>env d= .nil0/\0<sz/\H (.loc d)= .unused/\go S Q (.code c::k) (put env d (.sl (.loc d) sz 0 0)) (aS H (.loc d) (.live ⟨sz,[]⟩))
  | .cut n=>Cut n (go S Q (.code c::k))
  | .jf=>λenv H=>∃env2 H2,eE S env H env2 H2/\go S Q (.code c::k) env2 H2
  | .sel=>λenv H=>∃(T:Type) (E:T->Env) (HH:T->Hp),Choice S env H T E HH/\∀t,go S Q (.code c::k) (E t) (HH t)
  | .drw=>match c with
   | .nJ is es _=>λenv H=>(es.zipIdx.all λp=>p.1.all λe=>decide (e<p.2))=true/\R9 S is es (go S Q k) is.length [] env H
   |_=>λ_ _=>False
termination_by k=>wq k
decreasing_by
 all_goals simp only[wq,It.sz,AC.sz]
 all_goals first|omega|(have:=uM h;omega)
def uO {S:St} {Q:ir} {id:Nat} {k k':List It} (h:gi id k=some k'):go S Q (.code (.exit id)::k)=go S Q k':=by
 grind [go]
def uQ {S:St} {Q:ir} {id:Nat} {k:List It} (h:gi id k=none):go S Q (.code (.exit id)::k)=Q (.exit id):=by
 grind [go]
section
variable {K:Kx} {β:Lb->Option Nat} {env:Env} {H:Hp} {a:Act} {w:World}
theorem zk (P:Program) (Qh:Exit->Act->World->Prop):∀(ck:List CIt) (a:Act) (w:World),Qh .ret a w->PH P Qh ck .ret a w
 |[],a,w,h=>h
 | .code c::k,a,w,h=>by simp only[PH,Exit.then];exact zk P Qh k a w h
 | .yF id::k,a,w,h=>by simp only[PH,Exit.inBlock];exact zk P Qh k a w h
theorem oM {P:Program} {G:Nat->Option (List IV)} (Qh:Exit->Act->World->Prop) {id:Nat}:∀(ck:List CIt) (k:List It),dN (W2 P G) ck k ->
  match gi id k with
  |some k'=>∃NQ,dN (W2 P G) NQ k'/\∀a w,PH P Qh NQ .normal a w->PH P Qh ck (.exit id) a w
  |none=>∀a w,Qh (.exit id) a w->PH P Qh ck (.exit id) a w
 |_,_,.nil=>by simp only[gi];exactλa w h=>h
 |_,_,@dN.cons _ _ _ _ _ ck k h1 h2=>by
  cases h1 with
  |code hc=>
   have ih:=oM Qh (id:=id) ck k h2;simp only[gi];split<;>rename_i hp<;>rw[hp] at ih<;>simp only at ih
   ·obtain⟨NQ,e1,e2⟩:=ih;exact⟨NQ,e1,λa w h=>by simp only[PH];exact e2 a w h⟩
   exactλa w h=>by simp only[PH];exact ih a w h
  |yF i=>
  have ih:=oM Qh (id:=id) ck k h2;simp only[gi];by_cases e:i=id
  ·simp only[e];exact⟨ck,h2,λa w h=>by simp only[PH,Exit.inBlock];exact h⟩
  simp[e,agk];split<;>rename_i hp<;>rw[hp] at ih<;>simp only at ih
  ·obtain⟨NQ,e1,e2⟩:=ih;exact⟨NQ,e1,λa w h=>by simp only[PH,Exit.inBlock,agQ e];exact e2 a w h⟩
  exactλa w h=>by simp only[PH,Exit.inBlock,agQ e];exact ih a w h
theorem qE {P:Program} {G:Nat->Option (List IV)} {ops:Array Oper}:∀(l:List Oper) (is:List bd),wu P G ops l=some (is.map bd.lU)->dN (λo i=>oH P G ops o=some (bd.lU i)) l is
 |[],is,h=>by
  simp[wu] at h;have:is=[]:=ajV
  subst this;exact .nil
 |o::r,is,h=>by
  simp only[wu] at h;obtain⟨i,h1,h⟩:=pY h;obtain⟨s,h2,h3⟩:=ku h;cases is with
  |nil=>simp at h3
  |cons j is=>
  simp at h3;obtain⟨rfl,rfl⟩:=h3;exact .cons h1 (qE r is h2)
def aO.zj (hr:aO K β env H a w) (ns:List Nat):aO K β (Am.zj ns env) H a w:=
 ⟨hr.defers,hr.size,λn=>by unfold Am.zj;split;exact hr.jc n;simp[RV],hr.rows,hr.own,hr.inj,λn l hl=>by
  unfold Am.zj at hl;split at hl
  ·exact hr.iq n l hl
  simp[AV.aq] at hl,hr.cB,hr.frame,hr.iO,hr.jv,hr.fr⟩
def yG (hr : aO K β env H a w) (d : Nat) {x : AV} (hx : RV w β H (Im K β H) x (a.tmps.getD d undef)) (hm : ∀ l ∈ x.aq, H l ≠ .unused) : aO K β (put env d x) H a w :=
  ⟨hr.defers, hr.size, fun n => by unfold put; split; · next h => subst h; exact hx
                                   · exact hr.jc n, hr.rows, hr.own, hr.inj, fun n l hl => by
    unfold put at hl; split at hl
    · grind
    · exact hr.iq n l hl, hr.cB, hr.frame, hr.iO, hr.jv, hr.fr⟩
def HW (hr:aO K β env H a w) {l:Lb} {sz:Nat} {xs:List IV} {i n:Nat} {v:Value} (hl:H l= .live ⟨sz,ak xs⟩) (hf:l.fresh=true) (qe:i+n<=xs.length) (ux:Flat xs)
  (hv:RV w β H (Im K β H) (.sl l sz i n) v):RV w β (aS H l .dead) (Im K β (aS H l .dead)) (.list ((xs.drop i).take n)) v:=by
 have aT:∀q,live (aS H l .dead) q->live H q/\q≠l:=by
  rintro q ⟨r,h⟩;by_cases e:q=l
  ·subst e;simp at h
  rw[an _ _ e] at h;exact⟨⟨r,h⟩,e⟩
 have hk:jt w w (Im K β H) (Im K β (aS H l .dead)):=⟨λk hk hs=>⟨⟨hk.1,λq hq=>hk.2 q (aT q hq).1⟩,hs,rfl⟩⟩;obtain⟨ad,c,rfl,h2,h3,h4,h5⟩:=hv;simp only[RV,iM];have hlen:((xs.drop i).take n).length=n:=ajV
 rw[hlen];refine⟨ad,c,rfl,h2,h3,?_⟩;by_cases hn:n=0
 ·grind
 right;rcases h5 ⟨_,hl⟩ with h6|⟨g,S,e1,e2,e3,e4⟩
 ·omega
 obtain⟨cur,e0,cap,k1,k2,k3,k4,k5⟩:=(hr.rows l _ hl).block e1;have j9:0<sz:=(hr.rows l _ hl).1;have Od:Im K β (aS H l .dead) g:=⟨.inr (hr.fr l g ⟨_,hl⟩ hf e1),λq hq hb=>(aT q hq).2 (hr.inj q l g (aT q hq).1 ⟨_,hl⟩ hb e1)⟩;refine⟨g,i*sz,sz,e2,Od,(agS.1 k1).1,j9,mB _ _ _ (λk y hy=> ?_)⟩;have td:xs[i+k]?=some y:=by
  grind
 rw[hQ];have yA:y.cells.length=sz:=by
  have:=(hr.rows l _ hl).2.1 (y.cells.map IV.dw) (by
   simp;exact aiA (f:=λy:IV=>y.cells.map IV.dw) (af3 td))
  grind
 refine⟨yA.symm,kI _ _ _ (λj z hz=> ?_)⟩;obtain⟨u,q1,q2⟩:=k5 (i+k) j (y.cells.map IV.dw) z.dw (by simp[ak,td]) ajV;refine⟨u,?_,zg hk (ux y (af3 td) z (af3 hz)) q2⟩;rw[cell_of_row w g _ cur e0 (0,0) k1,<-q1]
 grind
theorem zl {P:Program} {G:Nat->Option (List IV)} {ops:Array Oper}:∀(n:Nat) (l:List Oper) (is:List bd),xE P G ops n l=some (is.map bd.lU)->SL P G ops l is
 |n,[],is,h=>by
  have:is=[]:=by simp_all[xE]
  subst this;exact .nil
 |0,_::_,is,h=>by simp[xE] at h
 |n+1,o::r,is,h=>by
  simp only[xE] at h;split at h
  ·rename_i d es r' hm;obtain⟨s,h2,h3⟩:=ku h;cases is with
   |nil=>simp at h3
   |cons j is=>
   simp at h3;obtain⟨h4,rfl⟩:=h3;have:j=⟨some d,none,.Lt es⟩:=by
    cases j with
    |mk jd jg ji=>
    simp[bd.lU,bd.mk.injEq] at h4;obtain⟨rfl,rfl,h5⟩:=h4;rw[rB h5.symm rfl]
   subst this;exact .lit hm (zl n r' is h2)
  obtain⟨i,h1,h⟩:=pY h;obtain⟨s,h2,h3⟩:=ku h;cases is with
  |nil=>simp at h3
  |cons j is=>
  simp at h3;obtain⟨rfl,rfl⟩:=h3;exact .cons h1 (zl n r is h2)
theorem hZ {P:Program} {G:Nat->Option (List IV)} {c0:Code} {x:AC} (h:eX P G c0=some x) :
  match x with
  | .skip=>c0= .skip
  | .seq x y=>∃a b,c0= .seq a b/\eX P G a=some x/\eX P G b=some y
  | .cond o x y=>∃c a b,c0= .cond c a b/\co G c=some o/\eX P G a=some x/\eX P G b=some y
  | .block id x=>∃a,c0= .block id a/\eX P G a=some x
  | .loop x=>∃a,c0= .loop a/\eX P G a=some x
  | .exit id=>c0= .exit id
  | .ret=>c0= .ret
  | .nD is=>∃id ops,c0= .region id ops false/\xE P G ops ops.toList.length ops.toList=some is
  | .nJ is es fs=>∃id ops,c0= .region id ops true/\P.follows .mixedOrders=true/\es=dJ ops/\wu P G ops ops.toList=some is
  | .gh _ _=>False:=by
 cases c0 with
 |skip=>grind [eX,afZ]
 |seq a b=>
  simp only[eX] at h;obtain⟨x1,h1,h⟩:=pY h;obtain⟨y1,h2,rfl⟩:=ku h
  grind
 |cond c a b=>
  simp only[eX] at h;obtain⟨c1,h0,h⟩:=pY h;obtain⟨x1,h1,h⟩:=pY h;obtain⟨y1,h2,rfl⟩:=ku h
  grind
 |block id a=>
  simp only[eX] at h;obtain⟨y1,h2,rfl⟩:=ku h
  grind
 |loop a=>
  simp only[eX] at h;obtain⟨y1,h2,rfl⟩:=ku h
  grind
 |exit id=>grind [eX,afZ]
 |ret=>grind [eX,afZ]
 |region id ops draw=>
  cases draw with
  |true=>
   simp only[eX] at h;split at h
   ·rename_i hm;obtain⟨is,h2,rfl⟩:=ku h
    grind
   grind
  |false=>
  simp only[eX] at h;obtain⟨is,h2,rfl⟩:=ku h
  grind
 |rangeFunc _ _ _ _=>grind [eX]
 |scope _=>grind [eX]
 |label _=>grind [eX]
 |goto _=>grind [eX]
 |refuse _=>grind [eX]
def go_sound (hS:∀l,live K.H0 l->l.entry=true) (Q:ir):∀(n:Nat) (k:List It) (ck:List CIt),wq k<=n->dN (W2 K.P K.G) ck k ->
  ∀env H,go ⟨K.P,K.G,K.N⟩ Q k env H->SOK K Q ck env H:=by
 intro n;induction n with
 |zero=>
  intro k ck hn hc env H hg β a w hr;cases hc with
  |nil=>
   rw[go] at hg;exact⟨env,H,β,hg,hr⟩
  |@cons x i ck k h1 h2=>
  cases i with
  |code c=>have:=c.OB;simp only[wq,It.sz] at hn;omega
  |yF id=>simp only[wq,It.sz] at hn;omega
 |succ n ih=>
 intro k ck hn hc env H hg β a w hr;cases hc with
 |nil=>
  rw[go] at hg;exact⟨env,H,β,hg,hr⟩
 |@cons x i ck k h1 h2=>
 cases h1 with
 |yF id=>
  rw[go] at hg;simp only[PH,Exit.inBlock];exact ih k ck (by simp only[wq,It.sz] at hn;omega) h2 env H hg β a w hr
 |@code c0 c lF=>
 simp only[PH,Exit.then];have EU:=c.OB;cases c with
 |skip=>
  rw[go] at hg;simp only[AC.bare] at lF;have e:=hZ lF;simp only at e;subst e;exact wp_skip (ih k ck aky h2 env H hg β a w hr)
 |seq x y=>
  rw[go] at hg;obtain⟨x0,y0,rfl,e1,e2⟩:=hZ lF;refine wp_seq ?_;have:=ih (.code x:: .code y::k) (.code x0:: .code y0::ck) akx (.cons (.code e1) (.cons (.code e2) h2)) env H hg β a w hr;simpa only[PH,Exit.then] using this
 |cond x y z=>
  rw[go] at hg;obtain⟨o0,y0,z0,rfl,e0,e1,e2⟩:=hZ lF;obtain⟨t,ht,g1,g2⟩:=hg;have hv:=hr.ev e0;rw[ht] at hv;simp only[RV] at hv;refine wp_cond_split hv ?_ ?_<;>intro h
  ·have:=ih (.code y::k) (.code y0::ck) akx (.cons (.code e1) h2) env H (g1 h) β a w hr;simpa only[PH,Exit.then] using this
  have:=ih (.code z::k) (.code z0::ck) akx (.cons (.code e2) h2) env H (g2 h) β a w hr;simpa only[PH,Exit.then] using this
 |block id c=>
  rw[go] at hg;obtain⟨c1,rfl,e1⟩:=hZ lF;refine wp_block ?_;have:=ih (.code c:: .yF id::k) (.code c1:: .yF id::ck) akx (.cons (.code e1) (.cons (.yF id) h2)) env H hg β a w hr;simpa only[PH,Exit.then] using this
 |loop c=>
  rw[go] at hg;obtain⟨c1,rfl,e1⟩:=hZ lF;have:=hg K rfl hS c1 ck e1 h2 β a w hr;simpa only[PH,Exit.then] using this
 |exit id=>
  simp only[AC.bare] at lF;have e:=hZ lF;simp only at e;subst e;have hp:=oM (P:=K.P) (G:=K.G) (lift K Q) (id:=id) ck k h2;refine wp_exit ?_;cases uE:gi id k with
  |some k'=>
   rw[uO uE] at hg;rw[uE] at hp;obtain⟨NQ,e1,e2⟩:=hp;have:=uM uE;exact e2 a w (ih k' NQ aky e1 env H hg β a w hr)
  |none=>
  rw[uQ uE] at hg;rw[uE] at hp;exact hp a w ⟨env,H,β,hg,hr⟩
 |ret=>
  simp only[AC.bare] at lF;have e:=hZ lF;simp only at e;subst e;rw[go] at hg;exact wp_ret (zk _ _ _ _ _ ⟨env,H,β,hg,hr⟩)
 |nD is=>
  obtain⟨id,ops,rfl,e1⟩:=hZ lF;rw[go] at hg;refine wp_region_list ?_;refine Ov (λbJ H' β' a' w' q1 q2=> ?_) (zl _ _ _ e1) env H a w β hg hr;exact ih k ck aky h2 bJ H' q1 β' a' w' q2
 |nJ is es fs=>
  obtain⟨id,ops,rfl,hm,rfl,e1⟩:=hZ lF;rw[go] at hg;refine ET hr hm (qE _ _ e1) hg.1 (λbJ H' β' a' w' q1 q2=> ?_) hg.2;exact ih k ck aky h2 bJ H' q1 β' a' w' q2
 |gh g c=>
 have OC:eX K.P K.G c0=some c.bare:=lF;have mf:∀bJ H',go ⟨K.P,K.G,K.N⟩ Q (.code c::k) bJ H'->∀β',aO K β' bJ H' a w->c0.wp K.P (PH K.P (lift K Q) ck) a w:=by
  intro bJ H' h β' qf;have:=ih (.code c::k) (.code c0::ck) akx (.cons (.code OC) h2) bJ H' h β' a w qf;simpa only[PH,Exit.then] using this
 cases g with
 |d_ ns=>rw[go] at hg;exact mf _ _ hg β (hr.zj ns)
 |cut m=>rw[go] at hg;exact mf _ _ hg β hr
 |jf=>
  rw[go] at hg;obtain⟨env2,H2,g1,g2⟩:=hg;obtain⟨β',qf⟩:=g1 K β a w rfl hS hr;exact mf _ _ g2 β' qf
 |sel=>
  rw[go] at hg;obtain⟨T,E,HH,g1,g2⟩:=hg;obtain⟨t,β',qf⟩:=g1 K β a w rfl hS hr;exact mf _ _ (g2 t) β' qf
 |drw=>
  cases c with
  |nJ is es fs=>
   obtain⟨id,ops,rfl,hm,rfl,e1⟩:=hZ OC;rw[go] at hg;refine HV hr hm (qE _ _ e1) hg.1 (λbJ H' β' a' w' q1 q2=> ?_) hg.2;exact ih k ck aky h2 bJ H' q1 β' a' w' q2
  |_=>(rw[go] at hg)<;>first|exact hg.elim|(intro _ _ _ h;cases h)
 |own d sz=>
  rw[go] at hg;obtain⟨g1,g2,g3,g4⟩:=hg;have h3:=hr.qx (.loc d) g3 (r:=⟨sz,[]⟩) (Below.refl _ _) none ajL ajL ⟨g2,ajL,ajL⟩;have hv:=h3.jc d;rw[g1] at hv;simp only[RV] at hv;obtain⟨ad,hv⟩:=hv;exact mf _ _ g4 _ (yG h3 d (by rw[hv];simp only[RV];exact⟨ad,0,rfl,af6 _,akZ,ajL,λ_=> .inl rfl⟩) ajP)
 |tj l d=>
  rw[go] at hg;obtain⟨sz,xs,i,n,g1,g2,g3,g4,g5,g6⟩:=hg;have hv:=hr.jc d;rw[g1] at hv;exact mf _ _ g6 _ (yG (hr.kill l (by rw[g2];simp)) d (HW hr g2 g3 g4 g5 hv) ajP)
 |uJ l q j=>
 rw[go] at hg;obtain⟨sz,xs,i,n,cs,g1,g2,g3,g4,g5,g6,g7,g8⟩:=hg;have hk:=hr.kill l (by rw[g3];simp);have hq:aS H l .dead q= .live ⟨cs.length,[cs]⟩:=by rw[an _ _ (agQ g5)];exact g1
 have j9:0<cs.length:=(hr.rows q _ g1).1;cases hb:β q with
 |none=>
  have:=(hr.rows q _ g1).2.2;simp[hb] at this
 |some g=>
 obtain⟨cur,e0,cap,k1,k2,k3,k4,k5⟩:=(hr.rows q _ g1).block hb;obtain⟨cur',e0',afI,k1',k2',k3',k4',k5'⟩:=(hk.rows q _ hq).block hb;rw[k1] at k1';cases k1';have kE:j<cs.length:=(afY.1 g2).1;have kH:=hk.setRow q (r':=⟨cs.length,[cs.set j (.list ((xs.drop i).take n))]⟩) (cur':=cur) (cap:=cap) hq hb k1 rfl rfl k2 k3 amM ajL
  (by
   intro ds Bw p hp;simp at Bw;subst Bw;have:p∈ai cs:=by
    obtain⟨y,hy,R_⟩:∃y∈cs.set j (.list ((xs.drop i).take n)),p∈y.aq:=by
     generalize cs.set j (.list ((xs.drop i).take n))=ds at hp;induction ds with
     |nil=>simp[ai] at hp
     |cons y r ih2=>
     simp only[ai,agi] at hp;rcases hp with hp|hp
     ·exact⟨y,ajL,hp⟩
     obtain⟨z,hz,hpz⟩:=ih2 hp;exact⟨z,akI,hpz⟩
    rcases ahq hy with hy|rfl
    ·obtain⟨m,hm⟩:=agE hy;exact dW _ _ _ hm p R_
    simp[AV.aq] at R_
   have:=hk.cB q _ hq cs ajL p this;exact this)
  (by
   intro i' j' ds x0 gT nI;cases i' with
   |succ i'=>simp at gT
   |zero=>
   simp at gT;subst gT;by_cases e:j'=j
   ·subst e;rw[ahj kE] at nI;cases nI;obtain⟨v,q1,q2⟩:=k5 0 j' cs _ ajL g2;exact⟨v,q1,HW hr g3 g4 g6 g7 q2⟩
   rw[ahg (agQ e)] at nI;exact k5' 0 j' cs x0 ajL nI)
 have et:w.setRow g cur=w:=setRow_self w g cur e0 (0,0) k1;rw[et] at kH;exact mf _ _ g8 _ kH
end

abbrev RO:=Option (Option Nat)×Nat
def J1 (P:Program):ResultVar->Option RO
 | .tmp t=>some (none,t)
 | .cell a t=>(Sr P t).map λm=>(some m,a)
def wv (P:Program):List ResultVar->Option (List RO)
 |[]=>some []
 |r::s=>(J1 P r).bind λx=>(wv P s).map λy=>x::y
def qF (r:RO) (env:Env) (H:Hp):Option AV:=
 match r.1 with
 |none=>some (env r.2)
 |some m=>eV m (env r.2) H
def eY (env:Env) (H:Hp):List RO->Option (List AV)
 |[]=>some []
 |r::s=>(qF r env H).bind λx=>(eY env H s).map λy=>x::y
def fw:List AV->AV
 |[x]=>x
 |xs=> .bq xs
def eZ (rs:List RO) (R:AV->Hp->Prop):ir:=λe env H=>(e= .normal\/e= .ret)/\∃xs,eY env H rs=some xs/\R (fw xs) H
def fH (args:List AV):Env:=λn=>args.getD n .un
def dK (P:Program) (G:Nat->Option (List IV)) (f:Nat):Option (Nat×List RO×AC):=
 (P.funcs[f]?).bind λfn=>fn.body.bind λc=>(wv P fn.results.toList).bind λrs=>(eX P G c).map λx=>(fn.ntmps,rs,x)
section
variable {K:Kx} {β:Lb->Option Nat} {env:Env} {H:Hp} {a:Act} {w:World}
theorem HX (hr:aO K β env H a w) {rv:ResultVar} {r:RO} (hc:J1 K.P rv=some r) {x:AV} (hx:qF r env H=some x) :
  ∃v,(match rv with
   | .tmp t=>(pure (a.tmps.getD t undef):Sem Value)
   | .cell b t=>do loadVar t (<-asAddr (a.tmps.getD b undef))).run K.P w= .ok v w/\RV w β H (Im K β H) x v/\∀l∈x.aq,H l≠ .unused:=by
 cases rv with
 |tmp t=>
  simp only[J1,afZ] at hc;subst hc;simp only[qF,afZ] at hx;subst hx;exact⟨_,ajL,hr.jc t,hr.iq t⟩
 |cell b t=>
 simp only[J1] at hc;obtain⟨m,h1,rfl⟩:=ku hc;simp only[qF] at hx;obtain⟨v,q1,q3,q4⟩:=JP (o:={(default:Oper) with op:= .load t (.tmp b)}) (x':= .t b) hr rfl h1 rfl hx;have hv:=hr.jc b;cases he:env b with
 |ptr l sz i j=>
  rw[he] at hv;simp only[RV] at hv;obtain⟨ad,e1,e2⟩:=hv;simp only[execOp,Act.eval,e1,Instr.loadAt,Instr.sureAddr,Sem.run_bind,Sem.run_pure,Result.andThen_ok] at q1;refine⟨v,?_,q3,q4⟩;simp only[e1,asAddr,Sem.run_bind,Sem.run_pure,Result.andThen_ok];cases hl:(loadVar t ad).run K.P w with
  |ok u w2=>
   rw[hl] at q1;simp only[Result.andThen_ok,Result.ok.injEq] at q1;obtain⟨q1,rfl⟩:=q1;cases q1;rfl
  |_=>rw[hl] at q1;simp at q1
 |_=>rw[he] at hx;simp[eV] at hx
theorem xF (hr:aO K β env H a w):∀(rvs:List ResultVar) (rs:List RO) (xs:List AV),wv K.P rvs=some rs->eY env H rs=some xs ->
  ∃vs,(rvs.mapM (m:=Sem) fun
   | .tmp t=>(pure (a.tmps.getD t undef):Sem Value)
   | .cell b t=>do loadVar t (<-asAddr (a.tmps.getD b undef))).run K.P w= .ok vs w/\bA w β H (Im K β H) xs vs/\∀l∈ai xs,H l≠ .unused
 |[],rs,xs,hc,hx=>by
  simp only[wv,afZ] at hc;subst hc;simp only[eY,afZ] at hx;subst hx;exact⟨[],ajL,by simp[bA],by simp[ai]⟩
 |rv::rvs,rs,xs,hc,hx=>by
  simp only[wv] at hc;obtain⟨r,h1,hc⟩:=pY hc;obtain⟨rs',h2,rfl⟩:=ku hc;simp only[eY] at hx;obtain⟨x,h3,hx⟩:=pY hx;obtain⟨zh,h4,rfl⟩:=ku hx;obtain⟨v,e1,e2,e3⟩:=HX hr h1 h3;obtain⟨vs,k1,k2,k3⟩:=xF hr rvs rs' zh h2 h4;refine⟨v::vs,?_,⟨v,vs,rfl,e2,k2⟩,?_⟩
  ·rw[List.mapM_cons];simp only[Sem.run_bind,e1,Result.andThen_ok,k1,Sem.run_pure]
  intro l hl;simp only[ai,agi] at hl;rcases hl with hl|hl
  ·exact e3 l hl
  exact k3 l hl
def BB (hr:aO K β env H a w) {fn:Func} {rs:List RO} {xs:List AV} (hc:wv K.P fn.results.toList=some rs) (hx:eY env H rs=some xs) :
  ∃v,(results fn a.tmps).run K.P w= .ok v w/\RV w β H (Im K β H) (fw xs) v/\∀l∈(fw xs).aq,H l≠ .unused:=by
 obtain⟨vs,h1,h2,h3⟩:=xF hr _ _ _ hc hx;have hlen:=bA.len _ _ h2;have mm:(results fn a.tmps).run K.P w= .ok (if h:vs.toArray.size=1 then vs.toArray[0] else .tuple vs.toArray) w:=by
  unfold results;rw[Array.mapM_eq_mapM_toList];simp only[Sem.run_bind,Sem.run_pure,map_eq_pure_bind];exact(ahp (λr:Result (List Value)=>(r.andThen λa w'=>Result.ok a.toArray w').andThen λa w'=>Result.ok (if h:a.size=1 then a[0] else Value.tuple a) w') h1).trans rfl
 refine⟨_,mm,?_⟩
 match xs,h2,h3,hlen with
 |[],h2,h3,hlen=>
  simp only[bA] at h2;subst h2;simp[fw,RV,bA,AV.aq,ai]
 |[x],h2,h3,hlen=>
  simp only[bA] at h2;obtain⟨v,us,rfl,e1,rfl⟩:=h2;simp only[fw];exact⟨amL,λl hl=>h3 l (by simp[ai,hl])⟩
 |x::y::r,h2,h3,hlen=>
  have:vs.toArray.size≠1:=by simp;simp at hlen;omega
  rw[dif_neg this];simp only[fw,RV,AV.aq];exact⟨⟨vs,rfl,h2⟩,h3⟩
def OD (args:List AV) (n:Nat) (l:Lb) (h:l∈(fH args n).aq):l∈ai args:=by
 unfold fH at h;rw[agW] at h;cases hx:args[n]? with
 |none=>rw[hx] at h;simp[AV.aq] at h
 |some x=>rw[hx] at h;exact dW _ _ _ hx l aj6
def e_ {P:Program} {G:Nat->Option (List IV)} {f:Nat} {n:Nat} {rs:List RO} {ac:AC} {args:List AV} {R:AV->Hp->Prop}
   (hF:dK P G f=some (n,rs,ac.bare)) (hn:args.length<=n) (adL:∀l,live H l->l.entry=true) (hm:∀l∈ai args,H l≠ .unused)
   (hg:go ⟨P,G,n⟩ (eZ rs R) [.code ac] (fH args) H):er P G f args H R:=by
 unfold dK at hF
 obtain⟨fn,hf,hF⟩:=pY hF
 obtain⟨c,hb,hF⟩:=pY hF
 obtain⟨rs',pg,hF⟩:=pY hF
 obtain⟨x,Vm,hF⟩:=ku hF
 simp only[agq] at hF
 obtain⟨rfl,rfl,rfl⟩:=hF
 intro w A β vs hr hv
 have hlen:=bA.len _ _ hv
 refine calls_of_wp hf hb ?_
 have j9:vs.toArray.size=args.length:=anH
 let K:Kx:=⟨P,G,w,A,JV β H,fn.ntmps,H,β⟩
 have od:aO K β (fH args) H {tmps:=vs.toArray++Array.replicate (fn.ntmps - vs.toArray.size) undef,defers:=[]} w:=
   { defers := rfl
     size:=by simp only[Array.size_append,Array.size_replicate,j9,K];omega
     jc := fun m => by
       have bU:(vs.toArray++Array.replicate (fn.ntmps - vs.toArray.size) undef).getD m undef=(vs[m]?).getD undef:=by
         rw[ags]
         by_cases OE:m<vs.length
         · rw[ai6 (by simpa using OE)];simp
         rw[Array.getElem?_append_right ajY,aia]
         rw[agK ajK]
         split<;>simp
       simp only
       rw[bU]
       unfold fH
       rw[agW]
       cases hx:args[m]? with
       |none=>
         have:vs[m]?=none:=by
           rw[aiB] at hx ⊢;omega
         rw[this];simp[RV,undef]
       |some y=>
       obtain⟨u,h1,h2⟩:=bA.get _ _ _ _ hv hx
       rw[h1];exact h2
     rows:=hr.rows
     own:=hr.own
     inj:=hr.inj
     iq:=λm l hl=>hm l (OD args m l hl)
     cB:=hr.cB
     frame:=hr.frame
     iO:=hr.iO
     jv:=hr.jv
     fr:=hr.fr}
 have bV:dN (W2 P G) [.code c] [.code ac]:= .cons (.code Vm) .nil
 have:=go_sound (K:=K) adL (eZ rs' R) (wq [.code ac]) [.code ac] [.code c] (af6 _) bV (fH args) H hg β _ w od
 simp only[PH,Exit.then] at this
 refine wp_mono this ?_
 intro e a' w' hq
 have key:∀a' w',(lift K (eZ rs' R) .normal a' w'\/lift K (eZ rs' R) .ret a' w')->a'.defers=[]/\∃v,(results fn a'.tmps).run P w'= .ok v w' /\
     ∃v' x H' β',Ending.returned v= .returned v'/\R x H'/\aO (cH P G w A β H) β' Env.any H' sO w' /\
     RV w' β' H' (Im (cH P G w A β H) β' H') x v'/\∀l∈x.aq,H' l≠ .unused:=by
   intro a' w' h
   have:∃e bJ H' β',eZ rs' R e bJ H'/\aO K β' bJ H' a' w':=by
     rcases h with⟨bJ,H',β',h⟩|⟨bJ,H',β',h⟩<;>exact⟨_,bJ,H',β',h⟩
   obtain⟨e,bJ,H',β',⟨_,xs,h1,h2⟩,h3⟩:=this
   obtain⟨v,k1,k2,k3⟩:=BB h3 pg h1
   refine⟨h3.defers,v,k1,v,_,H',β',rfl,h2,?_,k2,k3⟩
   exact
     { defers := rfl
       size:=rfl
       jc:=λm=>by simp[Env.any,RV]
       rows:=h3.rows
       own:=h3.own
       inj:=h3.inj
       iq:=λm=>by simp[Env.any,AV.aq]
       cB:=h3.cB
       frame:=h3.frame
       iO:=h3.iO
       jv:=h3.jv
       fr:=h3.fr}
 cases e with
 |normal=>exact key a' w' (.inl hq)
 |ret=>exact key a' w' (.inr hq)
 |panic ch=>obtain⟨_,_,_,⟨h,_⟩,_⟩:=hq;simp at h
 |exit id=>obtain⟨_,_,_,⟨h,_⟩,_⟩:=hq;simp at h
 |goto l=>obtain⟨_,_,_,⟨h,_⟩,_⟩:=hq;simp at h
 |outgrown=>obtain⟨_,_,_,⟨h,_⟩,_⟩:=hq;simp at h
def au {P:Program} {G:Nat->Option (List IV)} {f:Nat} {n:Nat} {rs:List RO} {ac:AC} {args:List AV} {res:AV}
  (hF:dK P G f=some (n,rs,ac.bare)) (hn:args.length<=n) (hl:ai args=[]) (uj:res.aq=[])
  (hg:go ⟨P,G,n⟩ (eZ rs λx _=>x=res) [.code ac] (fH args) Hp.none):aj P G f args res:=
 ⟨hl,uj,e_ hF hn (λl ⟨r,h⟩=>by simp[Hp.none] at h) ame hg⟩
end

structure Wk (ρ:Lb->Lb) (env:Env) (H:Hp) (env2:Env) (H2:Hp):Prop where
 e:∀n,env2 n= .any\/env n=aH ρ (env2 n)
 h:∀l r,H2 l= .live r->H (ρ l)= .live (aP ρ r)
 inj:∀l l',live H2 l->live H2 l'->ρ l=ρ l'->l=l'
 m:∀n,∀l∈(env2 n).aq,H2 l≠ .unused
 rm:∀l r,H2 l= .live r->∀cs∈r.els,∀q∈ai cs,H2 q≠ .unused
 st:∀l,l.entry=true->(H l≠ .unused->H2 l≠ .unused)/\(live H2 l->ρ l=l)
 fr:∀l,live H2 l->l.fresh=true->(ρ l).fresh=true
def EV {σ:Type} (S:St) (Q:ir) (k:List It) (E:σ->Env) (HH:σ->Hp) (μ:σ->Nat) (n:Nat):ir:=λe env H=>
 match e with
 | .normal=>∃s,μ s<n/\∃ρ,Wk ρ env H (E s) (HH s)
 | .exit id=>match gi id k with
  |some k'=>go S Q k' env H
  |none=>Q (.exit id) env H
 | .ret=>Q .ret env H
 |_=>False
def Wk.rel {K:Kx} {β:Lb->Option Nat} {env:Env} {H:Hp} {a:Act} {w:World} {ρ:Lb->Lb} {env2:Env} {H2:Hp} (hS:∀l,live K.H0 l->l.entry=true) (h:Wk ρ env H env2 H2) (hr:aO K β env H a w) :
  aO K (λl=>β (ρ l)) env2 H2 a w:=
 hr.jf ρ h.e h.h h.inj h.m h.rm (λl hl=>⟨(h.st l (hS l hl)).1 (hr.jv l hl).1,(h.st l (hS l hl)).2⟩) h.fr
def jJ {σ:Type} {S:St} {Q:ir} {c:AC} {k:List It} {env:Env} {H:Hp} (E:σ->Env) (HH:σ->Hp) (μ:σ->Nat) (s0:σ) (ρ:Lb->Lb) (h0:Wk ρ env H (E s0) (HH s0))
  (round:∀s,go S (EV S Q k E HH μ (μ s)) [.code c] (E s) (HH s)):oL S Q c k env H:=by
 intro K hKS hS c0 ck hc bV β a w hr;subst hKS;simp only[PH,Exit.then];refine wp_loop_ghost (λn a w=>∃s β,μ s=n/\aO K β (E s) (HH s) a w) (μ s0) ⟨s0,_,rfl,h0.rel hS hr⟩ ?_;rintro n a w ⟨s,β,rfl,hr⟩;have hs:=go_sound (K:=K) hS _ (wq [.code c]) [.code c] [.code c0] (af6 _) (.cons (.code hc) .nil) (E s) (HH s) (round s) β a w hr;simp only[PH,Exit.then] at hs;refine wp_mono hs ?_;rintro e a' w' ⟨bJ,H',β',hq,qf⟩;cases e with
 |normal=>
  obtain⟨s',aF,ρ',hw⟩:=hq;exact⟨μ s',aF,s',_,rfl,hw.rel hS qf⟩
 |exit id=>
  have hp:=oM (P:=K.P) (G:=K.G) (lift K Q) (id:=id) ck k bV;simp only[EV] at hq;show PH K.P (lift K Q) ck (.exit id) a' w';cases uE:gi id k with
  |some k'=>
   rw[uE] at hp hq;obtain⟨NQ,e1,e2⟩:=hp;exact e2 a' w' (go_sound (K:=K) hS Q (wq k') k' NQ (af6 _) e1 bJ H' hq β' a' w' qf)
  |none=>
  rw[uE] at hp hq;exact hp a' w' ⟨bJ,H',β',hq,qf⟩
 |ret=>exact zk _ _ _ _ _ ⟨bJ,H',β',hq,qf⟩
 |goto l=>exact hq.elim
 |panic ch=>exact hq.elim
 |outgrown=>exact hq.elim

inductive Tk {α:Type 1} (a:α):Type
 |mk
inductive Tp (a c:Prop):Type
 |mk
inductive Tv {α:Type} (a:α->Prop):Type
 |mk
inductive Tw (a:AV->Hp->Prop):Type
 |mk
def yp (o:Option AV) (k:AV->Prop) (_:Tv k):Prop:=∃x,o=some x/\k x
def gB (x:AV) (t:Bool) (A B:Prop) (_:Tp A B):Prop:=
 match x with
 | .bool b=>if b=t then A else B
 | .un=>B
 |_=>False
def cK (x:AV) (A B:Prop) (_:Tp A B):Prop:=
 match x with
 | .bool b=>if b=true then A else B
 |_=>False
def hK (o:Option Hp) (k:Hp->Prop) (_:Tv k):Prop:=∃x,o=some x/\k x
def pK (o:Option (AV×Hp)) (k:AV->Hp->Prop) (_:Tw k):Prop:=∃x h,o=some (x,h)/\k x h
def Hm (S:St) (f:Nat) (args:List AV) (H:Hp) (k:AV->Hp->Prop) (_:Tw k):Prop:=oG S f args H k
def puK (S:St) (f:Nat) (args:List AV) (k:AV->Prop) (_:Tv k):Prop:=∃x,aj S.P S.G f args x/\k x
section
variable {S:St} {Q:ir} {env:Env} {H:Hp} {k:List It}
def OF (x:AV) (k:AV->Prop) (u:Tv k):yp (some x) k u=k x:=by simp[yp]
def SK (x:Hp) (k:Hp->Prop) (u:Tv k):hK (some x) k u=k x:=by simp[hK]
def SM (x:AV) (h:Hp) (k:AV->Hp->Prop) (u:Tw k):pK (some (x,h)) k u=k x h:=by
 simp only[pK,afZ,agq];apply propext;constructor
 ·rintro⟨_,_,⟨rfl,rfl⟩,h⟩;exact h
 intro h;exact⟨_,_,⟨rfl,rfl⟩,h⟩
def aaX (A B:Prop) (u:Tp A B):gB (.bool true) true A B u=A:=anw
def aaY (A B:Prop) (u:Tp A B):gB (.bool false) true A B u=B:=anw
def Vn (A B:Prop) (u:Tp A B):gB (.bool true) false A B u=B:=anw
def Vo (A B:Prop) (u:Tp A B):gB (.bool false) false A B u=A:=anw
def adM (t:Bool) (A B:Prop) (u:Tp A B):gB .un t A B u=B:=anw
def adN (A B:Prop) (u:Tp A B):cK (.bool true) A B u=A:=by simp[cK]
def adO (A B:Prop) (u:Tp A B):cK (.bool false) A B u=B:=by simp[cK]
def W3 (k:Env->Hp->Prop):AO S [] env H k=k env H:=rfl
def SN (n:Nat) (i:ju) (r:List bd) (k:Env->Hp->Prop) :
  AO S (⟨some n,none,i⟩::r) env H k=(n<S.N/\dX S (some n) i env H λx H'=>AO S r (put env n x) H' k):=by
 simp[AO,gW,eh]
def SO (i:ju) (r:List bd) (k:Env->Hp->Prop) :
  AO S (⟨none,none,i⟩::r) env H k=dX S none i env H λx H'=>AO S r env H' k:=by
 simp[AO,gW,eh]
def OG (n s:Nat) (t:Bool) (i:ju) (r:List bd) (k:Env->Hp->Prop) :
  AO S (⟨some n,some (s,t),i⟩::r) env H k=(n<S.N/\gB (env s) t (dX S (some n) i env H λx H'=>AO S r (put env n x) H' k) (AO S r (put env n .un) H k) .mk):=by
 simp only[AO,gW,eh];cases he:env s<;>simp[gB,he];rename_i b;cases b<;>cases t<;>simp
def LQ (s:Nat) (t:Bool) (i:ju) (r:List bd) (k:Env->Hp->Prop) :
  AO S (⟨none,some (s,t),i⟩::r) env H k=gB (env s) t (dX S none i env H λx H'=>AO S r env H' k) (AO S r env H k) .mk:=by
 simp only[AO,gW,eh];cases he:env s<;>simp[gB,he];rename_i b;cases b<;>cases t<;>simp
def OH (j n:Nat) (i:ju) (f:Fp) (r:List (Nat×bd×Fp)) (k:Env->Hp->Prop) :
  qh S ((j,⟨some n,none,i⟩,f)::r) env H k=(n<S.N/\bR S f (some n) i env H λx H'=>qh S r (put env n x) H' k):=by
 simp[qh,Es,gW,eh]
def OI (j:Nat) (i:ju) (f:Fp) (r:List (Nat×bd×Fp)) (k:Env->Hp->Prop) :
  qh S ((j,⟨none,none,i⟩,f)::r) env H k=bR S f none i env H λx H'=>qh S r env H' k:=by
 simp[qh,Es,gW,eh]
def LR (j n s:Nat) (t:Bool) (i:ju) (f:Fp) (r:List (Nat×bd×Fp)) (k:Env->Hp->Prop) :
  qh S ((j,⟨some n,some (s,t),i⟩,f)::r) env H k=(n<S.N/\gB (env s) t (bR S f (some n) i env H λx H'=>qh S r (put env n x) H' k) (qh S r (put env n .un) H k) .mk):=by
 simp only[qh,Es,gW,eh];cases he:env s<;>simp[gB,he];rename_i b;cases b<;>cases t<;>simp
def W4:go S Q [] env H=Q .normal env H:=akY
def W5 (id:Nat):go S Q (.yF id::k) env H=go S Q k env H:=akY
def SP:go S Q (.code .skip::k) env H=go S Q k env H:=akY
def W6 (a b:AC):go S Q (.code (.seq a b)::k) env H=go S Q (.code a:: .code b::k) env H:=akY
def SQ (x:O) (a b:AC):go S Q (.code (.cond x a b)::k) env H=cK (ev env x) (go S Q (.code a::k) env H) (go S Q (.code b::k) env H) .mk:=by
 rw[go];unfold cK;apply propext;constructor
 ·rintro⟨t,h1,h2,h3⟩;rw[h1];cases t
  ·simpa using h3 rfl
  simpa using h2 rfl
 intro h;split at h
 ·rename_i t e;refine⟨t,e,λe2=> ?_,λe2=> ?_⟩<;>subst e2<;>simpa using h
 exact h.elim
def OJ (id:Nat) (c:AC):go S Q (.code (.block id c)::k) env H=go S Q (.code c:: .yF id::k) env H:=akY
def SR (c:AC):go S Q (.code (.loop c)::k) env H=oL S Q c k env H:=akY
def W7:go S Q (.code .ret::k) env H=Q .ret env H:=akY
def W8 (is:List bd):go S Q (.code (.nD is)::k) env H=AO S is env H (go S Q k):=akY
def SS (ns:List Nat) (c:AC):go S Q (.code (.gh (.d_ ns) c)::k) env H=go S Q (.code c::k) (zj ns env) H:=akY
def W9 (l:Lb) (d:Nat) (c:AC):go S Q (.code (.gh (.tj l d) c)::k) env H=∃sz xs i n,env d= .sl l sz i n/\H l= .live ⟨sz,ak xs⟩/\l.fresh=true/\i+n<=xs.length/\Flat xs /\
 go S Q (.code c::k) (put env d (.list ((xs.drop i).take n))) (aS H l .dead):=akY
def W_ (d sz:Nat) (c:AC):go S Q (.code (.gh (.own d sz) c)::k) env H=(env d= .nil0/\0<sz/\H (.loc d)= .unused/\go S Q (.code c::k) (put env d (.sl (.loc d) sz 0 0)) (aS H (.loc d) (.live ⟨sz,[]⟩))):=akY
def ec (c:AC):go S Q (.code (.gh .jf c)::k) env H=∃env2 H2,eE S env H env2 H2/\go S Q (.code c::k) env2 H2:=akY
def OK (c:AC):go S Q (.code (.gh .sel c)::k) env H=∃(T:Type) (E:T->Env) (HH:T->Hp),Choice S env H T E HH/\∀t,go S Q (.code c::k) (E t) (HH t):=akY
theorem SU (id:Nat):go S Q (.code (.exit id)::k) env H=match gi id k with
  |some k'=>go S Q k' env H
  |none=>Q (.exit id) env H:=by
 cases h:gi id k with
 |some k'=>rw[uO h]
 |none=>rw[uQ h]
def tl (n:Nat) (i:bd) (is:List bd) (f:Fp) (fs:List Fp):items n (i::is) (f::fs)=(n,i,f)::items (n+1) is fs:=rfl
def SV (d:Option Nat) (m:Option Nat) (a:O) (k:AV->Hp->Prop):dX S d (.load m a) env H k=(yp (aw (.load m a) env) (λx=>k x H) .mk\/yp (eV m (ev env a) H) (λx=>k x H) .mk):=rfl
def Vp (m:Option Nat) (x:AV) (H:Hp):Option AV:=
 match x with
 | .lptr cs=>match m with
  |none=>cs[0]?.map IV.dw
  |some k=>if k<=cs.length then some (.agg ((cs.take k).map IV.dw)) else none
 |x=>eV m x H
def aaZ (d:Option Nat) (m:Option Nat) (a:O) (k:AV->Hp->Prop):dX S d (.load m a) env H k=yp (Vp m (ev env a) H) (λx=>k x H) .mk:=by
 rw[SV];unfold Vp;split
 ·rename_i cs e;simp only[aw,e,eV,yp];apply propext;constructor
  ·rintro(h|⟨x,h,_⟩)
   ·exact h
   simp at h
  exact .inl
 rename_i x cf;have:aw (.load m a) env=none:=by
  simp only[aw]
 rw[this];simp[yp]
def Xa (n:Nat) (cs:List AV) (k:AV->Hp->Prop):dX S (some n) (.new cs) env H k=(H (.loc n)= .unused/\0<cs.length/\cs.length<=maxLen /\
  k (.ptr (.loc n) cs.length 0 0) (aS H (.loc n) (.live ⟨cs.length,[cs]⟩))):=by
 simp[dX]
def LS (x:AV) (n:Nat) (H:Hp) (k:AV->Hp->Prop):Prop:=H (.loc n)= .unused/\x.Bq=true/\0<x.cells.length/\x.cells.length<=maxLen /\
 k (.ptr (.loc n) x.cells.length 0 0) (aS H (.loc n) (.live ⟨x.cells.length,[x.cells]⟩))
def Xb (n:Nat) (x:O) (k:AV->Hp->Prop):dX S (some n) (.box x) env H k=LS (ev env x) n H k:=by
 simp[dX,LS]
def OL (m:Nat) (a x:O) (k:AV->Hp->Prop):dX S none (.store m a x) env H k=hK (kF m (ev env a) (ev env x) H) (λH'=>k .un H') .mk:=by
 simp[dX,hK]
def Xc (n:Nat) (s x:O) (sz b:Nat) (k:AV->Hp->Prop):dX S (some n) (.app s x sz b) env H k=pK (iQ sz b n (ev env s) (ev env x) H) k .mk:=by
 simp only[dX,pK,afZ];apply propext;constructor
 ·rintro⟨_,rfl,h⟩;exact h
 intro h;exact⟨_,rfl,h⟩
def SW (d:Option Nat) (f:Nat) (args:List O) (k:AV->Hp->Prop):dX S d (.call f args) env H k=Hm S f (args.map (ev env)) H k .mk:=rfl
def ah {f:Nat} {args:List AV} {res:AV} {k:AV->Hp->Prop} (h:aj S.P S.G f args res) (hk:k res H) {u:Tw k}:Hm S f args H k u:= .inl ⟨res,h,hk⟩
def HY {f:Nat} {args bW:List AV} {res:AV} {k:AV->Hp->Prop} (h:aj S.P S.G f bW res) (ha:dN (C_ H) args bW) (hs:res.scalar=true) (hk:k res H) {u:Tw k}:Hm S f args H k u:= .inr (.inl ⟨bW,res,ha,h,hs,hk⟩)
def dG {f:Nat} {args:List AV} {res:AV} {k:AV->Prop} (h:aj S.P S.G f args res) (hk:k res) {u:Tv k}:puK S f args k u:=⟨res,h,hk⟩
def OM d m a (k:AV->Hp->Prop):bR S .no d (.load m a) env H k=yp (aw (.load m a) env) (λx=>k x H) .mk:=by simp only[bR,Quiet,yp,agI]
def SX (d:Option Nat) (f:Nat) (args:List O) (k:AV->Hp->Prop):bR S .no d (.call f args) env H k=puK S f (args.map (ev env)) (λx=>k x H) .mk:=by
 simp[bR,Quiet,aw,puK]
def tm (env:Env) (n m:Nat) (x:AV):put env n x m=if m=n then x else env m:=rfl
end
abbrev stL (A:ju->Prop):Prop:=(∀x y z u,A (.ixp x y z u))/\(∀x,A (.ea x))/\(∀x y z,A (.pick x y z))/\(∀x y,A (.Va x y))/\(∀x y z,A (.ZV x y z))/\(∀x y,A (.ixs x y))/\(∀x,A (.len x))/\(∀x,A (.lens x))/\(∀x y z u v,A (.Bd x y z u v))/\(∀x y z,A (.Ls x y z))/\(∀x y z,A (.bin x y z))/\(∀x y z,A (.eqb x y z))/\(∀x y z,A (.eqp x y z))/\(∀x y z,A (.eqi x y z))/\(∀x y z u,A (.N1 x y z u))/\(∀x,A (.not x))/\(∀x y,A (.max x y))/\(∀x y,A (.min x y))/\(∀x y,A (.ext x y))/\(∀x y,A (.ZW x y))/\(∀x y z u,A (.lits x y z u))/\(∀x,A (.N2 x))/\(∀x y,A (.ZX x y))/\(∀x y,A (.cvi x y))/\(∀x,A (.cvb x))/\(∀x,A (.cvt x))/\(∀x,A (.Lt x))/\(∀x y,A (.N5 x y))/\(∀x y z,A (.ZZ x y z))/\(∀x y z,A (.N4 x y z))/\(∀x y z u,A (.Ht x y z u))
def EW:stL λi=>∀(S:St) (env:Env) (H:Hp) d (k:AV->Hp->Prop),dX S d i env H k=yp (aw i env) (λx=>k x H) .mk:=by dsimp only[stL];and_intros<;>intros<;>rfl
def SY:stL λi=>∀(S:St) (env:Env) (H:Hp) d (k:AV->Hp->Prop),bR S .no d i env H k=yp (aw i env) (λx=>k x H) .mk:=by dsimp only[stL];and_intros<;>intros<;>simp only[bR,Quiet,yp,agI]
def EX:=And.intro @OM SY

def og (ρ:Lb->Lb) (env:Env):∀n,Env.any n= .any\/env n=aH ρ (Env.any n):=λ_=> .inl rfl
def cz {ρ:Lb->Lb} {env e:Env} {d:Nat} {x:AV} (h1:env d=aH ρ x) (h2:∀n,e n= .any\/env n=aH ρ (e n)):∀n,put e d x n= .any\/env n=aH ρ (put e d x n):=by
 intro n;unfold put;split
 ·next h=>subst h;exact .inr h1
 exact h2 n
def Dh (H:Hp):∀n,∀l∈(Env.any n).aq,H l≠ .unused:=by simp[Env.any,AV.aq]
def kK {H:Hp} {e:Env} {d:Nat} {x:AV} (h1:∀l∈x.aq,H l≠ .unused) (h2:∀n,∀l∈(e n).aq,H l≠ .unused):∀n,∀l∈(put e d x n).aq,H l≠ .unused:=by
 intro n;unfold put;split
 ·exact h1
 exact h2 n
mutual
theorem Di:∀x:AV,aH id x=x
 | .sl ..| .slk ..| .ptr ..| .any| .un| .bool _| .int ..| .str _| .list _| .nil0| .mT| .jS| .lptr _| .mis _=>by simp[aH]
 | .agg cs=>by simp[aH,rD cs]
 | .bq cs=>by simp[aH,rD cs]
 | .fn f fs cs=>by simp[aH,rD fs,rD cs]
 | .ifc t x=>by simp[aH,Di x]
theorem rD:∀xs:List AV,aA id xs=xs
 |[]=>by simp[aA]
 |x::r=>by simp[aA,Di x,rD r]
end
def Dj (r:Row):aP id r=r:=by
 obtain⟨sz,els⟩:=r;simp only[aP,Row.mk.injEq,agt];rw[show aA id=id from funext rD];simp
def Wk.same {env:Env} {H:Hp} {env2:Env} (e:∀n,env2 n= .any\/env n=aH id (env2 n)) (m:∀n,∀l∈(env2 n).aq,H l≠ .unused)
  (rm:∀l r,H l= .live r->∀cs∈r.els,∀q∈ai cs,H q≠ .unused):Wk id env H env2 H:=
 ⟨e,λl r h=>by rw[Dj];exact h,λ_ _ _ _ h=>h,m,rm,λl _=>⟨id,λ_=>rfl⟩,λ_ _ h=>h⟩
def Wk.none {env env2:Env} (e:∀n,env2 n= .any\/env n=aH id (env2 n)) (m:∀n,∀l∈(env2 n).aq,Hp.none l≠ .unused):Wk id env Hp.none env2 Hp.none:=
 .same e m an0
theorem wrap64 {n:Int} (h1: -9223372036854775808<=n) (h2:n<=9223372036854775807):IntKind.i64.wrap n=n:=by rw[IntKind.wrap_i64];omega
theorem w1 (i:Nat) (h:(i:Int)+1<=9223372036854775807:=by omega):IntKind.i64.wrap ((i:Int)+1)=((i+1:Nat):Int):=wrap64 ajK h
def dT {i n:Nat} (h:i<n):decide ((i:Int)<(n:Int))=true:=aj6
def dF {i n:Nat} (h:¬i<n):decide ((i:Int)<(n:Int))=false:=aj6
def gE {α:Type} {l:List α} {i:Nat} (h:i<l.length):∃x,l[i]?=some x:=⟨_,af7 h⟩
section
variable {σ:Type} {S:St} {Q:ir} {k:List It} {E:σ->Env} {HH:σ->Hp} {μ:σ->Nat} {n:Nat} {env:Env} {H:Hp}
def adP:EV S Q k E HH μ n .normal env H=∃s,μ s<n/\∃ρ,Wk ρ env H (E s) (HH s):=rfl
theorem adQ (id:Nat):EV S Q k E HH μ n (.exit id) env H=match gi id k with
 |some k'=>go S Q k' env H
 |none=>Q (.exit id) env H:=rfl
def adR:EV S Q k E HH μ n .ret env H=Q .ret env H:=rfl
def SZ (id:Nat):gi id []=none:=rfl
def S0 (id i:Nat) (r:List It):gi id (.yF i::r)=if i=id then some r else gi id r:=rfl
def ON (id:Nat) (c:AC) (r:List It):gi id (.code c::r)=gi id r:=rfl
def OO (is:List bd) (es:List (List Nat)) (fs:List Fp):go S Q (.code (.nJ is es fs)::k) env H=(JZ is es fs=true/\qh S (items 0 is fs) env H (go S Q k)):=akY
def S1 (l q:Lb) (j:Nat) (c:AC):go S Q (.code (.gh (.uJ l q j) c)::k) env H=∃sz xs i n cs,H q= .live ⟨cs.length,[cs]⟩/\cs[j]?=some (.sl l sz i n)/\H l= .live ⟨sz,ak xs⟩/\l.fresh=true/\l≠q/\i+n<=xs.length/\Flat xs /\
 go S Q (.code c::k) env (aS (aS H l .dead) q (.live ⟨cs.length,[cs.set j (.list ((xs.drop i).take n))]⟩)):=akY
def B7 (rs:List RO) (R:AV->Hp->Prop):eZ rs R .ret env H=∃xs,eY env H rs=some xs/\R (fw xs) H:=by simp[eZ]
def fF (rs:List RO) (R:AV->Hp->Prop):eZ rs R .normal env H=∃xs,eY env H rs=some xs/\R (fw xs) H:=by simp[eZ]
def cJ (t:Nat) (R:AV->Hp->Prop):eZ [(none,t)] R .ret env H=R (env t) H:=ami
def rE (m:Option Nat) (t:Nat) (R:AV->Hp->Prop):eZ [(some m,t)] R .ret env H=yp (eV m (env t) H) (λx=>R x H) .mk:=by
 simp only[eZ,eY,qF,yp];cases eV m (env t) H<;>simp[fw]
def S2 (m:Option Nat) (t:Nat) (R:AV->Hp->Prop):eZ [(some m,t)] R .normal env H=yp (eV m (env t) H) (λx=>R x H) .mk:=by
 simp only[eZ,eY,qF,yp];cases eV m (env t) H<;>simp[fw]
def Xd (t:Nat) (R:AV->Hp->Prop):eZ [(none,t)] R .normal env H=R (env t) H:=ami
end
section
variable {S:St} {env:Env} {H:Hp}
def S3 (j:Nat) (f:List Fp) (k:Env->Hp->Prop):qh S (items j [] f) env H k=k env H:=rfl
def OP (j n:Nat) (i:ju) (f:Fp) (r:List bd) (fs:List Fp) (k:Env->Hp->Prop) :
 qh S (items j (⟨some n,none,i⟩::r) (f::fs)) env H k=(n<S.N/\bR S f (some n) i env H λx H'=>qh S (items (j+1) r fs) (put env n x) H' k):=by rw[tl,OH]
def OQ (j:Nat) (i:ju) (f:Fp) (r:List bd) (fs:List Fp) (k:Env->Hp->Prop) :
 qh S (items j (⟨none,none,i⟩::r) (f::fs)) env H k=bR S f none i env H λx H'=>qh S (items (j+1) r fs) env H' k:=by rw[tl,OI]
def LU (j n s:Nat) (t:Bool) (i:ju) (f:Fp) (r:List bd) (fs:List Fp) (k:Env->Hp->Prop) :
 qh S (items j (⟨some n,some (s,t),i⟩::r) (f::fs)) env H k=(n<S.N/\gB (env s) t (bR S f (some n) i env H λx H'=>qh S (items (j+1) r fs) (put env n x) H' k) (qh S (items (j+1) r fs) (put env n .un) H k) .mk):=by rw[tl,LR]
end
def evs:=And.intro @W4 (And.intro @W5 (And.intro @SP (And.intro @W6 (And.intro @OJ (And.intro @SR (And.intro @W7 (And.intro @W8 (And.intro @SS (And.intro @W_ (And.intro @W9 (And.intro @S1 (And.intro @OO (And.intro @SQ (And.intro @SU (And.intro @W3 (And.intro @SN (And.intro @SO (And.intro @OG (And.intro @LQ (And.intro @S3 (And.intro @OP (And.intro @OQ (And.intro @LU (And.intro @aaZ (And.intro @Xa (And.intro @Xb (And.intro @OL (And.intro @Xc (And.intro @SW (And.intro @SX (And.intro @cJ (And.intro @Xd (And.intro @rE (And.intro @S2 (And.intro @adP (And.intro @adQ (@adR)))))))))))))))))))))))))))))))))))))
def evp:=And.intro @OF (And.intro @SK (And.intro @SM (And.intro @aaX (And.intro @aaY (And.intro @Vn (And.intro @Vo (And.intro @adM (And.intro @adN (And.intro @adO (And.intro @tm (And.intro @SZ (And.intro @S0 (@ON)))))))))))))

def Flat.one {xs:List IV} (h:Flat xs):∀cs∈ak xs,AV.oF cs:=by
 intro cs aZ y hy;simp only[ak,agp] at aZ;obtain⟨z,hz,rfl⟩:=aZ;obtain⟨c,hc,rfl⟩:=agp.1 hy;have:=h z hz c hc;cases c<;>simp[IV.dw,AV.one];exact absurd rfl (this _)
def jT {sz:Nat} {xs:List IV} {H:Hp} (h:dV sz xs):kG sz (.list xs) H=some (ak xs):=by
 simp[kG,h,ak]
def J2 {sz b d:Nat} {xs:List IV} {H:Hp} (he:dV sz xs) (hf:Flat xs) (hb:xs.length*b<=140737488355328) (h0:0<b) (hu:H (.loc d)= .unused) :
  iQ sz b d .nil0 (.list xs) H=some (.sl (.loc d) sz 0 xs.length,aS H (.loc d) (.live ⟨sz,ak xs⟩)):=by
 unfold iQ;rw[jT he,af_,af8 al'];have:(ak xs).length=xs.length:=alL
 simp only;rw[agc ⟨by rw[this];exact hb,h0,hu⟩,this]
def Dk {sz b d n:Nat} {l:Lb} {els:List (List AV)} {xs:List IV} {H:Hp} (hl:H l= .live ⟨sz,els⟩) (hn:n<=els.length) (he:dV sz xs) (hf:Flat xs) (hb:(n+xs.length)*b<=140737488355328) (h0:0<b)
  (hd:l≠l.app d) (hu:H (l.app d)= .unused) :
  iQ sz b d (.sl l sz 0 n) (.list xs) H=some (.sl (l.app d) sz 0 (n+xs.length),aS (aS H l .dead) (l.app d) (.live ⟨sz,els.take n++ak xs⟩)):=by
 unfold iQ;rw[jT he,af_,af8 al'];have:(ak xs).length=xs.length:=alL
 simp only[hl];rw[agc ⟨rfl,rfl,rfl,hn,by rw[this];exact hb,h0,hd,hu⟩,this]
def S4 (ρ:Lb->Lb) (x:IV):aH ρ x.dw=x.dw:=by cases x<;>simp[IV.dw,aH]
theorem lG (ρ:Lb->Lb):∀xs:List IV,aA ρ (xs.map IV.dw)=xs.map IV.dw
 |[]=>by simp[aA]
 |x::r=>by simp[aA,S4,lG ρ r]
def EY (ρ:Lb->Lb) (sz:Nat) (xs:List IV):aP ρ ⟨sz,ak xs⟩=⟨sz,ak xs⟩:=by
 simp[aP,ak,lG]
def S5 (x:IV):x.dw.aq=[]:=by cases x<;>simp[IV.dw,AV.aq]
theorem zm:∀xs:List IV,ai (xs.map IV.dw)=[]
 |[]=>rfl
 |x::r=>by simp[ai,S5,zm r]
theorem bc {xs:List IV} {cs:List AV} (h:cs∈ak xs):ai cs=[]:=by
 simp only[ak,agp] at h;obtain⟨y,_,rfl⟩:=h;exact zm _
def Wk.one {env env2:Env} {H:Hp} {l0 l1:Lb} {sz:Nat} {xs:List IV} (he:∀n,env2 n= .any\/env n=aH (λ_=>l1) (env2 n)) (hm:∀n,∀l∈(env2 n).aq,aS Hp.none l0 (.live ⟨sz,ak xs⟩) l≠ .unused)
  (h1:H l1= .live ⟨sz,ak xs⟩) (Sa:l0.fresh=true) (SH:l1.fresh=true) (hn:∀l,l.fresh=false->H l= .unused):Wk (λ_=>l1) env H env2 (aS Hp.none l0 (.live ⟨sz,ak xs⟩)):=by
 have hl:∀l r,aS Hp.none l0 (.live ⟨sz,ak xs⟩) l= .live r->l=l0/\r=⟨sz,ak xs⟩:=by
  intro l r h;by_cases e:l=l0
  ·subst e;simp at h;exact⟨rfl,h.symm⟩
  rw[an _ _ e] at h;simp[Hp.none] at h
 refine⟨he,λl r h=> ?_,λl l' ⟨r,h⟩ ⟨r',h'⟩ _=>(hl l r h).1.trans (hl l' r' h').1.symm,hm,λl r h cs aZ q hq=> ?_,λl hle=>⟨λh=>absurd (hn l (Lb.lC hle)) h,λ⟨r,h⟩=> ?_⟩,λ_ _ _=>SH⟩
 ·obtain⟨rfl,rfl⟩:=hl l r h;rw[EY];exact h1
 ·obtain⟨rfl,rfl⟩:=hl l r h;rw[bc aZ] at hq;simp at hq
 obtain⟨rfl,_⟩:=hl l r h;have lV:=Lb.lC hle;rw[Sa] at lV;simp at lV
def mn:∀l:Lb,l.fresh=false->Hp.none l= .unused:=λ_ _=>rfl
def gj {H:Hp} {n:Nat} {s:Slot} (h:∀l:Lb,l.fresh=false->H l= .unused):∀l:Lb,l.fresh=false->aS H (.loc n) s l= .unused:=by
 intro l hl;have:l≠ .loc n:=am2
 rw[an _ _ this];exact h l hl
def ae (H:Hp) (l q:Lb) (s:Slot):aS H l s q=if q=l then s else H q:=rfl
section
variable {S:St} {env:Env} {H:Hp}
def J3 (R W:List Lb) (d:Option Nat) (m:Option Nat) (a:O) (k:AV->Hp->Prop):bR S (.rw R W) d (.load m a) env H k=yp (eV m (ev env a) H) (λx=>(∀l∈ie (ev env a),l.ix∈R\/l.ix∈W)/\k x H) .mk:=by
 apply propext;simp only[bR,jx,cZ,bj,yp];constructor
 ·rintro⟨x,H',h1,h2,_,h3⟩;simp only[acF,agq] at h1;obtain⟨y,h1,rfl,rfl⟩:=h1;exact⟨y,h1,h2,h3⟩
 rintro⟨x,h1,h2,h3⟩;exact⟨x,H,by simp[h1],h2,ajL,h3⟩
def EZ (R W:List Lb) (m:Nat) (a x:O) (k:AV->Hp->Prop):bR S (.rw R W) none (.store m a x) env H k=hK (kF m (ev env a) (ev env x) H) (λH'=>(∀l∈ie (ev env a),l.ix∈W)/\k .un H') .mk:=by
 apply propext;simp only[bR,jx,cZ,bj,hK,agn];constructor
 ·rintro⟨x,H',h1,_,h2,h3⟩;simp only[acF,agq] at h1;obtain⟨y,h1,rfl,rfl⟩:=h1;exact⟨_,h1,h2,h3⟩
 rintro⟨x,h1,h2,h3⟩;exact⟨.un,x,by simp[h1],ajL,h2,h3⟩
def OR (R W:List Lb) (n:Nat) (cs:List AV) (k:AV->Hp->Prop):bR S (.rw R W) (some n) (.new cs) env H k=(H (.loc n)= .unused/\0<cs.length/\cs.length<=maxLen/\(Lb.loc n)∈W /\
  k (.ptr (.loc n) cs.length 0 0) (aS H (.loc n) (.live ⟨cs.length,[cs]⟩))):=by
 apply propext;simp only[bR,jx,cZ,bj,af_];constructor
 ·rintro⟨x,H',h1,_,h2,h3⟩;split at h1
  ·rename_i hc;simp only[afZ,agq] at h1;obtain⟨rfl,rfl⟩:=h1;exact⟨hc.1,hc.2.1,hc.2.2,h2 (.loc n) ajL,h3⟩
  simp at h1
 rintro⟨h1,h2,h3,h4,h5⟩;exact⟨_,_,by rw[agc ⟨h1,h2,h3⟩],ajL,by simpa[Lb.ix] using h4,h5⟩
def OS (R W:List Lb) (n:Nat) (x:O) (k:AV->Hp->Prop):bR S (.rw R W) (some n) (.box x) env H k=(Lb.loc n∈W/\LS (ev env x) n H k):=by
 apply propext;simp only[bR,jx,cZ,bj,af_,LS];constructor
 ·rintro⟨y,H',h1,_,h2,h3⟩;split at h1
  ·rename_i hc;simp only[afZ,agq] at h1;obtain⟨rfl,rfl⟩:=h1;exact⟨h2 (.loc n) ajL,hc.1,hc.2.1,hc.2.2.1,hc.2.2.2,h3⟩
  simp at h1
 rintro⟨h4,h1,h2,h3,h6,h5⟩;exact⟨_,_,by rw[agc ⟨h1,h2,h3,h6⟩],ajL,by simpa[Lb.ix] using h4,h5⟩
def BC (n:Nat) (s:AV):List Lb:=
 match s with
 | .sl l _ _ _=>[l,l.app n]
 | .slk l _ _ _ _=>[l,.loc n]
 |_=>[.loc n]
def OT (R W:List Lb) (n:Nat) (s x:O) (sz b:Nat) (k:AV->Hp->Prop):bR S (.rw R W) (some n) (.app s x sz b) env H k =
  pK (iQ sz b n (ev env s) (ev env x) H) (λy H'=>(∀l∈ie (ev env x),l.ix∈R\/l.ix∈W)/\(∀l∈BC n (ev env s),l.ix∈W)/\k y H') .mk:=by
 apply propext;have:bj (some n) (.app s x sz b) env=BC n (ev env s):=by
  simp only[bj,BC];cases ev env s<;>simp
 simp only[bR,jx,this,cZ,af_,pK]
end

def iX:List (Nat×AV)->Env
 |[]=>Env.any
 |(n,x)::r=>put (iX r) n x
def S6:iX []=Env.any:=rfl
def E0 (n:Nat) (x:AV) (r:List (Nat×AV)):iX ((n,x)::r)=put (iX r) n x:=rfl
def dp (ρ:Lb->Lb) (env:Env):List (Nat×AV)->Prop
 |[]=>True
 |(n,x)::r=>env n=aH ρ x/\dp ρ env r
def E4 (env:Env):List (Nat×AV)->Prop
 |[]=>True
 |(n,x)::r=>env n=x/\E4 env r
theorem dp.we {ρ:Lb->Lb} {env:Env}:∀{ps:List (Nat×AV)},dp ρ env ps->∀n,iX ps n= .any\/env n=aH ρ (iX ps n)
 |[],_=>og ρ env
 |(n,x)::r,h=>cz h.1 (dp.we h.2)
theorem E4.eql {env:Env}:∀{ps:List (Nat×AV)},E4 env ps->dp id env ps
 |[],_=>trivial
 |(n,x)::r,h=>⟨by rw[Di];exact h.1,E4.eql h.2⟩
theorem tn {H:Hp}:∀{ps:List (Nat×AV)},(∀l∈ai (ps.map Prod.snd),H l≠ .unused)->∀n,∀l∈(iX ps n).aq,H l≠ .unused
 |[],_=>Dh H
 |(n,x)::r,h=>kK (λl hl=>h l (by simp[ai,hl])) (tn λl hl=>h l (by simp only[agC,ai,agi];exact .inr hl))
def NF (H:Hp):Prop:=∀l:Lb,l.fresh=false->H l= .unused
def S7:NF Hp.none=True:=by simp[NF,Hp.none]
def Xe (H:Hp) (n:Nat) (s:Slot):NF (aS H (.loc n) s)=NF H:=by
 apply propext;constructor
 ·intro h l hl;have:=h l hl;have cf:l≠ .loc n:=by rintro rfl;simp[Lb.fresh] at hl
  rwa[an _ _ cf] at this
 exact gj
def qG {σ:Type} (S:St) (Q:ir) (k:List It) (W:Env->Hp->σ->Prop) (μ:σ->Nat) (n:Nat):ir:=λe env H=>
 match e with
 | .normal=>∃s,μ s<n/\W env H s
 | .exit id=>match gi id k with
  |some k'=>go S Q k' env H
  |none=>Q (.exit id) env H
 | .ret=>Q .ret env H
 |_=>False
def oN {σ:Type} {S:St} {Q:ir} {c:AC} {k:List It} {env:Env} {H:Hp} (E:σ->Env) (HH:σ->Hp) (W:Env->Hp->σ->Prop) (hW:∀env H s,W env H s->∃ρ,Wk ρ env H (E s) (HH s))
  (μ:σ->Nat) (s0:σ) (h0:W env H s0) (round:∀s,go S (qG S Q k W μ (μ s)) [.code c] (E s) (HH s)):oL S Q c k env H:=by
 intro K hKS hS c0 ck hc bV β a w hr;subst hKS;simp only[PH,Exit.then];obtain⟨ρ,h0⟩:=hW _ _ _ h0;refine wp_loop_ghost (λn a w=>∃s β,μ s=n/\aO K β (E s) (HH s) a w) (μ s0) ⟨s0,_,rfl,h0.rel hS hr⟩ ?_;rintro n a w ⟨s,β,rfl,hr⟩;have hs:=go_sound (K:=K) hS _ (wq [.code c]) [.code c] [.code c0] (af6 _) (.cons (.code hc) .nil) (E s) (HH s) (round s) β a w hr;simp only[PH,Exit.then] at hs;refine wp_mono hs ?_;rintro e a' w' ⟨bJ,H',β',hq,qf⟩;cases e with
 |normal=>
  obtain⟨s',aF,hw⟩:=hq;obtain⟨ρ',hw⟩:=hW _ _ _ hw;exact⟨μ s',aF,s',_,rfl,hw.rel hS qf⟩
 |exit id=>
  have hp:=oM (P:=K.P) (G:=K.G) (lift K Q) (id:=id) ck k bV;simp only[qG] at hq;show PH K.P (lift K Q) ck (.exit id) a' w';cases uE:gi id k with
  |some k'=>
   rw[uE] at hp hq;obtain⟨NQ,e1,e2⟩:=hp;exact e2 a' w' (go_sound (K:=K) hS Q (wq k') k' NQ (af6 _) e1 bJ H' hq β' a' w' qf)
  |none=>
  rw[uE] at hp hq;exact hp a' w' ⟨bJ,H',β',hq,qf⟩
 |ret=>exact zk _ _ _ _ _ ⟨bJ,H',β',hq,qf⟩
 |goto l=>exact hq.elim
 |panic ch=>exact hq.elim
 |outgrown=>exact hq.elim
mutual
theorem oO (ρ:Lb->Lb):∀x:AV,x.aq=[]->aH ρ x=x
 | .sl ..,h| .slk ..,h| .ptr ..,h=>by simp[AV.aq] at h
 | .any,_| .un,_| .bool _,_| .int ..,_| .str _,_| .list _,_| .nil0,_| .mT,_| .jS,_| .lptr _,_| .mis _,_=>by simp[aH]
 | .agg cs,h=>by simp only[AV.aq] at h;simp[aH,h_ ρ cs h]
 | .bq cs,h=>by simp only[AV.aq] at h;simp[aH,h_ ρ cs h]
 | .fn f fs cs,h=>by simp only[AV.aq,ah0] at h;simp[aH,h_ ρ fs h.1,h_ ρ cs h.2]
 | .ifc t x,h=>by simp only[AV.aq] at h;simp[aH,oO ρ x h]
theorem h_ (ρ:Lb->Lb):∀xs:List AV,ai xs=[]->aA ρ xs=xs
 |[],_=>by simp[aA]
 |x::r,h=>by simp only[ai,ah0] at h;simp[aA,oO ρ x h.1,h_ ρ r h.2]
end
def WD {σ:Type} (ps:σ->List (Nat×AV)) (env:Env) (H:Hp) (s:σ):Prop:=NF H/\E4 env (ps s)
def dj {σ:Type} {S:St} {Q:ir} {c:AC} {k:List It} {env:Env} {H:Hp} (ps:σ->List (Nat×AV)) (μ:σ->Nat) (s0:σ) (hl:∀s,ai ((ps s).map Prod.snd)=[]) (h0:WD ps env H s0)
  (round:∀s,go S (qG S Q k (WD ps) μ (μ s)) [.code c] (iX (ps s)) Hp.none):oL S Q c k env H:=
 oN (λs=>iX (ps s)) (λ_=>Hp.none) (WD ps) (λenv H s ⟨h1,h2⟩=>⟨id,h2.eql.we,λl r h=>by simp[Hp.none] at h,λ_ _ ⟨r,h⟩=>by simp[Hp.none] at h,tn (by rw[hl];simp),λl r h=>by simp[Hp.none] at h,
  λl hl=>⟨λh=>absurd (h1 l (Lb.lC hl)) h,λ_=>rfl⟩,λl ⟨r,h⟩=>by simp[Hp.none] at h⟩) μ s0 h0 round
def WR {σ:Type} (d sz:Nat) (ps:σ->List (Nat×AV)) (xs:σ->List IV) (env:Env) (H:Hp) (s:σ):Prop:=
 NF H/\E4 env (ps s)/\∃n els,env d= .sl (.loc n) sz 0 (xs s).length/\H (.loc n)= .live ⟨sz,els⟩/\els=ak (xs s)
def qH {σ:Type} {S:St} {Q:ir} {c:AC} {k:List It} {env:Env} {H:Hp} (d sz:Nat) (ps:σ->List (Nat×AV)) (xs:σ->List IV) (μ:σ->Nat) (s0:σ) (hl:∀s,ai ((ps s).map Prod.snd)=[]) (h0:WR d sz ps xs env H s0)
  (round:∀s,go S (qG S Q k (WR d sz ps xs) μ (μ s)) [.code c] (iX ((d,.sl (.loc d) sz 0 (xs s).length)::ps s)) (aS Hp.none (.loc d) (.live ⟨sz,ak (xs s)⟩))):oL S Q c k env H:=by
 refine oN (λs=>iX ((d,.sl (.loc d) sz 0 (xs s).length)::ps s)) (λs=>aS Hp.none (.loc d) (.live ⟨sz,ak (xs s)⟩)) (WR d sz ps xs) ?_ μ s0 h0 round;rintro env H s ⟨h1,h2,n,els,h3,h4,rfl⟩;have key:∀{r:List (Nat×AV)},E4 env r->ai (r.map Prod.snd)=[]->dp (λ_=> .loc n) env r:=by
  intro r;induction r with
  |nil=>exactλ_ _=>trivial
  |cons p r ih=>
  obtain⟨m,x⟩:=p;intro h gR;simp only[agC,ai,ah0] at gR;refine⟨?_,ih h.2 gR.2⟩;rw[h.1];exact(oO _ x gR.1).symm
 refine⟨λ_=> .loc n,Wk.one (dp.we (ps:=(d,.sl (.loc d) sz 0 (xs s).length)::ps s) ⟨h3,key h2 (hl s)⟩) (tn ?_) h4 rfl rfl h1⟩;simp[ai,AV.aq,hl s]
def eQ:List (Lb×Row)->Hp
 |[]=>Hp.none
 |(l,r)::t=>aS (eQ t) l (.live r)
def aD:List (Lb×Lb)->Lb->Lb
 |[],l=>l
 |(a,b)::t,l=>if l=a then b else aD t l
def eL (ρ:Lb->Lb) (H:Hp):List (Lb×Row)->Prop
 |[]=>True
 |(l,r)::t=>H (ρ l)= .live (aP ρ r)/\eL ρ H t
def Xf (H:Hp) (ls:List Lb):Prop:=∀l:Lb,l.fresh=false->H l≠ .unused->l∈ls
def lH (ls:List Lb):Xf Hp.none ls=True:=by simp[Xf,Hp.none]
def nT (H:Hp) (n:Nat) (s:Slot) (ls:List Lb):Xf (aS H (.loc n) s) ls=Xf H ls:=by
 apply propext;constructor
 ·intro h l hl hu;have cf:l≠ .loc n:=by rintro rfl;simp[Lb.fresh] at hl
  exact h l hl (by rwa[an _ _ cf])
 intro h l hl hu;have cf:l≠ .loc n:=am2
 rw[an _ _ cf] at hu;exact h l hl hu
structure WRs (ls:List Lb) (ps:List (Nat×AV)) (rs:List (Lb×Row)) (env:Env) (H:Hp) (m:List (Lb×Lb)):Prop where
 nf:Xf H ls
 e:dp (aD m) env ps
 r:eL (aD m) H rs
 inj:(ls.map (aD m)).Nodup
 fr:∀l∈ls,(l.fresh=true->(aD m l).fresh=true)/\(l.fresh=false->aD m l=l)
def fQ {rs:List (Lb×Row)}:∀{l:Lb} {r:Row},eQ rs l= .live r->(l,r)∈rs:=by
 induction rs with
 |nil=>intro l r h;simp[eQ,Hp.none] at h
 |cons p t ih=>
 obtain⟨l0,r0⟩:=p;intro l r h;simp only[eQ,aS] at h;split at h
 ·next e=>cases h;subst e;simp
 exact ah9 _ (ih h)
theorem qI {rs:List (Lb×Row)} {l:Lb} (h:l∈rs.map Prod.fst):eQ rs l≠ .unused:=by
 induction rs with
 |nil=>simp at h
 |cons p t ih=>
 obtain⟨l0,r0⟩:=p;simp only[eQ,aS];split
 ·simp
 next e=>exact ih (by simpa[e] using h)
theorem yH {ρ:Lb->Lb} {H:Hp}:∀{rs:List (Lb×Row)},eL ρ H rs->∀{l:Lb} {r:Row},(l,r)∈rs->H (ρ l)= .live (aP ρ r)
 |[],_,_,_,h=>by simp at h
 |(l0,r0)::t,h,l,r,hm=>by
  simp only[aga,agq] at hm;rcases hm with⟨rfl,rfl⟩|hm
  ·exact h.1
  exact yH h.2 hm
theorem jy {α β:Type} [DecidableEq β] {f:α->β}:∀{l:List α},(l.map f).Nodup->∀a∈l,∀b∈l,f a=f b->a=b
 |[],_,_,h,_,_,_=>by simp at h
 |x::l,hd,a,ha,b,hb,e=>by
  simp only[agC,ah3,agp,not_exists,not_and] at hd;simp only[aga] at ha hb;rcases ha with rfl|ha<;>rcases hb with rfl|hb
  ·rfl
  ·exact absurd e.symm (hd.1 b hb)
  ·exact absurd e (hd.1 a ha)
  exact jy hd.2 a ha b hb e
def WRs.wk {ls:List Lb} {ps:List (Nat×AV)} {rs:List (Lb×Row)} {env:Env} {H:Hp} {m:List (Lb×Lb)} (h:WRs ls ps rs env H m) (pf:rs.map Prod.fst=ls) (hp:∀l∈ai (ps.map Prod.snd),l∈ls)
  (hr:∀q∈rs,∀cs∈q.2.els,∀l∈ai cs,l∈ls):Wk (aD m) env H (iX ps) (eQ rs):=by
 have zn:∀l,live (eQ rs) l->l∈ls:=λl ⟨r,h⟩=>by rw[<-pf];exact agp.2 ⟨_,fQ h,rfl⟩
 refine⟨h.e.we,λl r hl=>yH h.r (fQ hl),λl l' h1 h2 e=>jy h.inj l (zn l h1) l' (zn l' h2) e,tn λl hl=>qI (by rw[pf];exact hp l hl),λl r hl cs aZ q hq=> ?_,λl hf=>⟨λhu=> ?_,λhl=>(h.fr l (zn l hl)).2 (Lb.lC hf)⟩,λl hl hf=>(h.fr l (zn l hl)).1 hf⟩
 ·exact qI (by rw[pf];exact hr _ (fQ hl) cs aZ q hq)
 exact qI amN
section
variable {σ:Type} {S:St} {Q:ir} {k:List It} {W:Env->Hp->σ->Prop} {μ:σ->Nat} {n:Nat} {env:Env} {H:Hp}
def adS:qG S Q k W μ n .normal env H=∃s,μ s<n/\W env H s:=rfl
theorem adT (id:Nat):qG S Q k W μ n (.exit id) env H=match gi id k with
 |some k'=>go S Q k' env H
 |none=>Q (.exit id) env H:=rfl
def adU:qG S Q k W μ n .ret env H=Q .ret env H:=rfl
def J4:E4 env []=True:=rfl
def E5 (n:Nat) (x:AV) (r:List (Nat×AV)):E4 env ((n,x)::r)=(env n=x/\E4 env r):=rfl
end
def j7 {b:Bool} {A B:Prop} {u:Tp A B} (h1:b=true->A) (h2:b=false->B):cK (.bool b) A B u:=by
 cases b
 ·exact h2 rfl
 exact h1 rfl
def Xg {b:Bool} {A B:Prop} {u:Tp A B} (h1:b=true->A) (h2:b=false->B):gB (.bool b) true A B u:=by
 cases b
 ·rw[aaY];exact h2 rfl
 rw[aaX];exact h1 rfl
def adV (env:Env) (n:Nat):ev env (.t n)=env n:=rfl
def adW (env:Env) (x:AV):ev env (.c x)=x:=rfl
def Xh (n:Nat) (h:n<=4000):(n<=maxLen)=True:=by simp[maxLen];omega

def Xi (b:Bool) (A B:Prop) (u:Tp A B):cK (.bool (!b)) A B u=cK (.bool b) B A .mk:=by cases b<;>simp[cK]
def Xj (b t:Bool) (A B:Prop) (u:Tp A B):gB (.bool (!b)) t A B u=gB (.bool b) (!t) A B .mk:=by cases b<;>cases t<;>simp[gB]
def J5 (args:List AV) (n:Nat):fH args n=args.getD n .un:=rfl
def J6 (l:Lb):Hp.none l= .unused:=rfl
def Xk (n:Nat):Env.any n= .any:=rfl
def aa0 {σ:Type} (ps:σ->List (Nat×AV)) (env:Env) (H:Hp) (s:σ):WD ps env H s=(NF H/\E4 env (ps s)):=rfl
def LV (cs:List IV):(IV.agg cs).cells=cs:=rfl
def aa1 (b:Bool):(false ^^ b)=b:=by cases b<;>rfl
def aa2 (b:Bool):(true ^^ b)= !b:=by cases b<;>rfl
def yI:=And.intro @List.getD_cons_zero.{0} (And.intro @List.getD_cons_succ.{0} (And.intro @List.length_map.{0,0} (And.intro @List.length_cons.{0} (And.intro @List.length_nil.{0} (And.intro @ae (And.intro @List.getElem?_cons_zero.{0} (And.intro @List.getElem?_cons_succ.{0} (And.intro @Option.bind_some.{0,0} (And.intro @Option.map_some.{0,0} (And.intro @List.map_cons.{0,0} (And.intro @List.map_nil.{0,0} (And.intro @af5 (And.intro @af0 (And.intro @List.all_cons.{0} (And.intro @List.all_nil.{0} (And.intro @List.take_succ_cons.{0} (And.intro @List.take_zero.{0} (And.intro @List.drop_succ_cons.{0} (And.intro @List.drop_zero.{0} (And.intro @List.cons_append.{0} (And.intro @List.nil_append.{0} (And.intro @List.append_nil.{0} (And.intro @List.set_cons_zero.{0} (And.intro @List.set_cons_succ.{0} (And.intro @List.take_nil.{0} (And.intro @List.drop_nil.{0} (And.intro @List.replicate_one.{0} (And.intro @List.flatten_cons.{0} (And.intro @List.flatten_nil.{0} (And.intro @J5 (And.intro @J6 (And.intro @Xk (And.intro @adV (And.intro @adW (And.intro @adS (And.intro @adT (And.intro @adU (And.intro @S6 (And.intro @E0 (And.intro @J4 (And.intro @E5 (And.intro @S7 (And.intro @Xe (And.intro @Xi (And.intro @Xj (And.intro @aa0 (And.intro @LV (And.intro @aa1 @aa2))))))))))))))))))))))))))))))))))))))))))))))))
def evl:=And.intro @ahM (And.intro @agh (And.intro @ajp (And.intro @af6 (And.intro @Xh (And.intro @ai8 (And.intro @aiz (And.intro @ag7 (And.intro @af4 (And.intro @af1 (And.intro @Bool.not_not (And.intro @agt (And.intro @ajg (And.intro @agI (And.intro @implies_true.{1} (And.intro @false_implies (@List.mem_cons.{0}))))))))))))))))
def Xl (x:AV) (k:AV->Prop) (_:Tv k):Prop:=∃R,Oj x=some R/\∀m,R m->m<=maxLen->k (.int .i64 (m:Int))
def exK (S:St) (f:Nat) (args:List AV) (H:Hp) (k:AV->Prop) (_:Tv k):Prop:=∃res,lT S f args H res/\k res
section
variable {S:St} {Q:ir} {env:Env} {H:Hp}
def Xm (d:Option Nat) (x:O) (k:AV->Hp->Prop):dX S d (.cap x) env H k=Xl (ev env x) (λy=>k y H) .mk:=rfl
def Xn (d:Option Nat) (s x:O) (sz:Nat) (k:AV->Hp->Prop):dX S d (.Hi s x sz) env H k=pK (EI sz (ev env s) (ev env x) H) k .mk:=rfl
def Xo (d:Option Nat) (x:O) (sz:Nat) (z:List AV) (k:AV->Hp->Prop):dX S d (.N3 x sz z) env H k=hK (C9 sz z (ev env x) H) (λH'=>k (.bq []) H') .mk:=rfl
def Xp (q:Nat) (n c:O) (sz b:Nat) (z:List AV) (k:AV->Hp->Prop):dX S (some q) (.RZ n c sz b z) env H k=pK (zf sz b q z (ev env n) (ev env c) H) k .mk:=by
 simp[dX,pK]
def OU (d:Option Nat) (f:Nat) (args:List O) (k:AV->Hp->Prop):dX S d (.y6 f args) env H k=exK S f (args.map (ev env)) H (λy=>k y H) .mk:=rfl
def Xq (R W:List Lb) (d:Option Nat) (s x:O) (sz:Nat) (k:AV->Hp->Prop):bR S (.rw R W) d (.Hi s x sz) env H k =
  pK (EI sz (ev env s) (ev env x) H) (λy H'=>(∀l∈ie (ev env x),l.ix∈R\/l.ix∈W)/\(∀l∈ie (ev env s),l.ix∈W)/\k y H') .mk:=by
 simp only[bR,jx,cZ,bj,pK]
def Xr (R W:List Lb) (d:Option Nat) (x:O) (sz:Nat) (z:List AV) (k:AV->Hp->Prop):bR S (.rw R W) d (.N3 x sz z) env H k =
  hK (C9 sz z (ev env x) H) (λH'=>(∀l∈ie (ev env x),l.ix∈W)/\k (.bq []) H') .mk:=by
 apply propext;simp only[bR,jx,cZ,bj,hK];constructor
 ·rintro⟨x1,H',h1,_,h2,h3⟩;obtain⟨H2,h5,h4⟩:=acF.1 h1;simp only[agq] at h4;obtain⟨rfl,rfl⟩:=h4;exact⟨H2,h5,h2,h3⟩
 rintro⟨H2,h1,h2,h3⟩;exact⟨.bq [],H2,anN,ajL,h2,h3⟩
def S8 (q:Nat) (s n:O) (sz b:Nat) (z:List AV) (k:AV->Hp->Prop):dX S (some q) (.Hu s n sz b z) env H k=pK (B0 sz b q z (ev env s) (ev env n) H) k .mk:=by
 simp[dX,pK]
def OV (q:Nat) (sz:Nat) (z:List AV) (ps:List (Nat×O)) (k:AV->Hp->Prop):dX S (some q) (.oz sz z ps) env H k=pK (C' sz q z (ps.map λp=>(p.1,ev env p.2)) H) k .mk:=by
 simp[dX,pK]
def OW (R W:List Lb) (q:Nat) (sz:Nat) (z:List AV) (ps:List (Nat×O)) (k:AV->Hp->Prop):bR S (.rw R W) (some q) (.oz sz z ps) env H k =
  pK (C' sz q z (ps.map λp=>(p.1,ev env p.2)) H) (λy H'=>Lb.loc q∈W/\k y H') .mk:=by
 simp[bR,jx,cZ,bj,pK,Lb.ix]
def uR {sz d:Nat} {z:List AV} {ps:List (Nat×AV)} {cs:List AV} (h1:gF z (ps.map λp=>(p.1*sz,sz,p.2))=some cs) (h2:H (.loc d)= .unused) (h3:cs.length=sz) (h4:0<sz) :
  C' sz d z ps H=some (.sl (.loc d) sz 0 1,aS H (.loc d) (.live ⟨sz,[cs]⟩)):=by
 unfold C';rw[h1,af_,agc ⟨h2,h3,h4⟩]
def Xs (d:Option Nat) (i:ju) (k:AV->Hp->Prop):bR S .all d i env H k=dX S d i env H k:=rfl
def OX (S:St) (F:List Lb) (f:Nat) (args:List AV) (H:Hp) (k:AV->Hp->Prop) (_:Tw k):Prop:=aaS S F f args H k
def Xt (F:List Lb) (d:Option Nat) (f:Nat) (args:List O) (k:AV->Hp->Prop):bR S (.v7 F) d (.call f args) env H k=OX S F f (args.map (ev env)) H k .mk:=rfl
def OY {F:List Lb} {f:Nat} {args bW:List AV} {res:AV} {k:AV->Hp->Prop} (h:aj S.P S.G f bW res) (ha:dN (C_ H) args bW) (hs:res.scalar=true) (hk:k res H) {u:Tw k}:OX S F f args H k u:=
 ⟨λx H'=>x=res/\H'=H,.inr (.inl ⟨bW,res,ha,h,hs,rfl,rfl⟩),⟨res,H,rfl,rfl⟩,λx H' ⟨e1,e2⟩=>by subst e1;subst e2;exact⟨λ_ _=>rfl,hk⟩⟩
def Dl {f:Nat} {args:List AV} {res:AV} {k:AV->Prop} (h:lT S f args H res) (hk:k res) {u:Tv k}:exK S f args H k u:=⟨res,h,hk⟩
def OZ (l:Lb) (sz i n c:Nat) (k:AV->Prop) (u:Tv k):Xl (.slk l sz i n c) k u=(c<=maxLen->k (.int .i64 (c:Int))):=by
 simp only[Xl,Oj,afZ];apply propext;constructor
 ·rintro⟨R,rfl,h⟩ hc;exact h c rfl hc
 intro h;exact⟨_,rfl,λm hm hc=>by subst hm;exact h hc⟩
end
def evx:=And.intro @S8<|And.intro @OV<|And.intro @OW<|And.intro @Xm<|And.intro @Xn<|And.intro @Xo<|And.intro @Xp<|And.intro @OU<|And.intro @Xq<|And.intro @Xr<|And.intro @Xt @Xs
def aX:=And.intro evs<|And.intro evx<|And.intro EW<|And.intro EX<|And.intro @J3<|And.intro @EZ<|And.intro @OT<|And.intro @OR @OS
def mP:=And.intro Lb.loc.injEq<|And.intro Lb.par.injEq<|And.intro Lb.gen.injEq<|And.intro @JD<|And.intro @C4<|And.intro @JE<|And.intro @EA<|And.intro agl<|And.intro Int.le_refl Int.toNat_zero
def mX:=And.intro evp (And.intro yI (And.intro evl (And.intro mP (And.intro @LS.eq_1 (And.intro @aw.eq_1 (And.intro @aw.eq_2 (And.intro @aw.eq_3 (And.intro @aw.eq_4 (And.intro @aw.eq_5 (And.intro @aw.eq_6 (And.intro @aw.eq_7 (And.intro @aw.eq_8 (And.intro @aw.eq_9 (And.intro @aw.eq_10 (And.intro @aw.eq_11 (And.intro @aw.eq_12 (And.intro @aw.eq_13 (And.intro @aw.eq_14 (And.intro @aw.eq_15 (And.intro @aw.eq_16 (And.intro @aw.eq_17 (And.intro @aw.eq_18 (And.intro @aw.eq_19 (And.intro @aw.eq_20 (And.intro @aw.eq_21 (And.intro @aw.eq_22 (And.intro @aw.eq_23 (And.intro @aw.eq_24 (And.intro @aw.eq_25 (And.intro @aw.eq_26 (And.intro @aw.eq_27 (And.intro @aw.eq_28 (And.intro @aw.eq_29 (And.intro @aw.eq_30 (And.intro @aw.eq_31 (And.intro @aw.eq_32 (And.intro @aw.eq_33 (And.intro @fu.eq_1 (And.intro @fu.eq_2 (And.intro @fu.eq_3 (And.intro @fu.eq_4 (And.intro @fu.eq_5 (And.intro @fu.eq_6 (And.intro @fu.eq_7 (And.intro @fu.eq_8 (And.intro @fu.eq_9 (And.intro @fu.eq_10 (And.intro @fu.eq_11 (And.intro @fu.eq_12 (And.intro @fu.eq_13 (And.intro @fu.eq_14 (And.intro @fu.eq_15 (And.intro @fu.eq_16 (And.intro @fu.eq_17 (And.intro @fu.eq_18 (And.intro @fu.eq_19 (And.intro @fu.eq_20 (And.intro @fu.eq_21 (And.intro @fu.eq_22 (And.intro @eV.eq_1 (And.intro @eV.eq_2 (And.intro @kF.eq_1 (And.intro @kF.eq_2 (And.intro @Vp.eq_1 (And.intro @Vp.eq_2 (And.intro @Vp.eq_3 (And.intro @ie.eq_1 (And.intro @ie.eq_2 (And.intro @ie.eq_3 (And.intro @ie.eq_4 (And.intro @BC.eq_1 (And.intro @BC.eq_2 (And.intro @BC.eq_3 (And.intro @gF.eq_1 (And.intro @gF.eq_2 (And.intro @chunks.eq_1 (And.intro @chunks.eq_2 (And.intro @Hw.eq_1 (And.intro @Hw.eq_2 (And.intro @Vd.eq_1 (And.intro @Vd.eq_2 (And.intro @AV.cells.eq_1 (And.intro @AV.cells.eq_2 (And.intro @AV.Bq.eq_1 (And.intro @AV.Bq.eq_2 (And.intro @AV.one.eq_1 (And.intro @AV.one.eq_2 (And.intro @AV.one.eq_3 (And.intro @AV.one.eq_4 (And.intro @AV.one.eq_5 (And.intro @IV.dw.eq_1 (And.intro @IV.dw.eq_2 (And.intro @IV.dw.eq_3 (And.intro @IV.dw.eq_4 (And.intro @IV.dw.eq_5 (And.intro @Lb.app.eq_1 (And.intro @Lb.fresh.eq_1 (And.intro @Lb.fresh.eq_2 (And.intro @Lb.fresh.eq_3 (And.intro @AV.iv.eq_1 (And.intro @AV.iv.eq_2 (And.intro @AV.iv.eq_3 (And.intro @AV.iv.eq_4 (And.intro @AV.iv.eq_5 (And.intro @AV.iv.eq_6 (And.intro @if_true.{1} (And.intro @if_false.{1} (And.intro @List.not_mem_nil.{0} (And.intro @forall_eq.{1} (And.intro @beq_self_eq_true.{0} @List.isEmpty_nil.{0}))))))))))))))))))))))))))))))))))))))))))))))))))))))))))))))))))))))))))))))))))))))))))))))))))))))))))))))
def lX:=And.intro @ev.eq_1 (And.intro @ev.eq_2 (And.intro @J5 (And.intro @List.getD_cons_zero.{0} (And.intro @List.getD_cons_succ.{0} (And.intro @agt (And.intro @ajg (And.intro @List.length_map.{0,0} (And.intro @List.length_cons.{0} (And.intro @List.length_nil.{0} (And.intro @ae (And.intro @Lb.loc.injEq (And.intro @List.getElem?_cons_zero.{0} (And.intro @List.getElem?_cons_succ.{0} (And.intro @Option.bind_some.{0,0} (And.intro @Option.map_some.{0,0} (And.intro @List.map_cons.{0,0} (And.intro @List.map_nil.{0,0} (And.intro @af5 (And.intro @af0 (And.intro @List.all_cons.{0} (And.intro @List.all_nil.{0} (And.intro @ai8 (And.intro @aiz (And.intro @ag7 (And.intro @List.take_succ_cons.{0} (And.intro @List.take_zero.{0} (And.intro @List.drop_succ_cons.{0} (And.intro @List.drop_zero.{0} (And.intro @List.cons_append.{0} (And.intro @List.nil_append.{0} (And.intro @List.append_nil.{0} (And.intro @List.set_cons_zero.{0} (And.intro @JD (And.intro @C4 (And.intro @JE (And.intro @EA (And.intro @agl (And.intro @List.mem_cons.{0} (And.intro @agI (And.intro @false_implies (And.intro @implies_true.{1} (And.intro @J6 (And.intro @af6 (And.intro @List.set_cons_succ.{0} (And.intro @List.replicate_one.{0} (And.intro @List.flatten_cons.{0} (And.intro @List.flatten_nil.{0} (And.intro @ahM (And.intro @agh @ajp)))))))))))))))))))))))))))))))))))))))))))))))))
def lK:=And.intro evp (And.intro @LS.eq_1 (And.intro @aw.eq_1 (And.intro @aw.eq_2 (And.intro @aw.eq_3 (And.intro @aw.eq_4 (And.intro @aw.eq_5 (And.intro @aw.eq_6 (And.intro @aw.eq_7 (And.intro @aw.eq_8 (And.intro @aw.eq_9 (And.intro @aw.eq_10 (And.intro @aw.eq_11 (And.intro @aw.eq_12 (And.intro @aw.eq_13 (And.intro @aw.eq_14 (And.intro @aw.eq_15 (And.intro @aw.eq_16 (And.intro @aw.eq_17 (And.intro @aw.eq_18 (And.intro @aw.eq_19 (And.intro @aw.eq_20 (And.intro @aw.eq_21 (And.intro @aw.eq_22 (And.intro @aw.eq_23 (And.intro @aw.eq_24 (And.intro @aw.eq_25 (And.intro @aw.eq_26 (And.intro @aw.eq_27 (And.intro @aw.eq_28 (And.intro @aw.eq_29 (And.intro @aw.eq_30 (And.intro @aw.eq_31 (And.intro @aw.eq_32 (And.intro @aw.eq_33 (And.intro @fu.eq_1 (And.intro @fu.eq_2 (And.intro @fu.eq_3 (And.intro @fu.eq_4 (And.intro @fu.eq_5 (And.intro @fu.eq_6 (And.intro @fu.eq_7 (And.intro @fu.eq_8 (And.intro @fu.eq_9 (And.intro @fu.eq_10 (And.intro @fu.eq_11 (And.intro @fu.eq_12 (And.intro @fu.eq_13 (And.intro @fu.eq_14 (And.intro @fu.eq_15 (And.intro @fu.eq_16 (And.intro @fu.eq_17 (And.intro @fu.eq_18 (And.intro @fu.eq_19 (And.intro @fu.eq_20 (And.intro @fu.eq_21 (And.intro @fu.eq_22 (And.intro @eV.eq_1 (And.intro @eV.eq_2 (And.intro @kF.eq_1 (And.intro @kF.eq_2 (And.intro @Vp.eq_1 (And.intro @Vp.eq_2 (And.intro @Vp.eq_3 (And.intro @ie.eq_1 (And.intro @ie.eq_2 (And.intro @ie.eq_3 (And.intro @ie.eq_4 (And.intro @BC.eq_1 (And.intro @BC.eq_2 (And.intro @BC.eq_3 (And.intro @gF.eq_1 (And.intro @gF.eq_2 (And.intro @chunks.eq_1 (And.intro @chunks.eq_2 (And.intro @Hw.eq_1 (And.intro @Hw.eq_2 (And.intro @Vd.eq_1 (And.intro @Vd.eq_2 (And.intro @AV.cells.eq_1 (And.intro @AV.cells.eq_2 (And.intro @AV.Bq.eq_1 (And.intro @AV.Bq.eq_2 (And.intro @AV.one.eq_1 (And.intro @AV.one.eq_2 (And.intro @AV.one.eq_3 (And.intro @AV.one.eq_4 (And.intro @AV.one.eq_5 (And.intro @IV.dw.eq_1 (And.intro @IV.dw.eq_2 (And.intro @IV.dw.eq_3 (And.intro @IV.dw.eq_4 (And.intro @IV.dw.eq_5 (And.intro @Lb.app.eq_1 (And.intro @Lb.fresh.eq_1 (And.intro @Lb.fresh.eq_2 (And.intro @Lb.fresh.eq_3 (And.intro @AV.iv.eq_1 (And.intro @AV.iv.eq_2 (And.intro @AV.iv.eq_3 (And.intro @AV.iv.eq_4 (And.intro @AV.iv.eq_5 (And.intro @AV.iv.eq_6 (And.intro @if_true.{1} (And.intro @if_false.{1} (And.intro @List.not_mem_nil.{0} @forall_eq.{1})))))))))))))))))))))))))))))))))))))))))))))))))))))))))))))))))))))))))))))))))))))))))))))))))))))))))
def lP:=And.intro evs (And.intro @EW (And.intro @EX (And.intro @J3 (And.intro @EZ (And.intro @OT (And.intro @OR @OS))))))
end Go.Am
