import Derived.Test.YtfinkeaikbmpgaaDoorKAm5
set_option linter.unusedSimpArgs false
set_option linter.unusedVariables false
set_option linter.unnecessarySimpa false
set_option linter.defProp false
/- THE ABSTRACT MACHINE, part 8: what new rows, dead rows, turned rows do to the relation. -/
namespace Go.Am
open Go Go.RowKit
def bb {γ:Type} (f:Lb→γ) (l:Lb) (x:γ):Lb→γ:=fun l'=>if l'=l then x else f l'
@[simp] theorem ei {γ:Type} (f:Lb→γ) (l:Lb) (x:γ):bb f l x l=x:=by simp[bb]
theorem ai {γ:Type} (f:Lb→γ) {l l':Lb} (x:γ) (h:l'≠l):bb f l x l'=f l':=by simp[bb,h]
section
variable {K:Kx} {β:Lb→Option Nat} {env:Env} {H:Hp} {a:Act} {w:World}
def au.iO (hr:au K β env H a w) {l:Lb} {g:Nat} (hl:live H l) (hb:β l=some g):g<w.heap.size:=by
 obtain⟨r,jP⟩:=hl;obtain⟨_,_,h3⟩:=hr.rows l r jP;simp only[hb] at h3;obtain⟨cur,e,cap,h4,_⟩:=h3;exact(FL.1 h4).1
def n4 {w:World} {g S:Nat} (h:fi w g=some S):g<w.heap.size:=by
 unfold fi at h;cases hg:w.heap[g]? with
 |none=>simp[hg] at h
 |some o=>exact(FL.1 hg).1
def au.kill (hr:au K β env H a w) (l:Lb) (hu:H l≠ .unused):au K β env (bb H l .dead) a w:=by
 have aF:∀l',live (bb H l .dead) l'→live H l'∧l'≠l:=by
   intro l' ⟨r,h⟩
   by_cases e:l'=l
   · subst e;simp at h
   rw[ai _ _ e] at h;exact⟨⟨r,h⟩,e⟩
 have ca:∀ls,dw w w β β H (bb H l .dead) (Im K β H) (Im K β (bb H l .dead)) ls:=fun ls=>
   { im := fun k hk hs => ⟨⟨hk.1,fun l' iM => hk.2 l' (aF l' iM).1⟩,hs,rfl⟩
     lb:=fun l' _ iM=>⟨(aF l' iM).1,rfl,fun _ _ _ h=>h⟩}
 refine⟨hr.defers,hr.size,fun n=>RV.mono _ _ (ca _) (hr.ey n),?_,fun l' g h=>hr.own l' g (aF l' h).1,fun l1 l2 g h1 h2=>hr.inj l1 l2 g (aF l1 h1).1 (aF l2 h2).1,?_,?_,hr.frame,?_,?_,fun l' g h=>hr.fr l' g (aF l' h).1⟩
 · intro l' r h
   have fa:=(aF l' ⟨r,h⟩).2
   rw[ai _ _ fa] at h
   obtain⟨h1,h2,h3⟩:=hr.rows l' r h
   refine⟨h1,h2,?_⟩
   cases hb:β l' with
   |none=>simpa[hb] using h3
   |some g=>
   simp only[hb] at h3 ⊢
   obtain⟨cur,e,cap,e1,e2,e3,e4,e5⟩:=h3
   exact⟨cur,e,cap,e1,e2,e3,e4,fun i j cs x hi hj=>let⟨v,k1,k2⟩:=e5 i j cs x hi hj;⟨v,k1,RV.mono _ _ (ca _) k2⟩⟩
 · intro n l' iM
   by_cases e:l'=l
   · subst e;simp
   rw[ai _ _ e];exact hr.dp n l' iM
 · intro l1 r h cs bt l' iM
   have fa:=(aF l1 ⟨r,h⟩).2
   rw[ai _ _ fa] at h
   by_cases e:l'=l
   · subst e;simp
   rw[ai _ _ e];exact hr.bL l1 r h cs bt l' iM
 · intro g cs hg
   obtain⟨h1,h2,h3⟩:=hr.eh g cs hg
   exact⟨((ca []).im g h1 h2).1,h2,b8.mono (ca []).toef h1 h2 h3⟩
 intro l' iM
 obtain⟨h1,h2⟩:=hr.eD l' iM
 refine⟨?_,fun h=>h2 (aF l' h).1⟩
 by_cases e:l'=l
 · subst e;simp
 rw[ai _ _ e];exact h1
def au.iP (hr:au K β env H a w) (l:Lb) (hu:H l= .unused) {r:Row} {w':World} (gw:fW w w') (b:Option Nat)
   (hb:∀g,b=some g→w.heap.size≤g) (hm:∀cs∈r.bN,∀l'∈af cs,H l'≠ .unused)
   (lR:jH w' (bb β l b) (bb H l (.live r)) (Im K (bb β l b) (bb H l (.live r))) l r):au K (bb β l b) env (bb H l (.live r)) a w':=by
 have aF:∀l',live (bb H l (.live r)) l'→l'≠l→live H l':=by
   intro l' ⟨r',h⟩ e
   rw[ai _ _ e] at h;exact⟨r',h⟩
 have ca:∀ls,(∀l'∈ls,H l'≠ .unused)→dw w w' β (bb β l b) H (bb H l (.live r)) (Im K β H) (Im K (bb β l b) (bb H l (.live r))) ls:=fun ls kK=>
   { im := fun k hk hs => ⟨⟨hk.1,fun l' iM => by
       by_cases e:l'=l
       · subst e
         simp only[ei]
         intro DR
         have:=hb k DR
         omega
       rw[ai _ _ e];exact hk.2 l' (aF l' iM e)⟩,Gk hs gw.size,gw.block k hs⟩
     lb:=fun l' wY iM=>by
       have e:l'≠l:=fun e=>kK l' wY (e▸hu)
       refine⟨aF l' iM e,ai _ _ e,fun g S _ hS=> ?_⟩
       unfold fi at *
       rwa[gw.block g (n4 hS)]}
 have hold:∀l' r',l'≠l→H l'= .live r'→jH w' (bb β l b) (bb H l (.live r)) (Im K (bb β l b) (bb H l (.live r))) l' r':=by
   intro l' r' e h
   obtain⟨h1,h2,h3⟩:=hr.rows l' r' h
   refine⟨h1,h2,?_⟩
   rw[ai _ _ e]
   cases iQ:β l' with
   |none=>simpa[iQ] using h3
   |some g=>
   simp only[iQ] at h3 ⊢
   obtain⟨cur,e0,cap,e1,e2,e3,e4,e5⟩:=h3
   refine⟨cur,e0,cap,(gw.block g (FL.1 e1).1).trans e1,e2,e3,e4,fun i j cs x hi hj=> ?_⟩
   obtain⟨v,k1,k2⟩:=e5 i j cs x hi hj
   exact⟨v,k1,RV.mono _ _ (ca _ (fun q hq=>hr.bL l' r' h cs (Fx hi) q (bT _ _ _ hj q hq))) k2⟩
 refine⟨hr.defers,hr.size,fun n=>RV.mono _ _ (ca _ (hr.dp n)) (hr.ey n),?_,?_,?_,?_,?_,hr.frame.qQ gw,?_,?_,?_⟩
 · intro l' r' h
   by_cases e:l'=l
   · subst e
     simp at h;subst h
     exact lR
   rw[ai _ _ e] at h
   exact hold l' r' e h
 · intro l' g h hg
   by_cases e:l'=l
   · subst e
     simp at hg
     exact .inr (G3 hr.frame.size (hb g hg))
   rw[ai _ _ e] at hg
   exact hr.own l' g (aF l' h e) hg
 · intro l1 l2 g h1 h2 g1 g2
   by_cases e1:l1=l
   · by_cases e2:l2=l
     · rw[e1,e2]
     subst e1
     simp at g1
     rw[ai _ _ e2] at g2
     have:=hb g g1
     have:=hr.iO (aF l2 h2 e2) g2
     omega
   rw[ai _ _ e1] at g1
   by_cases e2:l2=l
   · subst e2
     simp at g2
     have:=hb g g2
     have:=hr.iO (aF l1 h1 e1) g1
     omega
   rw[ai _ _ e2] at g2
   exact hr.inj l1 l2 g (aF l1 h1 e1) (aF l2 h2 e2) g1 g2
 · intro n l' iM
   by_cases e:l'=l
   · subst e;simp
   rw[ai _ _ e];exact hr.dp n l' iM
 · intro l1 r1 h cs bt l' iM
   by_cases e:l'=l
   · subst e;simp
   rw[ai _ _ e]
   by_cases e1:l1=l
   · subst e1
     simp at h;subst h
     exact hm cs bt l' iM
   rw[ai _ _ e1] at h
   exact hr.bL l1 r1 h cs bt l' iM
 · intro g cs hg
   obtain⟨h1,h2,h3⟩:=hr.eh g cs hg
   exact⟨((ca [] (by simp)).im g h1 h2).1,Gk h2 gw.size,b8.mono (ca [] (by simp)).toef h1 h2 h3⟩
 · intro l' iM
   obtain⟨h1,h2⟩:=hr.eD l' iM
   have e:l'≠l:=fun e=>h1 (e▸hu)
   refine⟨by rw[ai _ _ e];exact h1,fun h=> ?_⟩
   rw[ai _ _ e];exact h2 (aF l' h e)
 intro l' g h hf hg
 by_cases e:l'=l
 · subst e
   simp at hg
   exact G3 hr.frame.size (hb g hg)
 rw[ai _ _ e] at hg
 exact hr.fr l' g (aF l' h e) hf hg
def au.relabel (hr:au K β env H a w) (l l':Lb) {r:Row} (hl:H l= .live r) (hu:H l'= .unused) (hf:l'.fresh=true→l.fresh=true):au K (bb β l' (β l)) env (bb (bb H l .dead) l' (.live r)) a w:=by
 have fa:l≠l':=fun e=>by rw[e,hu] at hl;cases hl
 have aF:∀q,live (bb (bb H l .dead) l' (.live r)) q→q≠l'→live H q∧q≠l:=by
   intro q ⟨r',h⟩ e
   rw[ai _ _ e] at h
   by_cases e2:q=l
   · subst e2;simp at h
   rw[ai _ _ e2] at h;exact⟨⟨r',h⟩,e2⟩
 have ca:∀ls,(∀q∈ls,H q≠ .unused)→dw w w β (bb β l' (β l)) H (bb (bb H l .dead) l' (.live r)) (Im K β H) (Im K (bb β l' (β l)) (bb (bb H l .dead) l' (.live r))) ls:=fun ls kK=>
   { im := fun k hk hs => ⟨⟨hk.1,fun q hq => by
       by_cases e:q=l'
       · subst e
         simp only[ei]
         exact hk.2 l ⟨r,hl⟩
       rw[ai _ _ e];exact hk.2 q (aF q hq e).1⟩,hs,rfl⟩
     lb:=fun q hq mu=>by
       have e:q≠l':=fun e=>kK q hq (e▸hu)
       exact⟨(aF q mu e).1,ai _ _ e,fun _ _ _ h=>h⟩}
 have hold:∀q r',H q= .live r'→∀(b:Option Nat),b=β q→0<r'.sz∧(∀cs∈r'.bN,cs.length=r'.sz) ∧
     match b with
     |none=>r'.bN=[]
     |some g=>∃cur e cap,w.heap[g]?=some (.cells cur e (0,0))∧cur.size=cap*r'.sz∧cap≤maxLen∧r'.bN.length≤cap ∧
         ∀i j cs x,r'.bN[i]?=some cs→cs[j]?=some x→∃v,cur[i*r'.sz+j]?=some v∧RV w (bb β l' (β l)) (bb (bb H l .dead) l' (.live r)) (Im K (bb β l' (β l)) (bb (bb H l .dead) l' (.live r))) x v:=by
   intro q r' h b hb
   subst hb
   obtain⟨h1,h2,h3⟩:=hr.rows q r' h
   refine⟨h1,h2,?_⟩
   cases iQ:β q with
   |none=>simpa[iQ] using h3
   |some g=>
   simp only[iQ] at h3 ⊢
   obtain⟨cur,e0,cap,e1,e2,e3,e4,e5⟩:=h3
   refine⟨cur,e0,cap,e1,e2,e3,e4,fun i j cs x hi hj=> ?_⟩
   obtain⟨v,k1,k2⟩:=e5 i j cs x hi hj
   exact⟨v,k1,RV.mono _ _ (ca _ (fun p hp=>hr.bL q r' h cs (Fx hi) p (bT _ _ _ hj p hp))) k2⟩
 refine⟨hr.defers,hr.size,fun n=>RV.mono _ _ (ca _ (hr.dp n)) (hr.ey n),?_,?_,?_,?_,?_,hr.frame,?_,?_,?_⟩
 · intro q r' h
   by_cases e:q=l'
   · subst e
     simp at h;subst h
     exact hold l r hl _ (by simp)
   rw[ai _ _ e] at h
   by_cases e2:q=l
   · subst e2;simp at h
   rw[ai _ _ e2] at h
   exact hold q r' h _ (ai _ _ e)
 · intro q g h hg
   by_cases e:q=l'
   · subst e
     simp at hg
     exact hr.own l g ⟨r,hl⟩ hg
   rw[ai _ _ e] at hg
   exact hr.own q g (aF q h e).1 hg
 · intro l1 l2 g h1 h2 g1 g2
   by_cases e1:l1=l'
   · by_cases e2:l2=l'
     · rw[e1,e2]
     subst e1
     simp at g1
     rw[ai _ _ e2] at g2
     exact absurd (hr.inj l2 l g (aF l2 h2 e2).1 ⟨r,hl⟩ g2 g1) (aF l2 h2 e2).2
   rw[ai _ _ e1] at g1
   by_cases e2:l2=l'
   · subst e2
     simp at g2
     exact absurd (hr.inj l1 l g (aF l1 h1 e1).1 ⟨r,hl⟩ g1 g2) (aF l1 h1 e1).2
   rw[ai _ _ e2] at g2
   exact hr.inj l1 l2 g (aF l1 h1 e1).1 (aF l2 h2 e2).1 g1 g2
 · intro n q hq
   by_cases e:q=l'
   · subst e;simp
   rw[ai _ _ e]
   by_cases e2:q=l
   · subst e2;simp
   rw[ai _ _ e2];exact hr.dp n q hq
 · intro l1 r1 h cs bt q hq
   by_cases e:q=l'
   · subst e;simp
   rw[ai _ _ e]
   by_cases e2:q=l
   · subst e2;simp
   rw[ai _ _ e2]
   by_cases e1:l1=l'
   · subst e1
     simp at h;subst h
     exact hr.bL l r hl cs bt q hq
   rw[ai _ _ e1] at h
   by_cases e3:l1=l
   · subst e3;simp at h
   rw[ai _ _ e3] at h
   exact hr.bL l1 r1 h cs bt q hq
 · intro g cs hg
   obtain⟨h1,h2,h3⟩:=hr.eh g cs hg
   exact⟨((ca [] (by simp)).im g h1 h2).1,h2,b8.mono (ca [] (by simp)).toef h1 h2 h3⟩
 · intro q hq
   obtain⟨h1,h2⟩:=hr.eD q hq
   have e:q≠l':=fun e=>h1 (e▸hu)
   refine⟨?_,fun h=> ?_⟩
   · rw[ai _ _ e]
     by_cases e2:q=l
     · subst e2;simp
     rw[ai _ _ e2];exact h1
   rw[ai _ _ e];exact h2 (aF q h e).1
 intro q g h hq hg
 by_cases e:q=l'
 · subst e
   simp at hg
   exact hr.fr l g ⟨r,hl⟩ (hf hq) hg
 rw[ai _ _ e] at hg
 exact hr.fr q g (aF q h e).1 hq hg
def fH {w:World} {g:Nat} {cur cur':Array Value} {e:TypeId} {fr:Nat×Nat} (hg:w.heap[g]?=some (.cells cur e fr)) (hs:cur'.size=cur.size) (k S:Nat) (h:fi w k=some S) :
  fi (w.setRow g cur') k=some S:=by
 by_cases e:k=g
 ·subst e;unfold fi at *;rw[setRow_heap w k cur cur' _ fr hg];simp only[hg] at h;simp only[hs];exact h
 unfold fi at *
 rwa[setRow_other w g k cur' e]
def au.setRow (hr:au K β env H a w) (l:Lb) {r r':Row} {g:Nat} {cur cur':Array Value} {e:TypeId} {cap:Nat} (hl:H l= .live r) (hb:β l=some g)
   (hg:w.heap[g]?=some (.cells cur e (0,0))) (hs:cur'.size=cur.size) (fh:r'.sz=r.sz) (qY:cur.size=cap*r.sz) (mr:cap≤maxLen) (hlen:r'.bN.length≤cap)
   (bt:∀cs∈r'.bN,cs.length=r.sz) (hm:∀cs∈r'.bN,∀l'∈af cs,H l'≠ .unused)
   (hc:∀i j cs x,r'.bN[i]?=some cs→cs[j]?=some x→∃v,cur'[i*r.sz+j]?=some v∧RV w β H (Im K β H) x v) :
   au K β env (bb H l (.live r')) a (w.setRow g cur'):=by
 have aF:∀q,live (bb H l (.live r')) q↔live H q:=by
   intro q
   by_cases e:q=l
   · subst e;simp[live,hl]
   simp[live,ai _ _ e]
 have zg:∀k,Im K β (bb H l (.live r')) k↔Im K β H k:=by
   intro k
   simp only[Im,aF]
 have ca:∀ls,dw w (w.setRow g cur') β β H (bb H l (.live r')) (Im K β H) (Im K β (bb H l (.live r'))) ls:=fun ls=>
   { im := fun k hk DS => by
       have fa:k≠g:=fun e=>hk.2 l ⟨r,hl⟩ (e▸hb)
       exact⟨(zg k).2 hk,by simpa[World.setRow] using DS,setRow_other w g k cur' fa⟩
     lb:=fun q _ hq=>⟨(aF q).1 hq,rfl,fun g' S _ h=>fH hg hs g' S h⟩}
 refine⟨hr.defers,hr.size,fun n=>RV.mono _ _ (ca _) (hr.ey n),?_,fun q g' h=>hr.own q g' ((aF q).1 h),fun l1 l2 g' h1 h2=>hr.inj l1 l2 g' ((aF l1).1 h1) ((aF l2).1 h2),?_,?_,?_,?_,?_,fun q g' h=>hr.fr q g' ((aF q).1 h)⟩
 · intro q r1 h
   by_cases e1:q=l
   · subst e1
     simp at h;subst h
     refine⟨by rw[fh];exact(hr.rows q r hl).1,by rw[fh];exact bt,?_⟩
     simp only[hb]
     refine⟨cur',e,cap,setRow_heap w g cur cur' e (0,0) hg,by rw[hs,qY,fh],mr,hlen,fun i j cs x hi hj=> ?_⟩
     obtain⟨v,k1,k2⟩:=hc i j cs x hi hj
     exact⟨v,by rw[fh];exact k1,RV.mono _ _ (ca _) k2⟩
   rw[ai _ _ e1] at h
   obtain⟨h1,h2,h3⟩:=hr.rows q r1 h
   refine⟨h1,h2,?_⟩
   cases iQ:β q with
   |none=>simpa[iQ] using h3
   |some g'=>
   simp only[iQ] at h3 ⊢
   have fa:g'≠g:=fun e=>e1 (hr.inj q l g ⟨r1,h⟩ ⟨r,hl⟩ (e▸iQ) hb)
   obtain⟨BS,e0,BT,k1,k2,k3,k4,k5⟩:=h3
   refine⟨BS,e0,BT,(setRow_other w g g' cur' fa).trans k1,k2,k3,k4,fun i j cs x hi hj=> ?_⟩
   obtain⟨v,j1,j2⟩:=k5 i j cs x hi hj
   exact⟨v,j1,RV.mono _ _ (ca _) j2⟩
 · intro n q hq
   by_cases e1:q=l
   · subst e1;simp
   rw[ai _ _ e1];exact hr.dp n q hq
 · intro l1 r1 h cs z8 q hq
   by_cases e1:q=l
   · subst e1;simp
   rw[ai _ _ e1]
   by_cases e2:l1=l
   · subst e2
     simp at h;subst h
     exact hm cs z8 q hq
   rw[ai _ _ e2] at h
   exact hr.bL l1 r1 h cs z8 q hq
 · refine⟨hr.frame.os,hr.frame.tape,hr.frame.output,by simpa[World.setRow] using hr.frame.size,fun k hk hd=> ?_,fun k S hS=>fH hg hs k S (hr.frame.bs k S hS)⟩
   have fa:k≠g:=by
     intro e1
     subst e1
     rcases hr.own l k ⟨r,hl⟩ hb with h1|h1
     · exact hd h1
     omega
   rw[setRow_other w g k cur' fa]
   exact hr.frame.block k hk hd
 · intro k cs hk
   obtain⟨h1,h2,h3⟩:=hr.eh k cs hk
   exact⟨((ca []).im k h1 h2).1,((ca []).im k h1 h2).2.1,b8.mono (ca []).toef h1 h2 h3⟩
 intro q hq
 obtain⟨h1,h2⟩:=hr.eD q hq
 refine⟨?_,fun h=>h2 ((aF q).1 h)⟩
 by_cases e1:q=l
 · subst e1;simp
 rw[ai _ _ e1];exact h1
end

def cN (m:Option Nat) (x:AV) (H:Hp):Option AV:=
 match x with
 | .ptr l sz i j=>match H l with
  | .live r=>if r.sz=sz then(r.bN[i]?).bind fun cs=>match m with
    |none=>cs[j]?
    |some k=>if j+k≤cs.length then some (.agg ((cs.drop j).take k)) else none
   else none
  |_=>none
 |_=>none
def eF (m:Nat) (a x:AV) (H:Hp):Option Hp:=
 match a with
 | .ptr l sz i j=>match H l with
  | .live r=>if r.sz=sz∧x.nX=true∧x.cells.length=m then(r.bN[i]?).bind fun cs=>
    if j+m≤cs.length then some (bb H l (.live ⟨sz,r.bN.set i (cs.take j++x.cells++cs.drop (j+m))⟩)) else none
   else none
  |_=>none
 |_=>none
def eT (K:Kx) (env:Env) (a:Act) (w:World) (o:Oper) (d:Option Nat) (x:AV) (H':Hp):Prop:=
 ∃nx w' β' v,(execOp a.eval o).run K.P w= .ok nx w'∧(nx= .value v∨(nx= .skip∧v=undef))∧au K β' (bV env d x) H' (a.put d v) w'
section
variable {K:Kx} {β:Lb→Option Nat} {env:Env} {H:Hp} {a:Act} {w:World}
def ar.r {o:Oper} {x:AV} {d:Option Nat} (hr:au K β env H a w) (hd:∀n,d=some n→n<K.N) (h:ar K β H a w o x):eT K env a w o d x H:=by
 obtain⟨v,w',h1,h2,h3,h4⟩:=h;exact⟨_,w',β,v,h1,.inl rfl,hr.step h2 hd (fun _=>h3) (fun _=>h4)⟩
def jH.block {l:Lb} {r:Row} {g:Nat} {I:Nat→Prop} (h:jH w β H I l r) (hb:β l=some g) :
  ∃cur e cap,w.heap[g]?=some (.cells cur e (0,0))∧cur.size=cap*r.sz∧cap≤maxLen∧r.bN.length≤cap ∧
   ∀i j cs x,r.bN[i]?=some cs→cs[j]?=some x→∃v,cur[i*r.sz+j]?=some v∧RV w β H I x v:=by
 obtain⟨_,_,h3⟩:=h;simpa only[hb] using h3
def pE {r:Row} {cur:Array Value} {I:Nat→Prop} {i:Nat} {cs:List AV} (hi:r.bN[i]?=some cs)
  (h:∀i j cs x,r.bN[i]?=some cs→cs[j]?=some x→∃v,cur[i*r.sz+j]?=some v∧RV w β H I x v) :
  ∃vs:List Value,vs.length=cs.length∧aI w β H I cs vs∧∀j v,vs[j]?=some v→cur[i*r.sz+j]?=some v:=by
 have key:∀(n:Nat) (ds:List AV),ds=cs.drop n→∃vs:List Value,vs.length=ds.length∧aI w β H I ds vs∧∀j v,vs[j]?=some v→cur[i*r.sz+(n+j)]?=some v:=by
  intro n ds;induction ds generalizing n with
  |nil=>intro _;exact⟨[],rfl,by simp[aI],by simp⟩
  |cons x ds ih=>
  intro e;have hx:cs[n]?=some x:=by rw[←Hl,←e];rfl
  have hd:ds=cs.drop (n+1):=by rw[←HN,←e];rfl
  obtain⟨v,h1,h2⟩:=h i n cs x hi hx;obtain⟨vs,k1,k2,k3⟩:=ih (n+1) hd;refine⟨v::vs,by simp[k1],⟨v,vs,rfl,h2,k2⟩,?_⟩;intro j u hj;cases j with
  |zero=>simp at hj;subst hj;simpa using h1
  |succ j=>
  have:=k3 j u (by simpa using hj)
  rwa[show n+1+j=n+(j+1) by omega] at this
 obtain⟨vs,k1,k2,k3⟩:=key 0 cs (by simp);exact⟨vs,k1,k2,fun j v hj=>by simpa using k3 j v hj⟩
def AV.pF {x:AV} (h:x.nX=true):∀y∈x.cells,y.one=true:=by
 cases x<;>simp[AV.nX,AV.one] at h<;>simp[AV.cells,AV.one];exact h
def j7 (K:Kx) (β:Lb→Option Nat) (H:Hp) (a:Act) (w:World) (o:Oper) (x:AV):Prop:=
 ∃v,(execOp a.eval o).run K.P w= .ok (.value v) w∧RV w β H (Im K β H) x v∧∀l∈x.ax,H l≠ .unused
def j7.v {o:Oper} {x:AV} (h:j7 K β H a w o x):ar K β H a w o x:=by
 obtain⟨v,h1,h2,h3⟩:=h;exact .same h1 h2 h3
def j7.same {o:Oper} {x:AV} {v:Value} (h:(execOp a.eval o).run K.P w= .ok (.value v) w)
 (hv:RV w β H (Im K β H) x v) (hm:∀l∈x.ax,H l≠ .unused):j7 K β H a w o x:=⟨v,h,hv,hm⟩
def o2 (hr:au K β env H a w) {o:Oper} {t:TypeId} {x:Operand} {x':O} {m:Option Nat} (ho:o.op= .load t x) (hm:pz K.P t=some m) (hx:co K.G x=some x') {y:AV}
  (hy:cN m (ev env x') H=some y):j7 K β H a w o y:=by
 have h:=hr.ev hx;unfold cN at hy;split at hy
 ·rename_i l sz i j e;rw[e] at h;simp only[RV] at h;obtain⟨ad,h1,h2⟩:=h;split at hy
  ·rename_i r hl;split at hy
   ·rename_i fh;subst fh;obtain⟨cs,hi,hy⟩:=Fv.1 hy;obtain⟨g,hb,rfl⟩:=h2 ⟨r,hl⟩;obtain⟨cur,e0,cap,k1,k2,k3,k4,k5⟩:=(hr.rows l r hl).block hb;obtain⟨vs,v1,v2,v3⟩:=pE hi k5;have gI:∀q v,vs[q]?=some v→w.cell? ⟨g,i*r.sz+q,none⟩=some v:=by
     intro q v hq;rw[cell_of_row w g _ cur e0 (0,0) k1];exact v3 q v hq
    have run:∀v,(loadVar t ⟨g,i*r.sz+j,none⟩).run K.P w= .ok v w→(execOp a.eval o).run K.P w= .ok (.value v) w:=by
     intro v hv;simp[execOp,ho,h1,Instr.loadAt,Instr.sureAddr,hv]
    have wa:∀q∈af cs,H q≠ .unused:=hr.bL l r hl cs (Fx hi);cases m with
    |none=>
     simp only at hy;obtain⟨v,e1,e2⟩:=aI.get _ _ _ _ v2 hy;exact j7.same (run v (fR hm _ _ (gI j v e1))) e2 (fun q hq=>wa q (bT _ _ _ hy q hq))
    |some k=>
    simp only at hy;split at hy
    ·rename_i hk;simp only[cQ] at hy;subst hy;refine j7.same (run (.agg ((vs.drop j).take k).toArray) (fQ hm _ _ (by simp;omega) (fun q v hq=> ?_))) ⟨_,rfl,aI.take _ _ _ (aI.drop _ _ _ v2)⟩ ?_
     ·rw[FA] at hq;split at hq
      ·rw[F6] at hq;rw[addr_add,GZ];exact gI _ v hq
      simp at hq
     intro q hq;simp only[AV.ax] at hq;refine wa q ?_;have ik:∀(l m:List AV),af (l++m)=af l++af m:=by
      intro l m;induction l with
      |nil=>rfl
      |cons x r ih=>simp[af,ih]
     have e1:=ik (cs.take j) (cs.drop j);rw[FZ] at e1;have e2:=ik ((cs.drop j).take k) ((cs.drop j).drop k);rw[FZ] at e2;rw[e1,e2];exact Fz.2 (.inr (Fz.2 (.inl hq)))
    simp at hy
   simp at hy
  simp at hy
 simp at hy
def wZ (hr:au K β env H a w) {o:Oper} {t:TypeId} {x:Operand} {x':O} {m:Option Nat} (ho:o.op= .load t x) (hm:pz K.P t=some m) (hx:co K.G x=some x') {y:AV}
 (hy:cN m (ev env x') H=some y):ar K β H a w o y:=(o2 hr ho hm hx hy).v
def wb (hr:au K β env H a w) {o:Oper} {c:Array Value} {e:TypeId} {cs:List AV} {d:Nat} (hd:d<K.N)
   (fG:(execOp a.eval o).run K.P w= .ok (.value (.pointer (some ⟨w.heap.size,0,none⟩))) (w.alloc (.cells c e)))
   (hc:aI w β H (Im K β H) cs c.toList) (h0:0<cs.length) (tX:cs.length≤maxLen) (hm:∀l∈af cs,H l≠ .unused) (hu:H (.loc d)= .unused) :
   eT K env a w o (some d) (.ptr (.loc d) cs.length 0 0) (bb H (.loc d) (.live ⟨cs.length,[cs]⟩)):=by
 have gw:=cF w (.cells c e)
 have hlen:c.size=cs.length:=by rw[←aI.len _ _ hc];simp
 have ca:dw w (w.alloc (.cells c e)) β (bb β (.loc d) (some w.heap.size)) H (bb H (.loc d) (.live ⟨cs.length,[cs]⟩)) (Im K β H)
     (Im K (bb β (.loc d) (some w.heap.size)) (bb H (.loc d) (.live ⟨cs.length,[cs]⟩))) (af cs):=
   { im := fun k hk hs => ⟨⟨hk.1,fun l' ⟨r',iM⟩ => by
       by_cases e1:l'= .loc d
       · subst e1;simp;omega
       rw[ai _ _ e1] at iM ⊢;exact hk.2 l' ⟨r',iM⟩⟩,Gk hs gw.size,gw.block k hs⟩
     lb:=fun l' wY ⟨r',iM⟩=>by
       have e1:l'≠ .loc d:=fun e1=>hm l' wY (e1▸hu)
       rw[ai _ _ e1] at iM
       refine⟨⟨r',iM⟩,ai _ _ e1,fun g S _ hS=> ?_⟩
       unfold fi at *
       rwa[gw.block g (n4 hS)]}
 have lR:jH (w.alloc (.cells c e)) (bb β (.loc d) (some w.heap.size)) (bb H (.loc d) (.live ⟨cs.length,[cs]⟩))
     (Im K (bb β (.loc d) (some w.heap.size)) (bb H (.loc d) (.live ⟨cs.length,[cs]⟩))) (.loc d) ⟨cs.length,[cs]⟩:=by
   refine⟨h0,by simp,?_⟩
   simp only[ei]
   refine⟨c,e,1,heap_alloc_new w (.cells c e),by simp[hlen],by simp[maxLen],by simp,fun i j gS x hi hj=> ?_⟩
   cases i with
   |succ i=>simp at hi
   |zero=>
   simp at hi;subst hi
   obtain⟨v,k1,k2⟩:=aI.get _ _ _ _ hc hj
   refine⟨v,by simpa using k1,RV.mono _ _ (ca.sub (fun l hl=>bT _ _ _ hj l hl)) k2⟩
 have h2:=hr.iP (.loc d) hu gw (some w.heap.size) (by simp) (by simpa using hm) lR
 have h3:=h2.step (Below.refl _ _) (d:=some d) (x:= .ptr (.loc d) cs.length 0 0) (v:= .pointer (some ⟨w.heap.size,0,none⟩)) (by simpa using hd)
   (fun _=>by simp only[RV];exact⟨_,rfl,fun _=>⟨w.heap.size,by simp,by simp⟩⟩) (by simp[AV.ax])
 exact⟨_,_,_,_,fG,.inl rfl,h3⟩
def z' (hr:au K β env H a w) {o:Oper} {t:TypeId} {x:Operand} {x':O} {d:Nat} (hd:d<K.N) (ho:o.op= .box t x) (hx:co K.G x=some x') (cL:(ev env x').nX=true)
  (h0:0<(ev env x').cells.length) (tX:(ev env x').cells.length≤maxLen) (hu:H (.loc d)= .unused) :
  eT K env a w o (some d) (.ptr (.loc d) (ev env x').cells.length 0 0) (bb H (.loc d) (.live ⟨(ev env x').cells.length,[(ev env x').cells]⟩)):=by
 have h:=hr.ev hx;have hm:=hr.cR hx;obtain⟨k1,k2⟩:=aI.gq h (AV.nZ cL);refine wb hr hd (c:=(a.eval x).cells) (e:=t) ?_ k2 h0 tX ?_ hu
 ·simp[execOp,ho,Instr.box,newVar,newRow]
 intro l hl;refine hm l ?_;cases hc:ev env x'<;>simp[hc,AV.cells,af] at hl<;>simp[AV.ax] at hl ⊢<;>exact hl
theorem eG:∀(l:List Value) (xs:List AV),gF l=some xs→af xs=[]
 |[],xs,h=>by simp[gF] at h;subst h;rfl
 |v::r,xs,h=>by
  simp only[gF,Fv,Fu] at h;obtain⟨x,h1,s,h2,rfl⟩:=h;simp[af,nT h1,eG r s h2]
def tY (hr:au K β env H a w) {o:Oper} {t:TypeId} {i:TypeInfo} {z:Value} {cs:List AV} {d:Nat} (hd:d<K.N) (ho:o.op= .alloc t) (hi:K.P.info? t=some i) (hz:i.zero=some z)
  (j5:gF z.cells.toList=some cs) (h0:0<cs.length) (tX:cs.length≤maxLen) (hu:H (.loc d)= .unused) :
  eT K env a w o (some d) (.ptr (.loc d) cs.length 0 0) (bb H (.loc d) (.live ⟨cs.length,[cs]⟩)):=by
 refine wb hr hd (c:=z.cells) (e:=t) ?_ (eE _ _ j5 _ _ _ _) h0 tX (by simp[eG _ _ j5]) hu;simp[execOp,ho,Instr.alloc,zeroValue,typeInfo,hi,hz,newVar,newRow]
def tZ (hr:au K β env H a w) {o:Oper} {t:TypeId} {x y:Operand} {x' y':O} {m:Nat} (ho:o.op= .store t x y) (hm:j0 K.P t=some m) (hx:co K.G x=some x') (hy:co K.G y=some y') {H':Hp}
  (hs:eF m (ev env x') (ev env y') H=some H'):eT K env a w o none .un H':=by
 have h:=hr.ev hx;have h2:=hr.ev hy;have DT:=hr.cR hy;unfold eF at hs;split at hs
 ·rename_i l sz i j e;rw[e] at h;simp only[RV] at h;obtain⟨ad,h1,h3⟩:=h;split at hs
  ·rename_i r hl;split at hs
   ·rename_i hc;obtain⟨fh,cL,hlen⟩:=hc;subst fh;obtain⟨cs,hi,hs⟩:=Fv.1 hs;split at hs
    ·rename_i EZ;simp only[cQ] at hs;subst hs;obtain⟨g,hb,rfl⟩:=h3 ⟨r,hl⟩;obtain⟨cur,e0,cap,k1,k2,k3,k4,k5⟩:=(hr.rows l r hl).block hb;obtain⟨c1,c2⟩:=aI.gq h2 (AV.nZ cL);have qZ:i<r.bN.length:=(Fw.1 hi).1;have nO:cs.length=r.sz:=(hr.rows l r hl).2.1 cs (Fx hi);have hbound:i*r.sz+r.sz≤cur.size:=by
      rw[k2,←Nat.succ_mul];exact FC _ (by omega)
     have Bp:(a.eval y).cells.toList.length=m:=(by simp;omega);have z_:=run_storeCells_at K.P g (i*r.sz+j) e0 (a.eval y).cells.toList 0 cur w k1 (by omega) (by
      intro u hu;obtain⟨q,hq⟩:=Gl hu;have zh:q<(ev env y').cells.length:=by
       have:=(Fw.1 hq).1;omega
      obtain⟨u',e1,e2⟩:=aI.get _ _ q _ c2 (FF zh);rw[hq] at e1;cases e1;exact RV.ie e2 (AV.pF cL _ (GQ zh)))
     simp only[G5] at z_;have fG:(execOp a.eval o).run K.P w= .ok .skip (w.setRow g (cur.toList.take (i*r.sz+j)++(a.eval y).cells.toList++cur.toList.drop (i*r.sz+j+(a.eval y).cells.toList.length)).toArray):=by
      have fa:¬(a.eval y).cells.size≠m:=(by simp at Bp;simp[Bp]);simp only[execOp,ho,h1,Instr.storeAt,Instr.sureAddr,Sem.run_bind,Sem.run_pure,Result.andThen_ok,storeVar,bu hm,Sem.run_ite,fa,GM,z_]
     have gJ:(cur.toList.take (i*r.sz+j)++(a.eval y).cells.toList++cur.toList.drop (i*r.sz+j+(a.eval y).cells.toList.length)).toArray.size=cur.size:=by
      simp only[GV,Ga,F0,Gm,G0];simp at Bp;omega
     have gf:=hr.setRow l (r':=⟨r.sz,r.bN.set i (cs.take j++(ev env y').cells++cs.drop (j+m))⟩) hl hb k1 gJ rfl k2 k3 (by simpa using k4) ?_ ?_ ?_
     ·have:=gf.step (Below.refl _ _) (d:=none) (x:= .un) (v:=undef) (by simp) (by simp) (by simp);exact⟨_,_,_,_,fG,.inr ⟨rfl,rfl⟩,this⟩
     ·intro ds th;rcases G1 th with th|rfl
      ·exact(hr.rows l r hl).2.1 ds th
      simp;omega
     ·intro ds th q hq;rcases G1 th with th|rfl
      ·exact hr.bL l r hl ds th q hq
      have ik:∀(l m:List AV),af (l++m)=af l++af m:=by
       intro l m;induction l with
       |nil=>rfl
       |cons x r ih=>simp[af,ih]
      rw[ik,ik,Fz,Fz] at hq;have bt:=hr.bL l r hl cs (Fx hi);rcases hq with(hq|hq)|hq
      ·have e1:=ik (cs.take j) (cs.drop j);rw[FZ] at e1;exact bt q (by rw[e1];exact Fz.2 (.inl hq))
      ·refine DT q ?_;cases hc:ev env y'<;>simp[hc,AV.cells,af] at hq<;>simp[AV.ax] at hq ⊢<;>exact hq
      have e1:=ik (cs.take (j+m)) (cs.drop (j+m));rw[FZ] at e1;exact bt q (by rw[e1];exact Fz.2 (.inr hq))
     intro i' j' ds x cM fo;have BU:(a.eval y).cells.toList.length=m:=Bp;have fI:∀n,((cur.toList.take (i*r.sz+j)++(a.eval y).cells.toList++cur.toList.drop (i*r.sz+j+(a.eval y).cells.toList.length)).toArray)[n]? =
       if n<i*r.sz+j then cur[n]? else if n<i*r.sz+j+m then(a.eval y).cells.toList[n - (i*r.sz+j)]? else cur[n]?:=by
      intro n;rw[BU];have ht:(cur.toList.take (i*r.sz+j)).length=i*r.sz+j:=(by simp;omega);simp only[HO];by_cases tL:n<i*r.sz+j
      ·rw[FG tL,Gn,FO (by omega),FA,FG tL];simp
      rw[FU tL];by_cases mv:n<i*r.sz+j+m
      ·rw[FG mv,Gn,FM (by omega),ht,FO (by omega)]
      rw[FU mv,FM (by simp only[Ga];omega)];simp only[Ga,ht,BU,F6,GC];congr 1;omega
     by_cases e1:i'=i
     ·subst e1;rw[HJ qZ] at cM;simp only[cQ] at cM;subst cM;have Aa:(cs.take j).length=j:=(by simp;omega);rw[Gn] at fo;by_cases pG:j'<j
      ·rw[FO (by omega),FA,FG pG] at fo;obtain⟨v,q1,q2⟩:=k5 i' j' cs x hi fo;exact⟨v,by rw[fI,FG (by omega)];exact q1,q2⟩
      rw[FM (by omega),Aa] at fo;by_cases t_:j'<j+m
      ·rw[FO (by omega)] at fo;obtain⟨v,q1,q2⟩:=aI.get _ _ _ _ c2 fo;refine⟨v,?_,q2⟩;rw[fI,FU (by omega),FG (by omega),show i'*r.sz+j' - (i'*r.sz+j)=j' - j by omega];exact q1
      rw[FM (by omega),F6] at fo;have DU:j+m+(j' - j - (ev env y').cells.length)=j':=(by omega);rw[DU] at fo;obtain⟨v,q1,q2⟩:=k5 i' j' cs x hi fo;exact⟨v,by rw[fI,FU (by omega),FU (by omega)];exact q1,q2⟩
     rw[HP (GP e1)] at cM;obtain⟨v,q1,q2⟩:=k5 i' j' ds x cM fo;refine⟨v,?_,q2⟩;have DV:j'<r.sz:=by
      have:=(hr.rows l r hl).2.1 ds (Fx cM);have:=(Fw.1 fo).1;omega
     have w6:i'*r.sz+j'<i*r.sz∨i*r.sz+r.sz≤i'*r.sz+j':=by
      rcases Nat.lt_or_gt_of_ne e1 with cD|w7
      ·left;have:=FC r.sz (show i'+1≤i by omega);rw[FI] at this;omega
      right;have:=FC r.sz (show i+1≤i' by omega);rw[FI] at this;omega
     rw[fI];rcases w6 with w6|w6
     ·rw[FG (by omega)];exact q1
     rw[FU (by omega),FU (by omega)];exact q1
    simp at hs
   simp at hs
  simp at hs
 simp at hs
end

open Classical in
noncomputable def il (sz:Nat) (x:AV) (H:Hp):Option (List (List AV)):=
 match x with
 | .nil0=>some []
 | .list xs=>if jK sz xs then some (xs.map fun y=>y.cells.map IV.dQ) else none
 | .str s=>if sz=1 then some (s.map fun c=>[.int .u8 c.toNat]) else none
 | .sl l s i n=>match H l with
  | .live r=>if s=sz∧r.sz=sz∧i+n≤r.bN.length then some ((r.bN.drop i).take n) else none
  |_=>none
 | .slk l s i n _=>match H l with
  | .live r=>if s=sz∧r.sz=sz∧i+n≤r.bN.length then some ((r.bN.drop i).take n) else none
  |_=>none
 |_=>none
def AV.lS (x:List AV):Prop:=∀y∈x,y.one=true
open Classical in
noncomputable def j8 (sz bytes d:Nat) (s x:AV) (H:Hp):Option (AV×Hp):=
 (il sz x H).bind fun news=>if ¬(∀cs∈news,AV.lS cs) then none else
  match s with
  | .nil0=>if news.length*bytes≤140737488355328∧0<bytes∧H (.loc d)= .unused then some (.sl (.loc d) sz 0 news.length,bb H (.loc d) (.live ⟨sz,news⟩)) else none
  | .sl l s' i n=>match H l with
   | .live r=>if s'=sz∧r.sz=sz∧i=0∧n≤r.bN.length∧(n+news.length)*bytes≤140737488355328∧0<bytes∧l≠l.app d∧H (l.app d)= .unused then
    some (.sl (l.app d) sz 0 (n+news.length),bb (bb H l .dead) (l.app d) (.live ⟨sz,r.bN.take n++news⟩)) else none
   |_=>none
  | .slk l s' i n c=>match H l with
   | .live r=>if s'=sz∧r.sz=sz∧i=0∧n≤r.bN.length∧0<bytes∧l≠ .loc d then
    (if n+news.length≤c then(if n+news.length≤r.bN.length then some (.slk l sz 0 (n+news.length) c,bb H l (.live ⟨sz,r.bN.take n++news++r.bN.drop (n+news.length)⟩)) else none)
    else(if(n+news.length)*bytes≤140737488355328∧H (.loc d)= .unused then some (.sl (.loc d) sz 0 (n+news.length),bb H (.loc d) (.live ⟨sz,r.bN.take n++news⟩)) else none)) else none
   |_=>none
  |_=>none
section
variable {P:Program} {w:World}
theorem dq {st xt ty e:TypeId} {i:TypeInfo} (hu:P.underlying st=some (.slice e)) (hi:P.info? e=some i) {d:TypeDesc} (hx:P.underlying xt=some d) (hd:d= .string∨∃e2,d= .slice e2)
  (ad:Option Addr) (n c m:Nat) (xv:Value) (vals:Array Value) (hlen:(Builtin.lenOf xv).run P w= .ok m w) (hf:(Builtin.firstCells i.size m xv).run P w= .ok vals w) (hle:n+m≤c) :
  (Builtin.append_ #[st,xt] ty #[.slice ad n c,xv]).run P w=match ad with
   |none=> .ok (.slice none (n+m) c) w
   |some q=>((storeCells (q.add (n*i.size)) vals.toList).run P w).andThen fun _ w'=> .ok (.slice (some q) (n+m) c) w':=by
 rcases hd with rfl|⟨e2,rfl⟩<;>cases ad<;>simp[Builtin.append_,run_underlying hu,run_underlying hx,sizeOf,typeInfo,hi,hlen,hf,hle]
def cT {st xt ty e:TypeId} {i:TypeInfo} {z:Value} (hu:P.underlying st=some (.slice e)) (hi:P.info? e=some i) (hz:i.zero=some z) {d:TypeDesc} (hx:P.underlying xt=some d) (hd:d= .string∨∃e2,d= .slice e2)
  (ad:Option Addr) (n c m:Nat) (xv:Value) (vals olds:Array Value) (hlen:(Builtin.lenOf xv).run P w= .ok m w) (hf:(Builtin.firstCells i.size m xv).run P w.drew= .ok vals w.drew)
  (ho:(Builtin.firstCells i.size n (.slice ad n c)).run P w.drew= .ok olds w.drew) (w7:c<n+m) (hb:(n+m)*i.bytes≤140737488355328) (mG:0<i.bytes) :
  (Builtin.append_ #[st,xt] ty #[.slice ad n c,xv]).run P w= .ok (.slice (some ⟨w.heap.size,0,none⟩) (n+m) (grownCap w (n+m) c e))
   (w.drew.alloc (.cells (olds++vals++Builtin.zeroCells z.cells (grownCap w (n+m) c e - (n+m))) e)):=by
 have hn:¬(n+m≤c):=by omega
 have DW:n+m≤(n+m)*i.bytes:=F7 _ mG;have w8:¬(9223372036854775807<((n:Int)+(m:Int))):=by omega
 have w9:¬(281474976710656<Builtin.nextslicecap (n+m) c*i.bytes):=by have:=growslice_fits w7 hb;omega
 rcases hd with rfl|⟨e2,rfl⟩<;>simp[Builtin.append_,run_underlying hu,run_underlying hx,sizeOf,typeInfo,zeroValue,hi,hz,hlen,hn,w8,w9,Question.forced,hf,ho,newRow,grownCap]
end
section
variable {K:Kx} {β:Lb→Option Nat} {env:Env} {H:Hp} {a:Act} {w:World}
theorem j9 {I:Nat→Prop} {sz:Nat} (h0:0<sz):∀(xs:List IV) (b o:Nat),jK sz xs→aT w I xs b o sz →
  ∃vals:List Value,vals.length=xs.length*sz∧(∀j v,vals[j]?=some v→w.cell? ⟨b,o+j,none⟩=some v) ∧
   ∀i j x y,xs[i]?=some x→(x.cells.map IV.dQ)[j]?=some y→∃v,vals[i*sz+j]?=some v∧RV w β H I y v
 |[],b,o,_,_=>⟨[],by simp,by simp,by simp⟩
 |x::r,b,o,hs,he=>by
  simp only[aT] at he;obtain⟨h1,h2⟩:=he;obtain⟨vr,k1,k2,k3⟩:=j9 h0 r b (o+sz) (fun y hy=>hs y (by simp[hy])) h2;have hx:=(dB w I x b o sz).1 h1;obtain⟨vx,e1,e2,e3⟩:=aI.lQ (β:=β) (H:=H) x.cells b o hx.2;have hl:vx.length=sz:=by rw[e2,hx.1]
  refine⟨vx++vr,by simp[hl,k1,FI];omega,?_,?_⟩
  ·intro j v hj;by_cases w_:j<sz
   ·rw[FO (by omega)] at hj;exact e3 j v hj
   rw[FM (by omega),hl] at hj;have:=k2 _ v hj
   rwa[show o+sz+(j - sz)=o+j by omega] at this
  intro i j x' y hi hj;cases i with
  |zero=>
   simp at hi;subst hi;obtain⟨v,q1,q2⟩:=aI.get _ _ _ _ e1 hj;refine⟨v,?_,q2⟩;have:j<vx.length:=(Fw.1 q1).1;simp only[GA,F1];rw[FO this];exact q1
  |succ i=>
  obtain⟨v,q1,q2⟩:=k3 i j x' y (by simpa using hi) hj;refine⟨v,?_,q2⟩;rw[FI,HI,FM (by omega),hl,show i*sz+sz+j - sz=i*sz+j by omega];exact q1
structure Src (K:Kx) (β:Lb→Option Nat) (H:Hp) (w:World) (sz:Nat) (xv:Value) (news:List (List AV)) (vals:List Value):Prop where
 len:vals.length=news.length*sz
 lenOf:(Builtin.lenOf xv).run K.P w= .ok news.length w
 q_:∀k,k≤news.length→∀w1,(w1=w∨w1=w.drew)→(Builtin.firstCells sz k xv).run K.P w1= .ok (vals.take (k*sz)).toArray w1
 rv:∀i j cs y,news[i]?=some cs→cs[j]?=some y→∃v,vals[i*sz+j]?=some v∧RV w β H (Im K β H) y v
 pH:∀cs∈news,cs.length=sz
 dp:∀cs∈news,∀l∈af cs,H l≠ .unused
def Src.cells {K:Kx} {β:Lb→Option Nat} {H:Hp} {w:World} {sz:Nat} {xv:Value} {news:List (List AV)} {vals:List Value} (S:Src K β H w sz xv news vals) :
  ∀w1,(w1=w∨w1=w.drew)→(Builtin.firstCells sz news.length xv).run K.P w1= .ok vals.toArray w1:=fun w1 n5=>by
 rw[S.q_ _ (FJ _) w1 n5,F_ (HZ S.len)]
def jW (hr:au K β env H a w) {x:Operand} {x':O} {sz:Nat} {news:List (List AV)} (hx:co K.G x=some x') (h0:0<sz) (hs:il sz (ev env x') H=some news) :
  ∃vals,Src K β H w sz (a.eval x) news vals:=by
 have h:=hr.ev hx;unfold il at hs;split at hs
 ·rename_i e;rw[e] at h;simp only[cQ] at hs;subst hs;simp only[RV] at h;obtain⟨ad,h⟩:=h;rw[h];refine⟨[],by simp,by simp[Builtin.lenOf],?_,by simp,by simp,by simp⟩;intro k hk w1 _;have ra:k=0:=by simpa using hk
  subst ra;cases ad with
  |none=>simp[Builtin.firstCells]
  |some q=>simp[Builtin.firstCells,loadCells,loadCellsFrom]
 ·rename_i xs e;rw[e] at h;split at hs
  ·rename_i jM;simp only[cQ] at hs;subst hs;simp only[RV,de] at h;obtain⟨ad,c,h1,h2,h3,h4⟩:=h;rw[h1];rcases h4 with h4|⟨b,o',pH,rfl,e1,e2,e3,e4⟩
   ·have:xs=[]:=FH h4;subst this;refine⟨[],by simp,by simp[Builtin.lenOf],?_,by simp,by simp,by simp⟩;intro k hk w1 _;have ra:k=0:=(by simpa using hk);subst ra;cases ad with
    |none=>simp[Builtin.firstCells]
    |some q=>simp[Builtin.firstCells,loadCells,loadCellsFrom]
   by_cases hn:xs=[]
   ·subst hn;refine⟨[],by simp,by simp[Builtin.lenOf],?_,by simp,by simp,by simp⟩;intro k hk w1 _;have ra:k=0:=(by simpa using hk);subst ra;simp[Builtin.firstCells,loadCells,loadCellsFrom]
   have fh:=kY e4 jM (List.length_pos_iff.2 hn);subst fh;obtain⟨vals,k1,k2,k3⟩:=j9 (β:=β) (H:=H) h0 xs b o' jM e4;refine⟨vals,by simpa using k1,by simp[Builtin.lenOf],?_,?_,?_,?_⟩
   ·intro k hk w1 n5;simp only[FT] at hk;have E0:k*pH≤vals.length:=(by rw[k1];exact FC _ (by simpa using hk));refine run_firstCells_some (P:=K.P) w1 _ k ⟨b,o',none⟩ xs.length c _ (by rw[F0];omega) (fun j v hj=> ?_);rw[addr_add]
    replace hj:vals[j]?=some v:=by
     rw[FA] at hj;split at hj
     ·exact hj
     simp at hj
    rcases n5 with rfl|rfl
    ·exact k2 j v hj
    simpa using k2 j v hj
   ·intro i j cs y hi hj;simp only[F9,Fu] at hi;obtain⟨x0,hi,rfl⟩:=hi;exact k3 i j x0 y hi hj
   ·intro cs bt;simp only[F2] at bt;obtain⟨x0,zi,rfl⟩:=bt;simpa using jM x0 zi
   intro cs bt l hl;simp only[F2] at bt;obtain⟨x0,zi,rfl⟩:=bt;simp[fE] at hl
  simp at hs
 ·rename_i s e;rw[e] at h;split at hs
  ·rename_i h1;subst h1;simp only[cQ] at hs;subst hs;simp only[RV] at h;rw[h];refine⟨s.map fun c=> .int .u8 c.toNat,by simp,by simp[Builtin.lenOf,gd],?_,?_,?_,?_⟩
   ·intro k hk w1 _;have e1:(⟨s.toArray⟩:ByteArray).extract 0 k=⟨(s.take k).toArray⟩:=by
     apply HT;rw[HG];simp
    simp[Builtin.firstCells,e1,List.map_take]
   ·intro i j cs y hi hj;simp only[F9,Fu] at hi;obtain⟨c,hi,rfl⟩:=hi;cases j with
    |succ j=>simp at hj
    |zero=>
    simp at hj;subst hj;exact⟨.int .u8 c.toNat,by simp[hi],by simp[RV]⟩
   ·intro cs bt;simp only[F2] at bt;obtain⟨c,_,rfl⟩:=bt;rfl
   intro cs bt l hl;simp only[F2] at bt;obtain⟨c,_,rfl⟩:=bt;simp[af,AV.ax] at hl
  simp at hs
 ·rename_i l s i n e;rw[e] at h;split at hs
  ·rename_i r hl;split at hs
   ·rename_i hc;obtain⟨rfl,fh,pA⟩:=hc;subst fh;simp only[cQ] at hs;subst hs;simp only[RV] at h;obtain⟨ad,c,h1,h2,h3,h4,h5⟩:=h;rw[h1];have j_:((r.bN.drop i).take n).length=n:=(by simp;omega);by_cases hn:n=0
    ·subst hn;refine⟨[],by simp,by simp[Builtin.lenOf],?_,by simp,by simp,by simp⟩;intro k hk w1 _;have ra:k=0:=(by simpa using hk);subst ra;cases ad with
     |none=>simp[Builtin.firstCells]
     |some q=>simp[Builtin.firstCells,loadCells,loadCellsFrom]
    rcases h5 ⟨r,hl⟩ with h6|⟨g,S,e1,rfl,e3,e4⟩
    ·omega
    obtain⟨cur,e0,cap,k1,k2,k3,k4,k5⟩:=(hr.rows l r hl).block e1;have hS:cur.size=S:=by
     unfold fi at e3;simp only[k1] at e3;simpa using e3
    have hb:i*r.sz+n*r.sz≤cur.size:=by
     rw[k2,←FI];exact FC _ (by omega)
    refine⟨(cur.toList.drop (i*r.sz)).take (n*r.sz),by rw[j_];simp;omega,by rw[j_];simp[Builtin.lenOf],?_,?_,?_,?_⟩
    ·intro k hk w1 n5;rw[j_] at hk;have C2:=FC r.sz hk;refine run_firstCells_some (P:=K.P) w1 _ k ⟨g,i*r.sz,none⟩ n c _ (by simp;omega) (fun j v hj=> ?_);rw[addr_add]
     replace hj:((cur.toList.drop (i*r.sz)).take (n*r.sz))[j]?=some v:=by
      rw[FA] at hj;split at hj
      ·exact hj
      simp at hj
     have gI:w.cell? ⟨g,i*r.sz+j,none⟩=some v:=by
      rw[cell_of_row w g _ cur e0 (0,0) k1];rw[FA] at hj;split at hj
      ·simpa using hj
      simp at hj
     rcases n5 with rfl|rfl
     ·exact gI
     simpa using gI
    ·intro i' j cs y hi hj;rw[FA] at hi;split at hi
     ·rename_i cD;rw[F6] at hi;obtain⟨v,q1,q2⟩:=k5 _ j cs y hi hj;have w_:j<r.sz:=by
       have:=(hr.rows l r hl).2.1 cs (Fx hi);have:=(Fw.1 hj).1;omega
      refine⟨v,?_,q2⟩;have ka:i'*r.sz+j<n*r.sz:=by
       have:=FC r.sz (show i'+1≤n by omega);rw[FI] at this;omega
      rw[FA,FG ka,F6,GC,←q1];congr 1;rw[FI];omega
     simp at hi
    ·intro cs bt;exact(hr.rows l r hl).2.1 cs (Gw (FX bt))
    intro cs bt;exact hr.bL l r hl cs (Gw (FX bt))
   simp at hs
  simp at hs
 ·rename_i l s i n c0 e;rw[e] at h;split at hs
  ·rename_i r hl;split at hs
   ·rename_i hc;obtain⟨rfl,fh,pA⟩:=hc;subst fh;simp only[cQ] at hs;subst hs;simp only[RV] at h;obtain⟨ad,h1,h2,h3,h4,h5⟩:=h;rw[h1];have j_:((r.bN.drop i).take n).length=n:=(by simp;omega);by_cases hn:n=0
    ·subst hn;refine⟨[],by simp,by simp[Builtin.lenOf],?_,by simp,by simp,by simp⟩;intro k hk w1 _;have ra:k=0:=(by simpa using hk);subst ra;cases ad with
     |none=>simp[Builtin.firstCells]
     |some q=>simp[Builtin.firstCells,loadCells,loadCellsFrom]
    rcases h5 ⟨r,hl⟩ with h6|⟨g,S,e1,rfl,e3,e4⟩
    ·omega
    obtain⟨cur,e0,cap,k1,k2,k3,k4,k5⟩:=(hr.rows l r hl).block e1;have hS:cur.size=S:=by
     unfold fi at e3;simp only[k1] at e3;simpa using e3
    have hb:i*r.sz+n*r.sz≤cur.size:=by
     rw[k2,←FI];exact FC _ (by omega)
    refine⟨(cur.toList.drop (i*r.sz)).take (n*r.sz),by rw[j_];simp;omega,by rw[j_];simp[Builtin.lenOf],?_,?_,?_,?_⟩
    ·intro k hk w1 n5;rw[j_] at hk;have C2:=FC r.sz hk;refine run_firstCells_some (P:=K.P) w1 _ k ⟨g,i*r.sz,none⟩ n c0 _ (by simp;omega) (fun j v hj=> ?_);rw[addr_add]
     replace hj:((cur.toList.drop (i*r.sz)).take (n*r.sz))[j]?=some v:=by
      rw[FA] at hj;split at hj
      ·exact hj
      simp at hj
     have gI:w.cell? ⟨g,i*r.sz+j,none⟩=some v:=by
      rw[cell_of_row w g _ cur e0 (0,0) k1];rw[FA] at hj;split at hj
      ·simpa using hj
      simp at hj
     rcases n5 with rfl|rfl
     ·exact gI
     simpa using gI
    ·intro i' j cs y hi hj;rw[FA] at hi;split at hi
     ·rename_i cD;rw[F6] at hi;obtain⟨v,q1,q2⟩:=k5 _ j cs y hi hj;have w_:j<r.sz:=by
       have:=(hr.rows l r hl).2.1 cs (Fx hi);have:=(Fw.1 hj).1;omega
      refine⟨v,?_,q2⟩;have ka:i'*r.sz+j<n*r.sz:=by
       have:=FC r.sz (show i'+1≤n by omega);rw[FI] at this;omega
      rw[FA,FG ka,F6,GC,←q1];congr 1;rw[FI];omega
     simp at hi
    ·intro cs bt;exact(hr.rows l r hl).2.1 cs (Gw (FX bt))
    intro cs bt;exact hr.bL l r hl cs (Gw (FX bt))
   simp at hs
  simp at hs
 simp at hs
end
end Go.Am
