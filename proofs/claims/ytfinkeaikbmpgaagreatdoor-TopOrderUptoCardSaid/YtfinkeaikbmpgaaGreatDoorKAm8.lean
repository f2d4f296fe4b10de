import Derived.Test.YtfinkeaikbmpgaaGreatDoorKAm5
set_option linter.unusedSimpArgs false
set_option linter.unusedVariables false
set_option linter.unnecessarySimpa false
set_option linter.defProp false
/- THE ABSTRACT MACHINE, part 8: what new rows, dead rows, turned rows do to the relation. -/
namespace Go.Am
open Go Go.RowKit
def bF {γ:Type} (f:Lb→γ) (l:Lb) (x:γ):Lb→γ:=fun l'=>if l'=l then x else f l'
@[simp] theorem ov {γ:Type} (f:Lb→γ) (l:Lb) (x:γ):bF f l x l=x:=by simp[bF]
theorem ax {γ:Type} (f:Lb→γ) {l l':Lb} (x:γ) (h:l'≠l):bF f l x l'=f l':=by simp[bF,h]
section
variable {K:Kx} {β:Lb→Option Nat} {env:Env} {H:Hp} {a:Act} {w:World}
def bu.xz (hr:bu K β env H a w) {l:Lb} {g:Nat} (hl:live H l) (hb:β l=some g):g<w.heap.size:=by
 obtain⟨r,sY⟩:=hl;obtain⟨_,_,h3⟩:=hr.rows l r sY;simp only[hb] at h3;obtain⟨cur,e,cap,h4,_⟩:=h3;exact(aed.1 h4).1
def G1 {w:World} {g S:Nat} (h:qU w g=some S):g<w.heap.size:=by
 unfold qU at h;cases hg:w.heap[g]? with
 |none=>simp[hg] at h
 |some o=>exact(aed.1 hg).1
def bu.kill (hr:bu K β env H a w) (l:Lb) (hu:H l≠ .unused):bu K β env (bF H l .dead) a w:=by
 have bo:∀l',live (bF H l .dead) l'→live H l'∧l'≠l:=by
   intro l' ⟨r,h⟩
   by_cases e:l'=l
   · subst e;simp at h
   rw[ax _ _ e] at h;exact⟨⟨r,h⟩,e⟩
 have ik:∀ls,kR w w β β H (bF H l .dead) (Im K β H) (Im K β (bF H l .dead)) ls:=fun ls=>
   { im := fun k hk hs => ⟨⟨hk.1,fun l' mT => hk.2 l' (bo l' mT).1⟩,hs,rfl⟩
     lb:=fun l' _ mT=>⟨(bo l' mT).1,rfl,fun _ _ _ h=>h⟩}
 refine⟨hr.defers,hr.size,fun n=>RV.mono _ _ (ik _) (hr.mS n),?_,fun l' g h=>hr.own l' g (bo l' h).1,fun l1 l2 g h1 h2=>hr.inj l1 l2 g (bo l1 h1).1 (bo l2 h2).1,?_,?_,hr.frame,?_,?_,fun l' g h=>hr.fr l' g (bo l' h).1⟩
 · intro l' r h
   have ff:=(bo l' ⟨r,h⟩).2
   rw[ax _ _ ff] at h
   obtain⟨h1,h2,h3⟩:=hr.rows l' r h
   refine⟨h1,h2,?_⟩
   cases hb:β l' with
   |none=>simpa[hb] using h3
   |some g=>
   simp only[hb] at h3 ⊢
   obtain⟨cur,e,cap,e1,e2,e3,e4,e5⟩:=h3
   exact⟨cur,e,cap,e1,e2,e3,e4,fun i j cs x hi hj=>let⟨v,k1,k2⟩:=e5 i j cs x hi hj;⟨v,k1,RV.mono _ _ (ik _) k2⟩⟩
 · intro n l' mT
   by_cases e:l'=l
   · subst e;simp
   rw[ax _ _ e];exact hr.kL n l' mT
 · intro l1 r h cs bS l' mT
   have ff:=(bo l1 ⟨r,h⟩).2
   rw[ax _ _ ff] at h
   by_cases e:l'=l
   · subst e;simp
   rw[ax _ _ e];exact hr.fk l1 r h cs bS l' mT
 · intro g cs hg
   obtain⟨h1,h2,h3⟩:=hr.l_ g cs hg
   exact⟨((ik []).im g h1 h2).1,h2,gX.mono (ik []).tomV h1 h2 h3⟩
 intro l' mT
 obtain⟨h1,h2⟩:=hr.nF l' mT
 refine⟨?_,fun h=>h2 (bo l' h).1⟩
 by_cases e:l'=l
 · subst e;simp
 rw[ax _ _ e];exact h1
def bu.s9 (hr:bu K β env H a w) (l:Lb) (hu:H l= .unused) {r:Row} {w':World} (gw:rJ w w') (b:Option Nat)
   (hb:∀g,b=some g→w.heap.size≤g) (hm:∀cs∈r.els,∀l'∈ah cs,H l'≠ .unused)
   (qC:zb w' (bF β l b) (bF H l (.live r)) (Im K (bF β l b) (bF H l (.live r))) l r):bu K (bF β l b) env (bF H l (.live r)) a w':=by
 have bo:∀l',live (bF H l (.live r)) l'→l'≠l→live H l':=by
   intro l' ⟨r',h⟩ e
   rw[ax _ _ e] at h;exact⟨r',h⟩
 have ik:∀ls,(∀l'∈ls,H l'≠ .unused)→kR w w' β (bF β l b) H (bF H l (.live r)) (Im K β H) (Im K (bF β l b) (bF H l (.live r))) ls:=fun ls rH=>
   { im := fun k hk hs => ⟨⟨hk.1,fun l' mT => by
       by_cases e:l'=l
       · subst e
         simp only[ov]
         intro hbk
         have:=hb k hbk
         omega
       rw[ax _ _ e];exact hk.2 l' (bo l' mT e)⟩,ae3 hs gw.size,gw.block k hs⟩
     lb:=fun l' U4 mT=>by
       have e:l'≠l:=fun e=>rH l' U4 (e▸hu)
       refine⟨bo l' mT e,ax _ _ e,fun g S _ hS=> ?_⟩
       unfold qU at *
       rwa[gw.block g (G1 hS)]}
 have hold:∀l' r',l'≠l→H l'= .live r'→zb w' (bF β l b) (bF H l (.live r)) (Im K (bF β l b) (bF H l (.live r))) l' r':=by
   intro l' r' e h
   obtain⟨h1,h2,h3⟩:=hr.rows l' r' h
   refine⟨h1,h2,?_⟩
   rw[ax _ _ e]
   cases QJ:β l' with
   |none=>simpa[QJ] using h3
   |some g=>
   simp only[QJ] at h3 ⊢
   obtain⟨cur,e0,cap,e1,e2,e3,e4,e5⟩:=h3
   refine⟨cur,e0,cap,(gw.block g (aed.1 e1).1).trans e1,e2,e3,e4,fun i j cs x hi hj=> ?_⟩
   obtain⟨v,k1,k2⟩:=e5 i j cs x hi hj
   exact⟨v,k1,RV.mono _ _ (ik _ (fun q hq=>hr.fk l' r' h cs (adu hi) q (gL _ _ _ hj q hq))) k2⟩
 refine⟨hr.defers,hr.size,fun n=>RV.mono _ _ (ik _ (hr.kL n)) (hr.mS n),?_,?_,?_,?_,?_,hr.frame.MF gw,?_,?_,?_⟩
 · intro l' r' h
   by_cases e:l'=l
   · subst e
     simp at h;subst h
     exact qC
   rw[ax _ _ e] at h
   exact hold l' r' e h
 · intro l' g h hg
   by_cases e:l'=l
   · subst e
     simp at hg
     exact .inr (aeZ hr.frame.size (hb g hg))
   rw[ax _ _ e] at hg
   exact hr.own l' g (bo l' h e) hg
 · intro l1 l2 g h1 h2 g1 g2
   by_cases e1:l1=l
   · by_cases e2:l2=l
     · rw[e1,e2]
     subst e1
     simp at g1
     rw[ax _ _ e2] at g2
     have:=hb g g1
     have:=hr.xz (bo l2 h2 e2) g2
     omega
   rw[ax _ _ e1] at g1
   by_cases e2:l2=l
   · subst e2
     simp at g2
     have:=hb g g2
     have:=hr.xz (bo l1 h1 e1) g1
     omega
   rw[ax _ _ e2] at g2
   exact hr.inj l1 l2 g (bo l1 h1 e1) (bo l2 h2 e2) g1 g2
 · intro n l' mT
   by_cases e:l'=l
   · subst e;simp
   rw[ax _ _ e];exact hr.kL n l' mT
 · intro l1 r1 h cs bS l' mT
   by_cases e:l'=l
   · subst e;simp
   rw[ax _ _ e]
   by_cases e1:l1=l
   · subst e1
     simp at h;subst h
     exact hm cs bS l' mT
   rw[ax _ _ e1] at h
   exact hr.fk l1 r1 h cs bS l' mT
 · intro g cs hg
   obtain⟨h1,h2,h3⟩:=hr.l_ g cs hg
   exact⟨((ik [] (by simp)).im g h1 h2).1,ae3 h2 gw.size,gX.mono (ik [] (by simp)).tomV h1 h2 h3⟩
 · intro l' mT
   obtain⟨h1,h2⟩:=hr.nF l' mT
   have e:l'≠l:=fun e=>h1 (e▸hu)
   refine⟨by rw[ax _ _ e];exact h1,fun h=> ?_⟩
   rw[ax _ _ e];exact h2 (bo l' h e)
 intro l' g h hf hg
 by_cases e:l'=l
 · subst e
   simp at hg
   exact aeZ hr.frame.size (hb g hg)
 rw[ax _ _ e] at hg
 exact hr.fr l' g (bo l' h e) hf hg
def bu.relabel (hr:bu K β env H a w) (l l':Lb) {r:Row} (hl:H l= .live r) (hu:H l'= .unused) (hf:l'.fresh=true→l.fresh=true):bu K (bF β l' (β l)) env (bF (bF H l .dead) l' (.live r)) a w:=by
 have ff:l≠l':=fun e=>by rw[e,hu] at hl;cases hl
 have bo:∀q,live (bF (bF H l .dead) l' (.live r)) q→q≠l'→live H q∧q≠l:=by
   intro q ⟨r',h⟩ e
   rw[ax _ _ e] at h
   by_cases e2:q=l
   · subst e2;simp at h
   rw[ax _ _ e2] at h;exact⟨⟨r',h⟩,e2⟩
 have ik:∀ls,(∀q∈ls,H q≠ .unused)→kR w w β (bF β l' (β l)) H (bF (bF H l .dead) l' (.live r)) (Im K β H) (Im K (bF β l' (β l)) (bF (bF H l .dead) l' (.live r))) ls:=fun ls rH=>
   { im := fun k hk hs => ⟨⟨hk.1,fun q hq => by
       by_cases e:q=l'
       · subst e
         simp only[ov]
         exact hk.2 l ⟨r,hl⟩
       rw[ax _ _ e];exact hk.2 q (bo q hq e).1⟩,hs,rfl⟩
     lb:=fun q hq xq=>by
       have e:q≠l':=fun e=>rH q hq (e▸hu)
       exact⟨(bo q xq e).1,ax _ _ e,fun _ _ _ h=>h⟩}
 have hold:∀q r',H q= .live r'→∀(b:Option Nat),b=β q→0<r'.sz∧(∀cs∈r'.els,cs.length=r'.sz) ∧
     match b with
     |none=>r'.els=[]
     |some g=>∃cur e cap,w.heap[g]?=some (.cells cur e (0,0))∧cur.size=cap*r'.sz∧cap≤maxLen∧r'.els.length≤cap ∧
         ∀i j cs x,r'.els[i]?=some cs→cs[j]?=some x→∃v,cur[i*r'.sz+j]?=some v∧RV w (bF β l' (β l)) (bF (bF H l .dead) l' (.live r)) (Im K (bF β l' (β l)) (bF (bF H l .dead) l' (.live r))) x v:=by
   intro q r' h b hb
   subst hb
   obtain⟨h1,h2,h3⟩:=hr.rows q r' h
   refine⟨h1,h2,?_⟩
   cases QJ:β q with
   |none=>simpa[QJ] using h3
   |some g=>
   simp only[QJ] at h3 ⊢
   obtain⟨cur,e0,cap,e1,e2,e3,e4,e5⟩:=h3
   refine⟨cur,e0,cap,e1,e2,e3,e4,fun i j cs x hi hj=> ?_⟩
   obtain⟨v,k1,k2⟩:=e5 i j cs x hi hj
   exact⟨v,k1,RV.mono _ _ (ik _ (fun p hp=>hr.fk q r' h cs (adu hi) p (gL _ _ _ hj p hp))) k2⟩
 refine⟨hr.defers,hr.size,fun n=>RV.mono _ _ (ik _ (hr.kL n)) (hr.mS n),?_,?_,?_,?_,?_,hr.frame,?_,?_,?_⟩
 · intro q r' h
   by_cases e:q=l'
   · subst e
     simp at h;subst h
     exact hold l r hl _ (by simp)
   rw[ax _ _ e] at h
   by_cases e2:q=l
   · subst e2;simp at h
   rw[ax _ _ e2] at h
   exact hold q r' h _ (ax _ _ e)
 · intro q g h hg
   by_cases e:q=l'
   · subst e
     simp at hg
     exact hr.own l g ⟨r,hl⟩ hg
   rw[ax _ _ e] at hg
   exact hr.own q g (bo q h e).1 hg
 · intro l1 l2 g h1 h2 g1 g2
   by_cases e1:l1=l'
   · by_cases e2:l2=l'
     · rw[e1,e2]
     subst e1
     simp at g1
     rw[ax _ _ e2] at g2
     exact absurd (hr.inj l2 l g (bo l2 h2 e2).1 ⟨r,hl⟩ g2 g1) (bo l2 h2 e2).2
   rw[ax _ _ e1] at g1
   by_cases e2:l2=l'
   · subst e2
     simp at g2
     exact absurd (hr.inj l1 l g (bo l1 h1 e1).1 ⟨r,hl⟩ g1 g2) (bo l1 h1 e1).2
   rw[ax _ _ e2] at g2
   exact hr.inj l1 l2 g (bo l1 h1 e1).1 (bo l2 h2 e2).1 g1 g2
 · intro n q hq
   by_cases e:q=l'
   · subst e;simp
   rw[ax _ _ e]
   by_cases e2:q=l
   · subst e2;simp
   rw[ax _ _ e2];exact hr.kL n q hq
 · intro l1 r1 h cs bS q hq
   by_cases e:q=l'
   · subst e;simp
   rw[ax _ _ e]
   by_cases e2:q=l
   · subst e2;simp
   rw[ax _ _ e2]
   by_cases e1:l1=l'
   · subst e1
     simp at h;subst h
     exact hr.fk l r hl cs bS q hq
   rw[ax _ _ e1] at h
   by_cases e3:l1=l
   · subst e3;simp at h
   rw[ax _ _ e3] at h
   exact hr.fk l1 r1 h cs bS q hq
 · intro g cs hg
   obtain⟨h1,h2,h3⟩:=hr.l_ g cs hg
   exact⟨((ik [] (by simp)).im g h1 h2).1,h2,gX.mono (ik [] (by simp)).tomV h1 h2 h3⟩
 · intro q hq
   obtain⟨h1,h2⟩:=hr.nF q hq
   have e:q≠l':=fun e=>h1 (e▸hu)
   refine⟨?_,fun h=> ?_⟩
   · rw[ax _ _ e]
     by_cases e2:q=l
     · subst e2;simp
     rw[ax _ _ e2];exact h1
   rw[ax _ _ e];exact h2 (bo q h e).1
 intro q g h hq hg
 by_cases e:q=l'
 · subst e
   simp at hg
   exact hr.fr l g ⟨r,hl⟩ (hf hq) hg
 rw[ax _ _ e] at hg
 exact hr.fr q g (bo q h e).1 hq hg
def rQ {w:World} {g:Nat} {cur cur':Array Value} {e:TypeId} {fr:Nat×Nat} (hg:w.heap[g]?=some (.cells cur e fr)) (hs:cur'.size=cur.size) (k S:Nat) (h:qU w k=some S) :
  qU (w.setRow g cur') k=some S:=by
 by_cases e:k=g
 ·subst e;unfold qU at *;rw[setRow_heap w k cur cur' _ fr hg];simp only[hg] at h;simp only[hs];exact h
 unfold qU at *
 rwa[setRow_other w g k cur' e]
def bu.setRow (hr:bu K β env H a w) (l:Lb) {r r':Row} {g:Nat} {cur cur':Array Value} {e:TypeId} {cap:Nat} (hl:H l= .live r) (hb:β l=some g)
   (hg:w.heap[g]?=some (.cells cur e (0,0))) (hs:cur'.size=cur.size) (pC:r'.sz=r.sz) (zV:cur.size=cap*r.sz) (El:cap≤maxLen) (hlen:r'.els.length≤cap)
   (bS:∀cs∈r'.els,cs.length=r.sz) (hm:∀cs∈r'.els,∀l'∈ah cs,H l'≠ .unused)
   (hc:∀i j cs x,r'.els[i]?=some cs→cs[j]?=some x→∃v,cur'[i*r.sz+j]?=some v∧RV w β H (Im K β H) x v) :
   bu K β env (bF H l (.live r')) a (w.setRow g cur'):=by
 have bo:∀q,live (bF H l (.live r')) q↔live H q:=by
   intro q
   by_cases e:q=l
   · subst e;simp[live,hl]
   simp[live,ax _ _ e]
 have TD:∀k,Im K β (bF H l (.live r')) k↔Im K β H k:=by
   intro k
   simp only[Im,bo]
 have ik:∀ls,kR w (w.setRow g cur') β β H (bF H l (.live r')) (Im K β H) (Im K β (bF H l (.live r'))) ls:=fun ls=>
   { im := fun k hk MP => by
       have ff:k≠g:=fun e=>hk.2 l ⟨r,hl⟩ (e▸hb)
       exact⟨(TD k).2 hk,by simpa[World.setRow] using MP,setRow_other w g k cur' ff⟩
     lb:=fun q _ hq=>⟨(bo q).1 hq,rfl,fun g' S _ h=>rQ hg hs g' S h⟩}
 refine⟨hr.defers,hr.size,fun n=>RV.mono _ _ (ik _) (hr.mS n),?_,fun q g' h=>hr.own q g' ((bo q).1 h),fun l1 l2 g' h1 h2=>hr.inj l1 l2 g' ((bo l1).1 h1) ((bo l2).1 h2),?_,?_,?_,?_,?_,fun q g' h=>hr.fr q g' ((bo q).1 h)⟩
 · intro q r1 h
   by_cases e1:q=l
   · subst e1
     simp at h;subst h
     refine⟨by rw[pC];exact(hr.rows q r hl).1,by rw[pC];exact bS,?_⟩
     simp only[hb]
     refine⟨cur',e,cap,setRow_heap w g cur cur' e (0,0) hg,by rw[hs,zV,pC],El,hlen,fun i j cs x hi hj=> ?_⟩
     obtain⟨v,k1,k2⟩:=hc i j cs x hi hj
     exact⟨v,by rw[pC];exact k1,RV.mono _ _ (ik _) k2⟩
   rw[ax _ _ e1] at h
   obtain⟨h1,h2,h3⟩:=hr.rows q r1 h
   refine⟨h1,h2,?_⟩
   cases QJ:β q with
   |none=>simpa[QJ] using h3
   |some g'=>
   simp only[QJ] at h3 ⊢
   have ff:g'≠g:=fun e=>e1 (hr.inj q l g ⟨r1,h⟩ ⟨r,hl⟩ (e▸QJ) hb)
   obtain⟨abB,e0,abC,k1,k2,k3,k4,k5⟩:=h3
   refine⟨abB,e0,abC,(setRow_other w g g' cur' ff).trans k1,k2,k3,k4,fun i j cs x hi hj=> ?_⟩
   obtain⟨v,j1,j2⟩:=k5 i j cs x hi hj
   exact⟨v,j1,RV.mono _ _ (ik _) j2⟩
 · intro n q hq
   by_cases e1:q=l
   · subst e1;simp
   rw[ax _ _ e1];exact hr.kL n q hq
 · intro l1 r1 h cs Y8 q hq
   by_cases e1:q=l
   · subst e1;simp
   rw[ax _ _ e1]
   by_cases e2:l1=l
   · subst e2
     simp at h;subst h
     exact hm cs Y8 q hq
   rw[ax _ _ e2] at h
   exact hr.fk l1 r1 h cs Y8 q hq
 · refine⟨hr.frame.os,hr.frame.tape,hr.frame.output,by simpa[World.setRow] using hr.frame.size,fun k hk hd=> ?_,fun k S hS=>rQ hg hs k S (hr.frame.bs k S hS)⟩
   have ff:k≠g:=by
     intro e1
     subst e1
     rcases hr.own l k ⟨r,hl⟩ hb with h1|h1
     · exact hd h1
     omega
   rw[setRow_other w g k cur' ff]
   exact hr.frame.block k hk hd
 · intro k cs hk
   obtain⟨h1,h2,h3⟩:=hr.l_ k cs hk
   exact⟨((ik []).im k h1 h2).1,((ik []).im k h1 h2).2.1,gX.mono (ik []).tomV h1 h2 h3⟩
 intro q hq
 obtain⟨h1,h2⟩:=hr.nF q hq
 refine⟨?_,fun h=>h2 ((bo q).1 h)⟩
 by_cases e1:q=l
 · subst e1;simp
 rw[ax _ _ e1];exact h1
end

def jR (m:Option Nat) (x:AV) (H:Hp):Option AV:=
 match x with
 | .ptr l sz i j=>match H l with
  | .live r=>if r.sz=sz then(r.els[i]?).bind fun cs=>match m with
    |none=>cs[j]?
    |some k=>if j+k≤cs.length then some (.agg ((cs.drop j).take k)) else none
   else none
  |_=>none
 |_=>none
def pE (m:Nat) (a x:AV) (H:Hp):Option Hp:=
 match a with
 | .ptr l sz i j=>match H l with
  | .live r=>if r.sz=sz∧x.GF=true∧x.cells.length=m then(r.els[i]?).bind fun cs=>
    if j+m≤cs.length then some (bF H l (.live ⟨sz,r.els.set i (cs.take j++x.cells++cs.drop (j+m))⟩)) else none
   else none
  |_=>none
 |_=>none
def qk (K:Kx) (env:Env) (a:Act) (w:World) (o:Oper) (d:Option Nat) (x:AV) (H':Hp):Prop:=
 ∃nx w' β' v,(execOp a.eval o).run K.P w= .ok nx w'∧(nx= .value v∨(nx= .skip∧v=undef))∧bu K β' (iw env d x) H' (a.put d v) w'
section
variable {K:Kx} {β:Lb→Option Nat} {env:Env} {H:Hp} {a:Act} {w:World}
def bD.r {o:Oper} {x:AV} {d:Option Nat} (hr:bu K β env H a w) (hd:∀n,d=some n→n<K.N) (h:bD K β H a w o x):qk K env a w o d x H:=by
 obtain⟨v,w',h1,h2,h3,h4⟩:=h;exact⟨_,w',β,v,h1,.inl rfl,hr.step h2 hd (fun _=>h3) (fun _=>h4)⟩
def zb.block {l:Lb} {r:Row} {g:Nat} {I:Nat→Prop} (h:zb w β H I l r) (hb:β l=some g) :
  ∃cur e cap,w.heap[g]?=some (.cells cur e (0,0))∧cur.size=cap*r.sz∧cap≤maxLen∧r.els.length≤cap ∧
   ∀i j cs x,r.els[i]?=some cs→cs[j]?=some x→∃v,cur[i*r.sz+j]?=some v∧RV w β H I x v:=by
 obtain⟨_,_,h3⟩:=h;simpa only[hb] using h3
def Kr {r:Row} {cur:Array Value} {I:Nat→Prop} {i:Nat} {cs:List AV} (hi:r.els[i]?=some cs)
  (h:∀i j cs x,r.els[i]?=some cs→cs[j]?=some x→∃v,cur[i*r.sz+j]?=some v∧RV w β H I x v) :
  ∃vs:List Value,vs.length=cs.length∧cM w β H I cs vs∧∀j v,vs[j]?=some v→cur[i*r.sz+j]?=some v:=by
 have key:∀(n:Nat) (ds:List AV),ds=cs.drop n→∃vs:List Value,vs.length=ds.length∧cM w β H I ds vs∧∀j v,vs[j]?=some v→cur[i*r.sz+(n+j)]?=some v:=by
  intro n ds;induction ds generalizing n with
  |nil=>intro _;exact⟨[],rfl,by simp[cM],by simp⟩
  |cons x ds ih=>
  intro e;have hx:cs[n]?=some x:=by rw[←agB,←e];rfl
  have hd:ds=cs.drop (n+1):=by rw[←agG,←e];rfl
  obtain⟨v,h1,h2⟩:=h i n cs x hi hx;obtain⟨vs,k1,k2,k3⟩:=ih (n+1) hd;refine⟨v::vs,by simp[k1],⟨v,vs,rfl,h2,k2⟩,?_⟩;intro j u hj;cases j with
  |zero=>simp at hj;subst hj;simpa using h1
  |succ j=>
  have:=k3 j u (by simpa using hj)
  rwa[show n+1+j=n+(j+1) by omega] at this
 obtain⟨vs,k1,k2,k3⟩:=key 0 cs (by simp);exact⟨vs,k1,k2,fun j v hj=>by simpa using k3 j v hj⟩
def AV.Ks {x:AV} (h:x.GF=true):∀y∈x.cells,y.one=true:=by
 cases x<;>simp[AV.GF,AV.one] at h<;>simp[AV.cells,AV.one];exact h
def zW (K:Kx) (β:Lb→Option Nat) (H:Hp) (a:Act) (w:World) (o:Oper) (x:AV):Prop:=
 ∃v,(execOp a.eval o).run K.P w= .ok (.value v) w∧RV w β H (Im K β H) x v∧∀l∈x.aB,H l≠ .unused
def zW.v {o:Oper} {x:AV} (h:zW K β H a w o x):bD K β H a w o x:=by
 obtain⟨v,h1,h2,h3⟩:=h;exact .same h1 h2 h3
def zW.same {o:Oper} {x:AV} {v:Value} (h:(execOp a.eval o).run K.P w= .ok (.value v) w)
 (hv:RV w β H (Im K β H) x v) (hm:∀l∈x.aB,H l≠ .unused):zW K β H a w o x:=⟨v,h,hv,hm⟩
def IY (hr:bu K β env H a w) {o:Oper} {t:TypeId} {x:Operand} {x':O} {m:Option Nat} (ho:o.op= .load t x) (hm:Kl K.P t=some m) (hx:co K.G x=some x') {y:AV}
  (hy:jR m (ev env x') H=some y):zW K β H a w o y:=by
 have h:=hr.ev hx;unfold jR at hy;split at hy
 ·rename_i l sz i j e;rw[e] at h;simp only[RV] at h;obtain⟨ad,h1,h2⟩:=h;split at hy
  ·rename_i r hl;split at hy
   ·rename_i pC;subst pC;obtain⟨cs,hi,hy⟩:=adx.1 hy;obtain⟨g,hb,rfl⟩:=h2 ⟨r,hl⟩;obtain⟨cur,e0,cap,k1,k2,k3,k4,k5⟩:=(hr.rows l r hl).block hb;obtain⟨vs,v1,v2,v3⟩:=Kr hi k5;have sL:∀q v,vs[q]?=some v→w.cell? ⟨g,i*r.sz+q,none⟩=some v:=by
     intro q v hq;rw[cell_of_row w g _ cur e0 (0,0) k1];exact v3 q v hq
    have run:∀v,(loadVar t ⟨g,i*r.sz+j,none⟩).run K.P w= .ok v w→(execOp a.eval o).run K.P w= .ok (.value v) w:=by
     intro v hv;simp[execOp,ho,h1,Instr.loadAt,Instr.sureAddr,hv]
    have TE:∀q∈ah cs,H q≠ .unused:=hr.fk l r hl cs (adu hi);cases m with
    |none=>
     simp only at hy;obtain⟨v,e1,e2⟩:=cM.get _ _ _ _ v2 hy;exact zW.same (run v (sK hm _ _ (sL j v e1))) e2 (fun q hq=>TE q (gL _ _ _ hy q hq))
    |some k=>
    simp only at hy;split at hy
    ·rename_i hk;simp only[jl] at hy;subst hy;refine zW.same (run (.agg ((vs.drop j).take k).toArray) (sJ hm _ _ (by simp;omega) (fun q v hq=> ?_))) ⟨_,rfl,cM.take _ _ _ (cM.drop _ _ _ v2)⟩ ?_
     ·rw[adT] at hq;split at hq
      ·rw[aeD] at hq;rw[addr_add,aer];exact sL _ v hq
      simp at hq
     intro q hq;simp only[AV.aB] at hq;refine TE q ?_;have wq:∀(l m:List AV),ah (l++m)=ah l++ah m:=by
      intro l m;induction l with
      |nil=>rfl
      |cons x r ih=>simp[ah,ih]
     have e1:=wq (cs.take j) (cs.drop j);rw[ad0] at e1;have e2:=wq ((cs.drop j).take k) ((cs.drop j).drop k);rw[ad0] at e2;rw[e1,e2];exact adD.2 (.inr (adD.2 (.inl hq)))
    simp at hy
   simp at hy
  simp at hy
 simp at hy
def U5 (hr:bu K β env H a w) {o:Oper} {t:TypeId} {x:Operand} {x':O} {m:Option Nat} (ho:o.op= .load t x) (hm:Kl K.P t=some m) (hx:co K.G x=some x') {y:AV}
 (hy:jR m (ev env x') H=some y):bD K β H a w o y:=(IY hr ho hm hx hy).v
def TF (hr:bu K β env H a w) {o:Oper} {c:Array Value} {e:TypeId} {cs:List AV} {d:Nat} (hd:d<K.N)
   (rO:(execOp a.eval o).run K.P w= .ok (.value (.pointer (some ⟨w.heap.size,0,none⟩))) (w.alloc (.cells c e)))
   (hc:cM w β H (Im K β H) cs c.toList) (h0:0<cs.length) (QK:cs.length≤maxLen) (hm:∀l∈ah cs,H l≠ .unused) (hu:H (.loc d)= .unused) :
   qk K env a w o (some d) (.ptr (.loc d) cs.length 0 0) (bF H (.loc d) (.live ⟨cs.length,[cs]⟩)):=by
 have gw:=j_ w (.cells c e)
 have hlen:c.size=cs.length:=by rw[←cM.len _ _ hc];simp
 have ik:kR w (w.alloc (.cells c e)) β (bF β (.loc d) (some w.heap.size)) H (bF H (.loc d) (.live ⟨cs.length,[cs]⟩)) (Im K β H)
     (Im K (bF β (.loc d) (some w.heap.size)) (bF H (.loc d) (.live ⟨cs.length,[cs]⟩))) (ah cs):=
   { im := fun k hk hs => ⟨⟨hk.1,fun l' ⟨r',mT⟩ => by
       by_cases e1:l'= .loc d
       · subst e1;simp;omega
       rw[ax _ _ e1] at mT ⊢;exact hk.2 l' ⟨r',mT⟩⟩,ae3 hs gw.size,gw.block k hs⟩
     lb:=fun l' U4 ⟨r',mT⟩=>by
       have e1:l'≠ .loc d:=fun e1=>hm l' U4 (e1▸hu)
       rw[ax _ _ e1] at mT
       refine⟨⟨r',mT⟩,ax _ _ e1,fun g S _ hS=> ?_⟩
       unfold qU at *
       rwa[gw.block g (G1 hS)]}
 have qC:zb (w.alloc (.cells c e)) (bF β (.loc d) (some w.heap.size)) (bF H (.loc d) (.live ⟨cs.length,[cs]⟩))
     (Im K (bF β (.loc d) (some w.heap.size)) (bF H (.loc d) (.live ⟨cs.length,[cs]⟩))) (.loc d) ⟨cs.length,[cs]⟩:=by
   refine⟨h0,by simp,?_⟩
   simp only[ov]
   refine⟨c,e,1,heap_alloc_new w (.cells c e),by simp[hlen],by simp[maxLen],by simp,fun i j jm x hi hj=> ?_⟩
   cases i with
   |succ i=>simp at hi
   |zero=>
   simp at hi;subst hi
   obtain⟨v,k1,k2⟩:=cM.get _ _ _ _ hc hj
   refine⟨v,by simpa using k1,RV.mono _ _ (ik.sub (fun l hl=>gL _ _ _ hj l hl)) k2⟩
 have h2:=hr.s9 (.loc d) hu gw (some w.heap.size) (by simp) (by simpa using hm) qC
 have h3:=h2.step (Below.refl _ _) (d:=some d) (x:= .ptr (.loc d) cs.length 0 0) (v:= .pointer (some ⟨w.heap.size,0,none⟩)) (by simpa using hd)
   (fun _=>by simp only[RV];exact⟨_,rfl,fun _=>⟨w.heap.size,by simp,by simp⟩⟩) (by simp[AV.aB])
 exact⟨_,_,_,_,rO,.inl rfl,h3⟩
def Y9 (hr:bu K β env H a w) {o:Oper} {t:TypeId} {x:Operand} {x':O} {d:Nat} (hd:d<K.N) (ho:o.op= .box t x) (hx:co K.G x=some x') (mZ:(ev env x').GF=true)
  (h0:0<(ev env x').cells.length) (QK:(ev env x').cells.length≤maxLen) (hu:H (.loc d)= .unused) :
  qk K env a w o (some d) (.ptr (.loc d) (ev env x').cells.length 0 0) (bF H (.loc d) (.live ⟨(ev env x').cells.length,[(ev env x').cells]⟩)):=by
 have h:=hr.ev hx;have hm:=hr.kI hx;obtain⟨k1,k2⟩:=cM.um h (AV.GV mZ);refine TF hr hd (c:=(a.eval x).cells) (e:=t) ?_ k2 h0 QK ?_ hu
 ·simp[execOp,ho,Instr.box,newVar,newRow]
 intro l hl;refine hm l ?_;cases hc:ev env x'<;>simp[hc,AV.cells,ah] at hl<;>simp[AV.aB] at hl ⊢<;>exact hl
theorem pF:∀(l:List Value) (xs:List AV),u6 l=some xs→ah xs=[]
 |[],xs,h=>by simp[u6] at h;subst h;rfl
 |v::r,xs,h=>by
  simp only[u6,adx,ag4] at h;obtain⟨x,h1,s,h2,rfl⟩:=h;simp[ah,GO h1,pF r s h2]
def QL (hr:bu K β env H a w) {o:Oper} {t:TypeId} {i:TypeInfo} {z:Value} {cs:List AV} {d:Nat} (hd:d<K.N) (ho:o.op= .alloc t) (hi:K.P.info? t=some i) (hz:i.zero=some z)
  (zT:u6 z.cells.toList=some cs) (h0:0<cs.length) (QK:cs.length≤maxLen) (hu:H (.loc d)= .unused) :
  qk K env a w o (some d) (.ptr (.loc d) cs.length 0 0) (bF H (.loc d) (.live ⟨cs.length,[cs]⟩)):=by
 refine TF hr hd (c:=z.cells) (e:=t) ?_ (pD _ _ zT _ _ _ _) h0 QK (by simp[pF _ _ zT]) hu;simp[execOp,ho,Instr.alloc,zeroValue,typeInfo,hi,hz,newVar,newRow]
def QM (hr:bu K β env H a w) {o:Oper} {t:TypeId} {x y:Operand} {x' y':O} {m:Nat} (ho:o.op= .store t x y) (hm:zQ K.P t=some m) (hx:co K.G x=some x') (hy:co K.G y=some y') {H':Hp}
  (hs:pE m (ev env x') (ev env y') H=some H'):qk K env a w o none .un H':=by
 have h:=hr.ev hx;have h2:=hr.ev hy;have hmy:=hr.kI hy;unfold pE at hs;split at hs
 ·rename_i l sz i j e;rw[e] at h;simp only[RV] at h;obtain⟨ad,h1,h3⟩:=h;split at hs
  ·rename_i r hl;split at hs
   ·rename_i hc;obtain⟨pC,mZ,hlen⟩:=hc;subst pC;obtain⟨cs,hi,hs⟩:=adx.1 hs;split at hs
    ·rename_i hjm;simp only[jl] at hs;subst hs;obtain⟨g,hb,rfl⟩:=h3 ⟨r,hl⟩;obtain⟨cur,e0,cap,k1,k2,k3,k4,k5⟩:=(hr.rows l r hl).block hb;obtain⟨c1,c2⟩:=cM.um h2 (AV.GV mZ);have qV:i<r.els.length:=(ag6.1 hi).1;have BE:cs.length=r.sz:=(hr.rows l r hl).2.1 cs (adu hi);have hbound:i*r.sz+r.sz≤cur.size:=by
      rw[k2,←Nat.succ_mul];exact adW _ (by omega)
     have Em:(a.eval y).cells.toList.length=m:=(by simp;omega);have Y':=run_storeCells_at K.P g (i*r.sz+j) e0 (a.eval y).cells.toList 0 cur w k1 (by omega) (by
      intro u hu;obtain⟨q,hq⟩:=aeh hu;have Yc:q<(ev env y').cells.length:=by
       have:=(ag6.1 hq).1;omega
      obtain⟨u',e1,e2⟩:=cM.get _ _ q _ c2 (ag7 Yc);rw[hq] at e1;cases e1;exact RV.wj e2 (AV.Ks mZ _ (afu Yc)))
     simp only[ae0] at Y';have rO:(execOp a.eval o).run K.P w= .ok .skip (w.setRow g (cur.toList.take (i*r.sz+j)++(a.eval y).cells.toList++cur.toList.drop (i*r.sz+j+(a.eval y).cells.toList.length)).toArray):=by
      have ff:¬(a.eval y).cells.size≠m:=(by simp at Em;simp[Em]);simp only[execOp,ho,h1,Instr.storeAt,Instr.sureAddr,Sem.run_bind,Sem.run_pure,Result.andThen_ok,storeVar,fQ hm,Sem.run_ite,ff,adS,Y']
     have vf:(cur.toList.take (i*r.sz+j)++(a.eval y).cells.toList++cur.toList.drop (i*r.sz+j+(a.eval y).cells.toList.length)).toArray.size=cur.size:=by
      simp only[afO,adE,adP,aen,afV];simp at Em;omega
     have qD:=hr.setRow l (r':=⟨r.sz,r.els.set i (cs.take j++(ev env y').cells++cs.drop (j+m))⟩) hl hb k1 vf rfl k2 k3 (by simpa using k4) ?_ ?_ ?_
     ·have:=qD.step (Below.refl _ _) (d:=none) (x:= .un) (v:=undef) (by simp) (by simp) (by simp);exact⟨_,_,_,_,rO,.inr ⟨rfl,rfl⟩,this⟩
     ·intro ds ED;rcases aeY ED with ED|rfl
      ·exact(hr.rows l r hl).2.1 ds ED
      simp;omega
     ·intro ds ED q hq;rcases aeY ED with ED|rfl
      ·exact hr.fk l r hl ds ED q hq
      have wq:∀(l m:List AV),ah (l++m)=ah l++ah m:=by
       intro l m;induction l with
       |nil=>rfl
       |cons x r ih=>simp[ah,ih]
      rw[wq,wq,adD,adD] at hq;have bS:=hr.fk l r hl cs (adu hi);rcases hq with(hq|hq)|hq
      ·have e1:=wq (cs.take j) (cs.drop j);rw[ad0] at e1;exact bS q (by rw[e1];exact adD.2 (.inl hq))
      ·refine hmy q ?_;cases hc:ev env y'<;>simp[hc,AV.cells,ah] at hq<;>simp[AV.aB] at hq ⊢<;>exact hq
      have e1:=wq (cs.take (j+m)) (cs.drop (j+m));rw[ad0] at e1;exact bS q (by rw[e1];exact adD.2 (.inr hq))
     intro i' j' ds x jz oO;have hlc:(a.eval y).cells.toList.length=m:=Em;have dO:∀n,((cur.toList.take (i*r.sz+j)++(a.eval y).cells.toList++cur.toList.drop (i*r.sz+j+(a.eval y).cells.toList.length)).toArray)[n]? =
       if n<i*r.sz+j then cur[n]? else if n<i*r.sz+j+m then(a.eval y).cells.toList[n - (i*r.sz+j)]? else cur[n]?:=by
      intro n;rw[hlc];have ht:(cur.toList.take (i*r.sz+j)).length=i*r.sz+j:=(by simp;omega);simp only[agH];by_cases IQ:n<i*r.sz+j
      ·rw[adv IQ,adV,ad6 (by omega),adT,adv IQ];simp
      rw[ag8 IQ];by_cases G2:n<i*r.sz+j+m
      ·rw[adv G2,adV,adU (by omega),ht,ad6 (by omega)]
      rw[ag8 G2,adU (by simp only[adE];omega)];simp only[adE,ht,hlc,aeD,afg];congr 1;omega
     by_cases e1:i'=i
     ·subst e1;rw[aeA qV] at jz;simp only[jl] at jz;subst jz;have G3:(cs.take j).length=j:=(by simp;omega);rw[adV] at oO;by_cases hj1:j'<j
      ·rw[ad6 (by omega),adT,adv hj1] at oO;obtain⟨v,q1,q2⟩:=k5 i' j' cs x hi oO;exact⟨v,by rw[dO,adv (by omega)];exact q1,q2⟩
      rw[adU (by omega),G3] at oO;by_cases zg:j'<j+m
      ·rw[ad6 (by omega)] at oO;obtain⟨v,q1,q2⟩:=cM.get _ _ _ _ c2 oO;refine⟨v,?_,q2⟩;rw[dO,ag8 (by omega),adv (by omega),show i'*r.sz+j' - (i'*r.sz+j)=j' - j by omega];exact q1
      rw[adU (by omega),aeD] at oO;have hjj:j+m+(j' - j - (ev env y').cells.length)=j':=(by omega);rw[hjj] at oO;obtain⟨v,q1,q2⟩:=k5 i' j' cs x hi oO;exact⟨v,by rw[dO,ag8 (by omega),ag8 (by omega)];exact q1,q2⟩
     rw[aeH (aef e1)] at jz;obtain⟨v,q1,q2⟩:=k5 i' j' ds x jz oO;refine⟨v,?_,q2⟩;have ac9:j'<r.sz:=by
      have:=(hr.rows l r hl).2.1 ds (adu jz);have:=(ag6.1 oO).1;omega
     have U6:i'*r.sz+j'<i*r.sz∨i*r.sz+r.sz≤i'*r.sz+j':=by
      rcases Nat.lt_or_gt_of_ne e1 with bO|B7
      ·left;have:=adW r.sz (show i'+1≤i by omega);rw[ad_] at this;omega
      right;have:=adW r.sz (show i+1≤i' by omega);rw[ad_] at this;omega
     rw[dO];rcases U6 with U6|U6
     ·rw[adv (by omega)];exact q1
     rw[ag8 (by omega),ag8 (by omega)];exact q1
    simp at hs
   simp at hs
  simp at hs
 simp at hs
end

open Classical in
noncomputable def oT (sz:Nat) (x:AV) (H:Hp):Option (List (List AV)):=
 match x with
 | .nil0=>some []
 | .list xs=>if ko sz xs then some (xs.map fun y=>y.cells.map IV.gK) else none
 | .str s=>if sz=1 then some (s.map fun c=>[.int .u8 c.toNat]) else none
 | .sl l s i n=>match H l with
  | .live r=>if s=sz∧r.sz=sz∧i+n≤r.els.length then some ((r.els.drop i).take n) else none
  |_=>none
 | .slk l s i n _=>match H l with
  | .live r=>if s=sz∧r.sz=sz∧i+n≤r.els.length then some ((r.els.drop i).take n) else none
  |_=>none
 |_=>none
def AV.qE (x:List AV):Prop:=∀y∈x,y.one=true
open Classical in
noncomputable def nH (sz bytes d:Nat) (s x:AV) (H:Hp):Option (AV×Hp):=
 (oT sz x H).bind fun news=>if ¬(∀cs∈news,AV.qE cs) then none else
  match s with
  | .nil0=>if news.length*bytes≤140737488355328∧0<bytes∧H (.loc d)= .unused then some (.sl (.loc d) sz 0 news.length,bF H (.loc d) (.live ⟨sz,news⟩)) else none
  | .sl l s' i n=>match H l with
   | .live r=>if s'=sz∧r.sz=sz∧i=0∧n≤r.els.length∧(n+news.length)*bytes≤140737488355328∧0<bytes∧l≠l.app d∧H (l.app d)= .unused then
    some (.sl (l.app d) sz 0 (n+news.length),bF (bF H l .dead) (l.app d) (.live ⟨sz,r.els.take n++news⟩)) else none
   |_=>none
  | .slk l s' i n c=>match H l with
   | .live r=>if s'=sz∧r.sz=sz∧i=0∧n≤r.els.length∧0<bytes∧l≠ .loc d then
    (if n+news.length≤c then(if n+news.length≤r.els.length then some (.slk l sz 0 (n+news.length) c,bF H l (.live ⟨sz,r.els.take n++news++r.els.drop (n+news.length)⟩)) else none)
    else(if(n+news.length)*bytes≤140737488355328∧H (.loc d)= .unused then some (.sl (.loc d) sz 0 (n+news.length),bF H (.loc d) (.live ⟨sz,r.els.take n++news⟩)) else none)) else none
   |_=>none
  |_=>none
section
variable {P:Program} {w:World}
theorem ma {st xt ty e:TypeId} {i:TypeInfo} (hu:P.underlying st=some (.slice e)) (hi:P.info? e=some i) {d:TypeDesc} (hx:P.underlying xt=some d) (hd:d= .string∨∃e2,d= .slice e2)
  (ad:Option Addr) (n c m:Nat) (xv:Value) (vals:Array Value) (hlen:(Builtin.lenOf xv).run P w= .ok m w) (hf:(Builtin.firstCells i.size m xv).run P w= .ok vals w) (hle:n+m≤c) :
  (Builtin.append_ #[st,xt] ty #[.slice ad n c,xv]).run P w=match ad with
   |none=> .ok (.slice none (n+m) c) w
   |some q=>((storeCells (q.add (n*i.size)) vals.toList).run P w).andThen fun _ w'=> .ok (.slice (some q) (n+m) c) w':=by
 rcases hd with rfl|⟨e2,rfl⟩<;>cases ad<;>simp[Builtin.append_,run_underlying hu,run_underlying hx,sizeOf,typeInfo,hi,hlen,hf,hle]
def kV {st xt ty e:TypeId} {i:TypeInfo} {z:Value} (hu:P.underlying st=some (.slice e)) (hi:P.info? e=some i) (hz:i.zero=some z) {d:TypeDesc} (hx:P.underlying xt=some d) (hd:d= .string∨∃e2,d= .slice e2)
  (ad:Option Addr) (n c m:Nat) (xv:Value) (vals olds:Array Value) (hlen:(Builtin.lenOf xv).run P w= .ok m w) (hf:(Builtin.firstCells i.size m xv).run P w.drew= .ok vals w.drew)
  (ho:(Builtin.firstCells i.size n (.slice ad n c)).run P w.drew= .ok olds w.drew) (B7:c<n+m) (hb:(n+m)*i.bytes≤140737488355328) (zh:0<i.bytes) :
  (Builtin.append_ #[st,xt] ty #[.slice ad n c,xv]).run P w= .ok (.slice (some ⟨w.heap.size,0,none⟩) (n+m) (grownCap w (n+m) c e))
   (w.drew.alloc (.cells (olds++vals++Builtin.zeroCells z.cells (grownCap w (n+m) c e - (n+m))) e)):=by
 have hn:¬(n+m≤c):=by omega
 have h63:n+m≤(n+m)*i.bytes:=aeE _ zh;have U7:¬(9223372036854775807<((n:Int)+(m:Int))):=by omega
 have U8:¬(281474976710656<Builtin.nextslicecap (n+m) c*i.bytes):=by have:=growslice_fits B7 hb;omega
 rcases hd with rfl|⟨e2,rfl⟩<;>simp[Builtin.append_,run_underlying hu,run_underlying hx,sizeOf,typeInfo,zeroValue,hi,hz,hlen,hn,U7,U8,Question.forced,hf,ho,newRow,grownCap]
end
section
variable {K:Kx} {β:Lb→Option Nat} {env:Env} {H:Hp} {a:Act} {w:World}
theorem zX {I:Nat→Prop} {sz:Nat} (h0:0<sz):∀(xs:List IV) (b o:Nat),ko sz xs→dS w I xs b o sz →
  ∃vals:List Value,vals.length=xs.length*sz∧(∀j v,vals[j]?=some v→w.cell? ⟨b,o+j,none⟩=some v) ∧
   ∀i j x y,xs[i]?=some x→(x.cells.map IV.gK)[j]?=some y→∃v,vals[i*sz+j]?=some v∧RV w β H I y v
 |[],b,o,_,_=>⟨[],by simp,by simp,by simp⟩
 |x::r,b,o,hs,he=>by
  simp only[dS] at he;obtain⟨h1,h2⟩:=he;obtain⟨vr,k1,k2,k3⟩:=zX h0 r b (o+sz) (fun y hy=>hs y (by simp[hy])) h2;have hx:=(ku w I x b o sz).1 h1;obtain⟨vx,e1,e2,e3⟩:=cM.Dm (β:=β) (H:=H) x.cells b o hx.2;have hl:vx.length=sz:=by rw[e2,hx.1]
  refine⟨vx++vr,by simp[hl,k1,ad_];omega,?_,?_⟩
  ·intro j v hj;by_cases TG:j<sz
   ·rw[ad6 (by omega)] at hj;exact e3 j v hj
   rw[adU (by omega),hl] at hj;have:=k2 _ v hj
   rwa[show o+sz+(j - sz)=o+j by omega] at this
  intro i j x' y hi hj;cases i with
  |zero=>
   simp at hi;subst hi;obtain⟨v,q1,q2⟩:=cM.get _ _ _ _ e1 hj;refine⟨v,?_,q2⟩;have:j<vx.length:=(ag6.1 q1).1;simp only[afl,adC];rw[ad6 this];exact q1
  |succ i=>
  obtain⟨v,q1,q2⟩:=k3 i j x' y (by simpa using hi) hj;refine⟨v,?_,q2⟩;rw[ad_,afL,adU (by omega),hl,show i*sz+sz+j - sz=i*sz+j by omega];exact q1
structure Src (K:Kx) (β:Lb→Option Nat) (H:Hp) (w:World) (sz:Nat) (xv:Value) (news:List (List AV)) (vals:List Value):Prop where
 len:vals.length=news.length*sz
 lenOf:(Builtin.lenOf xv).run K.P w= .ok news.length w
 MQ:∀k,k≤news.length→∀w1,(w1=w∨w1=w.drew)→(Builtin.firstCells sz k xv).run K.P w1= .ok (vals.take (k*sz)).toArray w1
 rv:∀i j cs y,news[i]?=some cs→cs[j]?=some y→∃v,vals[i*sz+j]?=some v∧RV w β H (Im K β H) y v
 Kt:∀cs∈news,cs.length=sz
 kL:∀cs∈news,∀l∈ah cs,H l≠ .unused
def Src.cells {K:Kx} {β:Lb→Option Nat} {H:Hp} {w:World} {sz:Nat} {xv:Value} {news:List (List AV)} {vals:List Value} (S:Src K β H w sz xv news vals) :
  ∀w1,(w1=w∨w1=w.drew)→(Builtin.firstCells sz news.length xv).run K.P w1= .ok vals.toArray w1:=fun w1 oU=>by
 rw[S.MQ _ (adw _) w1 oU,ads (afm S.len)]
def zu (hr:bu K β env H a w) {x:Operand} {x':O} {sz:Nat} {news:List (List AV)} (hx:co K.G x=some x') (h0:0<sz) (hs:oT sz (ev env x') H=some news) :
  ∃vals,Src K β H w sz (a.eval x) news vals:=by
 have h:=hr.ev hx;unfold oT at hs;split at hs
 ·rename_i e;rw[e] at h;simp only[jl] at hs;subst hs;simp only[RV] at h;obtain⟨ad,h⟩:=h;rw[h];refine⟨[],by simp,by simp[Builtin.lenOf],?_,by simp,by simp,by simp⟩;intro k hk w1 _;have Dn:k=0:=by simpa using hk
  subst Dn;cases ad with
  |none=>simp[Builtin.firstCells]
  |some q=>simp[Builtin.firstCells,loadCells,loadCellsFrom]
 ·rename_i xs e;rw[e] at h;split at hs
  ·rename_i oS;simp only[jl] at hs;subst hs;simp only[RV,kP] at h;obtain⟨ad,c,h1,h2,h3,h4⟩:=h;rw[h1];rcases h4 with h4|⟨b,o',Kt,rfl,e1,e2,e3,e4⟩
   ·have:xs=[]:=aeb h4;subst this;refine⟨[],by simp,by simp[Builtin.lenOf],?_,by simp,by simp,by simp⟩;intro k hk w1 _;have Dn:k=0:=(by simpa using hk);subst Dn;cases ad with
    |none=>simp[Builtin.firstCells]
    |some q=>simp[Builtin.firstCells,loadCells,loadCellsFrom]
   by_cases hn:xs=[]
   ·subst hn;refine⟨[],by simp,by simp[Builtin.lenOf],?_,by simp,by simp,by simp⟩;intro k hk w1 _;have Dn:k=0:=(by simpa using hk);subst Dn;simp[Builtin.firstCells,loadCells,loadCellsFrom]
   have pC:=B3 e4 oS (afs.2 hn);subst pC;obtain⟨vals,k1,k2,k3⟩:=zX (β:=β) (H:=H) h0 xs b o' oS e4;refine⟨vals,by simpa using k1,by simp[Builtin.lenOf],?_,?_,?_,?_⟩
   ·intro k hk w1 oU;simp only[ag5] at hk;have G4:k*Kt≤vals.length:=(by rw[k1];exact adW _ (by simpa using hk));refine run_firstCells_some (P:=K.P) w1 _ k ⟨b,o',none⟩ xs.length c _ (by rw[adP];omega) (fun j v hj=> ?_);rw[addr_add]
    replace hj:vals[j]?=some v:=by
     rw[adT] at hj;split at hj
     ·exact hj
     simp at hj
    rcases oU with rfl|rfl
    ·exact k2 j v hj
    simpa using k2 j v hj
   ·intro i j cs y hi hj;simp only[adX,ag4] at hi;obtain⟨x0,hi,rfl⟩:=hi;exact k3 i j x0 y hi hj
   ·intro cs bS;simp only[adY] at bS;obtain⟨x0,Yd,rfl⟩:=bS;simpa using oS x0 Yd
   intro cs bS l hl;simp only[adY] at bS;obtain⟨x0,Yd,rfl⟩:=bS;simp[rM] at hl
  simp at hs
 ·rename_i s e;rw[e] at h;split at hs
  ·rename_i h1;subst h1;simp only[jl] at hs;subst hs;simp only[RV] at h;rw[h];refine⟨s.map fun c=> .int .u8 c.toNat,by simp,by simp[Builtin.lenOf,s8],?_,?_,?_,?_⟩
   ·intro k hk w1 _;have e1:(⟨s.toArray⟩:ByteArray).extract 0 k=⟨(s.take k).toArray⟩:=by
     apply agT;rw[agE];simp
    simp[Builtin.firstCells,e1,afp]
   ·intro i j cs y hi hj;simp only[adX,ag4] at hi;obtain⟨c,hi,rfl⟩:=hi;cases j with
    |succ j=>simp at hj
    |zero=>
    simp at hj;subst hj;exact⟨.int .u8 c.toNat,by simp[hi],by simp[RV]⟩
   ·intro cs bS;simp only[adY] at bS;obtain⟨c,_,rfl⟩:=bS;rfl
   intro cs bS l hl;simp only[adY] at bS;obtain⟨c,_,rfl⟩:=bS;simp[ah,AV.aB] at hl
  simp at hs
 ·rename_i l s i n e;rw[e] at h;split at hs
  ·rename_i r hl;split at hs
   ·rename_i hc;obtain⟨rfl,pC,qW⟩:=hc;subst pC;simp only[jl] at hs;subst hs;simp only[RV] at h;obtain⟨ad,c,h1,h2,h3,h4,h5⟩:=h;rw[h1];have Dp:((r.els.drop i).take n).length=n:=(by simp;omega);by_cases hn:n=0
    ·subst hn;refine⟨[],by simp,by simp[Builtin.lenOf],?_,by simp,by simp,by simp⟩;intro k hk w1 _;have Dn:k=0:=(by simpa using hk);subst Dn;cases ad with
     |none=>simp[Builtin.firstCells]
     |some q=>simp[Builtin.firstCells,loadCells,loadCellsFrom]
    rcases h5 ⟨r,hl⟩ with h6|⟨g,S,e1,rfl,e3,e4⟩
    ·omega
    obtain⟨cur,e0,cap,k1,k2,k3,k4,k5⟩:=(hr.rows l r hl).block e1;have hS:cur.size=S:=by
     unfold qU at e3;simp only[k1] at e3;simpa using e3
    have hb:i*r.sz+n*r.sz≤cur.size:=by
     rw[k2,←ad_];exact adW _ (by omega)
    refine⟨(cur.toList.drop (i*r.sz)).take (n*r.sz),by rw[Dp];simp;omega,by rw[Dp];simp[Builtin.lenOf],?_,?_,?_,?_⟩
    ·intro k hk w1 oU;rw[Dp] at hk;have BF:=adW r.sz hk;refine run_firstCells_some (P:=K.P) w1 _ k ⟨g,i*r.sz,none⟩ n c _ (by simp;omega) (fun j v hj=> ?_);rw[addr_add]
     replace hj:((cur.toList.drop (i*r.sz)).take (n*r.sz))[j]?=some v:=by
      rw[adT] at hj;split at hj
      ·exact hj
      simp at hj
     have sL:w.cell? ⟨g,i*r.sz+j,none⟩=some v:=by
      rw[cell_of_row w g _ cur e0 (0,0) k1];rw[adT] at hj;split at hj
      ·simpa using hj
      simp at hj
     rcases oU with rfl|rfl
     ·exact sL
     simpa using sL
    ·intro i' j cs y hi hj;rw[adT] at hi;split at hi
     ·rename_i bO;rw[aeD] at hi;obtain⟨v,q1,q2⟩:=k5 _ j cs y hi hj;have TG:j<r.sz:=by
       have:=(hr.rows l r hl).2.1 cs (adu hi);have:=(ag6.1 hj).1;omega
      refine⟨v,?_,q2⟩;have lA:i'*r.sz+j<n*r.sz:=by
       have:=adW r.sz (show i'+1≤n by omega);rw[ad_] at this;omega
      rw[adT,adv lA,aeD,afg,←q1];congr 1;rw[ad_];omega
     simp at hi
    ·intro cs bS;exact(hr.rows l r hl).2.1 cs (aev (ad4 bS))
    intro cs bS;exact hr.fk l r hl cs (aev (ad4 bS))
   simp at hs
  simp at hs
 ·rename_i l s i n c0 e;rw[e] at h;split at hs
  ·rename_i r hl;split at hs
   ·rename_i hc;obtain⟨rfl,pC,qW⟩:=hc;subst pC;simp only[jl] at hs;subst hs;simp only[RV] at h;obtain⟨ad,h1,h2,h3,h4,h5⟩:=h;rw[h1];have Dp:((r.els.drop i).take n).length=n:=(by simp;omega);by_cases hn:n=0
    ·subst hn;refine⟨[],by simp,by simp[Builtin.lenOf],?_,by simp,by simp,by simp⟩;intro k hk w1 _;have Dn:k=0:=(by simpa using hk);subst Dn;cases ad with
     |none=>simp[Builtin.firstCells]
     |some q=>simp[Builtin.firstCells,loadCells,loadCellsFrom]
    rcases h5 ⟨r,hl⟩ with h6|⟨g,S,e1,rfl,e3,e4⟩
    ·omega
    obtain⟨cur,e0,cap,k1,k2,k3,k4,k5⟩:=(hr.rows l r hl).block e1;have hS:cur.size=S:=by
     unfold qU at e3;simp only[k1] at e3;simpa using e3
    have hb:i*r.sz+n*r.sz≤cur.size:=by
     rw[k2,←ad_];exact adW _ (by omega)
    refine⟨(cur.toList.drop (i*r.sz)).take (n*r.sz),by rw[Dp];simp;omega,by rw[Dp];simp[Builtin.lenOf],?_,?_,?_,?_⟩
    ·intro k hk w1 oU;rw[Dp] at hk;have BF:=adW r.sz hk;refine run_firstCells_some (P:=K.P) w1 _ k ⟨g,i*r.sz,none⟩ n c0 _ (by simp;omega) (fun j v hj=> ?_);rw[addr_add]
     replace hj:((cur.toList.drop (i*r.sz)).take (n*r.sz))[j]?=some v:=by
      rw[adT] at hj;split at hj
      ·exact hj
      simp at hj
     have sL:w.cell? ⟨g,i*r.sz+j,none⟩=some v:=by
      rw[cell_of_row w g _ cur e0 (0,0) k1];rw[adT] at hj;split at hj
      ·simpa using hj
      simp at hj
     rcases oU with rfl|rfl
     ·exact sL
     simpa using sL
    ·intro i' j cs y hi hj;rw[adT] at hi;split at hi
     ·rename_i bO;rw[aeD] at hi;obtain⟨v,q1,q2⟩:=k5 _ j cs y hi hj;have TG:j<r.sz:=by
       have:=(hr.rows l r hl).2.1 cs (adu hi);have:=(ag6.1 hj).1;omega
      refine⟨v,?_,q2⟩;have lA:i'*r.sz+j<n*r.sz:=by
       have:=adW r.sz (show i'+1≤n by omega);rw[ad_] at this;omega
      rw[adT,adv lA,aeD,afg,←q1];congr 1;rw[ad_];omega
     simp at hi
    ·intro cs bS;exact(hr.rows l r hl).2.1 cs (aev (ad4 bS))
    intro cs bS;exact hr.fk l r hl cs (aev (ad4 bS))
   simp at hs
  simp at hs
 simp at hs
end
end Go.Am
