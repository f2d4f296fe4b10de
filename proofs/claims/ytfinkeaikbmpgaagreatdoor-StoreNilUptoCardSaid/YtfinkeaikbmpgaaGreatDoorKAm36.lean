import Derived.Test.YtfinkeaikbmpgaaGreatDoorKAm5
import Derived.Laws.AppendOwn
import Derived.Laws.IdiomStrings
import Derived.Laws.BytesString
set_option linter.unusedSimpArgs false
set_option linter.unusedVariables false
set_option linter.unnecessarySimpa false
set_option linter.defProp false
/- THE ABSTRACT MACHINE, part 36: bytes of strings and back. -/
namespace Go.Am
open Go Go.RowKit
def tr (s:List UInt8):List IV:=s.map fun c=> .int .u8 (c.toNat:Int)
theorem gQ {w:World} {I:Nat→Prop} (b:Nat):∀(s:List UInt8) (o:Nat),(∀j c,s[j]?=some c→w.cell? ⟨b,o+j,none⟩=some (.int .u8 (c.toNat:Int)))→ax w I (tr s) b o 1
 |[],o,_=>by simp[tr,ax]
 |c::r,o,h=>by
  simp only[tr,List.map_cons,ax,bG];refine⟨⟨trivial,_,by simpa using h 0 c rfl,rfl⟩,gQ b r (o+1) fun j d hj=> ?_⟩;have:=h (j+1) d (by simpa using hj);rw[←this];congr 2;omega
section
variable {K:Kx} {β:Lb→Option Nat} {env:Env} {H:Hp} {a:Act} {w:World}
theorem rK (hr:aj K β env H a w) {o:Oper} {s d e:TypeId} {x:Operand} {x':O} (ho:o.op= .convert s d x) (hs:K.P.underlying s=some .string) (hd:K.P.underlying d=some (.slice e)) (he:K.P.underlying e=some (.int .u8))
  (hx:co K.G x=some x') {y:AV} (hy:aa (.mh x') env=some y):ai K β H a w o y:=by
 have h:=hr.ev hx;simp only[aa] at hy;split at hy
 ·rename_i t e1;split at hy
  ·rename_i hlen;rw[e1] at h;simp only[RV,bA,Option.some.injEq] at h hy;subst hy;have cJ:=run_bytes_of_string (P:=K.P) w s d e ⟨t.toArray⟩ hs hd he;have gR:=grownCap_ge w t.length 0 e;have gI:=grownCap_le_maxLen w t.length 0 e (by simp only[maxLen];omega);have cV:(⟨t.toArray⟩:ByteArray).size=t.length:=by simp[ByteArray.size]
   rw[cV] at cJ
   have dz:∀j c,t[j]?=some c→(w.drew.alloc (.cells (bytesRow ⟨t.toArray⟩ (grownCap w t.length 0 e)) e ((bytesRow ⟨t.toArray⟩ (grownCap w t.length 0 e)).size,(bytesRow ⟨t.toArray⟩ (grownCap w t.length 0 e)).size+1))).cell? ⟨w.heap.size,0+j,none⟩=some (.int .u8 (c.toNat:Int)):=by
    intro j c hj;have h1:=World.cell?_alloc_mark w.drew (bytesRow ⟨t.toArray⟩ (grownCap w t.length 0 e)) e ((bytesRow ⟨t.toArray⟩ (grownCap w t.length 0 e)).size,(bytesRow ⟨t.toArray⟩ (grownCap w t.length 0 e)).size+1) j;have h2:w.drew.heap.size=w.heap.size:=rfl;rw[h2] at h1;rw[Nat.zero_add,h1];have n9:=(List.getElem?_eq_some_iff.1 hj).1;unfold bytesRow
    rw[Array.getElem?_append_left (by simpa using n9)];simp[hj]
   refine⟨.slice (some ⟨w.heap.size,0,none⟩) t.length (grownCap w t.length 0 e),_,?_,(er w).trans (aZ w.drew (.cells (bytesRow ⟨t.toArray⟩ (grownCap w t.length 0 e)) e ((bytesRow ⟨t.toArray⟩ (grownCap w t.length 0 e)).size,(bytesRow ⟨t.toArray⟩ (grownCap w t.length 0 e)).size+1))),?_,by simp[AV.aw]⟩
   ·simp only[execOp,ho,h,Sem.run_bind,cJ,Result.andThen,Sem.run_pure]
   ·simp only[RV,bA];exact⟨_,_,by rw[List.length_map],by rw[List.length_map];exact gR,gI,.inr ⟨w.heap.size,0,1,rfl,hr.fresh,by simp,by decide,gQ _ t 0 dz⟩⟩
  ·simp at hy
 ·simp at hy
theorem eJ {w:World} {I:Nat→Prop} {b sz:Nat}:∀(xs:List IV) (s:List UInt8) (o:Nat),dX xs=some s→ax w I xs b o sz→xs=[]∨sz=1 →
  ∃ns:List Int,ns.length=xs.length∧ns.map (fun n=>UInt8.ofNat n.toNat)=s∧∀j n,ns[j]?=some n→w.cell? ⟨b,o+j,none⟩=some (.int .u8 n)
 |[],s,o,h,_,_=>by simp[dX] at h;subst h;exact⟨[],rfl,rfl,by simp⟩
 |x::r,s,o,h,he,hz=>by
  have vM:sz=1:=by simpa using hz
  subst vM;cases x with
  |int k n=>
   cases k<;>simp only[dX,reduceCtorEq,Option.map_eq_some_iff] at h;obtain⟨s',h1,rfl⟩:=h;simp only[ax,bG] at he;obtain⟨⟨_,v,hv,rfl⟩,rL⟩:=he;obtain⟨ns,e1,e2,e3⟩:=eJ r s' (o+1) h1 rL (.inr rfl);refine⟨n::ns,by simp[e1],by simp[e2],fun j m hj=> ?_⟩;cases j with
   |zero=>simp at hj;subst hj;exact hv
   |succ j=>
    have:=e3 j m (by simpa using hj);rw[←this];congr 2;omega
  |_=>simp[dX] at h
theorem fold_push:∀(ns:List Int) (r:ByteArray),ns.foldl (fun r n=>r.push (UInt8.ofNat n.toNat)) r=⟨r.data++(ns.map fun n=>UInt8.ofNat n.toNat).toArray⟩
 |[],r=>by simp
 |n::ns,r=>by
  simp only[List.foldl_cons];rw[fold_push ns];simp[ByteArray.push]
theorem rM (hr : aj K β env H a w) {o : Oper} {s d e : TypeId} {x : Operand} {x' : O} (ho : o.op = .convert s d x) (hs : K.P.underlying s = some (.slice e)) (he : K.P.underlying e = some (.int .u8)) (hd : K.P.underlying d = some .string)
   (hx:co K.G x=some x') {y:AV} (hy:aa (.mi x') env=some y):ai K β H a w o y:=by
 simp only[aa] at hy
 have h:=hr.ev hx
 have key:∀(ad:Option Addr) (n c:Nat) (t:List UInt8),a.eval x= .slice ad n c→(convert s d (.slice ad n c)).run K.P w= .ok (.string ⟨t.toArray⟩) w→ai K β H a w o (.str t):=by
   intro ad n c t h1 h2
   exact ai.same (v:= .string ⟨t.toArray⟩) (by simp only[execOp,ho,h1,Sem.run_bind,h2,Result.andThen,Sem.run_pure]) (by simp[RV,bA]) (by simp[AV.aw])
 unfold re at hy
 split at hy
 · rename_i xs e1
   rw[e1] at h
   simp only[RV,bA] at h
   obtain⟨t,ht,rfl⟩:=Option.map_eq_some_iff.1 hy
   obtain⟨ad,c,h1,hn,hc,n_⟩:=h
   refine key ad xs.length c t h1 ?_
   cases ad with
   |none=>
     rw[run_convert_bytes_string w s d e none _ c hs he hd]
     rcases n_ with h0|⟨b,o,sz,h2,_⟩
     · have:xs=[]:=List.length_eq_zero_iff.1 h0
       subst this
       simp[dX] at ht;subst ht
       simp[Conv.bytesToString]
       rfl
     · cases h2
   |some ad=>
     rw[run_convert_bytes_string w s d e (some ad) _ c hs he hd]
     have mq:∃ns:List Int,ns.length=xs.length∧ns.map (fun n=>UInt8.ofNat n.toNat)=t∧∀j n,ns[j]?=some n→w.cell? (ad.add j)=some (.int .u8 n):=by
       rcases n_ with h0|⟨b,o,sz,h2,_,_,cV,fM⟩
       · have:xs=[]:=List.length_eq_zero_iff.1 h0
         subst this
         simp[dX] at ht;subst ht
         exact⟨[],rfl,rfl,by simp⟩
       · cases h2
         have hz:xs=[]∨sz=1:=by
           cases xs with
           |nil=>exact .inl rfl
           |cons x r=>
             right
             cases x with
             |int k n=>simp only[ax,bG] at fM;exact fM.1.1
             |_=>simp[dX] at ht
         obtain⟨ns,e1,e2,e3⟩:=eJ xs t o ht fM hz
         refine⟨ns,e1,e2,fun j n hj=> ?_⟩
         have:=e3 j n hj
         have oQ:(⟨b,o,none⟩:Addr).add j=⟨b,o+j,none⟩:=by unfold Addr.add;split<;>simp_all
         rw[←this,oQ]
     obtain⟨ns,e1,e2,e3⟩:=mq
     have hl:=run_loadCells_list (P:=K.P) w ad (ns.map (Value.int .u8)) (fun j v hj=>by
       rw[List.getElem?_map] at hj
       obtain⟨n,hn,rfl⟩:=Option.map_eq_some_iff.1 hj
       exact e3 j n hn)
     rw[List.length_map,e1] at hl
     rw[run_bytesToString w ad xs.length c ns hl,fold_push,e2]
     simp[show ByteArray.empty.data=#[] from rfl]
 · rename_i e1
   rw[e1] at h
   simp only[RV] at h
   obtain⟨ad,h1⟩:=h
   simp only[Option.some.injEq] at hy
   subst hy
   refine key ad 0 0 [] h1 ?_
   rw[run_convert_bytes_string w s d e ad 0 0 hs he hd]
   cases ad with
   |none=>simp[Conv.bytesToString];rfl
   |some ad=>
     have hl:=run_loadCells_list (P:=K.P) w ad ([].map (Value.int .u8)) (fun j v hj=>by simp at hj)
     rw[run_bytesToString w ad 0 0 [] hl]
     rfl
 · simp at hy
end
end Go.Am

/- THE ABSTRACT MACHINE, part 8: what new rows, dead rows, turned rows do to the relation. -/
namespace Go.Am
open Go Go.RowKit
def aD {γ:Type} (f:Lb→γ) (l:Lb) (x:γ):Lb→γ:=fun l'=>if l'=l then x else f l'
@[simp] theorem bP {γ:Type} (f:Lb→γ) (l:Lb) (x:γ):aD f l x l=x:=by simp[aD]
theorem ah {γ:Type} (f:Lb→γ) {l l':Lb} (x:γ) (h:l'≠l):aD f l x l'=f l':=by simp[aD,h]
section
variable {K:Kx} {β:Lb→Option Nat} {env:Env} {H:Hp} {a:Act} {w:World}
theorem aj.eu (hr:aj K β env H a w) {l:Lb} {g:Nat} (hl:live H l) (hb:β l=some g):g<w.heap.size:=by
 obtain⟨r,jK⟩:=hl;obtain⟨_,_,h3⟩:=hr.rows l r jK;simp only[hb] at h3;obtain⟨cur,e,cap,h4,_⟩:=h3;exact(Array.getElem?_eq_some_iff.1 h4).1
theorem iJ {w:World} {g S:Nat} (h:cG w g=some S):g<w.heap.size:=by
 unfold cG at h;cases hg:w.heap[g]? with
 |none=>simp[hg] at h
 |some o=>exact(Array.getElem?_eq_some_iff.1 hg).1
theorem aj.kill (hr:aj K β env H a w) (l:Lb) (hu:H l≠ .unused):aj K β env (aD H l .dead) a w:=by
 have aq:∀l',live (aD H l .dead) l'→live H l'∧l'≠l:=by
   intro l' ⟨r,h⟩
   by_cases e:l'=l
   · subst e;simp at h
   · rw[ah _ _ e] at h;exact⟨⟨r,h⟩,e⟩
 have aT:∀ls,bC w w β β H (aD H l .dead) (Im K β H) (Im K β (aD H l .dead)) ls:=fun ls=>
   { im := fun k hk hs => ⟨⟨hk.1,fun l' et => hk.2 l' (aq l' et).1⟩,hs,rfl⟩
     lb:=fun l' _ et=>⟨(aq l' et).1,rfl,fun _ _ _ h=>h⟩}
 refine⟨hr.defers,hr.size,fun n=>RV.mono _ _ (aT _) (hr.cd n),?_,fun l' g h=>hr.own l' g (aq l' h).1,fun l1 l2 g h1 h2=>hr.inj l1 l2 g (aq l1 h1).1 (aq l2 h2).1,?_,?_,hr.frame,?_,?_,fun l' g h=>hr.fr l' g (aq l' h).1⟩
 · intro l' r h
   have dm:=(aq l' ⟨r,h⟩).2
   rw[ah _ _ dm] at h
   obtain⟨h1,h2,h3⟩:=hr.rows l' r h
   refine⟨h1,h2,?_⟩
   cases hb:β l' with
   |none=>simpa[hb] using h3
   |some g=>
     simp only[hb] at h3 ⊢
     obtain⟨cur,e,cap,e1,e2,e3,e4,e5⟩:=h3
     exact⟨cur,e,cap,e1,e2,e3,e4,fun i j cs x hi hj=>let⟨v,k1,k2⟩:=e5 i j cs x hi hj;⟨v,k1,RV.mono _ _ (aT _) k2⟩⟩
 · intro n l' et
   by_cases e:l'=l
   · subst e;simp
   · rw[ah _ _ e];exact hr.bB n l' et
 · intro l1 r h cs aN l' et
   have dm:=(aq l1 ⟨r,h⟩).2
   rw[ah _ _ dm] at h
   by_cases e:l'=l
   · subst e;simp
   · rw[ah _ _ e];exact hr.aK l1 r h cs aN l' et
 · intro g cs hg
   obtain⟨h1,h2,h3⟩:=hr.cf g cs hg
   exact⟨((aT []).im g h1 h2).1,h2,bD.mono (aT []).tobW h1 h2 h3⟩
 · intro l' et
   obtain⟨h1,h2⟩:=hr.cx l' et
   refine⟨?_,fun h=>h2 (aq l' h).1⟩
   by_cases e:l'=l
   · subst e;simp
   · rw[ah _ _ e];exact h1
theorem aj.ew (hr:aj K β env H a w) (l:Lb) (hu:H l= .unused) {r:Row} {w':World} (gw:cZ w w') (b:Option Nat)
   (hb:∀g,b=some g→w.heap.size≤g) (hm:∀cs∈r.aQ,∀l'∈ak cs,H l'≠ .unused)
   (gp:eO w' (aD β l b) (aD H l (.live r)) (Im K (aD β l b) (aD H l (.live r))) l r):aj K (aD β l b) env (aD H l (.live r)) a w':=by
 have aq:∀l',live (aD H l (.live r)) l'→l'≠l→live H l':=by
   intro l' ⟨r',h⟩ e
   rw[ah _ _ e] at h;exact⟨r',h⟩
 have aT:∀ls,(∀l'∈ls,H l'≠ .unused)→bC w w' β (aD β l b) H (aD H l (.live r)) (Im K β H) (Im K (aD β l b) (aD H l (.live r))) ls:=fun ls oR=>
   { im := fun k hk hs => ⟨⟨hk.1,fun l' et => by
       by_cases e:l'=l
       · subst e
         simp only[bP]
         intro vN
         have:=hb k vN
         omega
       · rw[ah _ _ e];exact hk.2 l' (aq l' et e)⟩,Nat.lt_of_lt_of_le hs gw.size,gw.block k hs⟩
     lb:=fun l' oS et=>by
       have e:l'≠l:=fun e=>oR l' oS (e▸hu)
       refine⟨aq l' et e,ah _ _ e,fun g S _ hS=> ?_⟩
       unfold cG at *
       rwa[gw.block g (iJ hS)]}
 have hold:∀l' r',l'≠l→H l'= .live r'→eO w' (aD β l b) (aD H l (.live r)) (Im K (aD β l b) (aD H l (.live r))) l' r':=by
   intro l' r' e h
   obtain⟨h1,h2,h3⟩:=hr.rows l' r' h
   refine⟨h1,h2,?_⟩
   rw[ah _ _ e]
   cases mw:β l' with
   |none=>simpa[mw] using h3
   |some g=>
     simp only[mw] at h3 ⊢
     obtain⟨cur,e0,cap,e1,e2,e3,e4,e5⟩:=h3
     refine⟨cur,e0,cap,(gw.block g (Array.getElem?_eq_some_iff.1 e1).1).trans e1,e2,e3,e4,fun i j cs x hi hj=> ?_⟩
     obtain⟨v,k1,k2⟩:=e5 i j cs x hi hj
     exact⟨v,k1,RV.mono _ _ (aT _ (fun q hq=>hr.aK l' r' h cs (List.mem_of_getElem? hi) q (aL _ _ _ hj q hq))) k2⟩
 refine⟨hr.defers,hr.size,fun n=>RV.mono _ _ (aT _ (hr.bB n)) (hr.cd n),?_,?_,?_,?_,?_,hr.frame.mm gw,?_,?_,?_⟩
 · intro l' r' h
   by_cases e:l'=l
   · subst e
     simp at h;subst h
     exact gp
   · rw[ah _ _ e] at h
     exact hold l' r' e h
 · intro l' g h hg
   by_cases e:l'=l
   · subst e
     simp at hg
     exact .inr (Nat.le_trans hr.frame.size (hb g hg))
   · rw[ah _ _ e] at hg
     exact hr.own l' g (aq l' h e) hg
 · intro l1 l2 g h1 h2 g1 g2
   by_cases e1:l1=l
   · by_cases e2 : l2 = l
     · rw[e1,e2]
     · subst e1
       simp at g1
       rw[ah _ _ e2] at g2
       have:=hb g g1
       have:=hr.eu (aq l2 h2 e2) g2
       omega
   · rw[ah _ _ e1] at g1
     by_cases e2:l2=l
     · subst e2
       simp at g2
       have:=hb g g2
       have:=hr.eu (aq l1 h1 e1) g1
       omega
     · rw[ah _ _ e2] at g2
       exact hr.inj l1 l2 g (aq l1 h1 e1) (aq l2 h2 e2) g1 g2
 · intro n l' et
   by_cases e:l'=l
   · subst e;simp
   · rw[ah _ _ e];exact hr.bB n l' et
 · intro l1 r1 h cs aN l' et
   by_cases e:l'=l
   · subst e;simp
   · rw[ah _ _ e]
     by_cases e1:l1=l
     · subst e1
       simp at h;subst h
       exact hm cs aN l' et
     · rw[ah _ _ e1] at h
       exact hr.aK l1 r1 h cs aN l' et
 · intro g cs hg
   obtain⟨h1,h2,h3⟩:=hr.cf g cs hg
   exact⟨((aT [] (by simp)).im g h1 h2).1,Nat.lt_of_lt_of_le h2 gw.size,bD.mono (aT [] (by simp)).tobW h1 h2 h3⟩
 · intro l' et
   obtain⟨h1,h2⟩:=hr.cx l' et
   have e:l'≠l:=fun e=>h1 (e▸hu)
   refine⟨by rw[ah _ _ e];exact h1,fun h=> ?_⟩
   rw[ah _ _ e];exact h2 (aq l' h e)
 · intro l' g h hf hg
   by_cases e:l'=l
   · subst e
     simp at hg
     exact Nat.le_trans hr.frame.size (hb g hg)
   · rw[ah _ _ e] at hg
     exact hr.fr l' g (aq l' h e) hf hg
theorem aj.relabel (hr:aj K β env H a w) (l l':Lb) {r:Row} (hl:H l= .live r) (hu:H l'= .unused) (hf:l'.fresh=true→l.fresh=true):aj K (aD β l' (β l)) env (aD (aD H l .dead) l' (.live r)) a w:=by
 have dm:l≠l':=fun e=>by rw[e,hu] at hl;cases hl
 have aq:∀q,live (aD (aD H l .dead) l' (.live r)) q→q≠l'→live H q∧q≠l:=by
   intro q ⟨r',h⟩ e
   rw[ah _ _ e] at h
   by_cases e2:q=l
   · subst e2;simp at h
   · rw[ah _ _ e2] at h;exact⟨⟨r',h⟩,e2⟩
 have aT:∀ls,(∀q∈ls,H q≠ .unused)→bC w w β (aD β l' (β l)) H (aD (aD H l .dead) l' (.live r)) (Im K β H) (Im K (aD β l' (β l)) (aD (aD H l .dead) l' (.live r))) ls:=fun ls oR=>
   { im := fun k hk hs => ⟨⟨hk.1,fun q hq => by
       by_cases e:q=l'
       · subst e
         simp only[bP]
         exact hk.2 l ⟨r,hl⟩
       · rw[ah _ _ e];exact hk.2 q (aq q hq e).1⟩,hs,rfl⟩
     lb:=fun q hq gJ=>by
       have e:q≠l':=fun e=>oR q hq (e▸hu)
       exact⟨(aq q gJ e).1,ah _ _ e,fun _ _ _ h=>h⟩}
 have hold:∀q r',H q= .live r'→∀(b:Option Nat),b=β q→0<r'.sz∧(∀cs∈r'.aQ,cs.length=r'.sz) ∧
     match b with
     |none=>r'.aQ=[]
     |some g=>∃cur e cap,w.heap[g]?=some (.cells cur e (0,0))∧cur.size=cap*r'.sz∧cap≤maxLen∧r'.aQ.length≤cap ∧
         ∀i j cs x,r'.aQ[i]?=some cs→cs[j]?=some x→∃v,cur[i*r'.sz+j]?=some v∧RV w (aD β l' (β l)) (aD (aD H l .dead) l' (.live r)) (Im K (aD β l' (β l)) (aD (aD H l .dead) l' (.live r))) x v:=by
   intro q r' h b hb
   subst hb
   obtain⟨h1,h2,h3⟩:=hr.rows q r' h
   refine⟨h1,h2,?_⟩
   cases mw:β q with
   |none=>simpa[mw] using h3
   |some g=>
     simp only[mw] at h3 ⊢
     obtain⟨cur,e0,cap,e1,e2,e3,e4,e5⟩:=h3
     refine⟨cur,e0,cap,e1,e2,e3,e4,fun i j cs x hi hj=> ?_⟩
     obtain⟨v,k1,k2⟩:=e5 i j cs x hi hj
     exact⟨v,k1,RV.mono _ _ (aT _ (fun p hp=>hr.aK q r' h cs (List.mem_of_getElem? hi) p (aL _ _ _ hj p hp))) k2⟩
 refine⟨hr.defers,hr.size,fun n=>RV.mono _ _ (aT _ (hr.bB n)) (hr.cd n),?_,?_,?_,?_,?_,hr.frame,?_,?_,?_⟩
 · intro q r' h
   by_cases e:q=l'
   · subst e
     simp at h;subst h
     exact hold l r hl _ (by simp)
   · rw[ah _ _ e] at h
     by_cases e2:q=l
     · subst e2;simp at h
     · rw[ah _ _ e2] at h
       exact hold q r' h _ (ah _ _ e)
 · intro q g h hg
   by_cases e:q=l'
   · subst e
     simp at hg
     exact hr.own l g ⟨r,hl⟩ hg
   · rw[ah _ _ e] at hg
     exact hr.own q g (aq q h e).1 hg
 · intro l1 l2 g h1 h2 g1 g2
   by_cases e1:l1=l'
   · by_cases e2 : l2 = l'
     · rw[e1,e2]
     · subst e1
       simp at g1
       rw[ah _ _ e2] at g2
       exact absurd (hr.inj l2 l g (aq l2 h2 e2).1 ⟨r,hl⟩ g2 g1) (aq l2 h2 e2).2
   · rw[ah _ _ e1] at g1
     by_cases e2:l2=l'
     · subst e2
       simp at g2
       exact absurd (hr.inj l1 l g (aq l1 h1 e1).1 ⟨r,hl⟩ g1 g2) (aq l1 h1 e1).2
     · rw[ah _ _ e2] at g2
       exact hr.inj l1 l2 g (aq l1 h1 e1).1 (aq l2 h2 e2).1 g1 g2
 · intro n q hq
   by_cases e:q=l'
   · subst e;simp
   · rw[ah _ _ e]
     by_cases e2:q=l
     · subst e2;simp
     · rw[ah _ _ e2];exact hr.bB n q hq
 · intro l1 r1 h cs aN q hq
   by_cases e:q=l'
   · subst e;simp
   · rw[ah _ _ e]
     by_cases e2:q=l
     · subst e2;simp
     · rw[ah _ _ e2]
       by_cases e1:l1=l'
       · subst e1
         simp at h;subst h
         exact hr.aK l r hl cs aN q hq
       · rw[ah _ _ e1] at h
         by_cases e3:l1=l
         · subst e3;simp at h
         · rw[ah _ _ e3] at h
           exact hr.aK l1 r1 h cs aN q hq
 · intro g cs hg
   obtain⟨h1,h2,h3⟩:=hr.cf g cs hg
   exact⟨((aT [] (by simp)).im g h1 h2).1,h2,bD.mono (aT [] (by simp)).tobW h1 h2 h3⟩
 · intro q hq
   obtain⟨h1,h2⟩:=hr.cx q hq
   have e:q≠l':=fun e=>h1 (e▸hu)
   refine⟨?_,fun h=> ?_⟩
   · rw[ah _ _ e]
     by_cases e2:q=l
     · subst e2;simp
     · rw[ah _ _ e2];exact h1
   · rw[ah _ _ e];exact h2 (aq q h e).1
 · intro q g h hq hg
   by_cases e:q=l'
   · subst e
     simp at hg
     exact hr.fr l g ⟨r,hl⟩ (hf hq) hg
   · rw[ah _ _ e] at hg
     exact hr.fr q g (aq q h e).1 hq hg
theorem cL {w:World} {g:Nat} {cur cur':Array Value} {e:TypeId} {fr:Nat×Nat} (hg:w.heap[g]?=some (.cells cur e fr)) (hs:cur'.size=cur.size) (k S:Nat) (h:cG w k=some S) :
  cG (w.setRow g cur') k=some S:=by
 by_cases e:k=g
 ·subst e;unfold cG at *;rw[setRow_heap w k cur cur' _ fr hg];simp only[hg] at h;simp only[hs];exact h
 ·unfold cG at *
  rwa[setRow_other w g k cur' e]
theorem aj.setRow (hr:aj K β env H a w) (l:Lb) {r r':Row} {g:Nat} {cur cur':Array Value} {e:TypeId} {cap:Nat} (hl:H l= .live r) (hb:β l=some g)
   (hg:w.heap[g]?=some (.cells cur e (0,0))) (hs:cur'.size=cur.size) (cV:r'.sz=r.sz) (my:cur.size=cap*r.sz) (gI:cap≤maxLen) (hlen:r'.aQ.length≤cap)
   (aN:∀cs∈r'.aQ,cs.length=r.sz) (hm:∀cs∈r'.aQ,∀l'∈ak cs,H l'≠ .unused)
   (hc:∀i j cs x,r'.aQ[i]?=some cs→cs[j]?=some x→∃v,cur'[i*r.sz+j]?=some v∧RV w β H (Im K β H) x v) :
   aj K β env (aD H l (.live r')) a (w.setRow g cur'):=by
 have aq:∀q,live (aD H l (.live r')) q↔live H q:=by
   intro q
   by_cases e:q=l
   · subst e;simp[live,hl]
   · simp[live,ah _ _ e]
 have qP:∀k,Im K β (aD H l (.live r')) k↔Im K β H k:=by
   intro k
   simp only[Im,aq]
 have aT:∀ls,bC w (w.setRow g cur') β β H (aD H l (.live r')) (Im K β H) (Im K β (aD H l (.live r'))) ls:=fun ls=>
   { im := fun k hk vO => by
       have dm:k≠g:=fun e=>hk.2 l ⟨r,hl⟩ (e▸hb)
       exact⟨(qP k).2 hk,by simpa[World.setRow] using vO,setRow_other w g k cur' dm⟩
     lb:=fun q _ hq=>⟨(aq q).1 hq,rfl,fun g' S _ h=>cL hg hs g' S h⟩}
 refine⟨hr.defers,hr.size,fun n=>RV.mono _ _ (aT _) (hr.cd n),?_,fun q g' h=>hr.own q g' ((aq q).1 h),fun l1 l2 g' h1 h2=>hr.inj l1 l2 g' ((aq l1).1 h1) ((aq l2).1 h2),?_,?_,?_,?_,?_,fun q g' h=>hr.fr q g' ((aq q).1 h)⟩
 · intro q r1 h
   by_cases e1:q=l
   · subst e1
     simp at h;subst h
     refine⟨by rw[cV];exact(hr.rows q r hl).1,by rw[cV];exact aN,?_⟩
     simp only[hb]
     refine⟨cur',e,cap,setRow_heap w g cur cur' e (0,0) hg,by rw[hs,my,cV],gI,hlen,fun i j cs x hi hj=> ?_⟩
     obtain⟨v,k1,k2⟩:=hc i j cs x hi hj
     exact⟨v,by rw[cV];exact k1,RV.mono _ _ (aT _) k2⟩
   · rw[ah _ _ e1] at h
     obtain⟨h1,h2,h3⟩:=hr.rows q r1 h
     refine⟨h1,h2,?_⟩
     cases mw:β q with
     |none=>simpa[mw] using h3
     |some g'=>
       simp only[mw] at h3 ⊢
       have dm:g'≠g:=fun e=>e1 (hr.inj q l g ⟨r1,h⟩ ⟨r,hl⟩ (e▸mw) hb)
       obtain⟨tt,e0,tu,k1,k2,k3,k4,k5⟩:=h3
       refine⟨tt,e0,tu,(setRow_other w g g' cur' dm).trans k1,k2,k3,k4,fun i j cs x hi hj=> ?_⟩
       obtain⟨v,j1,j2⟩:=k5 i j cs x hi hj
       exact⟨v,j1,RV.mono _ _ (aT _) j2⟩
 · intro n q hq
   by_cases e1:q=l
   · subst e1;simp
   · rw[ah _ _ e1];exact hr.bB n q hq
 · intro l1 r1 h cs rN q hq
   by_cases e1:q=l
   · subst e1;simp
   · rw[ah _ _ e1]
     by_cases e2:l1=l
     · subst e2
       simp at h;subst h
       exact hm cs rN q hq
     · rw[ah _ _ e2] at h
       exact hr.aK l1 r1 h cs rN q hq
 · refine⟨hr.frame.os,hr.frame.tape,hr.frame.output,by simpa[World.setRow] using hr.frame.size,fun k hk hd=> ?_,fun k S hS=>cL hg hs k S (hr.frame.bs k S hS)⟩
   have dm:k≠g:=by
     intro e1
     subst e1
     rcases hr.own l k ⟨r,hl⟩ hb with h1|h1
     · exact hd h1
     · omega
   rw[setRow_other w g k cur' dm]
   exact hr.frame.block k hk hd
 · intro k cs hk
   obtain⟨h1,h2,h3⟩:=hr.cf k cs hk
   exact⟨((aT []).im k h1 h2).1,((aT []).im k h1 h2).2.1,bD.mono (aT []).tobW h1 h2 h3⟩
 · intro q hq
   obtain⟨h1,h2⟩:=hr.cx q hq
   refine⟨?_,fun h=>h2 ((aq q).1 h)⟩
   by_cases e1:q=l
   · subst e1;simp
   · rw[ah _ _ e1];exact h1
end
end Go.Am

/- THE ABSTRACT MACHINE, part 9: the instructions that read, make and write owned rows. -/
namespace Go.Am
open Go Go.RowKit
def bt (m:Option Nat) (x:AV) (H:Hp):Option AV:=
 match x with
 | .ptr l sz i j=>match H l with
  | .live r=>if r.sz=sz then(r.aQ[i]?).bind fun cs=>match m with
    |none=>cs[j]?
    |some k=>if j+k≤cs.length then some (.agg ((cs.drop j).take k)) else none
   else none
  |_=>none
 |_=>none
def cM (m:Nat) (a x:AV) (H:Hp):Option Hp:=
 match a with
 | .ptr l sz i j=>match H l with
  | .live r=>if r.sz=sz∧x.jH=true∧x.cells.length=m then(r.aQ[i]?).bind fun cs=>
    if j+m≤cs.length then some (aD H l (.live ⟨sz,r.aQ.set i (cs.take j++x.cells++cs.drop (j+m))⟩)) else none
   else none
  |_=>none
 |_=>none
def cn (K:Kx) (env:Env) (a:Act) (w:World) (o:Oper) (d:Option Nat) (x:AV) (H':Hp):Prop:=
 ∃nx w' β' v,(execOp a.eval o).run K.P w= .ok nx w'∧(nx= .value v∨(nx= .skip∧v=undef))∧aj K β' (aM env d x) H' (a.put d v) w'
section
variable {K:Kx} {β:Lb→Option Nat} {env:Env} {H:Hp} {a:Act} {w:World}
theorem ai.r {o:Oper} {x:AV} {d:Option Nat} (hr:aj K β env H a w) (hd:∀n,d=some n→n<K.N) (h:ai K β H a w o x):cn K env a w o d x H:=by
 obtain⟨v,w',h1,h2,h3,h4⟩:=h;exact⟨_,w',β,v,h1,.inl rfl,hr.step h2 hd (fun _=>h3) (fun _=>h4)⟩
theorem eO.block {l:Lb} {r:Row} {g:Nat} {I:Nat→Prop} (h:eO w β H I l r) (hb:β l=some g) :
  ∃cur e cap,w.heap[g]?=some (.cells cur e (0,0))∧cur.size=cap*r.sz∧cap≤maxLen∧r.aQ.length≤cap ∧
   ∀i j cs x,r.aQ[i]?=some cs→cs[j]?=some x→∃v,cur[i*r.sz+j]?=some v∧RV w β H I x v:=by
 obtain⟨_,_,h3⟩:=h;simpa only[hb] using h3
theorem jN {r:Row} {cur:Array Value} {I:Nat→Prop} {i:Nat} {cs:List AV} (hi:r.aQ[i]?=some cs)
  (h:∀i j cs x,r.aQ[i]?=some cs→cs[j]?=some x→∃v,cur[i*r.sz+j]?=some v∧RV w β H I x v) :
  ∃vs:List Value,vs.length=cs.length∧au w β H I cs vs∧∀j v,vs[j]?=some v→cur[i*r.sz+j]?=some v:=by
 have key:∀(n:Nat) (ds:List AV),ds=cs.drop n→∃vs:List Value,vs.length=ds.length∧au w β H I ds vs∧∀j v,vs[j]?=some v→cur[i*r.sz+(n+j)]?=some v:=by
  intro n ds
  induction ds generalizing n with
  |nil=>intro _;exact⟨[],rfl,by simp[au],by simp⟩
  |cons x ds ih=>
   intro e;have hx:cs[n]?=some x:=by rw[←List.head?_drop,←e];rfl
   have hd:ds=cs.drop (n+1):=by rw[←List.tail_drop,←e];rfl
   obtain⟨v,h1,h2⟩:=h i n cs x hi hx;obtain⟨vs,k1,k2,k3⟩:=ih (n+1) hd;refine⟨v::vs,by simp[k1],⟨v,vs,rfl,h2,k2⟩,?_⟩;intro j u hj;cases j with
   |zero=>simp at hj;subst hj;simpa using h1
   |succ j=>
    have:=k3 j u (by simpa using hj)
    rwa[show n+1+j=n+(j+1) by omega] at this
 obtain⟨vs,k1,k2,k3⟩:=key 0 cs (by simp);exact⟨vs,k1,k2,fun j v hj=>by simpa using k3 j v hj⟩
theorem AV.jO {x:AV} (h:x.jH=true):∀y∈x.cells,y.one=true:=by
 cases x<;>simp[AV.jH,AV.one] at h<;>simp[AV.cells,AV.one];exact h
def fb (K:Kx) (β:Lb→Option Nat) (H:Hp) (a:Act) (w:World) (o:Oper) (x:AV):Prop:=
 ∃v,(execOp a.eval o).run K.P w= .ok (.value v) w∧RV w β H (Im K β H) x v∧∀l∈x.aw,H l≠ .unused
theorem fb.v {o:Oper} {x:AV} (h:fb K β H a w o x):ai K β H a w o x:=by
 obtain⟨v,h1,h2,h3⟩:=h;exact .same h1 h2 h3
theorem fb.same {o:Oper} {x:AV} {v:Value} (h:(execOp a.eval o).run K.P w= .ok (.value v) w)
 (hv:RV w β H (Im K β H) x v) (hm:∀l∈x.aw,H l≠ .unused):fb K β H a w o x:=⟨v,h,hv,hm⟩
theorem ji (hr : aj K β env H a w) {o : Oper} {t : TypeId} {x : Operand} {x' : O} {m : Option Nat} (ho : o.op = .load t x) (hm : jG K.P t = some m) (hx : co K.G x = some x') {y : AV}
   (hy:bt m (ev env x') H=some y):fb K β H a w o y:=by
 have h:=hr.ev hx
 unfold bt at hy
 split at hy
 · rename_i l sz i j e
   rw[e] at h
   simp only[RV] at h
   obtain⟨ad,h1,h2⟩:=h
   split at hy
   · rename_i r hl
     split at hy
     · rename_i cV
       subst cV
       obtain⟨cs,hi,hy⟩:=Option.bind_eq_some_iff.1 hy
       obtain⟨g,hb,rfl⟩:=h2 ⟨r,hl⟩
       obtain⟨cur,e0,cap,k1,k2,k3,k4,k5⟩:=(hr.rows l r hl).block hb
       obtain⟨vs,v1,v2,v3⟩:=jN hi k5
       have dz:∀q v,vs[q]?=some v→w.cell? ⟨g,i*r.sz+q,none⟩=some v:=by
         intro q v hq
         rw[cell_of_row w g _ cur e0 (0,0) k1]
         exact v3 q v hq
       have run:∀v,(loadVar t ⟨g,i*r.sz+j,none⟩).run K.P w= .ok v w→(execOp a.eval o).run K.P w= .ok (.value v) w:=by
         intro v hv
         simp[execOp,ho,h1,Instr.loadAt,Instr.sureAddr,hv]
       have oa:∀q∈ak cs,H q≠ .unused:=hr.aK l r hl cs (List.mem_of_getElem? hi)
       cases m with
       |none=>
         simp only at hy
         obtain⟨v,e1,e2⟩:=au.get _ _ _ _ v2 hy
         exact fb.same (run v (cX hm _ _ (dz j v e1))) e2 (fun q hq=>oa q (aL _ _ _ hy q hq))
       |some k=>
         simp only at hy
         split at hy
         · rename_i hk
           simp only[Option.some.injEq] at hy;subst hy
           refine fb.same (run (.agg ((vs.drop j).take k).toArray) (cW hm _ _ (by simp;omega) (fun q v hq=> ?_))) ⟨_,rfl,au.take _ _ _ (au.drop _ _ _ v2)⟩ ?_
           · rw[List.getElem?_take] at hq
             split at hq
             · rw[List.getElem?_drop] at hq
               rw[addr_add,Nat.add_assoc]
               exact dz _ v hq
             · simp at hq
           · intro q hq
             simp only[AV.aw] at hq
             refine oa q ?_
             have eb:∀(l m:List AV),ak (l++m)=ak l++ak m:=by
               intro l m
               induction l with
               |nil=>rfl
               |cons x r ih=>simp[ak,ih]
             have e1:=eb (cs.take j) (cs.drop j)
             rw[List.take_append_drop] at e1
             have e2:=eb ((cs.drop j).take k) ((cs.drop j).drop k)
             rw[List.take_append_drop] at e2
             rw[e1,e2]
             exact List.mem_append.2 (.inr (List.mem_append.2 (.inl hq)))
         · simp at hy
     · simp at hy
   · simp at hy
 · simp at hy
theorem oT (hr:aj K β env H a w) {o:Oper} {t:TypeId} {x:Operand} {x':O} {m:Option Nat} (ho:o.op= .load t x) (hm:jG K.P t=some m) (hx:co K.G x=some x') {y:AV}
 (hy:bt m (ev env x') H=some y):ai K β H a w o y:=(ji hr ho hm hx hy).v
theorem ob (hr:aj K β env H a w) {o:Oper} {c:Array Value} {e:TypeId} {cs:List AV} {d:Nat} (hd:d<K.N)
   (cJ:(execOp a.eval o).run K.P w= .ok (.value (.pointer (some ⟨w.heap.size,0,none⟩))) (w.alloc (.cells c e)))
   (hc:au w β H (Im K β H) cs c.toList) (h0:0<cs.length) (mz:cs.length≤maxLen) (hm:∀l∈ak cs,H l≠ .unused) (hu:H (.loc d)= .unused) :
   cn K env a w o (some d) (.ptr (.loc d) cs.length 0 0) (aD H (.loc d) (.live ⟨cs.length,[cs]⟩)):=by
 have gw:=aZ w (.cells c e)
 have hlen:c.size=cs.length:=by rw[←au.len _ _ hc];simp
 have aT:bC w (w.alloc (.cells c e)) β (aD β (.loc d) (some w.heap.size)) H (aD H (.loc d) (.live ⟨cs.length,[cs]⟩)) (Im K β H)
     (Im K (aD β (.loc d) (some w.heap.size)) (aD H (.loc d) (.live ⟨cs.length,[cs]⟩))) (ak cs):=
   { im := fun k hk hs => ⟨⟨hk.1,fun l' ⟨r',et⟩ => by
       by_cases e1:l'= .loc d
       · subst e1;simp;omega
       · rw[ah _ _ e1] at et ⊢;exact hk.2 l' ⟨r',et⟩⟩,Nat.lt_of_lt_of_le hs gw.size,gw.block k hs⟩
     lb:=fun l' oS ⟨r',et⟩=>by
       have e1:l'≠ .loc d:=fun e1=>hm l' oS (e1▸hu)
       rw[ah _ _ e1] at et
       refine⟨⟨r',et⟩,ah _ _ e1,fun g S _ hS=> ?_⟩
       unfold cG at *
       rwa[gw.block g (iJ hS)]}
 have gp:eO (w.alloc (.cells c e)) (aD β (.loc d) (some w.heap.size)) (aD H (.loc d) (.live ⟨cs.length,[cs]⟩))
     (Im K (aD β (.loc d) (some w.heap.size)) (aD H (.loc d) (.live ⟨cs.length,[cs]⟩))) (.loc d) ⟨cs.length,[cs]⟩:=by
   refine⟨h0,by simp,?_⟩
   simp only[bP]
   refine⟨c,e,1,heap_alloc_new w (.cells c e),by simp[hlen],by simp[maxLen],by simp,fun i j kl x hi hj=> ?_⟩
   cases i with
   |succ i=>simp at hi
   |zero=>
     simp at hi;subst hi
     obtain⟨v,k1,k2⟩:=au.get _ _ _ _ hc hj
     refine⟨v,by simpa using k1,RV.mono _ _ (aT.sub (fun l hl=>aL _ _ _ hj l hl)) k2⟩
 have h2:=hr.ew (.loc d) hu gw (some w.heap.size) (by simp) (by simpa using hm) gp
 have h3:=h2.step (Below.refl _ _) (d:=some d) (x:= .ptr (.loc d) cs.length 0 0) (v:= .pointer (some ⟨w.heap.size,0,none⟩)) (by simpa using hd)
   (fun _=>by simp only[RV];exact⟨_,rfl,fun _=>⟨w.heap.size,by simp,by simp⟩⟩) (by simp[AV.aw])
 exact⟨_,_,_,_,cJ,.inl rfl,h3⟩
theorem rO (hr:aj K β env H a w) {o:Oper} {t:TypeId} {x:Operand} {x':O} {d:Nat} (hd:d<K.N) (ho:o.op= .box t x) (hx:co K.G x=some x') (dV:(ev env x').jH=true)
  (h0:0<(ev env x').cells.length) (mz:(ev env x').cells.length≤maxLen) (hu:H (.loc d)= .unused) :
  cn K env a w o (some d) (.ptr (.loc d) (ev env x').cells.length 0 0) (aD H (.loc d) (.live ⟨(ev env x').cells.length,[(ev env x').cells]⟩)):=by
 have h:=hr.ev hx;have hm:=hr.bd hx;obtain⟨k1,k2⟩:=au.dk h (AV.iE dV);refine ob hr hd (c:=(a.eval x).cells) (e:=t) ?_ k2 h0 mz ?_ hu
 ·simp[execOp,ho,Instr.box,newVar,newRow]
 ·intro l hl;refine hm l ?_;cases hc:ev env x'<;>simp[hc,AV.cells,ak] at hl<;>simp[AV.aw] at hl ⊢<;>exact hl
theorem b8:∀(l:List Value) (xs:List AV),dr l=some xs→ak xs=[]
 |[],xs,h=>by simp[dr] at h;subst h;rfl
 |v::r,xs,h=>by
  simp only[dr,Option.bind_eq_some_iff,Option.map_eq_some_iff] at h;obtain⟨x,h1,s,h2,rfl⟩:=h;simp[ak,ix h1,b8 r s h2]
theorem mA (hr:aj K β env H a w) {o:Oper} {t:TypeId} {i:TypeInfo} {z:Value} {cs:List AV} {d:Nat} (hd:d<K.N) (ho:o.op= .alloc t) (hi:K.P.info? t=some i) (hz:i.zero=some z)
  (e_:dr z.cells.toList=some cs) (h0:0<cs.length) (mz:cs.length≤maxLen) (hu:H (.loc d)= .unused) :
  cn K env a w o (some d) (.ptr (.loc d) cs.length 0 0) (aD H (.loc d) (.live ⟨cs.length,[cs]⟩)):=by
 refine ob hr hd (c:=z.cells) (e:=t) ?_ (b7 _ _ e_ _ _ _ _) h0 mz (by simp[b8 _ _ e_]) hu;simp[execOp,ho,Instr.alloc,zeroValue,typeInfo,hi,hz,newVar,newRow]
theorem mB (hr : aj K β env H a w) {o : Oper} {t : TypeId} {x y : Operand} {x' y' : O} {m : Nat} (ho : o.op = .store t x y) (hm : eZ K.P t = some m) (hx : co K.G x = some x') (hy : co K.G y = some y') {H' : Hp}
   (hs:cM m (ev env x') (ev env y') H=some H'):cn K env a w o none .un H':=by
 have h:=hr.ev hx
 have h2:=hr.ev hy
 have vP:=hr.bd hy
 unfold cM at hs
 split at hs
 · rename_i l sz i j e
   rw[e] at h
   simp only[RV] at h
   obtain⟨ad,h1,h3⟩:=h
   split at hs
   · rename_i r hl
     split at hs
     · rename_i hc
       obtain⟨cV,dV,hlen⟩:=hc
       subst cV
       obtain⟨cs,hi,hs⟩:=Option.bind_eq_some_iff.1 hs
       split at hs
       · rename_i wZ
         simp only[Option.some.injEq] at hs;subst hs
         obtain⟨g,hb,rfl⟩:=h3 ⟨r,hl⟩
         obtain⟨cur,e0,cap,k1,k2,k3,k4,k5⟩:=(hr.rows l r hl).block hb
         obtain⟨c1,c2⟩:=au.dk h2 (AV.iE dV)
         have vQ:i<r.aQ.length:=(List.getElem?_eq_some_iff.1 hi).1
         have jj:cs.length=r.sz:=(hr.rows l r hl).2.1 cs (List.mem_of_getElem? hi)
         have hbound:i*r.sz+r.sz≤cur.size:=by
           rw[k2,←Nat.succ_mul]
           exact Nat.mul_le_mul_right _ (by omega)
         have sR:(a.eval y).cells.toList.length=m:=by simp;omega
         have rP:=run_storeCells_at K.P g (i*r.sz+j) e0 (a.eval y).cells.toList 0 cur w k1 (by omega) (by
           intro u hu
           obtain⟨q,hq⟩:=List.getElem?_of_mem hu
           have qQ:q<(ev env y').cells.length:=by
             have:=(List.getElem?_eq_some_iff.1 hq).1
             omega
           obtain⟨u',e1,e2⟩:=au.get _ _ q _ c2 (List.getElem?_eq_getElem qQ)
           rw[hq] at e1;cases e1
           exact RV.dZ e2 (AV.jO dV _ (List.getElem_mem qQ)))
         simp only[Nat.add_zero] at rP
         have cJ:(execOp a.eval o).run K.P w= .ok .skip (w.setRow g (cur.toList.take (i*r.sz+j)++(a.eval y).cells.toList++cur.toList.drop (i*r.sz+j+(a.eval y).cells.toList.length)).toArray):=by
           have dm:¬(a.eval y).cells.size≠m:=by simp at sR;simp[sR]
           simp only[execOp,ho,h1,Instr.storeAt,Instr.sureAddr,Sem.run_bind,Sem.run_pure,Result.andThen_ok,storeVar,aC hm,Sem.run_ite,dm,if_false,rP]
         have dA:(cur.toList.take (i*r.sz+j)++(a.eval y).cells.toList++cur.toList.drop (i*r.sz+j+(a.eval y).cells.toList.length)).toArray.size=cur.size:=by
           simp only[List.size_toArray,List.length_append,List.length_take,List.length_drop,Array.length_toList]
           simp at sR
           omega
         have eR:=hr.setRow l (r':=⟨r.sz,r.aQ.set i (cs.take j++(ev env y').cells++cs.drop (j+m))⟩) hl hb k1 dA rfl k2 k3 (by simpa using k4) ?_ ?_ ?_
         · have:=eR.step (Below.refl _ _) (d:=none) (x:= .un) (v:=undef) (by simp) (by simp) (by simp)
           exact⟨_,_,_,_,cJ,.inr ⟨rfl,rfl⟩,this⟩
         · intro ds l5
           rcases List.mem_or_eq_of_mem_set l5 with l5|rfl
           · exact(hr.rows l r hl).2.1 ds l5
           · simp;omega
         · intro ds l5 q hq
           rcases List.mem_or_eq_of_mem_set l5 with l5|rfl
           · exact hr.aK l r hl ds l5 q hq
           · have eb:∀(l m:List AV),ak (l++m)=ak l++ak m:=by
               intro l m
               induction l with
               |nil=>rfl
               |cons x r ih=>simp[ak,ih]
             rw[eb,eb,List.mem_append,List.mem_append] at hq
             have aN:=hr.aK l r hl cs (List.mem_of_getElem? hi)
             rcases hq with(hq|hq)|hq
             · have e1:=eb (cs.take j) (cs.drop j)
               rw[List.take_append_drop] at e1
               exact aN q (by rw[e1];exact List.mem_append.2 (.inl hq))
             · refine vP q ?_
               cases hc:ev env y'<;>simp[hc,AV.cells,ak] at hq<;>simp[AV.aw] at hq ⊢<;>exact hq
             · have e1:=eb (cs.take (j+m)) (cs.drop (j+m))
               rw[List.take_append_drop] at e1
               exact aN q (by rw[e1];exact List.mem_append.2 (.inr hq))
         · intro i' j' ds x a7 cB
           have tv:(a.eval y).cells.toList.length=m:=sR
           have ec:∀n,((cur.toList.take (i*r.sz+j)++(a.eval y).cells.toList++cur.toList.drop (i*r.sz+j+(a.eval y).cells.toList.length)).toArray)[n]? =
               if n<i*r.sz+j then cur[n]? else if n<i*r.sz+j+m then(a.eval y).cells.toList[n - (i*r.sz+j)]? else cur[n]?:=by
             intro n
             rw[tv]
             have ht:(cur.toList.take (i*r.sz+j)).length=i*r.sz+j:=by simp;omega
             simp only[List.getElem?_toArray]
             by_cases rj:n<i*r.sz+j
             · rw[if_pos rj,List.append_assoc,List.getElem?_append_left (by omega),List.getElem?_take,if_pos rj];simp
             · rw[if_neg rj]
               by_cases u3:n<i*r.sz+j+m
               · rw[if_pos u3,List.append_assoc,List.getElem?_append_right (by omega),ht,List.getElem?_append_left (by omega)]
               · rw[if_neg u3,List.getElem?_append_right (by simp only[List.length_append];omega)]
                 simp only[List.length_append,ht,tv,List.getElem?_drop,Array.getElem?_toList]
                 congr 1;omega
           by_cases e1:i'=i
           · subst e1
             rw[List.getElem?_set_self vQ] at a7
             simp only[Option.some.injEq] at a7;subst a7
             have tw:(cs.take j).length=j:=by simp;omega
             rw[List.append_assoc] at cB
             by_cases vR:j'<j
             · rw[List.getElem?_append_left (by omega),List.getElem?_take,if_pos vR] at cB
               obtain⟨v,q1,q2⟩:=k5 i' j' cs x hi cB
               exact⟨v,by rw[ec,if_pos (by omega)];exact q1,q2⟩
             · rw[List.getElem?_append_right (by omega),tw] at cB
               by_cases w5:j'<j+m
               · rw[List.getElem?_append_left (by omega)] at cB
                 obtain⟨v,q1,q2⟩:=au.get _ _ _ _ c2 cB
                 refine⟨v,?_,q2⟩
                 rw[ec,if_neg (by omega),if_pos (by omega),show i'*r.sz+j' - (i'*r.sz+j)=j' - j by omega]
                 exact q1
               · rw[List.getElem?_append_right (by omega),List.getElem?_drop] at cB
                 have vS:j+m+(j' - j - (ev env y').cells.length)=j':=by omega
                 rw[vS] at cB
                 obtain⟨v,q1,q2⟩:=k5 i' j' cs x hi cB
                 exact⟨v,by rw[ec,if_neg (by omega),if_neg (by omega)];exact q1,q2⟩
           · rw[List.getElem?_set_ne (Ne.symm e1)] at a7
             obtain⟨v,q1,q2⟩:=k5 i' j' ds x a7 cB
             refine⟨v,?_,q2⟩
             have vT:j'<r.sz:=by
               have:=(hr.rows l r hl).2.1 ds (List.mem_of_getElem? a7)
               have:=(List.getElem?_eq_some_iff.1 cB).1
               omega
             have oU:i'*r.sz+j'<i*r.sz∨i*r.sz+r.sz≤i'*r.sz+j':=by
               rcases Nat.lt_or_gt_of_ne e1 with dI|oV
               · left
                 have:=Nat.mul_le_mul_right r.sz (show i'+1≤i by omega)
                 rw[Nat.add_mul] at this;omega
               · right
                 have:=Nat.mul_le_mul_right r.sz (show i+1≤i' by omega)
                 rw[Nat.add_mul] at this;omega
             rw[ec]
             rcases oU with oU|oU
             · rw[if_pos (by omega)];exact q1
             · rw[if_neg (by omega),if_neg (by omega)];exact q1
       · simp at hs
     · simp at hs
   · simp at hs
 · simp at hs
end
end Go.Am

/- THE ABSTRACT MACHINE, part 10: append. -/
namespace Go.Am
open Go Go.RowKit
open Classical in
noncomputable def eS (sz:Nat) (x:AV) (H:Hp):Option (List (List AV)):=
 match x with
 | .nil0=>some []
 | .list xs=>if iB sz xs then some (xs.map fun y=>y.cells.map IV.bV) else none
 | .str s=>if sz=1 then some (s.map fun c=>[.int .u8 c.toNat]) else none
 | .sl l s i n=>match H l with
  | .live r=>if s=sz∧r.sz=sz∧i+n≤r.aQ.length then some ((r.aQ.drop i).take n) else none
  |_=>none
 | .slk l s i n _=>match H l with
  | .live r=>if s=sz∧r.sz=sz∧i+n≤r.aQ.length then some ((r.aQ.drop i).take n) else none
  |_=>none
 |_=>none
def AV.gq (x:List AV):Prop:=∀y∈x,y.one=true
open Classical in
noncomputable def iK (sz bytes d:Nat) (s x:AV) (H:Hp):Option (AV×Hp):=
 (eS sz x H).bind fun news=>if ¬(∀cs∈news,AV.gq cs) then none else
  match s with
  | .nil0=>if news.length*bytes≤140737488355328∧0<bytes∧H (.loc d)= .unused then some (.sl (.loc d) sz 0 news.length,aD H (.loc d) (.live ⟨sz,news⟩)) else none
  | .sl l s' i n=>match H l with
   | .live r=>if s'=sz∧r.sz=sz∧i=0∧n≤r.aQ.length∧(n+news.length)*bytes≤140737488355328∧0<bytes∧l≠l.app d∧H (l.app d)= .unused then
    some (.sl (l.app d) sz 0 (n+news.length),aD (aD H l .dead) (l.app d) (.live ⟨sz,r.aQ.take n++news⟩)) else none
   |_=>none
  | .slk l s' i n c=>match H l with
   | .live r=>if s'=sz∧r.sz=sz∧i=0∧n≤r.aQ.length∧0<bytes∧l≠ .loc d then
    (if n+news.length≤c then(if n+news.length≤r.aQ.length then some (.slk l sz 0 (n+news.length) c,aD H l (.live ⟨sz,r.aQ.take n++news++r.aQ.drop (n+news.length)⟩)) else none)
    else(if(n+news.length)*bytes≤140737488355328∧H (.loc d)= .unused then some (.sl (.loc d) sz 0 (n+news.length),aD H (.loc d) (.live ⟨sz,r.aQ.take n++news⟩)) else none)) else none
   |_=>none
  |_=>none
section
variable {P:Program} {w:World}
theorem bu {st xt ty e:TypeId} {i:TypeInfo} (hu:P.underlying st=some (.slice e)) (hi:P.info? e=some i) {d:TypeDesc} (hx:P.underlying xt=some d) (hd:d= .string∨∃e2,d= .slice e2)
  (ad:Option Addr) (n c m:Nat) (xv:Value) (vals:Array Value) (hlen:(Builtin.lenOf xv).run P w= .ok m w) (hf:(Builtin.firstCells i.size m xv).run P w= .ok vals w) (hle:n+m≤c) :
  (Builtin.append_ #[st,xt] ty #[.slice ad n c,xv]).run P w=match ad with
   |none=> .ok (.slice none (n+m) c) w
   |some q=>((storeCells (q.add (n*i.size)) vals.toList).run P w).andThen fun _ w'=> .ok (.slice (some q) (n+m) c) w':=by
 rcases hd with rfl|⟨e2,rfl⟩<;>cases ad<;>simp[Builtin.append_,run_underlying hu,run_underlying hx,sizeOf,typeInfo,hi,hlen,hf,hle]
theorem bg {st xt ty e:TypeId} {i:TypeInfo} {z:Value} (hu:P.underlying st=some (.slice e)) (hi:P.info? e=some i) (hz:i.zero=some z) {d:TypeDesc} (hx:P.underlying xt=some d) (hd:d= .string∨∃e2,d= .slice e2)
  (ad:Option Addr) (n c m:Nat) (xv:Value) (vals olds:Array Value) (hlen:(Builtin.lenOf xv).run P w= .ok m w) (hf:(Builtin.firstCells i.size m xv).run P w.drew= .ok vals w.drew)
  (ho:(Builtin.firstCells i.size n (.slice ad n c)).run P w.drew= .ok olds w.drew) (oV:c<n+m) (hb:(n+m)*i.bytes≤140737488355328) (gS:0<i.bytes) :
  (Builtin.append_ #[st,xt] ty #[.slice ad n c,xv]).run P w= .ok (.slice (some ⟨w.heap.size,0,none⟩) (n+m) (grownCap w (n+m) c e))
   (w.drew.alloc (.cells (olds++vals++Builtin.zeroCells z.cells (grownCap w (n+m) c e - (n+m))) e)):=by
 have hn:¬(n+m≤c):=by omega
 have vU:n+m≤(n+m)*i.bytes:=Nat.le_mul_of_pos_right _ gS;have oW:¬(9223372036854775807<((n:Int)+(m:Int))):=by omega
 have oX:¬(281474976710656<Builtin.nextslicecap (n+m) c*i.bytes):=by have:=growslice_fits oV hb;omega
 rcases hd with rfl|⟨e2,rfl⟩<;>simp[Builtin.append_,run_underlying hu,run_underlying hx,sizeOf,typeInfo,zeroValue,hi,hz,hlen,hn,oW,oX,Question.forced,hf,ho,newRow,grownCap]
end
section
variable {K:Kx} {β:Lb→Option Nat} {env:Env} {H:Hp} {a:Act} {w:World}
theorem fc {I:Nat→Prop} {sz:Nat} (h0:0<sz):∀(xs:List IV) (b o:Nat),iB sz xs→ax w I xs b o sz →
  ∃vals:List Value,vals.length=xs.length*sz∧(∀j v,vals[j]?=some v→w.cell? ⟨b,o+j,none⟩=some v) ∧
   ∀i j x y,xs[i]?=some x→(x.cells.map IV.bV)[j]?=some y→∃v,vals[i*sz+j]?=some v∧RV w β H I y v
 |[],b,o,_,_=>⟨[],by simp,by simp,by simp⟩
 |x::r,b,o,hs,he=>by
  simp only[ax] at he;obtain⟨h1,h2⟩:=he;obtain⟨vr,k1,k2,k3⟩:=fc h0 r b (o+sz) (fun y hy=>hs y (by simp[hy])) h2;have hx:=(bx w I x b o sz).1 h1;obtain⟨vx,e1,e2,e3⟩:=au.gn (β:=β) (H:=H) x.cells b o hx.2;have hl:vx.length=sz:=by rw[e2,hx.1]
  refine⟨vx++vr,by simp[hl,k1,Nat.add_mul];omega,?_,?_⟩
  ·intro j v hj;by_cases oY:j<sz
   ·rw[List.getElem?_append_left (by omega)] at hj;exact e3 j v hj
   ·rw[List.getElem?_append_right (by omega),hl] at hj;have:=k2 _ v hj
    rwa[show o+sz+(j - sz)=o+j by omega] at this
  ·intro i j x' y hi hj;cases i with
   |zero=>
    simp at hi;subst hi;obtain⟨v,q1,q2⟩:=au.get _ _ _ _ e1 hj;refine⟨v,?_,q2⟩;have:j<vx.length:=(List.getElem?_eq_some_iff.1 q1).1;simp only[Nat.zero_mul,Nat.zero_add];rw[List.getElem?_append_left this];exact q1
   |succ i=>
    obtain⟨v,q1,q2⟩:=k3 i j x' y (by simpa using hi) hj;refine⟨v,?_,q2⟩;rw[Nat.add_mul,Nat.one_mul,List.getElem?_append_right (by omega),hl,show i*sz+sz+j - sz=i*sz+j by omega];exact q1
structure Src (K:Kx) (β:Lb→Option Nat) (H:Hp) (w:World) (sz:Nat) (xv:Value) (news:List (List AV)) (vals:List Value):Prop where
 len:vals.length=news.length*sz
 lenOf:(Builtin.lenOf xv).run K.P w= .ok news.length w
 kC:∀k,k≤news.length→∀w1,(w1=w∨w1=w.drew)→(Builtin.firstCells sz k xv).run K.P w1= .ok (vals.take (k*sz)).toArray w1
 rv:∀i j cs y,news[i]?=some cs→cs[j]?=some y→∃v,vals[i*sz+j]?=some v∧RV w β H (Im K β H) y v
 jP:∀cs∈news,cs.length=sz
 bB:∀cs∈news,∀l∈ak cs,H l≠ .unused
theorem Src.cells {K:Kx} {β:Lb→Option Nat} {H:Hp} {w:World} {sz:Nat} {xv:Value} {news:List (List AV)} {vals:List Value} (S:Src K β H w sz xv news vals) :
  ∀w1,(w1=w∨w1=w.drew)→(Builtin.firstCells sz news.length xv).run K.P w1= .ok vals.toArray w1:=fun w1 oZ=>by
 rw[S.kC _ (Nat.le_refl _) w1 oZ,List.take_of_length_le (Nat.le_of_eq S.len)]
theorem eW (hr : aj K β env H a w) {x : Operand} {x' : O} {sz : Nat} {news : List (List AV)} (hx : co K.G x = some x') (h0 : 0 < sz) (hs : eS sz (ev env x') H = some news) :
   ∃vals,Src K β H w sz (a.eval x) news vals:=by
 have h:=hr.ev hx
 unfold eS at hs
 split at hs
 · rename_i e
   rw[e] at h
   simp only[Option.some.injEq] at hs;subst hs
   simp only[RV] at h
   obtain⟨ad,h⟩:=h
   rw[h]
   refine⟨[],by simp,by simp[Builtin.lenOf],?_,by simp,by simp,by simp⟩
   intro k hk w1 _
   have mC:k=0:=by simpa using hk
   subst mC
   cases ad with
   |none=>simp[Builtin.firstCells]
   |some q=>simp[Builtin.firstCells,loadCells,loadCellsFrom]
 · rename_i xs e
   rw[e] at h
   split at hs
   · rename_i fM
     simp only[Option.some.injEq] at hs;subst hs
     simp only[RV,bA] at h
     obtain⟨ad,c,h1,h2,h3,h4⟩:=h
     rw[h1]
     rcases h4 with h4|⟨b,o',jP,rfl,e1,e2,e3,e4⟩
     · have:xs=[]:=List.eq_nil_of_length_eq_zero h4
       subst this
       refine⟨[],by simp,by simp[Builtin.lenOf],?_,by simp,by simp,by simp⟩
       intro k hk w1 _
       have mC:k=0:=by simpa using hk
       subst mC
       cases ad with
       |none=>simp[Builtin.firstCells]
       |some q=>simp[Builtin.firstCells,loadCells,loadCellsFrom]
     · by_cases hn : xs = []
       · subst hn
         refine⟨[],by simp,by simp[Builtin.lenOf],?_,by simp,by simp,by simp⟩
         intro k hk w1 _
         have mC:k=0:=by simpa using hk
         subst mC
         simp[Builtin.firstCells,loadCells,loadCellsFrom]
       · have cV:=fO e4 fM (List.length_pos_iff.2 hn)
         subst cV
         obtain⟨vals,k1,k2,k3⟩:=fc (β:=β) (H:=H) h0 xs b o' fM e4
         refine⟨vals,by simpa using k1,by simp[Builtin.lenOf],?_,?_,?_,?_⟩
         · intro k hk w1 oZ
           simp only[List.length_map] at hk
           have w6:k*jP≤vals.length:=by rw[k1];exact Nat.mul_le_mul_right _ (by simpa using hk)
           refine run_firstCells_some (P:=K.P) w1 _ k ⟨b,o',none⟩ xs.length c _ (by rw[List.length_take];omega) (fun j v hj=> ?_)
           rw[addr_add]
           replace hj:vals[j]?=some v:=by
             rw[List.getElem?_take] at hj
             split at hj
             · exact hj
             · simp at hj
           rcases oZ with rfl|rfl
           · exact k2 j v hj
           · simpa using k2 j v hj
         · intro i j cs y hi hj
           simp only[List.getElem?_map,Option.map_eq_some_iff] at hi
           obtain⟨x0,hi,rfl⟩:=hi
           exact k3 i j x0 y hi hj
         · intro cs aN
           simp only[List.mem_map] at aN
           obtain⟨x0,qR,rfl⟩:=aN
           simpa using fM x0 qR
         · intro cs aN l hl
           simp only[List.mem_map] at aN
           obtain⟨x0,qR,rfl⟩:=aN
           simp[cH] at hl
   · simp at hs
 · rename_i s e
   rw[e] at h
   split at hs
   · rename_i h1
     subst h1
     simp only[Option.some.injEq] at hs;subst hs
     simp only[RV] at h
     rw[h]
     refine⟨s.map fun c=> .int .u8 c.toNat,by simp,by simp[Builtin.lenOf,dc],?_,?_,?_,?_⟩
     · intro k hk w1 _
       have e1:(⟨s.toArray⟩:ByteArray).extract 0 k=⟨(s.take k).toArray⟩:=by
         apply ByteArray.ext
         rw[ByteArray.data_extract]
         simp
       simp[Builtin.firstCells,e1,List.map_take]
     · intro i j cs y hi hj
       simp only[List.getElem?_map,Option.map_eq_some_iff] at hi
       obtain⟨c,hi,rfl⟩:=hi
       cases j with
       |succ j=>simp at hj
       |zero=>
         simp at hj;subst hj
         exact⟨.int .u8 c.toNat,by simp[hi],by simp[RV]⟩
     · intro cs aN
       simp only[List.mem_map] at aN
       obtain⟨c,_,rfl⟩:=aN
       rfl
     · intro cs aN l hl
       simp only[List.mem_map] at aN
       obtain⟨c,_,rfl⟩:=aN
       simp[ak,AV.aw] at hl
   · simp at hs
 · rename_i l s i n e
   rw[e] at h
   split at hs
   · rename_i r hl
     split at hs
     · rename_i hc
       obtain⟨rfl,cV,jI⟩:=hc
       subst cV
       simp only[Option.some.injEq] at hs;subst hs
       simp only[RV] at h
       obtain⟨ad,c,h1,h2,h3,h4,h5⟩:=h
       rw[h1]
       have kn:((r.aQ.drop i).take n).length=n:=by simp;omega
       by_cases hn:n=0
       · subst hn
         refine⟨[],by simp,by simp[Builtin.lenOf],?_,by simp,by simp,by simp⟩
         intro k hk w1 _
         have mC:k=0:=by simpa using hk
         subst mC
         cases ad with
         |none=>simp[Builtin.firstCells]
         |some q=>simp[Builtin.firstCells,loadCells,loadCellsFrom]
       · rcases h5 ⟨r,hl⟩ with h6|⟨g,S,e1,rfl,e3,e4⟩
         · omega
         · obtain⟨cur,e0,cap,k1,k2,k3,k4,k5⟩:=(hr.rows l r hl).block e1
           have hS:cur.size=S:=by
             unfold cG at e3
             simp only[k1] at e3
             simpa using e3
           have hb:i*r.sz+n*r.sz≤cur.size:=by
             rw[k2,←Nat.add_mul]
             exact Nat.mul_le_mul_right _ (by omega)
           refine⟨(cur.toList.drop (i*r.sz)).take (n*r.sz),by rw[kn];simp;omega,by rw[kn];simp[Builtin.lenOf],?_,?_,?_,?_⟩
           · intro k hk w1 oZ
             rw[kn] at hk
             have u4:=Nat.mul_le_mul_right r.sz hk
             refine run_firstCells_some (P:=K.P) w1 _ k ⟨g,i*r.sz,none⟩ n c _ (by simp;omega) (fun j v hj=> ?_)
             rw[addr_add]
             replace hj:((cur.toList.drop (i*r.sz)).take (n*r.sz))[j]?=some v:=by
               rw[List.getElem?_take] at hj
               split at hj
               · exact hj
               · simp at hj
             have dz:w.cell? ⟨g,i*r.sz+j,none⟩=some v:=by
               rw[cell_of_row w g _ cur e0 (0,0) k1]
               rw[List.getElem?_take] at hj
               split at hj
               · simpa using hj
               · simp at hj
             rcases oZ with rfl|rfl
             · exact dz
             · simpa using dz
           · intro i' j cs y hi hj
             rw[List.getElem?_take] at hi
             split at hi
             · rename_i dI
               rw[List.getElem?_drop] at hi
               obtain⟨v,q1,q2⟩:=k5 _ j cs y hi hj
               have oY:j<r.sz:=by
                 have:=(hr.rows l r hl).2.1 cs (List.mem_of_getElem? hi)
                 have:=(List.getElem?_eq_some_iff.1 hj).1
                 omega
               refine⟨v,?_,q2⟩
               have fe:i'*r.sz+j<n*r.sz:=by
                 have:=Nat.mul_le_mul_right r.sz (show i'+1≤n by omega)
                 rw[Nat.add_mul] at this;omega
               rw[List.getElem?_take,if_pos fe,List.getElem?_drop,Array.getElem?_toList,←q1]
               congr 1
               rw[Nat.add_mul];omega
             · simp at hi
           · intro cs aN
             exact(hr.rows l r hl).2.1 cs (List.mem_of_mem_drop (List.mem_of_mem_take aN))
           · intro cs aN
             exact hr.aK l r hl cs (List.mem_of_mem_drop (List.mem_of_mem_take aN))
     · simp at hs
   · simp at hs
 · rename_i l s i n c0 e
   rw[e] at h
   split at hs
   · rename_i r hl
     split at hs
     · rename_i hc
       obtain⟨rfl,cV,jI⟩:=hc
       subst cV
       simp only[Option.some.injEq] at hs;subst hs
       simp only[RV] at h
       obtain⟨ad,h1,h2,h3,h4,h5⟩:=h
       rw[h1]
       have kn:((r.aQ.drop i).take n).length=n:=by simp;omega
       by_cases hn:n=0
       · subst hn
         refine⟨[],by simp,by simp[Builtin.lenOf],?_,by simp,by simp,by simp⟩
         intro k hk w1 _
         have mC:k=0:=by simpa using hk
         subst mC
         cases ad with
         |none=>simp[Builtin.firstCells]
         |some q=>simp[Builtin.firstCells,loadCells,loadCellsFrom]
       · rcases h5 ⟨r,hl⟩ with h6|⟨g,S,e1,rfl,e3,e4⟩
         · omega
         · obtain⟨cur,e0,cap,k1,k2,k3,k4,k5⟩:=(hr.rows l r hl).block e1
           have hS:cur.size=S:=by
             unfold cG at e3
             simp only[k1] at e3
             simpa using e3
           have hb:i*r.sz+n*r.sz≤cur.size:=by
             rw[k2,←Nat.add_mul]
             exact Nat.mul_le_mul_right _ (by omega)
           refine⟨(cur.toList.drop (i*r.sz)).take (n*r.sz),by rw[kn];simp;omega,by rw[kn];simp[Builtin.lenOf],?_,?_,?_,?_⟩
           · intro k hk w1 oZ
             rw[kn] at hk
             have u4:=Nat.mul_le_mul_right r.sz hk
             refine run_firstCells_some (P:=K.P) w1 _ k ⟨g,i*r.sz,none⟩ n c0 _ (by simp;omega) (fun j v hj=> ?_)
             rw[addr_add]
             replace hj:((cur.toList.drop (i*r.sz)).take (n*r.sz))[j]?=some v:=by
               rw[List.getElem?_take] at hj
               split at hj
               · exact hj
               · simp at hj
             have dz:w.cell? ⟨g,i*r.sz+j,none⟩=some v:=by
               rw[cell_of_row w g _ cur e0 (0,0) k1]
               rw[List.getElem?_take] at hj
               split at hj
               · simpa using hj
               · simp at hj
             rcases oZ with rfl|rfl
             · exact dz
             · simpa using dz
           · intro i' j cs y hi hj
             rw[List.getElem?_take] at hi
             split at hi
             · rename_i dI
               rw[List.getElem?_drop] at hi
               obtain⟨v,q1,q2⟩:=k5 _ j cs y hi hj
               have oY:j<r.sz:=by
                 have:=(hr.rows l r hl).2.1 cs (List.mem_of_getElem? hi)
                 have:=(List.getElem?_eq_some_iff.1 hj).1
                 omega
               refine⟨v,?_,q2⟩
               have fe:i'*r.sz+j<n*r.sz:=by
                 have:=Nat.mul_le_mul_right r.sz (show i'+1≤n by omega)
                 rw[Nat.add_mul] at this;omega
               rw[List.getElem?_take,if_pos fe,List.getElem?_drop,Array.getElem?_toList,←q1]
               congr 1
               rw[Nat.add_mul];omega
             · simp at hi
           · intro cs aN
             exact(hr.rows l r hl).2.1 cs (List.mem_of_mem_drop (List.mem_of_mem_take aN))
           · intro cs aN
             exact hr.aK l r hl cs (List.mem_of_mem_drop (List.mem_of_mem_take aN))
     · simp at hs
   · simp at hs
 · simp at hs
end
end Go.Am
