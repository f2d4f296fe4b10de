import Derived.Test.YtfinkeaikbmpgaaGreatDoorKAm5
import Derived.Laws.AppendOwn
import Derived.Laws.IdiomStrings
import Derived.Laws.BytesString
set_option linter.unusedSimpArgs false
set_option linter.unusedVariables false
set_option linter.unnecessarySimpa false
set_option linter.defProp false
/- THE ABSTRACT MACHINE, part 36: bytes of strings and back. -/
namespace Go.Am
open Go Go.RowKit
def HO (s:List UInt8):List IV:=s.map fun c=> .int .u8 (c.toNat:Int)
theorem ru {w:World} {I:Nat→Prop} (b:Nat):∀(s:List UInt8) (o:Nat),(∀j c,s[j]?=some c→w.cell? ⟨b,o+j,none⟩=some (.int .u8 (c.toNat:Int)))→bN w I (HO s) b o 1
 |[],o,_=>by simp[HO,bN]
 |c::r,o,h=>by
  simp only[HO,List.map_cons,bN,f_];refine⟨⟨trivial,_,by simpa using h 0 c rfl,rfl⟩,ru b r (o+1) fun j d hj=> ?_⟩;have:=h (j+1) d (by simpa using hj);rw[←this];congr 2;omega
section
variable {K:Kx} {β:Lb→Option Nat} {env:Env} {H:Hp} {a:Act} {w:World}
theorem FH (hr:aM K β env H a w) {o:Oper} {s d e:TypeId} {x:Operand} {x':O} (ho:o.op= .convert s d x) (hs:K.P.underlying s=some .string) (hd:K.P.underlying d=some (.slice e)) (he:K.P.underlying e=some (.int .u8))
  (hx:co K.G x=some x') {y:AV} (hy:aa (.zQ x') env=some y):aO K β H a w o y:=by
 have h:=hr.ev hx;simp only[aa] at hy;split at hy
 ·rename_i t e1;split at hy
  ·rename_i hlen;rw[e1] at h;simp only[RV,eT,Option.some.injEq] at h hy;subst hy;have jx:=run_bytes_of_string (P:=K.P) w s d e ⟨t.toArray⟩ hs hd he;have mn:=grownCap_ge w t.length 0 e;have rb:=grownCap_le_maxLen w t.length 0 e (by simp only[maxLen];omega);have iO:(⟨t.toArray⟩:ByteArray).size=t.length:=by simp[ByteArray.size]
   rw[iO] at jx
   have kO:∀j c,t[j]?=some c→(w.drew.alloc (.cells (bytesRow ⟨t.toArray⟩ (grownCap w t.length 0 e)) e ((bytesRow ⟨t.toArray⟩ (grownCap w t.length 0 e)).size,(bytesRow ⟨t.toArray⟩ (grownCap w t.length 0 e)).size+1))).cell? ⟨w.heap.size,0+j,none⟩=some (.int .u8 (c.toNat:Int)):=by
    intro j c hj;have h1:=World.cell?_alloc_mark w.drew (bytesRow ⟨t.toArray⟩ (grownCap w t.length 0 e)) e ((bytesRow ⟨t.toArray⟩ (grownCap w t.length 0 e)).size,(bytesRow ⟨t.toArray⟩ (grownCap w t.length 0 e)).size+1) j;have h2:w.drew.heap.size=w.heap.size:=rfl;rw[h2] at h1;rw[Nat.zero_add,h1];have re:=(List.getElem?_eq_some_iff.1 hj).1;unfold bytesRow
    rw[Array.getElem?_append_left (by simpa using re)];simp[hj]
   refine⟨.slice (some ⟨w.heap.size,0,none⟩) t.length (grownCap w t.length 0 e),_,?_,(mr w).trans (eb w.drew (.cells (bytesRow ⟨t.toArray⟩ (grownCap w t.length 0 e)) e ((bytesRow ⟨t.toArray⟩ (grownCap w t.length 0 e)).size,(bytesRow ⟨t.toArray⟩ (grownCap w t.length 0 e)).size+1))),?_,by simp[AV.ar]⟩
   ·simp only[execOp,ho,h,Sem.run_bind,jx,Result.andThen,Sem.run_pure]
   ·simp only[RV,eT];exact⟨_,_,by rw[List.length_map],by rw[List.length_map];exact mn,rb,.inr ⟨w.heap.size,0,1,rfl,hr.fresh,by simp,by decide,ru _ t 0 kO⟩⟩
  ·simp at hy
 ·simp at hy
theorem mV {w:World} {I:Nat→Prop} {b sz:Nat}:∀(xs:List IV) (s:List UInt8) (o:Nat),lD xs=some s→bN w I xs b o sz→xs=[]∨sz=1 →
  ∃ns:List Int,ns.length=xs.length∧ns.map (fun n=>UInt8.ofNat n.toNat)=s∧∀j n,ns[j]?=some n→w.cell? ⟨b,o+j,none⟩=some (.int .u8 n)
 |[],s,o,h,_,_=>by simp[lD] at h;subst h;exact⟨[],rfl,rfl,by simp⟩
 |x::r,s,o,h,he,hz=>by
  have Kg:sz=1:=by simpa using hz
  subst Kg;cases x with
  |int k n=>
   cases k<;>simp only[lD,reduceCtorEq,Option.map_eq_some_iff] at h;obtain⟨s',h1,rfl⟩:=h;simp only[bN,f_] at he;obtain⟨⟨_,v,hv,rfl⟩,FI⟩:=he;obtain⟨ns,e1,e2,e3⟩:=mV r s' (o+1) h1 FI (.inr rfl);refine⟨n::ns,by simp[e1],by simp[e2],fun j m hj=> ?_⟩;cases j with
   |zero=>simp at hj;subst hj;exact hv
   |succ j=>
    have:=e3 j m (by simpa using hj);rw[←this];congr 2;omega
  |_=>simp[lD] at h
theorem fold_push:∀(ns:List Int) (r:ByteArray),ns.foldl (fun r n=>r.push (UInt8.ofNat n.toNat)) r=⟨r.data++(ns.map fun n=>UInt8.ofNat n.toNat).toArray⟩
 |[],r=>by simp
 |n::ns,r=>by
  simp only[List.foldl_cons];rw[fold_push ns];simp[ByteArray.push]
theorem FJ (hr : aM K β env H a w) {o : Oper} {s d e : TypeId} {x : Operand} {x' : O} (ho : o.op = .convert s d x) (hs : K.P.underlying s = some (.slice e)) (he : K.P.underlying e = some (.int .u8)) (hd : K.P.underlying d = some .string)
   (hx:co K.G x=some x') {y:AV} (hy:aa (.z_ x') env=some y):aO K β H a w o y:=by
 simp only[aa] at hy
 have h:=hr.ev hx
 have key:∀(ad:Option Addr) (n c:Nat) (t:List UInt8),a.eval x= .slice ad n c→(convert s d (.slice ad n c)).run K.P w= .ok (.string ⟨t.toArray⟩) w→aO K β H a w o (.str t):=by
   intro ad n c t h1 h2
   exact aO.same (v:= .string ⟨t.toArray⟩) (by simp only[execOp,ho,h1,Sem.run_bind,h2,Result.andThen,Sem.run_pure]) (by simp[RV,eT]) (by simp[AV.ar])
 unfold Ff at hy
 split at hy
 · rename_i xs e1
   rw[e1] at h
   simp only[RV,eT] at h
   obtain⟨t,ht,rfl⟩:=Option.map_eq_some_iff.1 hy
   obtain⟨ad,c,h1,hn,hc,uX⟩:=h
   refine key ad xs.length c t h1 ?_
   cases ad with
   |none=>
     rw[run_convert_bytes_string w s d e none _ c hs he hd]
     rcases uX with h0|⟨b,o,sz,h2,_⟩
     · have:xs=[]:=List.length_eq_zero_iff.1 h0
       subst this
       simp[lD] at ht;subst ht
       simp[Conv.bytesToString]
       rfl
     · cases h2
   |some ad=>
     rw[run_convert_bytes_string w s d e (some ad) _ c hs he hd]
     have Ae:∃ns:List Int,ns.length=xs.length∧ns.map (fun n=>UInt8.ofNat n.toNat)=t∧∀j n,ns[j]?=some n→w.cell? (ad.add j)=some (.int .u8 n):=by
       rcases uX with h0|⟨b,o,sz,h2,_,_,iO,nz⟩
       · have:xs=[]:=List.length_eq_zero_iff.1 h0
         subst this
         simp[lD] at ht;subst ht
         exact⟨[],rfl,rfl,by simp⟩
       · cases h2
         have hz:xs=[]∨sz=1:=by
           cases xs with
           |nil=>exact .inl rfl
           |cons x r=>
             right
             cases x with
             |int k n=>simp only[bN,f_] at nz;exact nz.1.1
             |_=>simp[lD] at ht
         obtain⟨ns,e1,e2,e3⟩:=mV xs t o ht nz hz
         refine⟨ns,e1,e2,fun j n hj=> ?_⟩
         have:=e3 j n hj
         have CU:(⟨b,o,none⟩:Addr).add j=⟨b,o+j,none⟩:=by unfold Addr.add;split<;>simp_all
         rw[←this,CU]
     obtain⟨ns,e1,e2,e3⟩:=Ae
     have hl:=run_loadCells_list (P:=K.P) w ad (ns.map (Value.int .u8)) (fun j v hj=>by
       rw[List.getElem?_map] at hj
       obtain⟨n,hn,rfl⟩:=Option.map_eq_some_iff.1 hj
       exact e3 j n hn)
     rw[List.length_map,e1] at hl
     rw[run_bytesToString w ad xs.length c ns hl,fold_push,e2]
     simp[show ByteArray.empty.data=#[] from rfl]
 · rename_i e1
   rw[e1] at h
   simp only[RV] at h
   obtain⟨ad,h1⟩:=h
   simp only[Option.some.injEq] at hy
   subst hy
   refine key ad 0 0 [] h1 ?_
   rw[run_convert_bytes_string w s d e ad 0 0 hs he hd]
   cases ad with
   |none=>simp[Conv.bytesToString];rfl
   |some ad=>
     have hl:=run_loadCells_list (P:=K.P) w ad ([].map (Value.int .u8)) (fun j v hj=>by simp at hj)
     rw[run_bytesToString w ad 0 0 [] hl]
     rfl
 · simp at hy
end
end Go.Am

/- THE ABSTRACT MACHINE, part 8: what new rows, dead rows, turned rows do to the relation. -/
namespace Go.Am
open Go Go.RowKit
def bL {γ:Type} (f:Lb→γ) (l:Lb) (x:γ):Lb→γ:=fun l'=>if l'=l then x else f l'
@[simp] theorem gF {γ:Type} (f:Lb→γ) (l:Lb) (x:γ):bL f l x l=x:=by simp[bL]
theorem aA {γ:Type} (f:Lb→γ) {l l':Lb} (x:γ) (h:l'≠l):bL f l x l'=f l':=by simp[bL,h]
section
variable {K:Kx} {β:Lb→Option Nat} {env:Env} {H:Hp} {a:Act} {w:World}
theorem aM.mu (hr:aM K β env H a w) {l:Lb} {g:Nat} (hl:live H l) (hb:β l=some g):g<w.heap.size:=by
 obtain⟨r,nD⟩:=hl;obtain⟨_,_,h3⟩:=hr.rows l r nD;simp only[hb] at h3;obtain⟨cur,e,cap,h4,_⟩:=h3;exact(Array.getElem?_eq_some_iff.1 h4).1
theorem tn {w:World} {g S:Nat} (h:iX w g=some S):g<w.heap.size:=by
 unfold iX at h;cases hg:w.heap[g]? with
 |none=>simp[hg] at h
 |some o=>exact(Array.getElem?_eq_some_iff.1 hg).1
theorem aM.kill (hr:aM K β env H a w) (l:Lb) (hu:H l≠ .unused):aM K β env (bL H l .dead) a w:=by
 have a8:∀l',live (bL H l .dead) l'→live H l'∧l'≠l:=by
   intro l' ⟨r,h⟩
   by_cases e:l'=l
   · subst e;simp at h
   · rw[aA _ _ e] at h;exact⟨⟨r,h⟩,e⟩
 have dc:∀ls,eA w w β β H (bL H l .dead) (Im K β H) (Im K β (bL H l .dead)) ls:=fun ls=>
   { im := fun k hk hs => ⟨⟨hk.1,fun l' jY => hk.2 l' (a8 l' jY).1⟩,hs,rfl⟩
     lb:=fun l' _ jY=>⟨(a8 l' jY).1,rfl,fun _ _ _ h=>h⟩}
 refine⟨hr.defers,hr.size,fun n=>RV.mono _ _ (dc _) (hr.gg n),?_,fun l' g h=>hr.own l' g (a8 l' h).1,fun l1 l2 g h1 h2=>hr.inj l1 l2 g (a8 l1 h1).1 (a8 l2 h2).1,?_,?_,hr.frame,?_,?_,fun l' g h=>hr.fr l' g (a8 l' h).1⟩
 · intro l' r h
   have eg:=(a8 l' ⟨r,h⟩).2
   rw[aA _ _ eg] at h
   obtain⟨h1,h2,h3⟩:=hr.rows l' r h
   refine⟨h1,h2,?_⟩
   cases hb:β l' with
   |none=>simpa[hb] using h3
   |some g=>
     simp only[hb] at h3 ⊢
     obtain⟨cur,e,cap,e1,e2,e3,e4,e5⟩:=h3
     exact⟨cur,e,cap,e1,e2,e3,e4,fun i j cs x hi hj=>let⟨v,k1,k2⟩:=e5 i j cs x hi hj;⟨v,k1,RV.mono _ _ (dc _) k2⟩⟩
 · intro n l' jY
   by_cases e:l'=l
   · subst e;simp
   · rw[aA _ _ e];exact hr.eB n l' jY
 · intro l1 r h cs bx l' jY
   have eg:=(a8 l1 ⟨r,h⟩).2
   rw[aA _ _ eg] at h
   by_cases e:l'=l
   · subst e;simp
   · rw[aA _ _ e];exact hr.cB l1 r h cs bx l' jY
 · intro g cs hg
   obtain⟨h1,h2,h3⟩:=hr.fI g cs hg
   exact⟨((dc []).im g h1 h2).1,h2,da.mono (dc []).togE h1 h2 h3⟩
 · intro l' jY
   obtain⟨h1,h2⟩:=hr.fX l' jY
   refine⟨?_,fun h=>h2 (a8 l' h).1⟩
   by_cases e:l'=l
   · subst e;simp
   · rw[aA _ _ e];exact h1
theorem aM.k_ (hr:aM K β env H a w) (l:Lb) (hu:H l= .unused) {r:Row} {w':World} (gw:jT w w') (b:Option Nat)
   (hb:∀g,b=some g→w.heap.size≤g) (hm:∀cs∈r.els,∀l'∈ah cs,H l'≠ .unused)
   (qn:nw w' (bL β l b) (bL H l (.live r)) (Im K (bL β l b) (bL H l (.live r))) l r):aM K (bL β l b) env (bL H l (.live r)) a w':=by
 have a8:∀l',live (bL H l (.live r)) l'→l'≠l→live H l':=by
   intro l' ⟨r',h⟩ e
   rw[aA _ _ e] at h;exact⟨r',h⟩
 have dc:∀ls,(∀l'∈ls,H l'≠ .unused)→eA w w' β (bL β l b) H (bL H l (.live r)) (Im K β H) (Im K (bL β l b) (bL H l (.live r))) ls:=fun ls pe=>
   { im := fun k hk hs => ⟨⟨hk.1,fun l' jY => by
       by_cases e:l'=l
       · subst e
         simp only[gF]
         intro Kh
         have:=hb k Kh
         omega
       · rw[aA _ _ e];exact hk.2 l' (a8 l' jY e)⟩,Nat.lt_of_lt_of_le hs gw.size,gw.block k hs⟩
     lb:=fun l' CV jY=>by
       have e:l'≠l:=fun e=>pe l' CV (e▸hu)
       refine⟨a8 l' jY e,aA _ _ e,fun g S _ hS=> ?_⟩
       unfold iX at *
       rwa[gw.block g (tn hS)]}
 have hold:∀l' r',l'≠l→H l'= .live r'→nw w' (bL β l b) (bL H l (.live r)) (Im K (bL β l b) (bL H l (.live r))) l' r':=by
   intro l' r' e h
   obtain⟨h1,h2,h3⟩:=hr.rows l' r' h
   refine⟨h1,h2,?_⟩
   rw[aA _ _ e]
   cases tp:β l' with
   |none=>simpa[tp] using h3
   |some g=>
     simp only[tp] at h3 ⊢
     obtain⟨cur,e0,cap,e1,e2,e3,e4,e5⟩:=h3
     refine⟨cur,e0,cap,(gw.block g (Array.getElem?_eq_some_iff.1 e1).1).trans e1,e2,e3,e4,fun i j cs x hi hj=> ?_⟩
     obtain⟨v,k1,k2⟩:=e5 i j cs x hi hj
     exact⟨v,k1,RV.mono _ _ (dc _ (fun q hq=>hr.cB l' r' h cs (List.mem_of_getElem? hi) q (cR _ _ _ hj q hq))) k2⟩
 refine⟨hr.defers,hr.size,fun n=>RV.mono _ _ (dc _ (hr.eB n)) (hr.gg n),?_,?_,?_,?_,?_,hr.frame.xj gw,?_,?_,?_⟩
 · intro l' r' h
   by_cases e:l'=l
   · subst e
     simp at h;subst h
     exact qn
   · rw[aA _ _ e] at h
     exact hold l' r' e h
 · intro l' g h hg
   by_cases e:l'=l
   · subst e
     simp at hg
     exact .inr (Nat.le_trans hr.frame.size (hb g hg))
   · rw[aA _ _ e] at hg
     exact hr.own l' g (a8 l' h e) hg
 · intro l1 l2 g h1 h2 g1 g2
   by_cases e1:l1=l
   · by_cases e2 : l2 = l
     · rw[e1,e2]
     · subst e1
       simp at g1
       rw[aA _ _ e2] at g2
       have:=hb g g1
       have:=hr.mu (a8 l2 h2 e2) g2
       omega
   · rw[aA _ _ e1] at g1
     by_cases e2:l2=l
     · subst e2
       simp at g2
       have:=hb g g2
       have:=hr.mu (a8 l1 h1 e1) g1
       omega
     · rw[aA _ _ e2] at g2
       exact hr.inj l1 l2 g (a8 l1 h1 e1) (a8 l2 h2 e2) g1 g2
 · intro n l' jY
   by_cases e:l'=l
   · subst e;simp
   · rw[aA _ _ e];exact hr.eB n l' jY
 · intro l1 r1 h cs bx l' jY
   by_cases e:l'=l
   · subst e;simp
   · rw[aA _ _ e]
     by_cases e1:l1=l
     · subst e1
       simp at h;subst h
       exact hm cs bx l' jY
     · rw[aA _ _ e1] at h
       exact hr.cB l1 r1 h cs bx l' jY
 · intro g cs hg
   obtain⟨h1,h2,h3⟩:=hr.fI g cs hg
   exact⟨((dc [] (by simp)).im g h1 h2).1,Nat.lt_of_lt_of_le h2 gw.size,da.mono (dc [] (by simp)).togE h1 h2 h3⟩
 · intro l' jY
   obtain⟨h1,h2⟩:=hr.fX l' jY
   have e:l'≠l:=fun e=>h1 (e▸hu)
   refine⟨by rw[aA _ _ e];exact h1,fun h=> ?_⟩
   rw[aA _ _ e];exact h2 (a8 l' h e)
 · intro l' g h hf hg
   by_cases e:l'=l
   · subst e
     simp at hg
     exact Nat.le_trans hr.frame.size (hb g hg)
   · rw[aA _ _ e] at hg
     exact hr.fr l' g (a8 l' h e) hf hg
theorem aM.relabel (hr:aM K β env H a w) (l l':Lb) {r:Row} (hl:H l= .live r) (hu:H l'= .unused) (hf:l'.fresh=true→l.fresh=true):aM K (bL β l' (β l)) env (bL (bL H l .dead) l' (.live r)) a w:=by
 have eg:l≠l':=fun e=>by rw[e,hu] at hl;cases hl
 have a8:∀q,live (bL (bL H l .dead) l' (.live r)) q→q≠l'→live H q∧q≠l:=by
   intro q ⟨r',h⟩ e
   rw[aA _ _ e] at h
   by_cases e2:q=l
   · subst e2;simp at h
   · rw[aA _ _ e2] at h;exact⟨⟨r',h⟩,e2⟩
 have dc:∀ls,(∀q∈ls,H q≠ .unused)→eA w w β (bL β l' (β l)) H (bL (bL H l .dead) l' (.live r)) (Im K β H) (Im K (bL β l' (β l)) (bL (bL H l .dead) l' (.live r))) ls:=fun ls pe=>
   { im := fun k hk hs => ⟨⟨hk.1,fun q hq => by
       by_cases e:q=l'
       · subst e
         simp only[gF]
         exact hk.2 l ⟨r,hl⟩
       · rw[aA _ _ e];exact hk.2 q (a8 q hq e).1⟩,hs,rfl⟩
     lb:=fun q hq rf=>by
       have e:q≠l':=fun e=>pe q hq (e▸hu)
       exact⟨(a8 q rf e).1,aA _ _ e,fun _ _ _ h=>h⟩}
 have hold:∀q r',H q= .live r'→∀(b:Option Nat),b=β q→0<r'.sz∧(∀cs∈r'.els,cs.length=r'.sz) ∧
     match b with
     |none=>r'.els=[]
     |some g=>∃cur e cap,w.heap[g]?=some (.cells cur e (0,0))∧cur.size=cap*r'.sz∧cap≤maxLen∧r'.els.length≤cap ∧
         ∀i j cs x,r'.els[i]?=some cs→cs[j]?=some x→∃v,cur[i*r'.sz+j]?=some v∧RV w (bL β l' (β l)) (bL (bL H l .dead) l' (.live r)) (Im K (bL β l' (β l)) (bL (bL H l .dead) l' (.live r))) x v:=by
   intro q r' h b hb
   subst hb
   obtain⟨h1,h2,h3⟩:=hr.rows q r' h
   refine⟨h1,h2,?_⟩
   cases tp:β q with
   |none=>simpa[tp] using h3
   |some g=>
     simp only[tp] at h3 ⊢
     obtain⟨cur,e0,cap,e1,e2,e3,e4,e5⟩:=h3
     refine⟨cur,e0,cap,e1,e2,e3,e4,fun i j cs x hi hj=> ?_⟩
     obtain⟨v,k1,k2⟩:=e5 i j cs x hi hj
     exact⟨v,k1,RV.mono _ _ (dc _ (fun p hp=>hr.cB q r' h cs (List.mem_of_getElem? hi) p (cR _ _ _ hj p hp))) k2⟩
 refine⟨hr.defers,hr.size,fun n=>RV.mono _ _ (dc _ (hr.eB n)) (hr.gg n),?_,?_,?_,?_,?_,hr.frame,?_,?_,?_⟩
 · intro q r' h
   by_cases e:q=l'
   · subst e
     simp at h;subst h
     exact hold l r hl _ (by simp)
   · rw[aA _ _ e] at h
     by_cases e2:q=l
     · subst e2;simp at h
     · rw[aA _ _ e2] at h
       exact hold q r' h _ (aA _ _ e)
 · intro q g h hg
   by_cases e:q=l'
   · subst e
     simp at hg
     exact hr.own l g ⟨r,hl⟩ hg
   · rw[aA _ _ e] at hg
     exact hr.own q g (a8 q h e).1 hg
 · intro l1 l2 g h1 h2 g1 g2
   by_cases e1:l1=l'
   · by_cases e2 : l2 = l'
     · rw[e1,e2]
     · subst e1
       simp at g1
       rw[aA _ _ e2] at g2
       exact absurd (hr.inj l2 l g (a8 l2 h2 e2).1 ⟨r,hl⟩ g2 g1) (a8 l2 h2 e2).2
   · rw[aA _ _ e1] at g1
     by_cases e2:l2=l'
     · subst e2
       simp at g2
       exact absurd (hr.inj l1 l g (a8 l1 h1 e1).1 ⟨r,hl⟩ g1 g2) (a8 l1 h1 e1).2
     · rw[aA _ _ e2] at g2
       exact hr.inj l1 l2 g (a8 l1 h1 e1).1 (a8 l2 h2 e2).1 g1 g2
 · intro n q hq
   by_cases e:q=l'
   · subst e;simp
   · rw[aA _ _ e]
     by_cases e2:q=l
     · subst e2;simp
     · rw[aA _ _ e2];exact hr.eB n q hq
 · intro l1 r1 h cs bx q hq
   by_cases e:q=l'
   · subst e;simp
   · rw[aA _ _ e]
     by_cases e2:q=l
     · subst e2;simp
     · rw[aA _ _ e2]
       by_cases e1:l1=l'
       · subst e1
         simp at h;subst h
         exact hr.cB l r hl cs bx q hq
       · rw[aA _ _ e1] at h
         by_cases e3:l1=l
         · subst e3;simp at h
         · rw[aA _ _ e3] at h
           exact hr.cB l1 r1 h cs bx q hq
 · intro g cs hg
   obtain⟨h1,h2,h3⟩:=hr.fI g cs hg
   exact⟨((dc [] (by simp)).im g h1 h2).1,h2,da.mono (dc [] (by simp)).togE h1 h2 h3⟩
 · intro q hq
   obtain⟨h1,h2⟩:=hr.fX q hq
   have e:q≠l':=fun e=>h1 (e▸hu)
   refine⟨?_,fun h=> ?_⟩
   · rw[aA _ _ e]
     by_cases e2:q=l
     · subst e2;simp
     · rw[aA _ _ e2];exact h1
   · rw[aA _ _ e];exact h2 (a8 q h e).1
 · intro q g h hq hg
   by_cases e:q=l'
   · subst e
     simp at hg
     exact hr.fr l g ⟨r,hl⟩ (hf hq) hg
   · rw[aA _ _ e] at hg
     exact hr.fr q g (a8 q h e).1 hq hg
theorem jy {w:World} {g:Nat} {cur cur':Array Value} {e:TypeId} {fr:Nat×Nat} (hg:w.heap[g]?=some (.cells cur e fr)) (hs:cur'.size=cur.size) (k S:Nat) (h:iX w k=some S) :
  iX (w.setRow g cur') k=some S:=by
 by_cases e:k=g
 ·subst e;unfold iX at *;rw[setRow_heap w k cur cur' _ fr hg];simp only[hg] at h;simp only[hs];exact h
 ·unfold iX at *
  rwa[setRow_other w g k cur' e]
theorem aM.setRow (hr:aM K β env H a w) (l:Lb) {r r':Row} {g:Nat} {cur cur':Array Value} {e:TypeId} {cap:Nat} (hl:H l= .live r) (hb:β l=some g)
   (hg:w.heap[g]?=some (.cells cur e (0,0))) (hs:cur'.size=cur.size) (iO:r'.sz=r.sz) (Ai:cur.size=cap*r.sz) (rb:cap≤maxLen) (hlen:r'.els.length≤cap)
   (bx:∀cs∈r'.els,cs.length=r.sz) (hm:∀cs∈r'.els,∀l'∈ah cs,H l'≠ .unused)
   (hc:∀i j cs x,r'.els[i]?=some cs→cs[j]?=some x→∃v,cur'[i*r.sz+j]?=some v∧RV w β H (Im K β H) x v) :
   aM K β env (bL H l (.live r')) a (w.setRow g cur'):=by
 have a8:∀q,live (bL H l (.live r')) q↔live H q:=by
   intro q
   by_cases e:q=l
   · subst e;simp[live,hl]
   · simp[live,aA _ _ e]
 have Aj:∀k,Im K β (bL H l (.live r')) k↔Im K β H k:=by
   intro k
   simp only[Im,a8]
 have dc:∀ls,eA w (w.setRow g cur') β β H (bL H l (.live r')) (Im K β H) (Im K β (bL H l (.live r'))) ls:=fun ls=>
   { im := fun k hk Cd => by
       have eg:k≠g:=fun e=>hk.2 l ⟨r,hl⟩ (e▸hb)
       exact⟨(Aj k).2 hk,by simpa[World.setRow] using Cd,setRow_other w g k cur' eg⟩
     lb:=fun q _ hq=>⟨(a8 q).1 hq,rfl,fun g' S _ h=>jy hg hs g' S h⟩}
 refine⟨hr.defers,hr.size,fun n=>RV.mono _ _ (dc _) (hr.gg n),?_,fun q g' h=>hr.own q g' ((a8 q).1 h),fun l1 l2 g' h1 h2=>hr.inj l1 l2 g' ((a8 l1).1 h1) ((a8 l2).1 h2),?_,?_,?_,?_,?_,fun q g' h=>hr.fr q g' ((a8 q).1 h)⟩
 · intro q r1 h
   by_cases e1:q=l
   · subst e1
     simp at h;subst h
     refine⟨by rw[iO];exact(hr.rows q r hl).1,by rw[iO];exact bx,?_⟩
     simp only[hb]
     refine⟨cur',e,cap,setRow_heap w g cur cur' e (0,0) hg,by rw[hs,Ai,iO],rb,hlen,fun i j cs x hi hj=> ?_⟩
     obtain⟨v,k1,k2⟩:=hc i j cs x hi hj
     exact⟨v,by rw[iO];exact k1,RV.mono _ _ (dc _) k2⟩
   · rw[aA _ _ e1] at h
     obtain⟨h1,h2,h3⟩:=hr.rows q r1 h
     refine⟨h1,h2,?_⟩
     cases tp:β q with
     |none=>simpa[tp] using h3
     |some g'=>
       simp only[tp] at h3 ⊢
       have eg:g'≠g:=fun e=>e1 (hr.inj q l g ⟨r1,h⟩ ⟨r,hl⟩ (e▸tp) hb)
       obtain⟨HP,e0,HQ,k1,k2,k3,k4,k5⟩:=h3
       refine⟨HP,e0,HQ,(setRow_other w g g' cur' eg).trans k1,k2,k3,k4,fun i j cs x hi hj=> ?_⟩
       obtain⟨v,j1,j2⟩:=k5 i j cs x hi hj
       exact⟨v,j1,RV.mono _ _ (dc _) j2⟩
 · intro n q hq
   by_cases e1:q=l
   · subst e1;simp
   · rw[aA _ _ e1];exact hr.eB n q hq
 · intro l1 r1 h cs FK q hq
   by_cases e1:q=l
   · subst e1;simp
   · rw[aA _ _ e1]
     by_cases e2:l1=l
     · subst e2
       simp at h;subst h
       exact hm cs FK q hq
     · rw[aA _ _ e2] at h
       exact hr.cB l1 r1 h cs FK q hq
 · refine⟨hr.frame.os,hr.frame.tape,hr.frame.output,by simpa[World.setRow] using hr.frame.size,fun k hk hd=> ?_,fun k S hS=>jy hg hs k S (hr.frame.bs k S hS)⟩
   have eg:k≠g:=by
     intro e1
     subst e1
     rcases hr.own l k ⟨r,hl⟩ hb with h1|h1
     · exact hd h1
     · omega
   rw[setRow_other w g k cur' eg]
   exact hr.frame.block k hk hd
 · intro k cs hk
   obtain⟨h1,h2,h3⟩:=hr.fI k cs hk
   exact⟨((dc []).im k h1 h2).1,((dc []).im k h1 h2).2.1,da.mono (dc []).togE h1 h2 h3⟩
 · intro q hq
   obtain⟨h1,h2⟩:=hr.fX q hq
   refine⟨?_,fun h=>h2 ((a8 q).1 h)⟩
   by_cases e1:q=l
   · subst e1;simp
   · rw[aA _ _ e1];exact h1
end
end Go.Am

/- THE ABSTRACT MACHINE, part 9: the instructions that read, make and write owned rows. -/
namespace Go.Am
open Go Go.RowKit
def aN (m:Option Nat) (x:AV) (H:Hp):Option AV:=
 match x with
 | .ptr l sz i j=>match H l with
  | .live r=>if r.sz=sz then(r.els[i]?).bind fun cs=>match m with
    |none=>cs[j]?
    |some k=>if j+k≤cs.length then some (.agg ((cs.drop j).take k)) else none
   else none
  |_=>none
 |_=>none
def aE (m:Nat) (a x:AV) (H:Hp):Option Hp:=
 match a with
 | .ptr l sz i j=>match H l with
  | .live r=>if r.sz=sz∧x.dk=true∧x.cells.length=m then(r.els[i]?).bind fun cs=>
    if j+m≤cs.length then some (bL H l (.live ⟨sz,r.els.set i (cs.take j++x.cells++cs.drop (j+m))⟩)) else none
   else none
  |_=>none
 |_=>none
def iE (K:Kx) (env:Env) (a:Act) (w:World) (o:Oper) (d:Option Nat) (x:AV) (H':Hp):Prop:=
 ∃nx w' β' v,(execOp a.eval o).run K.P w= .ok nx w'∧(nx= .value v∨(nx= .skip∧v=undef))∧aM K β' (db env d x) H' (a.put d v) w'
section
variable {K:Kx} {β:Lb→Option Nat} {env:Env} {H:Hp} {a:Act} {w:World}
theorem aO.r {o:Oper} {x:AV} {d:Option Nat} (hr:aM K β env H a w) (hd:∀n,d=some n→n<K.N) (h:aO K β H a w o x):iE K env a w o d x H:=by
 obtain⟨v,w',h1,h2,h3,h4⟩:=h;exact⟨_,w',β,v,h1,.inl rfl,hr.step h2 hd (fun _=>h3) (fun _=>h4)⟩
theorem nw.block {l:Lb} {r:Row} {g:Nat} {I:Nat→Prop} (h:nw w β H I l r) (hb:β l=some g) :
  ∃cur e cap,w.heap[g]?=some (.cells cur e (0,0))∧cur.size=cap*r.sz∧cap≤maxLen∧r.els.length≤cap ∧
   ∀i j cs x,r.els[i]?=some cs→cs[j]?=some x→∃v,cur[i*r.sz+j]?=some v∧RV w β H I x v:=by
 obtain⟨_,_,h3⟩:=h;simpa only[hb] using h3
theorem vP {r:Row} {cur:Array Value} {I:Nat→Prop} {i:Nat} {cs:List AV} (hi:r.els[i]?=some cs)
  (h:∀i j cs x,r.els[i]?=some cs→cs[j]?=some x→∃v,cur[i*r.sz+j]?=some v∧RV w β H I x v) :
  ∃vs:List Value,vs.length=cs.length∧bo w β H I cs vs∧∀j v,vs[j]?=some v→cur[i*r.sz+j]?=some v:=by
 have key:∀(n:Nat) (ds:List AV),ds=cs.drop n→∃vs:List Value,vs.length=ds.length∧bo w β H I ds vs∧∀j v,vs[j]?=some v→cur[i*r.sz+(n+j)]?=some v:=by
  intro n ds
  induction ds generalizing n with
  |nil=>intro _;exact⟨[],rfl,by simp[bo],by simp⟩
  |cons x ds ih=>
   intro e;have hx:cs[n]?=some x:=by rw[←List.head?_drop,←e];rfl
   have hd:ds=cs.drop (n+1):=by rw[←List.tail_drop,←e];rfl
   obtain⟨v,h1,h2⟩:=h i n cs x hi hx;obtain⟨vs,k1,k2,k3⟩:=ih (n+1) hd;refine⟨v::vs,by simp[k1],⟨v,vs,rfl,h2,k2⟩,?_⟩;intro j u hj;cases j with
   |zero=>simp at hj;subst hj;simpa using h1
   |succ j=>
    have:=k3 j u (by simpa using hj)
    rwa[show n+1+j=n+(j+1) by omega] at this
 obtain⟨vs,k1,k2,k3⟩:=key 0 cs (by simp);exact⟨vs,k1,k2,fun j v hj=>by simpa using k3 j v hj⟩
theorem AV.vQ {x:AV} (h:x.dk=true):∀y∈x.cells,y.one=true:=by
 cases x<;>simp[AV.dk,AV.one] at h<;>simp[AV.cells,AV.one];exact h
def n2 (K:Kx) (β:Lb→Option Nat) (H:Hp) (a:Act) (w:World) (o:Oper) (x:AV):Prop:=
 ∃v,(execOp a.eval o).run K.P w= .ok (.value v) w∧RV w β H (Im K β H) x v∧∀l∈x.ar,H l≠ .unused
theorem n2.v {o:Oper} {x:AV} (h:n2 K β H a w o x):aO K β H a w o x:=by
 obtain⟨v,h1,h2,h3⟩:=h;exact .same h1 h2 h3
theorem n2.same {o:Oper} {x:AV} {v:Value} (h:(execOp a.eval o).run K.P w= .ok (.value v) w)
 (hv:RV w β H (Im K β H) x v) (hm:∀l∈x.ar,H l≠ .unused):n2 K β H a w o x:=⟨v,h,hv,hm⟩
theorem uY (hr : aM K β env H a w) {o : Oper} {t : TypeId} {x : Operand} {x' : O} {m : Option Nat} (ho : o.op = .load t x) (hm : vL K.P t = some m) (hx : co K.G x = some x') {y : AV}
   (hy:aN m (ev env x') H=some y):n2 K β H a w o y:=by
 have h:=hr.ev hx
 unfold aN at hy
 split at hy
 · rename_i l sz i j e
   rw[e] at h
   simp only[RV] at h
   obtain⟨ad,h1,h2⟩:=h
   split at hy
   · rename_i r hl
     split at hy
     · rename_i iO
       subst iO
       obtain⟨cs,hi,hy⟩:=Option.bind_eq_some_iff.1 hy
       obtain⟨g,hb,rfl⟩:=h2 ⟨r,hl⟩
       obtain⟨cur,e0,cap,k1,k2,k3,k4,k5⟩:=(hr.rows l r hl).block hb
       obtain⟨vs,v1,v2,v3⟩:=vP hi k5
       have kO:∀q v,vs[q]?=some v→w.cell? ⟨g,i*r.sz+q,none⟩=some v:=by
         intro q v hq
         rw[cell_of_row w g _ cur e0 (0,0) k1]
         exact v3 q v hq
       have run:∀v,(loadVar t ⟨g,i*r.sz+j,none⟩).run K.P w= .ok v w→(execOp a.eval o).run K.P w= .ok (.value v) w:=by
         intro v hv
         simp[execOp,ho,h1,Instr.loadAt,Instr.sureAddr,hv]
       have Ce:∀q∈ah cs,H q≠ .unused:=hr.cB l r hl cs (List.mem_of_getElem? hi)
       cases m with
       |none=>
         simp only at hy
         obtain⟨v,e1,e2⟩:=bo.get _ _ _ _ v2 hy
         exact n2.same (run v (jO hm _ _ (kO j v e1))) e2 (fun q hq=>Ce q (cR _ _ _ hy q hq))
       |some k=>
         simp only at hy
         split at hy
         · rename_i hk
           simp only[Option.some.injEq] at hy;subst hy
           refine n2.same (run (.agg ((vs.drop j).take k).toArray) (jN hm _ _ (by simp;omega) (fun q v hq=> ?_))) ⟨_,rfl,bo.take _ _ _ (bo.drop _ _ _ v2)⟩ ?_
           · rw[List.getElem?_take] at hq
             split at hq
             · rw[List.getElem?_drop] at hq
               rw[addr_add,Nat.add_assoc]
               exact kO _ v hq
             · simp at hq
           · intro q hq
             simp only[AV.ar] at hq
             refine Ce q ?_
             have lI:∀(l m:List AV),ah (l++m)=ah l++ah m:=by
               intro l m
               induction l with
               |nil=>rfl
               |cons x r ih=>simp[ah,ih]
             have e1:=lI (cs.take j) (cs.drop j)
             rw[List.take_append_drop] at e1
             have e2:=lI ((cs.drop j).take k) ((cs.drop j).drop k)
             rw[List.take_append_drop] at e2
             rw[e1,e2]
             exact List.mem_append.2 (.inr (List.mem_append.2 (.inl hq)))
         · simp at hy
     · simp at hy
   · simp at hy
 · simp at hy
theorem CW (hr:aM K β env H a w) {o:Oper} {t:TypeId} {x:Operand} {x':O} {m:Option Nat} (ho:o.op= .load t x) (hm:vL K.P t=some m) (hx:co K.G x=some x') {y:AV}
 (hy:aN m (ev env x') H=some y):aO K β H a w o y:=(uY hr ho hm hx hy).v
theorem Cf (hr:aM K β env H a w) {o:Oper} {c:Array Value} {e:TypeId} {cs:List AV} {d:Nat} (hd:d<K.N)
   (jx:(execOp a.eval o).run K.P w= .ok (.value (.pointer (some ⟨w.heap.size,0,none⟩))) (w.alloc (.cells c e)))
   (hc:bo w β H (Im K β H) cs c.toList) (h0:0<cs.length) (Ak:cs.length≤maxLen) (hm:∀l∈ah cs,H l≠ .unused) (hu:H (.loc d)= .unused) :
   iE K env a w o (some d) (.ptr (.loc d) cs.length 0 0) (bL H (.loc d) (.live ⟨cs.length,[cs]⟩)):=by
 have gw:=eb w (.cells c e)
 have hlen:c.size=cs.length:=by rw[←bo.len _ _ hc];simp
 have dc:eA w (w.alloc (.cells c e)) β (bL β (.loc d) (some w.heap.size)) H (bL H (.loc d) (.live ⟨cs.length,[cs]⟩)) (Im K β H)
     (Im K (bL β (.loc d) (some w.heap.size)) (bL H (.loc d) (.live ⟨cs.length,[cs]⟩))) (ah cs):=
   { im := fun k hk hs => ⟨⟨hk.1,fun l' ⟨r',jY⟩ => by
       by_cases e1:l'= .loc d
       · subst e1;simp;omega
       · rw[aA _ _ e1] at jY ⊢;exact hk.2 l' ⟨r',jY⟩⟩,Nat.lt_of_lt_of_le hs gw.size,gw.block k hs⟩
     lb:=fun l' CV ⟨r',jY⟩=>by
       have e1:l'≠ .loc d:=fun e1=>hm l' CV (e1▸hu)
       rw[aA _ _ e1] at jY
       refine⟨⟨r',jY⟩,aA _ _ e1,fun g S _ hS=> ?_⟩
       unfold iX at *
       rwa[gw.block g (tn hS)]}
 have qn:nw (w.alloc (.cells c e)) (bL β (.loc d) (some w.heap.size)) (bL H (.loc d) (.live ⟨cs.length,[cs]⟩))
     (Im K (bL β (.loc d) (some w.heap.size)) (bL H (.loc d) (.live ⟨cs.length,[cs]⟩))) (.loc d) ⟨cs.length,[cs]⟩:=by
   refine⟨h0,by simp,?_⟩
   simp only[gF]
   refine⟨c,e,1,heap_alloc_new w (.cells c e),by simp[hlen],by simp[maxLen],by simp,fun i j kK x hi hj=> ?_⟩
   cases i with
   |succ i=>simp at hi
   |zero=>
     simp at hi;subst hi
     obtain⟨v,k1,k2⟩:=bo.get _ _ _ _ hc hj
     refine⟨v,by simpa using k1,RV.mono _ _ (dc.sub (fun l hl=>cR _ _ _ hj l hl)) k2⟩
 have h2:=hr.k_ (.loc d) hu gw (some w.heap.size) (by simp) (by simpa using hm) qn
 have h3:=h2.step (Below.refl _ _) (d:=some d) (x:= .ptr (.loc d) cs.length 0 0) (v:= .pointer (some ⟨w.heap.size,0,none⟩)) (by simpa using hd)
   (fun _=>by simp only[RV];exact⟨_,rfl,fun _=>⟨w.heap.size,by simp,by simp⟩⟩) (by simp[AV.ar])
 exact⟨_,_,_,_,jx,.inl rfl,h3⟩
theorem FL (hr:aM K β env H a w) {o:Oper} {t:TypeId} {x:Operand} {x':O} {d:Nat} (hd:d<K.N) (ho:o.op= .box t x) (hx:co K.G x=some x') (fW:(ev env x').dk=true)
  (h0:0<(ev env x').cells.length) (Ak:(ev env x').cells.length≤maxLen) (hu:H (.loc d)= .unused) :
  iE K env a w o (some d) (.ptr (.loc d) (ev env x').cells.length 0 0) (bL H (.loc d) (.live ⟨(ev env x').cells.length,[(ev env x').cells]⟩)):=by
 have h:=hr.ev hx;have hm:=hr.eu hx;obtain⟨k1,k2⟩:=bo.kt h (AV.tg fW);refine Cf hr hd (c:=(a.eval x).cells) (e:=t) ?_ k2 h0 Ak ?_ hu
 ·simp[execOp,ho,Instr.box,newVar,newRow]
 ·intro l hl;refine hm l ?_;cases hc:ev env x'<;>simp[hc,AV.cells,ah] at hl<;>simp[AV.ar] at hl ⊢<;>exact hl
theorem ic:∀(l:List Value) (xs:List AV),kJ l=some xs→ah xs=[]
 |[],xs,h=>by simp[kJ] at h;subst h;rfl
 |v::r,xs,h=>by
  simp only[kJ,Option.bind_eq_some_iff,Option.map_eq_some_iff] at h;obtain⟨x,h1,s,h2,rfl⟩:=h;simp[ah,s_ h1,ic r s h2]
theorem Al (hr:aM K β env H a w) {o:Oper} {t:TypeId} {i:TypeInfo} {z:Value} {cs:List AV} {d:Nat} (hd:d<K.N) (ho:o.op= .alloc t) (hi:K.P.info? t=some i) (hz:i.zero=some z)
  (nZ:kJ z.cells.toList=some cs) (h0:0<cs.length) (Ak:cs.length≤maxLen) (hu:H (.loc d)= .unused) :
  iE K env a w o (some d) (.ptr (.loc d) cs.length 0 0) (bL H (.loc d) (.live ⟨cs.length,[cs]⟩)):=by
 refine Cf hr hd (c:=z.cells) (e:=t) ?_ (ib _ _ nZ _ _ _ _) h0 Ak (by simp[ic _ _ nZ]) hu;simp[execOp,ho,Instr.alloc,zeroValue,typeInfo,hi,hz,newVar,newRow]
theorem An (hr : aM K β env H a w) {o : Oper} {t : TypeId} {x y : Operand} {x' y' : O} {m : Nat} (ho : o.op = .store t x y) (hm : nV K.P t = some m) (hx : co K.G x = some x') (hy : co K.G y = some y') {H' : Hp}
   (hs:aE m (ev env x') (ev env y') H=some H'):iE K env a w o none .un H':=by
 have h:=hr.ev hx
 have h2:=hr.ev hy
 have Ki:=hr.eu hy
 unfold aE at hs
 split at hs
 · rename_i l sz i j e
   rw[e] at h
   simp only[RV] at h
   obtain⟨ad,h1,h3⟩:=h
   split at hs
   · rename_i r hl
     split at hs
     · rename_i hc
       obtain⟨iO,fW,hlen⟩:=hc
       subst iO
       obtain⟨cs,hi,hs⟩:=Option.bind_eq_some_iff.1 hs
       split at hs
       · rename_i LK
         simp only[Option.some.injEq] at hs;subst hs
         obtain⟨g,hb,rfl⟩:=h3 ⟨r,hl⟩
         obtain⟨cur,e0,cap,k1,k2,k3,k4,k5⟩:=(hr.rows l r hl).block hb
         obtain⟨c1,c2⟩:=bo.kt h2 (AV.tg fW)
         have lC:i<r.els.length:=(List.getElem?_eq_some_iff.1 hi).1
         have qo:cs.length=r.sz:=(hr.rows l r hl).2.1 cs (List.mem_of_getElem? hi)
         have hbound:i*r.sz+r.sz≤cur.size:=by
           rw[k2,←Nat.succ_mul]
           exact Nat.mul_le_mul_right _ (by omega)
         have EY:(a.eval y).cells.toList.length=m:=by simp;omega
         have FM:=run_storeCells_at K.P g (i*r.sz+j) e0 (a.eval y).cells.toList 0 cur w k1 (by omega) (by
           intro u hu
           obtain⟨q,hq⟩:=List.getElem?_of_mem hu
           have EZ:q<(ev env y').cells.length:=by
             have:=(List.getElem?_eq_some_iff.1 hq).1
             omega
           obtain⟨u',e1,e2⟩:=bo.get _ _ q _ c2 (List.getElem?_eq_getElem EZ)
           rw[hq] at e1;cases e1
           exact RV.lF e2 (AV.vQ fW _ (List.getElem_mem EZ)))
         simp only[Nat.add_zero] at FM
         have jx:(execOp a.eval o).run K.P w= .ok .skip (w.setRow g (cur.toList.take (i*r.sz+j)++(a.eval y).cells.toList++cur.toList.drop (i*r.sz+j+(a.eval y).cells.toList.length)).toArray):=by
           have eg:¬(a.eval y).cells.size≠m:=by simp at EY;simp[EY]
           simp only[execOp,ho,h1,Instr.storeAt,Instr.sureAddr,Sem.run_bind,Sem.run_pure,Result.andThen_ok,storeVar,cy hm,Sem.run_ite,eg,if_false,FM]
         have kP:(cur.toList.take (i*r.sz+j)++(a.eval y).cells.toList++cur.toList.drop (i*r.sz+j+(a.eval y).cells.toList.length)).toArray.size=cur.size:=by
           simp only[List.size_toArray,List.length_append,List.length_take,List.length_drop,Array.length_toList]
           simp at EY
           omega
         have j6:=hr.setRow l (r':=⟨r.sz,r.els.set i (cs.take j++(ev env y').cells++cs.drop (j+m))⟩) hl hb k1 kP rfl k2 k3 (by simpa using k4) ?_ ?_ ?_
         · have:=j6.step (Below.refl _ _) (d:=none) (x:= .un) (v:=undef) (by simp) (by simp) (by simp)
           exact⟨_,_,_,_,jx,.inr ⟨rfl,rfl⟩,this⟩
         · intro ds vR
           rcases List.mem_or_eq_of_mem_set vR with vR|rfl
           · exact(hr.rows l r hl).2.1 ds vR
           · simp;omega
         · intro ds vR q hq
           rcases List.mem_or_eq_of_mem_set vR with vR|rfl
           · exact hr.cB l r hl ds vR q hq
           · have lI:∀(l m:List AV),ah (l++m)=ah l++ah m:=by
               intro l m
               induction l with
               |nil=>rfl
               |cons x r ih=>simp[ah,ih]
             rw[lI,lI,List.mem_append,List.mem_append] at hq
             have bx:=hr.cB l r hl cs (List.mem_of_getElem? hi)
             rcases hq with(hq|hq)|hq
             · have e1:=lI (cs.take j) (cs.drop j)
               rw[List.take_append_drop] at e1
               exact bx q (by rw[e1];exact List.mem_append.2 (.inl hq))
             · refine Ki q ?_
               cases hc:ev env y'<;>simp[hc,AV.cells,ah] at hq<;>simp[AV.ar] at hq ⊢<;>exact hq
             · have e1:=lI (cs.take (j+m)) (cs.drop (j+m))
               rw[List.take_append_drop] at e1
               exact bx q (by rw[e1];exact List.mem_append.2 (.inr hq))
         · intro i' j' ds x dX iB
           have HR:(a.eval y).cells.toList.length=m:=EY
           have jz:∀n,((cur.toList.take (i*r.sz+j)++(a.eval y).cells.toList++cur.toList.drop (i*r.sz+j+(a.eval y).cells.toList.length)).toArray)[n]? =
               if n<i*r.sz+j then cur[n]? else if n<i*r.sz+j+m then(a.eval y).cells.toList[n - (i*r.sz+j)]? else cur[n]?:=by
             intro n
             rw[HR]
             have ht:(cur.toList.take (i*r.sz+j)).length=i*r.sz+j:=by simp;omega
             simp only[List.getElem?_toArray]
             by_cases Ab:n<i*r.sz+j
             · rw[if_pos Ab,List.append_assoc,List.getElem?_append_left (by omega),List.getElem?_take,if_pos Ab];simp
             · rw[if_neg Ab]
               by_cases xc:n<i*r.sz+j+m
               · rw[if_pos xc,List.append_assoc,List.getElem?_append_right (by omega),ht,List.getElem?_append_left (by omega)]
               · rw[if_neg xc,List.getElem?_append_right (by simp only[List.length_append];omega)]
                 simp only[List.length_append,ht,HR,List.getElem?_drop,Array.getElem?_toList]
                 congr 1;omega
           by_cases e1:i'=i
           · subst e1
             rw[List.getElem?_set_self lC] at dX
             simp only[Option.some.injEq] at dX;subst dX
             have HS:(cs.take j).length=j:=by simp;omega
             rw[List.append_assoc] at iB
             by_cases Kj:j'<j
             · rw[List.getElem?_append_left (by omega),List.getElem?_take,if_pos Kj] at iB
               obtain⟨v,q1,q2⟩:=k5 i' j' cs x hi iB
               exact⟨v,by rw[jz,if_pos (by omega)];exact q1,q2⟩
             · rw[List.getElem?_append_right (by omega),HS] at iB
               by_cases LL:j'<j+m
               · rw[List.getElem?_append_left (by omega)] at iB
                 obtain⟨v,q1,q2⟩:=bo.get _ _ _ _ c2 iB
                 refine⟨v,?_,q2⟩
                 rw[jz,if_neg (by omega),if_pos (by omega),show i'*r.sz+j' - (i'*r.sz+j)=j' - j by omega]
                 exact q1
               · rw[List.getElem?_append_right (by omega),List.getElem?_drop] at iB
                 have Kk:j+m+(j' - j - (ev env y').cells.length)=j':=by omega
                 rw[Kk] at iB
                 obtain⟨v,q1,q2⟩:=k5 i' j' cs x hi iB
                 exact⟨v,by rw[jz,if_neg (by omega),if_neg (by omega)];exact q1,q2⟩
           · rw[List.getElem?_set_ne (Ne.symm e1)] at dX
             obtain⟨v,q1,q2⟩:=k5 i' j' ds x dX iB
             refine⟨v,?_,q2⟩
             have Kl:j'<r.sz:=by
               have:=(hr.rows l r hl).2.1 ds (List.mem_of_getElem? dX)
               have:=(List.getElem?_eq_some_iff.1 iB).1
               omega
             have CX:i'*r.sz+j'<i*r.sz∨i*r.sz+r.sz≤i'*r.sz+j':=by
               rcases Nat.lt_or_gt_of_ne e1 with bz|CY
               · left
                 have:=Nat.mul_le_mul_right r.sz (show i'+1≤i by omega)
                 rw[Nat.add_mul] at this;omega
               · right
                 have:=Nat.mul_le_mul_right r.sz (show i+1≤i' by omega)
                 rw[Nat.add_mul] at this;omega
             rw[jz]
             rcases CX with CX|CX
             · rw[if_pos (by omega)];exact q1
             · rw[if_neg (by omega),if_neg (by omega)];exact q1
       · simp at hs
     · simp at hs
   · simp at hs
 · simp at hs
end
end Go.Am

/- THE ABSTRACT MACHINE, part 10: append. -/
namespace Go.Am
open Go Go.RowKit
open Classical in
noncomputable def jU (sz:Nat) (x:AV) (H:Hp):Option (List (List AV)):=
 match x with
 | .nil0=>some []
 | .list xs=>if ia sz xs then some (xs.map fun y=>y.cells.map IV.b7) else none
 | .str s=>if sz=1 then some (s.map fun c=>[.int .u8 c.toNat]) else none
 | .sl l s i n=>match H l with
  | .live r=>if s=sz∧r.sz=sz∧i+n≤r.els.length then some ((r.els.drop i).take n) else none
  |_=>none
 | .slk l s i n _=>match H l with
  | .live r=>if s=sz∧r.sz=sz∧i+n≤r.els.length then some ((r.els.drop i).take n) else none
  |_=>none
 |_=>none
def AV.pf (x:List AV):Prop:=∀y∈x,y.one=true
open Classical in
noncomputable def jA (sz bytes d:Nat) (s x:AV) (H:Hp):Option (AV×Hp):=
 (jU sz x H).bind fun news=>if ¬(∀cs∈news,AV.pf cs) then none else
  match s with
  | .nil0=>if news.length*bytes≤140737488355328∧0<bytes∧H (.loc d)= .unused then some (.sl (.loc d) sz 0 news.length,bL H (.loc d) (.live ⟨sz,news⟩)) else none
  | .sl l s' i n=>match H l with
   | .live r=>if s'=sz∧r.sz=sz∧i=0∧n≤r.els.length∧(n+news.length)*bytes≤140737488355328∧0<bytes∧l≠l.app d∧H (l.app d)= .unused then
    some (.sl (l.app d) sz 0 (n+news.length),bL (bL H l .dead) (l.app d) (.live ⟨sz,r.els.take n++news⟩)) else none
   |_=>none
  | .slk l s' i n c=>match H l with
   | .live r=>if s'=sz∧r.sz=sz∧i=0∧n≤r.els.length∧0<bytes∧l≠ .loc d then
    (if n+news.length≤c then(if n+news.length≤r.els.length then some (.slk l sz 0 (n+news.length) c,bL H l (.live ⟨sz,r.els.take n++news++r.els.drop (n+news.length)⟩)) else none)
    else(if(n+news.length)*bytes≤140737488355328∧H (.loc d)= .unused then some (.sl (.loc d) sz 0 (n+news.length),bL H (.loc d) (.live ⟨sz,r.els.take n++news⟩)) else none)) else none
   |_=>none
  |_=>none
section
variable {P:Program} {w:World}
theorem fg {st xt ty e:TypeId} {i:TypeInfo} (hu:P.underlying st=some (.slice e)) (hi:P.info? e=some i) {d:TypeDesc} (hx:P.underlying xt=some d) (hd:d= .string∨∃e2,d= .slice e2)
  (ad:Option Addr) (n c m:Nat) (xv:Value) (vals:Array Value) (hlen:(Builtin.lenOf xv).run P w= .ok m w) (hf:(Builtin.firstCells i.size m xv).run P w= .ok vals w) (hle:n+m≤c) :
  (Builtin.append_ #[st,xt] ty #[.slice ad n c,xv]).run P w=match ad with
   |none=> .ok (.slice none (n+m) c) w
   |some q=>((storeCells (q.add (n*i.size)) vals.toList).run P w).andThen fun _ w'=> .ok (.slice (some q) (n+m) c) w':=by
 rcases hd with rfl|⟨e2,rfl⟩<;>cases ad<;>simp[Builtin.append_,run_underlying hu,run_underlying hx,sizeOf,typeInfo,hi,hlen,hf,hle]
theorem eD {st xt ty e:TypeId} {i:TypeInfo} {z:Value} (hu:P.underlying st=some (.slice e)) (hi:P.info? e=some i) (hz:i.zero=some z) {d:TypeDesc} (hx:P.underlying xt=some d) (hd:d= .string∨∃e2,d= .slice e2)
  (ad:Option Addr) (n c m:Nat) (xv:Value) (vals olds:Array Value) (hlen:(Builtin.lenOf xv).run P w= .ok m w) (hf:(Builtin.firstCells i.size m xv).run P w.drew= .ok vals w.drew)
  (ho:(Builtin.firstCells i.size n (.slice ad n c)).run P w.drew= .ok olds w.drew) (CY:c<n+m) (hb:(n+m)*i.bytes≤140737488355328) (rz:0<i.bytes) :
  (Builtin.append_ #[st,xt] ty #[.slice ad n c,xv]).run P w= .ok (.slice (some ⟨w.heap.size,0,none⟩) (n+m) (grownCap w (n+m) c e))
   (w.drew.alloc (.cells (olds++vals++Builtin.zeroCells z.cells (grownCap w (n+m) c e - (n+m))) e)):=by
 have hn:¬(n+m≤c):=by omega
 have Km:n+m≤(n+m)*i.bytes:=Nat.le_mul_of_pos_right _ rz;have CZ:¬(9223372036854775807<((n:Int)+(m:Int))):=by omega
 have C0:¬(281474976710656<Builtin.nextslicecap (n+m) c*i.bytes):=by have:=growslice_fits CY hb;omega
 rcases hd with rfl|⟨e2,rfl⟩<;>simp[Builtin.append_,run_underlying hu,run_underlying hx,sizeOf,typeInfo,zeroValue,hi,hz,hlen,hn,CZ,C0,Question.forced,hf,ho,newRow,grownCap]
end
section
variable {K:Kx} {β:Lb→Option Nat} {env:Env} {H:Hp} {a:Act} {w:World}
theorem n3 {I:Nat→Prop} {sz:Nat} (h0:0<sz):∀(xs:List IV) (b o:Nat),ia sz xs→bN w I xs b o sz →
  ∃vals:List Value,vals.length=xs.length*sz∧(∀j v,vals[j]?=some v→w.cell? ⟨b,o+j,none⟩=some v) ∧
   ∀i j x y,xs[i]?=some x→(x.cells.map IV.b7)[j]?=some y→∃v,vals[i*sz+j]?=some v∧RV w β H I y v
 |[],b,o,_,_=>⟨[],by simp,by simp,by simp⟩
 |x::r,b,o,hs,he=>by
  simp only[bN] at he;obtain⟨h1,h2⟩:=he;obtain⟨vr,k1,k2,k3⟩:=n3 h0 r b (o+sz) (fun y hy=>hs y (by simp[hy])) h2;have hx:=(fB w I x b o sz).1 h1;obtain⟨vx,e1,e2,e3⟩:=bo.qm (β:=β) (H:=H) x.cells b o hx.2;have hl:vx.length=sz:=by rw[e2,hx.1]
  refine⟨vx++vr,by simp[hl,k1,Nat.add_mul];omega,?_,?_⟩
  ·intro j v hj;by_cases C1:j<sz
   ·rw[List.getElem?_append_left (by omega)] at hj;exact e3 j v hj
   ·rw[List.getElem?_append_right (by omega),hl] at hj;have:=k2 _ v hj
    rwa[show o+sz+(j - sz)=o+j by omega] at this
  ·intro i j x' y hi hj;cases i with
   |zero=>
    simp at hi;subst hi;obtain⟨v,q1,q2⟩:=bo.get _ _ _ _ e1 hj;refine⟨v,?_,q2⟩;have:j<vx.length:=(List.getElem?_eq_some_iff.1 q1).1;simp only[Nat.zero_mul,Nat.zero_add];rw[List.getElem?_append_left this];exact q1
   |succ i=>
    obtain⟨v,q1,q2⟩:=k3 i j x' y (by simpa using hi) hj;refine⟨v,?_,q2⟩;rw[Nat.add_mul,Nat.one_mul,List.getElem?_append_right (by omega),hl,show i*sz+sz+j - sz=i*sz+j by omega];exact q1
structure Src (K:Kx) (β:Lb→Option Nat) (H:Hp) (w:World) (sz:Nat) (xv:Value) (news:List (List AV)) (vals:List Value):Prop where
 len:vals.length=news.length*sz
 lenOf:(Builtin.lenOf xv).run K.P w= .ok news.length w
 xw:∀k,k≤news.length→∀w1,(w1=w∨w1=w.drew)→(Builtin.firstCells sz k xv).run K.P w1= .ok (vals.take (k*sz)).toArray w1
 rv:∀i j cs y,news[i]?=some cs→cs[j]?=some y→∃v,vals[i*sz+j]?=some v∧RV w β H (Im K β H) y v
 vS:∀cs∈news,cs.length=sz
 eB:∀cs∈news,∀l∈ah cs,H l≠ .unused
theorem Src.cells {K:Kx} {β:Lb→Option Nat} {H:Hp} {w:World} {sz:Nat} {xv:Value} {news:List (List AV)} {vals:List Value} (S:Src K β H w sz xv news vals) :
  ∀w1,(w1=w∨w1=w.drew)→(Builtin.firstCells sz news.length xv).run K.P w1= .ok vals.toArray w1:=fun w1 ku=>by
 rw[S.xw _ (Nat.le_refl _) w1 ku,List.take_of_length_le (Nat.le_of_eq S.len)]
theorem nM (hr : aM K β env H a w) {x : Operand} {x' : O} {sz : Nat} {news : List (List AV)} (hx : co K.G x = some x') (h0 : 0 < sz) (hs : jU sz (ev env x') H = some news) :
   ∃vals,Src K β H w sz (a.eval x) news vals:=by
 have h:=hr.ev hx
 unfold jU at hs
 split at hs
 · rename_i e
   rw[e] at h
   simp only[Option.some.injEq] at hs;subst hs
   simp only[RV] at h
   obtain⟨ad,h⟩:=h
   rw[h]
   refine⟨[],by simp,by simp[Builtin.lenOf],?_,by simp,by simp,by simp⟩
   intro k hk w1 _
   have xd:k=0:=by simpa using hk
   subst xd
   cases ad with
   |none=>simp[Builtin.firstCells]
   |some q=>simp[Builtin.firstCells,loadCells,loadCellsFrom]
 · rename_i xs e
   rw[e] at h
   split at hs
   · rename_i nz
     simp only[Option.some.injEq] at hs;subst hs
     simp only[RV,eT] at h
     obtain⟨ad,c,h1,h2,h3,h4⟩:=h
     rw[h1]
     rcases h4 with h4|⟨b,o',vS,rfl,e1,e2,e3,e4⟩
     · have:xs=[]:=List.eq_nil_of_length_eq_zero h4
       subst this
       refine⟨[],by simp,by simp[Builtin.lenOf],?_,by simp,by simp,by simp⟩
       intro k hk w1 _
       have xd:k=0:=by simpa using hk
       subst xd
       cases ad with
       |none=>simp[Builtin.firstCells]
       |some q=>simp[Builtin.firstCells,loadCells,loadCellsFrom]
     · by_cases hn : xs = []
       · subst hn
         refine⟨[],by simp,by simp[Builtin.lenOf],?_,by simp,by simp,by simp⟩
         intro k hk w1 _
         have xd:k=0:=by simpa using hk
         subst xd
         simp[Builtin.firstCells,loadCells,loadCellsFrom]
       · have iO:=pw e4 nz (List.length_pos_iff.2 hn)
         subst iO
         obtain⟨vals,k1,k2,k3⟩:=n3 (β:=β) (H:=H) h0 xs b o' nz e4
         refine⟨vals,by simpa using k1,by simp[Builtin.lenOf],?_,?_,?_,?_⟩
         · intro k hk w1 ku
           simp only[List.length_map] at hk
           have FN:k*vS≤vals.length:=by rw[k1];exact Nat.mul_le_mul_right _ (by simpa using hk)
           refine run_firstCells_some (P:=K.P) w1 _ k ⟨b,o',none⟩ xs.length c _ (by rw[List.length_take];omega) (fun j v hj=> ?_)
           rw[addr_add]
           replace hj:vals[j]?=some v:=by
             rw[List.getElem?_take] at hj
             split at hj
             · exact hj
             · simp at hj
           rcases ku with rfl|rfl
           · exact k2 j v hj
           · simpa using k2 j v hj
         · intro i j cs y hi hj
           simp only[List.getElem?_map,Option.map_eq_some_iff] at hi
           obtain⟨x0,hi,rfl⟩:=hi
           exact k3 i j x0 y hi hj
         · intro cs bx
           simp only[List.mem_map] at bx
           obtain⟨x0,zV,rfl⟩:=bx
           simpa using nz x0 zV
         · intro cs bx l hl
           simp only[List.mem_map] at bx
           obtain⟨x0,zV,rfl⟩:=bx
           simp[gX] at hl
   · simp at hs
 · rename_i s e
   rw[e] at h
   split at hs
   · rename_i h1
     subst h1
     simp only[Option.some.injEq] at hs;subst hs
     simp only[RV] at h
     rw[h]
     refine⟨s.map fun c=> .int .u8 c.toNat,by simp,by simp[Builtin.lenOf,j5],?_,?_,?_,?_⟩
     · intro k hk w1 _
       have e1:(⟨s.toArray⟩:ByteArray).extract 0 k=⟨(s.take k).toArray⟩:=by
         apply ByteArray.ext
         rw[ByteArray.data_extract]
         simp
       simp[Builtin.firstCells,e1,List.map_take]
     · intro i j cs y hi hj
       simp only[List.getElem?_map,Option.map_eq_some_iff] at hi
       obtain⟨c,hi,rfl⟩:=hi
       cases j with
       |succ j=>simp at hj
       |zero=>
         simp at hj;subst hj
         exact⟨.int .u8 c.toNat,by simp[hi],by simp[RV]⟩
     · intro cs bx
       simp only[List.mem_map] at bx
       obtain⟨c,_,rfl⟩:=bx
       rfl
     · intro cs bx l hl
       simp only[List.mem_map] at bx
       obtain⟨c,_,rfl⟩:=bx
       simp[ah,AV.ar] at hl
   · simp at hs
 · rename_i l s i n e
   rw[e] at h
   split at hs
   · rename_i r hl
     split at hs
     · rename_i hc
       obtain⟨rfl,iO,te⟩:=hc
       subst iO
       simp only[Option.some.injEq] at hs;subst hs
       simp only[RV] at h
       obtain⟨ad,c,h1,h2,h3,h4,h5⟩:=h
       rw[h1]
       have tq:((r.els.drop i).take n).length=n:=by simp;omega
       by_cases hn:n=0
       · subst hn
         refine⟨[],by simp,by simp[Builtin.lenOf],?_,by simp,by simp,by simp⟩
         intro k hk w1 _
         have xd:k=0:=by simpa using hk
         subst xd
         cases ad with
         |none=>simp[Builtin.firstCells]
         |some q=>simp[Builtin.firstCells,loadCells,loadCellsFrom]
       · rcases h5 ⟨r,hl⟩ with h6|⟨g,S,e1,rfl,e3,e4⟩
         · omega
         · obtain⟨cur,e0,cap,k1,k2,k3,k4,k5⟩:=(hr.rows l r hl).block e1
           have hS:cur.size=S:=by
             unfold iX at e3
             simp only[k1] at e3
             simpa using e3
           have hb:i*r.sz+n*r.sz≤cur.size:=by
             rw[k2,←Nat.add_mul]
             exact Nat.mul_le_mul_right _ (by omega)
           refine⟨(cur.toList.drop (i*r.sz)).take (n*r.sz),by rw[tq];simp;omega,by rw[tq];simp[Builtin.lenOf],?_,?_,?_,?_⟩
           · intro k hk w1 ku
             rw[tq] at hk
             have zW:=Nat.mul_le_mul_right r.sz hk
             refine run_firstCells_some (P:=K.P) w1 _ k ⟨g,i*r.sz,none⟩ n c _ (by simp;omega) (fun j v hj=> ?_)
             rw[addr_add]
             replace hj:((cur.toList.drop (i*r.sz)).take (n*r.sz))[j]?=some v:=by
               rw[List.getElem?_take] at hj
               split at hj
               · exact hj
               · simp at hj
             have kO:w.cell? ⟨g,i*r.sz+j,none⟩=some v:=by
               rw[cell_of_row w g _ cur e0 (0,0) k1]
               rw[List.getElem?_take] at hj
               split at hj
               · simpa using hj
               · simp at hj
             rcases ku with rfl|rfl
             · exact kO
             · simpa using kO
           · intro i' j cs y hi hj
             rw[List.getElem?_take] at hi
             split at hi
             · rename_i bz
               rw[List.getElem?_drop] at hi
               obtain⟨v,q1,q2⟩:=k5 _ j cs y hi hj
               have C1:j<r.sz:=by
                 have:=(hr.rows l r hl).2.1 cs (List.mem_of_getElem? hi)
                 have:=(List.getElem?_eq_some_iff.1 hj).1
                 omega
               refine⟨v,?_,q2⟩
               have la:i'*r.sz+j<n*r.sz:=by
                 have:=Nat.mul_le_mul_right r.sz (show i'+1≤n by omega)
                 rw[Nat.add_mul] at this;omega
               rw[List.getElem?_take,if_pos la,List.getElem?_drop,Array.getElem?_toList,←q1]
               congr 1
               rw[Nat.add_mul];omega
             · simp at hi
           · intro cs bx
             exact(hr.rows l r hl).2.1 cs (List.mem_of_mem_drop (List.mem_of_mem_take bx))
           · intro cs bx
             exact hr.cB l r hl cs (List.mem_of_mem_drop (List.mem_of_mem_take bx))
     · simp at hs
   · simp at hs
 · rename_i l s i n c0 e
   rw[e] at h
   split at hs
   · rename_i r hl
     split at hs
     · rename_i hc
       obtain⟨rfl,iO,te⟩:=hc
       subst iO
       simp only[Option.some.injEq] at hs;subst hs
       simp only[RV] at h
       obtain⟨ad,h1,h2,h3,h4,h5⟩:=h
       rw[h1]
       have tq:((r.els.drop i).take n).length=n:=by simp;omega
       by_cases hn:n=0
       · subst hn
         refine⟨[],by simp,by simp[Builtin.lenOf],?_,by simp,by simp,by simp⟩
         intro k hk w1 _
         have xd:k=0:=by simpa using hk
         subst xd
         cases ad with
         |none=>simp[Builtin.firstCells]
         |some q=>simp[Builtin.firstCells,loadCells,loadCellsFrom]
       · rcases h5 ⟨r,hl⟩ with h6|⟨g,S,e1,rfl,e3,e4⟩
         · omega
         · obtain⟨cur,e0,cap,k1,k2,k3,k4,k5⟩:=(hr.rows l r hl).block e1
           have hS:cur.size=S:=by
             unfold iX at e3
             simp only[k1] at e3
             simpa using e3
           have hb:i*r.sz+n*r.sz≤cur.size:=by
             rw[k2,←Nat.add_mul]
             exact Nat.mul_le_mul_right _ (by omega)
           refine⟨(cur.toList.drop (i*r.sz)).take (n*r.sz),by rw[tq];simp;omega,by rw[tq];simp[Builtin.lenOf],?_,?_,?_,?_⟩
           · intro k hk w1 ku
             rw[tq] at hk
             have zW:=Nat.mul_le_mul_right r.sz hk
             refine run_firstCells_some (P:=K.P) w1 _ k ⟨g,i*r.sz,none⟩ n c0 _ (by simp;omega) (fun j v hj=> ?_)
             rw[addr_add]
             replace hj:((cur.toList.drop (i*r.sz)).take (n*r.sz))[j]?=some v:=by
               rw[List.getElem?_take] at hj
               split at hj
               · exact hj
               · simp at hj
             have kO:w.cell? ⟨g,i*r.sz+j,none⟩=some v:=by
               rw[cell_of_row w g _ cur e0 (0,0) k1]
               rw[List.getElem?_take] at hj
               split at hj
               · simpa using hj
               · simp at hj
             rcases ku with rfl|rfl
             · exact kO
             · simpa using kO
           · intro i' j cs y hi hj
             rw[List.getElem?_take] at hi
             split at hi
             · rename_i bz
               rw[List.getElem?_drop] at hi
               obtain⟨v,q1,q2⟩:=k5 _ j cs y hi hj
               have C1:j<r.sz:=by
                 have:=(hr.rows l r hl).2.1 cs (List.mem_of_getElem? hi)
                 have:=(List.getElem?_eq_some_iff.1 hj).1
                 omega
               refine⟨v,?_,q2⟩
               have la:i'*r.sz+j<n*r.sz:=by
                 have:=Nat.mul_le_mul_right r.sz (show i'+1≤n by omega)
                 rw[Nat.add_mul] at this;omega
               rw[List.getElem?_take,if_pos la,List.getElem?_drop,Array.getElem?_toList,←q1]
               congr 1
               rw[Nat.add_mul];omega
             · simp at hi
           · intro cs bx
             exact(hr.rows l r hl).2.1 cs (List.mem_of_mem_drop (List.mem_of_mem_take bx))
           · intro cs bx
             exact hr.cB l r hl cs (List.mem_of_mem_drop (List.mem_of_mem_take bx))
     · simp at hs
   · simp at hs
 · simp at hs
end
end Go.Am
