import Derived.Test.YtfinkeaikbmpgaaKT91
import Derived.Test.YtfinkeaikbmpgaaKT7
import Derived.Test.YtfinkeaikbmpgaaKB1
import Derived.Test.YtfinkeaikbmpgaaKT4
import Derived.Test.YtfinkeaikbmpgaaKAm27
import Derived.Test.YtfinkeaikbmpgaaKT8
import Derived.Test.YtfinkeaikbmpgaaKAm33
import Derived.Test.YtfinkeaikbmpgaaKS3
import Derived.Test.YtfinkeaikbmpgaaKAm40
import Derived.Test.YtfinkeaikbmpgaaKAm23
set_option linter.unusedSimpArgs false
set_option linter.unusedVariables false
set_option linter.unnecessarySimpa false
set_option linter.defProp false
/- Changes: the bench's steps, walked. -/
set_option pp.deepTerms false
set_option pp.deepTerms.threshold 5
namespace Go.Am
open Go Go.RowKit
theorem itemsO_len (l : List Op) (i : Nat) (y : Tree) : (itemsO l i y).length ≤ y.kids.length + 3 * wOps l + 1 := by
 unfold itemsO
 have hnd : (kidsN (i + 1) y.kids).Nodup := by
   have : ∀ (off : Nat) (xs : List Tree),(kidsN off xs).Nodup := by
     intro off xs
     induction xs generalizing off with
     | nil => simp [kidsN]
     | cons x r ih =>
       simp only [kidsN,List.nodup_cons]
       refine ⟨fun h => ?_,ih _⟩
       have := kidsN_ge _ _ off h
       have := x.cnt_pos
       omega
   exact this _ _
 have h1 := flat_len l (kidsN (i + 1) y.kids) hnd
 have h2 := cAt_le l fun o => decide (3 ≤ o.kind ∧ o.kind ≤ 6) && (kidsN (i + 1) y.kids).any fun k => decide (o.target = (k : Int))
 have h3 := cAt_le l fun o => o.kind == 1 && o.target == (i : Int)
 have h4 := cAt_le l fun o => o.kind == 2 && o.target == (i : Int)
 rw [← cAt_putIn] at h3 h4
 have h5 : (kidsN (i + 1) y.kids).length = y.kids.length := by
   have := congrArg List.length (kidsN_int (i + 1) y.kids)
   rw [List.length_map,kidsAt_len] at this; exact this
 split
 · simp
 · split
   · simp
   · simp only [List.length_append,news_len]; omega
theorem attrsO_ris {as : List Attr} (h : risA as = true) (l : List Op) (n : Nat) : risA (attrsO l n as) = true := by
 unfold attrsO
 induction l generalizing as with
 | nil => exact h
 | cons o r ih =>
   refine ih ?_
   unfold attrS; split
   · exact attrB_ris h o
   · exact h
theorem attrsO_len (as : List Attr) (l : List Op) (n : Nat) : (attrsO l n as).length ≤ as.length + l.length := by
 unfold attrsO
 induction l generalizing as with
 | nil => simp
 | cons o r ih =>
   have h1 := ih (as := attrS n as o)
   have h2 : (attrS n as o).length ≤ as.length + 1 := by
     unfold attrS; split
     · exact attrB_len as o
     · omega
   simp only [List.foldl_cons,List.length_cons]; omega
theorem len_wOps : ∀ l : List Op,l.length ≤ wOps l
 | [] => by simp
 | o :: r => by
   have := len_wOps r
   unfold wOps at this ⊢
   simp only [List.map_cons,List.sum_cons,List.length_cons,wOp]; omega
section
variable {P : Program} {G : Nat → Option (List IV)}
set_option maxHeartbeats 2000000 in
theorem cDo {f_change_bench_do f_change_bench_insert f_change_bench_place f_slices_Delete_int_int f_change_bench_value f_change_bench_attr : Nat} (hF : compF P G f_change_bench_do = some (194,[],(c_change_bench_do f_change_bench_insert f_change_bench_place f_slices_Delete_int_int f_change_bench_value f_change_bench_attr).bare))
   (hI : InsC P G f_change_bench_insert) (hPl : PlaceC P G f_change_bench_place) (hD : DelI P G f_slices_Delete_int_int) (hV : ValueC P G f_change_bench_value) (hAt : AttrC P G f_change_bench_attr)
   {t : Tree} {l : List Op} {b : Bn} {o : Op} (h : Ben t l b) (h0 : ∀ i q y,Sub 0 (-1) t i q y → y.text = true → y.kids = []) (hr : ∀ i q y,Sub 0 (-1) t i q y → risA y.attrs = true ∧ y.attrs.length ≤ 80 ∧ y.kids.length ≤ 80) (hs : StepOk t l o)
   (hb : b.nodes.length + 4 * wOps (l ++ [o]) + 200 ≤ B) :
   ShC P G f_change_bench_do [.ptr (.par 0) 3 0 0,o.av] (bSh b) [0,2,3] fun X R2 => X = (fun _ => .tup []) ∧ R2 = bSh (doB b o) := by
 obtain ⟨k,ta,co,na,st⟩ := o
 obtain ⟨n,q,y,hy,ht,k1,k10,c1,c2,c3,c4⟩ := hs.ex
 simp only at ht k1 k10 c1 c2 c3 c4
 subst ht
 have hw : wOps (l ++ [(⟨k,n,co,na,st⟩ : Op)]) = wOps l + (wtT co + st.length + 1) := by rw [wOps_app]; simp [wOps,wOp]
 rw [hw] at hb
 have hcl := wtT_len co
 have hBv : B = 1073741824 := rfl
 obtain ⟨ks,h1,h2⟩ := h.nd n q y hy
 have hrg := hy.rng
 have hcp := y.cnt_pos
 have hn : n < b.n0 := by rw [h.n0]; omega
 have hle := h.le
 have hn0 := h.n0
 obtain ⟨hra,hal,hkl⟩ := hr n q y hy
 have hkl2 := all2_len h2
 have hil := itemsO_len l n y
 have hlw := len_wOps l
 have hcase : k = 1 ∨ k = 2 ∨ (k = 3 ∨ k = 4 ∨ k = 5 ∨ k = 6) ∨ k = 7 ∨ k = 8 ∨ k = 9 ∨ k = 10 := by omega
 rcases hcase with rfl | rfl | hk | rfl | rfl | rfl | rfl
 · have hT := c1 (by omega)
   have hv := c3 (by omega)
   have hfn := h.fs.2 n (by omega)
   have hf0 : (b.fs.getD n 0).toNat = (putIn l 1 n).length := by rw [List.getD_eq_getElem?_getD,hfn]; simp
   have hd : doB b ⟨1,n,co,na,st⟩ = { b.ins n (putIn l 1 n).length co with fs := b.fs.set n (((putIn l 1 n).length + co.length : Nat) : Int) } := by
     unfold doB; simp only [Int.toNat_natCast,h1,if_true,hf0]
   rw [hd]
   have hfk : (putIn l 1 n).length ≤ ks.length := by
     rw [hkl2]; unfold itemsO; rw [hT,hv]; simp [news_len]
   exact cDo1 hF b hle n hn _ h1 co na st _ hfn hfk (by omega) (by simp only; omega) hI
 · have hd : doB b ⟨2,n,co,na,st⟩ = b.ins n ks.length co := by
     unfold doB; simp [h1]
   rw [hd]
   exact cDo2 hF b hle n hn _ h1 co na st (by omega) (by simp only; omega) hI
 · have hq := c2 (by omega)
   obtain ⟨B',hqm⟩ := beside h h0 hy hq
   have hr2 := B'.hz.rng
   have hcp2 := B'.z.cnt_pos
   have hm : B'.m < b.n0 := by rw [h.n0]; omega
   have hkd : b.kd B'.m = B'.ks := by rw [Bn.kd_some B'.nd]
   have hil2 := itemsO_len l B'.m B'.z
   have hbl := all2_len B'.rp
   have hzk := (hr _ _ _ B'.hz).2.2
   have key : k ≠ 5 → ∃ L : Nat,idxI B'.ks n = (L : Int) ∧ L < B'.ks.length ∧ L + 1 + (putIn l 4 n).length ≤ B'.ks.length := by
     intro h5
     obtain ⟨hv,h6,h5⟩ := c4 (by omega)
     rw [hqm,Int.toNat_natCast] at hv
     have hits := B'.items hv
     have hitK : itemK l n = news (putIn l 3 n) ++ .old n :: news (putIn l 4 n) := by unfold itemK; rw [h6,h5]; simp
     have hrp : All2 (Rp b) B'.ks ((B'.A ++ news (putIn l 3 n)) ++ .old n :: (news (putIn l 4 n) ++ B'.C)) := by
       have := B'.rp; rw [hits,hitK] at this
       simpa using this
     have hA : ∀ x ∈ B'.A ++ news (putIn l 3 n),isOld n x = false := by
       intro x hx
       rcases List.mem_append.1 hx with hx | hx
       · exact B'.A_old x hx
       · exact news_old n _ x hx
     obtain ⟨hidx,hlt⟩ := idx_old hn hrp hA
     refine ⟨_,hidx,hlt,?_⟩
     rw [all2_len hrp]
     simp [news_len]; omega
   have hk' : k = 3 ∨ k = 4 ∨ k = 5 ∨ k = 6 := hk
   have hpn : (q.toNat : Nat) = B'.m := by rw [hqm]; rfl
   rcases hk' with rfl | rfl | rfl | rfl
   · obtain ⟨L,hidx,hlt,_⟩ := key (by omega)
     have hd : doB b ⟨3,n,co,na,st⟩ = b.ins B'.m L co := by
       unfold doB; simp [h1,hpn,hkd,hidx]
     rw [hd]
     exact cDo3 hF b hle n hn _ h1 co na st B'.m hqm hm _ B'.nd (by simp only; omega) hPl L hidx (by simp only; omega) (by omega) (by simp only; omega) hI
   · obtain ⟨L,hidx,hlt,hl4⟩ := key (by omega)
     have han := h.as.2 n (by omega)
     have ha0 : (b.as.getD n 0).toNat = (putIn l 4 n).length := by rw [List.getD_eq_getElem?_getD,han]; simp
     have hd : doB b ⟨4,n,co,na,st⟩ = { b.ins B'.m (L + 1 + (putIn l 4 n).length) co with as := b.as.set n (((putIn l 4 n).length + co.length : Nat) : Int) } := by
       unfold doB; simp only [Int.toNat_natCast,h1,hpn,hkd,hidx,ha0]; rfl
     rw [hd]
     exact cDo4 hF b hle n hn _ h1 co na st B'.m hqm hm _ B'.nd (by simp only; omega) hPl L hidx _ han hl4 (by omega) (by simp only; omega) hI
   · by_cases hx : 0 ≤ idxI B'.ks n
     · obtain ⟨L,hL⟩ : ∃ L : Nat,idxI B'.ks n = (L : Int) := ⟨(idxI B'.ks n).toNat,by omega⟩
       have hlt : L < B'.ks.length := by
         unfold idxI at hL
         split at hL
         · rename_i k' hk'
           obtain ⟨h3,_⟩ := List.findIdx?_eq_some_iff_getElem.1 hk'
           omega
         · omega
       have hd : doB b ⟨5,n,co,na,st⟩ = b.del B'.m L := by
         unfold doB; simp [h1,hpn,hkd,hL]
       rw [hd]
       exact cDo5 hF b hle n hn _ h1 co na st B'.m hqm hm _ B'.nd (by simp only; omega) hPl L hL hlt hD
     · have hL : idxI B'.ks n = -1 := by
         unfold idxI at hx ⊢
         split at hx
         · omega
         · rfl
       have hd : doB b ⟨5,n,co,na,st⟩ = b := by
         unfold doB; simp [h1,hpn,hkd,hL]
       rw [hd]
       exact cDo5n hF b hle n hn _ h1 co na st B'.m hqm hm _ B'.nd (by simp only; omega) hPl hL
   · obtain ⟨L,hidx,hlt,_⟩ := key (by omega)
     have hd : doB b ⟨6,n,co,na,st⟩ = (b.del B'.m L).ins B'.m L co := by
       unfold doB; simp [h1,hpn,hkd,hidx]
     rw [hd]
     exact cDo6 hF b hle n hn _ h1 co na st B'.m hqm hm _ B'.nd (by simp only; omega) hPl L hidx hlt hD (by omega) (by simp only; omega) hI
 · have hd : doB b ⟨7,n,co,na,st⟩ = b.value n st := by unfold doB; simp [h1]
   rw [hd]
   exact cDo7 hF b hle n hn _ h1 co na st (by omega) hV
 · have hd : doB b ⟨8,n,co,na,st⟩ = b.name n na := by unfold doB; simp [h1]
   rw [hd]
   exact cDo8 hF b hle n hn _ h1 co na st
 · have hd : doB b ⟨9,n,co,na,st⟩ = b.attr n ⟨9,n,co,na,st⟩ := by unfold doB; simp [h1]
   rw [hd]
   have := attrsO_len y.attrs l n
   exact cDo9 hF b hle n hn _ h1 co na st (by simp only; omega) (attrsO_ris hra l n) hAt
 · have hd : doB b ⟨10,n,co,na,st⟩ = b.attr n ⟨10,n,co,na,st⟩ := by unfold doB; simp [h1]
   rw [hd]
   have := attrsO_len y.attrs l n
   exact cDo10 hF b hle n hn _ h1 co na st (by simp only; omega) (attrsO_ris hra l n) hAt
end
end Go.Am

/- Changes: what was checked may be done, in phases; how large all is. -/
namespace Go.Am
open Go Go.RowKit
theorem plain_len {s : Bs} (h : plain s = true) : s.length ≤ 40 := by unfold plain at h; simp at h; omega
theorem named_len {s : Bs} (h : named s = true) : 1 ≤ s.length ∧ s.length ≤ 8 := by unfold named at h; simp at h; omega
theorem attrs_wt : ∀ {as : List Attr},(∀ a ∈ as,named a.name = true ∧ plain a.val = true) → wtA as ≤ 49 * as.length
 | [],_ => by simp [wtA]
 | a :: r,h => by
   have h1 := h a (by simp)
   have h2 := attrs_wt (as := r) fun x hx => h x (by simp [hx])
   have := named_len h1.1
   have := plain_len h1.2
   simp only [wtA,Attr.wt,List.length_cons]; omega
mutual
theorem fine_wt : ∀ x : Tree,x.fine = true → x.wt ≤ 240 * x.cnt
 | .mk t s as ks,h => by
   simp only [Tree.fine] at h
   simp only [Tree.wt,Tree.cnt]
   cases t with
   | true =>
     simp only [if_true,Bool.and_eq_true,beq_iff_eq,List.length_eq_zero_iff] at h
     obtain ⟨h1,_,rfl,rfl⟩ := h
     have := plain_len h1
     simp [wtA,wtT,cntT]; omega
   | false =>
     simp only [Bool.false_eq_true,if_false,Bool.and_eq_true] at h
     obtain ⟨h1,h2,h3⟩ := h
     have h4 := named_len h1
     obtain ⟨g1,g2,g3⟩ := (goodAttrs_iff as).1 h2
     have h5 := attrs_wt g1
     have h6 := fines_wt none ks h3
     omega
theorem fines_wt : ∀ (p : Option Bool) (ks : List Tree),fines p ks = true → wtT ks ≤ 240 * cntT ks
 | _,[],_ => by simp [wtT]
 | p,x :: r,h => by
   simp only [fines,Bool.and_eq_true] at h
   have h1 := fine_wt x h.1
   have h2 := fines_wt _ r h.2.2
   simp only [wtT,cntT]; omega
end
theorem content_wt {l : List Tree} (h : content l = true) : wtT l ≤ 19200 := by
 unfold content at h
 simp only [Bool.and_eq_true,decide_eq_true_eq] at h
 have := fines_wt none l h.2.2
 have := h.2.1
 omega
theorem good_wt {x : Tree} (h : x.good = true) : x.wt ≤ 19200 := by
 obtain ⟨_,_,h1,h2⟩ := (good_iff x).1 h
 have := fine_wt x h2
 omega
structure OpOk (t : Tree) (o : Op) : Prop where
 ex : ∃ n q y,Sub 0 (-1) t n q y ∧ o.target = (n : Int) ∧ wrongF (y.node n q) o = 0
 k1 : 1 ≤ o.kind
 k10 : o.kind ≤ 10
theorem five_ifs {a b c d e : Bool} (h : (if a = true then (1 : Int) else if b = true then 1 else if c = true then 1 else if d = true then 6 else if e = true then 4 else 0) = 0) : a = false ∧ b = false ∧ c = false ∧ d = false ∧ e = false := by
 revert h
 cases a <;> cases b <;> cases c <;> cases d <;> cases e <;> simp
theorem wrong_zero {x : Node} {o : Op} (h : wrongF x o = 0) :
   (kC o.kind = true → content o.content = true) ∧ (kC o.kind = false → o.content = []) ∧ (kN o.kind = true → named o.name = true) ∧ (kN o.kind = false → o.name = []) ∧ (kT o.kind = true → plain o.s = true) ∧ (kT o.kind = false → o.s = []) ∧
   (kB o.kind = true → 0 ≤ x.parent) ∧ (x.text = true → kB o.kind = true ∨ o.kind = 7) := by
 unfold wrongF at h
 obtain ⟨h1,h2,h3,h4,h5⟩ := five_ifs h
 refine ⟨fun e => ?_,fun e => ?_,fun e => ?_,fun e => ?_,fun e => ?_,fun e => ?_,fun e => ?_,fun e => ?_⟩
 · simpa [e] using h1
 · simpa [e] using h1
 · simpa [e] using h2
 · simpa [e] using h2
 · simpa [e] using h3
 · simpa [e] using h3
 · simpa [e] using h4
 · cases hb : kB o.kind with
   | true => exact .inl rfl
   | false => right; simpa [e,hb] using h5
theorem OpOk.small {t : Tree} {o : Op} (h : OpOk t o) : wOp o + o.name.length ≤ 19300 := by
 obtain ⟨n,q,y,_,_,hw⟩ := h.ex
 obtain ⟨c1,c2,c3,c4,c5,c6,_⟩ := wrong_zero hw
 have h1 : wtT o.content ≤ 19200 := by
   cases hk : kC o.kind with
   | true => exact content_wt (c1 hk)
   | false => rw [c2 hk]; simp [wtT]
 have h2 : o.name.length ≤ 8 := by
   cases hk : kN o.kind with
   | true => exact (named_len (c3 hk)).2
   | false => rw [c4 hk]; simp
 have h3 : o.s.length ≤ 40 := by
   cases hk : kT o.kind with
   | true => exact plain_len (c5 hk)
   | false => rw [c6 hk]; simp
 unfold wOp; omega
theorem twice_pw : ∀ {pre l : List Op},twiceF pre l = false → l.Pairwise (fun a b => againstF b a = false) ∧ ∀ a ∈ l,∀ b ∈ pre,againstF a b = false
 | pre,[],_ => by simp
 | pre,a :: r,h => by
   simp only [twiceF,Bool.or_eq_false_iff] at h
   obtain ⟨h1,h2⟩ := twice_pw h.2
   have h3 : ∀ b ∈ pre,againstF a b = false := fun b hb => by simpa using List.any_eq_false.1 h.1 b hb
   refine ⟨List.pairwise_cons.2 ⟨fun b hb => h2 b hb a (by simp),h1⟩,fun x hx b hb => ?_⟩
   rcases List.mem_cons.1 hx with rfl | hx
   · exact h3 b hb
   · exact h2 x hx b (by simp [hb])
theorem pw_twice : ∀ {pre l : List Op},l.Pairwise (fun a b => againstF b a = false) → (∀ a ∈ l,∀ b ∈ pre,againstF a b = false) → twiceF pre l = false
 | pre,[],_,_ => rfl
 | pre,a :: r,h,h2 => by
   rw [List.pairwise_cons] at h
   simp only [twiceF,Bool.or_eq_false_iff]
   refine ⟨List.any_eq_false.2 fun b hb => by simp [h2 a (by simp) b hb],pw_twice h.2 fun x hx b hb => ?_⟩
   rcases List.mem_append.1 hb with hb | hb
   · exact h2 x (by simp [hx]) b hb
   · simp only [List.mem_singleton] at hb; subst hb; exact h.1 x hx
theorem against_symm (a b : Op) : againstF a b = againstF b a := by
 unfold againstF
 rw [Bool.eq_iff_iff]
 simp only [Bool.and_eq_true,Bool.or_eq_true,beq_iff_eq,decide_eq_true_eq]
 constructor
 · rintro ⟨h1,h2⟩
   refine ⟨h1.symm,?_⟩
   rcases h2 with ⟨⟨h3,h4⟩,h5⟩ | ⟨⟨h3,h4⟩,h5⟩
   · exact .inl ⟨⟨h4,h3⟩,h5.symm⟩
   · exact .inr ⟨⟨h3.symm,by omega⟩,by omega⟩
 · rintro ⟨h1,h2⟩
   refine ⟨h1.symm,?_⟩
   rcases h2 with ⟨⟨h3,h4⟩,h5⟩ | ⟨⟨h3,h4⟩,h5⟩
   · exact .inl ⟨⟨h4,h3⟩,h5.symm⟩
   · exact .inr ⟨⟨h3.symm,by omega⟩,by omega⟩
theorem good_of_zero {d : Doc} {o : Op} (h : goodOpF d o = 0) : isDoc d = true ∧ 1 ≤ o.kind ∧ o.kind ≤ 10 ∧ 0 ≤ o.target ∧ ∃ x,d[o.target.toNat]? = some x ∧ wrongF x o = 0 := by
 unfold goodOpF at h
 split at h
 · rename_i hd
   split at h
   · omega
   · split at h
     · omega
     · split at h
       · rename_i x hx; exact ⟨hd,by omega,by omega,by omega,x,hx,h⟩
       · omega
 · omega
theorem opOk_iff {t : Tree} (ht : t.good = true) (o : Op) : goodOpF (docOf t) o = 0 ↔ OpOk t o := by
 constructor
 · intro h
   obtain ⟨_,k1,k10,h0,x,hx,hw⟩ := good_of_zero h
   obtain ⟨q,y,hl,hs⟩ := lies_doc (List.getElem?_eq_some_iff.1 hx).1
   have : x = y.node o.target.toNat q := by rw [hl.node] at hx; exact (Option.some.inj hx).symm
   subst this
   exact ⟨⟨_,q,y,hs,by omega,hw⟩,k1,k10⟩
 · rintro ⟨⟨n,q,y,hs,ht',hw⟩,k1,k10⟩
   have hl := hs.lies (docOf t) ⟨[],by simp [docOf]⟩
   have hlt := (List.getElem?_eq_some_iff.1 hl.node).1
   unfold goodOpF
   rw [if_pos (isDoc_of ht),if_neg (by omega),if_neg (by omega),ht',Int.toNat_natCast,hl.node]
   exact hw
theorem check_zero {t : Tree} {l : List Op} (ht : t.good = true) : checkF (docOf t) l = 0 ↔ (∀ o ∈ l,OpOk t o) ∧ l.length ≤ 20 ∧ l.Pairwise (fun a b => againstF b a = false) := by
 unfold checkF
 rw [if_pos (isDoc_of ht)]
 constructor
 · intro h
   split at h
   · omega
   · rename_i hl
     split at h
     · rename_i o ho
       have := List.find?_some ho
       rw [h] at this; simp at this
     · rename_i ho
       split at h
       · omega
       · rename_i htw
         rw [List.find?_eq_none] at ho
         exact ⟨fun o hm => (opOk_iff ht o).1 (by simpa using ho o hm),by omega,(twice_pw (by simpa using htw)).1⟩
 · rintro ⟨h1,h2,h3⟩
   rw [if_neg (by omega),List.find?_eq_none.2 fun o ho => by simp [(opOk_iff ht o).2 (h1 o ho)]]
   simp only
   rw [pw_twice h3 (by simp)]; rfl
theorem check_doc {d : Doc} {l : List Op} (h : checkF d l = 0) : isDoc d = true := by
 unfold checkF at h
 split at h
 · assumption
 · omega
def txtAt (d : Doc) (n : Int) : Bool := match d[n.toNat]? with | some x => x.text | none => false
def phO (d : Doc) (o : Op) : Int := phaseF o.kind (txtAt d o.target)
theorem phase_rng (k : Int) (t : Bool) : 1 ≤ phaseF k t ∧ phaseF k t ≤ 5 := by
 unfold phaseF
 repeat' split
 all_goals omega
theorem txt_sub {t : Tree} {n : Nat} {q : Int} {y : Tree} (h : Sub 0 (-1) t n q y) : txtAt (docOf t) (n : Int) = y.text := by
 unfold txtAt
 rw [Int.toNat_natCast,(h.lies (docOf t) ⟨[],by simp [docOf]⟩).node]; rfl
theorem steps_ok {t : Tree} {l : List Op} (h1 : ∀ o ∈ l,OpOk t o) (h2 : l.Pairwise (fun a b => againstF b a = false)) (h0 : ∀ i q y,Sub 0 (-1) t i q y → y.text = true → y.kids = []) (p i : Nat) (pre : List Op) (o : Op) (post : List Op)
   (e : doneAt (phO (docOf t)) l p i = pre ++ o :: post) : StepOk t pre o := by
 obtain ⟨r,hr⟩ := doneAt_pre (phO (docOf t)) l p i
 rw [e] at hr
 have hsrt := pres_sorted (phO (docOf t)) l (p + 1)
 have hprm := pres_perm (phO (docOf t)) l (fun o _ => by have := (phase_rng o.kind (txtAt (docOf t) o.target)).1; unfold phO; omega) (p + 1)
 have hag : (pres (phO (docOf t)) l (p + 1)).Pairwise (fun a b => againstF b a = false) :=
   (hprm.pairwise_iff (fun {x y} hxy => by rw [against_symm]; exact hxy)).2 (h2.filter _)
 rw [hr,List.append_assoc,List.pairwise_append] at hsrt hag
 have hle : ∀ a ∈ pre,phO (docOf t) a ≤ phO (docOf t) o := fun a ha => hsrt.2.2 a ha o (by simp)
 have hna : ∀ a ∈ pre,againstF o a = false := fun a ha => hag.2.2 a ha o (by simp)
 have hmem : ∀ a ∈ pre,a ∈ l := fun a ha => (pres_mem (p := p + 1) (ph := phO (docOf t)) (by rw [hr]; simp [ha])).1
 have hol : o ∈ l := (pres_mem (p := p + 1) (ph := phO (docOf t)) (by rw [hr]; simp)).1
 obtain ⟨⟨n,q,y,hs,hot,hw⟩,k1,k10⟩ := h1 o hol
 obtain ⟨c1,c2,c3,c4,c5,c6,c7,c8⟩ := wrong_zero hw
 have hop : phO (docOf t) o = phaseF o.kind y.text := by unfold phO; rw [hot,txt_sub hs]
 have hno : ∀ (k : Int) (m : Nat) (r : Int) (z : Tree),Sub 0 (-1) t m r z → phaseF o.kind y.text < phaseF k z.text → hasK pre k m = false := by
   intro k m r z hz hlt
   cases hh : hasK pre k m with
   | false => rfl
   | true =>
     obtain ⟨a,ha,ha1,ha2⟩ := hasK_iff.1 hh
     have := hle a ha
     rw [hop] at this
     unfold phO at this
     rw [ha1,ha2,txt_sub hz] at this
     omega
 have hkB : 3 ≤ o.kind ∧ o.kind ≤ 6 → 0 ≤ q := fun hk => c7 (by unfold kB; simp [hk])
 have hx : o.kind = 1 ∨ o.kind = 2 ∨ 8 ≤ o.kind → y.text = false := by
   intro hk
   cases hT : y.text with
   | false => rfl
   | true =>
     rcases c8 hT with h | h
     · unfold kB at h; simp at h; omega
     · omega
 refine ⟨n,q,y,hs,hot,k1,k10,hx,hkB,fun hk => ?_,fun hk => ?_⟩
 · refine hno 7 n q y hs ?_
   rw [hx (by omega)]
   rcases hk with hk | hk <;> rw [hk] <;> decide
 · have hq := hkB (by omega)
   have hpar : ∃ r z,Sub 0 (-1) t q.toNat r z ∧ z.text = false := by
     rcases hs.parent' with ⟨_,e,_⟩ | ⟨m,z,r,a,c,e1,e2,e3,e4,e5⟩
     · omega
     · refine ⟨r,z,by rw [e1]; exact e2,?_⟩
       cases hT : z.text with
       | false => rfl
       | true => have := h0 m r z e2 hT; rw [e3] at this; simp at this
   obtain ⟨r',z,hz,hzt⟩ := hpar
   refine ⟨hno 7 _ r' z hz ?_,?_,hno 5 n q y hs ?_⟩
   · rw [hzt]; rcases hk with hk | hk | hk <;> rw [hk] <;> cases y.text <;> decide
   · rcases hk with hk | hk | hk
     · exact hno 6 n q y hs (by rw [hk]; cases y.text <;> decide)
     · exact hno 6 n q y hs (by rw [hk]; cases y.text <;> decide)
     · cases hh : hasK pre 6 n with
       | false => rfl
       | true =>
         obtain ⟨a,ha,ha1,ha2⟩ := hasK_iff.1 hh
         have := hna a ha
         unfold againstF at this
         simp [hk,ha1,hot,ha2] at this
   · rcases hk with hk | hk | hk <;> rw [hk] <;> cases y.text <;> decide
end Go.Am

/- Changes: Apply, as it is. -/
set_option pp.deepTerms false
set_option pp.deepTerms.threshold 5
namespace Go.Am
open Go Go.RowKit
def wOn (l : List Op) : Nat := (l.map fun o => wOp o + o.name.length).sum
theorem wOn_cons (o : Op) (l : List Op) : wOn (o :: l) = wOp o + o.name.length + wOn l := by simp [wOn]
theorem wOn_le : ∀ {l : List Op} {m : Nat},(∀ o ∈ l,wOp o + o.name.length ≤ m) → wOn l ≤ l.length * m
 | [],m,_ => by simp [wOn]
 | o :: r,m,h => by
   have h1 := h o (by simp)
   have h2 := wOn_le (l := r) (m := m) fun x hx => h x (by simp [hx])
   rw [wOn_cons,List.length_cons,Nat.add_mul]; omega
theorem wOn_mem : ∀ {l : List Op} {o : Op},o ∈ l → wOp o + o.name.length ≤ wOn l
 | a :: r,o,h => by
   rw [wOn_cons]
   rcases List.mem_cons.1 h with rfl | h
   · omega
   · have := wOn_mem h; omega
theorem wOps_wOn : ∀ l : List Op,wOps l ≤ wOn l
 | [] => by simp [wOps]
 | o :: r => by have := wOps_wOn r; rw [wOn_cons,show wOps (o :: r) = wOp o + wOps r by simp [wOps]]; omega
theorem putIn_wt (k : Int) (n : Nat) : ∀ l : List Op,wtT (putIn l k n) ≤ wOn l
 | [] => by simp [putIn,ofK,wtT]
 | o :: r => by
   have ih := putIn_wt k n r
   rw [wOn_cons]
   unfold putIn ofK at ih ⊢
   rw [List.filter_cons]
   split
   · rw [List.flatMap_cons,wtT_app]; unfold wOp; omega
   · omega
theorem valS_len (l : List Op) (n : Nat) (s : Bs) : (valS l n s).length ≤ s.length + wOn l := by
 unfold valS
 split
 · rename_i o ho
   have h1 := (List.mem_filter.1 (List.mem_of_getLast? ho)).1
   have := wOn_mem h1
   unfold wOp at this; omega
 · omega
theorem namS_len (l : List Op) (n : Nat) (s : Bs) : (namS l n s).length ≤ s.length + wOn l := by
 unfold namS
 split
 · rename_i o ho
   have h1 := (List.mem_filter.1 (List.mem_of_getLast? ho)).1
   have := wOn_mem h1
   omega
 · omega
theorem wtA_split (as : List Attr) (k : Nat) : wtA as = wtA (as.take k) + wtA (as.drop k) := by rw [← wtA_app,List.take_append_drop]
theorem wtA_drop1 : ∀ as : List Attr,wtA (as.drop 1) ≤ wtA as
 | [] => by simp
 | x :: r => by simp [wtA]
theorem attrB_wt (as : List Attr) (o : Op) : wtA (attrB as o) ≤ wtA as + (wOp o + o.name.length) := by
 have h1 := wtA_split as (posA as o.name)
 have h2 := wtA_drop1 (as.drop (posA as o.name))
 rw [List.drop_drop] at h2
 unfold attrB
 split
 · split
   · rw [wtA_app]; omega
   · omega
 · split
   · rw [List.set_eq_take_append_cons_drop]
     split
     · rw [wtA_app]; simp only [wtA,Attr.wt,wOp]; omega
     · omega
   · rw [wtA_app,wtA_app]; simp only [wtA,Attr.wt,wOp]; omega
theorem attrsO_wt (n : Nat) : ∀ (l : List Op) (as : List Attr),wtA (attrsO l n as) ≤ wtA as + wOn l
 | [],as => by simp [attrsO]
 | o :: r,as => by
   have ih := attrsO_wt n r (attrS n as o)
   have h1 : wtA (attrS n as o) ≤ wtA as + (wOp o + o.name.length) := by
     unfold attrS; split
     · exact attrB_wt as o
     · omega
   rw [wOn_cons]
   unfold attrsO at ih ⊢
   rw [List.foldl_cons]; omega
mutual
theorem turn_wt (l : List Op) : ∀ (x : Tree) (off : Nat),wtT (x.turn l off) + 8 * wOn l + 2 ≤ x.wt + x.cnt * (8 * wOn l + 2) + (8 * wOn l + 2)
 | .mk t s as ks,off => by
   have h1 := putIn_wt 3 off l
   have h2 := putIn_wt 6 off l
   have h3 := putIn_wt 4 off l
   have h4 := putIn_wt 1 off l
   have h5 := putIn_wt 2 off l
   have h6 := valS_len l off s
   have h7 := namS_len l off s
   have h8 := attrsO_wt off l as
   have h9 := turns_wt l ks (off + 1)
   have h10 := valS_len l off []
   simp only [Tree.turn,Tree.wt,Tree.cnt,wtT_app,Nat.add_mul,Nat.one_mul]
   split
   · omega
   · split
     · simp only [wtT]; omega
     · have e1 : (if t = true then valS l off s else namS l off s).length ≤ s.length + wOn l := by split <;> omega
       have e2 : wtT (if t = true then [] else if hasK l 7 off = true then [txt (valS l off [])] else putIn l 1 off ++ turns l (off + 1) ks ++ putIn l 2 off) ≤ wtT ks + cntT ks * (8 * wOn l + 2) + 2 * wOn l + 1 := by
         split
         · simp [wtT]
         · split
           · simp only [wtT,txt_wt,List.length_nil] at h10 ⊢; omega
           · rw [wtT_app,wtT_app]; omega
       simp only [wtT,Tree.wt]; omega
theorem turns_wt (l : List Op) : ∀ (xs : List Tree) (off : Nat),wtT (turns l off xs) ≤ wtT xs + cntT xs * (8 * wOn l + 2)
 | [],_ => by simp [turns,wtT]
 | x :: r,off => by
   have h1 := turn_wt l x off
   have h2 := turns_wt l r (off + x.cnt)
   simp only [turns,wtT_app,wtT,cntT,Nat.add_mul]; omega
end
theorem turn1_wt (l : List Op) (x : Tree) (off : Nat) : (x.turn1 l off).wt ≤ x.wt + x.cnt * (8 * wOn l + 2) := by
 have h4 := putIn_wt 1 off l
 have h5 := putIn_wt 2 off l
 have h6 := valS_len l off x.s
 have h7 := namS_len l off x.s
 have h8 := attrsO_wt off l x.attrs
 have h9 := turns_wt l x.kids (off + 1)
 have h10 := valS_len l off []
 have e1 : (if x.text = true then valS l off x.s else namS l off x.s).length ≤ x.s.length + wOn l := by split <;> omega
 have e2 : wtT (if x.text = true then [] else if hasK l 7 off = true then [txt (valS l off [])] else putIn l 1 off ++ turns l (off + 1) x.kids ++ putIn l 2 off) ≤ wtT x.kids + cntT x.kids * (8 * wOn l + 2) + 2 * wOn l + 1 := by
   split
   · simp [wtT]
   · split
     · simp only [wtT,txt_wt,List.length_nil] at h10 ⊢; omega
     · rw [wtT_app,wtT_app]; omega
 rw [x.wt_eq,x.cnt_eq]
 unfold Tree.turn1
 simp only [Tree.wt,Nat.add_mul,Nat.one_mul]; omega
mutual
theorem dep_le_cnt : ∀ x : Tree,x.dep ≤ x.cnt
 | .mk _ _ _ ks => by have := depT_le_cnt ks; simp only [Tree.dep,Tree.cnt]; omega
theorem depT_le_cnt : ∀ xs : List Tree,depT xs ≤ cntT xs
 | [] => by simp [depT]
 | x :: r => by have := dep_le_cnt x; have := depT_le_cnt r; simp only [depT,cntT]; omega
end
theorem wOps_filter (c : Op → Bool) : ∀ l : List Op,wOps (l.filter c) ≤ wOps l
 | [] => by simp
 | o :: r => by
   have ih := wOps_filter c r
   have e : ∀ (o : Op) r,wOps (o :: r) = wOp o + wOps r := fun o r => by simp [wOps]
   rw [List.filter_cons,e]
   split
   · rw [e]; omega
   · omega
def applyT (t : Tree) (l : List Op) : Tree := .mk (t.turn1 l 0).text (t.turn1 l 0).s (t.turn1 l 0).attrs (joined (t.turn1 l 0).kids)
noncomputable def applyF (d : Doc) (l : List Op) : Doc × Int :=
 if checkF d l = 0 then (let x := applyT (treeOfN d d.length 0) l; if x.good = true then (docOf x,0) else (d,2)) else (d,checkF d l)
theorem treeOfN_doc {t : Tree} (ht : t.good = true) : treeOfN (docOf t) (docOf t).length 0 = t := by
 refine treeOfN_sub _ 0 (-1) t (.self _ _ _) ?_
 have := t.cnt_pos
 rw [docOf_len]
 exact dep_le_cnt t
theorem applyF_doc {t : Tree} (ht : t.good = true) {l : List Op} (h : checkF (docOf t) l = 0) : applyF (docOf t) l = if (applyT t l).good = true then (docOf (applyT t l),0) else (docOf t,2) := by
 unfold applyF
 rw [if_pos h,treeOfN_doc ht]
section
variable {P : Program} {G : Nat → Option (List IV)}
theorem pApply {f_change_Apply f_change_Check f_slices_Clone_Attr_Attr f_slices_Clone_int_int f_change_phase f_change_bench_do f_change_bench_tree f_tree_Joined f_doc_Make f_change_bench_insert f_change_bench_place f_slices_Delete_int_int f_change_bench_value f_change_bench_attr : Nat}
   (hF : compF P G f_change_Apply = some (100,[((some (some 1)),4),(none,5)],(c_change_Apply f_change_Check f_slices_Clone_Attr_Attr f_slices_Clone_int_int f_change_phase f_change_bench_do f_change_bench_tree f_tree_Joined f_doc_Make).bare)) (hF2 : compF P G f_change_bench_do = some (194,[],(c_change_bench_do f_change_bench_insert f_change_bench_place f_slices_Delete_int_int f_change_bench_value f_change_bench_attr).bare)) (hF3 : compF P G f_change_bench_tree = some (40,[((some (some 4)),4)],(c_change_bench_tree f_change_bench_tree).bare))
   (hCA : ∀ xs : List Attr,xs.length ≤ B → OwnC P G f_slices_Clone_Attr_Attr [.list (ivA xs)] 2 (ivA xs)) (hCI : ∀ xs : List Int,xs.length ≤ B → OwnC P G f_slices_Clone_int_int [.list (xs.map intIV)] 1 (xs.map intIV))
   (hPh : ∀ k t,PureC P G f_change_phase [.int .i64 k,.bool t] (.int .i64 (phaseF k t)))
   (hI : InsC P G f_change_bench_insert) (hPl : PlaceC P G f_change_bench_place) (hD : DelI P G f_slices_Delete_int_int) (hV : ValueC P G f_change_bench_value) (hAt : AttrC P G f_change_bench_attr)
   (hJ : ∀ l : List Tree,wtT l ≤ B → PureC P G f_tree_Joined [.list (ivT l)] (.list (ivT (joined l))))
   (hM : ∀ x : Tree,x.wt ≤ B → PureC P G f_doc_Make [x.av] (.tup [Doc.av (makeD x).1,.int .i64 (makeD x).2]))
   (d : Doc) (l : List Op) (hl : l.length ≤ B) (hChk : PureC P G f_change_Check [Doc.av d,.list (l.map Op.iv)] (.int .i64 (checkF d l))) :
   PureC P G f_change_Apply [Doc.av d,.list (l.map Op.iv)] (.tup [Doc.av (applyF d l).1,.int .i64 (applyF d l).2]) := by
 have hBv : B = 1073741824 := rfl
 by_cases hc : checkF d l = 0
 case neg =>
   have := pApplyBad hF d l hChk hc
   unfold applyF
   rw [if_neg hc]; exact this
 obtain ⟨t,ht,rfl⟩ := isDoc_iff.1 (check_doc hc)
 obtain ⟨hop,hl20,hpw⟩ := (check_zero ht).1 hc
 obtain ⟨htx,hdep,hcnt,hfine⟩ := (good_iff t).1 ht
 have hlen : (docOf t).length = t.cnt := docOf_len t
 have h0 : ∀ i q y,Sub 0 (-1) t i q y → y.text = true → y.kids = [] := fun i q y hy hT => (Tree.fine_text (hy.fine hfine) hT).1
 have hr : ∀ i q y,Sub 0 (-1) t i q y → risA y.attrs = true ∧ y.attrs.length ≤ 80 ∧ y.kids.length ≤ 80 := by
   intro i q y hy
   have hyf := hy.fine hfine
   have hrg := hy.rng
   have hk : y.kids.length ≤ 80 := by
     have h1 := y.cnt_eq
     have h2 : y.kids.length ≤ cntT y.kids := by
       have : ∀ xs : List Tree,xs.length ≤ cntT xs := by
         intro xs
         induction xs with
         | nil => simp
         | cons x r ih => have := x.cnt_pos; simp only [cntT,List.length_cons]; omega
       exact this _
     omega
   cases hT : y.text with
   | true => rw [(Tree.fine_text hyf hT).2.1]; exact ⟨rfl,by simp,hk⟩
   | false =>
     rw [Tree.fine_e y hT] at hyf
     simp only [Bool.and_eq_true] at hyf
     obtain ⟨_,h2,h3⟩ := (goodAttrs_iff y.attrs).1 hyf.2.1
     exact ⟨h2,by omega,hk⟩
 have hwn : wOn l ≤ 386000 := by
   have h1 := wOn_le fun o ho => (hop o ho).small
   have h2 : l.length * 19300 ≤ 20 * 19300 := Nat.mul_le_mul_right _ hl20
   omega
 have hgw := good_wt ht
 obtain ⟨ph,hph⟩ : ∃ ph,ph = phO (docOf t) := ⟨_,rfl⟩
 have hsteps : ∀ p i pre o post,doneAt ph l p i = pre ++ o :: post → StepOk t pre o := by
   intro p i pre o post e; rw [hph] at e; exact steps_ok hop hpw h0 p i pre o post e
 have hall : ∀ p i,Ben t (doneAt ph l p i) ((doneAt ph l p i).foldl doB (bStart t)) ∧ ((doneAt ph l p i).foldl doB (bStart t)).nodes.length ≤ t.cnt + wOps (doneAt ph l p i) :=
   fun p i => ben_all h0 _ _ rfl (hsteps p i)
 have hrng : ∀ o : Op,1 ≤ ph o ∧ ph o ≤ 5 := fun o => by rw [hph]; exact phase_rng _ _
 have hwd : ∀ p i,wOps (doneAt ph l p i) ≤ 386000 := by
   intro p i
   obtain ⟨r,hr'⟩ := doneAt_pre ph l p i
   have h1 : wOps (pres ph l (p + 1)) ≤ wOps l := by
     rw [wOps_perm (pres_perm ph l (fun o _ => by have := (hrng o).1; omega) (p + 1))]
     exact wOps_filter _ l
   rw [hr',wOps_app] at h1
   have := wOps_wOn l
   omega
 have hal : Alike l (doneAt ph l 6 0) := by
   have hd6 : doneAt ph l 6 0 = pres ph l 6 := by simp [doneAt]
   refine ⟨fun k n => ?_,fun n => ?_⟩
   · rw [hd6]
     unfold ofK
     have hP := phase_rng k (txtAt (docOf t) n)
     rw [pres_filter _ (phaseF k (txtAt (docOf t) n)) (fun o _ h => ?_) 6,if_pos (by omega)]
     simp only [Bool.and_eq_true,beq_iff_eq] at h
     rw [hph]; unfold phO; rw [h.1,h.2]
   · rw [hd6,pres_filter _ 1 (fun o _ h => ?_) 6,if_pos (by omega)]
     unfold isAt at h
     simp only [decide_eq_true_eq] at h
     rw [hph]; unfold phO
     rcases h.2 with h | h <;> rw [h] <;> rfl
 have hx : t.turn1 (doneAt ph l 6 0) 0 = t.turn1 l 0 := hal.turn1 t 0
 have hrep := (hall 6 0).1.rep t.cnt 0 (-1) t (Nat.le_refl _) (.self _ _ _)
 rw [hx] at hrep
 have hxw : (t.turn1 l 0).wt ≤ B := by
   have h1 := turn1_wt l t 0
   have h2 : t.cnt * (8 * wOn l + 2) ≤ 80 * (8 * 386000 + 2) := Nat.mul_le_mul hcnt (by omega)
   omega
 have hkw : wtT (t.turn1 l 0).kids ≤ B := by have := (t.turn1 l 0).wt_eq; omega
 have hjw := wtT_joined (t.turn1 l 0).kids
 have hMw : (applyT t l).wt ≤ B := by
   have := (t.turn1 l 0).wt_eq
   unfold applyT; simp only [Tree.wt]; omega
 have hres : (.tup [Doc.av (applyF (docOf t) l).1,.int .i64 (applyF (docOf t) l).2] : AV) = if (makeD (applyT t l)).2 = 0 then .tup [Doc.av (makeD (applyT t l)).1,.int .i64 0] else .tup [Doc.av (docOf t),.int .i64 2] := by
   rw [applyF_doc ht hc]
   unfold makeD
   cases (applyT t l).good <;> simp
 rw [hres]
 have h20 : (2 : Nat) ^ 20 = 1048576 := by decide
 refine pApplyOk hF (docOf t) l (t.turn1 l 0) (fun p i => (doneAt ph l p i).foldl doB (bStart t)) (by rw [hlen,h20]; omega) hl hChk hc hCA hCI ?_ ?_ ?_ ?_ ?_ ?_ ?_ ?_ ?_ ?_ _ ?_
 · intro z hz
   obtain ⟨i,hi⟩ := List.getElem?_of_mem hz
   obtain ⟨q,y,hly,hs⟩ := lies_doc (List.getElem?_eq_some_iff.1 hi).1
   rw [hly.node] at hi
   cases hi
   obtain ⟨_,h2,h3⟩ := hr i q y hs
   refine ⟨by simp [Tree.node]; omega,?_⟩
   show (kidsAt (i + 1) y.kids).length ≤ B
   rw [kidsAt_len]; omega
 · show (doneAt ph l 1 0).foldl doB (bStart t) = bn0 (docOf t) (docOf t).length
   have : doneAt ph l 1 0 = [] := by
     simp only [doneAt,pres,List.take_zero,List.filter_nil,List.append_nil,List.nil_append]
     rw [List.filter_eq_nil_iff]
     intro o _ h
     have := (hrng o).1
     simp at h; omega
   rw [this,List.foldl_nil]
   unfold bn0 bStart zeros
   rw [hlen,List.take_of_length_le (by rw [hlen]; exact Nat.le_refl _)]
 · intro p i
   have := (hall p i).1.n0
   rw [hlen]; exact this
 · intro p; simp only [doneAt_turn]
 · have h1 := (hall 6 0).1.n0
   have h2 := (hall 6 0).1.le
   rw [hlen,← h1]; exact h2
 · intro o ho
   obtain ⟨n,q,y,hs,hot,_⟩ := (hop o ho).ex
   have hl' := (hs.lies (docOf t) ⟨[],by simp [docOf]⟩).node
   exact ⟨_,by omega,by rw [hot,Int.toNat_natCast]; exact hl',hPh _ _⟩
 · intro p i o z ho hz hne
   have : ph o ≠ (p : Int) := by rw [hph]; unfold phO txtAt; rw [hz]; exact hne
   simp only [doneAt_skip ho this]
 · intro p i o z ho hz he
   have he' : ph o = (p : Int) := by rw [hph]; unfold phO txtAt; rw [hz]; exact he
   have hst := hsteps p (i + 1) (doneAt ph l p i) o [] (doneAt_do ho he')
   have h1 := (hall p i).2
   have h2 := hwd p i
   have h3 := hwd p (i + 1)
   rw [doneAt_do ho he'] at h3
   have := cDo hF2 hI hPl hD hV hAt (hall p i).1 h0 hr hst (by omega)
   simp only [doneAt_do ho he',List.foldl_append,List.foldl_cons,List.foldl_nil]
   exact this
 · have h1 := (hall 6 0).2
   have h2 := hwd 6 0
   exact pBTree hF3 _ _ _ (by omega) _ _ (Nat.le_refl _) 0 hrep hxw
 · exact hJ _ hkw
 · exact hM _ hMw
end
end Go.Am

/- Changes: laws of what comes of them. -/
namespace Go.Am
open Go Go.RowKit
theorem turn1_of {l : List Op} {x y : Tree} {off : Nat} (h : x.turn l off = [y]) (h3 : putIn l 3 off = []) (h4 : putIn l 4 off = []) (h6 : hasK l 6 off = false) (h5 : hasK l 5 off = false) : x.turn1 l off = y := by
 rw [Tree.turn_eq,h3,h4,h6,h5] at h
 simpa using h
theorem applyF_ok {d : Doc} {l : List Op} (h : (applyF d l).2 = 0) : ∃ t,t.good = true ∧ d = docOf t ∧ checkF d l = 0 ∧ (applyT t l).good = true ∧ (applyF d l).1 = docOf (applyT t l) := by
 by_cases hc : checkF d l = 0
 · obtain ⟨t,ht,rfl⟩ := isDoc_iff.1 (check_doc hc)
   rw [applyF_doc ht hc] at h ⊢
   split at h
   · rename_i hg
     exact ⟨t,ht,rfl,hc,hg,by rw [if_pos hg]⟩
   · simp at h
 · unfold applyF at h
   rw [if_neg hc] at h
   exact absurd h hc
theorem applyF_bad {d : Doc} {l : List Op} (h : (applyF d l).2 ≠ 0) : (applyF d l).1 = d := by
 unfold applyF at h ⊢
 split at h
 · rename_i hc
   rw [if_pos hc]
   simp only at h ⊢
   split at h
   · simp at h
   · rename_i hg; rw [if_neg hg]
 · rename_i hc
   rw [if_neg hc]
structure Alike2 (l l' : List Op) : Prop where
 k : ∀ k n,ofK l' k n = ofK l k n
 a : ∀ n as,risA as = true → attrsO l' n as = attrsO l n as
theorem fine_ris {x : Tree} (h : x.fine = true) : risA x.attrs = true := by
 cases hT : x.text with
 | true => rw [(Tree.fine_text h hT).2.1]; rfl
 | false =>
   rw [Tree.fine_e x hT] at h
   simp only [Bool.and_eq_true] at h
   exact ((goodAttrs_iff x.attrs).1 h.2.1).2.1
section
variable {l l' : List Op} (h : Alike2 l l')
include h
theorem Alike2.putIn (k : Int) (n : Nat) : putIn l' k n = Am.putIn l k n := by unfold Am.putIn; rw [h.k]
theorem Alike2.hasK (k : Int) (n : Nat) : hasK l' k n = Am.hasK l k n := by unfold Am.hasK; rw [h.k]
theorem Alike2.valS (n : Nat) (s : Bs) : valS l' n s = Am.valS l n s := by unfold Am.valS; rw [h.k]
theorem Alike2.namS (n : Nat) (s : Bs) : namS l' n s = Am.namS l n s := by unfold Am.namS; rw [h.k]
end
mutual
theorem Alike2.turn {l l' : List Op} (h : Alike2 l l') : ∀ (x : Tree) (off : Nat),x.fine = true → x.turn l' off = x.turn l off
 | .mk t s as ks,off,hf => by
   have h1 := Alike2.turns h ks (off + 1) fun x hx => fines_mem (Tree.fine_kids hf) x hx
   have h2 := h.a off as (fine_ris hf)
   simp only [Tree.turn,h.putIn,h.hasK,h.valS,h.namS,h1,h2]
theorem Alike2.turns {l l' : List Op} (h : Alike2 l l') : ∀ (xs : List Tree) (off : Nat),(∀ x ∈ xs,x.fine = true) → turns l' off xs = turns l off xs
 | [],_,_ => by simp [Am.turns]
 | x :: r,off,hf => by simp only [Am.turns,Alike2.turn h x off (hf x (by simp)),Alike2.turns h r (off + x.cnt) fun z hz => hf z (by simp [hz])]
end
theorem Alike2.turn1 {l l' : List Op} (h : Alike2 l l') {x : Tree} (hf : x.fine = true) (off : Nat) : x.turn1 l' off = x.turn1 l off := by
 have h1 := Alike2.turns h x.kids (off + 1) fun z hz => fines_mem (Tree.fine_kids hf) z hz
 have h2 := h.a off x.attrs (fine_ris hf)
 unfold Tree.turn1
 simp only [h.putIn,h.hasK,h.valS,h.namS,h1,h2]
end Go.Am

/- The tree at a place, by parents. -/
namespace Go.Am
open Go Go.RowKit
def treeN (d : Doc) (n : Nat) : Tree := treeOfN d d.length n
end Go.Am

/- Paths: which nodes are meant. -/
namespace Go.Am
open Go Go.RowKit
structure Step where
 name : Bs
 n : Int
def Step.cs (x : Step) : List IV := [.str x.name,.int .i64 x.n]
def Step.iv (x : Step) : IV := .agg x.cs
def Step.av (x : Step) : AV := .agg [.str x.name,.int .i64 x.n]
def fitsN (text : Bool) (s : Bs) (name : Bs) : Bool := if name == [] || text then name == [] && text else name == [42] || name == s
def chosenF (d : Doc) (s : Step) : Nat → List Int → List Int
 | _,[] => []
 | k,n :: r => match d[n.toNat]? with
   | some x => if fitsN x.text x.s s.name then (if s.n = 0 ∨ s.n = ((k + 1 : Nat) : Int) then n :: chosenF d s (k + 1) r else chosenF d s (k + 1) r) else chosenF d s k r
   | none => chosenF d s k r
end Go.Am

/- Paths: chosen step by step, or node by node: the same. -/
namespace Go.Am
open Go Go.RowKit
section
variable {t : Tree}
theorem Sub.at {n : Nat} {q : Int} {y : Tree} (h : Sub 0 (-1) t n q y) : (docOf t)[n]? = some (y.node n q) := (h.lies _ ⟨[],by simp [docOf]⟩).node
end
end Go.Am

/- Paths: which nodes are meant. -/
namespace Go.Am
open Go Go.RowKit
theorem Step.cells_eq (x : Step) : x.iv.cells = x.cs := rfl
section
variable {P : Program} {G : Nat → Option (List IV)}
structure ChS (d : Doc) (s : Step) (l : List Int) where
 i : Nat
 k : Nat
 a : List Int
 hi : i ≤ l.length
 hk : k ≤ i
 ha : a.length ≤ i
 h : chosenF d s 0 l = a ++ chosenF d s k (l.drop i)
end
end Go.Am

/- Splitting, as strings.Split does it. -/
namespace Go.Am
open Go Go.RowKit
structure SplS (c : UInt8) (s : Bs) where
 i : Nat
 r : Bs
 hc : r.count c + i = s.count c
 hs : splitC c s = (splitC c s).take i ++ splitC c r
 hl : r.length ≤ s.length
end Go.Am

/- topiarykeep: what comes of changes is good; all at once. -/
set_option pp.deepTerms false
set_option pp.deepTerms.threshold 5
set_option maxRecDepth 20000
namespace Go.Am
open Go Go.RowKit
def opsB (l : List Op) : Prop := l.length ≤ 2 ^ 22 ∧ ∀ o ∈ l,wtT o.content ≤ 2 ^ 22 ∧ o.name.length ≤ 2 ^ 22 ∧ o.s.length ≤ 2 ^ 22
def ApplyC (P : Program) (G : Nat → Option (List IV)) (f : Nat) : Prop := ∀ (d : Doc) (l : List Op),wtN d ≤ 2 ^ 22 → opsB l → PureC P G f [Doc.av d,.list (l.map Op.iv)] (.tup [Doc.av (applyF d l).1,.int .i64 (applyF d l).2])
section
variable {P : Program} {G : Nat → Option (List IV)}
def docK : Doc := [⟨false,[97],[],-1,[1]⟩,⟨false,[98],[],0,[]⟩]
def opsK : List Op := [⟨3,1,[.mk false [99] [] []],[],[]⟩,⟨8,1,[],[101],[]⟩]
theorem changesK : applyF docK opsK = (docOf (.mk false [97] [] [.mk false [99] [] [],.mk false [101] [] []]),0) := by
 have ht : (Tree.mk false [97] [] [.mk false [98] [] []]).good = true := by decide
 have hs : Sub 0 (-1) (Tree.mk false [97] [] [.mk false [98] [] []]) 1 0 (.mk false [98] [] []) := .kid [] [] _ rfl (.self _ _ _)
 have hc : checkF (docOf (.mk false [97] [] [.mk false [98] [] []])) opsK = 0 := by
   refine (check_zero ht).2 ⟨?_,by decide,by unfold opsK; simp [againstF,attrK]⟩
   intro o ho
   simp only [opsK,List.mem_cons,List.not_mem_nil,or_false] at ho
   rcases ho with rfl | rfl
   · exact ⟨⟨1,0,_,hs,rfl,by decide⟩,by decide,by decide⟩
   · exact ⟨⟨1,0,_,hs,rfl,by decide⟩,by decide,by decide⟩
 have e : docK = docOf (.mk false [97] [] [.mk false [98] [] []]) := rfl
 rw [e,applyF_doc ht hc]
 have hT : applyT (.mk false [97] [] [.mk false [98] [] []]) opsK = .mk false [97] [] [.mk false [99] [] [],.mk false [101] [] []] := rfl
 rw [hT]
 rfl
def c_topiarykeep_changes (f_change_Apply : Nat) : AC :=
(.seq (.reg [⟨some 0,none,.mov (.c (.bool false))⟩]) (.seq (.reg [⟨some 4,none,.lits 1 1 [(.int .i64 0)] [(0,(.c (.int .i64 1)))]⟩,⟨some 5,none,(.bld [(.bool false),(.str []),.nil0,(.int .i64 0),.nil0] [(1,(1,(.c (.str [97])))),(3,(1,(.c (.int .i64 (-1))))),(4,(1,(.t 4)))])⟩,⟨some 6,none,(.bld [(.bool false),(.str []),.nil0,(.int .i64 0),.nil0] [(1,(1,(.c (.str [98])))),(3,(1,(.c (.int .i64 0))))])⟩,⟨some 7,none,.lits 2 5 [(.bool false),(.str []),.nil0,(.int .i64 0),.nil0] [(0,(.t 5)),(1,(.t 6))]⟩,⟨some 8,none,.bld [.nil0] [(0,(1,(.t 7)))]⟩,⟨some 1,none,.new [.nil0]⟩,⟨none,none,.store 1 (.t 1) (.t 8)⟩]) (.seq (.reg [⟨some 10,none,.load (some 1) (.t 1)⟩,⟨some 11,none,(.bld [(.bool false),(.str []),.nil0,.nil0] [(1,(1,(.c (.str [99]))))])⟩,⟨some 12,none,.lits 1 4 [(.bool false),(.str []),.nil0,.nil0] [(0,(.t 11))]⟩,⟨some 13,none,(.bld [(.int .i64 0),(.int .i64 0),.nil0,(.str []),(.str [])] [(0,(1,(.c (.int .i64 3)))),(1,(1,(.c (.int .i64 1)))),(2,(1,(.t 12)))])⟩,⟨some 14,none,(.bld [(.int .i64 0),(.int .i64 0),.nil0,(.str []),(.str [])] [(0,(1,(.c (.int .i64 8)))),(1,(1,(.c (.int .i64 1)))),(3,(1,(.c (.str [101]))))])⟩,⟨some 15,none,.lits 2 5 [(.int .i64 0),(.int .i64 0),.nil0,(.str []),(.str [])] [(0,(.t 13)),(1,(.t 14))]⟩,⟨some 16,none,.call f_change_Apply [(.t 10),(.t 15)]⟩,⟨some 9,none,.mov (.t 16)⟩,⟨some 17,none,.ext (.t 9) 0⟩,⟨some 18,none,.ext (.t 9) 1⟩,⟨some 2,none,.new [.nil0]⟩,⟨none,none,.store 1 (.t 2) (.t 17)⟩,⟨some 3,none,.mov (.t 18)⟩]) (.seq (.reg [⟨some 19,none,.mov (.t 3)⟩,⟨some 20,none,.bin .eql (.t 19) (.c (.int .i64 0))⟩,⟨some 21,none,.mov (.t 20)⟩,⟨some 22,(some (21,true)),(.fld (.t 2) 0)⟩,⟨some 23,(some (21,true)),(.load none (.t 22))⟩,⟨some 24,(some (21,true)),(.len (.t 23))⟩,⟨some 25,(some (21,true)),(.bin .eql (.t 24) (.c (.int .i64 3)))⟩,⟨some 26,none,.pick (.t 21) (.t 25) (.c (.bool false))⟩,⟨some 27,none,.mov (.t 26)⟩,⟨some 28,(some (27,true)),(.fld (.t 2) 0)⟩,⟨some 29,(some (27,true)),(.load none (.t 28))⟩,⟨some 30,(some (27,true)),(.ixa (.t 29) (.c (.int .i64 1)) 5)⟩,⟨some 31,(some (27,true)),(.fld (.t 30) 1)⟩,⟨some 32,(some (27,true)),(.load none (.t 31))⟩,⟨some 33,(some (27,true)),(.bin .eql (.t 32) (.c (.str [99])))⟩,⟨some 34,none,.pick (.t 27) (.t 33) (.c (.bool false))⟩,⟨some 35,none,.mov (.t 34)⟩,⟨some 36,(some (35,true)),(.fld (.t 2) 0)⟩,⟨some 37,(some (35,true)),(.load none (.t 36))⟩,⟨some 38,(some (35,true)),(.ixa (.t 37) (.c (.int .i64 2)) 5)⟩,⟨some 39,(some (35,true)),(.fld (.t 38) 1)⟩,⟨some 40,(some (35,true)),(.load none (.t 39))⟩,⟨some 41,(some (35,true)),(.bin .eql (.t 40) (.c (.str [101])))⟩,⟨some 42,none,.pick (.t 35) (.t 41) (.c (.bool false))⟩,⟨some 0,none,.mov (.t 42)⟩]) .ret))))
theorem pChanges {f_topiarykeep_changes f_change_Apply : Nat} (hF : compF P G f_topiarykeep_changes = some (43,[(none,0)],(c_topiarykeep_changes f_change_Apply).bare)) (hA : ApplyC P G f_change_Apply) : PureC P G f_topiarykeep_changes [] (.bool true) := by
 refine pure_of_go hF (by simp) (by simp [lbss,AV.lbs]) (by simp [AV.lbs]) ?_
 have h := hA docK opsK (by decide) ⟨by decide,by
   intro o ho
   simp only [opsK,List.mem_cons,List.not_mem_nil,or_false] at ho
   rcases ho with rfl | rfl <;> decide⟩
 rw [changesK] at h
 unfold c_topiarykeep_changes
 simp only [↓aX,mX,reduceCtorEq,Nat.reduceEqDiff,Nat.reduceLT,Nat.reduceLeDiff,Nat.reduceAdd,Nat.reduceMul,Int.reduceToNat,Int.reduceLE,Int.reduceLT,List.replicate,List.flatten_cons,List.flatten_nil,List.append_nil,List.length_append]
 refine callT_pure (h.of rfl) ?_
 have e : (Doc.av (docOf (.mk false [97] [] [.mk false [99] [] [],.mk false [101] [] []])) : AV) = .agg [.list [.agg [.bool false,.str [97],.list [],.int .i64 (-1),.list [.int .i64 1,.int .i64 2]],.agg [.bool false,.str [99],.list [],.int .i64 0,.list []],.agg [.bool false,.str [101],.list [],.int .i64 0,.list []]]] := rfl
 rw [e]
 have he : Elsz 5 [IV.agg [.bool false,.str [97],.list [],.int .i64 (-1),.list [.int .i64 1,.int .i64 2]],.agg [.bool false,.str [99],.list [],.int .i64 0,.list []],.agg [.bool false,.str [101],.list [],.int .i64 0,.list []]] := by simp [Elsz,IV.cells]
 simp only [↓aX,mX,reduceCtorEq,Nat.reduceEqDiff,Nat.reduceLT,Nat.reduceLeDiff,Nat.reduceAdd,Nat.reduceMul,Int.reduceToNat,Int.reduceLE,Int.reduceLT,Int.reduceBEq,show (((3 : Nat) : Int) == 3) = true from rfl,he]
end
end Go.Am
