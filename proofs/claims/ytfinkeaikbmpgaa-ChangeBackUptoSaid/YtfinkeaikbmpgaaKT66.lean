import Derived.Test.YtfinkeaikbmpgaaKAm49
import Derived.Test.YtfinkeaikbmpgaaKAm33
set_option linter.unusedSimpArgs false
set_option linter.unusedVariables false
set_option linter.unnecessarySimpa false
set_option linter.defProp false
/- Attributes sorted. -/
set_option pp.deepTerms false
set_option pp.deepTerms.threshold 5
namespace Go.Am
open Go Go.RowKit
def Attr.avA (a : Attr) : AV := .agg [.str a.name,.str a.val]
section
variable {P : Program} {G : Nat → Option (List IV)}
def c_internal_bytealg_CompareString (f_internal_bytealg_abigen_runtime_cmpstring : Nat) : AC :=
(.seq (.reg [⟨some 4,none,.mov (.c (.int .i64 0))⟩]) (.seq (.reg [⟨some 5,none,.mov (.t 0)⟩,⟨some 6,none,.mov (.t 1)⟩,⟨some 7,none,.callx f_internal_bytealg_abigen_runtime_cmpstring [(.t 5),(.t 6)]⟩,⟨some 4,none,.mov (.t 7)⟩]) .ret))
theorem pCmpString {f_internal_bytealg_CompareString f_internal_bytealg_abigen_runtime_cmpstring : Nat} (hF : compF P G f_internal_bytealg_CompareString = some (8,[(none,4)],(c_internal_bytealg_CompareString f_internal_bytealg_abigen_runtime_cmpstring).bare))
   (hX : ∀ (N : Nat) (s t : Bs) (H : Hp),ExtC ⟨P,G,N⟩ f_internal_bytealg_abigen_runtime_cmpstring [.str s,.str t] H (.int .i64 (Lib.compareBytes s t))) (s t : Bs) :
   PureC P G f_internal_bytealg_CompareString [.str s,.str t] (.int .i64 (Lib.compareBytes s t)) := by
 refine pure_of_go hF (by simp) (by simp [lbss,AV.lbs]) (by simp [AV.lbs]) ?_
 unfold c_internal_bytealg_CompareString
 simp only [↓aX,mX,reduceCtorEq,Nat.reduceEqDiff,Nat.reduceLT,Nat.reduceLeDiff,Nat.reduceAdd,Nat.reduceMul,Int.reduceToNat,Int.reduceLE,Int.reduceLT]
 refine exK_in (hX _ _ _ _) ?_
 simp only [↓aX,mX,reduceCtorEq,Nat.reduceEqDiff,Nat.reduceLT,Nat.reduceLeDiff,Nat.reduceAdd,Nat.reduceMul,Int.reduceToNat,Int.reduceLE,Int.reduceLT]
def c_strings_Compare (f_internal_bytealg_CompareString : Nat) : AC :=
(.seq (.reg [⟨some 4,none,.mov (.c (.int .i64 0))⟩]) (.seq (.reg [⟨some 5,none,.mov (.t 0)⟩,⟨some 6,none,.mov (.t 1)⟩,⟨some 7,none,.call f_internal_bytealg_CompareString [(.t 5),(.t 6)]⟩,⟨some 4,none,.mov (.t 7)⟩]) .ret))
theorem pCompare {f_strings_Compare f_internal_bytealg_CompareString : Nat} (hF : compF P G f_strings_Compare = some (8,[(none,4)],(c_strings_Compare f_internal_bytealg_CompareString).bare)) (s t : Bs) (hC : PureC P G f_internal_bytealg_CompareString [.str s,.str t] (.int .i64 (Lib.compareBytes s t))) :
   PureC P G f_strings_Compare [.str s,.str t] (.int .i64 (Lib.compareBytes s t)) := by
 refine pure_of_go hF (by simp) (by simp [lbss,AV.lbs]) (by simp [AV.lbs]) ?_
 unfold c_strings_Compare
 simp only [↓aX,mX,reduceCtorEq,Nat.reduceEqDiff,Nat.reduceLT,Nat.reduceLeDiff,Nat.reduceAdd,Nat.reduceMul,Int.reduceToNat,Int.reduceLE,Int.reduceLT]
 refine callT_pure hC ?_
 simp only [↓aX,mX,reduceCtorEq,Nat.reduceEqDiff,Nat.reduceLT,Nat.reduceLeDiff,Nat.reduceAdd,Nat.reduceMul,Int.reduceToNat,Int.reduceLE,Int.reduceLT]
theorem cmpB_neg : ∀ s t : Bs,decide (Lib.compareBytes s t < 0) = Op.bytesLess s t
 | [],[] => rfl
 | [],_ :: _ => rfl
 | _ :: _,[] => rfl
 | a :: as,b :: bs => by
   have ih := cmpB_neg as bs
   simp only [Lib.compareBytes,Op.bytesLess]
   by_cases h1 : a < b
   · simp [h1]
   · by_cases h2 : b < a
     · simp only [h1,h2,if_true,if_false]
       have : ¬ a = b := fun e => h1 (by rw [e] at h2; exact absurd h2 (u8_lt_irr _))
       simp_all
     · have h3 : a = b := (u8_tri a b).elim (fun h => absurd h h1) (fun h => h.elim id (fun h => absurd h h2))
       subst h3
       simp only [u8_lt_irr,if_false,ih]
       try simp
end
end Go.Am

/- Attributes: where a name stands among sorted ones. -/
set_option pp.deepTerms false
set_option pp.deepTerms.threshold 5
namespace Go.Am
open Go Go.RowKit
def posA (as : List Attr) (key : Bs) : Nat := (as.takeWhile fun a => Op.bytesLess a.name key).length
def hasA (as : List Attr) (key : Bs) : Bool := match as[posA as key]? with | some a => a.name == key | none => false
theorem posA_of {key : Bs} : ∀ {as : List Attr} {k : Nat},k ≤ as.length → (∀ j a,j < k → as[j]? = some a → Op.bytesLess a.name key = true) → (∀ a,as[k]? = some a → Op.bytesLess a.name key = false) → posA as key = k
 | [],k,h,_,_ => by simp at h; subst h; rfl
 | a :: r,0,_,_,h2 => by
   have := h2 a rfl
   simp [posA,List.takeWhile_cons,this]
 | a :: r,k + 1,h,h1,h2 => by
   have ha := h1 0 a (by omega) rfl
   have ih := posA_of (key := key) (as := r) (k := k) (by simpa using h) (fun j b hj hb => h1 (j + 1) b (by omega) (by simpa using hb)) (fun b hb => h2 b (by simpa using hb))
   simp only [posA] at ih
   simp [posA,List.takeWhile_cons,ha,ih]
theorem risA_get {as : List Attr} (h : risA as = true) : ∀ {i j : Nat} {a b : Attr},i < j → as[i]? = some a → as[j]? = some b → Op.bytesLess a.name b.name = true := by
 induction as with
 | nil => intro i j a b _ hi; simp at hi
 | cons x r ih =>
   intro i j a b hij hi hj
   cases j with
   | zero => omega
   | succ j =>
     simp only [List.getElem?_cons_succ] at hj
     cases i with
     | zero =>
       simp only [List.getElem?_cons_zero,Option.some.injEq] at hi
       subst hi
       exact risA_lt h b (List.mem_of_getElem? hj)
     | succ i => exact ih (risA_tail h) (Nat.lt_of_succ_lt_succ hij) (by simpa using hi) hj
section
variable {P : Program} {G : Nat → Option (List IV)}
def c_change_bench_attr_1 (f_strings_Compare : Nat) : AC :=
(.seq (.reg [⟨some 2,none,.box (.t 0)⟩,⟨some 4,none,.mov (.c (.int .i64 0))⟩]) (.seq (.reg [⟨some 5,none,.fld (.t 2) 0⟩,⟨some 6,none,.load none (.t 5)⟩,⟨some 7,none,.mov (.t 1)⟩,⟨some 8,none,.call f_strings_Compare [(.t 6),(.t 7)]⟩,⟨some 4,none,.mov (.t 8)⟩]) .ret))
theorem pCmpK {f_change_bench_attr_1 f_strings_Compare : Nat} (hF : compF P G f_change_bench_attr_1 = some (9,[(none,4)],(c_change_bench_attr_1 f_strings_Compare).bare)) (a : Attr) (s : Bs) (hC : PureC P G f_strings_Compare [.str a.name,.str s] (.int .i64 (Lib.compareBytes a.name s))) :
   PureC P G f_change_bench_attr_1 [a.avA,.str s] (.int .i64 (Lib.compareBytes a.name s)) := by
 refine pure_of_go hF (by simp) (by simp [lbss,AV.lbs,Attr.avA]) (by simp [AV.lbs]) ?_
 unfold c_change_bench_attr_1
 simp only [↓aX,mX,reduceCtorEq,Nat.reduceEqDiff,Nat.reduceLT,Nat.reduceLeDiff,Nat.reduceAdd,Nat.reduceMul,Int.reduceToNat,Int.reduceLE,Int.reduceLT,Attr.avA]
 refine callT_pure hC ?_
 simp only [↓aX,mX,reduceCtorEq,Nat.reduceEqDiff,Nat.reduceLT,Nat.reduceLeDiff,Nat.reduceAdd,Nat.reduceMul,Int.reduceToNat,Int.reduceLE,Int.reduceLT]
theorem cmp_zero : ∀ s t : Bs,(Lib.compareBytes s t == 0) = (s == t)
 | [],[] => rfl
 | [],_ :: _ => rfl
 | _ :: _,[] => rfl
 | a :: as,b :: bs => by
   have ih := cmp_zero as bs
   simp only [Lib.compareBytes]
   by_cases h1 : a < b
   · have : a ≠ b := fun e => by subst e; exact absurd h1 (u8_lt_irr _)
     simp [h1,this]
   · by_cases h2 : b < a
     · have : a ≠ b := fun e => by subst e; exact absurd h2 (u8_lt_irr _)
       simp [h1,h2,this]
     · have h3 : a = b := (u8_tri a b).elim (fun h => absurd h h1) (fun h => h.elim id (fun h => absurd h h2))
       subst h3
       simp [u8_lt_irr,ih]
def c_slices_BinarySearchFunc_Attr_Attr_string : AC :=
(.seq (.reg [⟨some 6,none,.mov (.c (.int .i64 0))⟩,⟨some 7,none,.mov (.c (.bool false))⟩]) (.seq (.reg [⟨some 12,none,.mov (.t 0)⟩,⟨some 13,none,.len (.t 12)⟩,⟨some 8,none,.mov (.t 13)⟩]) (.seq (.reg [⟨some 14,none,.mov (.t 8)⟩,⟨some 9,none,.mov (.c (.int .i64 0))⟩,⟨some 10,none,.mov (.t 14)⟩]) (.seq (.block 0 (.loop (.seq (.seq (.reg [⟨some 15,none,.mov (.t 9)⟩,⟨some 16,none,.mov (.t 10)⟩,⟨some 17,none,.bin .lss (.t 15) (.t 16)⟩]) (.cond (.t 17) .skip (.exit 0))) (.block 1 (.seq (.reg [⟨some 18,none,.mov (.t 9)⟩,⟨some 19,none,.mov (.t 10)⟩,⟨some 20,none,.bin .add (.t 18) (.t 19)⟩,⟨some 21,none,.cvi .u64 (.t 20)⟩,⟨some 22,none,.bin .shr (.t 21) (.c (.int .u64 1))⟩,⟨some 23,none,.cvi .i64 (.t 22)⟩,⟨some 11,none,.mov (.t 23)⟩]) (.seq (.reg [⟨some 24,none,.mov (.t 2)⟩,⟨some 25,none,.mov (.t 0)⟩,⟨some 26,none,.mov (.t 11)⟩,⟨some 27,none,.ixa (.t 25) (.t 26) 2⟩,⟨some 28,none,.load (some 2) (.t 27)⟩,⟨some 29,none,.mov (.t 1)⟩,⟨some 30,none,.callv (.t 24) [(.t 28),(.t 29)]⟩,⟨some 31,none,.bin .lss (.t 30) (.c (.int .i64 0))⟩]) (.cond (.t 31) (.reg [⟨some 32,none,.mov (.t 11)⟩,⟨some 33,none,.bin .add (.t 32) (.c (.int .i64 1))⟩,⟨some 9,none,.mov (.t 33)⟩]) (.reg [⟨some 34,none,.mov (.t 11)⟩,⟨some 10,none,.mov (.t 34)⟩])))))))) (.seq (.reg [⟨some 35,none,.mov (.t 9)⟩,⟨some 36,none,.mov (.t 9)⟩,⟨some 37,none,.mov (.t 8)⟩,⟨some 38,none,.bin .lss (.t 36) (.t 37)⟩,⟨some 39,none,.mov (.t 38)⟩,⟨some 40,(some (39,true)),(.mov (.t 2))⟩,⟨some 41,(some (39,true)),(.mov (.t 0))⟩,⟨some 42,(some (39,true)),(.mov (.t 9))⟩,⟨some 43,(some (39,true)),(.ixa (.t 41) (.t 42) 2)⟩,⟨some 44,(some (39,true)),(.load (some 2) (.t 43))⟩,⟨some 45,(some (39,true)),(.mov (.t 1))⟩,⟨some 46,(some (39,true)),(.callv (.t 40) [(.t 44),(.t 45)])⟩,⟨some 47,(some (39,true)),(.bin .eql (.t 46) (.c (.int .i64 0)))⟩,⟨some 48,none,.pick (.t 39) (.t 47) (.c (.bool false))⟩,⟨some 6,none,.mov (.t 35)⟩,⟨some 7,none,.mov (.t 48)⟩]) .ret)))))
structure BsS (as : List Attr) (key : Bs) where
 lo : Nat
 hi : Nat
 h1 : lo ≤ hi
 h2 : hi ≤ as.length
 h3 : ∀ j a,j < lo → as[j]? = some a → Op.bytesLess a.name key = true
 h4 : ∀ j a,hi ≤ j → as[j]? = some a → Op.bytesLess a.name key = false
theorem pBinSearch {f_slices_BinarySearchFunc_Attr_Attr_string fc : Nat} (hF : compF P G f_slices_BinarySearchFunc_Attr_Attr_string = some (49,[(none,6),(none,7)],c_slices_BinarySearchFunc_Attr_Attr_string.bare)) (as : List Attr) (key : Bs) (hx : as.length ≤ B) (hr : risA as = true) (hb : goBody P fc = true)
   (hC : ∀ a ∈ as,PureC P G fc [a.avA,.str key] (.int .i64 (Lib.compareBytes a.name key))) :
   PureC P G f_slices_BinarySearchFunc_Attr_Attr_string [.list (ivA as),.str key,.fn fc [] []] (.tup [.int .i64 (posA as key),.bool (hasA as key)]) := by
 refine pure_of_go hF (by simp) (by simp [lbss,AV.lbs]) (by simp [AV.lbs,lbss]) ?_
 unfold c_slices_BinarySearchFunc_Attr_Attr_string
 have hBv : B = 1073741824 := rfl
 simp only [↓aX,mX,reduceCtorEq,Nat.reduceEqDiff,Nat.reduceLT,Nat.reduceLeDiff,Nat.reduceAdd,Nat.reduceMul,Int.reduceToNat,Int.reduceLE,Int.reduceLT,ivA_len]
 refine loop_data (σ := BsS as key) (fun q => [(0,.list (ivA as)),(1,.str key),(2,.fn fc [] []),(8,.int .i64 as.length),(9,.int .i64 q.lo),(10,.int .i64 q.hi)]) (fun q => q.hi - q.lo)
   ⟨0,as.length,by omega,by omega,fun j a h => by omega,fun j a h ha => by rw [List.getElem?_eq_none (by omega)] at ha; cases ha⟩ (fun _ => rfl) ?_ ?_
 · exact ⟨by simp only [↓aX,mX,reduceCtorEq,Nat.reduceEqDiff,Nat.reduceLT,Nat.reduceLeDiff,Nat.reduceAdd,Nat.reduceMul,Int.reduceToNat,Int.reduceLE,Int.reduceLT],by repeat' constructor⟩
 · rintro ⟨lo,hi,h1,h2,h3,h4⟩
   simp only [↓aX,mX,reduceCtorEq,Nat.reduceEqDiff,Nat.reduceLT,Nat.reduceLeDiff,Nat.reduceAdd,Nat.reduceMul,Int.reduceToNat,Int.reduceLE,Int.reduceLT,ivA_len]
   by_cases hlt : lo < hi
   · rw [show decide ((lo : Int) < (hi : Int)) = true by simpa using hlt]
     obtain ⟨m,hm⟩ : ∃ m,m = (lo + hi) / 2 := ⟨_,rfl⟩
     have hw : IntKind.i64.wrap (IntKind.u64.wrap (IntKind.i64.wrap ((lo : Int) + (hi : Int))) / 2 ^ min 1 IntKind.u64.bits) = (m : Int) := by
       have h1 : IntKind.i64.wrap ((lo : Int) + (hi : Int)) = ((lo + hi : Nat) : Int) := by rw [wrap64 (by omega) (by omega)]; omega
       rw [h1]
       have h2 : IntKind.u64.wrap ((lo + hi : Nat) : Int) = ((lo + hi : Nat) : Int) := by rw [IntKind.wrap_u64]; omega
       have h3 : min 1 IntKind.u64.bits = 1 := by decide
       rw [h2,h3]
       have h4 : ((lo + hi : Nat) : Int) / 2 ^ 1 = (((lo + hi) / 2 : Nat) : Int) := by omega
       rw [h4,wrap64 (by omega) (by omega),hm]
     have hw5 : IntKind.i64.wrap ((m : Int) + 1) = ((m + 1 : Nat) : Int) := wrap64 (by omega) (by omega)
     obtain ⟨x,hx1⟩ : ∃ x,as[m]? = some x := ⟨_,List.getElem?_eq_getElem (by omega)⟩
     simp only [↓aX,mX,reduceCtorEq,Nat.reduceEqDiff,Nat.reduceLT,Nat.reduceLeDiff,Nat.reduceAdd,Nat.reduceMul,Int.reduceToNat,Int.reduceLE,Int.reduceLT,hw,ivA_get,hx1,Option.map_some,elszA,Attr.cells_eq,Attr.cs,a1_callv,cvK_fn,hb]
     refine callT_pure (hC x (List.mem_of_getElem? hx1)) ?_
     simp only [↓aX,mX,reduceCtorEq,Nat.reduceEqDiff,Nat.reduceLT,Nat.reduceLeDiff,Nat.reduceAdd,Nat.reduceMul,Int.reduceToNat,Int.reduceLE,Int.reduceLT,cmpB_neg]
     refine cK_b (fun h => ?_) (fun h => ?_)
     · simp only [↓aX,mX,reduceCtorEq,Nat.reduceEqDiff,Nat.reduceLT,Nat.reduceLeDiff,Nat.reduceAdd,Nat.reduceMul,Int.reduceToNat,Int.reduceLE,Int.reduceLT,hw5]
       refine ⟨⟨m + 1,hi,by omega,h2,fun j a hj ha => ?_,h4⟩,by simp only; omega,rfl,rfl⟩
       by_cases e : j = m
       · rw [e,hx1] at ha; cases ha; exact h
       · exact bl_tr (risA_get hr (by omega : j < m) ha hx1) h
     · simp only [↓aX,mX,reduceCtorEq,Nat.reduceEqDiff,Nat.reduceLT,Nat.reduceLeDiff,Nat.reduceAdd,Nat.reduceMul,Int.reduceToNat,Int.reduceLE,Int.reduceLT]
       refine ⟨⟨lo,m,by omega,by omega,h3,fun j a hj ha => ?_⟩,by simp only; omega,rfl,rfl⟩
       by_cases e : j = m
       · rw [e,hx1] at ha; cases ha; exact h
       · cases hq : Op.bytesLess a.name key with
         | false => rfl
         | true => rw [bl_tr (risA_get hr (by omega : m < j) hx1 ha) hq] at h; cases h
   · have he : lo = hi := by omega
     subst he
     have hp : posA as key = lo := posA_of h2 h3 (fun a ha => h4 lo a (Nat.le_refl _) ha)
     rw [show decide ((lo : Int) < (lo : Int)) = false by simp]
     simp only [↓aX,mX,reduceCtorEq,Nat.reduceEqDiff,Nat.reduceLT,Nat.reduceLeDiff,Nat.reduceAdd,Nat.reduceMul,Int.reduceToNat,Int.reduceLE,Int.reduceLT]
     refine gB_b (fun h => ?_) (fun h => ?_)
     · have hlt : lo < as.length := by simpa using h
       obtain ⟨x,hx1⟩ : ∃ x,as[lo]? = some x := ⟨_,List.getElem?_eq_getElem hlt⟩
       simp only [↓aX,mX,reduceCtorEq,Nat.reduceEqDiff,Nat.reduceLT,Nat.reduceLeDiff,Nat.reduceAdd,Nat.reduceMul,Int.reduceToNat,Int.reduceLE,Int.reduceLT,h,ivA_get,hx1,Option.map_some,elszA,Attr.cells_eq,Attr.cs,a1_callv,cvK_fn,hb]
       refine callT_pure (hC x (List.mem_of_getElem? hx1)) ?_
       simp only [↓aX,mX,reduceCtorEq,Nat.reduceEqDiff,Nat.reduceLT,Nat.reduceLeDiff,Nat.reduceAdd,Nat.reduceMul,Int.reduceToNat,Int.reduceLE,Int.reduceLT,h,cmp_zero,ret_r,resVs,resV,Option.some.injEq,exists_eq_left',oneV,hp,hasA,hx1]
     · simp only [↓aX,mX,reduceCtorEq,Nat.reduceEqDiff,Nat.reduceLT,Nat.reduceLeDiff,Nat.reduceAdd,Nat.reduceMul,Int.reduceToNat,Int.reduceLE,Int.reduceLT,h,ret_r,resVs,resV,Option.some.injEq,exists_eq_left',oneV,hp,hasA]
       rw [List.getElem?_eq_none (by simp at h; omega)]
end
end Go.Am

/- The bench: where a node stands; one tree more. -/
set_option pp.deepTerms false
set_option pp.deepTerms.threshold 5
namespace Go.Am
open Go Go.RowKit
theorem bNode_lt {n0 i : Nat} {lab : Nat → Lb} {x : Node} (h : i < n0) : bNode n0 lab i x = [.bool x.text,.str x.s,.sl (lab (4 + 2 * i)) 2 0 x.attrs.length,.int .i64 x.parent,.sl (lab (5 + 2 * i)) 1 0 x.kids.length] := by simp [bNode,h]
theorem bNode_ge {n0 i : Nat} {lab : Nat → Lb} {x : Node} (h : n0 ≤ i) : bNode n0 lab i x = [.bool x.text,.str x.s,.list (ivA x.attrs),.int .i64 x.parent,.list (x.kids.map intIV)] := by simp [bNode,Nat.not_lt.2 h]
def Bn.all (b : Bn) : List Nat := List.range (4 + 2 * b.n0)
theorem lent_all {H : Hp} {l : Lb} {sz n : Nat} {xs : List IV} (h : H l = .live ⟨sz,immE xs⟩) (hf : Flat xs) (hn : n = xs.length) : Lent H (.sl l sz 0 n) (.list xs) := by
 subst hn
 have := Lent.row l sz 0 xs.length xs h (by omega) hf
 simpa using this
section
variable {P : Program} {G : Nat → Option (List IV)}
def c_change_bench_place (f_slices_Index_int_int : Nat) : AC :=
(.seq (.reg [⟨some 4,none,.mov (.c (.int .i64 0))⟩,⟨some 5,none,.mov (.c (.int .i64 0))⟩]) (.seq (.reg [⟨some 7,none,.mov (.t 0)⟩,⟨some 8,none,.nchk (.t 7)⟩,⟨some 9,none,.fld (.t 8) 0⟩,⟨some 10,none,.load none (.t 9)⟩,⟨some 11,none,.mov (.t 1)⟩,⟨some 12,none,.ixa (.t 10) (.t 11) 5⟩,⟨some 13,none,.fld (.t 12) 3⟩,⟨some 14,none,.load none (.t 13)⟩,⟨some 6,none,.mov (.t 14)⟩]) (.seq (.reg [⟨some 15,none,.mov (.t 6)⟩,⟨some 16,none,.mov (.t 0)⟩,⟨some 17,none,.nchk (.t 16)⟩,⟨some 18,none,.fld (.t 17) 0⟩,⟨some 19,none,.load none (.t 18)⟩,⟨some 20,none,.mov (.t 6)⟩,⟨some 21,none,.ixa (.t 19) (.t 20) 5⟩,⟨some 22,none,.fld (.t 21) 4⟩,⟨some 23,none,.load none (.t 22)⟩,⟨some 24,none,.mov (.t 1)⟩,⟨some 25,none,.call f_slices_Index_int_int [(.t 23),(.t 24)]⟩,⟨some 4,none,.mov (.t 15)⟩,⟨some 5,none,.mov (.t 25)⟩]) .ret)))
theorem cPlace {f_change_bench_place f_slices_Index_int_int : Nat} (hF : compF P G f_change_bench_place = some (26,[(none,4),(none,5)],(c_change_bench_place f_slices_Index_int_int).bare)) (b : Bn) (n p : Nat) (x y : Node) (hx : b.nodes[n]? = some x) (hp : x.parent = p) (hy : b.nodes[p]? = some y) (hpn : p < b.n0)
   (hI : PureC P G f_slices_Index_int_int [.list (y.kids.map intIV),.int .i64 n] (.int .i64 (idxI y.kids n))) :
   ShC P G f_change_bench_place [.ptr (.par 0) 3 0 0,.int .i64 n] (bSh b) b.all fun X R2 => X = (fun _ => .tup [.int .i64 p,.int .i64 (idxI y.kids n)]) ∧ R2 = bSh b := by
 refine sh_of_go hF (by simp) (by simp [lbss,AV.lbs,bSh_ok]; omega) ?_
 have hA : BnAt Lb.par b (inS (bSh b)) := inS_at _
 obtain ⟨hn1,-⟩ := List.getElem?_eq_some_iff.1 hx
 obtain ⟨hn2,-⟩ := List.getElem?_eq_some_iff.1 hy
 unfold c_change_bench_place
 simp only [↓aX,mX,reduceCtorEq,Nat.reduceEqDiff,Nat.reduceLT,Nat.reduceLeDiff,Nat.reduceAdd,Nat.reduceMul,Int.reduceToNat,Int.reduceLE,Int.reduceLT,hA.s,hA.n,Int.natCast_nonneg,Int.toNat_natCast,hn1,hn2,and_self,true_and,Nat.zero_add,hA.get hx,hA.get hy,bNode_lt hpn]
 simp only [↓aX,mX,reduceCtorEq,Nat.reduceEqDiff,Nat.reduceLT,Nat.reduceLeDiff,Nat.reduceAdd,Nat.reduceMul,Int.reduceToNat,Int.reduceLE,Int.reduceLT,bNode,hA.s,hA.n,Int.natCast_nonneg,Int.toNat_natCast,hn1,hn2,and_self,true_and,Nat.zero_add,hA.get hx,hA.get hy,bNode_lt hpn,hp]
 rw [if_pos hpn]
 refine callT_lend hI (.cons (lent_all (hA.kd hpn hy) (flatI _) (by simp)) (.cons (.same _) .nil)) rfl ?_
 simp only [↓aX,mX,reduceCtorEq,Nat.reduceEqDiff,Nat.reduceLT,Nat.reduceLeDiff,Nat.reduceAdd,Nat.reduceMul,Int.reduceToNat,Int.reduceLE,Int.reduceLT,ret_r,resVs,resV,Option.some.injEq,exists_eq_left',oneV]
 refine ⟨⟨(fun _ => .tup [.int .i64 p,.int .i64 (idxI y.kids n)]),bSh b,Lb.par⟩,⟨rfl,rfl⟩,fun ρ => by simp [ren,rens],by simp [AV.lbs,lbss],rfl,hA,fun _ _ => rfl⟩
def c_change_bench_add (f_slices_Clone_Attr_Attr f_change_bench_add : Nat) : AC :=
(.seq (.reg [⟨some 4,none,.box (.t 1)⟩,⟨some 6,none,.mov (.c (.int .i64 0))⟩]) (.seq (.reg [⟨some 11,none,.mov (.t 0)⟩,⟨some 12,none,.nchk (.t 11)⟩,⟨some 13,none,.fld (.t 12) 0⟩,⟨some 14,none,.load none (.t 13)⟩,⟨some 15,none,.len (.t 14)⟩,⟨some 7,none,.mov (.t 15)⟩]) (.seq (.dreg [⟨some 16,none,.mov (.t 0)⟩,⟨some 17,none,.mov (.t 0)⟩,⟨some 18,none,.nchk (.t 17)⟩,⟨some 19,none,.fld (.t 18) 0⟩,⟨some 20,none,.load none (.t 19)⟩,⟨some 21,none,.fld (.t 4) 0⟩,⟨some 22,none,.load none (.t 21)⟩,⟨some 23,none,.fld (.t 4) 1⟩,⟨some 24,none,.load none (.t 23)⟩,⟨some 25,none,.fld (.t 4) 2⟩,⟨some 26,none,.load none (.t 25)⟩,⟨some 27,none,.call f_slices_Clone_Attr_Attr [(.t 26)]⟩,⟨some 28,none,.mov (.t 2)⟩,⟨some 29,none,.bld [(.bool false),(.str []),.nil0,(.int .i64 0),.nil0] [(0,(1,(.t 22))),(1,(1,(.t 24))),(2,(1,(.t 27))),(3,(1,(.t 28)))]⟩,⟨some 30,none,.lits 1 5 [(.bool false),(.str []),.nil0,(.int .i64 0),.nil0] [(0,(.t 29))]⟩,⟨some 31,none,.app (.t 20) (.t 30) 5 80⟩,⟨some 32,none,.nchk (.t 16)⟩,⟨some 33,none,.fld (.t 32) 0⟩,⟨none,none,.store 1 (.t 33) (.t 31)⟩] [[],[],[1],[2],[3],[],[5],[],[7],[],[9],[10],[],[6,8,11,12],[13],[4,14,11],[0,0,1,2,3,4,5,6,7,8,9,10,11,12,13,14,15],[16,0,1,2,3,4,5,6,7,8,9,10,11,12,13,14,15],[17,15,15,0,1,2,3,4,5,6,7,8,9,10,11,12,13,14,15]] [.no,.no,.no,.no,(.rw [(.par 0)] []),.no,.rw [.loc 4] [],.no,.rw [.loc 4] [],.no,.rw [.loc 4] [],.no,.no,.no,.no,(.rw [] [(.par 1),(.gen 31)]),.no,.no,(.rw [] [(.par 0)])]) (.seq (.reg [⟨some 8,none,.mov (.c .nil0)⟩]) (.gh (.own 8 1) (.seq (.seq (.reg [⟨some 34,none,.fld (.t 4) 3⟩,⟨some 35,none,.load none (.t 34)⟩,⟨some 36,none,.len (.t 35)⟩,⟨some 37,none,.mov (.c (.int .i64 0))⟩]) (.block 0 (.loop (.seq (.reg [⟨some 38,none,.bin .lss (.t 37) (.t 36)⟩]) (.seq (.cond (.t 38) .skip (.exit 0)) (.seq (.block 1 (.seq (.reg [⟨some 39,none,.ixa (.t 35) (.t 37) 4⟩,⟨some 40,none,.load (some 4) (.t 39)⟩,⟨some 10,none,.new [(.bool false),(.str []),.nil0,.nil0]⟩,⟨none,none,.store 4 (.t 10) (.t 40)⟩]) (.reg [⟨some 41,none,.mov (.t 8)⟩,⟨some 42,none,.mov (.t 0)⟩,⟨some 43,none,.load (some 4) (.t 10)⟩,⟨some 44,none,.mov (.t 7)⟩,⟨some 45,none,.call f_change_bench_add [(.t 42),(.t 43),(.t 44)]⟩,⟨some 46,none,.lits 1 1 [(.int .i64 0)] [(0,(.t 45))]⟩,⟨some 47,none,.app (.t 41) (.t 46) 1 8⟩,⟨some 8,none,.mov (.t 47)⟩]))) (.reg [⟨some 48,none,.bin .add (.t 37) (.c (.int .i64 1))⟩,⟨some 37,none,.mov (.t 48)⟩]))))))) (.gh (.frz (.loc 8) 8) (.seq (.reg [⟨some 49,none,.mov (.t 0)⟩,⟨some 50,none,.nchk (.t 49)⟩,⟨some 51,none,.fld (.t 50) 0⟩,⟨some 52,none,.load none (.t 51)⟩,⟨some 53,none,.mov (.t 7)⟩,⟨some 54,none,.mov (.t 8)⟩,⟨some 55,none,.ixa (.t 52) (.t 53) 5⟩,⟨some 56,none,.fld (.t 55) 4⟩,⟨none,none,.store 1 (.t 56) (.t 54)⟩]) (.seq (.reg [⟨some 57,none,.mov (.t 7)⟩,⟨some 6,none,.mov (.t 57)⟩]) .ret)))))))))
def Bn.add (b : Bn) (t : Tree) (p : Int) : Bn := { b with nodes := b.nodes ++ t.flat b.nodes.length p }
def Bn.addI (b : Bn) (t : Tree) (p : Int) (i : Nat) : Bn := { b with nodes := b.nodes ++ ⟨t.text,t.s,t.attrs,p,[]⟩ :: flats (b.nodes.length + 1) b.nodes.length (t.kids.take i) }
def Bn.but (b : Bn) (p : Nat) : List Nat := (List.range (4 + 2 * b.n0)).filter (· ≠ p)
theorem but_mem {b : Bn} {p q : Nat} : q ∈ b.but p ↔ q < 4 + 2 * b.n0 ∧ q ≠ p := by simp [Bn.but]
def lab1 (N : Lb) : Nat → Lb := fun p => if p = 1 then N else .par p
theorem lab1_inj {N : Lb} (h : ∀ p,p ≠ 1 → N ≠ .par p) {p q : Nat} (e : lab1 N p = lab1 N q) : p = q := by
 unfold lab1 at e
 split at e <;> split at e
 · omega
 · exact absurd e (h _ (by omega))
 · exact absurd e.symm (h _ (by omega))
 · simpa using e
structure AddS (t : Tree) where
 i : Nat
 hi : i ≤ t.kids.length
def addPs (b : Bn) (t : Tree) (q : AddS t) : List (Nat × AV) :=
 [(0,.ptr (.par 0) 3 0 0),(7,.int .i64 b.nodes.length),(8,.sl (.loc 8) 1 0 q.i),(35,.list (ivT t.kids)),(36,.int .i64 t.kids.length),(37,.int .i64 q.i)]
def addRs (b : Bn) (t : Tree) (q : AddS t) : List (Lb × Row) :=
 [(.loc 8,⟨1,immE ((kidsAt (b.nodes.length + 1) (t.kids.take q.i)).map intIV)⟩)]
theorem ShAt.upd' {lab : Nat → Lb} {R : Shp} {H : Hp} (h : ShAt lab R H) {q : Lb} {s : Slot} (hq : ∀ p,R.ok p → lab p ≠ q) : ShAt lab R (upd H q s) :=
 ⟨fun p r hr => by rw [upd_ne _ _ (hq p ((R.ok_iff lab p).1 (by rw [hr]; rfl)))]; exact h.row p r hr,h.inj⟩
theorem cAdd1 {f_change_bench_add f_slices_Clone_Attr_Attr : Nat} (hF : compF P G f_change_bench_add = some (58,[(none,6)],(c_change_bench_add f_slices_Clone_Attr_Attr f_change_bench_add).bare)) (b : Bn) (hn : b.n0 ≤ b.nodes.length) (t : Tree) (p : Int) (hb : b.nodes.length + t.wt ≤ B)
   (hC : PureC P G f_slices_Clone_Attr_Attr [.list (ivA t.attrs)] (.list (ivA t.attrs)))
   (hR : ∀ (b' : Bn) (k : Tree),k ∈ t.kids → b'.n0 = b.n0 → b.n0 ≤ b'.nodes.length → b'.nodes.length + k.wt ≤ B → ShC P G f_change_bench_add [.ptr (.par 0) 3 0 0,k.av,.int .i64 b.nodes.length] (bSh b') (b.but 1) fun X R2 => X = (fun _ => .int .i64 b'.nodes.length) ∧ R2 = bSh (b'.add k b.nodes.length)) :
   ShC P G f_change_bench_add [.ptr (.par 0) 3 0 0,t.av,.int .i64 p] (bSh b) (b.but 1) fun X R2 => X = (fun _ => .int .i64 b.nodes.length) ∧ R2 = bSh (b.add t p) := by
 refine sh_of_go hF (by simp) (by simp [lbss,AV.lbs,bSh_ok,Tree.av]; omega) ?_
 have hA : BnAt Lb.par b (inS (bSh b)) := inS_at _
 have hU : ∀ q : Lb,(∀ p,p < 4 + 2 * b.n0 → q ≠ .par p) → inS (bSh b) q = .unused := fun q hq => shH_ne _ fun p hp e => hq p (bSh_ok.1 hp) e.symm
 have h4 : inS (bSh b) (.loc 4) = .unused := hU _ (by simp)
 have h8 : inS (bSh b) (.loc 8) = .unused := hU _ (by simp)
 have hg : inS (bSh b) (.gen 31) = .unused := hU _ (by simp)
 have hwt := t.wt_eq
 have hkl := wtT_len t.kids
 have hBv : B = 1073741824 := rfl
 unfold c_change_bench_add
 simp only [↓aX,mX,reduceCtorEq,Nat.reduceEqDiff,Nat.reduceLT,Nat.reduceLeDiff,Nat.reduceAdd,Nat.reduceMul,Int.reduceToNat,Int.reduceLE,Int.reduceLT,Tree.av,hA.s,hA.n,h4,List.length_mapIdx]
 refine ⟨rfl,?_⟩
 refine puK_in hC ?_
 simp only [↓aX,mX,reduceCtorEq,Nat.reduceEqDiff,Nat.reduceLT,Nat.reduceLeDiff,Nat.reduceAdd,Nat.reduceMul,Int.reduceToNat,Int.reduceLE,Int.reduceLT,Tree.av,hA.s,hA.n,h4]
 rw [app_sl (l := .par 1) (els := b.nodes.mapIdx (bNode b.n0 Lb.par)) (xs := [.agg [.bool t.text,.str t.s,.list (ivA t.attrs),.int .i64 p,.list []]]) (by simp [upd_at,hA.n]) (by simp) (by simp [Elsz,IV.cells]) (by simp [Flat,IV.cells]) (by simp; omega) (by decide) (by simp [Lb.app,Lb.fresh]) (by simp [Lb.app,Lb.fresh,upd_at,hg])]
 simp only [↓aX,mX,reduceCtorEq,Nat.reduceEqDiff,Nat.reduceLT,Nat.reduceLeDiff,Nat.reduceAdd,Nat.reduceMul,Int.reduceToNat,Int.reduceLE,Int.reduceLT,hA.s,h8,h4]
 refine ⟨by rintro l (rfl | rfl) <;> simp [Lb.fam],?_⟩
 have hPush : ∀ H2 : Hp,H2 (.par 0) = .live ⟨3,[[.sl (.gen 31) 5 0 (b.nodes.length + 1),.sl (.par 2) 1 0 b.fs.length,.sl (.par 3) 1 0 b.as.length]]⟩ →
     H2 (.gen 31) = .live ⟨5,b.nodes.mapIdx (bNode b.n0 Lb.par) ++ [[.bool t.text,.str t.s,.list (ivA t.attrs),.int .i64 p,.list []]]⟩ → (∀ q,q ≠ .par 0 → q ≠ .par 1 → q ≠ .gen 31 → q ≠ .loc 4 → q ≠ .loc 8 → H2 q = inS (bSh b) q) →
     BnAt (lab1 (.gen 31)) (b.addI t p 0) H2 := by
   intro H2 e0 e1 e2
   have := BnAt.push (H2 := fun q => if q = .loc 4 ∨ q = .loc 8 then inS (bSh b) q else H2 q) hA (y := ⟨t.text,t.s,t.attrs,p,[]⟩) (N := .gen 31) hn (.inr (by simp)) (by simp [e0]) (by simp [e1]) (by
     intro q g1 g2 g3
     by_cases g4 : q = .loc 4 ∨ q = .loc 8
     · simp [g4]
     · simp only [g4,if_false]; exact e2 q g1 g2 g3 (fun e => g4 (.inl e)) (fun e => g4 (.inr e)))
   refine ⟨fun q r hr => ?_,this.inj⟩
   have h1 := this.row q r hr
   have h2 : ¬ (lab1 (.gen 31) q = .loc 4 ∨ lab1 (.gen 31) q = .loc 8) := by unfold lab1; split <;> simp
   exact (if_neg h2).symm.trans h1
 have hok : ∀ q : AddS t,∀ p',(bSh (b.addI t p q.i)).ok p' ↔ p' < 4 + 2 * b.n0 := fun q p' => bSh_ok
 have hi1 : ∀ p',p' ≠ 1 → Lb.gen 0 ≠ .par p' := by simp
 refine loop_sh (σ := AddS t) (lab1 (.gen 0)) (fun q => bSh (b.addI t p q.i)) [.loc 8] (fun l => l == .par 1) (addPs b t) (addRs b t) (fun q => t.kids.length - q.i) ⟨0,Nat.zero_le _⟩
   (fun q p1 p2 _ _ e => lab1_inj hi1 e) (fun _ => rfl) (by simp [lab1]; intro _ p' _; split <;> simp) ?_ ?_ ?_ ?_
 · intro q l hl
   simp [lbss,AV.lbs,addPs] at hl
   rcases hl with rfl | rfl
   · right; exact ⟨0,(hok _ _).2 (by omega),by simp [lab1]⟩
   · left; simp
 · intro q z hz cs hcs l hl
   simp only [addRs,List.mem_singleton] at hz
   subst hz
   rw [lbss_immE hcs] at hl; simp at hl
 · refine ⟨lab1 (.gen 31),[],?_⟩
   have r0 : rhoS (lab1 (.gen 0)) (lab1 (.gen 31)) (bSh (b.addI t p 0)) [] (.par 0) = .par 0 :=
     rhoS_at (labC := lab1 (.gen 0)) (fun p1 p2 _ _ e => lab1_inj hi1 e) (p := 0) (bSh_ok.2 (by omega))
   have r8 : rhoS (lab1 (.gen 0)) (lab1 (.gen 31)) (bSh (b.addI t p 0)) [] (.loc 8) = .loc 8 := rhoS_ne (by intro p' _; simp [lab1]; split <;> simp)
   refine ⟨hPush _ (by simp [upd_at]) (by simp [upd_at,immE,IV.cells,IV.av1,List.take_of_length_le]) (by intro q g1 g2 g3 g4 g5; simp [upd_at,g1,g2,g3,g4,g5]),?_,?_,?_,by simp [rnF],?_,by simp [rnF,Lb.fresh,Lb.entry],?_⟩
   · intro l he hu
     cases l with
     | par k =>
       by_cases h1 : k = 1
       · subst h1; right; right; rfl
       · left
         refine ⟨k,bSh_ok.2 ?_,by simp [lab1,h1]⟩
         refine Decidable.byContradiction fun hk => hu ?_
         by_cases h0 : k = 0
         · subst h0; exact absurd (by simp [Bn.addI]; omega) hk
         · simp only [upd_at,Lb.par.injEq,h0,h1,reduceCtorEq,if_false]
           exact hU _ fun p' hp' e => hk (by simp only [Lb.par.injEq] at e; subst e; exact hp')
     | _ => simp [Lb.entry] at he
   · simp [addPs,EqL,ren,put,argE,r0,r8,ivT_len]
   · intro z hz
     simp only [addRs,List.mem_singleton] at hz
     subst hz
     simp [rnF,upd_at,renR_immE]
     simp [kidsAt,immE]
   · intro l hl p' hp'
     simp only [List.mem_singleton] at hl
     subst hl
     simp [rnF,lab1]; split <;> simp
   · intro p' hp'
     refine ⟨by simp [lab1]; split <;> simp [Lb.fresh],?_⟩
     unfold lab1; split <;> simp [Lb.entry]
 · intro q
   obtain ⟨H0,hH0⟩ : ∃ H0,H0 = shH (lab1 (.gen 0)) (bSh (b.addI t p q.i)) (ofU (fun l => l == .par 1) (addRs b t q)) := ⟨_,rfl⟩
   rw [← hH0]
   have hB : BnAt (lab1 (.gen 0)) (b.addI t p q.i) H0 := by rw [hH0]; exact ShAt.of_shH (fun p1 p2 _ _ e => lab1_inj hi1 e) _
   have hO : ∀ l : Lb,(∀ p',lab1 (.gen 0) p' ≠ l) → H0 l = ofU (fun l => l == .par 1) (addRs b t q) l := fun l hl => by rw [hH0]; exact shH_ne _ fun p' _ => hl p'
   have a8 : H0 (.loc 8) = .live ⟨1,immE ((kidsAt (b.nodes.length + 1) (t.kids.take q.i)).map intIV)⟩ := (hO _ (by intro p'; simp [lab1]; split <;> simp)).trans (by simp [ofU,addRs,ofH,upd])
   have a10 : H0 (.loc 10) = .unused := (hO _ (by intro p'; simp [lab1]; split <;> simp)).trans (by simp [ofU,addRs,ofH,upd,Hp.none])
   have a47 : H0 (.loc 47) = .unused := (hO _ (by intro p'; simp [lab1]; split <;> simp)).trans (by simp [ofU,addRs,ofH,upd,Hp.none])
   have aN : ∀ l,H0 (NC 9 l) = .unused := fun l => (hO _ (by intro p'; simp [lab1,NC]; split <;> simp)).trans (by simp [ofU,addRs,ofH,upd,Hp.none,NC])
   have anf : ∀ k,H0 (.par k) ≠ .unused → k < 4 + 2 * b.n0 := by
     intro k hu
     refine Decidable.byContradiction fun hk => hu ?_
     rw [hH0,shH_ne _ fun p' hp' e => ?_]
     · have : k ≠ 1 := by omega
       simp [ofU,addRs,ofH,upd,Hp.none,this]
     · have h2 := bSh_ok.1 hp'
       unfold lab1 at e; split at e <;> simp at e
       subst e; exact hk h2
   clear hH0 hO
   have hi := q.hi
   have hkn : (kidsAt (b.nodes.length + 1) (t.kids.take q.i)).length = q.i := by rw [kidsAt_len,List.length_take]; omega
   have hct := cntT_le (t.kids.take q.i)
   have hwt2 := wtT_take t.kids q.i
   simp only [↓aX,mX,reduceCtorEq,Nat.reduceEqDiff,Nat.reduceLT,Nat.reduceLeDiff,Nat.reduceAdd,Nat.reduceMul,Int.reduceToNat,Int.reduceLE,Int.reduceLT,addPs]
   refine cK_b (fun h => ?_) (fun h => ?_)
   · have hlt : q.i < t.kids.length := by simpa using h
     obtain ⟨k,hki⟩ : ∃ k,t.kids[q.i]? = some k := ⟨_,List.getElem?_eq_getElem hlt⟩
     have hw : IntKind.i64.wrap ((q.i : Int) + 1) = ((q.i + 1 : Nat) : Int) := wrap64 (by omega) (by omega)
     have htk : t.kids.take (q.i + 1) = t.kids.take q.i ++ [k] := take_snoc' hki
     have hwk : wtT (t.kids.take q.i) + k.wt ≤ wtT t.kids := by
       have := wtT_take t.kids (q.i + 1)
       rw [htk,wtT_app] at this
       simp only [wtT] at this; omega
     simp only [↓aX,mX,reduceCtorEq,Nat.reduceEqDiff,Nat.reduceLT,Nat.reduceLeDiff,Nat.reduceAdd,Nat.reduceMul,Int.reduceToNat,Int.reduceLE,Int.reduceLT,ivT_get,hki,elszT,Tree.cells_eq,Tree.cs,a10]
     have hoff : (b.addI t p q.i).nodes.length = b.nodes.length + 1 + cntT (t.kids.take q.i) := by simp [Bn.addI,flats_len]; omega
     refine callT_sh (lab := lab1 (.gen 0)) (N := NC 9) (hR (b.addI t p q.i) k (List.mem_of_getElem? hki) rfl (by rw [hoff]; omega) (by rw [hoff]; omega)) ?_ ?_ ?_ (NC_inj 9) (fun l h => .inl h) (fun p' hp' => bSh_ok.2 (but_mem.1 hp').1) ?_
     · simp [rens,ren,inR,lab1,Tree.av]
     · exact (hB.upd' (by intro p' _; simp [lab1]; split <;> simp)).upd' (by intro p' _; simp [lab1]; split <;> simp)
     · intro l; rw [upd_ne _ _ (by simp [NC]),upd_ne _ _ (by simp [NC])]; exact aN l
     · rintro X R2 lab2 H2 ⟨rfl,rfl⟩ g1 g2 g3 g4 g5 g6
       have hfar : ∀ n : Nat,n ≠ 10 → H2 (.loc n) = H0 (.loc n) := fun n hn => by
         rw [g4 (.loc n) (by intro p' _; simp [lab1]; split <;> simp) (by simp [NC]),upd_ne _ _ (by simpa using hn),upd_ne _ _ (by simpa using hn)]
       have hl2 : ∀ p' : Nat,(bSh ((b.addI t p q.i).add k b.nodes.length)).ok p' → ∀ n,lab2 p' ≠ .loc n := by
         intro p' hp' n
         rcases g3 p' hp' with ⟨p0,_,e⟩ | ⟨l,e⟩ <;> rw [e]
         · simp [lab1]; split <;> simp
         · simp [NC]
       have hl3 : ∀ p',p' < 4 + 2 * b.n0 → p' ≠ 1 → lab2 p' = .par p' := fun p' h1 h2 => by rw [g2 p' (but_mem.2 ⟨h1,h2⟩)]; simp [lab1,h2]
       simp only [↓aX,mX,reduceCtorEq,Nat.reduceEqDiff,Nat.reduceLT,Nat.reduceLeDiff,Nat.reduceAdd,Nat.reduceMul,Int.reduceToNat,Int.reduceLE,Int.reduceLT]
       rw [app_loc 1 8 47 8 ((kidsAt (b.nodes.length + 1) (t.kids.take q.i)).map intIV) (.int .i64 (b.addI t p q.i).nodes.length) (by rw [hfar 8 (by decide),a8]) (by rw [List.length_map,hkn]) rfl (by simp [IV.cells]) (by omega) (by decide) (by decide) (by rw [hfar 47 (by decide),a47])]
       simp only [↓aX,mX,reduceCtorEq,Nat.reduceEqDiff,Nat.reduceLT,Nat.reduceLeDiff,Nat.reduceAdd,Nat.reduceMul,Int.reduceToNat,Int.reduceLE,Int.reduceLT,hw]
       have hkid : kidsAt (b.nodes.length + 1) (t.kids.take (q.i + 1)) = kidsAt (b.nodes.length + 1) (t.kids.take q.i) ++ [((b.addI t p q.i).nodes.length : Int)] := by
         rw [htk,kidsAt_app,hoff]; simp [kidsAt]
       have hbn : (b.addI t p q.i).add k b.nodes.length = b.addI t p (q.i + 1) := by
         show ({ (b.addI t p q.i) with nodes := (b.addI t p q.i).nodes ++ k.flat (b.addI t p q.i).nodes.length b.nodes.length } : Bn) = _
         rw [hoff]
         simp [Bn.addI,htk,flats_app,flats]
       rw [hbn] at g1 hl2
       refine ⟨⟨q.i + 1,hlt⟩,by simp only; omega,lab2,[(.loc 8,.loc 47)],?_⟩
       have r0 : rhoS (lab1 (.gen 0)) lab2 (bSh (b.addI t p (q.i + 1))) [(.loc 8,.loc 47)] (.par 0) = .par 0 :=
         (rhoS_at (labC := lab1 (.gen 0)) (fun p1 p2 _ _ e => lab1_inj hi1 e) (p := 0) (bSh_ok.2 (by omega))).trans (hl3 0 (by omega) (by decide))
       have r8 : rhoS (lab1 (.gen 0)) lab2 (bSh (b.addI t p (q.i + 1))) [(.loc 8,.loc 47)] (.loc 8) = .loc 47 := (rhoS_ne (by intro p' _; simp [lab1]; split <;> simp)).trans (by simp [rnF])
       refine ⟨(g1.upd' fun p' hp' => hl2 p' hp' 8).upd' fun p' hp' => hl2 p' hp' 47,?_,?_,?_,by simp [rnF],?_,by simp [rnF,Lb.fresh,Lb.entry],?_⟩
       · intro l he hu
         cases l with
         | par k' =>
           by_cases h1 : k' = 1
           · subst h1; right; right; rfl
           · left
             refine ⟨k',bSh_ok.2 ?_,by simp [lab1,h1]⟩
             refine Decidable.byContradiction fun hk' => hk' ?_
             refine anf k' ?_
             rw [upd_ne _ _ (by simp),upd_ne _ _ (by simp),g4 (.par k') ?_ (by simp [NC]),upd_ne _ _ (by simp),upd_ne _ _ (by simp)] at hu
             · exact hu
             · intro p' hp' e
               simp only [lab1] at e; split at e <;> simp at e
               subst e; exact hk' ((bSh_ok (b := b.addI t p q.i)).1 hp')
         | _ => simp [Lb.entry] at he
       · simp [addPs,EqL,ren,put,ofL,r0,r8]
       · intro z hz
         simp only [addRs,List.mem_singleton] at hz
         subst hz
         simp [rnF,upd_at,renR_immE]
         rw [hkid]; simp [immE,intIV]
       · intro l hl p' hp'
         simp only [List.mem_singleton] at hl
         subst hl
         simpa [rnF] using hl2 p' hp' 47
       · intro p' hp'
         refine ⟨by simp [lab1]; split <;> simp [Lb.fresh],?_⟩
         unfold lab1; split
         · simp [Lb.entry]
         · rename_i h1; intro _; exact hl3 p' ((bSh_ok (b := b.addI t p (q.i + 1))).1 hp') h1
   · have he : q.i = t.kids.length := by simp at h; omega
     have hs : H0 (.par 0) = .live ⟨3,[[.sl (.gen 0) 5 0 (b.addI t p q.i).nodes.length,.sl (.par 2) 1 0 b.fs.length,.sl (.par 3) 1 0 b.as.length]]⟩ := hB.s
     have hnd : H0 (.gen 0) = .live ⟨5,(b.addI t p q.i).nodes.mapIdx (bNode b.n0 (lab1 (.gen 0)))⟩ := hB.n
     have htk : t.kids.take q.i = t.kids := by rw [he]; simp
     rw [htk] at a8 hkn
     have hx : (b.addI t p q.i).nodes[b.nodes.length]? = some ⟨t.text,t.s,t.attrs,p,[]⟩ := by simp [Bn.addI]
     have hlen : b.nodes.length < (b.addI t p q.i).nodes.length := (List.getElem?_eq_some_iff.1 hx).1
     simp only [↓aX,mX,reduceCtorEq,Nat.reduceEqDiff,Nat.reduceLT,Nat.reduceLeDiff,Nat.reduceAdd,Nat.reduceMul,Int.reduceToNat,Int.reduceLE,Int.reduceLT]
     refine ⟨1,(kidsAt (b.nodes.length + 1) t.kids).map intIV,0,q.i,rfl,a8,by rw [List.length_map,hkn]; omega,flatI _,?_⟩
     simp only [↓aX,mX,reduceCtorEq,Nat.reduceEqDiff,Nat.reduceLT,Nat.reduceLeDiff,Nat.reduceAdd,Nat.reduceMul,Int.reduceToNat,Int.reduceLE,Int.reduceLT,hs,hnd,List.length_mapIdx,hlen,Int.natCast_nonneg,Int.toNat_natCast,and_self,true_and,Nat.zero_add,hB.get hx,bNode_ge hn]
     have hget : ((b.addI t p q.i).nodes.mapIdx (bNode b.n0 (lab1 (.gen 0))))[b.nodes.length]? = some [.bool t.text,.str t.s,.list (ivA t.attrs),.int .i64 p,.list []] := by
       have := hB.get hx
       rw [show (b.addI t p q.i).n0 = b.n0 from rfl,bNode_ge hn] at this
       exact this
     have hkt : ((kidsAt (b.nodes.length + 1) t.kids).map intIV).take q.i = (kidsAt (b.nodes.length + 1) t.kids).map intIV := List.take_of_length_le (by rw [List.length_map,hkn]; omega)
     simp only [↓aX,mX,reduceCtorEq,Nat.reduceEqDiff,Nat.reduceLT,Nat.reduceLeDiff,Nat.reduceAdd,Nat.reduceMul,Int.reduceToNat,Int.reduceLE,Int.reduceLT,hget,hkt]
     have hend : (b.addI t p q.i).set b.nodes.length { (⟨t.text,t.s,t.attrs,p,[]⟩ : Node) with kids := kidsAt (b.nodes.length + 1) t.kids } = b.add t p := by
       unfold Bn.set Bn.addI Bn.add
       simp only [htk,Tree.flat_eq,Tree.node]
       rw [List.set_append_right _ _ (Nat.le_refl _)]
       simp
     refine ⟨⟨fun _ => .int .i64 b.nodes.length,bSh (b.add t p),lab1 (.gen 0)⟩,⟨rfl,rfl⟩,fun ρ => rfl,by simp [AV.lbs],rfl,?_,?_⟩
     · rw [← hend]
       refine BnAt.setD (H := upd H0 (.loc 8) .dead) (hB.upd' (by intro p' _; simp [lab1]; split <;> simp)) (i := b.nodes.length) hn hx ?_ ?_
       · show upd _ _ _ (Lb.gen 0) = _
         simp [upd_at]
         rfl
       · intro l hl
         have : l ≠ .gen 0 := hl
         simp [upd_at,this]
     · intro p' hp'
       have := (but_mem.1 hp').2
       simp [lab1,this]
theorem cntT_mem : ∀ {l : List Tree} {k : Tree},k ∈ l → k.cnt ≤ cntT l
 | x :: r,k,h => by
   rcases List.mem_cons.1 h with rfl | h
   · simp only [cntT]; omega
   · have := cntT_mem h; simp only [cntT]; omega
def CloneA (P : Program) (G : Nat → Option (List IV)) (f : Nat) : Prop := ∀ xs : List Attr,xs.length ≤ B → PureC P G f [.list (ivA xs)] (.list (ivA xs))
theorem cAdd {f_change_bench_add f_slices_Clone_Attr_Attr : Nat} (hF : compF P G f_change_bench_add = some (58,[(none,6)],(c_change_bench_add f_slices_Clone_Attr_Attr f_change_bench_add).bare)) (hC : CloneA P G f_slices_Clone_Attr_Attr) : ∀ (m : Nat) (t : Tree),t.cnt ≤ m → ∀ (b : Bn),b.n0 ≤ b.nodes.length → ∀ (p : Int),b.nodes.length + t.wt ≤ B →
   ShC P G f_change_bench_add [.ptr (.par 0) 3 0 0,t.av,.int .i64 p] (bSh b) (b.but 1) fun X R2 => X = (fun _ => .int .i64 b.nodes.length) ∧ R2 = bSh (b.add t p)
 | 0,t,h,_,_,_,_ => by have := t.cnt_pos; omega
 | m + 1,t,h,b,hn,p,hb => by
   have hw := t.wt_eq
   have hl := wtA_len t.attrs
   refine cAdd1 hF b hn t p hb (hC _ (by omega)) fun b' k hk h0 h1 h2 => ?_
   have h3 : b'.but 1 = b.but 1 := by unfold Bn.but; rw [h0]
   rw [← h3]
   obtain ⟨i,hi⟩ := List.getElem?_of_mem hk
   have := cntT_mem hk
   exact cAdd hF hC m k (by rw [t.cnt_eq] at h; omega) b' (by omega) _ h2
end
end Go.Am
