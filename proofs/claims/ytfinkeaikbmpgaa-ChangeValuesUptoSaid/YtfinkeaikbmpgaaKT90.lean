import Derived.Test.YtfinkeaikbmpgaaKT81
import Derived.Test.YtfinkeaikbmpgaaKB1
import Derived.Test.YtfinkeaikbmpgaaKAm40
set_option linter.unusedSimpArgs false
set_option linter.unusedVariables false
set_option linter.unnecessarySimpa false
set_option linter.defProp false
/- Changes: what is wrong with one; with all of them. -/
set_option pp.deepTerms false
set_option pp.deepTerms.threshold 5
set_option maxRecDepth 20000
namespace Go.Am
open Go Go.RowKit
noncomputable def goodOpF (d : Doc) (o : Op) : Int :=
 if isDoc d = true then (if o.kind < 1 ∨ 10 < o.kind then 4 else if o.target < 0 ∨ (d.length : Int) ≤ o.target then 3 else match d[o.target.toNat]? with | some x => wrongF x o | none => 3) else 1
section
variable {P : Program} {G : Nat → Option (List IV)}
def c_change_Good (f_doc_Good f_change_wrong : Nat) : AC :=
(.seq (.reg [⟨some 2,none,.box (.t 0)⟩,⟨some 3,none,.box (.t 1)⟩,⟨some 4,none,.mov (.c (.int .i64 0))⟩]) (.seq (.seq (.reg [⟨some 5,none,.load (some 1) (.t 2)⟩,⟨some 6,none,.call f_doc_Good [(.t 5)]⟩,⟨some 7,none,.not (.t 6)⟩]) (.cond (.t 7) (.seq (.reg [⟨some 4,none,.mov (.c (.int .i64 1))⟩]) .ret) .skip)) (.seq (.block 0 (.seq (.reg [⟨some 9,none,.fld (.t 3) 0⟩,⟨some 10,none,.load none (.t 9)⟩,⟨some 11,none,.bin .lss (.t 10) (.c (.int .i64 1))⟩,⟨some 12,none,.mov (.t 11)⟩,⟨some 13,(some (12,false)),(.fld (.t 3) 0)⟩,⟨some 14,(some (12,false)),(.load none (.t 13))⟩,⟨some 15,(some (12,false)),(.bin .gtr (.t 14) (.c (.int .i64 10)))⟩,⟨some 16,none,.pick (.t 12) (.c (.bool true)) (.t 15)⟩,⟨some 8,none,.mov (.t 16)⟩]) (.cond (.t 8) (.seq (.reg [⟨some 4,none,.mov (.c (.int .i64 4))⟩]) .ret) (.seq (.reg [⟨some 18,none,.fld (.t 3) 1⟩,⟨some 19,none,.load none (.t 18)⟩,⟨some 20,none,.bin .lss (.t 19) (.c (.int .i64 0))⟩,⟨some 21,none,.mov (.t 20)⟩,⟨some 22,(some (21,false)),(.fld (.t 3) 1)⟩,⟨some 23,(some (21,false)),(.load none (.t 22))⟩,⟨some 24,(some (21,false)),(.fld (.t 2) 0)⟩,⟨some 25,(some (21,false)),(.load none (.t 24))⟩,⟨some 26,(some (21,false)),(.len (.t 25))⟩,⟨some 27,(some (21,false)),(.bin .geq (.t 23) (.t 26))⟩,⟨some 28,none,.pick (.t 21) (.c (.bool true)) (.t 27)⟩,⟨some 17,none,.mov (.t 28)⟩]) (.cond (.t 17) (.seq (.reg [⟨some 4,none,.mov (.c (.int .i64 3))⟩]) .ret) .skip))))) (.seq (.dreg [⟨some 29,none,.fld (.t 2) 0⟩,⟨some 30,none,.load none (.t 29)⟩,⟨some 31,none,.fld (.t 3) 1⟩,⟨some 32,none,.load none (.t 31)⟩,⟨some 33,none,.ixa (.t 30) (.t 32) 5⟩,⟨some 34,none,.load (some 5) (.t 33)⟩,⟨some 35,none,.load (some 5) (.t 3)⟩,⟨some 36,none,.call f_change_wrong [(.t 34),(.t 35)]⟩,⟨some 4,none,.mov (.t 36)⟩] [[],[0],[],[2],[1,3],[4],[],[5,6],[7,7,0,1,2,3,4,5,6,7]] [.no,(.rw [(.loc 2)] []),.no,(.rw [(.loc 3)] []),.no,.no,(.rw [(.loc 3)] []),.no,.no]) .ret))))
theorem pChangeGood {f_change_Good f_doc_Good f_change_wrong : Nat} (hF : compF P G f_change_Good = some (37,[(none,4)],(c_change_Good f_doc_Good f_change_wrong).bare)) (d : Doc) (o : Op) (hG : PureC P G f_doc_Good [Doc.av d] (.bool (isDoc d)))
   (hW : ∀ x : Node,1 ≤ o.kind → o.kind ≤ 10 → PureC P G f_change_wrong [x.av,o.av] (.int .i64 (wrongF x o))) :
   PureC P G f_change_Good [Doc.av d,o.av] (.int .i64 (goodOpF d o)) := by
 refine pure_of_go hF (by simp) (by simp [lbss,AV.lbs,Op.av,Doc.av]) (by simp [AV.lbs]) ?_
 unfold c_change_Good
 simp only [↓aX,mX,reduceCtorEq,Nat.reduceEqDiff,Nat.reduceLT,Nat.reduceLeDiff,Nat.reduceAdd,Nat.reduceMul,Int.reduceToNat,Int.reduceLE,Int.reduceLT,Op.av,Doc.av]
 refine callT_pure hG ?_
 unfold goodOpF
 cases hd : isDoc d with
 | false => simp only [↓aX,mX,reduceCtorEq,Nat.reduceEqDiff,Nat.reduceLT,Nat.reduceLeDiff,Nat.reduceAdd,Nat.reduceMul,Int.reduceToNat,Int.reduceLE,Int.reduceLT,Bool.not_false]; try rfl
 | true =>
   simp only [↓aX,mX,reduceCtorEq,Nat.reduceEqDiff,Nat.reduceLT,Nat.reduceLeDiff,Nat.reduceAdd,Nat.reduceMul,Int.reduceToNat,Int.reduceLE,Int.reduceLT,Bool.not_true,Op.av,Doc.av]
   cases h1 : decide (o.kind < 1) with
   | true =>
     simp only [↓aX,mX,reduceCtorEq,Nat.reduceEqDiff,Nat.reduceLT,Nat.reduceLeDiff,Nat.reduceAdd,Nat.reduceMul,Int.reduceToNat,Int.reduceLE,Int.reduceLT,h1,Op.av,Doc.av]
     have : o.kind < 1 := by simpa using h1
     simp [this]
   | false =>
     simp only [↓aX,mX,reduceCtorEq,Nat.reduceEqDiff,Nat.reduceLT,Nat.reduceLeDiff,Nat.reduceAdd,Nat.reduceMul,Int.reduceToNat,Int.reduceLE,Int.reduceLT,h1,Op.av,Doc.av,gt_iff_lt]
     cases h2 : decide (10 < o.kind) with
     | true =>
       simp only [↓aX,mX,reduceCtorEq,Nat.reduceEqDiff,Nat.reduceLT,Nat.reduceLeDiff,Nat.reduceAdd,Nat.reduceMul,Int.reduceToNat,Int.reduceLE,Int.reduceLT,h1,h2,Op.av,Doc.av]
       have : 10 < o.kind := by simpa using h2
       simp [this]
     | false =>
       simp only [↓aX,mX,reduceCtorEq,Nat.reduceEqDiff,Nat.reduceLT,Nat.reduceLeDiff,Nat.reduceAdd,Nat.reduceMul,Int.reduceToNat,Int.reduceLE,Int.reduceLT,h1,h2,Op.av,Doc.av]
       have k1 : ¬ o.kind < 1 := by simpa using h1
       have k2 : ¬ 10 < o.kind := by simpa using h2
       cases h3 : decide (o.target < 0) with
       | true =>
         simp only [↓aX,mX,reduceCtorEq,Nat.reduceEqDiff,Nat.reduceLT,Nat.reduceLeDiff,Nat.reduceAdd,Nat.reduceMul,Int.reduceToNat,Int.reduceLE,Int.reduceLT,h1,h2,h3,Op.av,Doc.av]
         have : o.target < 0 := by simpa using h3
         simp [k1,k2,this]
       | false =>
         simp only [↓aX,mX,reduceCtorEq,Nat.reduceEqDiff,Nat.reduceLT,Nat.reduceLeDiff,Nat.reduceAdd,Nat.reduceMul,Int.reduceToNat,Int.reduceLE,Int.reduceLT,h1,h2,h3,Op.av,Doc.av,ge_iff_le,List.length_map]
         have k3 : ¬ o.target < 0 := by simpa using h3
         cases h4 : decide ((d.length : Int) ≤ o.target) with
         | true =>
           simp only [↓aX,mX,reduceCtorEq,Nat.reduceEqDiff,Nat.reduceLT,Nat.reduceLeDiff,Nat.reduceAdd,Nat.reduceMul,Int.reduceToNat,Int.reduceLE,Int.reduceLT,h1,h2,h3,h4,Op.av,Doc.av]
           have : (d.length : Int) ≤ o.target := by simpa using h4
           simp [k1,k2,k3,this]
         | false =>
           have k4 : ¬ (d.length : Int) ≤ o.target := by simpa using h4
           obtain ⟨x,hx⟩ : ∃ x,d[o.target.toNat]? = some x := ⟨_,List.getElem?_eq_getElem (by omega)⟩
           have hgd : (d.map Node.iv)[o.target.toNat]? = some x.iv := by rw [List.getElem?_map,hx]; rfl
           have k5 : 0 ≤ o.target := by omega
           simp only [↓aX,mX,reduceCtorEq,Nat.reduceEqDiff,Nat.reduceLT,Nat.reduceLeDiff,Nat.reduceAdd,Nat.reduceMul,Int.reduceToNat,Int.reduceLE,Int.reduceLT,h1,h2,h3,h4,Op.av,Doc.av,k5,hgd,elszN,Node.cells_eq,Node.cs]
           refine ⟨rfl,puK_in (hW x (by omega) (by omega)) ?_⟩
           simp only [↓aX,mX,reduceCtorEq,Nat.reduceEqDiff,Nat.reduceLT,Nat.reduceLeDiff,Nat.reduceAdd,Nat.reduceMul,Int.reduceToNat,Int.reduceLE,Int.reduceLT]
           simp [k1,k2,k3,k4,hx]
def c_change_Check_1 (f_change_Against : Nat) : AC :=
(.seq (.reg [⟨some 2,none,.box (.t 0)⟩,⟨some 3,none,.mov (.c (.bool false))⟩]) (.seq (.reg [⟨some 4,none,.load (some 5) (.t 1)⟩,⟨some 5,none,.load (some 5) (.t 2)⟩,⟨some 6,none,.call f_change_Against [(.t 4),(.t 5)]⟩,⟨some 3,none,.mov (.t 6)⟩]) .ret))
theorem pCheck1 {f_change_Check_1 f_change_Against : Nat} (hF : compF P G f_change_Check_1 = some (7,[(none,3)],(c_change_Check_1 f_change_Against).bare)) (a b : Op) (hA : PureC P G f_change_Against [a.av,b.av] (.bool (againstF a b))) :
   PureC P G f_change_Check_1 [b.av,.lptr a.cs] (.bool (againstF a b)) := by
 refine pure_of_go hF (by simp) (by simp [lbss,AV.lbs,Op.av]) (by simp [AV.lbs]) ?_
 unfold c_change_Check_1
 simp only [↓aX,mX,reduceCtorEq,Nat.reduceEqDiff,Nat.reduceLT,Nat.reduceLeDiff,Nat.reduceAdd,Nat.reduceMul,Int.reduceToNat,Int.reduceLE,Int.reduceLT,Op.av,Op.cs]
 refine callT_pure hA ?_
 simp only [↓aX,mX,reduceCtorEq,Nat.reduceEqDiff,Nat.reduceLT,Nat.reduceLeDiff,Nat.reduceAdd,Nat.reduceMul,Int.reduceToNat,Int.reduceLE,Int.reduceLT]
def idxB {α : Type} (p : α → Bool) (l : List α) : Int := match l.findIdx? p with | some k => (k : Int) | none => -1
theorem idxB_at {α : Type} {p : α → Bool} {xs : List α} {k : Nat} {x : α} (h : xs[k]? = some x) (hx : p x = true) (hb : ∀ j y,j < k → xs[j]? = some y → p y = false) : idxB p xs = k := by
 have : xs.findIdx? p = some k := by
   rw [List.findIdx?_eq_some_iff_getElem]
   obtain ⟨hk,e⟩ := List.getElem?_eq_some_iff.1 h
   refine ⟨hk,by rw [e]; exact hx,fun j hj => ?_⟩
   have h2 := hb j xs[j] hj (List.getElem?_eq_getElem (by omega))
   simp [h2]
 rw [idxB,this]
theorem idxB_none {α : Type} {p : α → Bool} {xs : List α} (h : ∀ x ∈ xs,p x = false) : idxB p xs = -1 := by
 have : xs.findIdx? p = none := List.findIdx?_eq_none_iff.2 fun x hx => by rw [h x hx]
 rw [idxB,this]
theorem idxB_any {α : Type} {p : α → Bool} {xs : List α} : decide (idxB p xs ≥ 0) = xs.any p := by
 unfold idxB
 cases h : xs.findIdx? p with
 | none =>
   rw [List.findIdx?_eq_none_iff] at h
   have : xs.any p = false := by rw [List.any_eq_false]; intro x hx; rw [h x hx]; simp
   rw [this]; decide
 | some k =>
   rw [List.findIdx?_eq_some_iff_getElem] at h
   obtain ⟨hk,e,_⟩ := h
   have : xs.any p = true := List.any_eq_true.2 ⟨_,List.getElem_mem hk,e⟩
   rw [this]; simp
def c_slices_IndexFunc_Op_Op : AC :=
(.seq (.reg [⟨some 4,none,.mov (.c (.int .i64 0))⟩]) (.seq (.seq (.reg [⟨some 6,none,.mov (.t 0)⟩,⟨some 7,none,.len (.t 6)⟩,⟨some 8,none,.mov (.c (.int .i64 0))⟩]) (.block 0 (.loop (.seq (.reg [⟨some 9,none,.bin .lss (.t 8) (.t 7)⟩]) (.seq (.cond (.t 9) .skip (.exit 0)) (.seq (.block 1 (.seq (.reg [⟨some 10,none,.mov (.t 8)⟩,⟨some 5,none,.mov (.t 10)⟩]) (.seq (.reg [⟨some 11,none,.mov (.t 1)⟩,⟨some 12,none,.mov (.t 0)⟩,⟨some 13,none,.mov (.t 5)⟩,⟨some 14,none,.ixa (.t 12) (.t 13) 5⟩,⟨some 15,none,.load (some 5) (.t 14)⟩,⟨some 16,none,.callv (.t 11) [(.t 15)]⟩]) (.cond (.t 16) (.seq (.reg [⟨some 17,none,.mov (.t 5)⟩,⟨some 4,none,.mov (.t 17)⟩]) .ret) .skip)))) (.reg [⟨some 18,none,.bin .add (.t 8) (.c (.int .i64 1))⟩,⟨some 8,none,.mov (.t 18)⟩]))))))) (.seq (.reg [⟨some 4,none,.mov (.c (.int .i64 (-1)))⟩]) .ret)))
theorem pIndexFuncO {f_slices_IndexFunc_Op_Op fc : Nat} {cs : List IV} (hF : compF P G f_slices_IndexFunc_Op_Op = some (19,[(none,4)],c_slices_IndexFunc_Op_Op.bare)) (l : List Op) (hx : l.length ≤ B) (p : Op → Bool) (hb : goBody P fc = true) (hC : ∀ b ∈ l,PureC P G fc [b.av,.lptr cs] (.bool (p b))) :
   PureC P G f_slices_IndexFunc_Op_Op [.list (l.map Op.iv),.fn fc [] [.lptr cs]] (.int .i64 (idxB p l)) := by
 refine pure_of_go hF (by simp) (by simp [lbss,AV.lbs]) (by simp [AV.lbs]) ?_
 unfold c_slices_IndexFunc_Op_Op
 have hBv : B = 1073741824 := rfl
 simp only [↓aX,mX,reduceCtorEq,Nat.reduceEqDiff,Nat.reduceLT,Nat.reduceLeDiff,Nat.reduceAdd,Nat.reduceMul,Int.reduceToNat,Int.reduceLE,Int.reduceLT,List.length_map]
 refine loop_data (σ := { i : Nat // i ≤ l.length ∧ ∀ j y,j < i → l[j]? = some y → p y = false }) (fun q => [(0,.list (l.map Op.iv)),(1,.fn fc [] [.lptr cs]),(7,.int .i64 l.length),(8,.int .i64 q.1)]) (fun q => l.length - q.1) ⟨0,by simp⟩ (fun _ => rfl) ?_ ?_
 · exact ⟨by simp only [↓aX,mX,reduceCtorEq,Nat.reduceEqDiff,Nat.reduceLT,Nat.reduceLeDiff,Nat.reduceAdd,Nat.reduceMul,Int.reduceToNat,Int.reduceLE,Int.reduceLT],by repeat' constructor⟩
 · rintro ⟨i,hi,hs⟩
   simp only [↓aX,mX,reduceCtorEq,Nat.reduceEqDiff,Nat.reduceLT,Nat.reduceLeDiff,Nat.reduceAdd,Nat.reduceMul,Int.reduceToNat,Int.reduceLE,Int.reduceLT,List.length_map]
   by_cases hlt : i < l.length
   · rw [show decide ((i : Int) < (l.length : Int)) = true by simpa using hlt]
     obtain ⟨x,hx1⟩ : ∃ x,l[i]? = some x := ⟨_,List.getElem?_eq_getElem hlt⟩
     have hw : IntKind.i64.wrap ((i : Int) + 1) = ((i + 1 : Nat) : Int) := wrap64 (by omega) (by omega)
     simp only [↓aX,mX,reduceCtorEq,Nat.reduceEqDiff,Nat.reduceLT,Nat.reduceLeDiff,Nat.reduceAdd,Nat.reduceMul,Int.reduceToNat,Int.reduceLE,Int.reduceLT,opGet,hx1,Option.map_some,elszO,Op.cells_eq,Op.cs,a1_callv,cvK_fn,hb]
     refine callT_pure (hC x (List.mem_of_getElem? hx1)) ?_
     try simp only [↓aX,mX,reduceCtorEq,Nat.reduceEqDiff,Nat.reduceLT,Nat.reduceLeDiff,Nat.reduceAdd,Nat.reduceMul,Int.reduceToNat,Int.reduceLE,Int.reduceLT]
     refine cK_b (fun h => ?_) (fun h => ?_)
     · try simp only [↓aX,mX,reduceCtorEq,Nat.reduceEqDiff,Nat.reduceLT,Nat.reduceLeDiff,Nat.reduceAdd,Nat.reduceMul,Int.reduceToNat,Int.reduceLE,Int.reduceLT]
       rw [idxB_at hx1 h hs]
     · simp only [↓aX,mX,reduceCtorEq,Nat.reduceEqDiff,Nat.reduceLT,Nat.reduceLeDiff,Nat.reduceAdd,Nat.reduceMul,Int.reduceToNat,Int.reduceLE,Int.reduceLT,hw]
       refine ⟨⟨i + 1,hlt,fun j y hj hy => ?_⟩,by simp only; omega,rfl⟩
       by_cases e : j = i
       · rw [e,hx1] at hy; cases hy; exact h
       · exact hs j y (by omega) hy
   · rw [show decide ((i : Int) < (l.length : Int)) = false by simpa using hlt]
     simp only [↓aX,mX,reduceCtorEq,Nat.reduceEqDiff,Nat.reduceLT,Nat.reduceLeDiff,Nat.reduceAdd,Nat.reduceMul,Int.reduceToNat,Int.reduceLE,Int.reduceLT]
     rw [idxB_none fun x hx => by
       obtain ⟨j,hj⟩ := List.getElem?_of_mem hx
       exact hs j x (by have := (List.getElem?_eq_some_iff.1 hj).1; omega) hj]
def c_slices_ContainsFunc_Op_Op (f_slices_IndexFunc_Op_Op : Nat) : AC :=
(.seq (.reg [⟨some 4,none,.mov (.c (.bool false))⟩]) (.seq (.reg [⟨some 5,none,.mov (.t 0)⟩,⟨some 6,none,.mov (.t 1)⟩,⟨some 7,none,.call f_slices_IndexFunc_Op_Op [(.t 5),(.t 6)]⟩,⟨some 8,none,.bin .geq (.t 7) (.c (.int .i64 0))⟩,⟨some 4,none,.mov (.t 8)⟩]) .ret))
theorem pContainsO {f_slices_ContainsFunc_Op_Op f_slices_IndexFunc_Op_Op fc : Nat} {cs : List IV} (hF : compF P G f_slices_ContainsFunc_Op_Op = some (9,[(none,4)],(c_slices_ContainsFunc_Op_Op f_slices_IndexFunc_Op_Op).bare)) (l : List Op) (p : Op → Bool)
   (hI : PureC P G f_slices_IndexFunc_Op_Op [.list (l.map Op.iv),.fn fc [] [.lptr cs]] (.int .i64 (idxB p l))) :
   PureC P G f_slices_ContainsFunc_Op_Op [.list (l.map Op.iv),.fn fc [] [.lptr cs]] (.bool (l.any p)) := by
 refine pure_of_go hF (by simp) (by simp [lbss,AV.lbs]) (by simp [AV.lbs]) ?_
 unfold c_slices_ContainsFunc_Op_Op
 simp only [↓aX,mX,reduceCtorEq,Nat.reduceEqDiff,Nat.reduceLT,Nat.reduceLeDiff,Nat.reduceAdd,Nat.reduceMul,Int.reduceToNat,Int.reduceLE,Int.reduceLT]
 refine callT_pure hI ?_
 simp only [↓aX,mX,reduceCtorEq,Nat.reduceEqDiff,Nat.reduceLT,Nat.reduceLeDiff,Nat.reduceAdd,Nat.reduceMul,Int.reduceToNat,Int.reduceLE,Int.reduceLT,idxB_any]
def twiceF : List Op → List Op → Bool
 | _,[] => false
 | pre,a :: r => pre.any (againstF a) || twiceF (pre ++ [a]) r
noncomputable def checkF (d : Doc) (l : List Op) : Int :=
 if isDoc d = true then (if 20 < l.length then 2 else match l.find? (fun o => goodOpF d o != 0) with | some o => goodOpF d o | none => if twiceF [] l then 5 else 0) else 1
def c_change_Check (f_doc_Good f_change_Good f_change_Check_1 f_slices_ContainsFunc_Op_Op : Nat) : AC :=
(.seq (.reg [⟨some 2,none,.box (.t 0)⟩,⟨some 4,none,.mov (.c (.int .i64 0))⟩]) (.seq (.seq (.reg [⟨some 10,none,.load (some 1) (.t 2)⟩,⟨some 11,none,.call f_doc_Good [(.t 10)]⟩,⟨some 12,none,.not (.t 11)⟩]) (.cond (.t 12) (.seq (.reg [⟨some 4,none,.mov (.c (.int .i64 1))⟩]) .ret) .skip)) (.seq (.seq (.reg [⟨some 13,none,.mov (.t 1)⟩,⟨some 14,none,.len (.t 13)⟩,⟨some 15,none,.bin .gtr (.t 14) (.c (.int .i64 20))⟩]) (.cond (.t 15) (.seq (.reg [⟨some 4,none,.mov (.c (.int .i64 2))⟩]) .ret) .skip)) (.seq (.seq (.reg [⟨some 16,none,.mov (.t 1)⟩,⟨some 17,none,.len (.t 16)⟩,⟨some 18,none,.mov (.c (.int .i64 0))⟩]) (.block 0 (.loop (.seq (.reg [⟨some 19,none,.bin .lss (.t 18) (.t 17)⟩]) (.seq (.cond (.t 19) .skip (.exit 0)) (.seq (.block 1 (.seq (.reg [⟨some 20,none,.ixa (.t 16) (.t 18) 5⟩,⟨some 21,none,.load (some 5) (.t 20)⟩,⟨some 6,none,.new [(.int .i64 0),(.int .i64 0),.nil0,(.str []),(.str [])]⟩,⟨none,none,.store 5 (.t 6) (.t 21)⟩]) (.seq (.reg [⟨some 22,none,.load (some 1) (.t 2)⟩,⟨some 23,none,.load (some 5) (.t 6)⟩,⟨some 24,none,.call f_change_Good [(.t 22),(.t 23)]⟩,⟨some 7,none,.mov (.t 24)⟩]) (.seq (.reg [⟨some 25,none,.mov (.t 7)⟩,⟨some 26,none,.bin .neq (.t 25) (.c (.int .i64 0))⟩]) (.cond (.t 26) (.seq (.reg [⟨some 27,none,.mov (.t 7)⟩,⟨some 4,none,.mov (.t 27)⟩]) .ret) .skip))))) (.reg [⟨some 28,none,.bin .add (.t 18) (.c (.int .i64 1))⟩,⟨some 18,none,.mov (.t 28)⟩]))))))) (.seq (.seq (.reg [⟨some 29,none,.mov (.t 1)⟩,⟨some 30,none,.len (.t 29)⟩,⟨some 31,none,.mov (.c (.int .i64 0))⟩]) (.block 2 (.loop (.seq (.reg [⟨some 32,none,.bin .lss (.t 31) (.t 30)⟩]) (.seq (.cond (.t 32) .skip (.exit 2)) (.seq (.block 3 (.seq (.reg [⟨some 33,none,.mov (.t 31)⟩,⟨some 34,none,.ixa (.t 29) (.t 31) 5⟩,⟨some 35,none,.load (some 5) (.t 34)⟩,⟨some 9,none,.new [(.int .i64 0),(.int .i64 0),.nil0,(.str []),(.str [])]⟩,⟨some 8,none,.mov (.t 33)⟩,⟨none,none,.store 5 (.t 9) (.t 35)⟩]) (.gh .weak (.seq (.reg [⟨some 36,none,.mov (.t 1)⟩,⟨some 37,none,.mov (.t 8)⟩,⟨some 38,none,.slc (.t 36) none (some (.t 37)) none 5⟩,⟨some 39,none,.mkf f_change_Check_1 [(.t 9)]⟩,⟨some 40,none,.call f_slices_ContainsFunc_Op_Op [(.t 38),(.t 39)]⟩]) (.cond (.t 40) (.seq (.reg [⟨some 4,none,.mov (.c (.int .i64 5))⟩]) .ret) .skip))))) (.reg [⟨some 41,none,.bin .add (.t 31) (.c (.int .i64 1))⟩,⟨some 31,none,.mov (.t 41)⟩]))))))) (.seq (.reg [⟨some 4,none,.mov (.c (.int .i64 0))⟩]) .ret))))))
theorem pCheck {f_change_Check f_doc_Good f_change_Good f_change_Check_1 f_slices_ContainsFunc_Op_Op : Nat} (hF : compF P G f_change_Check = some (42,[(none,4)],(c_change_Check f_doc_Good f_change_Good f_change_Check_1 f_slices_ContainsFunc_Op_Op).bare)) (d : Doc) (l : List Op) (hl : l.length ≤ B) (hG : PureC P G f_doc_Good [Doc.av d] (.bool (isDoc d)))
   (hO : ∀ o ∈ l,PureC P G f_change_Good [Doc.av d,o.av] (.int .i64 (goodOpF d o)))
   (hC : ∀ a ∈ l,∀ i,PureC P G f_slices_ContainsFunc_Op_Op [.list ((l.take i).map Op.iv),.fn f_change_Check_1 [] [.lptr a.cs]] (.bool ((l.take i).any (againstF a)))) :
   PureC P G f_change_Check [Doc.av d,.list (l.map Op.iv)] (.int .i64 (checkF d l)) := by
 refine pure_of_go hF (by simp) (by simp [lbss,AV.lbs,Op.av,Doc.av]) (by simp [AV.lbs]) ?_
 unfold c_change_Check
 have hBv : B = 1073741824 := rfl
 simp only [↓aX,mX,reduceCtorEq,Nat.reduceEqDiff,Nat.reduceLT,Nat.reduceLeDiff,Nat.reduceAdd,Nat.reduceMul,Int.reduceToNat,Int.reduceLE,Int.reduceLT,Op.av,Doc.av]
 refine callT_pure hG ?_
 unfold checkF
 cases hd : isDoc d with
 | false => simp only [↓aX,mX,reduceCtorEq,Nat.reduceEqDiff,Nat.reduceLT,Nat.reduceLeDiff,Nat.reduceAdd,Nat.reduceMul,Int.reduceToNat,Int.reduceLE,Int.reduceLT,Bool.not_false]; try rfl
 | true =>
   simp only [↓aX,mX,reduceCtorEq,Nat.reduceEqDiff,Nat.reduceLT,Nat.reduceLeDiff,Nat.reduceAdd,Nat.reduceMul,Int.reduceToNat,Int.reduceLE,Int.reduceLT,Bool.not_true,Op.av,Doc.av,List.length_map,gt_iff_lt]
   cases h1 : decide ((20 : Int) < (l.length : Int)) with
   | true =>
     simp only [↓aX,mX,reduceCtorEq,Nat.reduceEqDiff,Nat.reduceLT,Nat.reduceLeDiff,Nat.reduceAdd,Nat.reduceMul,Int.reduceToNat,Int.reduceLE,Int.reduceLT]
     have : 20 < l.length := by simp at h1; omega
     simp [this]
   | false =>
     simp only [↓aX,mX,reduceCtorEq,Nat.reduceEqDiff,Nat.reduceLT,Nat.reduceLeDiff,Nat.reduceAdd,Nat.reduceMul,Int.reduceToNat,Int.reduceLE,Int.reduceLT,List.length_map]
     have k1 : ¬ 20 < l.length := by simp at h1; omega
     rw [if_neg k1]
     refine loop_used (σ := { i : Nat // i ≤ l.length ∧ ∀ o ∈ l.take i,goodOpF d o = 0 }) (fun _ => [.loc 2]) (fun _ _ => false)
       (fun q => [(1,.list (l.map Op.iv)),(2,.ptr (.loc 2) 1 0 0),(16,.list (l.map Op.iv)),(17,.int .i64 l.length),(18,.int .i64 q.1)])
       (fun q => [(.loc 2,⟨1,[[.list (d.map Node.iv)]]⟩)]) (fun q => l.length - q.1) ⟨0,by simp⟩ (fun _ => rfl) (fun q => by simp [lbss,AV.lbs]) ?_ ⟨[],?_⟩ ?_
     · rintro q r hr cs hcs l' hl'
       simp only [List.mem_singleton] at hr; subst hr
       simp only [List.mem_singleton] at hcs; subst hcs; simp [lbss,AV.lbs] at hl'
     · refine ⟨?_,?_,?_,by simp [rnF],fun l _ => ⟨id,fun _ => rfl⟩⟩
       · intro l' hf hu
         exfalso; apply hu
         cases l' <;> simp_all [Lb.fresh,upd_at,Hp.none]
       · simp [EqL,rnF,ren,put,argE]
       · simp [RwL,rnF,upd_at,renR,rens,ren]
     · rintro ⟨i,hi,hs⟩
       rw [ofU_f]
       simp only [↓aX,mX,reduceCtorEq,Nat.reduceEqDiff,Nat.reduceLT,Nat.reduceLeDiff,Nat.reduceAdd,Nat.reduceMul,Int.reduceToNat,Int.reduceLE,Int.reduceLT,ofH_nil,ofH_cons,List.length_map]
       by_cases hlt : i < l.length
       · rw [show decide ((i : Int) < (l.length : Int)) = true by simpa using hlt]
         obtain ⟨o,ho⟩ : ∃ o,l[i]? = some o := ⟨_,List.getElem?_eq_getElem hlt⟩
         have hw : IntKind.i64.wrap ((i : Int) + 1) = ((i + 1 : Nat) : Int) := wrap64 (by omega) (by omega)
         have htk : l.take (i + 1) = l.take i ++ [o] := take_snoc' ho
         simp only [↓aX,mX,reduceCtorEq,Nat.reduceEqDiff,Nat.reduceLT,Nat.reduceLeDiff,Nat.reduceAdd,Nat.reduceMul,Int.reduceToNat,Int.reduceLE,Int.reduceLT,opGet,ho,Option.map_some,elszO,Op.cells_eq,Op.cs]
         refine callT_pure (hO o (List.mem_of_getElem? ho)) ?_
         simp only [↓aX,mX,reduceCtorEq,Nat.reduceEqDiff,Nat.reduceLT,Nat.reduceLeDiff,Nat.reduceAdd,Nat.reduceMul,Int.reduceToNat,Int.reduceLE,Int.reduceLT]
         cases h0 : (goodOpF d o != 0) with
         | true =>
           simp only [↓aX,mX,reduceCtorEq,Nat.reduceEqDiff,Nat.reduceLT,Nat.reduceLeDiff,Nat.reduceAdd,Nat.reduceMul,Int.reduceToNat,Int.reduceLE,Int.reduceLT,h0]
           have hf : l.find? (fun o => goodOpF d o != 0) = some o := by
             rw [List.find?_eq_some_iff_append]
             refine ⟨h0,l.take i,l.drop (i + 1),?_,fun a ha => by simp [hs a ha]⟩
             rw [← drop_eq ho,List.take_append_drop]
           rw [hf]
         | false =>
           simp only [↓aX,mX,reduceCtorEq,Nat.reduceEqDiff,Nat.reduceLT,Nat.reduceLeDiff,Nat.reduceAdd,Nat.reduceMul,Int.reduceToNat,Int.reduceLE,Int.reduceLT,h0,hw]
           refine ⟨⟨i + 1,hlt,fun a ha => ?_⟩,by simp only; omega,[],?_⟩
           · rw [htk,List.mem_append] at ha
             rcases ha with ha | ha
             · exact hs a ha
             · simp only [List.mem_singleton] at ha; subst ha; simpa using h0
           · refine ⟨?_,?_,?_,by simp [rnF],fun l _ => ⟨id,fun _ => rfl⟩⟩
             · intro l' hf hu
               exfalso; apply hu
               cases l' <;> simp_all [Lb.fresh,upd_at,Hp.none]
             · simp [EqL,rnF,ren,put,ofL]
             · simp [RwL,rnF,upd_at,renR,rens,ren]
       · have hil : i = l.length := by omega
         rw [show decide ((i : Int) < (l.length : Int)) = false by simpa using hlt]
         have hf : l.find? (fun o => goodOpF d o != 0) = none := by
           rw [List.find?_eq_none]
           intro a ha
           rw [hil,List.take_length] at hs
           simp [hs a ha]
         rw [hf]
         simp only [↓aX,mX,reduceCtorEq,Nat.reduceEqDiff,Nat.reduceLT,Nat.reduceLeDiff,Nat.reduceAdd,Nat.reduceMul,Int.reduceToNat,Int.reduceLE,Int.reduceLT,List.length_map]
         refine loop_data (σ := { j : Nat // j ≤ l.length ∧ twiceF [] l = twiceF (l.take j) (l.drop j) }) (fun q => [(1,.list (l.map Op.iv)),(29,.list (l.map Op.iv)),(30,.int .i64 l.length),(31,.int .i64 q.1)]) (fun q => l.length - q.1) ⟨0,by simp⟩ (fun _ => by simp [lbss,AV.lbs]) ?_ ?_
         · refine ⟨?_,?_⟩
           · simp only [↓aX,mX,reduceCtorEq,Nat.reduceEqDiff,Nat.reduceLT,Nat.reduceLeDiff,Nat.reduceAdd,Nat.reduceMul,Int.reduceToNat,Int.reduceLE,Int.reduceLT]
           · simp [EqI,put,ofL]
         · rintro ⟨j,hj,hs2⟩
           simp only [↓aX,mX,reduceCtorEq,Nat.reduceEqDiff,Nat.reduceLT,Nat.reduceLeDiff,Nat.reduceAdd,Nat.reduceMul,Int.reduceToNat,Int.reduceLE,Int.reduceLT,List.length_map]
           by_cases hlt2 : j < l.length
           · rw [show decide ((j : Int) < (l.length : Int)) = true by simpa using hlt2]
             obtain ⟨o,ho⟩ : ∃ o,l[j]? = some o := ⟨_,List.getElem?_eq_getElem hlt2⟩
             have hw : IntKind.i64.wrap ((j : Int) + 1) = ((j + 1 : Nat) : Int) := wrap64 (by omega) (by omega)
             simp only [↓aX,mX,reduceCtorEq,Nat.reduceEqDiff,Nat.reduceLT,Nat.reduceLeDiff,Nat.reduceAdd,Nat.reduceMul,Int.reduceToNat,Int.reduceLE,Int.reduceLT,opGet,ho,Option.map_some,elszO,Op.cells_eq,Op.cs,go_weak]
             refine ⟨_,_,weaker_frzp (d := 9) (l := .loc 9) (sz := 5) (y := o.iv) (by simp [put]) (by simp [upd_at]; rfl) rfl (flatO [o]),?_⟩
             have hsl : ((l.map Op.iv).take j).drop 0 = (l.take j).map Op.iv := by rw [List.drop_zero,List.map_take]
             have htk : l.take (j + 1) = l.take j ++ [o] := take_snoc' ho
             simp only [↓aX,mX,reduceCtorEq,Nat.reduceEqDiff,Nat.reduceLT,Nat.reduceLeDiff,Nat.reduceAdd,Nat.reduceMul,Int.reduceToNat,Int.reduceLE,Int.reduceLT,Op.cells_eq,slcV,cutB,bnd,elszO,List.length_map,hj,Int.natCast_nonneg,Int.toNat_natCast,and_self,Nat.zero_le,hsl,Option.isSome_none]
             have hc := hC o (List.mem_of_getElem? ho) j
             refine callT_pure hc ?_
             have hd2 : twiceF (l.take j) (l.drop j) = ((l.take j).any (againstF o) || twiceF (l.take (j + 1)) (l.drop (j + 1))) := by
               rw [drop_eq ho,htk]; rfl
             cases h0 : (l.take j).any (againstF o) with
             | true =>
               simp only [↓aX,mX,reduceCtorEq,Nat.reduceEqDiff,Nat.reduceLT,Nat.reduceLeDiff,Nat.reduceAdd,Nat.reduceMul,Int.reduceToNat,Int.reduceLE,Int.reduceLT]
               rw [hs2,hd2,h0]; simp
             | false =>
               simp only [↓aX,mX,reduceCtorEq,Nat.reduceEqDiff,Nat.reduceLT,Nat.reduceLeDiff,Nat.reduceAdd,Nat.reduceMul,Int.reduceToNat,Int.reduceLE,Int.reduceLT,hw]
               refine ⟨⟨j + 1,hlt2,by rw [hs2,hd2,h0]; simp⟩,by simp only; omega,rfl⟩
           · rw [show decide ((j : Int) < (l.length : Int)) = false by simpa using hlt2]
             have hjl : j = l.length := by omega
             simp only [↓aX,mX,reduceCtorEq,Nat.reduceEqDiff,Nat.reduceLT,Nat.reduceLeDiff,Nat.reduceAdd,Nat.reduceMul,Int.reduceToNat,Int.reduceLE,Int.reduceLT]
             rw [hs2,hjl]
             simp [twiceF]
end
end Go.Am

/- THE ABSTRACT MACHINE, part 52: calls that hand back a row of one's own. -/
namespace Go.Am
open Go Go.RowKit
section
variable {S : St} {f : Nat} {args : List AV} {sz : Nat} {xs : List IV} {H : Hp} {k : AV → Hp → Prop} {u : Tw k}
theorem callT_own (c : Nat) (h : OwnC S.P S.G f args sz xs) (ha : lbss args = []) (hN : ∀ l,H (NW c l) = .unused)
   (hk : ∀ l,k (.sl (NW c l) sz 0 xs.length) (upd H (NW c l) (.live ⟨sz,immE xs⟩))) : clK S f args H k u := by
 refine callT_sh (lab := Lb.par) (N := NW c) h (rens_nolb _ _ ha).symm ⟨fun p r hr => by simp [noSh] at hr,fun p q hp => absurd hp noSh_ok⟩ hN (NW_inj c) (fun l _ => .inr fun p hp => absurd hp noSh_ok) (by simp) ?_
 rintro X R2 lab2 H2 ⟨rfl,rfl⟩ g1 g2 g3 g4 g5 g6
 obtain ⟨l,hl⟩ : ∃ l,lab2 0 = NW c l := by
   rcases g3 0 (rwSh_ok.2 rfl) with ⟨p,hp,_⟩ | h
   · exact absurd hp noSh_ok
   · exact h
 have e : H2 = upd H (NW c l) (.live ⟨sz,immE xs⟩) := by
   funext q
   by_cases hq : q = NW c l
   · subst hq
     rw [upd_at,if_pos rfl,← hl]
     exact g1.row 0 _ (by simp [rwSh])
   · rw [upd_ne _ _ hq]
     by_cases hq2 : ∃ l',q = NW c l'
     · obtain ⟨l',rfl⟩ := hq2
       rw [hN l',g6 l' fun p hp => by rw [rwSh_ok.1 hp,hl]; exact Ne.symm hq]
     · exact g4 q (fun p hp => absurd hp noSh_ok) fun l' e => hq2 ⟨l',e⟩
 rw [e]
 have := hk l
 simpa only [hl] using this
theorem far_own {F : List Lb} (c : Nat) (h : OwnC S.P S.G f args sz xs) (ha : lbss args = []) (hN : ∀ l,H (NW c l) = .unused) (hF : Lb.nest (.loc c) 0 1 ∉ F)
   (hk : ∀ l,k (.sl (NW c l) sz 0 xs.length) (upd H (NW c l) (.live ⟨sz,immE xs⟩))) : farK S F f args H k u := by
 refine ⟨fun x H' => ∃ l,x = .sl (NW c l) sz 0 xs.length ∧ H' = upd H (NW c l) (.live ⟨sz,immE xs⟩),?_,⟨_,_,.loc 0,rfl,rfl⟩,?_⟩
 · exact callT_own (k := fun x H' => ∃ l,x = .sl (NW c l) sz 0 xs.length ∧ H' = upd H (NW c l) (.live ⟨sz,immE xs⟩)) (u := .mk) c h ha hN fun l => ⟨l,rfl,rfl⟩
 · rintro x H' ⟨l,rfl,rfl⟩
   refine ⟨fun q hq => ?_,hk l⟩
   rw [upd_ne]
   rintro rfl
   exact hF hq
theorem af_mks {env : Env} (R W : List Lb) (q : Nat) (n c : O) (sz b : Nat) (z : List AV) (k : AV → Hp → Prop) : Act1f S (.rw R W) (some q) (.mks n c sz b z) env H k =
   pK (mksV sz b q z (ev env n) (ev env c) H) (fun y H' => Lb.loc q ∈ W ∧ k y H') .mk := by
 simp [Act1f,memV,readsL,writesL,pK,Lb.fam]
theorem mks_len {sz b d m : Nat} {z : List AV} (hb : m * b ≤ 140737488355328) (hu : H (.loc d) = .unused) :
   mksV sz b d z (.int .i64 (m : Int)) (.int .i64 (m : Int)) H = some (.sl (.loc d) sz 0 m,upd H (.loc d) (.live ⟨sz,List.replicate m z⟩)) := by
 simp [mksV,hu,hb]
end
end Go.Am
