import Derived.Test.YtfinkeaikbmpgaaKT92
import Derived.Test.YtfinkeaikbmpgaaKC6
set_option linter.unusedSimpArgs false
set_option linter.unusedVariables false
set_option linter.unnecessarySimpa false
set_option linter.defProp false
/- topiarykeep: what comes of changes is good; all at once. -/
set_option pp.deepTerms false
set_option pp.deepTerms.threshold 5
set_option maxRecDepth 20000
namespace Go.Am
open Go Go.RowKit
def opsB (l : List Op) : Prop := l.length ≤ 2 ^ 22 ∧ ∀ o ∈ l,wtT o.content ≤ 2 ^ 22 ∧ o.name.length ≤ 2 ^ 22 ∧ o.s.length ≤ 2 ^ 22
def ApplyC (P : Program) (G : Nat → Option (List IV)) (f : Nat) : Prop := ∀ (d : Doc) (l : List Op),wtN d ≤ 2 ^ 22 → opsB l → PureC P G f [Doc.av d,.list (l.map Op.iv)] (.tup [Doc.av (applyF d l).1,.int .i64 (applyF d l).2])
def SameDC (P : Program) (G : Nat → Option (List IV)) (f : Nat) : Prop := ∀ d e : Doc,wtN d ≤ B → PureC P G f [Doc.av d,Doc.av e] (.bool (eqB d e))
section
variable {P : Program} {G : Nat → Option (List IV)}
theorem nil_args {f : Nat} {x : AV} {res : AV} (h : PureC P G f [x,.list []] res) : PureC P G f [x,.nil0] res := by
 refine pure_args h ?_ ?_
 · have := h.1
   simpa [lbss,AV.lbs] using this
 · intro w β H I vs hv
   simp only [RVs] at hv ⊢
   obtain ⟨v,us,rfl,h1,v2,us2,rfl,h2,rfl⟩ := hv
   exact ⟨v,_,rfl,h1,v2,_,rfl,nil_list h2,rfl⟩
def docK : Doc := [⟨false,[97],[],-1,[1]⟩,⟨false,[98],[],0,[]⟩]
def opsK : List Op := [⟨3,1,[.mk false [99] [] []],[],[]⟩,⟨8,1,[],[101],[]⟩]
theorem changesK : applyF docK opsK = (docOf (.mk false [97] [] [.mk false [99] [] [],.mk false [101] [] []]),0) := by
 have ht : (Tree.mk false [97] [] [.mk false [98] [] []]).good = true := by decide
 have hs : Sub 0 (-1) (Tree.mk false [97] [] [.mk false [98] [] []]) 1 0 (.mk false [98] [] []) := .kid [] [] _ rfl (.self _ _ _)
 have hc : checkF (docOf (.mk false [97] [] [.mk false [98] [] []])) opsK = 0 := by
   refine (check_zero ht).2 ⟨?_,by decide,by unfold opsK; simp [againstF,attrK]⟩
   intro o ho
   simp only [opsK,List.mem_cons,List.not_mem_nil,or_false] at ho
   rcases ho with rfl | rfl
   · exact ⟨⟨1,0,_,hs,rfl,by decide⟩,by decide,by decide⟩
   · exact ⟨⟨1,0,_,hs,rfl,by decide⟩,by decide,by decide⟩
 have e : docK = docOf (.mk false [97] [] [.mk false [98] [] []]) := rfl
 rw [e,applyF_doc ht hc]
 have hT : applyT (.mk false [97] [] [.mk false [98] [] []]) opsK = .mk false [97] [] [.mk false [99] [] [],.mk false [101] [] []] := rfl
 rw [hT]
 rfl
def c_topiarykeep_changes (f_change_Apply : Nat) : AC :=
(.seq (.reg [⟨some 0,none,.mov (.c (.bool false))⟩]) (.seq (.reg [⟨some 4,none,.lits 1 1 [(.int .i64 0)] [(0,(.c (.int .i64 1)))]⟩,⟨some 5,none,(.bld [(.bool false),(.str []),.nil0,(.int .i64 0),.nil0] [(1,(1,(.c (.str [97])))),(3,(1,(.c (.int .i64 (-1))))),(4,(1,(.t 4)))])⟩,⟨some 6,none,(.bld [(.bool false),(.str []),.nil0,(.int .i64 0),.nil0] [(1,(1,(.c (.str [98])))),(3,(1,(.c (.int .i64 0))))])⟩,⟨some 7,none,.lits 2 5 [(.bool false),(.str []),.nil0,(.int .i64 0),.nil0] [(0,(.t 5)),(1,(.t 6))]⟩,⟨some 8,none,.bld [.nil0] [(0,(1,(.t 7)))]⟩,⟨some 1,none,.new [.nil0]⟩,⟨none,none,.store 1 (.t 1) (.t 8)⟩]) (.seq (.reg [⟨some 10,none,.load (some 1) (.t 1)⟩,⟨some 11,none,(.bld [(.bool false),(.str []),.nil0,.nil0] [(1,(1,(.c (.str [99]))))])⟩,⟨some 12,none,.lits 1 4 [(.bool false),(.str []),.nil0,.nil0] [(0,(.t 11))]⟩,⟨some 13,none,(.bld [(.int .i64 0),(.int .i64 0),.nil0,(.str []),(.str [])] [(0,(1,(.c (.int .i64 3)))),(1,(1,(.c (.int .i64 1)))),(2,(1,(.t 12)))])⟩,⟨some 14,none,(.bld [(.int .i64 0),(.int .i64 0),.nil0,(.str []),(.str [])] [(0,(1,(.c (.int .i64 8)))),(1,(1,(.c (.int .i64 1)))),(3,(1,(.c (.str [101]))))])⟩,⟨some 15,none,.lits 2 5 [(.int .i64 0),(.int .i64 0),.nil0,(.str []),(.str [])] [(0,(.t 13)),(1,(.t 14))]⟩,⟨some 16,none,.call f_change_Apply [(.t 10),(.t 15)]⟩,⟨some 9,none,.mov (.t 16)⟩,⟨some 17,none,.ext (.t 9) 0⟩,⟨some 18,none,.ext (.t 9) 1⟩,⟨some 2,none,.new [.nil0]⟩,⟨none,none,.store 1 (.t 2) (.t 17)⟩,⟨some 3,none,.mov (.t 18)⟩]) (.seq (.reg [⟨some 19,none,.mov (.t 3)⟩,⟨some 20,none,.bin .eql (.t 19) (.c (.int .i64 0))⟩,⟨some 21,none,.mov (.t 20)⟩,⟨some 22,(some (21,true)),(.fld (.t 2) 0)⟩,⟨some 23,(some (21,true)),(.load none (.t 22))⟩,⟨some 24,(some (21,true)),(.len (.t 23))⟩,⟨some 25,(some (21,true)),(.bin .eql (.t 24) (.c (.int .i64 3)))⟩,⟨some 26,none,.pick (.t 21) (.t 25) (.c (.bool false))⟩,⟨some 27,none,.mov (.t 26)⟩,⟨some 28,(some (27,true)),(.fld (.t 2) 0)⟩,⟨some 29,(some (27,true)),(.load none (.t 28))⟩,⟨some 30,(some (27,true)),(.ixa (.t 29) (.c (.int .i64 1)) 5)⟩,⟨some 31,(some (27,true)),(.fld (.t 30) 1)⟩,⟨some 32,(some (27,true)),(.load none (.t 31))⟩,⟨some 33,(some (27,true)),(.bin .eql (.t 32) (.c (.str [99])))⟩,⟨some 34,none,.pick (.t 27) (.t 33) (.c (.bool false))⟩,⟨some 35,none,.mov (.t 34)⟩,⟨some 36,(some (35,true)),(.fld (.t 2) 0)⟩,⟨some 37,(some (35,true)),(.load none (.t 36))⟩,⟨some 38,(some (35,true)),(.ixa (.t 37) (.c (.int .i64 2)) 5)⟩,⟨some 39,(some (35,true)),(.fld (.t 38) 1)⟩,⟨some 40,(some (35,true)),(.load none (.t 39))⟩,⟨some 41,(some (35,true)),(.bin .eql (.t 40) (.c (.str [101])))⟩,⟨some 42,none,.pick (.t 35) (.t 41) (.c (.bool false))⟩,⟨some 0,none,.mov (.t 42)⟩]) .ret))))
theorem pChanges {f_topiarykeep_changes f_change_Apply : Nat} (hF : compF P G f_topiarykeep_changes = some (43,[(none,0)],(c_topiarykeep_changes f_change_Apply).bare)) (hA : ApplyC P G f_change_Apply) : PureC P G f_topiarykeep_changes [] (.bool true) := by
 refine pure_of_go hF (by simp) (by simp [lbss,AV.lbs]) (by simp [AV.lbs]) ?_
 have h := hA docK opsK (by decide) ⟨by decide,by
   intro o ho
   simp only [opsK,List.mem_cons,List.not_mem_nil,or_false] at ho
   rcases ho with rfl | rfl <;> decide⟩
 rw [changesK] at h
 unfold c_topiarykeep_changes
 simp only [↓aX,mX,reduceCtorEq,Nat.reduceEqDiff,Nat.reduceLT,Nat.reduceLeDiff,Nat.reduceAdd,Nat.reduceMul,Int.reduceToNat,Int.reduceLE,Int.reduceLT,List.replicate,List.flatten_cons,List.flatten_nil,List.append_nil,List.length_append]
 refine callT_pure (h.of rfl) ?_
 have e : (Doc.av (docOf (.mk false [97] [] [.mk false [99] [] [],.mk false [101] [] []])) : AV) = .agg [.list [.agg [.bool false,.str [97],.list [],.int .i64 (-1),.list [.int .i64 1,.int .i64 2]],.agg [.bool false,.str [99],.list [],.int .i64 0,.list []],.agg [.bool false,.str [101],.list [],.int .i64 0,.list []]]] := rfl
 rw [e]
 have he : Elsz 5 [IV.agg [.bool false,.str [97],.list [],.int .i64 (-1),.list [.int .i64 1,.int .i64 2]],.agg [.bool false,.str [99],.list [],.int .i64 0,.list []],.agg [.bool false,.str [101],.list [],.int .i64 0,.list []]] := by simp [Elsz,IV.cells]
 simp only [↓aX,mX,reduceCtorEq,Nat.reduceEqDiff,Nat.reduceLT,Nat.reduceLeDiff,Nat.reduceAdd,Nat.reduceMul,Int.reduceToNat,Int.reduceLE,Int.reduceLT,Int.reduceBEq,show (((3 : Nat) : Int) == 3) = true from rfl,he]
def c_topiarykeep_ChangeGood (f_change_Apply f_topiarykeep_changes f_topiarykeep_sameDoc f_doc_Good f_change_Check : Nat) : AC :=
(.seq (.reg [⟨some 2,none,.box (.t 0)⟩,⟨some 4,none,.mov (.c (.bool false))⟩]) (.seq (.reg [⟨some 10,none,.load (some 1) (.t 2)⟩,⟨some 11,none,.mov (.t 1)⟩,⟨some 12,none,.call f_change_Apply [(.t 10),(.t 11)]⟩,⟨some 9,none,.mov (.t 12)⟩,⟨some 13,none,.ext (.t 9) 0⟩,⟨some 14,none,.ext (.t 9) 1⟩,⟨some 5,none,.new [.nil0]⟩,⟨none,none,.store 1 (.t 5) (.t 13)⟩,⟨some 6,none,.mov (.t 14)⟩]) (.seq (.seq (.reg [⟨some 15,none,.mov (.t 6)⟩,⟨some 16,none,.bin .neq (.t 15) (.c (.int .i64 0))⟩,⟨some 17,none,.mov (.t 16)⟩,⟨some 18,(some (17,false)),(.call f_topiarykeep_changes [])⟩,⟨some 19,(some (17,false)),(.not (.t 18))⟩,⟨some 20,none,.pick (.t 17) (.c (.bool true)) (.t 19)⟩]) (.cond (.t 20) (.seq (.reg [⟨some 21,none,.load (some 1) (.t 5)⟩,⟨some 22,none,.load (some 1) (.t 2)⟩,⟨some 23,none,.call f_topiarykeep_sameDoc [(.t 21),(.t 22)]⟩,⟨some 24,none,.mov (.t 23)⟩,⟨some 25,(some (24,true)),(.call f_topiarykeep_changes [])⟩,⟨some 26,none,.pick (.t 24) (.t 25) (.c (.bool false))⟩,⟨some 4,none,.mov (.t 26)⟩]) .ret) .skip)) (.seq (.reg [⟨some 28,none,.load (some 1) (.t 2)⟩,⟨some 29,none,.call f_change_Apply [(.t 28),(.c .nil0)]⟩,⟨some 27,none,.mov (.t 29)⟩,⟨some 30,none,.ext (.t 27) 0⟩,⟨some 31,none,.ext (.t 27) 1⟩,⟨some 7,none,.new [.nil0]⟩,⟨none,none,.store 1 (.t 7) (.t 30)⟩,⟨some 8,none,.mov (.t 31)⟩]) (.seq (.reg [⟨some 32,none,.load (some 1) (.t 5)⟩,⟨some 33,none,.call f_doc_Good [(.t 32)]⟩,⟨some 34,none,.mov (.t 33)⟩,⟨some 35,(some (34,true)),(.mov (.t 8))⟩,⟨some 36,(some (34,true)),(.bin .eql (.t 35) (.c (.int .i64 0)))⟩,⟨some 37,none,.pick (.t 34) (.t 36) (.c (.bool false))⟩,⟨some 38,none,.mov (.t 37)⟩,⟨some 39,(some (38,true)),(.load (some 1) (.t 7))⟩,⟨some 40,(some (38,true)),(.load (some 1) (.t 2))⟩,⟨some 41,(some (38,true)),(.call f_topiarykeep_sameDoc [(.t 39),(.t 40)])⟩,⟨some 42,none,.pick (.t 38) (.t 41) (.c (.bool false))⟩,⟨some 43,none,.mov (.t 42)⟩,⟨some 44,(some (43,true)),(.load (some 1) (.t 2))⟩,⟨some 45,(some (43,true)),(.mov (.t 1))⟩,⟨some 46,(some (43,true)),(.call f_change_Check [(.t 44),(.t 45)])⟩,⟨some 47,(some (43,true)),(.bin .eql (.t 46) (.c (.int .i64 0)))⟩,⟨some 48,none,.pick (.t 43) (.t 47) (.c (.bool false))⟩,⟨some 4,none,.mov (.t 48)⟩]) .ret)))))
theorem pLawChangeGood {f_topiarykeep_ChangeGood f_change_Apply f_topiarykeep_changes f_topiarykeep_sameDoc f_doc_Good f_change_Check : Nat} (hF : compF P G f_topiarykeep_ChangeGood = some (49,[(none,4)],(c_topiarykeep_ChangeGood f_change_Apply f_topiarykeep_changes f_topiarykeep_sameDoc f_doc_Good f_change_Check).bare)) (d : Doc) (l : List Op) (hd : wtN d ≤ 2 ^ 22) (hl : opsB l)
   (hA : ApplyC P G f_change_Apply) (hC : PureC P G f_topiarykeep_changes [] (.bool true)) (hS : SameDC P G f_topiarykeep_sameDoc) (hG : ∀ e : Doc,wtN e ≤ B → PureC P G f_doc_Good [Doc.av e] (.bool (isDoc e)))
   (hK : PureC P G f_change_Check [Doc.av d,.list (l.map Op.iv)] (.int .i64 (checkF d l))) : PureC P G f_topiarykeep_ChangeGood [Doc.av d,.list (l.map Op.iv)] (.bool true) := by
 refine pure_of_go hF (by simp) (by simp [lbss,AV.lbs,Doc.av]) (by simp [AV.lbs]) ?_
 have hBv : B = 1073741824 := rfl
 have h22 : (2 : Nat) ^ 22 = 4194304 := by decide
 unfold c_topiarykeep_ChangeGood
 simp only [↓aX,mX,reduceCtorEq,Nat.reduceEqDiff,Nat.reduceLT,Nat.reduceLeDiff,Nat.reduceAdd,Nat.reduceMul,Int.reduceToNat,Int.reduceLE,Int.reduceLT,Doc.av]
 refine callT_pure (hA d l hd hl) ?_
 simp only [↓aX,mX,reduceCtorEq,Nat.reduceEqDiff,Nat.reduceLT,Nat.reduceLeDiff,Nat.reduceAdd,Nat.reduceMul,Int.reduceToNat,Int.reduceLE,Int.reduceLT,Doc.av]
 by_cases he : (applyF d l).2 = 0
 · obtain ⟨t,ht,rfl,hc,hg,h1⟩ := applyF_ok he
   rw [he,h1]
   have hw : wtN (docOf (applyT t l)) ≤ B := by have := wt_docOf (applyT t l); have := good_wt hg; omega
   simp only [↓aX,mX,reduceCtorEq,Nat.reduceEqDiff,Nat.reduceLT,Nat.reduceLeDiff,Nat.reduceAdd,Nat.reduceMul,Int.reduceToNat,Int.reduceLE,Int.reduceLT,Int.reduceBNe]
   refine callT_pure hC ?_
   simp only [↓aX,mX,reduceCtorEq,Nat.reduceEqDiff,Nat.reduceLT,Nat.reduceLeDiff,Nat.reduceAdd,Nat.reduceMul,Int.reduceToNat,Int.reduceLE,Int.reduceLT]
   refine callT_pure (nil_args (hA (docOf t) [] hd ⟨by simp,by simp⟩)) ?_
   rw [applyF_nil (isDoc_of ht)]
   simp only [↓aX,mX,reduceCtorEq,Nat.reduceEqDiff,Nat.reduceLT,Nat.reduceLeDiff,Nat.reduceAdd,Nat.reduceMul,Int.reduceToNat,Int.reduceLE,Int.reduceLT,Doc.av]
   refine callT_pure (hG _ hw) ?_
   rw [isDoc_of hg]
   simp only [↓aX,mX,reduceCtorEq,Nat.reduceEqDiff,Nat.reduceLT,Nat.reduceLeDiff,Nat.reduceAdd,Nat.reduceMul,Int.reduceToNat,Int.reduceLE,Int.reduceLT,Int.reduceBEq]
   refine callT_pure (hS (docOf t) (docOf t) (by omega)) ?_
   rw [eqB_self]
   simp only [↓aX,mX,reduceCtorEq,Nat.reduceEqDiff,Nat.reduceLT,Nat.reduceLeDiff,Nat.reduceAdd,Nat.reduceMul,Int.reduceToNat,Int.reduceLE,Int.reduceLT]
   refine callT_pure hK ?_
   rw [hc]
   simp only [↓aX,mX,reduceCtorEq,Nat.reduceEqDiff,Nat.reduceLT,Nat.reduceLeDiff,Nat.reduceAdd,Nat.reduceMul,Int.reduceToNat,Int.reduceLE,Int.reduceLT,Int.reduceBEq]
 · rw [applyF_bad he,show ((applyF d l).2 != 0) = true by simpa using he]
   simp only [↓aX,mX,reduceCtorEq,Nat.reduceEqDiff,Nat.reduceLT,Nat.reduceLeDiff,Nat.reduceAdd,Nat.reduceMul,Int.reduceToNat,Int.reduceLE,Int.reduceLT]
   refine callT_pure (hS d d (by omega)) ?_
   rw [eqB_self]
   simp only [↓aX,mX,reduceCtorEq,Nat.reduceEqDiff,Nat.reduceLT,Nat.reduceLeDiff,Nat.reduceAdd,Nat.reduceMul,Int.reduceToNat,Int.reduceLE,Int.reduceLT]
   refine callT_pure hC ?_
   simp only [↓aX,mX,reduceCtorEq,Nat.reduceEqDiff,Nat.reduceLT,Nat.reduceLeDiff,Nat.reduceAdd,Nat.reduceMul,Int.reduceToNat,Int.reduceLE,Int.reduceLT]
theorem immO_set (l : List Op) (i : Nat) (o : Op) : (immE (l.map Op.iv)).set i [.int .i64 o.kind,.int .i64 o.target,.list (ivT o.content),.str o.name,.str o.s] = immE ((l.set i o).map Op.iv) := by
 simp [immE,List.map_set,Op.iv,Op.cs,IV.cells,IV.av1]
theorem immO_get {l : List Op} {i : Nat} {o : Op} (h : l[i]? = some o) : (immE (l.map Op.iv))[i]? = some [.int .i64 o.kind,.int .i64 o.target,.list (ivT o.content),.str o.name,.str o.s] := by
 simp [immE,h,Op.iv,Op.cs,IV.cells,IV.av1]
theorem swap_split {l : List Op} {m : Nat} {a b : Op} (ha : l[m]? = some a) (hb : l[m + 1]? = some b) : l = l.take m ++ a :: b :: l.drop (m + 2) ∧ (l.set m b).set (m + 1) a = l.take m ++ b :: a :: l.drop (m + 2) := by
 have e : l = l.take m ++ a :: b :: l.drop (m + 2) := by
   rw [← drop_eq hb,← drop_eq ha,List.take_append_drop]
 have hl : (l.take m).length = m := by have := (List.getElem?_eq_some_iff.1 ha).1; simp; omega
 refine ⟨e,?_⟩
 obtain ⟨p,hp⟩ : ∃ p,p = l.take m := ⟨_,rfl⟩
 obtain ⟨q,hq⟩ : ∃ q,q = l.drop (m + 2) := ⟨_,rfl⟩
 rw [← hp,← hq] at e ⊢
 rw [← hp] at hl
 rw [e,List.set_append_right _ _ (by omega),List.set_append_right _ _ (by omega),hl]
 simp
def c_topiarykeep_ChangeOrder (f_topiarykeep_changes f_topiarykeep_pick f_change_Apply f_topiarykeep_sameDoc : Nat) : AC :=
(.seq (.reg [⟨some 3,none,.box (.t 0)⟩,⟨some 6,none,.mov (.c (.bool false))⟩]) (.seq (.seq (.reg [⟨some 14,none,.mov (.t 1)⟩,⟨some 15,none,.len (.t 14)⟩,⟨some 16,none,.bin .lss (.t 15) (.c (.int .i64 2))⟩]) (.cond (.t 16) (.seq (.reg [⟨some 17,none,.call f_topiarykeep_changes []⟩,⟨some 6,none,.mov (.t 17)⟩]) .ret) .skip)) (.seq (.reg [⟨some 18,none,.mov (.t 2)⟩,⟨some 19,none,.mov (.t 1)⟩,⟨some 20,none,.len (.t 19)⟩,⟨some 21,none,.bin .sub (.t 20) (.c (.int .i64 1))⟩,⟨some 22,none,.call f_topiarykeep_pick [(.t 18),(.t 21)]⟩,⟨some 2,none,.mov (.t 22)⟩]) (.seq (.dreg [⟨some 23,none,.mov (.t 1)⟩,⟨some 24,none,.mov (.t 2)⟩,⟨some 25,none,.ixa (.t 23) (.t 24) 5⟩,⟨some 26,none,.load (some 5) (.t 25)⟩,⟨some 27,none,.mov (.t 1)⟩,⟨some 28,none,.mov (.t 2)⟩,⟨some 29,none,.bin .add (.t 28) (.c (.int .i64 1))⟩,⟨some 30,none,.ixa (.t 27) (.t 29) 5⟩,⟨some 31,none,.load (some 5) (.t 30)⟩,⟨some 7,none,.new [(.int .i64 0),(.int .i64 0),.nil0,(.str []),(.str [])]⟩,⟨some 8,none,.new [(.int .i64 0),(.int .i64 0),.nil0,(.str []),(.str [])]⟩,⟨none,none,.store 5 (.t 7) (.t 26)⟩,⟨none,none,.store 5 (.t 8) (.t 31)⟩] [[],[],[0,1],[2],[],[],[5],[4,6],[7],[],[],[9,3,0,1,2,3,9,10],[10,8,11,0,1,2,3,4,5,6,7,8,9,10,11]] [.no,.no,.no,.no,.no,.no,.no,.no,.no,.rw [] [.loc 7],.rw [] [.loc 8],.rw [] [.loc 7],.rw [] [.loc 8]]) (.seq (.seq (.reg [⟨some 32,none,.fld (.t 7) 0⟩,⟨some 33,none,.load none (.t 32)⟩,⟨some 34,none,.fld (.t 8) 0⟩,⟨some 35,none,.load none (.t 34)⟩,⟨some 36,none,.bin .eql (.t 33) (.t 35)⟩,⟨some 37,none,.mov (.t 36)⟩,⟨some 38,(some (37,true)),(.fld (.t 7) 1)⟩,⟨some 39,(some (37,true)),(.load none (.t 38))⟩,⟨some 40,(some (37,true)),(.fld (.t 8) 1)⟩,⟨some 41,(some (37,true)),(.load none (.t 40))⟩,⟨some 42,(some (37,true)),(.bin .eql (.t 39) (.t 41))⟩,⟨some 43,none,.pick (.t 37) (.t 42) (.c (.bool false))⟩]) (.cond (.t 43) (.seq (.reg [⟨some 44,none,.call f_topiarykeep_changes []⟩,⟨some 6,none,.mov (.t 44)⟩]) .ret) .skip)) (.seq (.reg [⟨some 45,none,.mov (.t 1)⟩,⟨some 46,none,.app (.c .nil0) (.t 45) 5 72⟩,⟨some 9,none,.mov (.t 46)⟩]) (.seq (.dreg [⟨some 47,none,.mov (.t 9)⟩,⟨some 48,none,.mov (.t 2)⟩,⟨some 49,none,.mov (.t 9)⟩,⟨some 50,none,.mov (.t 2)⟩,⟨some 51,none,.bin .add (.t 50) (.c (.int .i64 1))⟩,⟨some 52,none,.load (some 5) (.t 8)⟩,⟨some 53,none,.load (some 5) (.t 7)⟩,⟨some 54,none,.ixa (.t 47) (.t 48) 5⟩,⟨none,none,.store 5 (.t 54) (.t 52)⟩,⟨some 55,none,.ixa (.t 49) (.t 51) 5⟩,⟨none,none,.store 5 (.t 55) (.t 53)⟩] [[],[],[],[],[3],[],[],[0,1,0,1,5],[7,5,0,1,5],[2,4,0,1,2,3,4,5,6,7,8],[9,6,8,0,1,2,3,4,5,6,7,8]] [.no,.no,.no,.no,.no,.rw [.loc 8] [],.rw [.loc 7] [],.no,(.rw [] [(.loc 46)]),.no,(.rw [] [(.loc 46)])]) (.gh (.frz (.loc 46) 9) (.seq (.reg [⟨some 57,none,.load (some 1) (.t 3)⟩,⟨some 58,none,.mov (.t 1)⟩,⟨some 59,none,.call f_change_Apply [(.t 57),(.t 58)]⟩,⟨some 56,none,.mov (.t 59)⟩,⟨some 60,none,.ext (.t 56) 0⟩,⟨some 61,none,.ext (.t 56) 1⟩,⟨some 10,none,.new [.nil0]⟩,⟨none,none,.store 1 (.t 10) (.t 60)⟩,⟨some 11,none,.mov (.t 61)⟩]) (.seq (.reg [⟨some 63,none,.load (some 1) (.t 3)⟩,⟨some 64,none,.mov (.t 9)⟩,⟨some 65,none,.call f_change_Apply [(.t 63),(.t 64)]⟩,⟨some 62,none,.mov (.t 65)⟩,⟨some 66,none,.ext (.t 62) 0⟩,⟨some 67,none,.ext (.t 62) 1⟩,⟨some 12,none,.new [.nil0]⟩,⟨none,none,.store 1 (.t 12) (.t 66)⟩,⟨some 13,none,.mov (.t 67)⟩]) (.seq (.reg [⟨some 68,none,.mov (.t 11)⟩,⟨some 69,none,.bin .eql (.t 68) (.c (.int .i64 0))⟩,⟨some 70,none,.mov (.t 13)⟩,⟨some 71,none,.bin .eql (.t 70) (.c (.int .i64 0))⟩,⟨some 72,none,.eqb false (.t 69) (.t 71)⟩,⟨some 73,none,.mov (.t 72)⟩,⟨some 74,(some (73,true)),(.load (some 1) (.t 10))⟩,⟨some 75,(some (73,true)),(.load (some 1) (.t 12))⟩,⟨some 76,(some (73,true)),(.call f_topiarykeep_sameDoc [(.t 74),(.t 75)])⟩,⟨some 77,none,.pick (.t 73) (.t 76) (.c (.bool false))⟩,⟨some 78,none,.mov (.t 77)⟩,⟨some 79,(some (78,true)),(.call f_topiarykeep_changes [])⟩,⟨some 80,none,.pick (.t 78) (.t 79) (.c (.bool false))⟩,⟨some 6,none,.mov (.t 80)⟩]) .ret)))))))))))
theorem pLawChangeOrder {f_topiarykeep_ChangeOrder f_topiarykeep_changes f_topiarykeep_pick f_change_Apply f_topiarykeep_sameDoc : Nat} (hF : compF P G f_topiarykeep_ChangeOrder = some (81,[(none,6)],(c_topiarykeep_ChangeOrder f_topiarykeep_changes f_topiarykeep_pick f_change_Apply f_topiarykeep_sameDoc).bare)) (d : Doc) (l : List Op) (k : Int) (hd : wtN d ≤ 2 ^ 22) (hl : opsB l)
   (hA : ApplyC P G f_change_Apply) (hC : PureC P G f_topiarykeep_changes [] (.bool true)) (hS : SameDC P G f_topiarykeep_sameDoc)
   (hP : ∀ n : Int,0 < n → n ≤ B → PureC P G f_topiarykeep_pick [.int .i64 k,.int .i64 n] (.int .i64 (pickF k n))) : PureC P G f_topiarykeep_ChangeOrder [Doc.av d,.list (l.map Op.iv),.int .i64 k] (.bool true) := by
 refine pure_of_go hF (by simp) (by simp [lbss,AV.lbs,Doc.av]) (by simp [AV.lbs]) ?_
 have hBv : B = 1073741824 := rfl
 have h22 : (2 : Nat) ^ 22 = 4194304 := by decide
 obtain ⟨hl1,hl2⟩ := hl
 unfold c_topiarykeep_ChangeOrder
 simp only [↓aX,mX,reduceCtorEq,Nat.reduceEqDiff,Nat.reduceLT,Nat.reduceLeDiff,Nat.reduceAdd,Nat.reduceMul,Int.reduceToNat,Int.reduceLE,Int.reduceLT,Doc.av,List.length_map]
 cases h2 : decide ((l.length : Int) < 2) with
 | true =>
   simp only [↓aX,mX,reduceCtorEq,Nat.reduceEqDiff,Nat.reduceLT,Nat.reduceLeDiff,Nat.reduceAdd,Nat.reduceMul,Int.reduceToNat,Int.reduceLE,Int.reduceLT]
   refine callT_pure hC ?_
   simp only [↓aX,mX,reduceCtorEq,Nat.reduceEqDiff,Nat.reduceLT,Nat.reduceLeDiff,Nat.reduceAdd,Nat.reduceMul,Int.reduceToNat,Int.reduceLE,Int.reduceLT]
 | false =>
   have h2' : 2 ≤ l.length := by simp at h2; omega
   have hw : IntKind.i64.wrap ((l.length : Int) - 1) = (l.length : Int) - 1 := wrap64 (by omega) (by omega)
   simp only [↓aX,mX,reduceCtorEq,Nat.reduceEqDiff,Nat.reduceLT,Nat.reduceLeDiff,Nat.reduceAdd,Nat.reduceMul,Int.reduceToNat,Int.reduceLE,Int.reduceLT,List.length_map,hw]
   refine callT_pure (hP _ (by omega) (by omega)) ?_
   obtain ⟨hk0,hk1⟩ := pickF_rng (k := k) (n := (l.length : Int) - 1) (by omega)
   obtain ⟨m,hm⟩ : ∃ m : Nat,pickF k ((l.length : Int) - 1) = (m : Int) := ⟨_,(Int.toNat_of_nonneg hk0).symm⟩
   rw [hm] at hk1 ⊢
   have hm1 : m + 1 < l.length := by omega
   obtain ⟨a,ha⟩ : ∃ a,l[m]? = some a := ⟨_,List.getElem?_eq_getElem (by omega)⟩
   obtain ⟨b,hb⟩ : ∃ b,l[m + 1]? = some b := ⟨_,List.getElem?_eq_getElem hm1⟩
   have hw1 : IntKind.i64.wrap ((m : Int) + 1) = ((m + 1 : Nat) : Int) := wrap64 (by omega) (by omega)
   simp only [↓aX,mX,reduceCtorEq,Nat.reduceEqDiff,Nat.reduceLT,Nat.reduceLeDiff,Nat.reduceAdd,Nat.reduceMul,Int.reduceToNat,Int.reduceLE,Int.reduceLT,opGet,ha,hb,Option.map_some,elszO,Op.cells_eq,Op.cs,hw1]
   refine ⟨rfl,?_⟩
   cases h3 : (a.kind == b.kind && a.target == b.target) with
   | true =>
     obtain ⟨e1,e2⟩ := Bool.and_eq_true_iff.1 h3
     simp only [↓aX,mX,reduceCtorEq,Nat.reduceEqDiff,Nat.reduceLT,Nat.reduceLeDiff,Nat.reduceAdd,Nat.reduceMul,Int.reduceToNat,Int.reduceLE,Int.reduceLT,e1,e2]
     refine callT_pure hC ?_
     simp only [↓aX,mX,reduceCtorEq,Nat.reduceEqDiff,Nat.reduceLT,Nat.reduceLeDiff,Nat.reduceAdd,Nat.reduceMul,Int.reduceToNat,Int.reduceLE,Int.reduceLT]
   | false =>
     have hne : ¬ (a.kind = b.kind ∧ a.target = b.target) := by
       rintro ⟨e1,e2⟩; simp [e1,e2] at h3
     have hgo : ∀ {X : Prop},X → X := fun h => h
     cases e1 : (a.kind == b.kind) with
     | true =>
       have e2 : (a.target == b.target) = false := by rw [e1] at h3; simpa using h3
       simp only [↓aX,mX,reduceCtorEq,Nat.reduceEqDiff,Nat.reduceLT,Nat.reduceLeDiff,Nat.reduceAdd,Nat.reduceMul,Int.reduceToNat,Int.reduceLE,Int.reduceLT,e1,e2]
       rw [app_nil' 5 72 46 (l.map Op.iv) (elszO _) (flatO _) (by rw [List.length_map]; omega) (by decide) (by simp [upd_at,Hp.none])]
       simp only [↓aX,mX,reduceCtorEq,Nat.reduceEqDiff,Nat.reduceLT,Nat.reduceLeDiff,Nat.reduceAdd,Nat.reduceMul,Int.reduceToNat,Int.reduceLE,Int.reduceLT,List.length_map,hw1]
       refine ⟨rfl,?_⟩
       simp only [↓aX,mX,reduceCtorEq,Nat.reduceEqDiff,Nat.reduceLT,Nat.reduceLeDiff,Nat.reduceAdd,Nat.reduceMul,Int.reduceToNat,Int.reduceLE,Int.reduceLT,List.length_map,hw1,show m < l.length by omega,hm1,immO_get ha,immO_get hb,and_self]
       rw [immO_set]
       have hb2 : (l.set m b)[m + 1]? = some b := by rw [List.getElem?_set_ne (by omega)]; exact hb
       simp only [↓aX,mX,reduceCtorEq,Nat.reduceEqDiff,Nat.reduceLT,Nat.reduceLeDiff,Nat.reduceAdd,Nat.reduceMul,Int.reduceToNat,Int.reduceLE,Int.reduceLT,immO_get hb2]
       rw [immO_set]
       obtain ⟨hs1,hs2⟩ := swap_split ha hb
       have hop : opsB ((l.set m b).set (m + 1) a) := by
         refine ⟨by simpa using hl1,fun o ho => ?_⟩
         rcases List.mem_or_eq_of_mem_set ho with ho | rfl
         · rcases List.mem_or_eq_of_mem_set ho with ho | rfl
           · exact hl2 o ho
           · exact hl2 o (List.mem_of_getElem? hb)
         · exact hl2 o (List.mem_of_getElem? ha)
       have hfl : ((((l.set m b).set (m + 1) a).map Op.iv).drop 0).take l.length = ((l.set m b).set (m + 1) a).map Op.iv := by rw [List.drop_zero]; exact List.take_of_length_le (by simp)
       refine ⟨5,((l.set m b).set (m + 1) a).map Op.iv,0,l.length,by simp,?_,by simp,flatO _,?_⟩
       · first | rfl | simp [upd_at]
       refine callT_pure (hA d l hd ⟨hl1,hl2⟩) ?_
       have hfl2 : (((l.set m b).set (m + 1) a).map Op.iv).take l.length = ((l.set m b).set (m + 1) a).map Op.iv := List.take_of_length_le (by simp)
       simp only [↓aX,mX,reduceCtorEq,Nat.reduceEqDiff,Nat.reduceLT,Nat.reduceLeDiff,Nat.reduceAdd,Nat.reduceMul,Int.reduceToNat,Int.reduceLE,Int.reduceLT,Doc.av,hfl,hfl2]
       refine callT_pure (hA d _ hd hop) ?_
       simp only [↓aX,mX,reduceCtorEq,Nat.reduceEqDiff,Nat.reduceLT,Nat.reduceLeDiff,Nat.reduceAdd,Nat.reduceMul,Int.reduceToNat,Int.reduceLE,Int.reduceLT,Doc.av]
       obtain ⟨ho1,ho2⟩ := order_ok d (l.take m) (l.drop (m + 2)) a b hne
       rw [← hs1,← hs2] at ho1 ho2
       have hbb : ((applyF d l).2 == 0) = ((applyF d ((l.set m b).set (m + 1) a)).2 == 0) := by
         rw [Bool.eq_iff_iff]; simpa using ho1
       have hwx : wtN (applyF d l).1 ≤ B := by
         by_cases he : (applyF d l).2 = 0
         · obtain ⟨t,ht,rfl,hc,hg,h1⟩ := applyF_ok he
           rw [h1]; have := wt_docOf (applyT t l); have := good_wt hg; omega
         · rw [applyF_bad he]; omega
       rw [← hbb]
       try simp only [↓aX,mX,reduceCtorEq,Nat.reduceEqDiff,Nat.reduceLT,Nat.reduceLeDiff,Nat.reduceAdd,Nat.reduceMul,Int.reduceToNat,Int.reduceLE,Int.reduceLT]
       refine callT_pure (hS _ _ hwx) ?_
       rw [ho2,eqB_self]
       simp only [↓aX,mX,reduceCtorEq,Nat.reduceEqDiff,Nat.reduceLT,Nat.reduceLeDiff,Nat.reduceAdd,Nat.reduceMul,Int.reduceToNat,Int.reduceLE,Int.reduceLT]
       refine callT_pure hC ?_
       simp only [↓aX,mX,reduceCtorEq,Nat.reduceEqDiff,Nat.reduceLT,Nat.reduceLeDiff,Nat.reduceAdd,Nat.reduceMul,Int.reduceToNat,Int.reduceLE,Int.reduceLT]
     | false =>
       simp only [↓aX,mX,reduceCtorEq,Nat.reduceEqDiff,Nat.reduceLT,Nat.reduceLeDiff,Nat.reduceAdd,Nat.reduceMul,Int.reduceToNat,Int.reduceLE,Int.reduceLT,e1]
       rw [app_nil' 5 72 46 (l.map Op.iv) (elszO _) (flatO _) (by rw [List.length_map]; omega) (by decide) (by simp [upd_at,Hp.none])]
       simp only [↓aX,mX,reduceCtorEq,Nat.reduceEqDiff,Nat.reduceLT,Nat.reduceLeDiff,Nat.reduceAdd,Nat.reduceMul,Int.reduceToNat,Int.reduceLE,Int.reduceLT,List.length_map,hw1]
       refine ⟨rfl,?_⟩
       simp only [↓aX,mX,reduceCtorEq,Nat.reduceEqDiff,Nat.reduceLT,Nat.reduceLeDiff,Nat.reduceAdd,Nat.reduceMul,Int.reduceToNat,Int.reduceLE,Int.reduceLT,List.length_map,hw1,show m < l.length by omega,hm1,immO_get ha,immO_get hb,and_self]
       rw [immO_set]
       have hb2 : (l.set m b)[m + 1]? = some b := by rw [List.getElem?_set_ne (by omega)]; exact hb
       simp only [↓aX,mX,reduceCtorEq,Nat.reduceEqDiff,Nat.reduceLT,Nat.reduceLeDiff,Nat.reduceAdd,Nat.reduceMul,Int.reduceToNat,Int.reduceLE,Int.reduceLT,immO_get hb2]
       rw [immO_set]
       obtain ⟨hs1,hs2⟩ := swap_split ha hb
       have hop : opsB ((l.set m b).set (m + 1) a) := by
         refine ⟨by simpa using hl1,fun o ho => ?_⟩
         rcases List.mem_or_eq_of_mem_set ho with ho | rfl
         · rcases List.mem_or_eq_of_mem_set ho with ho | rfl
           · exact hl2 o ho
           · exact hl2 o (List.mem_of_getElem? hb)
         · exact hl2 o (List.mem_of_getElem? ha)
       have hfl : ((((l.set m b).set (m + 1) a).map Op.iv).drop 0).take l.length = ((l.set m b).set (m + 1) a).map Op.iv := by rw [List.drop_zero]; exact List.take_of_length_le (by simp)
       refine ⟨5,((l.set m b).set (m + 1) a).map Op.iv,0,l.length,by simp,?_,by simp,flatO _,?_⟩
       · first | rfl | simp [upd_at]
       refine callT_pure (hA d l hd ⟨hl1,hl2⟩) ?_
       have hfl2 : (((l.set m b).set (m + 1) a).map Op.iv).take l.length = ((l.set m b).set (m + 1) a).map Op.iv := List.take_of_length_le (by simp)
       simp only [↓aX,mX,reduceCtorEq,Nat.reduceEqDiff,Nat.reduceLT,Nat.reduceLeDiff,Nat.reduceAdd,Nat.reduceMul,Int.reduceToNat,Int.reduceLE,Int.reduceLT,Doc.av,hfl,hfl2]
       refine callT_pure (hA d _ hd hop) ?_
       simp only [↓aX,mX,reduceCtorEq,Nat.reduceEqDiff,Nat.reduceLT,Nat.reduceLeDiff,Nat.reduceAdd,Nat.reduceMul,Int.reduceToNat,Int.reduceLE,Int.reduceLT,Doc.av]
       obtain ⟨ho1,ho2⟩ := order_ok d (l.take m) (l.drop (m + 2)) a b hne
       rw [← hs1,← hs2] at ho1 ho2
       have hbb : ((applyF d l).2 == 0) = ((applyF d ((l.set m b).set (m + 1) a)).2 == 0) := by
         rw [Bool.eq_iff_iff]; simpa using ho1
       have hwx : wtN (applyF d l).1 ≤ B := by
         by_cases he : (applyF d l).2 = 0
         · obtain ⟨t,ht,rfl,hc,hg,h1⟩ := applyF_ok he
           rw [h1]; have := wt_docOf (applyT t l); have := good_wt hg; omega
         · rw [applyF_bad he]; omega
       rw [← hbb]
       try simp only [↓aX,mX,reduceCtorEq,Nat.reduceEqDiff,Nat.reduceLT,Nat.reduceLeDiff,Nat.reduceAdd,Nat.reduceMul,Int.reduceToNat,Int.reduceLE,Int.reduceLT]
       refine callT_pure (hS _ _ hwx) ?_
       rw [ho2,eqB_self]
       simp only [↓aX,mX,reduceCtorEq,Nat.reduceEqDiff,Nat.reduceLT,Nat.reduceLeDiff,Nat.reduceAdd,Nat.reduceMul,Int.reduceToNat,Int.reduceLE,Int.reduceLT]
       refine callT_pure hC ?_
       simp only [↓aX,mX,reduceCtorEq,Nat.reduceEqDiff,Nat.reduceLT,Nat.reduceLeDiff,Nat.reduceAdd,Nat.reduceMul,Int.reduceToNat,Int.reduceLE,Int.reduceLT]
end
end Go.Am
