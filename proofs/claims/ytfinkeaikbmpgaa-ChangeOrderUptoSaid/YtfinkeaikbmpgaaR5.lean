import Derived.Test.YtfinkeaikbmpgaaR4
import Derived.Test.YtfinkeaikbmpgaaT94
set_option linter.unusedSimpArgs false
set_option linter.unusedVariables false
set_option linter.unnecessarySimpa false
set_option linter.defProp false
/- Functions of this seat, read: the laws of changes. -/
namespace Go.Proofs.Ytfinkeaikbmpgaa
open Go Go.Am Go.ChangeShapes
set_option maxRecDepth 100000
noncomputable def tyO : TyO Try.prog tyT where
 tI := 3
 tO := 53
 tOs := 50
 fO := fieldsAt Try.prog 53
 uI := by kernel_rfl
 uO := by kernel_rfl
 uOs := by kernel_rfl
 sO := by kernel_rfl
theorem hKChanges : compF Try.prog noG 32 = some (43,[(none,0)],(c_topiarykeep_changes 34).bare) := by kernel_rfl
theorem hKSameDoc : compF Try.prog noG 35 = some (87,[(none,4)],(c_topiarykeep_sameDoc 49).bare) := by kernel_rfl
theorem hKSameN : compF Try.prog noG 49 = some (26,[(none,4)],c_topiarykeep_sameNumbers.bare) := by kernel_rfl
theorem hKPick : compF Try.prog noG 33 = some (14,[(none,4)],c_topiarykeep_pick.bare) := by kernel_rfl
theorem hLChangeGood : compF Try.prog noG 9 = some (49,[(none,4)],(c_topiarykeep_ChangeGood 34 32 35 28 36).bare) := by kernel_rfl
theorem hLChangeOrder : compF Try.prog noG 8 = some (81,[(none,6)],(c_topiarykeep_ChangeOrder 32 33 34 35).bare) := by kernel_rfl
theorem dApply : ApplyC Try.prog noG 34 := chF.cApply
theorem dChanges : PureC Try.prog noG 32 [] (.bool true) := pChanges hKChanges dApply
theorem dKSameDoc : SameDC Try.prog noG 35 := fun d e h =>
 pKeepDoc hKSameDoc d e h fun x hx y _ => pKeepNumbers hKSameN _ _ (by have := wtN_mem hx; simp only [Am.Node.wt] at this; omega)
theorem opsB_of {l : List Am.Op} {m : Nat} (h1 : l.length ≤ m) (h2 : ∀ x ∈ l,wtT x.content + x.name.length + x.s.length ≤ m) (hm : m ≤ 2 ^ 22) : opsB l := ⟨by omega,fun o ho => by have := h2 o ho; omega⟩
theorem dChangeGood (d : Doc) (l : List Am.Op) (hd : wtN d ≤ 2 ^ 22) (hl : opsB l) : PureC Try.prog noG 9 [Doc.av d,.list (l.map Am.Op.iv)] (.bool true) :=
 have h22 : (2 : Nat) ^ 22 = 4194304 := by decide
 have hB : B = 1073741824 := rfl
 pLawChangeGood hLChangeGood d l hd hl dApply dChanges dKSameDoc dDocGood (chF.cCheck d (by omega) l (by have := hl.1; omega) fun o ho => by have := hl.2 o ho; omega)
theorem dChangeOrder (d : Doc) (l : List Am.Op) (k : Int) (hd : wtN d ≤ 2 ^ 22) (hl : opsB l) : PureC Try.prog noG 8 [Doc.av d,.list (l.map Am.Op.iv),.int .i64 k] (.bool true) :=
 pLawChangeOrder hLChangeOrder d l k hd hl dApply dChanges dKSameDoc fun n h0 h1 => pPick hKPick k n h0 h1
end Go.Proofs.Ytfinkeaikbmpgaa
