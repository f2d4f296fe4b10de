/- TreeJoins holds, for arguments of bulk at most 2^20. -/
import Derived.Test.YtfinkeaikbmpgaaR1
import Derived.WalkKit
import Derived.ProofKit
import Derived.OpenShut
import Derived.JoinedCond
set_option linter.defProp false
set_option linter.unnecessarySimpa false
set_option linter.unusedVariables false
set_option linter.unusedSimpArgs false
namespace Go.Proofs.Ytfinkeaikbmpgaa
open Go Go.Am Go.ChangeShapes Go.WideShapes Go.ChangeAt Go.RowKit

theorem bulk_one {H : Type} : ∀ d : DataW H, 1 ≤ Rows.uptoBulk d
  | .lit (.string bytes) => by simp [Rows.uptoBulk]
  | .lit (.bool _) | .lit (.int _ _) | .lit (.float _ _) | .lit .nil => by simp [Rows.uptoBulk]
  | .nil => by simp [Rows.uptoBulk]
  | .ptr d => by simp [Rows.uptoBulk]
  | .slice a b => by simp [Rows.uptoBulk]
  | .agg a => by simp [Rows.uptoBulk]
  | .iface _ d => by simp [Rows.uptoBulk]
  | .map e => by simp [Rows.uptoBulk]
  | .held _ => by simp [Rows.uptoBulk]
theorem bulk_all {H : Type} : ∀ ds : List (DataW H), Rows.uptoBulkAll ds = (ds.map Rows.uptoBulk).sum
  | [] => by simp [Rows.uptoBulkAll]
  | d :: r => by simp [Rows.uptoBulkAll, bulk_all r]
def bk (H : Type) : Bk H where
  bk := Rows.uptoBulk
  one := bulk_one
  str l := by simp [Rows.uptoBulk]
  sl es sp := by simp [Rows.uptoBulk, bulk_all]
  ag ps := by simp [Rows.uptoBulk, bulk_all]
theorem bulk_small {H : Type} {ds gs : List (DataW H)} (h : Rows.uptoSmall H (ds ++ gs) = true) : (ds.map (bk H).bk).sum ≤ 1048576 := by
  simp only [Rows.uptoSmall, decide_eq_true_eq, bulk_all, List.map_append, List.sum_append] at h
  show (ds.map Rows.uptoBulk).sum ≤ _
  omega
theorem own : ownKnob Try.prog.godebug = none := by kernel_rfl
theorem okTs : ∀ t ∈ [23, 29, 27, 60, 4, 9], okT Try.prog [23, 29, 27, 60, 4, 9] t = true := by
  intro t ht
  simp only [List.mem_cons, List.not_mem_nil, or_false] at ht
  rcases ht with rfl | rfl | rfl | rfl | rfl | rfl <;> kernel_rfl

namespace treeJoins
set_option maxRecDepth 100000 in
theorem contract (H : Type) (enc : TypeId × Value → H) (W : World) (base : Nat) (args : Array Value) (ds gs : List (DataW H)) (before : List MemPlace)
    (hval : ∀ (j : Nat) t v, Try.f4.params[j]? = some t → args[j]? = some v → Value.okWide Try.prog W .any base t v)
    (hW : DataW.Whole enc Try.prog Try.f4.params.toList Rows.treeJoinsSpec.vars false W args.toList ds gs before) (hk : Rows.uptoSmall H (ds ++ gs) = true) :
    Calls Try.prog 4 args W fun e W' => ∃ v, e = .returned v ∧ Rows.treeJoinsSpec.post enc Try.prog Try.f4 false true false false W args v W' := by
  have hp : Try.f4.params.toList = [23] := by kernel_rfl
  refine law_contract (bk H) okTs (tb := 4) laid (by rw [hp]; simp) (by kernel_rfl) (by kernel_rfl) (by kernel_rfl) rfl W base args ds gs before ?_ hval hW ?_
  · intro ds h
    rw [hp] at h
    match ds, h with
    | [d], _ => rfl
  · intro ys h hw
    rw [hp] at h
    have hs := bulk_small hk
    cases h with
    | cons h1 h2 =>
      cases h2
      obtain ⟨xs, rfl, hx⟩ := Sh.trees tyT h1
      simp only [wtI] at hw
      exact dTreeJoins xs (by unfold B; omega)

set_option maxRecDepth 100000 in
theorem lifted (os : Os) (started : os.Started) (H : Type) (enc : TypeId × Value → H) (F : Stop.Interp) :
    ReturnsInHanded {} Try.checked os 4 .any ((Rows.OpenSpec.upto Rows.treeJoinsSpec).pre6 enc Try.prog Try.f4 Rows.treeJoinsUptoRow.domain false) (((Rows.OpenSpec.upto Rows.treeJoinsSpec).at F).post enc Try.prog Try.f4 false true false false) := by
  refine returnsInHanded_of_cond (C := Try.checked) (s := Rows.OpenSpec.upto Rows.treeJoinsSpec) (k := Rows.uptoSmall) rfl own started (by kernel_rfl) Try.func4
    (OpenSpec.witness (enc := enc) (C := Try.checked) (s := Rows.OpenSpec.upto Rows.treeJoinsSpec) (k := Rows.uptoSmall) rfl false ⟨#[], #[.slice none 0 0], []⟩ 8 (by kernel_rfl) (by kernel_rfl) (by kernel_rfl)
      (x := ([.nil], [], [])) (by kernel_rfl) rfl (by kernel_rfl)) ?_
  intro W base args ds gs before hval hW _ hk _
  exact contract H enc W base args ds gs before hval hW hk

theorem over : Rows.treeJoinsUptoRow.holds Try.pinned (Rows.OpenSpec.upto Rows.treeJoinsSpec) :=
  OpenClaim.holds_of_cond 4 Try.f4 rfl rfl rfl rfl rfl rfl rfl ⟨rfl, rfl, rfl, rfl, rfl⟩ rfl rfl rfl rfl rfl (by kernel_rfl) Try.func4 (by kernel_rfl)
    (of_decide_eq_true (by kernel_rfl)) (by unfold Func.isWrapper; first | (rw [if_pos (by decide +kernel)]; kernel_rfl) | (rw [if_neg (by decide +kernel)]; exact ⟨rfl, rfl⟩))
    (fun os started H enc _ F => lifted os started H enc F)

theorem proved : Rows.TreeJoinsUptoSaid :=
  over
end treeJoins
end Go.Proofs.Ytfinkeaikbmpgaa
