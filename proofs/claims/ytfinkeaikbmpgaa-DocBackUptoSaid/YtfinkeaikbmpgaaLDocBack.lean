import Derived.Test.YtfinkeaikbmpgaaR3
import Derived.WalkKit
import Derived.ProofKit
import Derived.OpenShut
import Derived.JoinedCond
set_option linter.unusedSimpArgs false
set_option linter.unusedVariables false
set_option linter.unnecessarySimpa false
set_option linter.defProp false
/- DocBack holds, for arguments of bulk at most 2^20. -/
namespace Go.Proofs.Ytfinkeaikbmpgaa.docBack
open Go Go.Am Go.ChangeShapes Go.WideShapes Go.ChangeAt Go.RowKit

set_option maxRecDepth 100000 in
theorem contract (H : Type) (enc : TypeId × Value → H) (W : World) (base : Nat) (args : Array Value) (ds gs : List (DataW H)) (before : List MemPlace)
    (hval : ∀ (j : Nat) t v, Try.f6.params[j]? = some t → args[j]? = some v → Value.okWide Try.prog W .any base t v)
    (hW : DataW.Whole enc Try.prog Try.f6.params.toList Rows.docBackSpec.vars false W args.toList ds gs before) (hk : Rows.uptoSmall H (ds ++ gs) = true) :
    Calls Try.prog 6 args W fun e W' => ∃ v, e = .returned v ∧ Rows.docBackSpec.post enc Try.prog Try.f6 false true false false W args v W' := by
  have hp : Try.f6.params.toList = [29] := by kernel_rfl
  refine law_contract (bk H) okTs (tb := tyB) laid (by rw [hp]; simp [tys]) (by kernel_rfl) (by kernel_rfl) (by kernel_rfl) rfl W base args ds gs before ?_ hval hW ?_
  · intro ds h
    rw [hp] at h
    match ds, h with
    | [_], _ => rfl
  · intro ys h hw
    rw [hp] at h
    have hs := bulk_small hk
    cases h with
    | cons h1 h2 =>
      cases h2
      obtain ⟨x, rfl, hx⟩ := Sh.tree tyT h1
      simp only [wtI] at hw
      have e : x.iv.av = x.av := by cases x; rfl
      rw [List.map_cons, List.map_nil, e]
      exact dDocBack x (by unfold B; omega)

set_option maxRecDepth 100000 in
theorem lifted (os : Os) (started : os.Started) (H : Type) (enc : TypeId × Value → H) (F : Stop.Interp) :
    ReturnsInHanded {} Try.checked os 6 .any ((Rows.OpenSpec.upto Rows.docBackSpec).pre6 enc Try.prog Try.f6 Rows.docBackUptoRow.domain false) (((Rows.OpenSpec.upto Rows.docBackSpec).at F).post enc Try.prog Try.f6 false true false false) := by
  refine returnsInHanded_of_cond (C := Try.checked) (s := Rows.OpenSpec.upto Rows.docBackSpec) (k := Rows.uptoSmall) rfl own started (by kernel_rfl) Try.func6
    (OpenSpec.witness (enc := enc) (C := Try.checked) (s := Rows.OpenSpec.upto Rows.docBackSpec) (k := Rows.uptoSmall) rfl false ⟨#[], #[.agg #[.bool false, .string ⟨#[]⟩, .slice none 0 0, .slice none 0 0]], []⟩ 8 (by kernel_rfl) (by kernel_rfl) (by kernel_rfl)
      (x := ([.agg [.lit (.bool false), .lit (.string []), .nil, .nil]], [], [])) (by kernel_rfl) rfl (by kernel_rfl)) ?_
  intro W base args ds gs before hval hW _ hk _
  exact contract H enc W base args ds gs before hval hW hk

theorem over : Rows.docBackUptoRow.holds Try.pinned (Rows.OpenSpec.upto Rows.docBackSpec) :=
  OpenClaim.holds_of_cond 6 Try.f6 rfl rfl rfl rfl rfl rfl rfl ⟨rfl, rfl, rfl, rfl, rfl⟩ rfl rfl rfl rfl rfl (by kernel_rfl) Try.func6 (by kernel_rfl)
    (of_decide_eq_true (by kernel_rfl)) (by unfold Func.isWrapper; first | (rw [if_pos (by decide +kernel)]; kernel_rfl) | (rw [if_neg (by decide +kernel)]; exact ⟨rfl, rfl⟩))
    (fun os started H enc _ F => lifted os started H enc F)

theorem proved : Rows.DocBackUptoSaid :=
  over
end Go.Proofs.Ytfinkeaikbmpgaa.docBack
