import Derived.Test.YtfinkeaikbmpgaaR7
import Derived.WalkKit
import Derived.ProofKit
import Derived.OpenShut
import Derived.JoinedCond
set_option linter.unusedSimpArgs false
set_option linter.unusedVariables false
set_option linter.unnecessarySimpa false
set_option linter.defProp false
/- ChangeValues holds, for arguments of bulk at most 2^20. -/
namespace Go.Proofs.Ytfinkeaikbmpgaa.changeValues
open Go Go.Am Go.ChangeShapes Go.WideShapes Go.ChangeAt Go.RowKit
set_option maxRecDepth 100000 in
theorem contract (H : Type) (enc : TypeId × Value → H) (W : World) (base : Nat) (args : Array Value) (ds gs : List (DataW H)) (before : List MemPlace)
   (hval : ∀ (j : Nat) t v,Try.f12.params[j]? = some t → args[j]? = some v → Value.okWide Try.prog W .any base t v)
   (hW : DataW.Whole enc Try.prog Try.f12.params.toList Rows.changeValuesSpec.vars false W args.toList ds gs before) (hk : Rows.uptoSmall H (ds ++ gs) = true) :
   Calls Try.prog 12 args W fun e W' => ∃ v,e = .returned v ∧ Rows.changeValuesSpec.post enc Try.prog Try.f12 false true false false W args v W' := by
 have hp : Try.f12.params.toList = [33,3,9] := by kernel_rfl
 refine law_contract (bk H) okTs (tb := tyB) laid (by rw [hp]; simp [tys]) (by kernel_rfl) (by kernel_rfl) (by kernel_rfl) rfl W base args ds gs before ?_ hval hW ?_
 · intro ds h
   rw [hp] at h
   match ds,h with
   | [_,_,_],_ => rfl
 · intro ys h hw
   rw [hp] at h
   have hs := bulk_small hk
   cases h with
   | cons h1 h2 =>
     cases h2 with
     | cons h3 h4 =>
       cases h4 with
       | cons h5 h6 =>
         cases h6
         obtain ⟨d,rfl,hd⟩ := Sh.doc tyD h1
         obtain ⟨k,rfl,_⟩ := h3.inv_i tyD.uI
         obtain ⟨a,rfl⟩ := h5.inv_s tyT.uS
         simp only [wtI,show ∀ s : Bs,(IV.str s).wt = s.length + 1 from fun _ => rfl] at hw
         exact dChangeValues d k a (by omega) (by omega)
set_option maxRecDepth 100000 in
theorem lifted (os : Os) (started : os.Started) (H : Type) (enc : TypeId × Value → H) (F : Stop.Interp) :
   ReturnsInHanded {} Try.checked os 12 .any ((Rows.OpenSpec.upto Rows.changeValuesSpec).pre6 enc Try.prog Try.f12 Rows.changeValuesUptoRow.domain false) (((Rows.OpenSpec.upto Rows.changeValuesSpec).at F).post enc Try.prog Try.f12 false true false false) := by
 refine returnsInHanded_of_cond (C := Try.checked) (s := Rows.OpenSpec.upto Rows.changeValuesSpec) (k := Rows.uptoSmall) rfl own started (by kernel_rfl) Try.func12
   (OpenSpec.witness (enc := enc) (C := Try.checked) (s := Rows.OpenSpec.upto Rows.changeValuesSpec) (k := Rows.uptoSmall) rfl false ⟨#[],#[.agg #[.slice none 0 0],.int .i64 0,.string ⟨#[]⟩],[]⟩ 8 (by kernel_rfl) (by kernel_rfl) (by kernel_rfl)
     (x := ([.agg [.nil],.lit (.int .i64 0),.lit (.string [])],[],[])) (by kernel_rfl) rfl (by kernel_rfl)) ?_
 intro W base args ds gs before hval hW _ hk _
 exact contract H enc W base args ds gs before hval hW hk
theorem over : Rows.changeValuesUptoRow.holds Try.pinned (Rows.OpenSpec.upto Rows.changeValuesSpec) :=
 OpenClaim.holds_of_cond 12 Try.f12 rfl rfl rfl rfl rfl rfl rfl ⟨rfl,rfl,rfl,rfl,rfl⟩ rfl rfl rfl rfl rfl (by kernel_rfl) Try.func12 (by kernel_rfl)
   (of_decide_eq_true (by kernel_rfl)) (by unfold Func.isWrapper; first | (rw [if_pos (by decide +kernel)]; kernel_rfl) | (rw [if_neg (by decide +kernel)]; exact ⟨rfl,rfl⟩))
   (fun os started H enc _ F => lifted os started H enc F)
theorem proved : Rows.ChangeValuesUptoSaid :=
 over
end Go.Proofs.Ytfinkeaikbmpgaa.changeValues
