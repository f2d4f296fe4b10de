import Derived.Test.YtfinkeaikbmpgaaR5
import Derived.WalkKit
import Derived.ProofKit
import Derived.OpenShut
import Derived.JoinedCond
set_option linter.unusedSimpArgs false
set_option linter.unusedVariables false
set_option linter.unnecessarySimpa false
set_option linter.defProp false
/- ChangeGood holds, for arguments of bulk at most 2^20. -/
namespace Go.Proofs.Ytfinkeaikbmpgaa.changeGood
open Go Go.Am Go.ChangeShapes Go.WideShapes Go.ChangeAt Go.RowKit
set_option maxRecDepth 100000 in
theorem contract (H : Type) (enc : TypeId × Value → H) (W : World) (base : Nat) (args : Array Value) (ds gs : List (DataW H)) (before : List MemPlace)
   (hval : ∀ (j : Nat) t v,Try.f9.params[j]? = some t → args[j]? = some v → Value.okWide Try.prog W .any base t v)
   (hW : DataW.Whole enc Try.prog Try.f9.params.toList Rows.changeGoodSpec.vars false W args.toList ds gs before) (hk : Rows.uptoSmall H (ds ++ gs) = true) :
   Calls Try.prog 9 args W fun e W' => ∃ v,e = .returned v ∧ Rows.changeGoodSpec.post enc Try.prog Try.f9 false true false false W args v W' := by
 have hp : Try.f9.params.toList = [33,50] := by kernel_rfl
 refine law_contract (bk H) okTs (tb := tyB) laid (by rw [hp]; simp [tys]) (by kernel_rfl) (by kernel_rfl) (by kernel_rfl) rfl W base args ds gs before ?_ hval hW ?_
 · intro ds h
   rw [hp] at h
   match ds,h with
   | [_,_],_ => rfl
 · intro ys h hw
   rw [hp] at h
   have hs := bulk_small hk
   cases h with
   | cons h1 h2 =>
     cases h2 with
     | cons h3 h4 =>
       cases h4
       obtain ⟨d,rfl,hd⟩ := Sh.doc tyD h1
       obtain ⟨l,rfl,hl,hl2⟩ := Sh.ops tyO h3
       simp only [wtI] at hw
       exact dChangeGood d l (by omega) (opsB_of hl hl2 (by omega))
set_option maxRecDepth 100000 in
theorem lifted (os : Os) (started : os.Started) (H : Type) (enc : TypeId × Value → H) (F : Stop.Interp) :
   ReturnsInHanded {} Try.checked os 9 .any ((Rows.OpenSpec.upto Rows.changeGoodSpec).pre6 enc Try.prog Try.f9 Rows.changeGoodUptoRow.domain false) (((Rows.OpenSpec.upto Rows.changeGoodSpec).at F).post enc Try.prog Try.f9 false true false false) := by
 refine returnsInHanded_of_cond (C := Try.checked) (s := Rows.OpenSpec.upto Rows.changeGoodSpec) (k := Rows.uptoSmall) rfl own started (by kernel_rfl) Try.func9
   (OpenSpec.witness (enc := enc) (C := Try.checked) (s := Rows.OpenSpec.upto Rows.changeGoodSpec) (k := Rows.uptoSmall) rfl false ⟨#[],#[.agg #[.slice none 0 0],.slice none 0 0],[]⟩ 8 (by kernel_rfl) (by kernel_rfl) (by kernel_rfl)
     (x := ([.agg [.nil],.nil],[],[])) (by kernel_rfl) rfl (by kernel_rfl)) ?_
 intro W base args ds gs before hval hW _ hk _
 exact contract H enc W base args ds gs before hval hW hk
theorem over : Rows.changeGoodUptoRow.holds Try.pinned (Rows.OpenSpec.upto Rows.changeGoodSpec) :=
 OpenClaim.holds_of_cond 9 Try.f9 rfl rfl rfl rfl rfl rfl rfl ⟨rfl,rfl,rfl,rfl,rfl⟩ rfl rfl rfl rfl rfl (by kernel_rfl) Try.func9 (by kernel_rfl)
   (of_decide_eq_true (by kernel_rfl)) (by unfold Func.isWrapper; first | (rw [if_pos (by decide +kernel)]; kernel_rfl) | (rw [if_neg (by decide +kernel)]; exact ⟨rfl,rfl⟩))
   (fun os started H enc _ F => lifted os started H enc F)
theorem proved : Rows.ChangeGoodUptoSaid :=
 over
end Go.Proofs.Ytfinkeaikbmpgaa.changeGood
