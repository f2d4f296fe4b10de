import Derived.Test.YtfinkeaikbmpgaaR8
import Derived.WalkKit
import Derived.ProofKit
import Derived.OpenShut
import Derived.JoinedCond
set_option linter.unusedSimpArgs false
set_option linter.unusedVariables false
set_option linter.unnecessarySimpa false
set_option linter.defProp false
/- ChangePuts holds, for arguments of bulk at most 2^20. -/
namespace Go.Proofs.Ytfinkeaikbmpgaa.changePuts
open Go Go.Am Go.ChangeShapes Go.WideShapes Go.ChangeAt Go.RowKit
set_option maxRecDepth 100000 in
theorem contract (H:Type) (enc:TypeId×Value→H) (W:World) (base:Nat) (args:Array Value) (ds gs:List (DataW H)) (before:List MemPlace)
  (rf:∀(j:Nat) t v,Try.f11.params[j]?=some t→args[j]?=some v→Value.okWide Try.prog W .any base t v)
  (hW:DataW.Whole enc Try.prog Try.f11.params.toList Rows.changePutsSpec.vars false W args.toList ds gs before) (hk:Rows.uptoSmall H (ds++gs)=true) :
  Calls Try.prog 11 args W fun e W'=>∃v,e= .returned v∧Rows.changePutsSpec.post enc Try.prog Try.f11 false true false false W args v W':=by
 have hp:Try.f11.params.toList=[33,3,23]:=by kernel_rfl
 refine uJ (bk H) Oo (tb:=Q4) laid (by rw[hp];simp[Nq]) (by kernel_rfl) (by kernel_rfl) (by kernel_rfl) rfl W base args ds gs before ?_ rf hW ?_
 ·intro ds h;rw[hp] at h
  match ds,h with
  |[_,_,_],_=>rfl
 ·intro ys h hw;rw[hp] at h;have hs:=xN hk;cases h with
  |cons h1 h2=>
   cases h2 with
   |cons h3 h4=>
    cases h4 with
    |cons h5 h6=>
     cases h6;obtain⟨d,rfl,hd⟩:=Sh.doc P8 h1;obtain⟨k,rfl,_⟩:=h3.vS P8.uI;obtain⟨xs,rfl,hx⟩:=Sh.trees P1 h5;simp only[lC] at hw;exact xi d k xs (by omega) (by omega)
set_option maxRecDepth 100000 in
theorem lifted (os:Os) (started:os.Started) (H:Type) (enc:TypeId×Value→H) (F:Stop.Interp) :
  ReturnsInHanded {} Try.checked os 11 .any ((Rows.OpenSpec.upto Rows.changePutsSpec).pre6 enc Try.prog Try.f11 Rows.changePutsUptoRow.domain false) (((Rows.OpenSpec.upto Rows.changePutsSpec).at F).post enc Try.prog Try.f11 false true false false):=by
 refine returnsInHanded_of_cond (C:=Try.checked) (s:=Rows.OpenSpec.upto Rows.changePutsSpec) (k:=Rows.uptoSmall) rfl own started (by kernel_rfl) Try.func11
  (OpenSpec.witness (enc:=enc) (C:=Try.checked) (s:=Rows.OpenSpec.upto Rows.changePutsSpec) (k:=Rows.uptoSmall) rfl false ⟨#[],#[.agg #[.slice none 0 0],.int .i64 0,.slice none 0 0],[]⟩ 8 (by kernel_rfl) (by kernel_rfl) (by kernel_rfl)
   (x:=([.agg [.nil],.lit (.int .i64 0),.nil],[],[])) (by kernel_rfl) rfl (by kernel_rfl)) ?_
 intro W base args ds gs before rf hW _ hk _;exact contract H enc W base args ds gs before rf hW hk
theorem over:Rows.changePutsUptoRow.holds Try.pinned (Rows.OpenSpec.upto Rows.changePutsSpec):=
 OpenClaim.holds_of_cond 11 Try.f11 rfl rfl rfl rfl rfl rfl rfl ⟨rfl,rfl,rfl,rfl,rfl⟩ rfl rfl rfl rfl rfl (by kernel_rfl) Try.func11 (by kernel_rfl)
  (of_decide_eq_true (by kernel_rfl)) (by unfold Func.isWrapper;first|(rw[if_pos (by decide +kernel)];kernel_rfl)|(rw[if_neg (by decide +kernel)];exact⟨rfl,rfl⟩))
  (fun os started H enc _ F=>lifted os started H enc F)
theorem proved:Rows.ChangePutsUptoSaid:=
 over
end Go.Proofs.Ytfinkeaikbmpgaa.changePuts
