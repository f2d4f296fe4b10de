import Derived.Test.YtfinkeaikbmpgaaDoorE78
import Derived.Test.YtfinkeaikbmpgaaDoorKAm48
import Derived.Test.YtfinkeaikbmpgaaDoorCards
import Derived.Test.YtfinkeaikbmpgaaDoorTie
import Derived.WalkKit
import Derived.ProofKit
import Derived.OpenShut
import Derived.LaidMore
import Derived.Deep.DeepHandedRow
set_option linter.unusedSimpArgs false
set_option linter.unusedVariables false
set_option linter.unnecessarySimpa false
set_option linter.defProp false
/- PathParses holds, for arguments of bulk at most 2^20. -/
namespace Go.Proofs.YtfinkeaikbmpgaaDoor.pathParses
open Go Go.Am Go.ChangeShapes Go.WideShapes Go.ChangeAt Go.RowKit
theorem params:Tryd.f16.params.toList=[9]:=by kernel_rfl
set_option maxRecDepth 100000 in
theorem contract (H:Type) (enc:TypeId×Value→H) (W:World) (base:Nat) (args:Array Value) (ds gs:List (DataW H)) (before:List MemPlace)
  (ko:∀(j:Nat) t v,Tryd.f16.params[j]?=some t→args[j]?=some v→Value.okWide Tryd.prog W .any base t v)
  (hW:DataW.Whole enc Tryd.prog Tryd.f16.params.toList Rows.pathParsesSpec.vars false W args.toList ds gs before) (hk:Rows.uptoSmall H (ds++gs)=true) (hL:laidMetH Tryd.prog Rows.pathParsesUptoRow.laid W) :
  Calls Tryd.prog 16 args W fun e W'=>∃v,e= .returned v∧Rows.pathParsesSpec.post enc Tryd.prog Tryd.f16 false true false false W args v W':=by
 have hp:=params;obtain⟨t1,t2,hG⟩:=AT hL;refine kS (G:=gY t1 t2) (bk H) CB (tb:=Ex) laid (by rw[hp];simp[BE]) (by kernel_rfl) (by kernel_rfl) (by kernel_rfl) rfl W base args ds gs before hG ?_ ko hW ?_
 ·intro ds h;rw[hp] at h
  match ds,h with
  |[_],_=>rfl
 intro ys h hw;rw[hp] at h;have hs:=oq hk;cases h with
 |cons h1 h2=>
 cases h2;obtain⟨x,rfl⟩:=h1.np Ew.uS;simp only[kQ,IV.wt] at hw;exact nL x (by omega)
theorem laid_met (os:Os):laidMetH Tryd.prog Rows.pathParsesUptoRow.laid ((d_ os).forCall (fun _ _=>0) ⟨#[],#[.string ⟨#[]⟩],[]⟩).memory:=Go.Proofs.YtfinkeaikbmpgaaDoor.qi os _
theorem reads (os:Os) {H:Type} (enc:TypeId×Value→H):∃places,DataW.whole enc Tryd.prog ((d_ os).forCall (fun _ _=>0) ⟨#[],#[.string ⟨#[]⟩],[]⟩).memory Tryd.f16.params.toList Rows.pathParsesSpec.vars false (#[.string ⟨#[]⟩]:Array Value).toList 8=some ([.lit (.string [])],[],places):=
 ⟨[],by kernel_rfl⟩
set_option maxRecDepth 100000 in
theorem lifted (os:Os) (started:os.Started) (H:Type) (enc:TypeId×Value→H) (F:Stop.Interp) :
  ReturnsInHanded {} Tryd.checked os 16 .any ((Rows.OpenSpec.upto Rows.pathParsesSpec).preRow enc Tryd.prog Tryd.f16 Rows.pathParsesUptoRow.domain false Rows.pathParsesUptoRow.laid) (((Rows.OpenSpec.upto Rows.pathParsesSpec).at F).post enc Tryd.prog Tryd.f16 false true false false):=by
 obtain⟨places,hx⟩:=reads os enc;refine returnsInHanded_of_row (C:=Tryd.checked) (s:=Rows.OpenSpec.upto Rows.pathParsesSpec) own started (by kernel_rfl) Tryd.func16
  (witness_row_atRef (enc:=enc) (C:=Tryd.checked) false (d_ os) #[.string ⟨#[]⟩] rfl (AQ os _) (AR os _) (by kernel_rfl)
   (OpenSpec.preRow_of_cond 8 hx (by kernel_rfl) (fun k hk=>by cases hk;kernel_rfl) (by kernel_rfl) (laid_met os))) ?_
 intro W base args ds gs before ko hW _ bJ _ hL _ _;exact contract H enc W base args ds gs before ko hW (bJ _ rfl) hL
theorem over:Rows.pathParsesUptoRow.holds Tryd.pinned (Rows.OpenSpec.upto Rows.pathParsesSpec):=
 OpenClaim.holds_of_cond 16 Tryd.f16 rfl rfl rfl rfl rfl rfl rfl ⟨rfl,rfl,rfl,rfl,rfl⟩ rfl rfl rfl rfl rfl (by kernel_rfl) Tryd.func16 (by kernel_rfl)
  (of_decide_eq_true (by kernel_rfl)) (by unfold Func.isWrapper;first|(rw[FG (by decide +kernel)];kernel_rfl)|(rw[FU (by decide +kernel)];exact⟨rfl,rfl⟩))
  (fun os started H enc _ F=>by rw[OpenClaim.pre_eq_preRow];exact lifted os started H enc F)
theorem plain (f:FuncId) (fn:Func) (hf:Tryd.pinned.checked.prog.funcNamed "topiary/topiarylaw.PathParses"=some f) (rq:Tryd.pinned.checked.prog.funcs[f]?=some fn) :
  true=Tryd.pinned.checked.prog.looks []∧∀(j:Nat) t,fn.params[j]?=some t→Tryd.pinned.checked.prog.wantsStandIn t=false:=by
 obtain rfl:f=16:=Iq ((show Tryd.prog.funcNamed "topiary/topiarylaw.PathParses"=some 16 by kernel_rfl).symm.trans hf) |>.symm;obtain rfl:fn=Tryd.f16:=(Iq (Tryd.func16.symm.trans rq)).symm;refine⟨by kernel_rfl,fun j t ht=> ?_⟩;have hm:t∈Tryd.f16.params.toList:=Fx (by simpa using ht);rw[params] at hm;have bG:([9].all fun u=> !Tryd.prog.wantsStandIn u)=true:=by kernel_rfl
 exact(show Tryd.prog.wantsStandIn t=false by simpa using F3.1 bG t hm)
theorem proved:Rows.PathParsesUptoCardSaid:=
 Claim7.holds_tied_plain_at .later [] _ _ _ _ over (fun _ h=>by cases h) (by kernel_rfl) (fun _ h=>by cases h) pathParsesUpto_row_tie rfl ⟨rfl,rfl⟩ (by kernel_rfl) rfl plain (by kernel_rfl)
end Go.Proofs.YtfinkeaikbmpgaaDoor.pathParses
