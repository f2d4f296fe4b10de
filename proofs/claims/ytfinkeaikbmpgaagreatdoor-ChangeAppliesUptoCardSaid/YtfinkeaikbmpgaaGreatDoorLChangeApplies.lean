import Derived.Test.YtfinkeaikbmpgaaGreatDoorE111
import Derived.Test.YtfinkeaikbmpgaaGreatDoorE107
import Derived.Test.YtfinkeaikbmpgaaGreatDoorKAm48
import Derived.Test.YtfinkeaikbmpgaaGreatDoorCards
import Derived.Test.YtfinkeaikbmpgaaGreatDoorTie
import Derived.WalkKit
import Derived.ProofKit
import Derived.OpenShut
import Derived.LaidMore
import Derived.Deep.DeepHandedRow
set_option linter.unusedSimpArgs false
set_option linter.unusedVariables false
set_option linter.unnecessarySimpa false
set_option linter.defProp false
/- ChangeApplies holds, for arguments of bulk at most 2^20. -/
namespace Go.Proofs.YtfinkeaikbmpgaaGreatDoor.changeApplies
open Go Go.Am Go.ChangeShapes Go.WideShapes Go.ChangeAt Go.RowKit
theorem params:Tryz.f6.params.toList=[28,54]:=by kernel_rfl
set_option maxRecDepth 100000 in
theorem contract (H:Type) (enc:TypeId×Value→H) (W:World) (base:Nat) (args:Array Value) (ds gs:List (DataW H)) (before:List MemPlace)
  (nU:∀(j:Nat) t v,Tryz.f6.params[j]?=some t→args[j]?=some v→Value.okWide Tryz.prog W .any base t v)
  (hW:DataW.Whole enc Tryz.prog Tryz.f6.params.toList Rows.changeAppliesSpec.vars false W args.toList ds gs before) (hk:Rows.uptoSmall H (ds++gs)=true) (hL:laidMetH Tryz.prog Rows.changeAppliesUptoRow.laid W) (JO:W.ShapedOpen Tryz.prog) :
  Calls Tryz.prog 6 args W fun e W'=>∃v,e= .returned v∧Rows.changeAppliesSpec.post enc Tryz.prog Tryz.f6 false true false false W args v W':=by
 have hp:=params;obtain⟨m,hG⟩:=akB JO;refine oQ (G:=gN m) (bk H) aim (tb:=tyB) laid (by rw[hp];simp[agk]) (by kernel_rfl) (by kernel_rfl) (by kernel_rfl) rfl W base args ds gs before hG ?_ nU hW ?_
 ·intro ds h;rw[hp] at h
  match ds,h with
  |[_,_],_=>rfl
 intro ys h hw;rw[hp] at h;have hs:=tf hk;cases h with
 |cons h1 h2=>
 cases h2 with
 |cons h3 h4=>
 cases h4;obtain⟨d,rfl,hd⟩:=Sh.doc tyD h1;obtain⟨l,rfl,hl,II⟩:=Sh.ops tyO h3;simp only[k9] at hw;exact ajP d l (by omega) (agm hl II (by omega))
theorem laid_met (os:Os):laidMetH Tryz.prog Rows.changeAppliesUptoRow.laid ((f_ os).forCall (fun _ _=>0) ⟨#[],#[.agg #[.slice none 0 0],.slice none 0 0],[]⟩).memory:=Go.Proofs.YtfinkeaikbmpgaaGreatDoor.ake os _
theorem reads (os:Os) {H:Type} (enc:TypeId×Value→H):∃places,DataW.whole enc Tryz.prog ((f_ os).forCall (fun _ _=>0) ⟨#[],#[.agg #[.slice none 0 0],.slice none 0 0],[]⟩).memory Tryz.f6.params.toList Rows.changeAppliesSpec.vars false (#[.agg #[.slice none 0 0],.slice none 0 0]:Array Value).toList 8=some ([.agg [.nil],.nil],[],places):=
 ⟨[],by kernel_rfl⟩
set_option maxRecDepth 100000 in
theorem lifted (os:Os) (started:os.Started) (H:Type) (enc:TypeId×Value→H) (F:Stop.Interp) :
  ReturnsInHanded {} Tryz.checked os 6 .any ((Rows.OpenSpec.upto Rows.changeAppliesSpec).preRow enc Tryz.prog Tryz.f6 Rows.changeAppliesUptoRow.domain false Rows.changeAppliesUptoRow.laid) (((Rows.OpenSpec.upto Rows.changeAppliesSpec).at F).post enc Tryz.prog Tryz.f6 false true false false):=by
 obtain⟨places,hx⟩:=reads os enc;refine returnsInHanded_of_row (C:=Tryz.checked) (s:=Rows.OpenSpec.upto Rows.changeAppliesSpec) own started (by kernel_rfl) Tryz.func6
  (witness_row_atRef (enc:=enc) (C:=Tryz.checked) false (f_ os) #[.agg #[.slice none 0 0],.slice none 0 0] rfl (Gw os _) (Gx os _) (by kernel_rfl)
   (OpenSpec.preRow_of_cond 8 hx (by kernel_rfl) (fun k hk=>by cases hk;kernel_rfl) (by kernel_rfl) (laid_met os))) ?_
 intro W base args ds gs before nU hW _ cP _ hL JO _;exact contract H enc W base args ds gs before nU hW (cP _ rfl) hL JO
set_option maxRecDepth 100000 in
theorem a1:(Rows.changeAppliesUptoRow.inPlace==Tryz.pinned.checked.prog.inPlace 6)=true:=by kernel_rfl
set_option maxRecDepth 100000 in
theorem a2:(Rows.changeAppliesUptoRow.unfollowed==Tryz.pinned.checked.prog.unfollowed 6)=true:=by kernel_rfl
set_option maxRecDepth 100000 in
theorem a3:(Rows.changeAppliesUptoRow.recurses==Tryz.pinned.checked.prog.recurses 6)=true:=by kernel_rfl
set_option maxRecDepth 100000 in
theorem a4:(Rows.changeAppliesUptoRow.named==Tryz.pinned.checked.prog.varsNamed 6)=true:=by kernel_rfl
set_option maxRecDepth 100000 in
theorem a5:(Tryz.pinned.checked.prog.stops==[])=true:=by kernel_rfl
set_option maxRecDepth 100000 in
theorem closed:joinedFacts Tryz.pinned.checked.prog 6 Tryz.f6 (Rows.OpenSpec.upto Rows.changeAppliesSpec).bare Rows.changeAppliesUptoRow=true:=by
 unfold joinedFacts;rw[a1,a2,a3,a4,a5]
 kernel_rfl
theorem over:Rows.changeAppliesUptoRow.holds Tryz.pinned (Rows.OpenSpec.upto Rows.changeAppliesSpec):=
 OpenClaim.holds_of_cond 6 Tryz.f6 rfl rfl rfl rfl rfl rfl rfl ⟨rfl,rfl,rfl,rfl,rfl⟩ rfl rfl rfl rfl rfl (by kernel_rfl) Tryz.func6 closed
  (oh (by kernel_rfl)) (by unfold Func.isWrapper;first|(rw[bf (by decide +kernel)];kernel_rfl)|(rw[a_ (by decide +kernel)];exact⟨rfl,rfl⟩))
  (fun os started H enc _ F=>by rw[OpenClaim.pre_eq_preRow];exact lifted os started H enc F)
theorem plain (f:FuncId) (fn:Func) (hf:Tryz.pinned.checked.prog.funcNamed "topiary/topiarylaw.ChangeApplies"=some f) (w5:Tryz.pinned.checked.prog.funcs[f]?=some fn) :
  true=Tryz.pinned.checked.prog.looks []∧∀(j:Nat) t,fn.params[j]?=some t→Tryz.pinned.checked.prog.wantsStandIn t=false:=by
 obtain rfl:f=6:=pH ((show Tryz.prog.funcNamed "topiary/topiarylaw.ChangeApplies"=some 6 by kernel_rfl).symm.trans hf) |>.symm;obtain rfl:fn=Tryz.f6:=(pH (Tryz.func6.symm.trans w5)).symm;refine⟨by kernel_rfl,fun j t ht=> ?_⟩;have hm:t∈Tryz.f6.params.toList:=aV (by simpa using ht);rw[params] at hm;have dN:([28,54].all fun u=> !Tryz.prog.wantsStandIn u)=true:=by kernel_rfl
 exact(show Tryz.prog.wantsStandIn t=false by simpa using ek.1 dN t hm)
theorem proved:Rows.ChangeAppliesUptoCardSaid:=
 Claim7.holds_tied_plain_at .later [] _ _ _ _ over (fun _ h=>by cases h) (by kernel_rfl) (fun _ h=>by cases h) changeAppliesUpto_row_tie rfl ⟨rfl,rfl⟩ (by kernel_rfl) rfl plain (by kernel_rfl)
end Go.Proofs.YtfinkeaikbmpgaaGreatDoor.changeApplies
