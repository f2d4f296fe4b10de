import Derived.Test.YtfinkeaikbmpgaaDoorE96
import Derived.Test.YtfinkeaikbmpgaaDoorE97
import Derived.Test.YtfinkeaikbmpgaaDoorKAm48
import Derived.Test.YtfinkeaikbmpgaaDoorCards
import Derived.Test.YtfinkeaikbmpgaaDoorTie
import Derived.WalkKit
import Derived.ProofKit
import Derived.OpenShut
import Derived.LaidMore
import Derived.Deep.DeepHandedRow
set_option linter.unusedSimpArgs false
set_option linter.unusedVariables false
set_option linter.unnecessarySimpa false
set_option linter.defProp false
/- ChangeChecks holds, for arguments of bulk at most 2^20. -/
namespace Go.Proofs.YtfinkeaikbmpgaaDoor.changeChecks
open Go Go.Am Go.ChangeShapes Go.WideShapes Go.ChangeAt Go.RowKit
theorem params:Tryd.f11.params.toList=[39,58]:=by kernel_rfl
set_option maxRecDepth 100000 in
theorem contract (H:Type) (enc:TypeId×Value→H) (W:World) (base:Nat) (args:Array Value) (ds gs:List (DataW H)) (before:List MemPlace)
  (nU:∀(j:Nat) t v,Tryd.f11.params[j]?=some t→args[j]?=some v→Value.okWide Tryd.prog W .any base t v)
  (hW:DataW.Whole enc Tryd.prog Tryd.f11.params.toList Rows.changeChecksSpec.vars false W args.toList ds gs before) (hk:Rows.uptoSmall H (ds++gs)=true) (hL:laidMetH Tryd.prog Rows.changeChecksUptoRow.laid W) (JO:W.ShapedOpen Tryd.prog) :
  Calls Tryd.prog 11 args W fun e W'=>∃v,e= .returned v∧Rows.changeChecksSpec.post enc Tryd.prog Tryd.f11 false true false false W args v W':=by
 have hp:=params;obtain⟨m,hG⟩:=ahB JO;refine oQ (G:=gL m) (bk H) aim (tb:=tyB) laid (by rw[hp];simp[agk]) (by kernel_rfl) (by kernel_rfl) (by kernel_rfl) rfl W base args ds gs before hG ?_ nU hW ?_
 ·intro ds h;rw[hp] at h
  match ds,h with
  |[_,_],_=>rfl
 intro ys h hw;rw[hp] at h;have hs:=tf hk;cases h with
 |cons h1 h2=>
 cases h2 with
 |cons h3 h4=>
 cases h4;obtain⟨d,rfl,hd⟩:=Sh.doc tyD h1;obtain⟨l,rfl,hl,II⟩:=Sh.ops tyO h3;simp only[k9] at hw;exact aax d l (by omega) (agm hl II (by omega))
theorem laid_met (os:Os):laidMetH Tryd.prog Rows.changeChecksUptoRow.laid ((vI os).forCall (fun _ _=>0) ⟨#[],#[.agg #[.slice none 0 0],.slice none 0 0],[]⟩).memory:=Go.Proofs.YtfinkeaikbmpgaaDoor.laid_met os _
theorem reads (os:Os) {H:Type} (enc:TypeId×Value→H):∃places,DataW.whole enc Tryd.prog ((vI os).forCall (fun _ _=>0) ⟨#[],#[.agg #[.slice none 0 0],.slice none 0 0],[]⟩).memory Tryd.f11.params.toList Rows.changeChecksSpec.vars false (#[.agg #[.slice none 0 0],.slice none 0 0]:Array Value).toList 8=some ([.agg [.nil],.nil],[],places):=
 ⟨[],by kernel_rfl⟩
set_option maxRecDepth 100000 in
theorem lifted (os:Os) (started:os.Started) (H:Type) (enc:TypeId×Value→H) (F:Stop.Interp) :
  ReturnsInHanded {} Tryd.checked os 11 .any ((Rows.OpenSpec.upto Rows.changeChecksSpec).preRow enc Tryd.prog Tryd.f11 Rows.changeChecksUptoRow.domain false Rows.changeChecksUptoRow.laid) (((Rows.OpenSpec.upto Rows.changeChecksSpec).at F).post enc Tryd.prog Tryd.f11 false true false false):=by
 obtain⟨places,hx⟩:=reads os enc;refine returnsInHanded_of_row (C:=Tryd.checked) (s:=Rows.OpenSpec.upto Rows.changeChecksSpec) own started (by kernel_rfl) Tryd.func11
  (witness_row_at (enc:=enc) (C:=Tryd.checked) false (vI os) #[.agg #[.slice none 0 0],.slice none 0 0] rfl (by kernel_rfl) (by kernel_rfl) (by kernel_rfl)
   (OpenSpec.preRow_of_cond 8 hx (by kernel_rfl) (fun k hk=>by cases hk;kernel_rfl) (by kernel_rfl) (laid_met os))) ?_
 intro W base args ds gs before nU hW _ cP _ hL JO _;exact contract H enc W base args ds gs before nU hW (cP _ rfl) hL JO
set_option maxRecDepth 100000 in
theorem a1:(Rows.changeChecksUptoRow.inPlace==Tryd.pinned.checked.prog.inPlace 11)=true:=by kernel_rfl
set_option maxRecDepth 100000 in
theorem a2:(Rows.changeChecksUptoRow.unfollowed==Tryd.pinned.checked.prog.unfollowed 11)=true:=by kernel_rfl
set_option maxRecDepth 100000 in
theorem a3:(Rows.changeChecksUptoRow.recurses==Tryd.pinned.checked.prog.recurses 11)=true:=by kernel_rfl
set_option maxRecDepth 100000 in
theorem a4:(Rows.changeChecksUptoRow.named==Tryd.pinned.checked.prog.varsNamed 11)=true:=by kernel_rfl
set_option maxRecDepth 100000 in
theorem a5:(Tryd.pinned.checked.prog.stops==[])=true:=by kernel_rfl
set_option maxRecDepth 100000 in
theorem closed:joinedFacts Tryd.pinned.checked.prog 11 Tryd.f11 (Rows.OpenSpec.upto Rows.changeChecksSpec).bare Rows.changeChecksUptoRow=true:=by
 unfold joinedFacts;rw[a1,a2,a3,a4,a5]
 kernel_rfl
theorem over:Rows.changeChecksUptoRow.holds Tryd.pinned (Rows.OpenSpec.upto Rows.changeChecksSpec):=
 OpenClaim.holds_of_cond 11 Tryd.f11 rfl rfl rfl rfl rfl rfl rfl ⟨rfl,rfl,rfl,rfl,rfl⟩ rfl rfl rfl rfl rfl (by kernel_rfl) Tryd.func11 closed
  (oh (by kernel_rfl)) (by unfold Func.isWrapper;first|(rw[bf (by decide +kernel)];kernel_rfl)|(rw[a_ (by decide +kernel)];exact⟨rfl,rfl⟩))
  (fun os started H enc _ F=>by rw[OpenClaim.pre_eq_preRow];exact lifted os started H enc F)
theorem plain (f:FuncId) (fn:Func) (hf:Tryd.pinned.checked.prog.funcNamed "topiary/topiarylaw.ChangeChecks"=some f) (w5:Tryd.pinned.checked.prog.funcs[f]?=some fn) :
  true=Tryd.pinned.checked.prog.looks []∧∀(j:Nat) t,fn.params[j]?=some t→Tryd.pinned.checked.prog.wantsStandIn t=false:=by
 obtain rfl:f=11:=pH ((show Tryd.prog.funcNamed "topiary/topiarylaw.ChangeChecks"=some 11 by kernel_rfl).symm.trans hf) |>.symm;obtain rfl:fn=Tryd.f11:=(pH (Tryd.func11.symm.trans w5)).symm;refine⟨by kernel_rfl,fun j t ht=> ?_⟩;have hm:t∈Tryd.f11.params.toList:=aV (by simpa using ht);rw[params] at hm;have dN:([39,58].all fun u=> !Tryd.prog.wantsStandIn u)=true:=by kernel_rfl
 exact(show Tryd.prog.wantsStandIn t=false by simpa using ek.1 dN t hm)
theorem proved:Rows.ChangeChecksUptoCardSaid:=
 Claim7.holds_tied_plain_at .later [] _ _ _ _ over (fun _ h=>by cases h) (by kernel_rfl) (fun _ h=>by cases h) changeChecksUpto_row_tie rfl ⟨rfl,rfl⟩ (by kernel_rfl) rfl plain (by kernel_rfl)
end Go.Proofs.YtfinkeaikbmpgaaDoor.changeChecks
