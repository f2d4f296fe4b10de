import Derived.Test.YtfinkeaikbmpgaaDoorE91
import Derived.Test.YtfinkeaikbmpgaaDoorKAm48
import Derived.Test.YtfinkeaikbmpgaaDoorCards
import Derived.Test.YtfinkeaikbmpgaaDoorTie
import Derived.WalkKit
import Derived.ProofKit
import Derived.OpenShut
import Derived.LaidMore
import Derived.Deep.DeepHandedRow
set_option linter.unusedSimpArgs false
set_option linter.unusedVariables false
set_option linter.unnecessarySimpa false
set_option linter.defProp false
/- MarkParts holds, for arguments of bulk at most 2^20. -/
namespace Go.Proofs.YtfinkeaikbmpgaaDoor.markParts
open Go Go.Am Go.ChangeShapes Go.WideShapes Go.ChangeAt Go.RowKit
theorem params:Tryd.f10.params.toList=[9]:=by kernel_rfl
set_option maxRecDepth 100000 in
theorem contract (H:Type) (enc:TypeId×Value→H) (W:World) (base:Nat) (args:Array Value) (ds gs:List (DataW H)) (before:List MemPlace)
  (nU:∀(j:Nat) t v,Tryd.f10.params[j]?=some t→args[j]?=some v→Value.okWide Tryd.prog W .any base t v)
  (hW:DataW.Whole enc Tryd.prog Tryd.f10.params.toList Rows.markPartsSpec.vars false W args.toList ds gs before) (hk:Rows.uptoSmall H (ds++gs)=true) (hL:laidMetH Tryd.prog Rows.markPartsUptoRow.laid W) (JO:W.ShapedOpen Tryd.prog) :
  Calls Tryd.prog 10 args W fun e W'=>∃v,e= .returned v∧Rows.markPartsSpec.post enc Tryd.prog Tryd.f10 false true false false W args v W':=by
 have hp:=params;obtain⟨m,hG⟩:=GA hL JO;refine oQ (G:=gM m) (bk H) I5 (tb:=Lo) laid (by rw[hp];simp[HC]) (by kernel_rfl) (by kernel_rfl) (by kernel_rfl) rfl W base args ds gs before hG ?_ nU hW ?_
 ·intro ds h;rw[hp] at h
  match ds,h with
  |[_],_=>rfl
 intro ys h hw;rw[hp] at h;have hs:=tf hk;cases h with
 |cons h1 h2=>
 cases h2;obtain⟨x,rfl⟩:=h1.uJ Ln.uS;simp only[k9,IV.wt] at hw;exact Ro x (by unfold B;omega)
theorem laid_met (os:Os):laidMetH Tryd.prog Rows.markPartsUptoRow.laid ((f_ os).forCall (fun _ _=>0) ⟨#[],#[.string ⟨#[]⟩],[]⟩).memory:=Go.Proofs.YtfinkeaikbmpgaaDoor.vL os _
theorem reads (os:Os) {H:Type} (enc:TypeId×Value→H):∃places,DataW.whole enc Tryd.prog ((f_ os).forCall (fun _ _=>0) ⟨#[],#[.string ⟨#[]⟩],[]⟩).memory Tryd.f10.params.toList Rows.markPartsSpec.vars false (#[.string ⟨#[]⟩]:Array Value).toList 8=some ([.lit (.string [])],[],places):=
 ⟨[],by kernel_rfl⟩
set_option maxRecDepth 100000 in
theorem lifted (os:Os) (started:os.Started) (H:Type) (enc:TypeId×Value→H) (F:Stop.Interp) :
  ReturnsInHanded {} Tryd.checked os 10 .any ((Rows.OpenSpec.upto Rows.markPartsSpec).preRow enc Tryd.prog Tryd.f10 Rows.markPartsUptoRow.domain false Rows.markPartsUptoRow.laid) (((Rows.OpenSpec.upto Rows.markPartsSpec).at F).post enc Tryd.prog Tryd.f10 false true false false):=by
 obtain⟨places,hx⟩:=reads os enc;refine returnsInHanded_of_row (C:=Tryd.checked) (s:=Rows.OpenSpec.upto Rows.markPartsSpec) own started (by kernel_rfl) Tryd.func10
  (witness_row_atRef (enc:=enc) (C:=Tryd.checked) false (f_ os) #[.string ⟨#[]⟩] rfl (Gw os _) (Gx os _) (by kernel_rfl)
   (OpenSpec.preRow_of_cond 8 hx (by kernel_rfl) (fun k hk=>by cases hk;kernel_rfl) (by kernel_rfl) (laid_met os))) ?_
 intro W base args ds gs before nU hW _ cP _ hL JO _;exact contract H enc W base args ds gs before nU hW (cP _ rfl) hL JO
theorem over:Rows.markPartsUptoRow.holds Tryd.pinned (Rows.OpenSpec.upto Rows.markPartsSpec):=
 OpenClaim.holds_of_cond 10 Tryd.f10 rfl rfl rfl rfl rfl rfl rfl ⟨rfl,rfl,rfl,rfl,rfl⟩ rfl rfl rfl rfl rfl (by kernel_rfl) Tryd.func10 (by kernel_rfl)
  (W1 (by kernel_rfl)) (by unfold Func.isWrapper;first|(rw[Vd (by decide +kernel)];kernel_rfl)|(rw[U8 (by decide +kernel)];exact⟨rfl,rfl⟩))
  (fun os started H enc _ F=>by rw[OpenClaim.pre_eq_preRow];exact lifted os started H enc F)
theorem plain (f:FuncId) (fn:Func) (hf:Tryd.pinned.checked.prog.funcNamed "topiary/topiarylaw.MarkParts"=some f) (w5:Tryd.pinned.checked.prog.funcs[f]?=some fn) :
  true=Tryd.pinned.checked.prog.looks []∧∀(j:Nat) t,fn.params[j]?=some t→Tryd.pinned.checked.prog.wantsStandIn t=false:=by
 obtain rfl:f=10:=W0 ((show Tryd.prog.funcNamed "topiary/topiarylaw.MarkParts"=some 10 by kernel_rfl).symm.trans hf) |>.symm;obtain rfl:fn=Tryd.f10:=(W0 (Tryd.func10.symm.trans w5)).symm;refine⟨by kernel_rfl,fun j t ht=> ?_⟩;have hm:t∈Tryd.f10.params.toList:=U_ (by simpa using ht);rw[params] at hm;have dN:([9].all fun u=> !Tryd.prog.wantsStandIn u)=true:=by kernel_rfl
 exact(show Tryd.prog.wantsStandIn t=false by simpa using Vx.1 dN t hm)
theorem proved:Rows.MarkPartsUptoCardSaid:=
 Claim7.holds_tied_plain_at .later [] _ _ _ _ over (fun _ h=>by cases h) (by kernel_rfl) (fun _ h=>by cases h) markPartsUpto_row_tie rfl ⟨rfl,rfl⟩ (by kernel_rfl) rfl plain (by kernel_rfl)
end Go.Proofs.YtfinkeaikbmpgaaDoor.markParts
