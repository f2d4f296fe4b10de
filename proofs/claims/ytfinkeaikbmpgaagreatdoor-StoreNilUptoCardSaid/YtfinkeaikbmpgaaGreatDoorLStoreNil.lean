import Derived.Test.YtfinkeaikbmpgaaGreatDoorE30
import Derived.Test.YtfinkeaikbmpgaaGreatDoorKAm25
import Derived.Test.YtfinkeaikbmpgaaGreatDoorCards
import Derived.Test.YtfinkeaikbmpgaaGreatDoorTie
import Derived.WalkKit
import Derived.ProofKit
import Derived.OpenShut
import Derived.LaidMore
import Derived.Deep.DeepHandedRow
set_option linter.unusedSimpArgs false
set_option linter.unusedVariables false
set_option linter.unnecessarySimpa false
set_option linter.defProp false
/- StoreNil holds, for arguments of bulk at most 2^20. -/
namespace Go.Proofs.YtfinkeaikbmpgaaGreatDoor.storeNil
open Go Go.Am Go.ChangeShapes Go.WideShapes Go.ChangeAt Go.RowKit
theorem params:Tryz.f8.params.toList=[31]:=by kernel_rfl
set_option maxRecDepth 100000 in
theorem contract (H:Type) (enc:TypeId×Value→H) (W:World) (base:Nat) (args:Array Value) (ds gs:List (DataW H)) (before:List MemPlace)
  (fo:∀(j:Nat) t v,Tryz.f8.params[j]?=some t→args[j]?=some v→Value.okWide Tryz.prog W .any base t v)
  (hW:DataW.Whole enc Tryz.prog Tryz.f8.params.toList Rows.storeNilSpec.vars false W args.toList ds gs before) (hk:Rows.uptoSmall H (ds++gs)=true) :
  Calls Tryz.prog 8 args W fun e W'=>∃v,e= .returned v∧Rows.storeNilSpec.post enc Tryz.prog Tryz.f8 false true false false W args v W':=by
 have hp:=params;refine gF (bk H) uO (tb:=wS) laid (by rw[hp];simp[tf]) (by kernel_rfl) (by kernel_rfl) (by kernel_rfl) rfl W base args ds gs before ?_ fo hW ?_
 ·intro ds h;rw[hp] at h
  match ds,h with
  |[_],_=>rfl
 ·intro ys h hw;rw[hp] at h;have hs:=iY hk;cases h with
  |cons h1 h2=>
   cases h2;obtain⟨a,rfl,ha⟩:=Sh.act wV h1;exact kj a
theorem laid_met (os:Os):laidMetH Tryz.prog Rows.storeNilUptoRow.laid ((bN os).forCall (fun _ _=>0) ⟨#[],#[.agg #[.int .i64 0,.slice none 0 0]],[]⟩).memory:=Go.Proofs.YtfinkeaikbmpgaaGreatDoor.kh os _
theorem reads (os:Os) {H:Type} (enc:TypeId×Value→H):∃places,DataW.whole enc Tryz.prog ((bN os).forCall (fun _ _=>0) ⟨#[],#[.agg #[.int .i64 0,.slice none 0 0]],[]⟩).memory Tryz.f8.params.toList Rows.storeNilSpec.vars false (#[.agg #[.int .i64 0,.slice none 0 0]]:Array Value).toList 8=some ([.agg [.lit (.int .i64 0),.nil]],[],places):=
 ⟨[],by kernel_rfl⟩
set_option maxRecDepth 100000 in
theorem lifted (os:Os) (started:os.Started) (H:Type) (enc:TypeId×Value→H) (F:Stop.Interp) :
  ReturnsInHanded {} Tryz.checked os 8 .any ((Rows.OpenSpec.upto Rows.storeNilSpec).preRow enc Tryz.prog Tryz.f8 Rows.storeNilUptoRow.domain false Rows.storeNilUptoRow.laid) (((Rows.OpenSpec.upto Rows.storeNilSpec).at F).post enc Tryz.prog Tryz.f8 false true false false):=by
 obtain⟨places,hx⟩:=reads os enc
 refine returnsInHanded_of_row (C:=Tryz.checked) (s:=Rows.OpenSpec.upto Rows.storeNilSpec) own started (by kernel_rfl) Tryz.func8
  (witness_row_atRef (enc:=enc) (C:=Tryz.checked) false (bN os) #[.agg #[.int .i64 0,.slice none 0 0]] rfl (sG os _) (sH os _) (by kernel_rfl)
   (OpenSpec.preRow_of_cond 8 hx (by kernel_rfl) (fun k hk=>by cases hk;kernel_rfl) (by kernel_rfl) (laid_met os))) ?_
 intro W base args ds gs before fo hW _ aI _ _ _ _;exact contract H enc W base args ds gs before fo hW (aI _ rfl)
set_option maxRecDepth 100000 in
theorem a1:(Rows.storeNilUptoRow.inPlace==Tryz.pinned.checked.prog.inPlace 8)=true:=by kernel_rfl
set_option maxRecDepth 100000 in
theorem a2:(Rows.storeNilUptoRow.unfollowed==Tryz.pinned.checked.prog.unfollowed 8)=true:=by kernel_rfl
set_option maxRecDepth 100000 in
theorem a3:(Rows.storeNilUptoRow.recurses==Tryz.pinned.checked.prog.recurses 8)=true:=by kernel_rfl
set_option maxRecDepth 100000 in
theorem a4:(Rows.storeNilUptoRow.named==Tryz.pinned.checked.prog.varsNamed 8)=true:=by kernel_rfl
set_option maxRecDepth 100000 in
theorem a5:(Tryz.pinned.checked.prog.stops==[])=true:=by kernel_rfl
set_option maxRecDepth 100000 in
theorem closed:joinedFacts Tryz.pinned.checked.prog 8 Tryz.f8 (Rows.OpenSpec.upto Rows.storeNilSpec).bare Rows.storeNilUptoRow=true:=by
 unfold joinedFacts;rw[a1,a2,a3,a4,a5]
 kernel_rfl
theorem over:Rows.storeNilUptoRow.holds Tryz.pinned (Rows.OpenSpec.upto Rows.storeNilSpec):=
 OpenClaim.holds_of_cond 8 Tryz.f8 rfl rfl rfl rfl rfl rfl rfl ⟨rfl,rfl,rfl,rfl,rfl⟩ rfl rfl rfl rfl rfl (by kernel_rfl) Tryz.func8 closed
  (of_decide_eq_true (by kernel_rfl)) (by unfold Func.isWrapper;first|(rw[if_pos (by decide +kernel)];kernel_rfl)|(rw[if_neg (by decide +kernel)];exact⟨rfl,rfl⟩))
  (fun os started H enc _ F=>by rw[OpenClaim.pre_eq_preRow];exact lifted os started H enc F)
theorem plain (f:FuncId) (fn:Func) (hf:Tryz.pinned.checked.prog.funcNamed "topiary/topiarylaw.StoreNil"=some f) (kM:Tryz.pinned.checked.prog.funcs[f]?=some fn) :
  true=Tryz.pinned.checked.prog.looks []∧∀(j:Nat) t,fn.params[j]?=some t→Tryz.pinned.checked.prog.wantsStandIn t=false:=by
 obtain rfl:f=8:=Option.some.inj ((show Tryz.prog.funcNamed "topiary/topiarylaw.StoreNil"=some 8 by kernel_rfl).symm.trans hf) |>.symm;obtain rfl:fn=Tryz.f8:=(Option.some.inj (Tryz.func8.symm.trans kM)).symm;refine⟨by kernel_rfl,fun j t ht=> ?_⟩;have hm:t∈Tryz.f8.params.toList:=List.mem_of_getElem? (by simpa using ht);rw[params] at hm
 have c6:([31].all fun u=> !Tryz.prog.wantsStandIn u)=true:=by kernel_rfl
 exact(show Tryz.prog.wantsStandIn t=false by simpa using List.all_eq_true.1 c6 t hm)
theorem proved:Rows.StoreNilUptoCardSaid:=
 Claim7.holds_tied_plain_at .later [] _ _ _ _ over (fun _ h=>by cases h) (by kernel_rfl) (fun _ h=>by cases h) storeNilUpto_row_tie rfl ⟨rfl,rfl⟩ (by kernel_rfl) rfl plain (by kernel_rfl)
end Go.Proofs.YtfinkeaikbmpgaaGreatDoor.storeNil
