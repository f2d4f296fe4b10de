import Derived.Test.YtfinkeaikbmpgaaGreatDoorE29
import Derived.Test.YtfinkeaikbmpgaaGreatDoorKAm48
import Derived.Test.YtfinkeaikbmpgaaGreatDoorCards
import Derived.Test.YtfinkeaikbmpgaaGreatDoorTie
import Derived.WalkKit
import Derived.ProofKit
import Derived.OpenShut
import Derived.LaidMore
import Derived.Deep.DeepHandedRow
set_option linter.unusedSimpArgs false
set_option linter.unusedVariables false
set_option linter.unnecessarySimpa false
set_option linter.defProp false
/- PathSelects holds, for arguments of bulk at most 2^20. -/
namespace Go.Proofs.YtfinkeaikbmpgaaGreatDoor.pathSelects
open Go Go.Am Go.ChangeShapes Go.WideShapes Go.ChangeAt Go.RowKit
theorem params:Tryz.f7.params.toList=[28,63]:=by kernel_rfl
set_option maxRecDepth 100000 in
theorem contract (H:Type) (enc:TypeId×Value→H) (W:World) (base:Nat) (args:Array Value) (ds gs:List (DataW H)) (before:List MemPlace)
  (od:∀(j:Nat) t v,Tryz.f7.params[j]?=some t→args[j]?=some v→Value.okWide Tryz.prog W .any base t v)
  (hW:DataW.Whole enc Tryz.prog Tryz.f7.params.toList Rows.pathSelectsSpec.vars false W args.toList ds gs before) (hk:Rows.uptoSmall H (ds++gs)=true) (hL:laidMetH Tryz.prog Rows.pathSelectsUptoRow.laid W) :
  Calls Tryz.prog 7 args W fun e W'=>∃v,e= .returned v∧Rows.pathSelectsSpec.post enc Tryz.prog Tryz.f7 false true false false W args v W':=by
 have hp:=params;obtain⟨t1,t2,hG⟩:=G2 hL;refine pq (G:=gZ t1 t2) (bk H) IN (tb:=K0) laid (by rw[hp];simp[Hx]) (by kernel_rfl) (by kernel_rfl) (by kernel_rfl) rfl W base args ds gs before hG ?_ od hW ?_
 ·intro ds h;rw[hp] at h
  match ds,h with
  |[_,_],_=>rfl
 ·intro ys h hw;rw[hp] at h;have hs:=tX hk;cases h with
  |cons h1 h2=>
   cases h2 with
   |cons h2 h3=>
    cases h3;obtain⟨d,rfl,hd⟩:=Sh.doc KZ h1;obtain⟨l,rfl,hl,hn⟩:=Sh.steps K1 h2;simp only[jE] at hw;exact ra d (by unfold B;omega) l (by omega) (fun x hx=>by have:=hn x hx;unfold B;omega)
theorem laid_met (os:Os):laidMetH Tryz.prog Rows.pathSelectsUptoRow.laid ((gx os).forCall (fun _ _=>0) ⟨#[],#[.agg #[.slice none 0 0],.slice none 0 0],[]⟩).memory:=Go.Proofs.YtfinkeaikbmpgaaGreatDoor.wY os _
theorem reads (os:Os) {H:Type} (enc:TypeId×Value→H):∃places,DataW.whole enc Tryz.prog ((gx os).forCall (fun _ _=>0) ⟨#[],#[.agg #[.slice none 0 0],.slice none 0 0],[]⟩).memory Tryz.f7.params.toList Rows.pathSelectsSpec.vars false (#[.agg #[.slice none 0 0],.slice none 0 0]:Array Value).toList 8=some ([.agg [.nil],.nil],[],places):=
 ⟨[],by kernel_rfl⟩
set_option maxRecDepth 100000 in
theorem lifted (os:Os) (started:os.Started) (H:Type) (enc:TypeId×Value→H) (F:Stop.Interp) :
  ReturnsInHanded {} Tryz.checked os 7 .any ((Rows.OpenSpec.upto Rows.pathSelectsSpec).preRow enc Tryz.prog Tryz.f7 Rows.pathSelectsUptoRow.domain false Rows.pathSelectsUptoRow.laid) (((Rows.OpenSpec.upto Rows.pathSelectsSpec).at F).post enc Tryz.prog Tryz.f7 false true false false):=by
 obtain⟨places,hx⟩:=reads os enc
 refine returnsInHanded_of_row (C:=Tryz.checked) (s:=Rows.OpenSpec.upto Rows.pathSelectsSpec) own started (by kernel_rfl) Tryz.func7
  (witness_row_atRef (enc:=enc) (C:=Tryz.checked) false (gx os) #[.agg #[.slice none 0 0],.slice none 0 0] rfl (GZ os _) (G0 os _) (by kernel_rfl)
   (OpenSpec.preRow_of_cond 8 hx (by kernel_rfl) (fun k hk=>by cases hk;kernel_rfl) (by kernel_rfl) (laid_met os))) ?_
 intro W base args ds gs before od hW _ cP _ hL _ _;exact contract H enc W base args ds gs before od hW (cP _ rfl) hL
set_option maxRecDepth 100000 in
theorem a1:(Rows.pathSelectsUptoRow.inPlace==Tryz.pinned.checked.prog.inPlace 7)=true:=by kernel_rfl
set_option maxRecDepth 100000 in
theorem a2:(Rows.pathSelectsUptoRow.unfollowed==Tryz.pinned.checked.prog.unfollowed 7)=true:=by kernel_rfl
set_option maxRecDepth 100000 in
theorem a3:(Rows.pathSelectsUptoRow.recurses==Tryz.pinned.checked.prog.recurses 7)=true:=by kernel_rfl
set_option maxRecDepth 100000 in
theorem a4:(Rows.pathSelectsUptoRow.named==Tryz.pinned.checked.prog.varsNamed 7)=true:=by kernel_rfl
set_option maxRecDepth 100000 in
theorem a5:(Tryz.pinned.checked.prog.stops==[])=true:=by kernel_rfl
set_option maxRecDepth 100000 in
theorem closed:joinedFacts Tryz.pinned.checked.prog 7 Tryz.f7 (Rows.OpenSpec.upto Rows.pathSelectsSpec).bare Rows.pathSelectsUptoRow=true:=by
 unfold joinedFacts;rw[a1,a2,a3,a4,a5]
 kernel_rfl
theorem over:Rows.pathSelectsUptoRow.holds Tryz.pinned (Rows.OpenSpec.upto Rows.pathSelectsSpec):=
 OpenClaim.holds_of_cond 7 Tryz.f7 rfl rfl rfl rfl rfl rfl rfl ⟨rfl,rfl,rfl,rfl,rfl⟩ rfl rfl rfl rfl rfl (by kernel_rfl) Tryz.func7 closed
  (of_decide_eq_true (by kernel_rfl)) (by unfold Func.isWrapper;first|(rw[if_pos (by decide +kernel)];kernel_rfl)|(rw[if_neg (by decide +kernel)];exact⟨rfl,rfl⟩))
  (fun os started H enc _ F=>by rw[OpenClaim.pre_eq_preRow];exact lifted os started H enc F)
theorem plain (f:FuncId) (fn:Func) (hf:Tryz.pinned.checked.prog.funcNamed "topiary/topiarylaw.PathSelects"=some f) (xK:Tryz.pinned.checked.prog.funcs[f]?=some fn) :
  true=Tryz.pinned.checked.prog.looks []∧∀(j:Nat) t,fn.params[j]?=some t→Tryz.pinned.checked.prog.wantsStandIn t=false:=by
 obtain rfl:f=7:=Option.some.inj ((show Tryz.prog.funcNamed "topiary/topiarylaw.PathSelects"=some 7 by kernel_rfl).symm.trans hf) |>.symm;obtain rfl:fn=Tryz.f7:=(Option.some.inj (Tryz.func7.symm.trans xK)).symm;refine⟨by kernel_rfl,fun j t ht=> ?_⟩;have hm:t∈Tryz.f7.params.toList:=List.mem_of_getElem? (by simpa using ht);rw[params] at hm
 have dN:([28,63].all fun u=> !Tryz.prog.wantsStandIn u)=true:=by kernel_rfl
 exact(show Tryz.prog.wantsStandIn t=false by simpa using List.all_eq_true.1 dN t hm)
theorem proved:Rows.PathSelectsUptoCardSaid:=
 Claim7.holds_tied_plain_at .later [] _ _ _ _ over (fun _ h=>by cases h) (by kernel_rfl) (fun _ h=>by cases h) pathSelectsUpto_row_tie rfl ⟨rfl,rfl⟩ (by kernel_rfl) rfl plain (by kernel_rfl)
end Go.Proofs.YtfinkeaikbmpgaaGreatDoor.pathSelects
