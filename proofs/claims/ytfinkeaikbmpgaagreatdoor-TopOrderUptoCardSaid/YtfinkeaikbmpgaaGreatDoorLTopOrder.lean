import Derived.Test.YtfinkeaikbmpgaaGreatDoorE67
import Derived.Test.YtfinkeaikbmpgaaGreatDoorKAm48
import Derived.Test.YtfinkeaikbmpgaaGreatDoorCards
import Derived.Test.YtfinkeaikbmpgaaGreatDoorTie
import Derived.WalkKit
import Derived.ProofKit
import Derived.OpenShut
import Derived.LaidMore
import Derived.Deep.DeepHandedRow
set_option linter.unusedSimpArgs false
set_option linter.unusedVariables false
set_option linter.unnecessarySimpa false
set_option linter.defProp false
/- TopOrder holds, for arguments of bulk at most 2^20. -/
namespace Go.Proofs.YtfinkeaikbmpgaaGreatDoor.topOrder
open Go Go.Am Go.ChangeShapes Go.WideShapes Go.ChangeAt Go.RowKit
theorem params:Tryz.f13.params.toList=[22,29,3]:=by kernel_rfl
set_option maxRecDepth 100000 in
theorem contract (H:Type) (enc:TypeId×Value→H) (W:World) (base:Nat) (args:Array Value) (ds gs:List (DataW H)) (before:List MemPlace)
  (ka:∀(j:Nat) t v,Tryz.f13.params[j]?=some t→args[j]?=some v→Value.okWide Tryz.prog W .any base t v)
  (hW:DataW.Whole enc Tryz.prog Tryz.f13.params.toList Rows.topOrderSpec.vars false W args.toList ds gs before) (hk:Rows.uptoSmall H (ds++gs)=true) (hL:laidMetH Tryz.prog Rows.topOrderUptoRow.laid W) :
  Calls Tryz.prog 13 args W fun e W'=>∃v,e= .returned v∧Rows.topOrderSpec.post enc Tryz.prog Tryz.f13 false true false false W args v W':=by
 have hp:=params;obtain⟨t1,t2,hG⟩:=yI hL;refine iE (G:=gS t1 t2) (bk H) Fe (tb:=T7) laid (by rw[hp];simp[N2]) (by kernel_rfl) (by kernel_rfl) (by kernel_rfl) rfl W base args ds gs before hG ?_ ka hW ?_
 ·intro ds h;rw[hp] at h
  match ds,h with
  |[_,_,_],_=>rfl
 intro ys h hw;rw[hp] at h;have hs:=lf hk;cases h with
 |cons h1 h2=>
 cases h2 with
 |cons h2 h3=>
 cases h3 with
 |cons h3 h4=>
 cases h4;obtain⟨l,rfl,hl,hn⟩:=Sh.gf K2 h1;obtain⟨m,rfl,hm⟩:=Sh.lines K2 h2;obtain⟨k,rfl,_⟩:=h3.Cw K2.uI;simp only[rI,IV.wt] at hw hl hn hm;exact Mp l (by unfold B;omega) (fun x hx=>by have:=hn x hx;omega) m (by omega) k
theorem laid_met (os:Os):laidMetH Tryz.prog Rows.topOrderUptoRow.laid ((cD os).forCall (fun _ _=>0) ⟨#[],#[.slice none 0 0,.slice none 0 0,.int .i64 0],[]⟩).memory:=Go.Proofs.YtfinkeaikbmpgaaGreatDoor.mM os _
theorem reads (os:Os) {H:Type} (enc:TypeId×Value→H):∃places,DataW.whole enc Tryz.prog ((cD os).forCall (fun _ _=>0) ⟨#[],#[.slice none 0 0,.slice none 0 0,.int .i64 0],[]⟩).memory Tryz.f13.params.toList Rows.topOrderSpec.vars false (#[.slice none 0 0,.slice none 0 0,.int .i64 0]:Array Value).toList 8=some ([.nil,.nil,.lit (.int .i64 0)],[],places):=
 ⟨[],by kernel_rfl⟩
set_option maxRecDepth 100000 in
theorem lifted (os:Os) (started:os.Started) (H:Type) (enc:TypeId×Value→H) (F:Stop.Interp) :
  ReturnsInHanded {} Tryz.checked os 13 .any ((Rows.OpenSpec.upto Rows.topOrderSpec).preRow enc Tryz.prog Tryz.f13 Rows.topOrderUptoRow.domain false Rows.topOrderUptoRow.laid) (((Rows.OpenSpec.upto Rows.topOrderSpec).at F).post enc Tryz.prog Tryz.f13 false true false false):=by
 obtain⟨places,hx⟩:=reads os enc;refine returnsInHanded_of_row (C:=Tryz.checked) (s:=Rows.OpenSpec.upto Rows.topOrderSpec) own started (by kernel_rfl) Tryz.func13
  (witness_row_atRef (enc:=enc) (C:=Tryz.checked) false (cD os) #[.slice none 0 0,.slice none 0 0,.int .i64 0] rfl (yG os _) (yH os _) (by kernel_rfl)
   (OpenSpec.preRow_of_cond 8 hx (by kernel_rfl) (fun k hk=>by cases hk;kernel_rfl) (by kernel_rfl) (laid_met os))) ?_
 intro W base args ds gs before ka hW _ eD _ hL _ _;exact contract H enc W base args ds gs before ka hW (eD _ rfl) hL
set_option maxRecDepth 100000 in
theorem a1:(Rows.topOrderUptoRow.inPlace==Tryz.pinned.checked.prog.inPlace 13)=true:=by kernel_rfl
set_option maxRecDepth 100000 in
theorem a2:(Rows.topOrderUptoRow.unfollowed==Tryz.pinned.checked.prog.unfollowed 13)=true:=by kernel_rfl
set_option maxRecDepth 100000 in
theorem a3:(Rows.topOrderUptoRow.recurses==Tryz.pinned.checked.prog.recurses 13)=true:=by kernel_rfl
set_option maxRecDepth 100000 in
theorem a4:(Rows.topOrderUptoRow.named==Tryz.pinned.checked.prog.varsNamed 13)=true:=by kernel_rfl
set_option maxRecDepth 100000 in
theorem a5:(Tryz.pinned.checked.prog.stops==[])=true:=by kernel_rfl
set_option maxRecDepth 100000 in
theorem closed:joinedFacts Tryz.pinned.checked.prog 13 Tryz.f13 (Rows.OpenSpec.upto Rows.topOrderSpec).bare Rows.topOrderUptoRow=true:=by
 unfold joinedFacts;rw[a1,a2,a3,a4,a5]
 kernel_rfl
theorem over:Rows.topOrderUptoRow.holds Tryz.pinned (Rows.OpenSpec.upto Rows.topOrderSpec):=
 OpenClaim.holds_of_cond 13 Tryz.f13 rfl rfl rfl rfl rfl rfl rfl ⟨rfl,rfl,rfl,rfl,rfl⟩ rfl rfl rfl rfl rfl (by kernel_rfl) Tryz.func13 closed
  (afc (by kernel_rfl)) (by unfold Func.isWrapper;first|(rw[adv (by decide +kernel)];kernel_rfl)|(rw[ag8 (by decide +kernel)];exact⟨rfl,rfl⟩))
  (fun os started H enc _ F=>by rw[OpenClaim.pre_eq_preRow];exact lifted os started H enc F)
theorem plain (f:FuncId) (fn:Func) (hf:Tryz.pinned.checked.prog.funcNamed "topiary/topiarytop.TopOrder"=some f) (vi:Tryz.pinned.checked.prog.funcs[f]?=some fn) :
  true=Tryz.pinned.checked.prog.looks []∧∀(j:Nat) t,fn.params[j]?=some t→Tryz.pinned.checked.prog.wantsStandIn t=false:=by
 obtain rfl:f=13:=aez ((show Tryz.prog.funcNamed "topiary/topiarytop.TopOrder"=some 13 by kernel_rfl).symm.trans hf) |>.symm;obtain rfl:fn=Tryz.f13:=(aez (Tryz.func13.symm.trans vi)).symm;refine⟨by kernel_rfl,fun j t ht=> ?_⟩;have hm:t∈Tryz.f13.params.toList:=adu (by simpa using ht);rw[params] at hm;have fX:([22,29,3].all fun u=> !Tryz.prog.wantsStandIn u)=true:=by kernel_rfl
 exact(show Tryz.prog.wantsStandIn t=false by simpa using aeg.1 fX t hm)
set_option maxRecDepth 100000 in
theorem w1:Rows.topOrderUptoRow.wfByText (Rows.OpenSpec.upto Rows.topOrderSpec)=true:=by kernel_rfl
set_option maxRecDepth 100000 in
theorem w2:Tryz.pinned.checked.prog.mainIs=some (true, "1362b7a0633850bc5e7469cd653ca90210c8774e0b985320175e85edeb5d9623".toList):=by kernel_rfl
set_option maxRecDepth 100000 in
theorem w3:false=Rows.topOrderUptoRow.goesBy Tryz.pinned.checked.prog:=by kernel_rfl
theorem proved:Rows.TopOrderUptoCardSaid:=
 Claim7.holds_tied_plain_at .later [] _ _ _ _ over (fun _ h=>by cases h) w1 (fun _ h=>by cases h) topOrderUpto_row_tie rfl ⟨rfl,rfl⟩ w2 rfl plain w3
end Go.Proofs.YtfinkeaikbmpgaaGreatDoor.topOrder
