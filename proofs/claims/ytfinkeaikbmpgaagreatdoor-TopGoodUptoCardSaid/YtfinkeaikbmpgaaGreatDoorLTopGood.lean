import Derived.Test.YtfinkeaikbmpgaaGreatDoorE50
import Derived.Test.YtfinkeaikbmpgaaGreatDoorKAm48
import Derived.Test.YtfinkeaikbmpgaaGreatDoorCards
import Derived.Test.YtfinkeaikbmpgaaGreatDoorTie
import Derived.WalkKit
import Derived.ProofKit
import Derived.OpenShut
import Derived.LaidMore
import Derived.Deep.DeepHandedRow
set_option linter.unusedSimpArgs false
set_option linter.unusedVariables false
set_option linter.unnecessarySimpa false
set_option linter.defProp false
/- TopGood holds, for arguments of bulk at most 2^20. -/
namespace Go.Proofs.YtfinkeaikbmpgaaGreatDoor.topGood
open Go Go.Am Go.ChangeShapes Go.WideShapes Go.ChangeAt Go.RowKit
theorem params:Tryz.f3.params.toList=[22]:=by kernel_rfl
set_option maxRecDepth 100000 in
theorem contract (H:Type) (enc:TypeId×Value→H) (W:World) (base:Nat) (args:Array Value) (ds gs:List (DataW H)) (before:List MemPlace)
  (ka:∀(j:Nat) t v,Tryz.f3.params[j]?=some t→args[j]?=some v→Value.okWide Tryz.prog W .any base t v)
  (hW:DataW.Whole enc Tryz.prog Tryz.f3.params.toList Rows.topGoodSpec.vars false W args.toList ds gs before) (hk:Rows.uptoSmall H (ds++gs)=true) (hL:laidMetH Tryz.prog Rows.topGoodUptoRow.laid W) :
  Calls Tryz.prog 3 args W fun e W'=>∃v,e= .returned v∧Rows.topGoodSpec.post enc Tryz.prog Tryz.f3 false true false false W args v W':=by
 have hp:=params;obtain⟨t1,t2,hG⟩:=yI hL;refine iE (G:=gS t1 t2) (bk H) Fe (tb:=T7) laid (by rw[hp];simp[N2]) (by kernel_rfl) (by kernel_rfl) (by kernel_rfl) rfl W base args ds gs before hG ?_ ka hW ?_
 ·intro ds h;rw[hp] at h
  match ds,h with
  |[_],_=>rfl
 intro ys h hw;rw[hp] at h;have hs:=lf hk;cases h with
 |cons h1 h2=>
 cases h2;obtain⟨l,rfl,hl,hn⟩:=Sh.gf K2 h1;simp only[rI] at hw;exact Qd l (by unfold B;omega) (fun x hx=>by have:=hn x hx;omega)
theorem laid_met (os:Os):laidMetH Tryz.prog Rows.topGoodUptoRow.laid ((cD os).forCall (fun _ _=>0) ⟨#[],#[.slice none 0 0],[]⟩).memory:=Go.Proofs.YtfinkeaikbmpgaaGreatDoor.mM os _
theorem reads (os:Os) {H:Type} (enc:TypeId×Value→H):∃places,DataW.whole enc Tryz.prog ((cD os).forCall (fun _ _=>0) ⟨#[],#[.slice none 0 0],[]⟩).memory Tryz.f3.params.toList Rows.topGoodSpec.vars false (#[.slice none 0 0]:Array Value).toList 8=some ([.nil],[],places):=
 ⟨[],by kernel_rfl⟩
set_option maxRecDepth 100000 in
theorem lifted (os:Os) (started:os.Started) (H:Type) (enc:TypeId×Value→H) (F:Stop.Interp) :
  ReturnsInHanded {} Tryz.checked os 3 .any ((Rows.OpenSpec.upto Rows.topGoodSpec).preRow enc Tryz.prog Tryz.f3 Rows.topGoodUptoRow.domain false Rows.topGoodUptoRow.laid) (((Rows.OpenSpec.upto Rows.topGoodSpec).at F).post enc Tryz.prog Tryz.f3 false true false false):=by
 obtain⟨places,hx⟩:=reads os enc;refine returnsInHanded_of_row (C:=Tryz.checked) (s:=Rows.OpenSpec.upto Rows.topGoodSpec) own started (by kernel_rfl) Tryz.func3
  (witness_row_atRef (enc:=enc) (C:=Tryz.checked) false (cD os) #[.slice none 0 0] rfl (yG os _) (yH os _) (by kernel_rfl)
   (OpenSpec.preRow_of_cond 8 hx (by kernel_rfl) (fun k hk=>by cases hk;kernel_rfl) (by kernel_rfl) (laid_met os))) ?_
 intro W base args ds gs before ka hW _ eD _ hL _ _;exact contract H enc W base args ds gs before ka hW (eD _ rfl) hL
set_option maxRecDepth 100000 in
theorem a1:(Rows.topGoodUptoRow.inPlace==Tryz.pinned.checked.prog.inPlace 3)=true:=by kernel_rfl
set_option maxRecDepth 100000 in
theorem a2:(Rows.topGoodUptoRow.unfollowed==Tryz.pinned.checked.prog.unfollowed 3)=true:=by kernel_rfl
set_option maxRecDepth 100000 in
theorem a3:(Rows.topGoodUptoRow.recurses==Tryz.pinned.checked.prog.recurses 3)=true:=by kernel_rfl
set_option maxRecDepth 100000 in
theorem a4:(Rows.topGoodUptoRow.named==Tryz.pinned.checked.prog.varsNamed 3)=true:=by kernel_rfl
set_option maxRecDepth 100000 in
theorem a5:(Tryz.pinned.checked.prog.stops==[])=true:=by kernel_rfl
set_option maxRecDepth 100000 in
theorem closed:joinedFacts Tryz.pinned.checked.prog 3 Tryz.f3 (Rows.OpenSpec.upto Rows.topGoodSpec).bare Rows.topGoodUptoRow=true:=by
 unfold joinedFacts;rw[a1,a2,a3,a4,a5]
 kernel_rfl
theorem over:Rows.topGoodUptoRow.holds Tryz.pinned (Rows.OpenSpec.upto Rows.topGoodSpec):=
 OpenClaim.holds_of_cond 3 Tryz.f3 rfl rfl rfl rfl rfl rfl rfl ⟨rfl,rfl,rfl,rfl,rfl⟩ rfl rfl rfl rfl rfl (by kernel_rfl) Tryz.func3 closed
  (afc (by kernel_rfl)) (by unfold Func.isWrapper;first|(rw[adv (by decide +kernel)];kernel_rfl)|(rw[ag8 (by decide +kernel)];exact⟨rfl,rfl⟩))
  (fun os started H enc _ F=>by rw[OpenClaim.pre_eq_preRow];exact lifted os started H enc F)
theorem plain (f:FuncId) (fn:Func) (hf:Tryz.pinned.checked.prog.funcNamed "topiary/topiarytop.TopGood"=some f) (vi:Tryz.pinned.checked.prog.funcs[f]?=some fn) :
  true=Tryz.pinned.checked.prog.looks []∧∀(j:Nat) t,fn.params[j]?=some t→Tryz.pinned.checked.prog.wantsStandIn t=false:=by
 obtain rfl:f=3:=aez ((show Tryz.prog.funcNamed "topiary/topiarytop.TopGood"=some 3 by kernel_rfl).symm.trans hf) |>.symm;obtain rfl:fn=Tryz.f3:=(aez (Tryz.func3.symm.trans vi)).symm;refine⟨by kernel_rfl,fun j t ht=> ?_⟩;have hm:t∈Tryz.f3.params.toList:=adu (by simpa using ht);rw[params] at hm;have fX:([22].all fun u=> !Tryz.prog.wantsStandIn u)=true:=by kernel_rfl
 exact(show Tryz.prog.wantsStandIn t=false by simpa using aeg.1 fX t hm)
set_option maxRecDepth 100000 in
theorem w1:Rows.topGoodUptoRow.wfByText (Rows.OpenSpec.upto Rows.topGoodSpec)=true:=by kernel_rfl
set_option maxRecDepth 100000 in
theorem w2:Tryz.pinned.checked.prog.mainIs=some (true, "1362b7a0633850bc5e7469cd653ca90210c8774e0b985320175e85edeb5d9623".toList):=by kernel_rfl
set_option maxRecDepth 100000 in
theorem w3:false=Rows.topGoodUptoRow.goesBy Tryz.pinned.checked.prog:=by kernel_rfl
theorem proved:Rows.TopGoodUptoCardSaid:=
 Claim7.holds_tied_plain_at .later [] _ _ _ _ over (fun _ h=>by cases h) w1 (fun _ h=>by cases h) topGoodUpto_row_tie rfl ⟨rfl,rfl⟩ w2 rfl plain w3
end Go.Proofs.YtfinkeaikbmpgaaGreatDoor.topGood
