import Derived.Test.YtfinkeaikbmpgaaGreatDoorE121
import Derived.Test.YtfinkeaikbmpgaaGreatDoorKAm48
import Derived.Test.YtfinkeaikbmpgaaGreatDoorCards
import Derived.Test.YtfinkeaikbmpgaaGreatDoorTie
import Derived.WalkKit
import Derived.ProofKit
import Derived.OpenShut
import Derived.LaidMore
import Derived.Deep.DeepHandedRow
set_option linter.unusedSimpArgs false
set_option linter.unusedVariables false
set_option linter.unnecessarySimpa false
set_option linter.defProp false
/- TopNames holds, for arguments of bulk at most 2^20. -/
namespace Go.Proofs.YtfinkeaikbmpgaaGreatDoor.topNames
open Go Go.Am Go.ChangeShapes Go.WideShapes Go.ChangeAt Go.RowKit
theorem params:Tryz.f15.params.toList=[22,9,9]:=Pl
set_option maxRecDepth 100000 in
theorem contract (H:Type) (enc:TypeId×Value→H) (W:World) (base:Nat) (args:Array Value) (ds gs:List (DataW H)) (before:List MemPlace)
  (nU:∀(j:Nat) t v,Tryz.f15.params[j]?=some t→args[j]?=some v→Value.okWide Tryz.prog W .any base t v)
  (hW:DataW.Whole enc Tryz.prog Tryz.f15.params.toList Rows.topNamesSpec.vars false W args.toList ds gs before) (hk:Rows.uptoSmall H (ds++gs)=true) (hL:laidMetH Tryz.prog Rows.topNamesUptoRow.laid W) :
  Calls Tryz.prog 15 args W fun e W'=>∃v,e= .returned v∧Rows.topNamesSpec.post enc Tryz.prog Tryz.f15 false true false false W args v W':=by
 have hp:=params;obtain⟨t1,t2,hG⟩:=aqS hL;refine oQ (G:=gS t1 t2) (bk H) I5 (tb:=tyB) laid (by rw[hp];simp[HC]) Pl Pl Pl rfl W base args ds gs before hG ?_ nU hW ?_
 ·intro ds h;rw[hp] at h
  match ds,h with
  |[_,_,_],_=>rfl
 intro ys h hw;rw[hp] at h;have hs:=tf hk;cases h with
 |cons h1 h2=>
 cases h2 with
 |cons h2 h3=>
 cases h3 with
 |cons h3 h4=>
 cases h4;obtain⟨l,rfl,hl,hn⟩:=Sh.alb tyC h1;obtain⟨a,rfl⟩:=h2.uJ Ln.uS;obtain⟨b,rfl⟩:=h3.uJ Ln.uS;simp only[k9,show ∀s:Bs,(IV.str s).wt=s.length+1 from fun _=>rfl] at hw;exact apd l (by unfold B;omega) (fun x hx=>by have:=hn x hx;omega) a b (by unfold B;omega) (by unfold B;omega)
theorem laid_met (os:Os):laidMetH Tryz.prog Rows.topNamesUptoRow.laid ((f_ os).forCall (fun _ _=>0) ⟨#[],#[.slice none 0 0,.string ⟨#[]⟩,.string ⟨#[]⟩],[]⟩).memory:=Go.Proofs.YtfinkeaikbmpgaaGreatDoor.aoU os _
theorem reads (os:Os) {H:Type} (enc:TypeId×Value→H):∃places,DataW.whole enc Tryz.prog ((f_ os).forCall (fun _ _=>0) ⟨#[],#[.slice none 0 0,.string ⟨#[]⟩,.string ⟨#[]⟩],[]⟩).memory Tryz.f15.params.toList Rows.topNamesSpec.vars false (#[.slice none 0 0,.string ⟨#[]⟩,.string ⟨#[]⟩]:Array Value).toList 8=some ([.nil,.lit (.string []),.lit (.string [])],[],places):=
 ⟨[],Pl⟩
set_option maxRecDepth 100000 in
theorem lifted (os:Os) (started:os.Started) (H:Type) (enc:TypeId×Value→H) (F:Stop.Interp) :
  ReturnsInHanded {} Tryz.checked os 15 .any ((Rows.OpenSpec.upto Rows.topNamesSpec).preRow enc Tryz.prog Tryz.f15 Rows.topNamesUptoRow.domain false Rows.topNamesUptoRow.laid) (((Rows.OpenSpec.upto Rows.topNamesSpec).at F).post enc Tryz.prog Tryz.f15 false true false false):=by
 obtain⟨places,hx⟩:=reads os enc;refine returnsInHanded_of_row (C:=Tryz.checked) (s:=Rows.OpenSpec.upto Rows.topNamesSpec) own started Pl Tryz.func15
  (witness_row_atRef (enc:=enc) (C:=Tryz.checked) false (f_ os) #[.slice none 0 0,.string ⟨#[]⟩,.string ⟨#[]⟩] rfl (Gw os _) (Gx os _) Pl
   (OpenSpec.preRow_of_cond 8 hx Pl (fun k hk=>by cases hk;kernel_rfl) Pl (laid_met os))) ?_
 intro W base args ds gs before nU hW _ cP _ hL _ _;exact contract H enc W base args ds gs before nU hW (cP _ rfl) hL
set_option maxRecDepth 100000 in
theorem a1:(Rows.topNamesUptoRow.inPlace==Tryz.pinned.checked.prog.inPlace 15)=true:=Pl
set_option maxRecDepth 100000 in
theorem a2:(Rows.topNamesUptoRow.unfollowed==Tryz.pinned.checked.prog.unfollowed 15)=true:=Pl
set_option maxRecDepth 100000 in
theorem a3:(Rows.topNamesUptoRow.recurses==Tryz.pinned.checked.prog.recurses 15)=true:=Pl
set_option maxRecDepth 100000 in
theorem a4:(Rows.topNamesUptoRow.named==Tryz.pinned.checked.prog.varsNamed 15)=true:=Pl
set_option maxRecDepth 100000 in
theorem a5:(Tryz.pinned.checked.prog.stops==[])=true:=Pl
set_option maxRecDepth 100000 in
theorem closed:joinedFacts Tryz.pinned.checked.prog 15 Tryz.f15 (Rows.OpenSpec.upto Rows.topNamesSpec).bare Rows.topNamesUptoRow=true:=by
 unfold joinedFacts;rw[a1,a2,a3,a4,a5]
 kernel_rfl
theorem over:Rows.topNamesUptoRow.holds Tryz.pinned (Rows.OpenSpec.upto Rows.topNamesSpec):=
 OpenClaim.holds_of_cond 15 Tryz.f15 rfl rfl rfl rfl rfl rfl rfl ⟨rfl,rfl,rfl,rfl,rfl⟩ rfl rfl rfl rfl rfl Pl Tryz.func15 closed
  (of_decide_eq_true Pl) (by unfold Func.isWrapper;first|(rw[eE PX];kernel_rfl)|(rw[cY PX];exact⟨rfl,rfl⟩))
  (fun os started H enc _ F=>by rw[OpenClaim.pre_eq_preRow];exact lifted os started H enc F)
theorem plain (f:FuncId) (fn:Func) (hf:Tryz.pinned.checked.prog.funcNamed "topiary/topiarytop.TopNames"=some f) (w5:Tryz.pinned.checked.prog.funcs[f]?=some fn) :
  true=Tryz.pinned.checked.prog.looks []∧∀(j:Nat) t,fn.params[j]?=some t→Tryz.pinned.checked.prog.wantsStandIn t=false:=by
 obtain rfl:f=15:=OD ((show Tryz.prog.funcNamed "topiary/topiarytop.TopNames"=some 15 by kernel_rfl).symm.trans hf) |>.symm;obtain rfl:fn=Tryz.f15:=(OD (Tryz.func15.symm.trans w5)).symm;refine⟨Pl,fun j t ht=> ?_⟩;have hm:t∈Tryz.f15.params.toList:=dc (by simpa using ht);rw[params] at hm;have dN:([22,9,9].all fun u=> !Tryz.prog.wantsStandIn u)=true:=Pl
 exact(show Tryz.prog.wantsStandIn t=false by simpa using yq.1 dN t hm)
set_option maxRecDepth 100000 in
theorem w1:Rows.topNamesUptoRow.wfByText (Rows.OpenSpec.upto Rows.topNamesSpec)=true:=Pl
set_option maxRecDepth 100000 in
theorem w2:Tryz.pinned.checked.prog.mainIs=some (true, "1362b7a0633850bc5e7469cd653ca90210c8774e0b985320175e85edeb5d9623".toList):=Pl
set_option maxRecDepth 100000 in
theorem w3:false=Rows.topNamesUptoRow.goesBy Tryz.pinned.checked.prog:=Pl
theorem proved:Rows.TopNamesUptoCardSaid:=
 Claim7.holds_tied_plain_at .later [] _ _ _ _ over (fun _ h=>by cases h) w1 (fun _ h=>by cases h) topNamesUpto_row_tie rfl ⟨rfl,rfl⟩ w2 rfl plain w3
end Go.Proofs.YtfinkeaikbmpgaaGreatDoor.topNames
