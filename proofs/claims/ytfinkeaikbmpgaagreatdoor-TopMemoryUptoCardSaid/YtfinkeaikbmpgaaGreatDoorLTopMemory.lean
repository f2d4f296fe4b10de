import Derived.Test.YtfinkeaikbmpgaaGreatDoorE122
import Derived.Test.YtfinkeaikbmpgaaGreatDoorKAm48
import Derived.Test.YtfinkeaikbmpgaaGreatDoorCards
import Derived.Test.YtfinkeaikbmpgaaGreatDoorTie
import Derived.WalkKit
import Derived.ProofKit
import Derived.OpenShut
import Derived.LaidMore
import Derived.Deep.DeepHandedRow
set_option linter.unusedSimpArgs false
set_option linter.unusedVariables false
set_option linter.unnecessarySimpa false
set_option linter.defProp false
/- TopMemory holds, for arguments of bulk at most 2^20. -/
namespace Go.Proofs.YtfinkeaikbmpgaaGreatDoor.topMemory
open Go Go.Am Go.ChangeShapes Go.WideShapes Go.ChangeAt Go.RowKit
theorem params:Tryz.f17.params.toList=[22]:=Po
set_option maxRecDepth 100000 in
theorem contract (H:Type) (enc:TypeId×Value→H) (W:World) (base:Nat) (args:Array Value) (ds gs:List (DataW H)) (before:List MemPlace)
  (nU:∀(j:Nat) t v,Tryz.f17.params[j]?=some t→args[j]?=some v→Value.okWide Tryz.prog W .any base t v)
  (hW:DataW.Whole enc Tryz.prog Tryz.f17.params.toList Rows.topMemorySpec.vars false W args.toList ds gs before) (hk:Rows.uptoSmall H (ds++gs)=true) (hL:laidMetH Tryz.prog Rows.topMemoryUptoRow.laid W) :
  Calls Tryz.prog 17 args W fun e W'=>∃v,e= .returned v∧Rows.topMemorySpec.post enc Tryz.prog Tryz.f17 false true false false W args v W':=by
 have hp:=params;obtain⟨t1,t2,hG⟩:=aqS hL;refine oQ (G:=gS t1 t2) (bk H) I5 (tb:=tyB) laid (by rw[hp];simp[HC]) Po Po Po rfl W base args ds gs before hG ?_ nU hW ?_
 ·intro ds h;rw[hp] at h
  match ds,h with
  |[_],_=>rfl
 intro ys h hw;rw[hp] at h;have hs:=tf hk;cases h with
 |cons h1 h2=>
 cases h2;obtain⟨l,rfl,hl,hn⟩:=Sh.alb tyC h1;simp only[k9] at hw;exact ar9 l (by unfold B;omega) (fun x hx=>by have:=hn x hx;omega)
theorem laid_met (os:Os):laidMetH Tryz.prog Rows.topMemoryUptoRow.laid ((f_ os).forCall (fun _ _=>0) ⟨#[],#[.slice none 0 0],[]⟩).memory:=Go.Proofs.YtfinkeaikbmpgaaGreatDoor.aoU os _
theorem reads (os:Os) {H:Type} (enc:TypeId×Value→H):∃places,DataW.whole enc Tryz.prog ((f_ os).forCall (fun _ _=>0) ⟨#[],#[.slice none 0 0],[]⟩).memory Tryz.f17.params.toList Rows.topMemorySpec.vars false (#[.slice none 0 0]:Array Value).toList 8=some ([.nil],[],places):=
 ⟨[],Po⟩
set_option maxRecDepth 100000 in
theorem lifted (os:Os) (started:os.Started) (H:Type) (enc:TypeId×Value→H) (F:Stop.Interp) :
  ReturnsInHanded {} Tryz.checked os 17 .any ((Rows.OpenSpec.upto Rows.topMemorySpec).preRow enc Tryz.prog Tryz.f17 Rows.topMemoryUptoRow.domain false Rows.topMemoryUptoRow.laid) (((Rows.OpenSpec.upto Rows.topMemorySpec).at F).post enc Tryz.prog Tryz.f17 false true false false):=by
 obtain⟨places,hx⟩:=reads os enc;refine returnsInHanded_of_row (C:=Tryz.checked) (s:=Rows.OpenSpec.upto Rows.topMemorySpec) own started Po Tryz.func17
  (witness_row_atRef (enc:=enc) (C:=Tryz.checked) false (f_ os) #[.slice none 0 0] rfl (Gw os _) (Gx os _) Po
   (OpenSpec.preRow_of_cond 8 hx Po (fun k hk=>by cases hk;kernel_rfl) Po (laid_met os))) ?_
 intro W base args ds gs before nU hW _ cP _ hL _ _;exact contract H enc W base args ds gs before nU hW (cP _ rfl) hL
set_option maxRecDepth 100000 in
theorem a1:(Rows.topMemoryUptoRow.inPlace==Tryz.pinned.checked.prog.inPlace 17)=true:=Po
set_option maxRecDepth 100000 in
theorem a2:(Rows.topMemoryUptoRow.unfollowed==Tryz.pinned.checked.prog.unfollowed 17)=true:=Po
set_option maxRecDepth 100000 in
theorem a3:(Rows.topMemoryUptoRow.recurses==Tryz.pinned.checked.prog.recurses 17)=true:=Po
set_option maxRecDepth 100000 in
theorem a4:(Rows.topMemoryUptoRow.named==Tryz.pinned.checked.prog.varsNamed 17)=true:=Po
set_option maxRecDepth 100000 in
theorem a5:(Tryz.pinned.checked.prog.stops==[])=true:=Po
set_option maxRecDepth 100000 in
theorem closed:joinedFacts Tryz.pinned.checked.prog 17 Tryz.f17 (Rows.OpenSpec.upto Rows.topMemorySpec).bare Rows.topMemoryUptoRow=true:=by
 unfold joinedFacts;rw[a1,a2,a3,a4,a5]
 kernel_rfl
theorem over:Rows.topMemoryUptoRow.holds Tryz.pinned (Rows.OpenSpec.upto Rows.topMemorySpec):=
 OpenClaim.holds_of_cond 17 Tryz.f17 rfl rfl rfl rfl rfl rfl rfl ⟨rfl,rfl,rfl,rfl,rfl⟩ rfl rfl rfl rfl rfl Po Tryz.func17 closed
  (of_decide_eq_true Po) (by unfold Func.isWrapper;first|(rw[eE P3];kernel_rfl)|(rw[cY P3];exact⟨rfl,rfl⟩))
  (fun os started H enc _ F=>by rw[OpenClaim.pre_eq_preRow];exact lifted os started H enc F)
theorem plain (f:FuncId) (fn:Func) (hf:Tryz.pinned.checked.prog.funcNamed "topiary/topiarytop.TopMemory"=some f) (w5:Tryz.pinned.checked.prog.funcs[f]?=some fn) :
  true=Tryz.pinned.checked.prog.looks []∧∀(j:Nat) t,fn.params[j]?=some t→Tryz.pinned.checked.prog.wantsStandIn t=false:=by
 obtain rfl:f=17:=OD ((show Tryz.prog.funcNamed "topiary/topiarytop.TopMemory"=some 17 by kernel_rfl).symm.trans hf) |>.symm;obtain rfl:fn=Tryz.f17:=(OD (Tryz.func17.symm.trans w5)).symm;refine⟨Po,fun j t ht=> ?_⟩;have hm:t∈Tryz.f17.params.toList:=dc (by simpa using ht);rw[params] at hm;have dN:([22].all fun u=> !Tryz.prog.wantsStandIn u)=true:=Po
 exact(show Tryz.prog.wantsStandIn t=false by simpa using yq.1 dN t hm)
set_option maxRecDepth 100000 in
theorem w1:Rows.topMemoryUptoRow.wfByText (Rows.OpenSpec.upto Rows.topMemorySpec)=true:=Po
set_option maxRecDepth 100000 in
theorem w2:Tryz.pinned.checked.prog.mainIs=some (true, "1362b7a0633850bc5e7469cd653ca90210c8774e0b985320175e85edeb5d9623".toList):=Po
set_option maxRecDepth 100000 in
theorem w3:false=Rows.topMemoryUptoRow.goesBy Tryz.pinned.checked.prog:=Po
theorem proved:Rows.TopMemoryUptoCardSaid:=
 Claim7.holds_tied_plain_at .later [] _ _ _ _ over (fun _ h=>by cases h) w1 (fun _ h=>by cases h) topMemoryUpto_row_tie rfl ⟨rfl,rfl⟩ w2 rfl plain w3
end Go.Proofs.YtfinkeaikbmpgaaGreatDoor.topMemory
