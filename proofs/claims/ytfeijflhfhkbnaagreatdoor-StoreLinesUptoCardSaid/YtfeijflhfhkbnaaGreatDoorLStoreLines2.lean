import Derived.Test.YtfeijflhfhkbnaaGreatDoorE330
import Derived.Test.YtfeijflhfhkbnaaGreatDoorKAm48
import Derived.Test.YtfeijflhfhkbnaaGreatDoorCards
import Derived.Test.YtfeijflhfhkbnaaGreatDoorTie
import Derived.WalkKit
import Derived.ProofKit
import Derived.OpenShut
import Derived.LaidMore
import Derived.Deep.DeepHandedRow
set_option linter.all false
/- StoreLines holds, for arguments of bulk at most 2^20. -/
namespace Go.Proofs.YtfeijflhfhkbnaaGreatDoor.storeLines
open Go Go.Am Go.ChangeShapes Go.WideShapes Go.ChangeAt Go.RowKit
theorem params:Tryz.f3.params.toList=[9]:=Yn
set_option maxRecDepth 100000 in
theorem contract (H:Type) (enc:TypeId×Value→H) (W:World) (base:Nat) (args:Array Value) (ds gs:List (DataW H)) (before:List MemPlace)
  (nU:∀(j:Nat) t v,Tryz.f3.params[j]?=some t→args[j]?=some v→Value.okWide Tryz.prog W .any base t v)
  (hW:DataW.Whole enc Tryz.prog Tryz.f3.params.toList Rows.storeLinesSpec.vars false W args.toList ds gs before) (hk:Rows.uptoSmall H (ds++gs)=true) (hL:laidMetH Tryz.prog Rows.storeLinesUptoRow.laid W) (JO:W.ShapedOpen Tryz.prog) :
  Calls Tryz.prog 3 args W fun e W'=>∃v,e= .returned v∧Rows.storeLinesSpec.post enc Tryz.prog Tryz.f3 false true false false W args v W':=by
 have hp:=params;obtain⟨t1,t2,m,hG⟩:=au5 hL JO;refine oQ (G:=gQ t1 t2 m) (bk H) I5 (tb:=tyB) laid (by rw[hp];simp[HC]) Yn Yn Yn rfl W base args ds gs before hG ?_ nU hW ?_
 ·intro ds h;rw[hp] at h
  match ds,h with
  |[_],_=>rfl
 intro ys h hw;rw[hp] at h;have hs:=tf hk;cases h with
 |cons h1 h2=>
 cases h2;obtain⟨s,rfl⟩:=h1.uJ Ln.uS;simp only[wtI,show ∀s:Bs,(IV.str s).wt=s.length+1 from fun _=>rfl] at hw;exact atF s sf
theorem laid_met (os:Os):laidMetH Tryz.prog Rows.storeLinesUptoRow.laid ((f_ os).forCall (fun _ _=>0) ⟨#[],#[.string ⟨#[]⟩],[]⟩).memory:=Go.Proofs.YtfeijflhfhkbnaaGreatDoor.aoU os _
theorem reads (os:Os) {H:Type} (enc:TypeId×Value→H):∃places,DataW.whole enc Tryz.prog ((f_ os).forCall (fun _ _=>0) ⟨#[],#[.string ⟨#[]⟩],[]⟩).memory Tryz.f3.params.toList Rows.storeLinesSpec.vars false (#[.string ⟨#[]⟩]:Array Value).toList 8=some ([.lit (.string [])],[],places):=
 ⟨[],Yn⟩
set_option maxRecDepth 100000 in
theorem lifted (os:Os) (started:os.Started) (H:Type) (enc:TypeId×Value→H) (F:Stop.Interp) :
  ReturnsInHanded {} Tryz.checked os 3 .any ((Rows.OpenSpec.upto Rows.storeLinesSpec).preRow enc Tryz.prog Tryz.f3 Rows.storeLinesUptoRow.domain false Rows.storeLinesUptoRow.laid) (((Rows.OpenSpec.upto Rows.storeLinesSpec).at F).post enc Tryz.prog Tryz.f3 false true false false):=by
 obtain⟨places,hx⟩:=reads os enc;refine returnsInHanded_of_row (C:=Tryz.checked) (s:=Rows.OpenSpec.upto Rows.storeLinesSpec) own started Yn Tryz.func3
  (witness_row_atRef (enc:=enc) (C:=Tryz.checked) false (f_ os) #[.string ⟨#[]⟩] rfl (Gw os _) (Gx os _) Yn
   (OpenSpec.preRow_of_cond 8 hx Yn (fun k hk=>by cases hk;kernel_rfl) Yn (laid_met os))) ?_
 intro W base args ds gs before nU hW _ cP _ hL JO _;exact contract H enc W base args ds gs before nU hW (cP _ rfl) hL JO
set_option maxRecDepth 100000 in
theorem a1:(Rows.storeLinesUptoRow.inPlace==Tryz.pinned.checked.prog.inPlace 3)=true:=Yn
set_option maxRecDepth 100000 in
theorem a2:(Rows.storeLinesUptoRow.unfollowed==Tryz.pinned.checked.prog.unfollowed 3)=true:=Yn
set_option maxRecDepth 100000 in
theorem a3:(Rows.storeLinesUptoRow.recurses==Tryz.pinned.checked.prog.recurses 3)=true:=Yn
set_option maxRecDepth 100000 in
theorem a4:(Rows.storeLinesUptoRow.named==Tryz.pinned.checked.prog.varsNamed 3)=true:=Yn
set_option maxRecDepth 100000 in
theorem a5:(Tryz.pinned.checked.prog.stops==[])=true:=Yn
set_option maxRecDepth 100000 in
theorem closed:joinedFacts Tryz.pinned.checked.prog 3 Tryz.f3 (Rows.OpenSpec.upto Rows.storeLinesSpec).bare Rows.storeLinesUptoRow=true:=by
 unfold joinedFacts;rw[a1,a2,a3,a4,a5]
 kernel_rfl
theorem over:Rows.storeLinesUptoRow.holds Tryz.pinned (Rows.OpenSpec.upto Rows.storeLinesSpec):=
 OpenClaim.holds_of_cond 3 Tryz.f3 rfl rfl rfl rfl rfl rfl rfl ⟨rfl,rfl,rfl,rfl,rfl⟩ rfl rfl rfl rfl rfl Yn Tryz.func3 closed
  (ZS Yn) (by unfold Func.isWrapper;first|(rw[P8 aax];kernel_rfl)|(rw[Ev aax];exact⟨rfl,rfl⟩))
  (fun os started H enc _ F=>by rw[OpenClaim.pre_eq_preRow];exact lifted os started H enc F)
theorem plain (f:FuncId) (fn:Func) (hf:Tryz.pinned.checked.prog.funcNamed "topiary/topiarylaw.StoreLines"=some f) (hfn:Tryz.pinned.checked.prog.funcs[f]?=some fn) :
  true=Tryz.pinned.checked.prog.looks []∧∀(j:Nat) t,fn.params[j]?=some t→Tryz.pinned.checked.prog.wantsStandIn t=false:=by
 obtain rfl:f=3:=Xy ((show Tryz.prog.funcNamed "topiary/topiarylaw.StoreLines"=some 3 by kernel_rfl).symm.trans hf) |>.symm;obtain rfl:fn=Tryz.f3:=(Xy (Tryz.func3.symm.trans hfn)).symm;refine⟨Yn,fun j t ht=> ?_⟩;have hm:t∈Tryz.f3.params.toList:=PX (by simpa using ht);rw[params] at hm;have dN:([9].all fun u=> !Tryz.prog.wantsStandIn u)=true:=Yn
 exact(show Tryz.prog.wantsStandIn t=false by simpa using Rh.1 dN t hm)
set_option maxRecDepth 100000 in
theorem w1:Rows.storeLinesUptoRow.wfByText (Rows.OpenSpec.upto Rows.storeLinesSpec)=true:=Yn
set_option maxRecDepth 100000 in
theorem w2:Tryz.pinned.checked.prog.mainIs=some (true, "d9b0996d28aaa74aad0eccd354b968f80c7e713d7c092c355e8c65a8a0aaac04".toList):=Yn
set_option maxRecDepth 100000 in
theorem w3:false=Rows.storeLinesUptoRow.goesBy Tryz.pinned.checked.prog:=Yn
theorem proved:Rows.StoreLinesUptoCardSaid:=
 Claim7.holds_tied_plain_at .later [] _ _ _ _ over (fun _ h=>by cases h) w1 (fun _ h=>by cases h) storeLinesUpto_row_tie rfl ⟨rfl,rfl⟩ w2 rfl plain w3
end Go.Proofs.YtfeijflhfhkbnaaGreatDoor.storeLines
