import Derived.Test.YtfeijflhfhkbnaaGreatDoorE270S
import Derived.Test.YtfeijflhfhkbnaaGreatDoorKAm48S
import Derived.Test.YtfeijflhfhkbnaaGreatDoorCards
import Derived.Test.YtfeijflhfhkbnaaGreatDoorTie
import Derived.WalkKit
import Derived.ProofKit
import Derived.OpenShut
import Derived.LaidMore
import Derived.Deep.DeepHandedRow
set_option linter.all false
/- StoreRuns holds, for arguments of bulk at most 2^20. -/
namespace Go.Proofs.YtfeijflhfhkbnaaGreatDoor.storeRuns
open Go Go.Am Go.ChangeShapes Go.WideShapes Go.ChangeAt Go.RowKit
theorem params:Tryz.f5.params.toList=[33]:=ajQ
set_option maxRecDepth 100000 in
theorem contract (H:Type) (enc:TypeId×Value→H) (W:World) (base:Nat) (args:Array Value) (ds gs:List (DataW H)) (before:List MemPlace)
  (tq:∀(j:Nat) t v,Tryz.f5.params[j]?=some t→args[j]?=some v→Value.okWide Tryz.prog W .any base t v)
  (hW:DataW.Whole enc Tryz.prog Tryz.f5.params.toList Rows.storeRunsSpec.vars false W args.toList ds gs before) (hk:Rows.uptoSmall H (ds++gs)=true) (hL:laidMetH Tryz.prog Rows.storeRunsUptoRow.laid W) (ZT:W.ShapedOpen Tryz.prog) :
  Calls Tryz.prog 5 args W fun e W'=>∃v,e= .returned v∧Rows.storeRunsSpec.post enc Tryz.prog Tryz.f5 false true false false W args v W':=by
 have hp:=params;obtain⟨t1,t2,m,hG⟩:=V1 hL ZT;refine sU (G:=gQ t1 t2 m) (bk H) abQ (tb:=tyB) laid (by rw[hp];simp[tys]) ajQ ajQ ajQ rfl W base args ds gs before hG ?_ tq hW ?_
 ·intro ds h;rw[hp] at h
  match ds,h with
  |[_],_=>rfl
 intro ys h hw;rw[hp] at h;have hs:=zQ hk;cases h with
 |cons h1 h2=>
 cases h2;obtain⟨l,rfl,hl,hn⟩:=Sh.bY tyC h1;simp only[ox] at hw;exact JB l akh (fun x hx=>by have:=hn x hx;omega)
theorem laid_met (os:Os):laidMetH Tryz.prog Rows.storeRunsUptoRow.laid ((gM os).forCall (fun _ _=>0) ⟨#[],#[.slice none 0 0],[]⟩).memory:=Go.Proofs.YtfeijflhfhkbnaaGreatDoor.Cq os _
theorem reads (os:Os) {H:Type} (enc:TypeId×Value→H):∃places,DataW.whole enc Tryz.prog ((gM os).forCall (fun _ _=>0) ⟨#[],#[.slice none 0 0],[]⟩).memory Tryz.f5.params.toList Rows.storeRunsSpec.vars false (#[.slice none 0 0]:Array Value).toList 8=some ([.nil],[],places):=
 ⟨[],ajQ⟩
set_option maxRecDepth 100000 in
theorem lifted (os:Os) (started:os.Started) (H:Type) (enc:TypeId×Value→H) (F:Stop.Interp) :
  ReturnsInHanded {} Tryz.checked os 5 .any ((Rows.OpenSpec.upto Rows.storeRunsSpec).preRow enc Tryz.prog Tryz.f5 Rows.storeRunsUptoRow.domain false Rows.storeRunsUptoRow.laid) (((Rows.OpenSpec.upto Rows.storeRunsSpec).at F).post enc Tryz.prog Tryz.f5 false true false false):=by
 obtain⟨places,hx⟩:=reads os enc;refine returnsInHanded_of_row (C:=Tryz.checked) (s:=Rows.OpenSpec.upto Rows.storeRunsSpec) own started ajQ Tryz.func5
  (witness_row_atRef (enc:=enc) (C:=Tryz.checked) false (gM os) #[.slice none 0 0] rfl (VC os _) (VD os _) ajQ
   (OpenSpec.preRow_of_cond 8 hx ajQ (fun k hk=>by cases hk;kernel_rfl) ajQ (laid_met os))) ?_
 intro W base args ds gs before tq hW _ jw _ hL ZT _;exact contract H enc W base args ds gs before tq hW (jw _ rfl) hL ZT
set_option maxRecDepth 100000 in
theorem a1:(Rows.storeRunsUptoRow.inPlace==Tryz.pinned.checked.prog.inPlace 5)=true:=ajQ
set_option maxRecDepth 100000 in
theorem a2:(Rows.storeRunsUptoRow.unfollowed==Tryz.pinned.checked.prog.unfollowed 5)=true:=ajQ
set_option maxRecDepth 100000 in
theorem a3:(Rows.storeRunsUptoRow.recurses==Tryz.pinned.checked.prog.recurses 5)=true:=ajQ
set_option maxRecDepth 100000 in
theorem a4:(Rows.storeRunsUptoRow.named==Tryz.pinned.checked.prog.varsNamed 5)=true:=ajQ
set_option maxRecDepth 100000 in
theorem a5:(Tryz.pinned.checked.prog.stops==[])=true:=ajQ
set_option maxRecDepth 100000 in
theorem closed:joinedFacts Tryz.pinned.checked.prog 5 Tryz.f5 (Rows.OpenSpec.upto Rows.storeRunsSpec).bare Rows.storeRunsUptoRow=true:=by
 unfold joinedFacts;rw[a1,a2,a3,a4,a5]
 kernel_rfl
theorem over:Rows.storeRunsUptoRow.holds Tryz.pinned (Rows.OpenSpec.upto Rows.storeRunsSpec):=
 OpenClaim.holds_of_cond 5 Tryz.f5 rfl rfl rfl rfl rfl rfl rfl ⟨rfl,rfl,rfl,rfl,rfl⟩ rfl rfl rfl rfl rfl ajQ Tryz.func5 closed
  (air ajQ) akp
  (fun os started H enc _ F=>by rw[OpenClaim.pre_eq_preRow];exact lifted os started H enc F)
theorem plain (f:FuncId) (fn:Func) (hf:Tryz.pinned.checked.prog.funcNamed "topiary/topiarylaw.StoreRuns"=some f) (L2:Tryz.pinned.checked.prog.funcs[f]?=some fn) :
  true=Tryz.pinned.checked.prog.looks []∧∀(j:Nat) t,fn.params[j]?=some t→Tryz.pinned.checked.prog.wantsStandIn t=false:=by
 obtain rfl:f=5:=ah4 ((show Tryz.prog.funcNamed "topiary/topiarylaw.StoreRuns"=some 5 by kernel_rfl).symm.trans hf) |>.symm;obtain rfl:fn=Tryz.f5:=(ah4 (Tryz.func5.symm.trans L2)).symm;refine⟨ajQ,fun j t ht=> ?_⟩;have hm:t∈Tryz.f5.params.toList:=af3 (by simpa using ht);rw[params] at hm;have bV:([33].all fun u=> !Tryz.prog.wantsStandIn u)=true:=ajQ
 exact(show Tryz.prog.wantsStandIn t=false by simpa using agJ.1 bV t hm)
set_option maxRecDepth 100000 in
theorem w1:Rows.storeRunsUptoRow.wfByText (Rows.OpenSpec.upto Rows.storeRunsSpec)=true:=ajQ
set_option maxRecDepth 100000 in
theorem w2:Tryz.pinned.checked.prog.mainIs=some (true, "d9b0996d28aaa74aad0eccd354b968f80c7e713d7c092c355e8c65a8a0aaac04".toList):=ajQ
set_option maxRecDepth 100000 in
theorem w3:false=Rows.storeRunsUptoRow.goesBy Tryz.pinned.checked.prog:=ajQ
theorem proved:Rows.StoreRunsUptoCardSaid:=
 Claim7.holds_tied_plain_at .later [] _ _ _ _ over (fun _ h=>by cases h) w1 (fun _ h=>by cases h) storeRunsUpto_row_tie rfl ⟨rfl,rfl⟩ w2 rfl plain w3
end Go.Proofs.YtfeijflhfhkbnaaGreatDoor.storeRuns
