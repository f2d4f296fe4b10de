import Derived.Test.YtfinkeaikbmpgaaDoorE2
import Derived.Deep.DeepWitnessRowRef
set_option linter.unusedSimpArgs false
set_option linter.unusedVariables false
set_option linter.unnecessarySimpa false
set_option linter.defProp false
/- A world that holds all of the listed tables. -/
namespace Go.Proofs.YtfinkeaikbmpgaaDoor
open Go Go.ChangeShapes Go.WideShapes Go.ChangeAt Go.RowKit
noncomputable def f_ (os:Os):World:=
 let w:=World.doorLaid Tryd.prog 100 os
 let h4:=w.heap.modify 4 (uL (Go.Pinned.utf8FirstZ.map fun(n:Nat)=>Value.int .u8 (Int.ofNat n)))
 {w with heap:=h4}
set_option maxRecDepth 100000 in
def Gw (os:Os) (args:Array Value):((f_ os).forCall (fun _ _=>0) ⟨#[],args,[]⟩).variablesRefB Tryd.checked.prog=true:=by kernel_rfl
set_option maxRecDepth 100000 in
def Gx (os:Os) (args:Array Value):((((f_ os).forCall (fun _ _=>0) ⟨#[],args,[]⟩).heap.toList.drop Tryd.checked.prog.globals.size).take ((begin Tryd.checked.prog (fun _ _=>0) default).world.heap.size - Tryd.checked.prog.globals.size) =
 (begin Tryd.checked.prog (fun _ _=>0) default).world.heap.toList.drop Tryd.checked.prog.globals.size):=by kernel_rfl
end Go.Proofs.YtfinkeaikbmpgaaDoor
