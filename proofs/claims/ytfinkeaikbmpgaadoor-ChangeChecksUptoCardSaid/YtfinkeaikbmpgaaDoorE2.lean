import Derived.Test.YtfinkeaikbmpgaaDoorE0
import Derived.Test.YtfinkeaikbmpgaaDoorCards
import Derived.WalkKit
import Derived.ProofKit
import Derived.OpenShut
import Derived.LaidMore
import Derived.Deep.DeepHandedRow
set_option linter.unusedSimpArgs false
set_option linter.unusedVariables false
set_option linter.unnecessarySimpa false
set_option linter.defProp false
/- A world that holds the listed tables. -/
namespace Go.Proofs.YtfinkeaikbmpgaaDoor
open Go Go.ChangeShapes Go.WideShapes Go.ChangeAt Go.RowKit
def uL (vs:List Value):Obj→Obj
 | .cells _ t frozen=> .cells vs.toArray t frozen
 |o=>o
def A5:List Int:=[128,191,160,191,128,159,144,191,128,143,0,0,0,0,0,0,0,0,0,0,0,0,0,0,0,0,0,0,0,0,0,0]
noncomputable def vI (os:Os):World:=
 let w:=World.holding Tryd.prog os ⟨#[],#[],[]⟩
 let h4:=w.heap.modify 4 (uL (Go.Pinned.utf8FirstZ.map fun(n:Nat)=>Value.int .u8 (Int.ofNat n)))
 let h5:=h4.modify 5 (uL (A5.map fun n=>Value.int .u8 n))
 let h0:=h5.modify 0 (uL [.string ⟨#[38,108,116,59]⟩,.string ⟨#[38,103,116,59]⟩,.string ⟨#[38,97,109,112,59]⟩,.string ⟨#[38,113,117,111,116,59]⟩])
 {w with heap:=h0}
set_option maxRecDepth 100000 in
def laid_met (os:Os) (args:Array Value):laidMetH Tryd.prog Rows.treeTellsUptoRow.laid ((vI os).forCall (fun _ _=>0) ⟨#[],args,[]⟩).memory:=
 laidMetH_of_parts3 (fuel:=8) (laidMet_of_run' 8 (by kernel_rfl) (by kernel_rfl)) (by kernel_rfl) (by kernel_rfl)
end Go.Proofs.YtfinkeaikbmpgaaDoor
