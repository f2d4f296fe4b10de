import Derived.Test.YtfinkeaikbmpgaaGreatDoorE28
import Derived.Test.YtfinkeaikbmpgaaGreatDoorKAm47
set_option linter.unusedSimpArgs false
set_option linter.unusedVariables false
set_option linter.unnecessarySimpa false
set_option linter.defProp false
/- Functions of this seat, read: a store that is nil. -/
namespace Go.Proofs.YtfinkeaikbmpgaaGreatDoor
open Go Go.Am Go.ChangeShapes Go.WideShapes Go.ChangeAt Go.RowKit
noncomputable def K2:Z5 Tryz.prog tyT where
 tI:=3
 tL:=29
 tC:=31
 tCs:=22
 fC:=AH Tryz.prog 31
 uI:=by kernel_rfl
 uL:=by kernel_rfl
 uC:=by kernel_rfl
 uCs:=by kernel_rfl
 sC:=by kernel_rfl
set_option maxRecDepth 100000 in
def mM (os:Os) (args:Array Value):laidMetH Tryz.prog Rows.storeNilUptoRow.laid ((cD os).forCall (fun _ _=>0) ⟨#[],args,[]⟩).memory:=
 laidMetH_of_parts3 (fuel:=8) (laidMet_of_run' 8 (by kernel_rfl) (by kernel_rfl)) (by kernel_rfl) (by kernel_rfl)
end Go.Proofs.YtfinkeaikbmpgaaGreatDoor
