import Derived.Test.YtfinkeaikbmpgaaGreatDoorE28
import Derived.Test.YtfinkeaikbmpgaaGreatDoorKAm47
set_option linter.unusedSimpArgs false
set_option linter.unusedVariables false
set_option linter.unnecessarySimpa false
set_option linter.defProp false
/- Functions of this seat, read: a store that is nil. -/
namespace Go.Proofs.YtfinkeaikbmpgaaGreatDoor
open Go Go.Am Go.ChangeShapes Go.WideShapes Go.ChangeAt Go.RowKit
noncomputable def tyC:TyC Tryz.prog Ln where
 tI:=3
 tL:=29
 tC:=31
 tCs:=22
 fC:=rz Tryz.prog 31
 uI:=Po
 uL:=Po
 uC:=Po
 uCs:=Po
 sC:=Po
set_option maxRecDepth 100000 in
def aoU (os:Os) (args:Array Value):laidMetH Tryz.prog Rows.storeNilUptoRow.laid ((f_ os).forCall (fun _ _=>0) ⟨#[],args,[]⟩).memory:=
 laidMetH_of_parts3 (fuel:=8) (laidMet_of_run' 8 Po Po) Po Po
end Go.Proofs.YtfinkeaikbmpgaaGreatDoor
