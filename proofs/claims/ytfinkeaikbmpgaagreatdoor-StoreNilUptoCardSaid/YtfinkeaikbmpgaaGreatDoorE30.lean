import Derived.Test.YtfinkeaikbmpgaaGreatDoorE28
import Derived.Test.YtfinkeaikbmpgaaGreatDoorKAm47
set_option linter.unusedSimpArgs false
set_option linter.unusedVariables false
set_option linter.unnecessarySimpa false
set_option linter.defProp false
/- Functions of this seat, read: a store that is nil. -/
namespace Go.Proofs.YtfinkeaikbmpgaaGreatDoor
open Go Go.Am Go.ChangeShapes Go.WideShapes Go.ChangeAt Go.RowKit
noncomputable def wV:uU Tryz.prog wR where
 tI:=3
 tL:=29
 tC:=31
 vu:=22
 fC:=fv Tryz.prog 31
 uI:=by kernel_rfl
 uL:=by kernel_rfl
 uC:=by kernel_rfl
 wU:=by kernel_rfl
 sC:=by kernel_rfl
set_option maxRecDepth 100000 in
theorem kh (os:Os) (args:Array Value):laidMetH Tryz.prog Rows.storeNilUptoRow.laid ((bN os).forCall (fun _ _=>0) ⟨#[],args,[]⟩).memory:=
 laidMetH_of_parts3 (fuel:=8) (laidMet_of_run' 8 (by kernel_rfl) (by kernel_rfl)) (by kernel_rfl) (by kernel_rfl)
theorem wW:dj Tryz.prog l7 61=some (5,[((some (some 3)),2)],bw.bare):=by kernel_rfl
theorem wX:dj Tryz.prog l7 28=some (106,[((some (some 3)),4)],(bO 61 51 62 63 26 27).bare):=by kernel_rfl
theorem uV:dj Tryz.prog l7 22=some (35,[((some (some 1)),2)],(bF 58 59).bare):=by kernel_rfl
theorem ki:dj Tryz.prog l7 8=some (16,[(none,2)],(bb 28 22).bare):=by kernel_rfl
theorem kj (a:iq):aW Tryz.prog l7 8 [a.av] (.bool true):=
 gG ki a.kind _ (qK wX (wT wW 3) (by kernel_rfl) a.kind _) (n0 uV)
end Go.Proofs.YtfinkeaikbmpgaaGreatDoor
