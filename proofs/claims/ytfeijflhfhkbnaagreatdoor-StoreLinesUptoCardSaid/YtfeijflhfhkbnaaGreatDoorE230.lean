import Derived.Test.YtfeijflhfhkbnaaGreatDoorE228
import Derived.Test.YtfeijflhfhkbnaaGreatDoorKAm47
set_option linter.all false
/- Functions of this seat, read: a store that is nil. -/
namespace Go.Proofs.YtfeijflhfhkbnaaGreatDoor
open Go Go.Am Go.ChangeShapes Go.WideShapes Go.ChangeAt Go.RowKit
set_option maxRecDepth 100000 in
def aoU (os:Os) (args:Array Value):laidMetH Tryz.prog Rows.storeLinesUptoRow.laid ((f_ os).forCall (λ_ _=>0) ⟨#[],args,[]⟩).memory:=
 laidMetH_of_parts3 (fuel:=8) (laidMet_of_run' 8 Yn Yn) Yn Yn
end Go.Proofs.YtfeijflhfhkbnaaGreatDoor
