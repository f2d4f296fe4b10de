import Derived.Test.YtfeijflhfhkbnaaGreatDoorE228S
import Derived.Test.YtfeijflhfhkbnaaGreatDoorKAm47S
set_option linter.all false
/- Functions of this seat, read: a store that is nil. -/
namespace Go.Proofs.YtfeijflhfhkbnaaGreatDoor
open Go Go.Am Go.ChangeShapes Go.WideShapes Go.ChangeAt Go.RowKit
noncomputable def tyC:TyC Tryz.prog tyT where
 tI:=3
 tL:=41
 tC:=43
 tCs:=33
 fC:=zP Tryz.prog 43
 uI:=ajQ
 uL:=ajQ
 uC:=ajQ
 uCs:=ajQ
 sC:=ajQ
set_option maxRecDepth 100000 in
def Cq (os:Os) (args:Array Value):laidMetH Tryz.prog Rows.storeLinesUptoRow.laid ((gM os).forCall (λ_ _=>0) ⟨#[],args,[]⟩).memory:=
 laidMetH_of_parts3 (fuel:=8) (laidMet_of_run' 8 ajQ ajQ) ajQ ajQ
end Go.Proofs.YtfeijflhfhkbnaaGreatDoor
