import Derived.Test.YtfeijflhfhkbnaaGreatDoorE220S
import Derived.Test.YtfeijflhfhkbnaaGreatDoorKAm48S
import Derived.Deep.DeepWitnessRowRef
import Derived.WalkKit
import Derived.ProofKit
import Derived.OpenShut
import Derived.LaidMore
import Derived.Deep.DeepHandedRow
import Derived.Test.YtfeijflhfhkbnaaGreatDoorTie
set_option linter.all false
/- What the rows lay, az what is known; a world that holds it. -/
namespace Go.Proofs.YtfeijflhfhkbnaaGreatDoor
open Go Go.Am Go.ChangeShapes Go.WideShapes Go.ChangeAt Go.RowKit
def abR (vs:List Value):Obj->Obj
 | .cells _ t frozen=> .cells vs.toArray t frozen
 |o=>o
noncomputable def gM (os:Os):World:=
 let w:=World.doorLaid Tryz.prog 100 os
 let h4:=w.heap.modify 6 (abR (Go.Pinned.utf8FirstZ.map λ(n:Nat)=>Value.int .u8 (Int.ofNat n)))
 {w with heap:=h4}
set_option maxRecDepth 100000 in
def VC (os:Os) (args:Array Value):((gM os).forCall (λ_ _=>0) ⟨#[],args,[]⟩).variablesRefB Tryz.checked.prog=true:=ajQ
set_option maxRecDepth 100000 in
def VD (os:Os) (args:Array Value):((((gM os).forCall (λ_ _=>0) ⟨#[],args,[]⟩).heap.toList.drop Tryz.checked.prog.globals.size).take ((begin Tryz.checked.prog (λ_ _=>0) default).world.heap.size - Tryz.checked.prog.globals.size) =
 (begin Tryz.checked.prog (λ_ _=>0) default).world.heap.toList.drop Tryz.checked.prog.globals.size):=ajQ
def abS:Tryz.prog.globalNamed "internal/strconv.uint64pow10"=some 5:=ajQ
def ad5:Tryz.prog.globalNamed "strconv.ErrSyntax"=some 3:=ajQ
def ad6:Tryz.prog.globalNamed "strconv.ErrRange"=some 4:=ajQ
noncomputable def Km (o:Option TypeDesc):Bool:=match o with
 |some (.interface _)=>true
 |_=>false
def FB {o:Option TypeDesc} (h:Km o=true):∃ms,o=some (.interface ms):=by
 unfold Km at h;split at h
 ·exact⟨_,rfl⟩
 cases h
noncomputable def tyG (g:Nat):Option TypeDesc:=((Tryz.prog.globals[g]?).map (·.type)).bind Tryz.prog.underlying
end Go.Proofs.YtfeijflhfhkbnaaGreatDoor
