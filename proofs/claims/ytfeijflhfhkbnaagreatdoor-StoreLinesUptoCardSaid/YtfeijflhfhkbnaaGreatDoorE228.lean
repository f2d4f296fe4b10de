import Derived.Test.YtfeijflhfhkbnaaGreatDoorE220
import Derived.Test.YtfeijflhfhkbnaaGreatDoorKAm48
import Derived.Deep.DeepWitnessRowRef
import Derived.WalkKit
import Derived.ProofKit
import Derived.OpenShut
import Derived.LaidMore
import Derived.Deep.DeepHandedRow
import Derived.Test.YtfeijflhfhkbnaaGreatDoorTie
set_option linter.all false
/- What the rows lay, az what is known; a world that holds it. -/
namespace Go.Proofs.YtfeijflhfhkbnaaGreatDoor
open Go Go.Am Go.ChangeShapes Go.WideShapes Go.ChangeAt Go.RowKit
def aqP (vs:List Value):Obj->Obj
 | .cells _ t frozen=> .cells vs.toArray t frozen
 |o=>o
noncomputable def f_ (os:Os):World:=
 let w:=World.doorLaid Tryz.prog 100 os
 let h4:=w.heap.modify 6 (aqP (Go.Pinned.utf8FirstZ.map λ(n:Nat)=>Value.int .u8 (Int.ofNat n)))
 {w with heap:=h4}
set_option maxRecDepth 100000 in
def Gw (os:Os) (args:Array Value):((f_ os).forCall (λ_ _=>0) ⟨#[],args,[]⟩).variablesRefB Tryz.checked.prog=true:=Yn
set_option maxRecDepth 100000 in
def Gx (os:Os) (args:Array Value):((((f_ os).forCall (λ_ _=>0) ⟨#[],args,[]⟩).heap.toList.drop Tryz.checked.prog.globals.size).take ((begin Tryz.checked.prog (λ_ _=>0) default).world.heap.size - Tryz.checked.prog.globals.size) =
 (begin Tryz.checked.prog (λ_ _=>0) default).world.heap.toList.drop Tryz.checked.prog.globals.size):=Yn
def aqQ:Tryz.prog.globalNamed "internal/strconv.uint64pow10"=some 5:=Yn
def ars:Tryz.prog.globalNamed "strconv.ErrSyntax"=some 3:=Yn
def art:Tryz.prog.globalNamed "strconv.ErrRange"=some 4:=Yn
noncomputable def aoG (o:Option TypeDesc):Bool:=match o with
 |some (.interface _)=>true
 |_=>false
def anY {o:Option TypeDesc} (h:aoG o=true):∃ms,o=some (.interface ms):=by
 unfold aoG at h;split at h
 ·exact⟨_,rfl⟩
 cases h
noncomputable def tyG (g:Nat):Option TypeDesc:=((Tryz.prog.globals[g]?).map (·.type)).bind Tryz.prog.underlying
end Go.Proofs.YtfeijflhfhkbnaaGreatDoor
