import Derived.Test.YtfinkeaikbmpgaaGreatDoorE20
import Derived.Test.YtfinkeaikbmpgaaGreatDoorKAm48
import Derived.Deep.DeepWitnessRowRef
import Derived.WalkKit
import Derived.ProofKit
import Derived.OpenShut
import Derived.LaidMore
import Derived.Deep.DeepHandedRow
import Derived.Test.YtfinkeaikbmpgaaGreatDoorTie
set_option linter.unusedSimpArgs false
set_option linter.unusedVariables false
set_option linter.unnecessarySimpa false
set_option linter.defProp false
/- What the rows lay, as what is known; a world that holds it. -/
namespace Go.Proofs.YtfinkeaikbmpgaaGreatDoor
open Go Go.Am Go.ChangeShapes Go.WideShapes Go.ChangeAt Go.RowKit
def GY (vs:List Value):Obj→Obj
 | .cells _ t frozen=> .cells vs.toArray t frozen
 |o=>o
noncomputable def gx (os:Os):World:=
 let w:=World.doorLaid Tryz.prog 100 os
 let h4:=w.heap.modify 5 (GY (Go.Pinned.utf8FirstZ.map fun(n:Nat)=>Value.int .u8 (Int.ofNat n)))
 {w with heap:=h4}
set_option maxRecDepth 100000 in
theorem wY (os:Os) (args:Array Value):laidMetH Tryz.prog Rows.pathSelectsUptoRow.laid ((gx os).forCall (fun _ _=>0) ⟨#[],args,[]⟩).memory:=
 laidMetH_of_parts3 (fuel:=8) (laidMet_of_run' 8 (by kernel_rfl) (by kernel_rfl)) (by kernel_rfl) (by kernel_rfl)
set_option maxRecDepth 100000 in
theorem GZ (os:Os) (args:Array Value):((gx os).forCall (fun _ _=>0) ⟨#[],args,[]⟩).variablesRefB Tryz.checked.prog=true:=by kernel_rfl
set_option maxRecDepth 100000 in
theorem G0 (os:Os) (args:Array Value):((((gx os).forCall (fun _ _=>0) ⟨#[],args,[]⟩).heap.toList.drop Tryz.checked.prog.globals.size).take ((begin Tryz.checked.prog (fun _ _=>0) default).world.heap.size - Tryz.checked.prog.globals.size) =
 (begin Tryz.checked.prog (fun _ _=>0) default).world.heap.toList.drop Tryz.checked.prog.globals.size):=by kernel_rfl
theorem G1:Tryz.prog.globalNamed "internal/strconv.uint64pow10"=some 7:=by kernel_rfl
theorem Jd:Tryz.prog.globalNamed "strconv.ErrSyntax"=some 3:=by kernel_rfl
theorem Je:Tryz.prog.globalNamed "strconv.ErrRange"=some 4:=by kernel_rfl
noncomputable def vI (o:Option TypeDesc):Bool:=match o with
 |some (.interface _)=>true
 |_=>false
theorem sW {o:Option TypeDesc} (h:vI o=true):∃ms,o=some (.interface ms):=by
 unfold vI at h;split at h
 ·exact⟨_,rfl⟩
 ·cases h
noncomputable def Jf (g:Nat):Option TypeDesc:=((Tryz.prog.globals[g]?).map (·.type)).bind Tryz.prog.underlying
set_option maxRecDepth 100000 in
theorem G2 {W:World} (h:laidMetH Tryz.prog Rows.pathSelectsUptoRow.laid W):∃t1 t2,qX Tryz.prog (gZ t1 t2) W:=by
 rw[MakeChecks.laidMetH_plain _ _ _ (by kernel_rfl)] at h;obtain⟨ps,⟨_,_,_,_,_,_,_,_,_,_,hq,_⟩,_,_⟩:=h;obtain⟨_,_,_,_,_,_,_,_,_,_,hq,_⟩:=hq;obtain⟨g7,t7,Mc,f7,p7,q7,JY,Lr,Ls,Lt,hq,_⟩:=hq;obtain⟨_,_,_,_,_,_,_,_,_,_,hq,_⟩:=hq;obtain⟨g4,t4,Md,f4,p4,q4,JZ,Lu,Lv,Lw,hq,_⟩:=hq;obtain⟨g3,t3,Me,f3,p3,q3,J0,Lx,Ly,Lz,hq,_⟩:=hq;obtain rfl:=Option.some.inj (G1.symm.trans JY)
 obtain rfl:=Option.some.inj (Je.symm.trans JZ);obtain rfl:=Option.some.inj (Jd.symm.trans J0);obtain⟨m3,Jg⟩:=sW (show vI (Jf 3)=true by kernel_rfl);obtain⟨m4,Jh⟩:=sW (show vI (Jf 4)=true by kernel_rfl);unfold Jf at Jg Jh;rw[Lx] at Jg;rw[Lu] at Jh;have J1:((Tryz.prog.globals[7]?).map (·.type)).bind Tryz.prog.underlying=some (.array 20 227):=by kernel_rfl
 have Ji:((Tryz.prog.globals[7]?).map (·.type)).map Tryz.prog.cellsOf=some 20:=by kernel_rfl
 rw[Lr] at J1 Ji;simp only[Option.map_some,Option.some.injEq] at Ji;have h7:=ER JY Ls (Lib.cells_of_tab (zs:=Lib.pow10Tab) (k:= .u64) (e:=227) J1 (by kernel_rfl) (by kernel_rfl) Ji Lt);obtain⟨_,u3,v3,e3,_,_⟩:=iface_of_trod Jg Lz;obtain⟨_,u4,v4,e4,_,_⟩:=iface_of_trod Jh Lw;have h3:=zK J0 Ly e3;have h4:=zK JZ Lv e4;refine⟨u3,u4,fun g cs hg=> ?_⟩;unfold gZ at hg;split at hg
 ·rename_i e;subst e;cases hg;exact h3
 split at hg
 ·rename_i e;subst e;cases hg;exact h4
 split at hg
 ·rename_i e;subst e;cases hg;exact h7
 ·cases hg
end Go.Proofs.YtfinkeaikbmpgaaGreatDoor
