import Derived.Test.YtfinkeaikbmpgaaDoorE5
import Derived.Test.YtfinkeaikbmpgaaDoorKAm48
import Derived.Shelf.Strconv.Itoa3
import Derived.Test.YtfinkeaikbmpgaaDoorTie
set_option linter.unusedSimpArgs false
set_option linter.unusedVariables false
set_option linter.unnecessarySimpa false
set_option linter.defProp false
/- What the row of PathParses lays, as what is known. -/
namespace Go.Proofs.YtfinkeaikbmpgaaDoor
open Go Go.Am Go.ChangeShapes Go.WideShapes Go.ChangeAt Go.RowKit
def gY (t1 t2:Nat):Nat→Option (List IV):=fun g=>if g=2 then some [.ifc t1] else if g=3 then some [.ifc t2] else if g=6 then some (Lib.pow10Tab.map fun z=>IV.int .u64 z) else none
def AS:Tryd.prog.globalNamed "internal/strconv.uint64pow10"=some 6:=by kernel_rfl
def CC:Tryd.prog.globalNamed "strconv.ErrSyntax"=some 2:=by kernel_rfl
def CD:Tryd.prog.globalNamed "strconv.ErrRange"=some 3:=by kernel_rfl
noncomputable def po (o:Option TypeDesc):Bool:=match o with
 |some (.interface _)=>true
 |_=>false
def nt {o:Option TypeDesc} (h:po o=true):∃ms,o=some (.interface ms):=by
 unfold po at h;split at h
 ·exact⟨_,rfl⟩
 cases h
noncomputable def CE (g:Nat):Option TypeDesc:=((Tryd.prog.globals[g]?).map (·.type)).bind Tryd.prog.underlying
set_option maxRecDepth 100000 in
def AT {W:World} (h:laidMetH Tryd.prog Rows.pathParsesUptoRow.laid W):∃t1 t2,l_ Tryd.prog (gY t1 t2) W:=by
 rw[MakeChecks.laidMetH_plain _ _ _ (by kernel_rfl)] at h;obtain⟨ps,⟨_,_,_,_,_,_,_,_,_,_,hq,_⟩,_,_⟩:=h;obtain⟨_,_,_,_,_,_,_,_,_,_,hq,_⟩:=hq;obtain⟨g7,t7,Fh,f7,p7,q7,Dr,Ey,Ez,EA,hq,_⟩:=hq;obtain⟨_,_,_,_,_,_,_,_,_,_,hq,_⟩:=hq;obtain⟨g4,t4,Fi,f4,p4,q4,Ds,EB,EC,ED,hq,_⟩:=hq;obtain⟨g3,t3,Fj,f3,p3,q3,Dt,EE,EF,EG,hq,_⟩:=hq;obtain rfl:=Option.some.inj (AS.symm.trans Dr);obtain rfl:=Option.some.inj (CD.symm.trans Ds);obtain rfl:=Option.some.inj (CC.symm.trans Dt);obtain⟨m3,CF⟩:=nt (show po (CE 2)=true by kernel_rfl);obtain⟨m4,CG⟩:=nt (show po (CE 3)=true by kernel_rfl);unfold CE at CF CG;rw[EE] at CF;rw[EB] at CG;have Du:((Tryd.prog.globals[6]?).map (·.type)).bind Tryd.prog.underlying=some (.array 20 191):=by kernel_rfl
 have CH:((Tryd.prog.globals[6]?).map (·.type)).map Tryd.prog.cellsOf=some 20:=by kernel_rfl
 rw[Ey] at Du CH;simp only[Option.map_some,Option.some.injEq] at CH;have h7:=yE Dr Ez (Lib.cells_of_tab (zs:=Lib.pow10Tab) (k:= .u64) (e:=191) Du (by kernel_rfl) (by kernel_rfl) CH EA);obtain⟨_,u3,v3,e3,_,_⟩:=iface_of_trod CF EG;obtain⟨_,u4,v4,e4,_,_⟩:=iface_of_trod CG ED;have h3:=sG Dt EF e3;have h4:=sG Ds EC e4;refine⟨u3,u4,fun g cs hg=> ?_⟩;unfold gY at hg;split at hg
 ·rename_i e;subst e;cases hg;exact h3
 split at hg
 ·rename_i e;subst e;cases hg;exact h4
 split at hg
 ·rename_i e;subst e;cases hg;exact h7
 cases hg
end Go.Proofs.YtfinkeaikbmpgaaDoor
