import Derived.Test.YtfeijflhfhkbnaaGreatDoorE228
import Derived.Test.YtfeijflhfhkbnaaGreatDoorE230
set_option linter.all false
/- What is known of the package variables for the store's laws. -/
namespace Go.Proofs.YtfeijflhfhkbnaaGreatDoor
open Go Go.Am Go.ChangeShapes Go.WideShapes Go.ChangeAt Go.RowKit
def ap6:List (List UInt8):=[[],[102,105,114,115,116],[108,97,115,116],[98,101,102,111,114,101],[97,102,116,101,114],[100,101,108,101,116,101],[114,101,112,108,97,99,101],[118,97,108,117,101],[114,101,110,97,109,101],[115,101,116],[100,114,111,112]]
def Gy:List (List UInt8):=[[38,108,116,59],[38,103,116,59],[38,97,109,112,59],[38,113,117,111,116,59]]
def gS (t1 t2:Nat):Nat->Option (List IV):=λg=>if g=0 then some (ap6.map IV.str) else if g=1 then some (Gy.map IV.str) else if g=3 then some [.ifc t1] else if g=4 then some [.ifc t2] else if g=5 then some (Lib.pow10Tab.map λz=>IV.int .u64 z) else none
def I6:Tryz.prog.globalNamed "topiary/mark.entities"=some 1:=Yn
def aru:Tryz.prog.globalNamed "topiary/store.kinds"=some 0:=Yn
set_option maxRecDepth 100000 in
def aqS {W:World} (h:laidMetH Tryz.prog Rows.storeLinesUptoRow.laid W):∃t1 t2,qn Tryz.prog (gS t1 t2) W:=by
 rw[MakeChecks.laidMetH_plain _ _ _ Yn] at h;obtain⟨ps,⟨_,_,_,_,_,_,_,_,_,_,hq,_⟩,_,_⟩:=h;obtain⟨_,_,_,_,_,_,_,_,_,_,hq,_⟩:=hq;obtain⟨g7,t7,cs7,f7,p7,q7,hg7,LQ,hv7,hd7,hq,_⟩:=hq;obtain⟨_,_,_,_,_,_,_,_,_,_,hq,_⟩:=hq;obtain⟨g4,t4,cs4,f4,p4,q4,hg4,ht4,hv4,hd4,hq,_⟩:=hq;obtain⟨g3,t3,cs3,f3,p3,q3,hg3,ht3,hv3,hd3,hq,_⟩:=hq;obtain⟨g1,t1,cs1,f1,p1,q1,hg1,u6,Iz,Mw,hq,_⟩:=hq;obtain⟨g0,t0,wy,f0,p0,q0,Kj,sk,Gc,Lq,hq,_⟩:=hq;obtain rfl:=Option.some.inj (aqQ.symm.trans hg7);obtain rfl:=Option.some.inj (art.symm.trans hg4);obtain rfl:=Option.some.inj (ars.symm.trans hg3);obtain rfl:=Option.some.inj (I6.symm.trans hg1);obtain rfl:=Option.some.inj (aru.symm.trans Kj);obtain⟨m3,hm3⟩:=anY (show aoG (tyG 3)=true by kernel_rfl);obtain⟨m4,hm4⟩:=anY (show aoG (tyG 4)=true by kernel_rfl);unfold tyG at hm3 hm4;rw[ht3] at hm3;rw[ht4] at hm4;have hu7:((Tryz.prog.globals[5]?).map (·.type)).bind Tryz.prog.underlying=some (.array 20 200):=Yn
 have ML:((Tryz.prog.globals[5]?).map (·.type)).map Tryz.prog.cellsOf=some 20:=Yn
 have hu1:((Tryz.prog.globals[1]?).map (·.type)).bind Tryz.prog.underlying=some (.array 4 9):=Yn
 have hc1:((Tryz.prog.globals[1]?).map (·.type)).map Tryz.prog.cellsOf=some 4:=Yn
 have Kk:((Tryz.prog.globals[0]?).map (·.type)).bind Tryz.prog.underlying=some (.array 11 9):=Yn
 have BZ:((Tryz.prog.globals[0]?).map (·.type)).map Tryz.prog.cellsOf=some 11:=Yn
 rw[LQ] at hu7 ML;rw[u6] at hu1 hc1;rw[sk] at Kk BZ;simp only[Option.map_some,Option.some.injEq] at ML hc1 BZ;have h7:=aqd hg7 hv7 (Lib.cells_of_tab (zs:=Lib.pow10Tab) (k:= .u64) (e:=200) hu7 Yn Yn ML hd7);have h1:=D4 hg1 Iz (oR (zs:=Gy) (e:=9) hu1 Yn Yn hc1 Mw);have h0:=D4 Kj Gc (oR (zs:=ap6) (e:=9) Kk Yn Yn BZ Lq);obtain⟨_,u3,v3,e3,_,_⟩:=iface_of_trod hm3 hd3;obtain⟨_,u4,v4,e4,_,_⟩:=iface_of_trod hm4 hd4;have h3:=apf hg3 hv3 e3;have h4:=apf hg4 hv4 e4;refine⟨u3,u4,λg cs hg=> ?_⟩;unfold gS at hg;split at hg
 ·rename_i e;subst e;cases hg;exact h0
 split at hg
 ·rename_i e;subst e;cases hg;exact h1
 split at hg
 ·rename_i e;subst e;cases hg;exact h3
 split at hg
 ·rename_i e;subst e;cases hg;exact h4
 split at hg
 ·rename_i e;subst e;cases hg;exact h7
 cases hg
end Go.Proofs.YtfeijflhfhkbnaaGreatDoor
