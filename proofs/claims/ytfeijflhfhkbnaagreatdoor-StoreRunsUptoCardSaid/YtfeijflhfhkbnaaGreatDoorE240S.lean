import Derived.Test.YtfeijflhfhkbnaaGreatDoorKAc0S
import Derived.Test.YtfeijflhfhkbnaaGreatDoorE228S
import Derived.Test.YtfeijflhfhkbnaaGreatDoorE230S
set_option linter.all false
/- What is known of the package variables for the store's laws. -/
namespace Go.Proofs.YtfeijflhfhkbnaaGreatDoor
open Go Go.Am Go.ChangeShapes Go.WideShapes Go.ChangeAt Go.RowKit
def gS (t1 t2:Nat):Nat->Option (List IV):=λg=>if g=0 then some (O0.map IV.str) else if g=1 then some (Xu.map IV.str) else if g=3 then some [.ifc t1] else if g=4 then some [.ifc t2] else if g=5 then some (Lib.pow10Tab.map λz=>IV.int .u64 z) else none
instance (t1 t2:Nat):KN Tryz.prog (gS t1 t2):=⟨rfl,λg h=>by
 unfold gS gD;rw[af8 (c:=g=3) ajK,af8 (c:=g=4) ajK,af8 (c:=g=5) ajK]⟩
def ad7:Tryz.prog.globalNamed "topiary/mark.entities"=some 1:=ajQ
def ad8:Tryz.prog.globalNamed "topiary/store.kinds"=some 0:=ajQ
set_option maxRecDepth 100000 in
def abU {W:World} (h:laidMetH Tryz.prog Rows.storeLinesUptoRow.laid W):∃t1 t2,zR Tryz.prog (gS t1 t2) W:=by
 rw[MakeChecks.laidMetH_plain _ _ _ ajQ] at h;obtain⟨ps,⟨_,_,_,_,_,_,_,_,_,_,hq,_⟩,_,_⟩:=h;obtain⟨_,_,_,_,_,_,_,_,_,_,hq,_⟩:=hq;obtain⟨g7,t7,cs7,f7,p7,q7,hg7,ht7,hv7,hd7,hq,_⟩:=hq;obtain⟨_,_,_,_,_,_,_,_,_,_,hq,_⟩:=hq;obtain⟨g4,t4,cs4,f4,p4,q4,hg4,ht4,hv4,hd4,hq,_⟩:=hq;obtain⟨g3,t3,cs3,f3,p3,q3,hg3,ht3,hv3,hd3,hq,_⟩:=hq;obtain⟨g1,t1,cs1,f1,p1,q1,hg1,C5,WT,hd1,hq,_⟩:=hq;obtain⟨g0,t0,EN,f0,p0,q0,hg0,yh,XS,Tn,hq,_⟩:=hq;obtain rfl:=Option.some.inj (abS.symm.trans hg7);obtain rfl:=Option.some.inj (ad6.symm.trans hg4);obtain rfl:=Option.some.inj (ad5.symm.trans hg3);obtain rfl:=Option.some.inj (ad7.symm.trans hg1);obtain rfl:=Option.some.inj (ad8.symm.trans hg0);obtain⟨m3,hm3⟩:=FB (show Km (tyG 3)=true by kernel_rfl);obtain⟨m4,hm4⟩:=FB (show Km (tyG 4)=true by kernel_rfl);unfold tyG at hm3 hm4;rw[ht3] at hm3;rw[ht4] at hm4;have hu7:((Tryz.prog.globals[5]?).map (·.type)).bind Tryz.prog.underlying=some (.array 20 200):=ajQ
 have hc7:((Tryz.prog.globals[5]?).map (·.type)).map Tryz.prog.cellsOf=some 20:=ajQ
 have hu1:((Tryz.prog.globals[1]?).map (·.type)).bind Tryz.prog.underlying=some (.array 4 9):=ajQ
 have Lv:((Tryz.prog.globals[1]?).map (·.type)).map Tryz.prog.cellsOf=some 4:=ajQ
 have hu0:((Tryz.prog.globals[0]?).map (·.type)).bind Tryz.prog.underlying=some (.array 11 9):=ajQ
 have Bf:((Tryz.prog.globals[0]?).map (·.type)).map Tryz.prog.cellsOf=some 11:=ajQ
 rw[ht7] at hu7 hc7;rw[C5] at hu1 Lv;rw[yh] at hu0 Bf;simp only[Option.map_some,Option.some.injEq] at hc7 Lv Bf;have h7:=Yc hg7 hv7 (Lib.cells_of_tab (zs:=Lib.pow10Tab) (k:= .u64) (e:=200) hu7 ajQ ajQ hc7 hd7);have h1:=Ps hg1 WT (sV (zs:=Xu) (e:=9) hu1 ajQ ajQ Lv hd1);have h0:=Ps hg0 XS (sV (zs:=O0) (e:=9) hu0 ajQ ajQ Bf Tn);obtain⟨_,u3,v3,e3,_,_⟩:=iface_of_trod hm3 hd3;obtain⟨_,u4,v4,e4,_,_⟩:=iface_of_trod hm4 hd4;have h3:=Pt hg3 hv3 e3;have h4:=Pt hg4 hv4 e4;refine⟨u3,u4,λg cs hg=> ?_⟩;unfold gS at hg;split at hg
 ·rename_i e;subst e;cases hg;exact h0
 split at hg
 ·rename_i e;subst e;cases hg;exact h1
 split at hg
 ·rename_i e;subst e;cases hg;exact h3
 split at hg
 ·rename_i e;subst e;cases hg;exact h4
 split at hg
 ·rename_i e;subst e;cases hg;exact h7
 cases hg
end Go.Proofs.YtfeijflhfhkbnaaGreatDoor
