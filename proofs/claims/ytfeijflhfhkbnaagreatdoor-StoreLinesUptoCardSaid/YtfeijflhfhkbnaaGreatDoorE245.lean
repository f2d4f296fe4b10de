import Derived.Test.YtfeijflhfhkbnaaGreatDoorE241
import Derived.Test.YtfeijflhfhkbnaaGreatDoorKT91
import Derived.KernelRfl
set_option linter.all false
/- Functions of package change, read in this seat. -/
namespace Go.Proofs.YtfeijflhfhkbnaaGreatDoor
open Go Go.Am
set_option maxRecDepth 100000
variable {t1 t2:Nat}
def afq:aw Tryz.prog (gS t1 t2) 71=some (100,[((some (some 1)),4),(none,5)],(VV 112 45 46 113 114 115 116 30).bare):=Yn
def afr:aw Tryz.prog (gS t1 t2) 112=some (42,[(none,4)],(W9 72 152 154 153).bare):=Yn
def af':aw Tryz.prog (gS t1 t2) 152=some (37,[(none,4)],(Xo 72 183).bare):=Yn
def afs:aw Tryz.prog (gS t1 t2) 183=some (107,[(none,4)],(Wy 57 88 55).bare):=Yn
def ab3:aw Tryz.prog (gS t1 t2) 153=some (9,[(none,4)],(Vr 184).bare):=Yn
def adT:aw Tryz.prog (gS t1 t2) 184=some (19,[(none,4)],VF.bare):=Yn
def aft:aw Tryz.prog (gS t1 t2) 113=some (17,[(none,4)],W7.bare):=Yn
def aih:aw Tryz.prog (gS t1 t2) 114=some (194,[],(fO 156 157 158 159 160).bare):=Yn
def adU:aw Tryz.prog (gS t1 t2) 156=some (43,[],(VX 185 186).bare):=Yn
def ahf:aw Tryz.prog (gS t1 t2) 185=some (58,[(none,6)],(VT 45 185).bare):=Yn
def aga:aw Tryz.prog (gS t1 t2) 115=some (40,[((some (some 4)),4)],(Vu 115).bare):=Yn
def agb:aw Tryz.prog (gS t1 t2) 186=some (95,[(none,6)],(VJ 206 207).bare):=Yn
def adW:aw Tryz.prog (gS t1 t2) 45=some (8,[(none,2)],U8.bare):=Yn
def adX:aw Tryz.prog (gS t1 t2) 46=some (8,[(none,2)],Wd.bare):=Yn
def aiW (N:Nat) (vs:List IV) (l:Lb) (sz j n c:Nat) (r:Row) (H:Hp) (h1:vs≠[]) (h2:H l= .live r) (h3:0<n):sZ ⟨Tryz.prog,gS t1 t2,N⟩ 206 [.list vs,.slk l sz j n c] H (.bool false):=
 Y9 (fn:=(Tryz.prog.funcs[206]?).getD default) Yn Yn Yn Yn (tS:=78) (tR:=4) (e:=3) Yn Yn (size:=1) (λw=>by rfl) h1 h2 h3
end Go.Proofs.YtfeijflhfhkbnaaGreatDoor
