import Derived.Test.YtfeijflhfhkbnaaGreatDoorE241S
import Derived.Test.YtfeijflhfhkbnaaGreatDoorKT91S
import Derived.KernelRfl
set_option linter.all false
/- Functions of package change, read in this seat. -/
namespace Go.Proofs.YtfeijflhfhkbnaaGreatDoor
open Go Go.Am
set_option maxRecDepth 100000
variable {t1 t2:Nat}
def aeR (N:Nat) (vs:List IV) (l:Lb) (sz j n c:Nat) (r:Row) (H:Hp) (h1:vs≠[]) (h2:H l= .live r) (h3:0<n):lT ⟨Tryz.prog,gS t1 t2,N⟩ 206 [.list vs,.slk l sz j n c] H (.bool false):=
 vC (fn:=(Tryz.prog.funcs[206]?).getD default) ajQ ajQ ajQ ajQ (tS:=78) (tR:=4) (e:=3) ajQ ajQ (size:=1) (λw=>by rfl) h1 h2 h3
def aeS (N:Nat) (vs:List IV) (l:Lb) (sz j n c:Nat) (r:Row) (H:Hp) (h1:vs≠[]) (h2:H l= .live r) (h3:0<n):lT ⟨Tryz.prog,gS t1 t2,N⟩ 208 [.list vs,.slk l sz j n c] H (.bool false):=
 vC (fn:=(Tryz.prog.funcs[208]?).getD default) ajQ ajQ ajQ ajQ (tS:=73) (tR:=4) (e:=96) ajQ ajQ (size:=2) (λw=>by rfl) h1 h2 h3
def Y7 (N:Nat) (s t:Bs) (H:Hp):lT ⟨Tryz.prog,gS t1 t2,N⟩ 205 [.str s,.str t] H (.int .i64 (Lib.compareBytes s t)):=
 xR (fn:=(Tryz.prog.funcs[205]?).getD default) ajQ ajQ ajQ ajQ ajQ s t H
noncomputable def chF:ChF Tryz.prog (gS t1 t2) where
 oI:=aeR
 oA:=aeS
 acQ:=Y7
 Q_:=ajQ
 K9:=ajQ
 Cv:=z_
 vv:=vv
 K':=λl h=>Tm l h
 Cw:=Cw
end Go.Proofs.YtfeijflhfhkbnaaGreatDoor
