import Derived.Shelf.Strings.Search3
import Derived.Test.YtfeijflhfhkbnaaGreatDoorCards
import Derived.Test.YtfeijflhfhkbnaaGreatDoorChecked
set_option linter.all false
/- A laying of the shelf's at this seat. -/
namespace Go.Proofs
open Go.Shelf
def Tryz.Qy:Go.Shelf.Ren:=⟨fun|143=>96|219=>82|217=>63|225=>124|224=>125|267=>126|266=>99|314=>165|n=>n,fun|9=>9|3=>3|4=>4|5=>5|46=>168|146=>198|51=>197|n=>n,fun|1=>2|n=>n⟩
def Tryz.SC:Go.Proofs.Lays.n143 Tryz.prog Tryz.Qy:={
 mixed:=by kernel_rfl
 f143:=Tryz.func96.trans (congrArg some (by kernel_rfl))
 f217:=Tryz.func63.trans (congrArg some (by kernel_rfl))
 f219:=Tryz.func82.trans (congrArg some (by kernel_rfl))
 f224:=Tryz.func125.trans (congrArg some (by kernel_rfl))
 f225:=Tryz.func124.trans (congrArg some (by kernel_rfl))
 f266:=Tryz.func99.trans (congrArg some (by kernel_rfl))
 f267:=Tryz.func126.trans (congrArg some (by kernel_rfl))
 f314:=Tryz.func165.trans (congrArg some (by kernel_rfl))
 t3:=Tryz.underlying3
 a3:=Tryz.isAgg3
 z3:=Tryz.sizeOf3
 v3:=Tryz.zeroValue3
 t4:=Tryz.underlying4
 a4:=Tryz.isAgg4
 z4:=Tryz.sizeOf4
 v4:=Tryz.zeroValue4
 t5:=Tryz.underlying5
 a5:=Tryz.isAgg5
 z5:=Tryz.sizeOf5
 v5:=Tryz.zeroValue5
 t9:=Tryz.underlying9
 a9:=Tryz.isAgg9
 z9:=Tryz.sizeOf9
 v9:=Tryz.zeroValue9
 t46:=Tryz.underlying168
 a46:=Tryz.isAgg168
 z46:=Tryz.sizeOf168
 v46:=Tryz.zeroValue168
 t51:=Tryz.underlying197
 a51:=Tryz.isAgg197
 z51:=Tryz.sizeOf197
 v51:=Tryz.zeroValue197
 t146:=Tryz.underlying198
 a146:=Tryz.isAgg198
 z146:=Tryz.sizeOf198
 v146:=Tryz.zeroValue198
 g1:=by kernel_rfl}
end Go.Proofs
