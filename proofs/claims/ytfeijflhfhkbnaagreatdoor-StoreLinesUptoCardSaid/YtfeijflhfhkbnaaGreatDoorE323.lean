import Derived.Shelf.Strings.Cut
import Derived.Shelf.Strings.Prefix
import Derived.Shelf.Strings.Search3
import Derived.Test.YtfeijflhfhkbnaaGreatDoorCards
import Derived.Test.YtfeijflhfhkbnaaGreatDoorChecked
set_option linter.all false
/- The shelf's layings at this seat, az the reference's marks ask for them. -/
namespace Go.Proofs
open Go.Shelf
def Tryz.Qz:Go.Shelf.Ren:=⟨fun|145=>18|220=>47|219=>82|217=>63|225=>124|224=>125|267=>126|266=>99|314=>165|n=>n,fun|9=>9|4=>4|59=>55|3=>3|5=>5|46=>168|146=>198|51=>197|n=>n,fun|1=>2|n=>n⟩
def Tryz.SD:Go.Proofs.Lays.n145 Tryz.prog Tryz.Qz:={
 mixed:=by kernel_rfl
 f145:=Tryz.func18.trans (congrArg some (by kernel_rfl))
 f217:=Tryz.func63.trans (congrArg some (by kernel_rfl))
 f219:=Tryz.func82.trans (congrArg some (by kernel_rfl))
 f220:=Tryz.func47.trans (congrArg some (by kernel_rfl))
 f224:=Tryz.func125.trans (congrArg some (by kernel_rfl))
 f225:=Tryz.func124.trans (congrArg some (by kernel_rfl))
 f266:=Tryz.func99.trans (congrArg some (by kernel_rfl))
 f267:=Tryz.func126.trans (congrArg some (by kernel_rfl))
 f314:=Tryz.func165.trans (congrArg some (by kernel_rfl))
 t3:=Tryz.underlying3
 a3:=Tryz.isAgg3
 z3:=Tryz.sizeOf3
 v3:=Tryz.zeroValue3
 t4:=Tryz.underlying4
 a4:=Tryz.isAgg4
 z4:=Tryz.sizeOf4
 v4:=Tryz.zeroValue4
 t5:=Tryz.underlying5
 a5:=Tryz.isAgg5
 z5:=Tryz.sizeOf5
 v5:=Tryz.zeroValue5
 t9:=Tryz.underlying9
 a9:=Tryz.isAgg9
 z9:=Tryz.sizeOf9
 v9:=Tryz.zeroValue9
 t46:=Tryz.underlying168
 a46:=Tryz.isAgg168
 z46:=Tryz.sizeOf168
 v46:=Tryz.zeroValue168
 t51:=Tryz.underlying197
 a51:=Tryz.isAgg197
 z51:=Tryz.sizeOf197
 v51:=Tryz.zeroValue197
 t59:=Tryz.underlying55
 a59:=Tryz.isAgg55
 z59:=Tryz.sizeOf55
 v59:=Tryz.zeroValue55
 t146:=Tryz.underlying198
 a146:=Tryz.isAgg198
 z146:=Tryz.sizeOf198
 v146:=Tryz.zeroValue198
 g1:=by kernel_rfl}
def Tryz.QA:Go.Shelf.Ren:=⟨fun|101=>144|208=>180|206=>127|n=>n,fun|9=>9|4=>4|3=>3|n=>n,fun|n=>n⟩
def Tryz.SE:Go.Proofs.Lays.n101 Tryz.prog Tryz.QA:={
 mixed:=by kernel_rfl
 f101:=Tryz.func144.trans (congrArg some (by kernel_rfl))
 f206:=Tryz.func127.trans (congrArg some (by kernel_rfl))
 f208:=Tryz.func180.trans (congrArg some (by kernel_rfl))
 t3:=Tryz.underlying3
 a3:=Tryz.isAgg3
 z3:=Tryz.sizeOf3
 v3:=Tryz.zeroValue3
 t4:=Tryz.underlying4
 a4:=Tryz.isAgg4
 z4:=Tryz.sizeOf4
 v4:=Tryz.zeroValue4
 t9:=Tryz.underlying9
 a9:=Tryz.isAgg9
 z9:=Tryz.sizeOf9
 v9:=Tryz.zeroValue9}
def Tryz.QB:Go.Shelf.Ren:=⟨fun|102=>102|209=>143|207=>128|n=>n,fun|9=>9|4=>4|3=>3|n=>n,fun|n=>n⟩
def Tryz.SF:Go.Proofs.Lays.n102 Tryz.prog Tryz.QB:={
 mixed:=by kernel_rfl
 f102:=Tryz.func102.trans (congrArg some (by kernel_rfl))
 f207:=Tryz.func128.trans (congrArg some (by kernel_rfl))
 f209:=Tryz.func143.trans (congrArg some (by kernel_rfl))
 t3:=Tryz.underlying3
 a3:=Tryz.isAgg3
 z3:=Tryz.sizeOf3
 v3:=Tryz.zeroValue3
 t4:=Tryz.underlying4
 a4:=Tryz.isAgg4
 z4:=Tryz.sizeOf4
 v4:=Tryz.zeroValue4
 t9:=Tryz.underlying9
 a9:=Tryz.isAgg9
 z9:=Tryz.sizeOf9
 v9:=Tryz.zeroValue9}
end Go.Proofs
