import Derived.Shelf.Strings.Cut
import Derived.Shelf.Strings.Prefix
import Derived.Shelf.Strings.Search3
import Derived.Test.YtfinkeaikbmpgaaDoorCards
import Derived.Test.YtfinkeaikbmpgaaDoorChecked
set_option linter.unusedSimpArgs false
set_option linter.unusedVariables false
set_option linter.unnecessarySimpa false
set_option linter.defProp false
/- The shelf's layings at this seat. -/
namespace Go.Proofs
open Go.Shelf
def Tryd.Qy:Go.Shelf.Ren:=⟨fun|143=>134|219=>161|217=>160|225=>184|224=>185|267=>186|266=>183|314=>208|n=>n,fun|9=>9|3=>3|4=>4|5=>5|46=>179|146=>211|51=>210|n=>n,fun|1=>1|n=>n⟩
def Tryd.SC:Go.Proofs.Lays.n143 Tryd.prog Tryd.Qy:={
 mixed:=by kernel_rfl
 f143:=Tryd.func134.trans (congrArg some (by kernel_rfl))
 f217:=Tryd.func160.trans (congrArg some (by kernel_rfl))
 f219:=Tryd.func161.trans (congrArg some (by kernel_rfl))
 f224:=Tryd.func185.trans (congrArg some (by kernel_rfl))
 f225:=Tryd.func184.trans (congrArg some (by kernel_rfl))
 f266:=Tryd.func183.trans (congrArg some (by kernel_rfl))
 f267:=Tryd.func186.trans (congrArg some (by kernel_rfl))
 f314:=Tryd.func208.trans (congrArg some (by kernel_rfl))
 t3:=Tryd.underlying3
 a3:=Tryd.isAgg3
 z3:=Tryd.sizeOf3
 v3:=Tryd.zeroValue3
 t4:=Tryd.underlying4
 a4:=Tryd.isAgg4
 z4:=Tryd.sizeOf4
 v4:=Tryd.zeroValue4
 t5:=Tryd.underlying5
 a5:=Tryd.isAgg5
 z5:=Tryd.sizeOf5
 v5:=Tryd.zeroValue5
 t9:=Tryd.underlying9
 a9:=Tryd.isAgg9
 z9:=Tryd.sizeOf9
 v9:=Tryd.zeroValue9
 t46:=Tryd.underlying179
 a46:=Tryd.isAgg179
 z46:=Tryd.sizeOf179
 v46:=Tryd.zeroValue179
 t51:=Tryd.underlying210
 a51:=Tryd.isAgg210
 z51:=Tryd.sizeOf210
 v51:=Tryd.zeroValue210
 t146:=Tryd.underlying211
 a146:=Tryd.isAgg211
 z146:=Tryd.sizeOf211
 v146:=Tryd.zeroValue211
 g1:=by kernel_rfl}
end Go.Proofs
