import Derived.Shelf.Strings.Replace
import Derived.Test.YtfeijflhfhkbnaaGreatDoorCards
import Derived.Test.YtfeijflhfhkbnaaGreatDoorChecked
import Derived.KernelRfl
set_option linter.all false
/- The shelf's laying of strings.ReplaceAll. -/
namespace Go.Proofs
open Go.Shelf
def Tryz.ye:Go.Shelf.Ren:=⟨fun|155=>161|154=>192|138=>95|165=>210|143=>96|166=>211|197=>136|169=>212|195=>135|218=>137|240=>219|241=>220|219=>82|260=>173|276=>224|277=>225|217=>63|225=>124|224=>125|267=>126|266=>99|314=>165|n=>n,fun|72=>248|76=>103|105=>177|70=>246|37=>124|75=>102|127=>228|164=>256|46=>168|119=>237|139=>240|138=>239|146=>198|51=>197|80=>150|n=>n,fun|1=>2|3=>6|4=>7|n=>n⟩
def Tryz.UY:Go.Proofs.Lays.n155 Tryz.prog Tryz.ye:=by constructor<;>intros<;>first|kernel_rfl|decide
def Tryz.vU:Builder.Extra Tryz.prog Tryz.ye:={sizeBuilder:=by kernel_rfl,liesBuilder:=by kernel_rfl,t5:=Tryz.underlying5,a5:=Tryz.isAgg5,z5:=Tryz.sizeOf5,v5:=Tryz.zeroValue5,infoByte:=by kernel_rfl,cellsByte:=by kernel_rfl,sizeByte:=by kernel_rfl,neB5:=by decide}
end Go.Proofs
