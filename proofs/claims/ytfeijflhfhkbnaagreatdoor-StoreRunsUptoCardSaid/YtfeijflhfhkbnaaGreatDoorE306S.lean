import Derived.Shelf.Strings.Search3
import Derived.Test.YtfeijflhfhkbnaaGreatDoorCards
import Derived.Test.YtfeijflhfhkbnaaGreatDoorChecked
import Derived.KernelRfl
set_option linter.all false
/- A laying of the shelf's at this seat. -/
namespace Go.Proofs
open Go.Shelf
def Tryz.G2:Go.Shelf.Ren:=⟨fun|143=>96|219=>82|217=>63|225=>124|224=>125|267=>126|266=>99|314=>165|n=>n,fun|9=>9|3=>3|4=>4|5=>5|46=>168|146=>198|51=>197|n=>n,fun|1=>2|n=>n⟩
def Tryz.Ld:Go.Proofs.Lays.n143 Tryz.prog Tryz.G2:=by constructor<;>intros<;>first|kernel_rfl|decide
end Go.Proofs
