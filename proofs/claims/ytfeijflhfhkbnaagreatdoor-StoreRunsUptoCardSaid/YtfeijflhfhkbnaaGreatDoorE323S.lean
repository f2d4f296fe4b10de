import Derived.Shelf.Strings.Cut
import Derived.Shelf.Strings.Prefix
import Derived.Shelf.Strings.Search3
import Derived.Test.YtfeijflhfhkbnaaGreatDoorCards
import Derived.Test.YtfeijflhfhkbnaaGreatDoorChecked
import Derived.KernelRfl
set_option linter.all false
/- The shelf's layings at this seat, az the reference's marks ask for them. -/
namespace Go.Proofs
open Go.Shelf
def Tryz.GZ:Go.Shelf.Ren:=⟨fun|145=>18|220=>47|219=>82|217=>63|225=>124|224=>125|267=>126|266=>99|314=>165|n=>n,fun|9=>9|4=>4|59=>55|3=>3|5=>5|46=>168|146=>198|51=>197|n=>n,fun|1=>2|n=>n⟩
def Tryz.Un:Go.Proofs.Lays.n145 Tryz.prog Tryz.GZ:=by constructor<;>intros<;>first|kernel_rfl|decide
def Tryz.G0:Go.Shelf.Ren:=⟨fun|101=>144|208=>180|206=>127|n=>n,fun|9=>9|4=>4|3=>3|n=>n,fun|n=>n⟩
def Tryz.Uo:Go.Proofs.Lays.n101 Tryz.prog Tryz.G0:=by constructor<;>intros<;>first|kernel_rfl|decide
def Tryz.G1:Go.Shelf.Ren:=⟨fun|102=>102|209=>143|207=>128|n=>n,fun|9=>9|4=>4|3=>3|n=>n,fun|n=>n⟩
def Tryz.Up:Go.Proofs.Lays.n102 Tryz.prog Tryz.G1:=by constructor<;>intros<;>first|kernel_rfl|decide
end Go.Proofs
