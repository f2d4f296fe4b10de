import Derived.Shelf.Strconv.AtoiAll
import Derived.Shelf.Strconv.Itoa3
import Derived.Test.YtfeijflhfhkbnaaGreatDoorCards
import Derived.Test.YtfeijflhfhkbnaaGreatDoorChecked
import Derived.KernelRfl
set_option linter.all false
/- The shelf's layings at this seat. -/
namespace Go.Proofs
open Go.Shelf
def Tryz.D9:Go.Shelf.Ren:=⟨fun|172=>51|244=>85|245=>86|247=>129|279=>130|280=>131|281=>132|282=>133|287=>166|316=>167|171=>52|205=>168|321=>194|322=>195|243=>87|246=>134|283=>169|284=>170|285=>171|286=>172|129=>197|317=>196|318=>198|319=>199|320=>200|337=>213|338=>214|n=>n,fun|9=>9|3=>3|75=>102|76=>103|4=>4|5=>5|167=>169|37=>124|0=>0|85=>170|2=>2|168=>172|53=>200|175=>201|46=>168|210=>205|127=>228|145=>231|143=>229|21=>21|171=>207|173=>210|212=>233|51=>197|20=>20|213=>234|232=>252|233=>253|80=>150|n=>n,fun|15=>3|16=>4|17=>5|18=>8|19=>9|n=>n⟩
def Tryz.Ri:Go.Proofs.LaysC.n172 Tryz.prog Tryz.D9:=by repeat' first|kernel_rfl|intro _|decide|constructor
def Tryz.D':Go.Shelf.Ren:=⟨fun|171=>52|243=>87|246=>134|283=>169|284=>170|285=>171|286=>172|129=>197|317=>196|318=>198|319=>199|320=>200|337=>213|338=>214|n=>n,fun|3=>3|9=>9|2=>2|4=>4|171=>207|0=>0|53=>200|37=>124|5=>5|173=>210|212=>233|51=>197|20=>20|213=>234|46=>168|232=>252|233=>253|n=>n,fun|17=>5|18=>8|19=>9|n=>n⟩
def Tryz.Rj:Go.Proofs.LaysM.n171 Tryz.prog Tryz.D':=by repeat' first|kernel_rfl|intro _|decide|constructor
end Go.Proofs
