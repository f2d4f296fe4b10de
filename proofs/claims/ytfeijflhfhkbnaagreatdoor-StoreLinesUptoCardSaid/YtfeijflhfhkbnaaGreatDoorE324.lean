import Derived.Test.YtfeijflhfhkbnaaGreatDoorE240
import Derived.Test.YtfeijflhfhkbnaaGreatDoorE307
set_option linter.all false
/- What is known of the package variables for the law StoreLines. -/
namespace Go.Proofs.YtfeijflhfhkbnaaGreatDoor
open Go Go.Am Go.ChangeShapes Go.WideShapes Go.ChangeAt Go.RowKit
def gQ (t1 t2:Nat) (mq:Int):Nat->Option (List IV):=λg=>if g=2 then some [.int .i64 mq] else gS t1 t2 g
def au5 {W:World} (h:laidMetH Tryz.prog Rows.storeLinesUptoRow.laid W) (hs:W.ShapedOpen Tryz.prog):∃t1 t2 mq,qn Tryz.prog (gQ t1 t2 mq) W:=by
 obtain⟨t1,t2,h0⟩:=aqS (show laidMetH Tryz.prog Rows.storeLinesUptoRow.laid W from h);obtain⟨m,h1⟩:=maxLen hs;refine⟨t1,t2,m,λg cs hg=> ?_⟩;unfold gQ at hg;split at hg
 ·rename_i e;subst e;cases hg;exact h1
 exact h0 g cs hg
end Go.Proofs.YtfeijflhfhkbnaaGreatDoor
