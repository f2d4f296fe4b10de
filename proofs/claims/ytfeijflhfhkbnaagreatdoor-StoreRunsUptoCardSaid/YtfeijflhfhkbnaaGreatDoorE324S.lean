import Derived.Test.YtfeijflhfhkbnaaGreatDoorE240S
import Derived.Test.YtfeijflhfhkbnaaGreatDoorE307S
set_option linter.all false
/- What is known of the package variables for the law StoreLines. -/
namespace Go.Proofs.YtfeijflhfhkbnaaGreatDoor
open Go Go.Am Go.ChangeShapes Go.WideShapes Go.ChangeAt Go.RowKit
def gQ (t1 t2:Nat) (mq:Int):Nat->Option (List IV):=λg=>if g=2 then some [.int .i64 mq] else gS t1 t2 g
instance (t1 t2:Nat) (mq:Int):KN Tryz.prog (gQ t1 t2 mq):=⟨rfl,λg h=>by
 unfold gQ gS gD;rw[af8 (c:=g=2) ajK,af8 (c:=g=3) ajK,af8 (c:=g=4) ajK,af8 (c:=g=5) ajK]⟩
def V1 {W:World} (h:laidMetH Tryz.prog Rows.storeLinesUptoRow.laid W) (hs:W.ShapedOpen Tryz.prog):∃t1 t2 mq,zR Tryz.prog (gQ t1 t2 mq) W:=by
 obtain⟨t1,t2,h0⟩:=abU (show laidMetH Tryz.prog Rows.storeLinesUptoRow.laid W from h);obtain⟨m,h1⟩:=maxLen hs;refine⟨t1,t2,m,λg cs hg=> ?_⟩;unfold gQ at hg;split at hg
 ·rename_i e;subst e;cases hg;exact h1
 exact h0 g cs hg
end Go.Proofs.YtfeijflhfhkbnaaGreatDoor
