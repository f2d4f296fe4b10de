import Derived.Test.YtfeijflhfhkbnaaGreatDoorE241S
import Derived.Test.YtfeijflhfhkbnaaGreatDoorKAc0S
import Derived.Test.YtfeijflhfhkbnaaGreatDoorKP2S
import Derived.Test.YtfeijflhfhkbnaaGreatDoorKT9S
set_option linter.all false
/- Functions of this seat, read: paths. -/
namespace Go.Proofs.YtfeijflhfhkbnaaGreatDoor
open Go Go.Am Go.ChangeShapes
variable {t1 t2:Nat}
def P' (N:Nat) (s:Bs) (c:UInt8) (H:Hp):lT ⟨Tryz.prog,(gS t1 t2),N⟩ 99 [.str s,.int .u8 (c.toNat:Int)] H (.int .i64 (Lib.indexByte s c)):=
 Mw (fn:=(Tryz.prog.funcs[99]?).getD default) ajQ ajQ ajQ ajQ ajQ s c H
def Yv (N:Nat) (s:Bs) (c:UInt8) (H:Hp):lT ⟨Tryz.prog,(gS t1 t2),N⟩ 137 [.str s,.int .u8 (c.toNat:Int)] H (.int .i64 ((s.count c:Nat):Int)):=
 Mx (fn:=(Tryz.prog.funcs[137]?).getD default) ajQ ajQ ajQ ajQ ajQ s c H
def F1 (s:Bs) (c:UInt8):aj Tryz.prog (gS t1 t2) 82 [.str s,.str [c]] (.int .i64 (Lib.indexByte s c)):=P2 ajQ (Aj P') s c
def P_ (s:Bs) (c:UInt8):aj Tryz.prog (gS t1 t2) 96 [.str s,.str [c]] (.int .i64 (Lib.indexByte s c)):=Yp s c (F1 s c)
def Yw (s:Bs) (c:UInt8) (h:s.length<=B):aj Tryz.prog (gS t1 t2) 49 [.str s,.str [c]] (.list ((bF c s).map IV.str)):=
 Yt s c (My s c h (Yq s c (λN H=>Yv N s c H)) (λr=>P_ r c))
def IG (s t:Bs):aj Tryz.prog (gS t1 t2) 48 [.str s,.str t] (.bq [.str (if t.isPrefixOf s then s.drop t.length else s),.bool (t.isPrefixOf s)]):=Al s t (vz s t (Ak s t))
def Aq (s t:Bs) (hs:s.length<=B) (ht:t.length<=B):aj Tryz.prog (gS t1 t2) 50 [.str s,.str t] (.bq [.str (if t.isSuffixOf s then s.take (s.length - t.length) else s),.bool (t.isSuffixOf s)]):=
 IC s t (DG s t hs ht (IB s t hs ht))
def ab4 (s:Bs) (c:UInt8) (h:s.length<=B):aj Tryz.prog (gS t1 t2) 18 [.str s,.str [c]] (.bq [.str (a6 c s).1,.str (a6 c s).2.1,.bool (a6 c s).2.2]):=aeg s c (Yr s c h (F1 s c))
def Qa (s:Bs) (h:s.length<=B):aj Tryz.prog (gS t1 t2) 88 [.str s] (.bool (named s)):=wC s h
def TL (d:Doc) (h:mr d<=B) (l:List Step) (hl:l.length<=B) (hn:∀x∈l,x.name.length<=B):aj Tryz.prog (gS t1 t2) 70 [Doc.av d,.list (l.map Step.iv)] (.bq [.list ((dr d l).1.map aC),.int .i64 (dr d l).2]):=
 TJ d h l hl (z_ d h) (Cz l hl (λx hx=>Qa _ (hn x hx))) (λs hs ks h1 h2=>TI d h s ks h1 h2 (λx _=>ab1 x s))
end Go.Proofs.YtfeijflhfhkbnaaGreatDoor
