import Derived.Test.YtfeijflhfhkbnaaGreatDoorE324S
import Derived.Test.YtfeijflhfhkbnaaGreatDoorE249S
import Derived.Test.YtfeijflhfhkbnaaGreatDoorAm59S
import Derived.Test.YtfeijflhfhkbnaaGreatDoorE323S
import Derived.Test.YtfeijflhfhkbnaaGreatDoorE306S
import Derived.Test.YtfeijflhfhkbnaaGreatDoorKT150S
import Derived.Test.YtfeijflhfhkbnaaGreatDoorKT102S
import Derived.Test.YtfeijflhfhkbnaaGreatDoorKAc0S
import Derived.Test.YtfeijflhfhkbnaaGreatDoorKAm53S
import Derived.Test.YtfeijflhfhkbnaaGreatDoorE230S
import Derived.Test.YtfeijflhfhkbnaaGreatDoorT114S
set_option linter.all false
/- The law StoreLines in this seat. -/
namespace Go.Proofs.YtfeijflhfhkbnaaGreatDoor
open Go Go.Am Go.ChangeShapes
set_option maxRecDepth 100000
variable {t1 t2:Nat} {mq:Int}
def yd {f:Nat} {args:List AV} {r:AV} (h:aj Tryz.prog (gS t1 t2) f args r):aj Tryz.prog (gQ t1 t2 mq) f args r:=
 h.up λg cs e=>by
  unfold gQ;rw[af8 (by rintro rfl;cases e),e]
def ZA (c:UInt8) (s:Bs):aj Tryz.prog (gQ t1 t2 mq) 27 [.str s,.int .u8 (c.toNat:Int)] (.int .i64 (Lib.indexByte s c)):=ae5 s c (yd (Aj P' s c))
def Jt (v:Bool) (s:Bs) (h:s.length<=4096):aj Tryz.prog (gQ t1 t2 mq) 61 [.str s,.bool v] (gO v s):=
 Zj v s h (λs h=>ZA 59 s) (λt ht=>RA Tryz.Ld (m:=mq) rfl yy t ajN) (λc=>yd (FD c))
def UW (s:Bs) (h:s.length<=4096):aj Tryz.prog (gQ t1 t2 mq) 100 [.str s] (lB s):=Us s h λc s h=>ZA c s
def RT (t:Bs) (s:Bs) (h:s.length<=4096):aj Tryz.prog (gQ t1 t2 mq) 102 [.str s,.str t] (.str (Lib.trimSuffix s t)):=Zp Tryz.Up s t h
def ZB (M:Bs) (h:M.length<=4096):aj Tryz.prog (gQ t1 t2 mq) 103 [.str M] (rq M):=
 Zl M h (λs h=>Zo Tryz.Uo s [60]) (RT [62])
  (λs h=>yd (Aq s [47] akh ajN))
  (λs h=>by
   have:=yd (mq:=mq) (Qr (G:=gS t1 t2) s cV akh ajN (qP cV ajN ajN) (rS _ _ akh (kS _)));rw[Nk] at this;exact this)
  (λs h=>yd (VX s akh))
  (λs h=>⟨_,yd (VE s [32,10] akh ajN (qP [32,10] ajN ajN) (tG _ s akh (kS _))
   (rS _ _ (by have:=Kp (eS [32,10]) s;unfold B;omega) (kS _))),Nl s⟩)
  (ae4 Tryz.Un (m:=mq) rfl) (Jt true) (λs h=>yd (rY s akh))
def Ln (s:Bs) (h:s.length<=4096):aj Tryz.prog (gQ t1 t2 mq) 64 [.str s] (il s):=
 Uu s h (UW s h) (Jt false) (λs h=>yd (yb s [60,47] (t_ s [60,47]))) (RT [62])
  (λs h=>by
   have:=yd (mq:=mq) (Uw (G:=gS t1 t2) s [32,10] akh ajN (qP [32,10] ajN ajN) (tG _ s akh (kS _)));rw[Rz] at this;exact this)
  ZB
def BT (s:Bs) (h:3*s.length<=B):aj Tryz.prog (gQ t1 t2 mq) 28 [.str s] (.bq [.list (aM (eC s).1),.int .i64 (eC s).2]):=
 BS s ajK Ln λt ht=>yd (z8 t ajK)
def Ju (s:Bs) (h:s.length<=B):aj Tryz.prog (gQ t1 t2 mq) 26 [.str s] (.bq [.str (ep s).1,.int .i64 (ep s).2]):=
 Jk s h (Jt false) λt ht=>yd (vw t akh)
def Jv (s:Bs) (h:s.length<=B):aj Tryz.prog (gS t1 t2) 25 [.str s] (kf s):=by
 have gV:B=1073741824:=rfl;have:=Jn (G:=gS t1 t2) s h ajQ (Zy) (λl hl hn=>Lh l ajK λx hx=>rY _ (by have:=hn x hx;omega));rw[Nz] at this;exact this
def UX (s:Bs) (h:3*s.length<=B):aj Tryz.prog (gQ t1 t2 mq) 7 [.str s] (kA s):=
 UU s ajK ajQ (UT) (yd (UQ s 32 ajK λr=>P_ r 32)) (λt ht=>yd (Jv t ajK)) (λt ht=>ZA 61 t)
  (λt ht=>Ju t ajK) (λt ht=>BT t ajK)
end Go.Proofs.YtfeijflhfhkbnaaGreatDoor
