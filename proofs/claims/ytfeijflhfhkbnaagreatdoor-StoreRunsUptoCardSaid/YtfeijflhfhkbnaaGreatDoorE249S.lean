import Derived.Test.YtfeijflhfhkbnaaGreatDoorE244S
import Derived.Test.YtfeijflhfhkbnaaGreatDoorE245S
import Derived.Test.YtfeijflhfhkbnaaGreatDoorE247S
import Derived.Test.YtfeijflhfhkbnaaGreatDoorE225S
import Derived.Test.YtfeijflhfhkbnaaGreatDoorKAm53S
set_option linter.all false
/- Functions of this seat, read: the store, play. -/
namespace Go.Proofs.YtfeijflhfhkbnaaGreatDoor
open Go Go.Am Go.ChangeShapes
variable {t1 t2:Nat}
def ac4:VM Tryz.prog (gS t1 t2) 51:=ac0 Tryz.Ri (t1:=t1) (t2:=t2) rfl rfl
def ac5:P8 Tryz.prog (gS t1 t2) 52:=ac1 Tryz.Rj abS rfl
def Nd (l:List Step) (hl:l.length<=B) (hn:∀x∈l,x.name.length<=B):aj Tryz.prog (gS t1 t2) 53 [.list (l.map Step.iv)] (.bool (bm l)):=Cz l hl (λx hx=>Qa _ (hn x hx))
def Jb (s:Bs) (hs:s.length<=2^24):aj Tryz.prog (gS t1 t2) 20 [.str s] (kf s):=by
 have gV:B=1073741824:=rfl;have hw:∀w∈bF 47 (s.drop 1),w.length<=2^24:=λw h=>by
  have:=wT 47 (s.drop 1) w h;simp only[ahe] at this;omega
 exact IF s hs (IG s [47]) (Yw (s.drop 1) 47 (by simp only[ahe];omega)) (λw h=>ab4 w 91 (by have:=hw w h;omega))
  (λw h=>Aq _ [93] (by have:=hw w h;have:=(gY 91 w).2;omega) ajY)
  (λw h=>ac4 _ (by have:=hw w h;have:=(gY 91 w).2;have:=P7 [93] (a6 91 w).2.1;omega)) ac5
  (λl hl hn=>Nd l hl λx hx=>by have:=hn x hx;omega)
def Um (s:Bs) (hs:s.length<=B):aj Tryz.prog (gS t1 t2) 21 [.str s] (.bq [.str (ep s).1,.int .i64 (ep s).2]):=
 Uj s hs (λs h=>Re false s false h) (λt h=>wB t (by have:B=1073741824:=rfl;omega))
def Zg (s:Bs) (hs:s.length<=2^22):aj Tryz.prog (gS t1 t2) 6 [.str s] (kA s):=by
 have gV:B=1073741824:=rfl;exact ac2 s ajK (λt c h=>ab4 t c ajK) (λw=>Uk kj ajN w) (λt h=>Jb t ajK) (λt h=>Um t ajK) (λt h=>Y_ t ajK)
end Go.Proofs.YtfeijflhfhkbnaaGreatDoor
