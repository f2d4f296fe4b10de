import Derived.Test.YtfeijflhfhkbnaaGreatDoorE240S
import Derived.Test.YtfeijflhfhkbnaaGreatDoorKAc0S
import Derived.Test.YtfeijflhfhkbnaaGreatDoorKT21S
import Derived.Test.YtfeijflhfhkbnaaGreatDoorKT9S
set_option linter.all false
/- Functions of this seat, read: trees, documents. -/
namespace Go.Proofs.YtfeijflhfhkbnaaGreatDoor
open Go Go.Am Go.ChangeShapes
variable {t1 t2:Nat}
section
variable {l:List Tree} {x y:Tree}
def Ix (a b:List Attr) (h:a.length<=B):aj Tryz.prog (gS t1 t2) 43 [.list (aQ a),.list (aQ b)] (.bool (Fb a b)):=H8 a b h
def VI (x:Tree) (h:x.wt<=B):aj Tryz.prog (gS t1 t2) 92 [x.av] (.bq [.int .i64 x.dep,.int .i64 x.cC]):=Vx x h
def Ym (l:List Tree) (h:bH l<=B):aj Tryz.prog (gS t1 t2) 93 [.list (aM l)] (.bool (cD none l)):=Ic l h
def Cv (x:Tree) (h:x.wt<=B):aj Tryz.prog (gS t1 t2) 67 [x.av] (.bool x.cA):=Vv x (VI x h) (Vy x h)
def vv (l:List Tree) (h:bH l<=B):aj Tryz.prog (gS t1 t2) 57 [.list (aM l)] (.bool (content l)):=
 Fx l h (λx hx=>VI x anq) (Ym l h)
def abZ (s:Bs) (h:s.length<=B):aj Tryz.prog (gS t1 t2) 138 [.str s,.str cV] (.str (eM (eS cV) (gf (eS cV) s))):=
 VE s cV h ajN (qP cV ajN ajN) (tG _ s h (kS _))
  (rS _ _ (by have:=Kp (eS cV) s;omega) (kS _))
def rY (s:Bs) (h:s.length<=B):aj Tryz.prog (gS t1 t2) 97 [.str s] (.bool (named s)):=Tq s (abZ s h)
def vw (s:Bs) (h:s.length<=B):aj Tryz.prog (gS t1 t2) 62 [.str s] (.bool (plain s)):=PA s h (FD)
def KA {l:List Attr} {a:Attr} (h:a∈l):a.name.length<=fm l/\a.val.length<=fm l:=by
 induction l with
 |nil=>cases h
 |cons b r ih=>
 simp only[fm];rcases aga.1 h with rfl|h
 ·simp only[Attr.wt];omega
 have:=ih h;omega
def PS (l:List Attr) (h:fm l<=B):aj Tryz.prog (gS t1 t2) 146 [.list (aQ l)] (.bool (cR l)):=
 PC l (by have:=fS l;omega) (λa ha=>rY _ (by have:=KA ha;omega)) (λa ha=>vw _ (by have:=KA ha;omega))
def PT (x:Tree):x.s.length<=x.wt:=alI
def PU:∀l:List Tree,bH l<=B->aj Tryz.prog (gS t1 t2) 105 [.list (aM l)] (.bool (cD none l)):=
 Fl (M:=λl=>bH l<=B->aj Tryz.prog (gS t1 t2) 105 [.list (aM l)] (.bool (cD none l))) λl ih h=>
  Yf l h (λx hx=>vw _ anr) (λx hx=>rY _ anr)
   (λx hx=>PS _ (by have:=kP hx;have:=oS x;omega)) (λx hx=>ih x hx alZ)
def KB (x:Tree) (h:x.wt<=B):aj Tryz.prog (gS t1 t2) 104 [x.av] (.bq [.int .i64 x.dep,.int .i64 x.cC]):=Tx x h
def DE (x:Tree) (h:x.wt<=B):aj Tryz.prog (gS t1 t2) 75 [x.av] (.bool x.cA):=Ty x (KB x h) (PU _ (by simp only[bH];omega))
def z8 (l:List Tree) (h:bH l<=B):aj Tryz.prog (gS t1 t2) 65 [.list (aM l)] (.bool (content l)):=
 Io l h (λx hx=>KB x anq) (PU l h)
end
def Iy (xs:List Attr) (h:xs.length<=B):aj Tryz.prog (gS t1 t2) 45 [.list (aQ xs)] (.list (aQ xs)):=Ka xs h
def Cw (x:Tree) (h:x.wt<=B):aj Tryz.prog (gS t1 t2) 30 [x.av] (.bq [Doc.av (c_ x).1,.int .i64 (c_ x).2]):=
 abO x h (Cv x h) (ad4 Iy x [] (-1) aj6)
def dAt (d:Doc) (h:mr d<=B) (n:Nat) (q:Int) (x:Tree) (hL:jh d n q x):aj Tryz.prog (gS t1 t2) 73 [Doc.av d,.int .i64 n] x.av:=wAt Iy d h n q x hL
def VJ {d:Doc} {x:Tree} (h:d=ay x):jh d 0 (-1) x:=by subst h;exact Ii x
def z_ (d:Doc) (h:mr d<=B):aj Tryz.prog (gS t1 t2) 72 [Doc.av d] (.bool (bQ d)):=
 Po d h (abP d (by have:=kc d;omega) (λx hx=>by have:=vh hx;simp only[Node.wt] at this;omega) 8 0 (-1) 0 ajN ajN ajN) (λx hx=>dAt d h 0 (-1) x (VJ hx)) (λx hx=>Cv x (by have:=(VJ hx).wt;omega))
def PV (d:Doc) (h:mr d<=B) (n:Int):aj Tryz.prog (gS t1 t2) 34 [Doc.av d,.int .i64 n] (.bq [(cY d n).1.av,.int .i64 (cY d n).2]):=Pp d h n (z_ d h) (dAt d h)
def Aa (x:Tree) (h:x.wt<=B):aj Tryz.prog (gS t1 t2) 38 [x.av] (.bq [Doc.av (c_ x).1,.int .i64 (c_ x).2]):=PQ x h (DE x h)
def yT {d:List Am.Node} {x:Am.Node} (h:x∈d):fm x.attrs<=mr d/\x.kids.length<=mr d/\x.s.length<=mr d:=by
 have:=vh h;simp only[Am.Node.wt] at this;omega
def FO (d e:Doc) (h:mr d<=B):aj Tryz.prog (gS t1 t2) 15 [Doc.av d,Doc.av e] (.bool (Fb d e)):=
 PG d e h (λx hx y _=>Ix _ _ (by have:=(yT hx).1;have:=fS x.attrs;omega)) (λx hx y _=>Dz _ _ (by have:=(yT hx).2;omega))
end Go.Proofs.YtfeijflhfhkbnaaGreatDoor
