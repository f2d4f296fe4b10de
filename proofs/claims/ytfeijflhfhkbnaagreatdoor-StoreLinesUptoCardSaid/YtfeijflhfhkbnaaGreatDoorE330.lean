import Derived.Test.YtfeijflhfhkbnaaGreatDoorE324
import Derived.Test.YtfeijflhfhkbnaaGreatDoorE249
import Derived.Test.YtfeijflhfhkbnaaGreatDoorAm59
import Derived.Test.YtfeijflhfhkbnaaGreatDoorE323
import Derived.Test.YtfeijflhfhkbnaaGreatDoorE306
import Derived.Test.YtfeijflhfhkbnaaGreatDoorKT150
import Derived.Test.YtfeijflhfhkbnaaGreatDoorKT131
import Derived.Test.YtfeijflhfhkbnaaGreatDoorE230
set_option linter.all false
/- The law StoreLines in this seat. -/
namespace Go.Proofs.YtfeijflhfhkbnaaGreatDoor
open Go Go.Am Go.ChangeShapes
set_option maxRecDepth 100000
variable {t1 t2:Nat} {mq:Int}
def atE:aw Tryz.prog (gQ t1 t2 mq) 3=some (37,[(none,2)],(asQ 6 7 8 9 10).bare):=Yn
def auB:aw Tryz.prog (gQ t1 t2 mq) 7=some (145,[((some (some 5)),2),(none,3),(none,4)],(as1 23 24 25 26 27 28).bare):=Yn
def auC:aw Tryz.prog (gQ t1 t2 mq) 23=some (7,[((some (some 5)),2),(none,3),(none,4)],asW.bare):=Yn
def auD:aw Tryz.prog (gS t1 t2) 24=some (11,[(none,6)],(as8 58).bare):=Yn
def atN:aw Tryz.prog (gS t1 t2) 25=some (173,[(none,2),(none,3)],(asU 59 60).bare):=Yn
def avb:aw Tryz.prog (gS t1 t2) 59=some (2,[(none,0),(none,1)],asP.bare):=Yn
def auE:aw Tryz.prog (gS t1 t2) 60=some (44,[(none,2)],(asZ 97).bare):=Yn
def Rn:aw Tryz.prog (gQ t1 t2 mq) 26=some (22,[(none,2),(none,3)],(Nz 61 62).bare):=Yn
def PZ:aw Tryz.prog (gQ t1 t2 mq) 28=some (22,[(none,2),(none,3)],(Ns 64 65).bare):=Yn
def Rl:aw Tryz.prog (gQ t1 t2 mq) 61=some (66,[(none,4),(none,5)],(N1 27 96 98).bare):=Yn
def SY:aw Tryz.prog (gQ t1 t2 mq) 100=some (31,[(none,2),(none,3)],(NS 27).bare):=Yn
def Tx:aw Tryz.prog (gQ t1 t2 mq) 103=some (137,[((some (some 4)),2),(none,3),(none,4)],(N2 144 102 50 145 138 18 61 97).bare):=Yn
def Rw:aw Tryz.prog (gQ t1 t2 mq) 64=some (153,[(none,2),(none,3)],(NU 100 61 91 102 101 103).bare):=Yn
def auF:aw Tryz.prog (gS t1 t2) 101=some (37,[(none,4)],(NV 139 140 141 142).bare):=Yn
def TY:aw Tryz.prog (gQ t1 t2 mq) 27=some (8,[(none,4)],(asY 63).bare):=Yn
def auG:aw Tryz.prog (gS t1 t2) 8=some (38,[(none,4)],(ajp 29).bare):=Yn
def atO:aw Tryz.prog (gS t1 t2) 9=some (26,[(none,4)],asT.bare):=Yn
def upQ {f:Nat} {args:List AV} {r:AV} (h:au Tryz.prog (gS t1 t2) f args r):au Tryz.prog (gQ t1 t2 mq) f args r:=
 h.up λg cs e=>by
  unfold gQ;rw[Ev (by rintro rfl;cases e),e]
def au3 (c:UInt8) (s:Bs):au Tryz.prog (gQ t1 t2 mq) 27 [.str s,.int .u8 (c.toNat:Int)] (.int .i64 (Lib.indexByte s c)):=Un TY s c (upQ (Q0 anO aqp s c))
def atP (v:Bool) (s:Bs) (h:s.length<=4096):au Tryz.prog (gQ t1 t2 mq) 61 [.str s,.bool v] (Nx v s):=
 Tc Rl v s h (λs h=>au3 59 s) (λt ht=>To Tryz.SC (m:=mq) rfl Pq t M3) (λc=>upQ (yf yo c))
def auH (s:Bs) (h:s.length<=4096):au Tryz.prog (gQ t1 t2 mq) 100 [.str s] (Of s):=SI SY s h λc s h=>au3 c s
def aug (t:Bs) (s:Bs) (h:s.length<=4096):au Tryz.prog (gQ t1 t2 mq) 102 [.str s,.str t] (.str (Lib.trimSuffix s t)):=Tr Tryz.SF s t h
def au4 (M:Bs) (h:M.length<=4096):au Tryz.prog (gQ t1 t2 mq) 103 [.str M] (ON M):=
 Te Tx M h (λs h=>Tq Tryz.SE s [60]) (aug [62])
  (λs h=>upQ (aot s [47] (by unfold B;omega) M3))
  (λs h=>by
   have:=upQ (mq:=mq) (Eh (G:=gS t1 t2) ato s cY (by unfold B;omega) M3 (rB Pg cY M3 M3) (po BE _ _ (by unfold B;omega) (mB G7 _)));rw[RY] at this;exact this)
  (λs h=>upQ (G8 s (by unfold B;omega)))
  (λs h=>⟨_,upQ (GB GF s [32,10] (by unfold B;omega) M3 (rB yn [32,10] M3 M3) (ate D_ _ s (by unfold B;omega) (mB GG _))
   (po D' _ _ (by have:=A6 (er [32,10]) s;unfold B;omega) (mB GG _))),RZ s⟩)
  (Um Tryz.SD (m:=mq) rfl) (atP true) (λs h=>upQ (ajV s (by unfold B;omega)))
def auI (s:Bs) (h:s.length<=4096):au Tryz.prog (gQ t1 t2 mq) 64 [.str s] (NH s):=
 SO Rw s h (auH s h) (atP false) (λs h=>upQ (rZ sa s [60,47] (ot s [60,47]))) (aug [62])
  (λs h=>by
   have:=upQ (mq:=mq) (SR (G:=gS t1 t2) auF s [32,10] (by unfold B;omega) M3 (rB Pg [32,10] M3 M3) (ate D_ _ s (by unfold B;omega) (mB GG _)));rw[Sq] at this;exact this)
  au4
def atn (s:Bs) (h:3*s.length<=B):au Tryz.prog (gQ t1 t2 mq) 28 [.str s] (.gf [.list (dq (NQ s).1),.int .i64 (NQ s).2]):=
 PV PZ s sf auI λt ht=>upQ (QW t sf)
def atQ (s:Bs) (h:s.length<=B):au Tryz.prog (gQ t1 t2 mq) 26 [.str s] (.gf [.str (OF s).1,.int .i64 (OF s).2]):=
 Re Rn s h (atP false) λt ht=>upQ (rI t (by unfold B;omega))
def atS (s:Bs) (h:s.length<=B):au Tryz.prog (gS t1 t2) 25 [.str s] (amr s):=by
 have zo:B=1073741824:=rfl;have:=atJ atN (G:=gS t1 t2) s h Yn (auY avb) (λl hl hn=>aul auE l sf λx hx=>ajV _ (by have:=hn x hx;omega));rw[at5] at this;exact this
def auJ (s:Bs) (h:3*s.length<=B):au Tryz.prog (gQ t1 t2 mq) 7 [.str s] (amF s):=
 auy auB s sf Yn (auw auC) (upQ (aut auD ao4 s 32 sf λr=>aqr r 32)) (λt ht=>upQ (atS t sf)) (λt ht=>au3 61 t)
  (λt ht=>atQ t sf) (λt ht=>atn t sf)
def auh:aw Tryz.prog (gS t1 t2) 10=some (34,[(none,0)],(as2 11 13 16).bare):=Yn
def auK:au Tryz.prog (gS t1 t2) 112 [Doc.av amp,.list ([opA].map Am.Op.iv)] (.int .i64 (VU amp [opA])):=by
 have hd:=aeB (t1:=t1) (t2:=t2) amp M3;refine ag8 afr amp [opA] M3 hd (λo ho=> ?_) λa i h=> ?_
 ·have:o=opA:=by simpa using ho
  subst this;exact abN af' amp opA hd λx k1 k10=>ag7 afs x opA k1 k10 (Y6 _ M3) (qk aco _ M3) (qj acn _ M3)
 match i,h with
 |0,_=>exact acw ab3 [] _ (abP adT [] (zd _) _ Yn λb h=>by cases h)
def avc:aau Tryz.prog (gS t1 t2) 156:=λb hn p pl hp x hx BS l hb UX=>
 afU adU b hn p pl hp x hx BS l hb UX (λt b hn p hb=>ahT ahf (λxs h=>acI adW xs h) _ t (PW _) b hn p hb) (ah_ agb aiW)
def auL:au Tryz.prog (gS t1 t2) 71 [Doc.av amp,.list ([opA].map Am.Op.iv)] (.gf [Doc.av (lW tL),.int .i64 0]):=
 auA afq aih aga auK (afR adW) (afS adX) (ag0 aft) avc (afF afM [tA] M3) (acU tL M3)
def aui (n:Int):cR Tryz.prog (gS t1 t2) 33 [.ptr (.par 0) 2 0 0,.list ([lnA].map IV.str)] (stC amp n) (λx cs=>x=(alh amp [lnA]).2.av/\cs=stC (alh amp [lnA]).1 n):=by
 have hl:∀s∈[lnA],s=lnA:=λs h=>by simpa using h
 have zo:B=1073741824:=rfl;refine atM apX amp anU n [lnA] M3 (λs hs=> ?_) (λs hs=>apW s (by rw[hl s hs];decide)) (λs hs=>apQ amp M3 _ (by have:=(ank s).1;omega) (λx hx=>by have:=(ank s).2 x hx;omega)) λl _ hc=> ?_
 ·rw[hl s hs];exact aqG lnA M3
 rw[auS] at hc;cases hc;have h:=auL (t1:=t1) (t2:=t2);rw[aue];exact h
def avi:ao6 Tryz.prog (gS t1 t2) 11 [] 2 [.list (amp.map Am.Node.iv),.int .i64 0]:=aqw arB (acU amQ M3)
def auM:au Tryz.prog (gS t1 t2) 10 [] (.bool true):=by
 have zo:B=1073741824:=rfl;refine auf auh avi (au0 sDo amp [lnA] M3 (aui 1))
  (au1 sDo (lW tL) tL txL (aed (t:=tL) M3 (Sub.self 0 (-1) tL)) (by rw[oq M3 M3];rfl) (am7 (lW tL) M3 0) (za _ M3))
  (aqv arb (lW tL) M3 2 (λx hx=>aeA x.attrs (by have:=acV hx;have:=iz x.attrs;have:zn (lW tL)<=B:=M3;omega)) (λx hx=>aoE adX x.kids (by have:=acV hx;have:zn (lW tL)<=B:=M3;omega)))
def atF (s:Bs) (h:s.length<=2^20):au Tryz.prog (gQ t1 t2 mq) 3 [.str s] (.bool true):=by
 have zo:B=1073741824:=rfl;refine atD atE s (upQ (aqG s sf)) (auJ s sf) (upQ ?_) (upQ ?_) (upQ auM)
 ·refine akw auG _ ?_;have hS:=PE (t1:=t1) (t2:=t2) (ak8 s).1.content (ak8 s).1.content (by have:=(apW s sf).1;omega);rw[Oh] at hS;exact hS
 exact atI atO _ (by have:=(ank s).1;omega)
end Go.Proofs.YtfeijflhfhkbnaaGreatDoor
