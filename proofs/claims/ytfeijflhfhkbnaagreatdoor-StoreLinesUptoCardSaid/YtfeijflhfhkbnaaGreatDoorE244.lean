import Derived.Test.YtfeijflhfhkbnaaGreatDoorE241
import Derived.Test.YtfeijflhfhkbnaaGreatDoorKP2
import Derived.Test.YtfeijflhfhkbnaaGreatDoorKAm34
set_option linter.all false
/- Functions of this seat, read: paths. -/
namespace Go.Proofs.YtfeijflhfhkbnaaGreatDoor
open Go Go.Am Go.ChangeShapes
variable {t1 t2:Nat}
def anO:aw Tryz.prog (gS t1 t2) 63=some (8,[(none,4)],(Nd 99).bare):=Yn
def apo:aw Tryz.prog (gS t1 t2) 82=some (143,[(none,4)],(alj 63 124 125 126).bare):=Yn
def afl:aw Tryz.prog (gS t1 t2) 96=some (8,[(none,4)],(al2 82).bare):=Yn
def aql:aw Tryz.prog (gS t1 t2) 95=some (34,[(none,4)],(al3 135 137 96).bare):=Yn
def aoo:aw Tryz.prog (gS t1 t2) 127=some (18,[(none,4)],cy.bare):=Yn
def anP:aw Tryz.prog (gS t1 t2) 83=some (15,[(none,4),(none,5)],(cz 127).bare):=Yn
def aop:aw Tryz.prog (gS t1 t2) 48=some (11,[(none,4),(none,5)],(eT 83).bare):=Yn
def aoq:aw Tryz.prog (gS t1 t2) 128=some (21,[(none,4)],Nf.bare):=Yn
def anQ:aw Tryz.prog (gS t1 t2) 84=some (18,[(none,4),(none,5)],(Ng 128).bare):=Yn
def aor:aw Tryz.prog (gS t1 t2) 50=some (11,[(none,4),(none,5)],(NR 84).bare):=Yn
def aqm:aw Tryz.prog (gS t1 t2) 47=some (23,[(none,4),(none,5),(none,6)],(als 82).bare):=Yn
def apq:aw Tryz.prog (gS t1 t2) 18=some (13,[(none,4),(none,5),(none,6)],(amg 47).bare):=Yn
def ao4:aw Tryz.prog (gS t1 t2) 58=some (66,[(none,8)],(alH 94 95 96).bare):=Yn
def aqn:aw Tryz.prog (gS t1 t2) 49=some (8,[(none,4)],(al4 58).bare):=Yn
def aqZ:aw Tryz.prog (gS t1 t2) 151=some (29,[(none,4)],amu.bare):=Yn
def apO:aw Tryz.prog (gS t1 t2) 111=some (42,[(none,6)],(ame 151).bare):=Yn
def anz:aw Tryz.prog (gS t1 t2) 53=some (44,[(none,2)],(amv 88).bare):=Yn
def apP:aw Tryz.prog (gS t1 t2) 70=some (54,[(none,4),(none,5)],(amf 72 53 111).bare):=Yn
def aqo:aw Tryz.prog (gS t1 t2) 20=some (88,[(none,2),(none,3)],(amn 48 49 18 50 51 52 53).bare):=Yn
def aqp (N:Nat) (s:Bs) (c:UInt8) (H:Hp):sZ ⟨Tryz.prog,(gS t1 t2),N⟩ 99 [.str s,.int .u8 (c.toNat:Int)] H (.int .i64 (Lib.indexByte s c)):=
 RN (fn:=(Tryz.prog.funcs[99]?).getD default) Yn Yn Yn Yn Yn s c H
def aqq (N:Nat) (s:Bs) (c:UInt8) (H:Hp):sZ ⟨Tryz.prog,(gS t1 t2),N⟩ 137 [.str s,.int .u8 (c.toNat:Int)] H (.int .i64 ((s.count c:Nat):Int)):=
 ao1 (fn:=(Tryz.prog.funcs[137]?).getD default) Yn Yn Yn Yn Yn s c H
def an9 (s:Bs) (c:UInt8):au Tryz.prog (gS t1 t2) 82 [.str s,.str [c]] (.int .i64 (Lib.indexByte s c)):=apk apo (Q0 anO aqp) s c
def aqr (s:Bs) (c:UInt8):au Tryz.prog (gS t1 t2) 96 [.str s,.str [c]] (.int .i64 (Lib.indexByte s c)):=aqg afl s c (an9 s c)
def aqs (s:Bs) (c:UInt8) (h:s.length<=B):au Tryz.prog (gS t1 t2) 49 [.str s,.str [c]] (.list ((Z_ c s).map IV.str)):=
 aqk aqn s c (ao2 ao4 s c h (aqh aql s c (λN H=>aqq N s c H)) (λr=>aqr r c))
def aos (s t:Bs):au Tryz.prog (gS t1 t2) 48 [.str s,.str t] (.gf [.str (if t.isPrefixOf s then s.drop t.length else s),.bool (t.isPrefixOf s)]):=tu aop s t (qu anP s t (anb aoo s t))
def aot (s t:Bs) (hs:s.length<=B) (ht:t.length<=B):au Tryz.prog (gS t1 t2) 50 [.str s,.str t] (.gf [.str (if t.isSuffixOf s then s.take (s.length - t.length) else s),.bool (t.isSuffixOf s)]):=
 Q2 aor s t (Qe anQ s t hs ht (Q1 aoq s t hs ht))
def aq0 (s:Bs) (c:UInt8) (h:s.length<=B):au Tryz.prog (gS t1 t2) 18 [.str s,.str [c]] (.gf [.str (Bj c s).1,.str (Bj c s).2.1,.bool (Bj c s).2.2]):=arw apq s c (aqi aqm s c h (an9 s c))
def afn (s:Bs) (h:s.length<=B):au Tryz.prog (gS t1 t2) 88 [.str s] (.bool (named s)):=qk aco s h
def apQ (d:Doc) (h:zn d<=B) (l:List Step) (hl:l.length<=B) (hn:∀x∈l,x.name.length<=B):au Tryz.prog (gS t1 t2) 70 [Doc.av d,.list (l.map Step.iv)] (.gf [.list ((ali d l).1.map xX),.int .i64 (ali d l).2]):=
 apN apP d h l hl (aeB d h) (anx anz l hl (λx hx=>afn _ (hn x hx))) (λs hs ks h1 h2=>apM apO d h s ks h1 h2 (λx _=>aqV aqZ x s))
end Go.Proofs.YtfeijflhfhkbnaaGreatDoor
