import Derived.Test.YtfinkeaikbmpgaaGreatDoorE41
import Derived.Test.YtfinkeaikbmpgaaGreatDoorKP2
import Derived.Test.YtfinkeaikbmpgaaGreatDoorKT35
import Derived.Test.YtfinkeaikbmpgaaGreatDoorKT8
import Derived.Test.YtfinkeaikbmpgaaGreatDoorKT16
set_option linter.unusedSimpArgs false
set_option linter.unusedVariables false
set_option linter.unnecessarySimpa false
set_option linter.defProp false
/- Functions of this seat, read: paths. -/
namespace Go.Proofs.YtfinkeaikbmpgaaGreatDoor
open Go Go.Am Go.ChangeShapes
variable {t1 t2:Nat}
def anO:aw Tryz.prog (gS t1 t2) 132=some (8,[(none,4)],(Nd 176).bare):=Po
def apo:aw Tryz.prog (gS t1 t2) 169=some (143,[(none,4)],(alj 132 203 204 205).bare):=Po
def afl:aw Tryz.prog (gS t1 t2) 174=some (8,[(none,4)],(al2 169).bare):=Po
def aql:aw Tryz.prog (gS t1 t2) 173=some (34,[(none,4)],(al3 206 207 174).bare):=Po
def aoo:aw Tryz.prog (gS t1 t2) 195=some (18,[(none,4)],cy.bare):=Po
def anP:aw Tryz.prog (gS t1 t2) 164=some (15,[(none,4),(none,5)],(cz 195).bare):=Po
def aop:aw Tryz.prog (gS t1 t2) 118=some (11,[(none,4),(none,5)],(eT 164).bare):=Po
def aoq:aw Tryz.prog (gS t1 t2) 196=some (21,[(none,4)],Nf.bare):=Po
def anQ:aw Tryz.prog (gS t1 t2) 165=some (18,[(none,4),(none,5)],(Ng 196).bare):=Po
def aor:aw Tryz.prog (gS t1 t2) 120=some (11,[(none,4),(none,5)],(NR 165).bare):=Po
def aqm:aw Tryz.prog (gS t1 t2) 123=some (23,[(none,4),(none,5),(none,6)],(als 169).bare):=Po
def apq:aw Tryz.prog (gS t1 t2) 81=some (13,[(none,4),(none,5),(none,6)],(amg 123).bare):=Po
def ao4:aw Tryz.prog (gS t1 t2) 128=some (66,[(none,8)],(alH 172 173 174).bare):=Po
def aqn:aw Tryz.prog (gS t1 t2) 119=some (8,[(none,4)],(al4 128).bare):=Po
def aqZ:aw Tryz.prog (gS t1 t2) 115=some (29,[(none,4)],amu.bare):=Po
def apO:aw Tryz.prog (gS t1 t2) 76=some (42,[(none,6)],(ame 115).bare):=Po
def anz:aw Tryz.prog (gS t1 t2) 40=some (44,[(none,2)],(amv 53).bare):=Po
def apP:aw Tryz.prog (gS t1 t2) 37=some (54,[(none,4),(none,5)],(amf 21 40 76).bare):=Po
def aqo:aw Tryz.prog (gS t1 t2) 80=some (88,[(none,2),(none,3)],(amn 118 119 81 120 121 122 40).bare):=Po
def aqp (N:Nat) (s:Bs) (c:UInt8) (H:Hp):sZ ⟨Tryz.prog,(gS t1 t2),N⟩ 176 [.str s,.int .u8 (c.toNat:Int)] H (.int .i64 (Lib.indexByte s c)):=
 RN (fn:=(Tryz.prog.funcs[176]?).getD default) Po Po Po Po Po s c H
def aqq (N:Nat) (s:Bs) (c:UInt8) (H:Hp):sZ ⟨Tryz.prog,(gS t1 t2),N⟩ 207 [.str s,.int .u8 (c.toNat:Int)] H (.int .i64 ((s.count c:Nat):Int)):=
 ao1 (fn:=(Tryz.prog.funcs[207]?).getD default) Po Po Po Po Po s c H
def an9 (s:Bs) (c:UInt8):au Tryz.prog (gS t1 t2) 169 [.str s,.str [c]] (.int .i64 (Lib.indexByte s c)):=apk apo (Q0 anO aqp) s c
def aqr (s:Bs) (c:UInt8):au Tryz.prog (gS t1 t2) 174 [.str s,.str [c]] (.int .i64 (Lib.indexByte s c)):=aqg afl s c (an9 s c)
def aqs (s:Bs) (c:UInt8) (h:s.length≤B):au Tryz.prog (gS t1 t2) 119 [.str s,.str [c]] (.list ((Z_ c s).map IV.str)):=
 aqk aqn s c (ao2 ao4 s c h (aqh aql s c (fun N H=>aqq N s c H)) (fun r=>aqr r c))
def aos (s t:Bs):au Tryz.prog (gS t1 t2) 118 [.str s,.str t] (.gf [.str (if t.isPrefixOf s then s.drop t.length else s),.bool (t.isPrefixOf s)]):=tu aop s t (qu anP s t (anb aoo s t))
def aot (s t:Bs) (hs:s.length≤B) (ht:t.length≤B):au Tryz.prog (gS t1 t2) 120 [.str s,.str t] (.gf [.str (if t.isSuffixOf s then s.take (s.length - t.length) else s),.bool (t.isSuffixOf s)]):=
 Q2 aor s t (Qe anQ s t hs ht (Q1 aoq s t hs ht))
def aq0 (s:Bs) (c:UInt8) (h:s.length≤B):au Tryz.prog (gS t1 t2) 81 [.str s,.str [c]] (.gf [.str (Bj c s).1,.str (Bj c s).2.1,.bool (Bj c s).2.2]):=arw apq s c (aqi aqm s c h (an9 s c))
def afn (s:Bs) (h:s.length≤B):au Tryz.prog (gS t1 t2) 53 [.str s] (.bool (named s)):=qk aco s h
def apQ (d:Doc) (h:zn d≤B) (l:List Step) (hl:l.length≤B) (hn:∀x∈l,x.name.length≤B):au Tryz.prog (gS t1 t2) 37 [Doc.av d,.list (l.map Step.iv)] (.gf [.list ((ali d l).1.map xX),.int .i64 (ali d l).2]):=
 apN apP d h l hl (aeB d h) (anx anz l hl (fun x hx=>afn _ (hn x hx))) (fun s hs ks h1 h2=>apM apO d h s ks h1 h2 (fun x _=>aqV aqZ x s))
end Go.Proofs.YtfinkeaikbmpgaaGreatDoor
