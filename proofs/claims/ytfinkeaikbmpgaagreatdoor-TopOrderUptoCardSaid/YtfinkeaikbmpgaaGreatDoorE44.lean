import Derived.Test.YtfinkeaikbmpgaaGreatDoorE41
import Derived.Test.YtfinkeaikbmpgaaGreatDoorKP2
import Derived.Test.YtfinkeaikbmpgaaGreatDoorKT35
import Derived.Test.YtfinkeaikbmpgaaGreatDoorKT15
set_option linter.unusedSimpArgs false
set_option linter.unusedVariables false
set_option linter.unnecessarySimpa false
set_option linter.defProp false
/- Functions of this seat, read: paths. -/
namespace Go.Proofs.YtfinkeaikbmpgaaGreatDoor
open Go Go.Am Go.ChangeShapes
variable {t1 t2:Nat}
def DP:an Tryz.prog (gS t1 t2) 132=some (8,[(none,4)],(gn 176).bare):=by kernel_rfl
def Ov:an Tryz.prog (gS t1 t2) 169=some (143,[(none,4)],(ia 132 203 204 205).bare):=by kernel_rfl
def DQ:an Tryz.prog (gS t1 t2) 174=some (8,[(none,4)],(oY 169).bare):=by kernel_rfl
def WQ:an Tryz.prog (gS t1 t2) 173=some (34,[(none,4)],(oZ 206 207 174).bare):=by kernel_rfl
def HL:an Tryz.prog (gS t1 t2) 195=some (18,[(none,4)],eM.bare):=by kernel_rfl
def DR:an Tryz.prog (gS t1 t2) 164=some (15,[(none,4),(none,5)],(eN 195).bare):=by kernel_rfl
def HM:an Tryz.prog (gS t1 t2) 118=some (11,[(none,4),(none,5)],(jN 164).bare):=by kernel_rfl
def HN:an Tryz.prog (gS t1 t2) 196=some (21,[(none,4)],gq.bare):=by kernel_rfl
def DS:an Tryz.prog (gS t1 t2) 165=some (18,[(none,4),(none,5)],(gr 196).bare):=by kernel_rfl
def HO:an Tryz.prog (gS t1 t2) 120=some (11,[(none,4),(none,5)],(lU 165).bare):=by kernel_rfl
def WT:an Tryz.prog (gS t1 t2) 123=some (23,[(none,4),(none,5),(none,6)],(iS 169).bare):=by kernel_rfl
def Ow:an Tryz.prog (gS t1 t2) 81=some (13,[(none,4),(none,5),(none,6)],(qN 123).bare):=by kernel_rfl
def Lq:an Tryz.prog (gS t1 t2) 128=some (66,[(none,8)],(mv 172 173 174).bare):=by kernel_rfl
def WV:an Tryz.prog (gS t1 t2) 119=some (8,[(none,4)],(o1 128).bare):=by kernel_rfl
def aai:an Tryz.prog (gS t1 t2) 115=some (29,[(none,4)],tF.bare):=by kernel_rfl
def Si:an Tryz.prog (gS t1 t2) 76=some (42,[(none,6)],(qL 115).bare):=by kernel_rfl
def CQ:an Tryz.prog (gS t1 t2) 40=some (44,[(none,2)],(tG 53).bare):=by kernel_rfl
def Sj:an Tryz.prog (gS t1 t2) 37=some (54,[(none,4),(none,5)],(qM 21 40 76).bare):=by kernel_rfl
def WW:an Tryz.prog (gS t1 t2) 80=some (88,[(none,2),(none,3)],(sa 118 119 81 120 121 122 40).bare):=by kernel_rfl
def WX (N:Nat) (s:Bs) (c:UInt8) (H:Hp):o7 ⟨Tryz.prog,(gS t1 t2),N⟩ 176 [.str s,.int .u8 (c.toNat:Int)] H (.int .i64 (Lib.indexByte s c)):=
 Lj (fn:=(Tryz.prog.funcs[176]?).getD default) (by kernel_rfl) (by kernel_rfl) (by kernel_rfl) (by kernel_rfl) (by kernel_rfl) s c H
def WY (N:Nat) (s:Bs) (c:UInt8) (H:Hp):o7 ⟨Tryz.prog,(gS t1 t2),N⟩ 207 [.str s,.int .u8 (c.toNat:Int)] H (.int .i64 ((s.count c:Nat):Int)):=
 Lk (fn:=(Tryz.prog.funcs[207]?).getD default) (by kernel_rfl) (by kernel_rfl) (by kernel_rfl) (by kernel_rfl) (by kernel_rfl) s c H
def FB (s:Bs) (c:UInt8):aw Tryz.prog (gS t1 t2) 169 [.str s,.str [c]] (.int .i64 (Lib.indexByte s c)):=On Ov (HD DP WX) s c
def WZ (s:Bs) (c:UInt8):aw Tryz.prog (gS t1 t2) 174 [.str s,.str [c]] (.int .i64 (Lib.indexByte s c)):=WJ DQ s c (FB s c)
def W0 (s:Bs) (c:UInt8) (h:s.length≤B):aw Tryz.prog (gS t1 t2) 119 [.str s,.str [c]] (.list ((ej c s).map IV.str)):=
 WN WV s c (Ll Lq s c h (WK WQ s c (fun N H=>WY N s c H)) (fun r=>WZ r c))
def HP (s t:Bs):aw Tryz.prog (gS t1 t2) 118 [.str s,.str t] (.dM [.str (if t.isPrefixOf s then s.drop t.length else s),.bool (t.isPrefixOf s)]):=A1 HM s t (w8 DR s t (A0 HL s t))
def HQ (s t:Bs) (hs:s.length≤B) (ht:t.length≤B):aw Tryz.prog (gS t1 t2) 120 [.str s,.str t] (.dM [.str (if t.isSuffixOf s then s.take (s.length - t.length) else s),.bool (t.isSuffixOf s)]):=
 HF HO s t (DO DS s t hs ht (HE HN s t hs ht))
def aaj (s:Bs) (c:UInt8) (h:s.length≤B):aw Tryz.prog (gS t1 t2) 81 [.str s,.str [c]] (.dM [.str (cU c s).1,.str (cU c s).2.1,.bool (cU c s).2.2]):=ab9 Ow s c (WL WT s c h (FB s c))
def A5 (s:Bs) (h:s.length≤B):aw Tryz.prog (gS t1 t2) 53 [.str s] (.bool (named s)):=xM DL s h
def Sk (d:Doc) (h:rq d≤B) (l:List Step) (hl:l.length≤B) (hn:∀x∈l,x.name.length≤B):aw Tryz.prog (gS t1 t2) 37 [Doc.av d,.list (l.map Step.iv)] (.dM [.list ((gm d l).1.map aW),.int .i64 (gm d l).2]):=
 Sf Sj d h l hl (w5 d h) (CO CQ l hl (fun x hx=>A5 _ (hn x hx))) (fun s hs ks h1 h2=>Se Si d h s ks h1 h2 (fun x _=>aae aai x s))
end Go.Proofs.YtfinkeaikbmpgaaGreatDoor
