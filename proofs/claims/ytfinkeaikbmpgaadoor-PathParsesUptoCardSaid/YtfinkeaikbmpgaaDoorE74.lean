import Derived.Test.YtfinkeaikbmpgaaDoorE71
import Derived.Test.YtfinkeaikbmpgaaDoorKP1
set_option linter.unusedSimpArgs false
set_option linter.unusedVariables false
set_option linter.unnecessarySimpa false
set_option linter.defProp false
/- Functions of this seat, read: paths. -/
namespace Go.Proofs.YtfinkeaikbmpgaaDoor
open Go Go.Am Go.ChangeShapes
variable {t1 t2:Nat}
def mc:aM Tryd.prog (gY t1 t2) 160=some (8,[(none,4)],(bA 183).bare):=by kernel_rfl
def s3:aM Tryd.prog (gY t1 t2) 161=some (143,[(none,4)],(bQ 160 184 185 186).bare):=by kernel_rfl
def yO:aM Tryd.prog (gY t1 t2) 134=some (8,[(none,4)],(eo 161).bare):=by kernel_rfl
def yP:aM Tryd.prog (gY t1 t2) 169=some (34,[(none,4)],(ep 195 196 134).bare):=by kernel_rfl
def oC:aM Tryd.prog (gY t1 t2) 157=some (18,[(none,4)],bC.bare):=by kernel_rfl
def me:aM Tryd.prog (gY t1 t2) 142=some (15,[(none,4),(none,5)],(bD 157).bare):=by kernel_rfl
def oD:aM Tryd.prog (gY t1 t2) 105=some (11,[(none,4),(none,5)],(dk 142).bare):=by kernel_rfl
def oE:aM Tryd.prog (gY t1 t2) 170=some (21,[(none,4)],bE.bare):=by kernel_rfl
def mf:aM Tryd.prog (gY t1 t2) 145=some (18,[(none,4),(none,5)],(bF 170).bare):=by kernel_rfl
def oF:aM Tryd.prog (gY t1 t2) 108=some (11,[(none,4),(none,5)],(dm 145).bare):=by kernel_rfl
def yQ:aM Tryd.prog (gY t1 t2) 144=some (23,[(none,4),(none,5),(none,6)],(b5 161).bare):=by kernel_rfl
def CP:aM Tryd.prog (gY t1 t2) 107=some (13,[(none,4),(none,5),(none,6)],(fg 144).bare):=by kernel_rfl
def qw:aM Tryd.prog (gY t1 t2) 143=some (66,[(none,8)],(dy 168 169 134).bare):=by kernel_rfl
def yR:aM Tryd.prog (gY t1 t2) 106=some (8,[(none,4)],(er 143).bare):=by kernel_rfl
def qx:aM Tryd.prog (gY t1 t2) 103=some (44,[(none,2)],(gm 20).bare):=by kernel_rfl
def yS:aM Tryd.prog (gY t1 t2) 73=some (88,[(none,2),(none,3)],(fK 105 106 107 108 109 110 103).bare):=by kernel_rfl
def yT (N:Nat) (s:Bs) (c:UInt8) (H:Hp):kL ⟨Tryd.prog,(gY t1 t2),N⟩ 183 [.str s,.int .u8 (c.toNat:Int)] H (.int .i64 (Lib.indexByte s c)):=
 qq (fn:=(Tryd.prog.funcs[183]?).getD default) (by kernel_rfl) (by kernel_rfl) (by kernel_rfl) (by kernel_rfl) (by kernel_rfl) s c H
def yU (N:Nat) (s:Bs) (c:UInt8) (H:Hp):kL ⟨Tryd.prog,(gY t1 t2),N⟩ 196 [.str s,.int .u8 (c.toNat:Int)] H (.int .i64 ((s.count c:Nat):Int)):=
 qt (fn:=(Tryd.prog.funcs[196]?).getD default) (by kernel_rfl) (by kernel_rfl) (by kernel_rfl) (by kernel_rfl) (by kernel_rfl) s c H
def nE (s:Bs) (c:UInt8):aw Tryd.prog (gY t1 t2) 161 [.str s,.str [c]] (.int .i64 (Lib.indexByte s c)):=sV s3 (ou mc yT) s c
def yV (s:Bs) (c:UInt8):aw Tryd.prog (gY t1 t2) 134 [.str s,.str [c]] (.int .i64 (Lib.indexByte s c)):=yI yO s c (nE s c)
def yW (s:Bs) (c:UInt8) (h:s.length≤B):aw Tryd.prog (gY t1 t2) 106 [.str s,.str [c]] (.list ((aO c s).map IV.str)):=
 yM yR s c (qu qw s c h (yJ yP s c (fun N H=>yU N s c H)) (fun r=>yV r c))
def oG (s t:Bs):aw Tryd.prog (gY t1 t2) 105 [.str s,.str t] (.dG [.str (if t.isPrefixOf s then s.drop t.length else s),.bool (t.isPrefixOf s)]):=ow oD s t (ma me s t (ov oC s t))
def oH (s t:Bs) (hs:s.length≤B) (ht:t.length≤B):aw Tryd.prog (gY t1 t2) 108 [.str s,.str t] (.dG [.str (if t.isSuffixOf s then s.take (s.length - t.length) else s),.bool (t.isSuffixOf s)]):=
 oy oF s t (mb mf s t hs ht (ox oE s t hs ht))
def CQ (s:Bs) (c:UInt8) (h:s.length≤B):aw Tryd.prog (gY t1 t2) 107 [.str s,.str [c]] (.dG [.str (bn c s).1,.str (bn c s).2.1,.bool (bn c s).2.2]):=CK CP s c (yK yQ s c h (nE s c))
def yX (s:Bs) (h:s.length≤B):aw Tryd.prog (gY t1 t2) 20 [.str s] (.bool (named s)):=yy yF s h
end Go.Proofs.YtfinkeaikbmpgaaDoor
