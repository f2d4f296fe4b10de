import Derived.Test.YtfinkeaikbmpgaaGreatDoorE21
import Derived.Test.YtfinkeaikbmpgaaGreatDoorKT100
import Derived.Test.YtfinkeaikbmpgaaGreatDoorKT3
set_option linter.unusedSimpArgs false
set_option linter.unusedVariables false
set_option linter.unnecessarySimpa false
set_option linter.defProp false
/- Functions of this seat, read: paths. -/
namespace Go.Proofs.YtfinkeaikbmpgaaGreatDoor
open Go Go.Am Go.ChangeShapes
variable {t1 t2:Nat}
theorem qS:aB Tryz.prog (gZ t1 t2) 132=some (8,[(none,4)],(cF 176).bare):=by kernel_rfl
theorem zG:aB Tryz.prog (gZ t1 t2) 169=some (143,[(none,4)],(cX 132 203 204 205).bare):=by kernel_rfl
theorem EH:aB Tryz.prog (gZ t1 t2) 174=some (8,[(none,4)],(gQ 169).bare):=by kernel_rfl
theorem EI:aB Tryz.prog (gZ t1 t2) 173=some (34,[(none,4)],(gR 206 207 174).bare):=by kernel_rfl
theorem ux:aB Tryz.prog (gZ t1 t2) 195=some (18,[(none,4)],cH.bare):=by kernel_rfl
theorem qT:aB Tryz.prog (gZ t1 t2) 164=some (15,[(none,4),(none,5)],(cI 195).bare):=by kernel_rfl
theorem uy:aB Tryz.prog (gZ t1 t2) 118=some (11,[(none,4),(none,5)],(fb 164).bare):=by kernel_rfl
theorem uz:aB Tryz.prog (gZ t1 t2) 196=some (21,[(none,4)],cJ.bare):=by kernel_rfl
theorem qU:aB Tryz.prog (gZ t1 t2) 165=some (18,[(none,4),(none,5)],(cL 196).bare):=by kernel_rfl
theorem uC:aB Tryz.prog (gZ t1 t2) 120=some (11,[(none,4),(none,5)],(fc 165).bare):=by kernel_rfl
theorem EJ:aB Tryz.prog (gZ t1 t2) 123=some (23,[(none,4),(none,5),(none,6)],(dr 169).bare):=by kernel_rfl
theorem Jb:aB Tryz.prog (gZ t1 t2) 81=some (13,[(none,4),(none,5),(none,6)],(iW 123).bare):=by kernel_rfl
theorem wU:aB Tryz.prog (gZ t1 t2) 128=some (66,[(none,8)],(fw 172 173 174).bare):=by kernel_rfl
theorem EK:aB Tryz.prog (gZ t1 t2) 119=some (8,[(none,4)],(gS 128).bare):=by kernel_rfl
theorem GX:aB Tryz.prog (gZ t1 t2) 115=some (29,[(none,4)],kq.bare):=by kernel_rfl
theorem B0:aB Tryz.prog (gZ t1 t2) 76=some (42,[(none,6)],(iU 115).bare):=by kernel_rfl
theorem qb:aB Tryz.prog (gZ t1 t2) 40=some (44,[(none,2)],(gL 53).bare):=by kernel_rfl
theorem B1:aB Tryz.prog (gZ t1 t2) 37=some (54,[(none,4),(none,5)],(iV 21 40 76).bare):=by kernel_rfl
theorem EL:aB Tryz.prog (gZ t1 t2) 80=some (88,[(none,2),(none,3)],(jL 118 119 81 120 121 122 40).bare):=by kernel_rfl
theorem EM (N:Nat) (s:Bs) (c:UInt8) (H:Hp):ph ⟨Tryz.prog,(gZ t1 t2),N⟩ 176 [.str s,.int .u8 (c.toNat:Int)] H (.int .i64 (Lib.indexByte s c)):=
 wQ (fn:=(Tryz.prog.funcs[176]?).getD default) (by kernel_rfl) (by kernel_rfl) (by kernel_rfl) (by kernel_rfl) (by kernel_rfl) s c H
theorem EN (N:Nat) (s:Bs) (c:UInt8) (H:Hp):ph ⟨Tryz.prog,(gZ t1 t2),N⟩ 207 [.str s,.int .u8 (c.toNat:Int)] H (.int .i64 ((s.count c:Nat):Int)):=
 wR (fn:=(Tryz.prog.funcs[207]?).getD default) (by kernel_rfl) (by kernel_rfl) (by kernel_rfl) (by kernel_rfl) (by kernel_rfl) s c H
theorem sU (s:Bs) (c:UInt8):ai Tryz.prog (gZ t1 t2) 169 [.str s,.str [c]] (.int .i64 (Lib.indexByte s c)):=zB zG (uk qS EM) s c
theorem EO (s:Bs) (c:UInt8):ai Tryz.prog (gZ t1 t2) 174 [.str s,.str [c]] (.int .i64 (Lib.indexByte s c)):=EB EH s c (sU s c)
theorem EP (s:Bs) (c:UInt8) (h:s.length≤B):ai Tryz.prog (gZ t1 t2) 119 [.str s,.str [c]] (.list ((bV c s).map IV.str)):=
 EF EK s c (wS wU s c h (EC EI s c (fun N H=>EN N s c H)) (fun r=>EO r c))
theorem uE (s t:Bs):ai Tryz.prog (gZ t1 t2) 118 [.str s,.str t] (.ei [.str (if t.isPrefixOf s then s.drop t.length else s),.bool (t.isPrefixOf s)]):=uo uy s t (qQ qT s t (um ux s t))
theorem uF (s t:Bs) (hs:s.length≤B) (ht:t.length≤B):ai Tryz.prog (gZ t1 t2) 120 [.str s,.str t] (.ei [.str (if t.isSuffixOf s then s.take (s.length - t.length) else s),.bool (t.isSuffixOf s)]):=
 ur uC s t (qR qU s t hs ht (uq uz s t hs ht))
theorem Jc (s:Bs) (c:UInt8) (h:s.length≤B):ai Tryz.prog (gZ t1 t2) 81 [.str s,.str [c]] (.ei [.str (cA c s).1,.str (cA c s).2.1,.bool (cA c s).2.2]):=I5 Jb s c (ED EJ s c h (sU s c))
theorem zH (s:Bs) (h:s.length≤B):ai Tryz.prog (gZ t1 t2) 53 [.str s] (.bool (named s)):=oq zh s h
end Go.Proofs.YtfinkeaikbmpgaaGreatDoor
