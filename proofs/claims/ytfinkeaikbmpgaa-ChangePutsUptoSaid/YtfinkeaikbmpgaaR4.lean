import Derived.Test.YtfinkeaikbmpgaaR3
import Derived.Test.YtfinkeaikbmpgaaKT50
set_option linter.unusedSimpArgs false
set_option linter.unusedVariables false
set_option linter.unnecessarySimpa false
set_option linter.defProp false
/- Functions of this seat, read: changes. -/
namespace Go.Proofs.Ytfinkeaikbmpgaa
open Go Go.Am Go.ChangeShapes
set_option maxRecDepth 100000
theorem DK:aA Try.prog fV 34=some (100,[((some (some 1)),4),(none,5)],(eu 36 44 45 46 47 48 15 22).bare):=by kernel_rfl
theorem DL:aA Try.prog fV 36=some (42,[(none,4)],(iH 28 50 52 51).bare):=by kernel_rfl
theorem Gm:aA Try.prog fV 50=some (37,[(none,4)],(je 28 63).bare):=by kernel_rfl
theorem DM:aA Try.prog fV 63=some (107,[(none,4)],(bA 19 56 55).bare):=by kernel_rfl
theorem yJ:aA Try.prog fV 53=some (54,[(none,4)],gE.bare):=by kernel_rfl
theorem A':aA Try.prog fV 52=some (7,[(none,3)],(gF 53).bare):=by kernel_rfl
theorem xa:aA Try.prog fV 51=some (9,[(none,4)],(dy 64).bare):=by kernel_rfl
theorem A_:aA Try.prog fV 64=some (19,[(none,4)],dQ.bare):=by kernel_rfl
theorem DN:aA Try.prog fV 46=some (17,[(none,4)],iF.bare):=by kernel_rfl
theorem M8:aA Try.prog fV 47=some (194,[],(aU 58 59 60 61 62).bare):=by kernel_rfl
theorem Ba:aA Try.prog fV 58=some (43,[],(ez 65 66).bare):=by kernel_rfl
theorem Kg:aA Try.prog fV 65=some (58,[(none,6)],(et 44 65).bare):=by kernel_rfl
theorem DO:aA Try.prog fV 59=some (26,[(none,4),(none,5)],(eS 67).bare):=by kernel_rfl
theorem DP:aA Try.prog fV 61=some (35,[],(eT 58).bare):=by kernel_rfl
theorem Gn:aA Try.prog fV 62=some (77,[],(fa 68 69 71 72).bare):=by kernel_rfl
theorem Gp:aA Try.prog fV 48=some (40,[((some (some 4)),4)],(dG 48).bare):=by kernel_rfl
theorem DQ:aA Try.prog fV 69=some (9,[(none,4)],(ey 70).bare):=by kernel_rfl
theorem Gq:aA Try.prog fV 66=some (95,[(none,6)],(dr 73 74).bare):=by kernel_rfl
theorem Gr:aA Try.prog fV 60=some (33,[(none,6)],dw.bare):=by kernel_rfl
theorem Gs:aA Try.prog fV 72=some (95,[(none,6)],(c_ 76 77).bare):=by kernel_rfl
theorem Gt:aA Try.prog fV 71=some (33,[(none,6)],da.bare):=by kernel_rfl
theorem Bb:aA Try.prog fV 68=some (49,[(none,6),(none,7)],b9.bare):=by kernel_rfl
theorem DR:aA Try.prog fV 67=some (19,[(none,4)],ea.bare):=by kernel_rfl
theorem yK:aA Try.prog fV 70=some (8,[(none,4)],(fY 75).bare):=by kernel_rfl
theorem Kh:aA Try.prog fV 75=some (8,[(none,4)],(cT 79).bare):=by kernel_rfl
theorem Bc:aA Try.prog fV 44=some (8,[(none,2)],cP.bare):=by kernel_rfl
theorem Bd:aA Try.prog fV 45=some (8,[(none,2)],fC.bare):=by kernel_rfl
theorem PB (N:Nat) (vs:List IV) (l:Lb) (sz j n c:Nat) (r:Row) (H:Hp) (h1:vs≠[]) (h2:H l= .live r) (h3:0<n):mu ⟨Try.prog,fV,N⟩ 73 [.list vs,.slk l sz j n c] H (.bool false):=
 oU (fn:=(Try.prog.funcs[73]?).getD default) (by kernel_rfl) (by kernel_rfl) (by kernel_rfl) (by kernel_rfl) (tS:=47) (tR:=4) (e:=3) (by kernel_rfl) (by kernel_rfl) (size:=1) (fun w=>by rfl) h1 h2 h3
theorem PC (N:Nat) (vs:List IV) (l:Lb) (sz j n c:Nat) (r:Row) (H:Hp) (h1:vs≠[]) (h2:H l= .live r) (h3:0<n):mu ⟨Try.prog,fV,N⟩ 76 [.list vs,.slk l sz j n c] H (.bool false):=
 oU (fn:=(Try.prog.funcs[76]?).getD default) (by kernel_rfl) (by kernel_rfl) (by kernel_rfl) (by kernel_rfl) (tS:=27) (tR:=4) (e:=60) (by kernel_rfl) (by kernel_rfl) (size:=2) (fun w=>by rfl) h1 h2 h3
theorem Ki (N:Nat) (s t:Bs) (H:Hp):mu ⟨Try.prog,fV,N⟩ 79 [.str s,.str t] H (.int .i64 (Lib.compareBytes s t)):=
 wv (fn:=(Try.prog.funcs[79]?).getD default) (by kernel_rfl) (by kernel_rfl) (by kernel_rfl) (by kernel_rfl) (by kernel_rfl) s t H
noncomputable def R_:ChF Try.prog fV where
 bB:=34
 bR:=36
 cZ:=50
 aC:=63
 cJ:=53
 ct:=52
 bw:=51
 bH:=64
 b6:=46
 ar:=47
 af:=58
 bg:=65
 an:=59
 au:=61
 aw:=62
 aJ:=48
 bM:=69
 bh:=66
 aj:=60
 bd:=72
 bc:=71
 aH:=68
 bP:=67
 cf:=70
 ba:=75
 ah:=44
 bf:=45
 bS:=73
 bQ:=76
 b_:=74
 bZ:=77
 a5:=79
 cp:=28
 aB:=19
 aV:=56
 aW:=55
 bD:=15
 db:=22
 Dz:=DK
 DA:=DL
 zk:=Gm
 DB:=DM
 w9:=yJ
 zS:=A'
 t_:=xa
 zT:=A_
 DC:=DN
 Qq:=M8
 zU:=Ba
 hAdd:=Kg
 DD:=DO
 DE:=DP
 HB:=Gn
 HC:=Gp
 DF:=DQ
 HD:=Gq
 HE:=Gr
 HF:=Gs
 HG:=Gt
 zV:=Bb
 DG:=DR
 w_:=yK
 M5:=Kh
 vg:=Bc
 zW:=Bd
 oI:=PB
 oA:=PC
 M6:=Ki
 DH:=by kernel_rfl
 zX:=by kernel_rfl
 tq:=wh
 oG:=oG
 DI:=fun s h=>rr x5 s h
 DJ:=fun s h=>rn x4 s h
 qC:=qC
 zq:=zq
end Go.Proofs.Ytfinkeaikbmpgaa
