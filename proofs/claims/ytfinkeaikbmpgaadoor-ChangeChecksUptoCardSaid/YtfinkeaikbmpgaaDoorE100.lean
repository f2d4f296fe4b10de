import Derived.Test.YtfinkeaikbmpgaaDoorE98
import Derived.Test.YtfinkeaikbmpgaaDoorKC7
import Derived.KernelRfl
set_option linter.unusedSimpArgs false
set_option linter.unusedVariables false
set_option linter.unnecessarySimpa false
set_option linter.defProp false
/- Functions of package change, read in this seat. -/
namespace Go.Proofs.YtfinkeaikbmpgaaDoor
open Go Go.Am
set_option maxRecDepth 100000
variable {mm:Int}
def afq:aw Tryd.prog (gL mm) 101=some (100,[((some (some 1)),4),(none,5)],(VV 66 120 136 137 138 139 83 34).bare):=by kernel_rfl
def afr:aw Tryd.prog (gL mm) 66=some (42,[(none,4)],(W9 41 62 100 99).bare):=by kernel_rfl
def af':aw Tryd.prog (gL mm) 62=some (37,[(none,4)],(Xo 41 96).bare):=by kernel_rfl
def afs:aw Tryd.prog (gL mm) 96=some (107,[(none,4)],(Wy 28 20 22).bare):=by kernel_rfl
def aar:aw Tryd.prog (gL mm) 64=some (54,[(none,4)],WA.bare):=by kernel_rfl
def adS:aw Tryd.prog (gL mm) 100=some (7,[(none,3)],(WB 64).bare):=by kernel_rfl
def ab3:aw Tryd.prog (gL mm) 99=some (9,[(none,4)],(Vr 135).bare):=by kernel_rfl
def adT:aw Tryd.prog (gL mm) 135=some (19,[(none,4)],VF.bare):=by kernel_rfl
def aft:aw Tryd.prog (gL mm) 137=some (17,[(none,4)],W7.bare):=by kernel_rfl
def aih:aw Tryd.prog (gL mm) 138=some (194,[],(gk 162 163 164 165 166).bare):=by kernel_rfl
def adU:aw Tryd.prog (gL mm) 162=some (43,[],(VX 187 188).bare):=by kernel_rfl
def ahf:aw Tryd.prog (gL mm) 187=some (58,[(none,6)],(VT 120 187).bare):=by kernel_rfl
def afu:aw Tryd.prog (gL mm) 163=some (26,[(none,4),(none,5)],(V1 189).bare):=by kernel_rfl
def afv:aw Tryd.prog (gL mm) 165=some (35,[],(V2 162).bare):=by kernel_rfl
def af_:aw Tryd.prog (gL mm) 166=some (77,[],(V7 190 191 192 193).bare):=by kernel_rfl
def aga:aw Tryd.prog (gL mm) 139=some (40,[((some (some 4)),4)],(Vu 139).bare):=by kernel_rfl
def afw:aw Tryd.prog (gL mm) 191=some (9,[(none,4)],(VW 155).bare):=by kernel_rfl
def agb:aw Tryd.prog (gL mm) 188=some (95,[(none,6)],(VJ 209 210).bare):=by kernel_rfl
def agc:aw Tryd.prog (gL mm) 164=some (33,[(none,6)],VK.bare):=by kernel_rfl
def agd:aw Tryd.prog (gL mm) 193=some (95,[(none,6)],(Vx 211 212).bare):=by kernel_rfl
def age:aw Tryd.prog (gL mm) 192=some (33,[(none,6)],Vy.bare):=by kernel_rfl
def adV:aw Tryd.prog (gL mm) 190=some (49,[(none,6),(none,7)],A'.bare):=by kernel_rfl
def afx:aw Tryd.prog (gL mm) 189=some (19,[(none,4)],VP.bare):=by kernel_rfl
def acF:aw Tryd.prog (gL mm) 155=some (8,[(none,4)],(fI 181).bare):=by kernel_rfl
def ahg:aw Tryd.prog (gL mm) 181=some (8,[(none,4)],(cB 207).bare):=by kernel_rfl
def adW:aw Tryd.prog (gL mm) 120=some (8,[(none,2)],U8.bare):=by kernel_rfl
def adX:aw Tryd.prog (gL mm) 136=some (8,[(none,2)],Wd.bare):=by kernel_rfl
def aiW (N:Nat) (vs:List IV) (l:Lb) (sz j n c:Nat) (r:Row) (H:Hp) (h1:vs≠[]) (h2:H l= .live r) (h3:0<n):sZ ⟨Tryd.prog,(gL mm),N⟩ 209 [.list vs,.slk l sz j n c] H (.bool false):=
 Y9 (fn:=(Tryd.prog.funcs[209]?).getD default) (by kernel_rfl) (by kernel_rfl) (by kernel_rfl) (by kernel_rfl) (tS:=67) (tR:=4) (e:=3) (by kernel_rfl) (by kernel_rfl) (size:=1) (fun w=>by rfl) h1 h2 h3
def aiX (N:Nat) (vs:List IV) (l:Lb) (sz j n c:Nat) (r:Row) (H:Hp) (h1:vs≠[]) (h2:H l= .live r) (h3:0<n):sZ ⟨Tryd.prog,(gL mm),N⟩ 211 [.list vs,.slk l sz j n c] H (.bool false):=
 Y9 (fn:=(Tryd.prog.funcs[211]?).getD default) (by kernel_rfl) (by kernel_rfl) (by kernel_rfl) (by kernel_rfl) (tS:=22) (tR:=4) (e:=85) (by kernel_rfl) (by kernel_rfl) (size:=2) (fun w=>by rfl) h1 h2 h3
def ahh (N:Nat) (s t:Bs) (H:Hp):sZ ⟨Tryd.prog,(gL mm),N⟩ 207 [.str s,.str t] H (.int .i64 (Lib.compareBytes s t)):=
 rN (fn:=(Tryd.prog.funcs[207]?).getD default) (by kernel_rfl) (by kernel_rfl) (by kernel_rfl) (by kernel_rfl) (by kernel_rfl) s t H
noncomputable def chF:ChF Tryd.prog (gL mm) where
 u3:=101
 mg:=66
 E1:=62
 M':=96
 th:=64
 H4:=100
 hQ:=99
 o1:=135
 z':=137
 cI:=138
 bn:=162
 gE:=187
 b9:=163
 en:=165
 eF:=166
 fl:=139
 r7:=191
 gM:=188
 b6:=164
 n2:=193
 nb:=192
 e9:=190
 sh:=189
 cC:=155
 a6:=181
 iJ:=120
 gC:=136
 tx:=209
 Vh:=211
 E2:=210
 Vz:=212
 bq:=207
 Vd:=41
 No:=28
 Vs:=20
 Oo:=22
 mv:=83
 Vj:=34
 afe:=afq
 aff:=afr
 acT:=af'
 afg:=afs
 ab2:=aar
 adg:=adS
 aaS:=ab3
 adh:=adT
 afh:=aft
 hDo:=aih
 BC:=adU
 hAdd:=ahf
 afi:=afu
 afj:=afv
 agy:=af_
 agz:=aga
 afk:=afw
 agA:=agb
 agB:=agc
 agC:=agd
 agD:=age
 adi:=adV
 afl:=afx
 y5:=acF
 aid:=ahg
 Y5:=adW
 adj:=adX
 oI:=aiW
 oA:=aiX
 aie:=ahh
 afm:=by kernel_rfl
 adk:=by kernel_rfl
 aaH:=aeB
 Y6:=Y6
 afn:=fun s h=>qk aco s h
 afo:=fun s h=>qj acn s h
 adl:=fun l h=>afF afM l h
 acU:=acU
end Go.Proofs.YtfinkeaikbmpgaaDoor
