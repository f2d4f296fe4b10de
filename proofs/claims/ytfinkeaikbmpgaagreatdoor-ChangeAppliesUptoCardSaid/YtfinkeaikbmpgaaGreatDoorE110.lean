import Derived.Test.YtfinkeaikbmpgaaGreatDoorE108
import Derived.Test.YtfinkeaikbmpgaaGreatDoorKC7
import Derived.KernelRfl
set_option linter.unusedSimpArgs false
set_option linter.unusedVariables false
set_option linter.unnecessarySimpa false
set_option linter.defProp false
/- Functions of package change, read in this seat. -/
namespace Go.Proofs.YtfinkeaikbmpgaaGreatDoor
open Go Go.Am
set_option maxRecDepth 100000
variable {mm:Int}
def afq:aw Tryz.prog (gN mm) 32=some (100,[((some (some 1)),4),(none,5)],(VV 65 58 59 66 67 68 69 62).bare):=by kernel_rfl
def afr:aw Tryz.prog (gN mm) 65=some (42,[(none,4)],(W9 21 101 103 102).bare):=by kernel_rfl
def af':aw Tryz.prog (gN mm) 101=some (37,[(none,4)],(Xo 21 143).bare):=by kernel_rfl
def afs:aw Tryz.prog (gN mm) 143=some (107,[(none,4)],(Wy 127 53 125).bare):=by kernel_rfl
def aar:aw Tryz.prog (gN mm) 104=some (54,[(none,4)],WA.bare):=by kernel_rfl
def adS:aw Tryz.prog (gN mm) 103=some (7,[(none,3)],(WB 104).bare):=by kernel_rfl
def ab3:aw Tryz.prog (gN mm) 102=some (9,[(none,4)],(Vr 144).bare):=by kernel_rfl
def adT:aw Tryz.prog (gN mm) 144=some (19,[(none,4)],VF.bare):=by kernel_rfl
def aft:aw Tryz.prog (gN mm) 66=some (17,[(none,4)],W7.bare):=by kernel_rfl
def aih:aw Tryz.prog (gN mm) 67=some (194,[],(gk 105 106 107 108 109).bare):=by kernel_rfl
def adU:aw Tryz.prog (gN mm) 105=some (43,[],(VX 145 146).bare):=by kernel_rfl
def ahf:aw Tryz.prog (gN mm) 145=some (58,[(none,6)],(VT 58 145).bare):=by kernel_rfl
def afu:aw Tryz.prog (gN mm) 106=some (26,[(none,4),(none,5)],(V1 147).bare):=by kernel_rfl
def afv:aw Tryz.prog (gN mm) 108=some (35,[],(V2 105).bare):=by kernel_rfl
def af_:aw Tryz.prog (gN mm) 109=some (77,[],(V7 148 149 151 152).bare):=by kernel_rfl
def aga:aw Tryz.prog (gN mm) 68=some (40,[((some (some 4)),4)],(Vu 68).bare):=by kernel_rfl
def afw:aw Tryz.prog (gN mm) 149=some (9,[(none,4)],(VW 150).bare):=by kernel_rfl
def agb:aw Tryz.prog (gN mm) 146=some (95,[(none,6)],(VJ 185 186).bare):=by kernel_rfl
def agc:aw Tryz.prog (gN mm) 107=some (33,[(none,6)],VK.bare):=by kernel_rfl
def agd:aw Tryz.prog (gN mm) 152=some (95,[(none,6)],(Vx 188 189).bare):=by kernel_rfl
def age:aw Tryz.prog (gN mm) 151=some (33,[(none,6)],Vy.bare):=by kernel_rfl
def adV:aw Tryz.prog (gN mm) 148=some (49,[(none,6),(none,7)],A'.bare):=by kernel_rfl
def afx:aw Tryz.prog (gN mm) 147=some (19,[(none,4)],VP.bare):=by kernel_rfl
def acF:aw Tryz.prog (gN mm) 150=some (8,[(none,4)],(fI 187).bare):=by kernel_rfl
def ahg:aw Tryz.prog (gN mm) 187=some (8,[(none,4)],(cB 213).bare):=by kernel_rfl
def adW:aw Tryz.prog (gN mm) 58=some (8,[(none,2)],U8.bare):=by kernel_rfl
def adX:aw Tryz.prog (gN mm) 59=some (8,[(none,2)],Wd.bare):=by kernel_rfl
def aiW (N:Nat) (vs:List IV) (l:Lb) (sz j n c:Nat) (r:Row) (H:Hp) (h1:vs≠[]) (h2:H l= .live r) (h3:0<n):sZ ⟨Tryz.prog,gN mm,N⟩ 185 [.list vs,.slk l sz j n c] H (.bool false):=
 Y9 (fn:=(Tryz.prog.funcs[185]?).getD default) (by kernel_rfl) (by kernel_rfl) (by kernel_rfl) (by kernel_rfl) (tS:=64) (tR:=4) (e:=3) (by kernel_rfl) (by kernel_rfl) (size:=1) (fun w=>by rfl) h1 h2 h3
def aiX (N:Nat) (vs:List IV) (l:Lb) (sz j n c:Nat) (r:Row) (H:Hp) (h1:vs≠[]) (h2:H l= .live r) (h3:0<n):sZ ⟨Tryz.prog,gN mm,N⟩ 188 [.list vs,.slk l sz j n c] H (.bool false):=
 Y9 (fn:=(Tryz.prog.funcs[188]?).getD default) (by kernel_rfl) (by kernel_rfl) (by kernel_rfl) (by kernel_rfl) (tS:=44) (tR:=4) (e:=89) (by kernel_rfl) (by kernel_rfl) (size:=2) (fun w=>by rfl) h1 h2 h3
def ahh (N:Nat) (s t:Bs) (H:Hp):sZ ⟨Tryz.prog,gN mm,N⟩ 213 [.str s,.str t] H (.int .i64 (Lib.compareBytes s t)):=
 rN (fn:=(Tryz.prog.funcs[213]?).getD default) (by kernel_rfl) (by kernel_rfl) (by kernel_rfl) (by kernel_rfl) (by kernel_rfl) s t H
noncomputable def chF:ChF Tryz.prog (gN mm) where
 u3:=32
 mg:=65
 E1:=101
 M':=143
 th:=104
 H4:=103
 hQ:=102
 o1:=144
 z':=66
 cI:=67
 bn:=105
 gE:=145
 b9:=106
 en:=108
 eF:=109
 fl:=68
 r7:=149
 gM:=146
 b6:=107
 n2:=152
 nb:=151
 e9:=148
 sh:=147
 cC:=150
 a6:=187
 iJ:=58
 gC:=59
 ai6:=185
 Vh:=188
 E2:=186
 Vz:=189
 bq:=213
 Vd:=21
 No:=127
 Vs:=53
 Oo:=125
 mv:=69
 Vj:=62
 afe:=afq
 aff:=afr
 acT:=af'
 afg:=afs
 ab2:=aar
 adg:=adS
 aaS:=ab3
 adh:=adT
 afh:=aft
 hDo:=aih
 BC:=adU
 hAdd:=ahf
 afi:=afu
 afj:=afv
 agy:=af_
 agz:=aga
 afk:=afw
 agA:=agb
 agB:=agc
 agC:=agd
 agD:=age
 adi:=adV
 afl:=afx
 y5:=acF
 aid:=ahg
 Y5:=adW
 adj:=adX
 oI:=aiW
 oA:=aiX
 aie:=ahh
 afm:=by kernel_rfl
 adk:=by kernel_rfl
 aaH:=aeB
 Y6:=Y6
 afn:=fun s h=>qk aco s h
 afo:=fun s h=>qj acn s h
 adl:=fun l h=>afF afM l h
 acU:=acU
end Go.Proofs.YtfinkeaikbmpgaaGreatDoor
