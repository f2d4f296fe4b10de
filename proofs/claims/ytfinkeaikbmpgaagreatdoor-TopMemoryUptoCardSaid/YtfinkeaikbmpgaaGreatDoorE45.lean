import Derived.Test.YtfinkeaikbmpgaaGreatDoorE41
import Derived.Test.YtfinkeaikbmpgaaGreatDoorKC7
import Derived.KernelRfl
set_option linter.unusedSimpArgs false
set_option linter.unusedVariables false
set_option linter.unnecessarySimpa false
set_option linter.defProp false
/- Functions of package change, read in this seat. -/
namespace Go.Proofs.YtfinkeaikbmpgaaGreatDoor
open Go Go.Am
set_option maxRecDepth 100000
variable {t1 t2:Nat}
def afq:aw Tryz.prog (gS t1 t2) 32=some (100,[((some (some 1)),4),(none,5)],(VV 65 58 59 66 67 68 69 62).bare):=Po
def afr:aw Tryz.prog (gS t1 t2) 65=some (42,[(none,4)],(W9 21 101 103 102).bare):=Po
def af':aw Tryz.prog (gS t1 t2) 101=some (37,[(none,4)],(Xo 21 143).bare):=Po
def afs:aw Tryz.prog (gS t1 t2) 143=some (107,[(none,4)],(Wy 127 53 125).bare):=Po
def aar:aw Tryz.prog (gS t1 t2) 104=some (54,[(none,4)],WA.bare):=Po
def adS:aw Tryz.prog (gS t1 t2) 103=some (7,[(none,3)],(WB 104).bare):=Po
def ab3:aw Tryz.prog (gS t1 t2) 102=some (9,[(none,4)],(Vr 144).bare):=Po
def adT:aw Tryz.prog (gS t1 t2) 144=some (19,[(none,4)],VF.bare):=Po
def aft:aw Tryz.prog (gS t1 t2) 66=some (17,[(none,4)],W7.bare):=Po
def aih:aw Tryz.prog (gS t1 t2) 67=some (194,[],(fO 105 106 107 108 109).bare):=Po
def adU:aw Tryz.prog (gS t1 t2) 105=some (43,[],(VX 145 146).bare):=Po
def ahf:aw Tryz.prog (gS t1 t2) 145=some (58,[(none,6)],(VT 58 145).bare):=Po
def afu:aw Tryz.prog (gS t1 t2) 106=some (26,[(none,4),(none,5)],(V1 147).bare):=Po
def afv:aw Tryz.prog (gS t1 t2) 108=some (35,[],(V2 105).bare):=Po
def af_:aw Tryz.prog (gS t1 t2) 109=some (77,[],(V7 148 149 151 152).bare):=Po
def aga:aw Tryz.prog (gS t1 t2) 68=some (40,[((some (some 4)),4)],(Vu 68).bare):=Po
def afw:aw Tryz.prog (gS t1 t2) 149=some (9,[(none,4)],(VW 150).bare):=Po
def agb:aw Tryz.prog (gS t1 t2) 146=some (95,[(none,6)],(VJ 185 186).bare):=Po
def agc:aw Tryz.prog (gS t1 t2) 107=some (33,[(none,6)],VK.bare):=Po
def agd:aw Tryz.prog (gS t1 t2) 152=some (95,[(none,6)],(Vx 188 189).bare):=Po
def age:aw Tryz.prog (gS t1 t2) 151=some (33,[(none,6)],Vy.bare):=Po
def adV:aw Tryz.prog (gS t1 t2) 148=some (49,[(none,6),(none,7)],A'.bare):=Po
def afx:aw Tryz.prog (gS t1 t2) 147=some (19,[(none,4)],VP.bare):=Po
def acF:aw Tryz.prog (gS t1 t2) 150=some (8,[(none,4)],(fI 187).bare):=Po
def ahg:aw Tryz.prog (gS t1 t2) 187=some (8,[(none,4)],(cB 213).bare):=Po
def adW:aw Tryz.prog (gS t1 t2) 58=some (8,[(none,2)],U8.bare):=Po
def adX:aw Tryz.prog (gS t1 t2) 59=some (8,[(none,2)],Wd.bare):=Po
def aiW (N:Nat) (vs:List IV) (l:Lb) (sz j n c:Nat) (r:Row) (H:Hp) (h1:vs≠[]) (h2:H l= .live r) (h3:0<n):sZ ⟨Tryz.prog,gS t1 t2,N⟩ 185 [.list vs,.slk l sz j n c] H (.bool false):=
 Y9 (fn:=(Tryz.prog.funcs[185]?).getD default) Po Po Po Po (tS:=64) (tR:=4) (e:=3) Po Po (size:=1) (fun w=>by rfl) h1 h2 h3
def aiX (N:Nat) (vs:List IV) (l:Lb) (sz j n c:Nat) (r:Row) (H:Hp) (h1:vs≠[]) (h2:H l= .live r) (h3:0<n):sZ ⟨Tryz.prog,gS t1 t2,N⟩ 188 [.list vs,.slk l sz j n c] H (.bool false):=
 Y9 (fn:=(Tryz.prog.funcs[188]?).getD default) Po Po Po Po (tS:=44) (tR:=4) (e:=89) Po Po (size:=2) (fun w=>by rfl) h1 h2 h3
def ahh (N:Nat) (s t:Bs) (H:Hp):sZ ⟨Tryz.prog,gS t1 t2,N⟩ 213 [.str s,.str t] H (.int .i64 (Lib.compareBytes s t)):=
 rN (fn:=(Tryz.prog.funcs[213]?).getD default) Po Po Po Po Po s t H
noncomputable def chF:ChF Tryz.prog (gS t1 t2) where
 akN:=32
 mg:=65
 ak3:=101
 akT:=143
 th:=104
 H4:=103
 hQ:=102
 akI:=144
 akQ:=66
 kX:=67
 ej:=105
 gE:=145
 hY:=106
 en:=108
 eF:=109
 fl:=68
 akK:=149
 gM:=146
 gN:=107
 WW:=152
 nb:=151
 l5:=148
 akM:=147
 cC:=150
 a6:=187
 iJ:=58
 l4:=59
 ai6:=185
 Vh:=188
 akR:=186
 Vz:=189
 bq:=213
 Vd:=21
 No:=127
 Vs:=53
 Oo:=125
 mv:=69
 Vj:=62
 afe:=afq
 aff:=afr
 acT:=af'
 afg:=afs
 ab2:=aar
 adg:=adS
 aaS:=ab3
 adh:=adT
 afh:=aft
 hDo:=aih
 BC:=adU
 hAdd:=ahf
 afi:=afu
 afj:=afv
 agy:=af_
 agz:=aga
 afk:=afw
 agA:=agb
 agB:=agc
 agC:=agd
 agD:=age
 adi:=adV
 afl:=afx
 y5:=acF
 aid:=ahg
 Y5:=adW
 adj:=adX
 oI:=aiW
 oA:=aiX
 aie:=ahh
 afm:=Po
 adk:=Po
 aaH:=aeB
 Y6:=Y6
 afn:=fun s h=>qk aco s h
 afo:=fun s h=>qj acn s h
 adl:=fun l h=>afF afM l h
 acU:=acU
end Go.Proofs.YtfinkeaikbmpgaaGreatDoor
