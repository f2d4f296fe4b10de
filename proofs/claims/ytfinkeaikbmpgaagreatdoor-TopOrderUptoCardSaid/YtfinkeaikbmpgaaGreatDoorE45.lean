import Derived.Test.YtfinkeaikbmpgaaGreatDoorE41
import Derived.Test.YtfinkeaikbmpgaaGreatDoorKC7
import Derived.KernelRfl
set_option linter.unusedSimpArgs false
set_option linter.unusedVariables false
set_option linter.unnecessarySimpa false
set_option linter.defProp false
/- Functions of package change, read in this seat. -/
namespace Go.Proofs.YtfinkeaikbmpgaaGreatDoor
open Go Go.Am
set_option maxRecDepth 100000
variable {t1 t2:Nat}
def PD:an Tryz.prog (gS t1 t2) 32=some (100,[((some (some 1)),4),(none,5)],(iX 65 58 59 66 67 68 69 62).bare):=by kernel_rfl
def PE:an Tryz.prog (gS t1 t2) 65=some (42,[(none,4)],(nv 21 101 103 102).bare):=by kernel_rfl
def SR:an Tryz.prog (gS t1 t2) 101=some (37,[(none,4)],(om 21 143).bare):=by kernel_rfl
def PF:an Tryz.prog (gS t1 t2) 143=some (107,[(none,4)],(lr 127 53 125).bare):=by kernel_rfl
def Iq:an Tryz.prog (gS t1 t2) 104=some (54,[(none,4)],lI.bare):=by kernel_rfl
def LY:an Tryz.prog (gS t1 t2) 103=some (7,[(none,3)],(lJ 104).bare):=by kernel_rfl
def Gm:an Tryz.prog (gS t1 t2) 102=some (9,[(none,4)],(fW 144).bare):=by kernel_rfl
def LZ:an Tryz.prog (gS t1 t2) 144=some (19,[(none,4)],gV.bare):=by kernel_rfl
def PG:an Tryz.prog (gS t1 t2) 66=some (17,[(none,4)],nt.bare):=by kernel_rfl
def aa5:an Tryz.prog (gS t1 t2) 67=some (194,[],(aZ 105 106 107 108 109).bare):=by kernel_rfl
def L2:an Tryz.prog (gS t1 t2) 105=some (43,[],(i_ 145 146).bare):=by kernel_rfl
def XC:an Tryz.prog (gS t1 t2) 145=some (58,[(none,6)],(iV 58 145).bare):=by kernel_rfl
def PI:an Tryz.prog (gS t1 t2) 106=some (26,[(none,4),(none,5)],(jx 147).bare):=by kernel_rfl
def PJ:an Tryz.prog (gS t1 t2) 108=some (35,[],(jy 105).bare):=by kernel_rfl
def SS:an Tryz.prog (gS t1 t2) 109=some (77,[],(jO 148 149 151 152).bare):=by kernel_rfl
def SU:an Tryz.prog (gS t1 t2) 68=some (40,[((some (some 4)),4)],(gD 68).bare):=by kernel_rfl
def PK:an Tryz.prog (gS t1 t2) 149=some (9,[(none,4)],(iZ 150).bare):=by kernel_rfl
def SV:an Tryz.prog (gS t1 t2) 146=some (95,[(none,6)],(fU 185 186).bare):=by kernel_rfl
def SW:an Tryz.prog (gS t1 t2) 107=some (33,[(none,6)],fV.bare):=by kernel_rfl
def SX:an Tryz.prog (gS t1 t2) 152=some (95,[(none,6)],(fa 188 189).bare):=by kernel_rfl
def SY:an Tryz.prog (gS t1 t2) 151=some (33,[(none,6)],fe.bare):=by kernel_rfl
def L3:an Tryz.prog (gS t1 t2) 148=some (49,[(none,6),(none,7)],dh.bare):=by kernel_rfl
def PL:an Tryz.prog (gS t1 t2) 147=some (19,[(none,4)],iy.bare):=by kernel_rfl
def Ir:an Tryz.prog (gS t1 t2) 150=some (8,[(none,4)],(jv 187).bare):=by kernel_rfl
def XD:an Tryz.prog (gS t1 t2) 187=some (8,[(none,4)],(dJ 213).bare):=by kernel_rfl
def L4:an Tryz.prog (gS t1 t2) 58=some (8,[(none,2)],eC.bare):=by kernel_rfl
def C9:an Tryz.prog (gS t1 t2) 59=some (8,[(none,2)],gk.bare):=by kernel_rfl
def acR (N:Nat) (vs:List IV) (l:Lb) (sz j n c:Nat) (r:Row) (H:Hp) (h1:vs≠[]) (h2:H l= .live r) (h3:0<n):o7 ⟨Tryz.prog,gS t1 t2,N⟩ 185 [.list vs,.slk l sz j n c] H (.bool false):=
 xb (fn:=(Tryz.prog.funcs[185]?).getD default) (by kernel_rfl) (by kernel_rfl) (by kernel_rfl) (by kernel_rfl) (tS:=64) (tR:=4) (e:=3) (by kernel_rfl) (by kernel_rfl) (size:=1) (fun w=>by rfl) h1 h2 h3
def acS (N:Nat) (vs:List IV) (l:Lb) (sz j n c:Nat) (r:Row) (H:Hp) (h1:vs≠[]) (h2:H l= .live r) (h3:0<n):o7 ⟨Tryz.prog,gS t1 t2,N⟩ 188 [.list vs,.slk l sz j n c] H (.bool false):=
 xb (fn:=(Tryz.prog.funcs[188]?).getD default) (by kernel_rfl) (by kernel_rfl) (by kernel_rfl) (by kernel_rfl) (tS:=44) (tR:=4) (e:=89) (by kernel_rfl) (by kernel_rfl) (size:=2) (fun w=>by rfl) h1 h2 h3
def XE (N:Nat) (s t:Bs) (H:Hp):o7 ⟨Tryz.prog,gS t1 t2,N⟩ 213 [.str s,.str t] H (.int .i64 (Lib.compareBytes s t)):=
 yK (fn:=(Tryz.prog.funcs[213]?).getD default) (by kernel_rfl) (by kernel_rfl) (by kernel_rfl) (by kernel_rfl) (by kernel_rfl) s t H
noncomputable def chF:ChF Tryz.prog (gS t1 t2) where
 cP:=32
 cz:=65
 eW:=101
 dK:=143
 dY:=104
 dE:=103
 bG:=102
 bY:=144
 da:=66
 aC:=67
 ak:=105
 bq:=145
 az:=106
 aD:=108
 aG:=109
 aQ:=68
 cd:=149
 br:=146
 au:=107
 bm:=152
 bj:=151
 aO:=148
 cq:=147
 bW:=150
 bf:=187
 ai:=58
 aJ:=59
 cA:=185
 cu:=188
 dq:=186
 cZ:=189
 bb:=213
 bX:=21
 cj:=127
 dU:=53
 dV:=125
 bP:=69
 cy:=62
 Pu:=PD
 Pv:=PE
 Jw:=SR
 Pw:=PF
 Gl:=Iq
 J3:=LY
 C8:=Gm
 J4:=LZ
 Px:=PG
 Bv:=aa5
 zL:=L2
 hAdd:=XC
 Py:=PI
 Pz:=PJ
 Uy:=SS
 Uz:=SU
 PA:=PK
 UA:=SV
 UB:=SW
 UC:=SX
 UD:=SY
 J5:=L3
 DQ:=PL
 xl:=Ir
 aa2:=XD
 wY:=L4
 J6:=C9
 oI:=acR
 oA:=acS
 aa3:=XE
 PB:=by kernel_rfl
 J7:=by kernel_rfl
 CL:=w5
 wZ:=wZ
 A5:=fun s h=>xM DL s h
 PC:=fun s h=>xK DK s h
 J8:=fun l h=>R6 Sa l h
 CM:=CM
end Go.Proofs.YtfinkeaikbmpgaaGreatDoor
