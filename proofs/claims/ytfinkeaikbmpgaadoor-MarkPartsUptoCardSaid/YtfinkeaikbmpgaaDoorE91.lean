import Derived.Test.YtfinkeaikbmpgaaDoorE87
import Derived.Test.YtfinkeaikbmpgaaDoorE90
import Derived.Test.YtfinkeaikbmpgaaDoorT158
set_option linter.unusedSimpArgs false
set_option linter.unusedVariables false
set_option linter.unnecessarySimpa false
set_option linter.defProp false
/- The laws MarkParses, MarkParts in this seat. -/
namespace Go.Proofs.YtfinkeaikbmpgaaDoor
open Go Go.Am Go.ChangeShapes
variable {m:Int}
def Ri:aw Tryd.prog (gM m) 55=some (33,[((some (some 4)),2),(none,3)],(Ny 93 27).bare):=by kernel_rfl
def PW:aw Tryd.prog (gM m) 57=some (22,[(none,2),(none,3)],(Ns 93 30).bare):=by kernel_rfl
def Rj:aw Tryd.prog (gM m) 59=some (22,[(none,2),(none,3)],(Nz 95 23).bare):=by kernel_rfl
def Ts:aw Tryd.prog (gM m) 95=some (66,[(none,4),(none,5)],(N1 133 134 78).bare):=by kernel_rfl
def SS:aw Tryd.prog (gM m) 128=some (31,[(none,2),(none,3)],(NS 133).bare):=by kernel_rfl
def Tt:aw Tryd.prog (gM m) 131=some (137,[((some (some 4)),2),(none,3),(none,4)],(N2 159 130 108 156 77 107 95 21).bare):=by kernel_rfl
def SU:aw Tryd.prog (gM m) 93=some (153,[(none,2),(none,3)],(NU 128 95 127 130 129 131).bare):=by kernel_rfl
def SV:aw Tryd.prog (gM m) 58=some (31,[(none,2),(none,3)],(OP 94 22).bare):=by kernel_rfl
def SW:aw Tryd.prog (gM m) 129=some (37,[(none,4)],(NV 114 115 117 119).bare):=by kernel_rfl
def Uo:aw Tryd.prog (gM m) 133=some (8,[(none,4)],(NW 160).bare):=by kernel_rfl
def QI:aw Tryd.prog (gM m) 9=some (28,[(none,2)],(Nu 51 55 32 56).bare):=by kernel_rfl
def Rk:aw Tryd.prog (gM m) 10=some (52,[(none,2)],(NA 53 57 58 59 60 56).bare):=by kernel_rfl
def QJ:aw Tryd.prog (gM m) 108=some (11,[(none,4),(none,5)],(NR 145).bare):=by kernel_rfl
def PX:aw Tryd.prog (gM m) 145=some (18,[(none,4),(none,5)],(Ng 170).bare):=by kernel_rfl
def QK:aw Tryd.prog (gM m) 170=some (21,[(none,4)],Nf.bare):=by kernel_rfl
def PY:aw Tryd.prog (gM m) 160=some (8,[(none,4)],(Nd 183).bare):=by kernel_rfl
def SX:aw Tryd.prog (gM m) 56=some (24,[(none,0)],(ff 51 49).bare):=by kernel_rfl
def Tu (N:Nat) (s:Bs) (c:UInt8) (H:Hp):sZ ⟨Tryd.prog,(gM m),N⟩ 183 [.str s,.int .u8 (c.toNat:Int)] H (.int .i64 (Lib.indexByte s c)):=
 RN (fn:=(Tryd.prog.funcs[183]?).getD default) (by kernel_rfl) (by kernel_rfl) (by kernel_rfl) (by kernel_rfl) (by kernel_rfl) s c H
def TY (c:UInt8) (s:Bs):au Tryd.prog (gM m) 133 [.str s,.int .u8 (c.toNat:Int)] (.int .i64 (Lib.indexByte s c)):=Un Uo s c (Q0 PY Tu s c)
def Rl (v:Bool) (s:Bs) (h:s.length≤4096):au Tryd.prog (gM m) 95 [.str s,.bool v] (Nx v s):=
 Tc Ts v s h (fun s h=>TY 59 s) (fun t ht=>To Tryd.SC (m:=m) rfl Pq t (by decide)) (yf yo)
def SY (s:Bs) (h:s.length≤4096):au Tryd.prog (gM m) 128 [.str s] (Of s):=SI SS s h fun c s h=>TY c s
def Sv (t:Bs) (s:Bs) (h:s.length≤4096):au Tryd.prog (gM m) 130 [.str s,.str t] (.str (Lib.trimSuffix s t)):=Tr Tryd.SF s t h
def Tx (M:Bs) (h:M.length≤4096):au Tryd.prog (gM m) 131 [.str M] (ON M):=
 Te Tt M h (fun s h=>Tq Tryd.SE s [60]) (Sv [62])
  (fun s h=>Q2 QJ s [47] (Qe PX s [47] (by unfold B;omega) (by decide) (Q1 QK s [47] (by unfold B;omega) (by decide))))
  (fun s h=>by
   have:=Eh (G:=gM m) wg s cY (by unfold B;omega) (by decide) (rB Pg cY (by decide) (by decide)) (po BE _ _ (by unfold B;omega) (mB G7 _));rw[RY] at this;exact this)
  (fun s h=>G8 s (by unfold B;omega))
  (fun s h=>⟨_,GB GF s [32,10] (by unfold B;omega) (by decide) (rB yn [32,10] (by decide) (by decide)) (tg D_ _ s (by unfold B;omega) (mB GG _))
   (po D' _ _ (by have:=A6 (er [32,10]) s;unfold B;omega) (mB GG _)),RZ s⟩)
  (Um Tryd.SD (m:=m) rfl) (Rl true) (fun s h=>uP s (by unfold B;omega))
def Rw (s:Bs) (h:s.length≤4096):au Tryd.prog (gM m) 93 [.str s] (NH s):=
 SO SU s h (SY s h) (Rl false) (fun s h=>rZ sa s [60,47] (ot s [60,47])) (Sv [62])
  (fun s h=>by
   have:=SR (G:=gM m) SW s [32,10] (by unfold B;omega) (by decide) (rB Pg [32,10] (by decide) (by decide)) (tg D_ _ s (by unfold B;omega) (mB GG _));rw[Sq] at this;exact this)
  Tx
def Rm (s:Bs) (h:3*s.length≤B):au Tryd.prog (gM m) 55 [.str s] (.gf [(jD s).1.av,.int .i64 (jD s).2]):=
 Rd Ri s (by omega) Rw fun t ht=>Bf t (by omega)
def PZ (s:Bs) (h:3*s.length≤B):au Tryd.prog (gM m) 57 [.str s] (.gf [.list (dq (NQ s).1),.int .i64 (NQ s).2]):=
 PV PW s (by omega) Rw fun t ht=>QW t (by omega)
def Rn (s:Bs) (h:s.length≤B):au Tryd.prog (gM m) 59 [.str s] (.gf [.str (OF s).1,.int .i64 (OF s).2]):=
 Re Rj s h (Rl false) fun t ht=>rI t (by unfold B;omega)
def SZ (s:Bs) (h:s.length≤B):au Tryd.prog (gM m) 58 [.str s] (.gf [.str (OF s).1,.int .i64 (OF s).2]):=
 SQ SV s h (fun s h=>Co false s false h) fun t ht=>qj uY t (by unfold B;omega)
def Sw:au Tryd.prog (gM m) 56 [] (.bool true):=BH SX (EF _ (by rw[tG];decide)) (za zp (by decide))
def QL (s:Bs) (h:3*s.length≤B):au Tryd.prog (gM m) 9 [.str s] (.bool true):=by
 have hS:=RA (mm:=m) (jD s).1 (jD s).1 (by have:=Ss s;unfold B;omega);rw[Oh] at hS;exact QH QI s (EF s (by omega)) (Rm s h) hS Sw
def Ro (s:Bs) (h:3*s.length≤B):au Tryd.prog (gM m) 10 [.str s] (.bool true):=by
 have hS:=PE (mm:=m) (NQ s).1 (NQ s).1 (by have:=Su s (by omega);unfold B;omega);rw[Oh] at hS;exact Rh Rk s (S_ s (by omega)) (PZ s h) (SZ s (by omega)) (Rn s (by omega)) hS Sw
end Go.Proofs.YtfinkeaikbmpgaaDoor
