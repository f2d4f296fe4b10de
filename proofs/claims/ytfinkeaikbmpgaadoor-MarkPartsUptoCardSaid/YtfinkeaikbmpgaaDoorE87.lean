import Derived.Test.YtfinkeaikbmpgaaDoorE81
import Derived.Test.YtfinkeaikbmpgaaDoorKT67
set_option linter.unusedSimpArgs false
set_option linter.unusedVariables false
set_option linter.unnecessarySimpa false
set_option linter.defProp false
/- Functions of this seat, read with the table of entities known: mark. -/
namespace Go.Proofs.YtfinkeaikbmpgaaDoor
open Go Go.Am Go.ChangeShapes
variable {mm:Int}
def yX:aw Tryd.prog (gM mm) 49=some (15,[(none,2),(none,3)],(jE 26 90).bare):=by kernel_rfl
def Ew:aw Tryd.prog (gM mm) 90=some (69,[(none,4)],(ld 121 90).bare):=by kernel_rfl
def Bx:aw Tryd.prog (gM mm) 121=some (46,[(none,6)],iN.bare):=by kernel_rfl
def yY:aw Tryd.prog (gM mm) 51=some (33,[((some (some 4)),2),(none,3)],(jF 91 26).bare):=by kernel_rfl
def Q4:aw Tryd.prog (gM mm) 53=some (31,[(none,2),(none,3)],(Ow 92 28).bare):=by kernel_rfl
def yZ:aw Tryd.prog (gM mm) 91=some (51,[((some (some 4)),4)],(ek 122 123 124 125 92 126).bare):=by kernel_rfl
def Ex:aw Tryd.prog (gM mm) 92=some (45,[(none,4)],(fc 127 91 94).bare):=by kernel_rfl
def By:aw Tryd.prog (gM mm) 124=some (54,[(none,2)],(eV 126 123 122 94 153 154).bare):=by kernel_rfl
def Ey:aw Tryd.prog (gM mm) 123=some (63,[(none,2)],fa.bare):=by kernel_rfl
def Bz:aw Tryd.prog (gM mm) 126=some (24,[(none,2)],(eU 156).bare):=by kernel_rfl
def Ez:aw Tryd.prog (gM mm) 122=some (11,[],(e_ 125).bare):=by kernel_rfl
def JH:aw Tryd.prog (gM mm) 125=some (22,[(none,4)],(gd 105).bare):=by kernel_rfl
def EA:aw Tryd.prog (gM mm) 94=some (86,[(none,4)],(fb 125 132).bare):=by kernel_rfl
def G5:aw Tryd.prog (gM mm) 154=some (10,[(none,4)],(NG 155).bare):=by kernel_rfl
def BA:aw Tryd.prog (gM mm) 132=some (19,[(none,4)],cA.bare):=by kernel_rfl
def wg:aw Tryd.prog (gM mm) 156=some (37,[(none,4)],(e8 113 115 116 118).bare):=by kernel_rfl
def EB:aw Tryd.prog (gM mm) 153=some (9,[],(ct 180).bare):=by kernel_rfl
def BB:aw Tryd.prog (gM mm) 180=some (63,[],(c8 205 206).bare):=by kernel_rfl
def BC:aw Tryd.prog (gM mm) 205=some (53,[],cm.bare):=by kernel_rfl
def G6:aw Tryd.prog (gM mm) 206=some (220,[],(cQ 223 206).bare):=by kernel_rfl
def BD:aw Tryd.prog (gM mm) 223=some (58,[],(c7 230).bare):=by kernel_rfl
def EC:aw Tryd.prog (gM mm) 230=some (38,[],cO.bare):=by kernel_rfl
def y5:aw Tryd.prog (gM mm) 155=some (8,[(none,4)],(fI 181).bare):=by kernel_rfl
def tJ:aw Tryd.prog (gM mm) 181=some (8,[(none,4)],(cB 207).bare):=by kernel_rfl
def P8:aw Tryd.prog (gM mm) 52=some (50,[(none,4)],(Nv 54).bare):=by kernel_rfl
def Q5:aw Tryd.prog (gM mm) 54=some (27,[(none,4)],(N_ 52).bare):=by kernel_rfl
def Pg:aw Tryd.prog (gM mm) 115=some (21,[((some (some 256)),2),(none,3)],c6.bare):=by kernel_rfl
def G7:aw Tryd.prog (gM mm) 149=some (10,[(none,4)],cr.bare):=by kernel_rfl
def BE:aw Tryd.prog (gM mm) 116=some (16,[(none,4)],(cS 149).bare):=by kernel_rfl
def r_:aw Tryd.prog (gM mm) 157=some (18,[(none,4)],cy.bare):=by kernel_rfl
def sa:aw Tryd.prog (gM mm) 127=some (8,[(none,4)],(eW 157).bare):=by kernel_rfl
def oS:aw Tryd.prog (gM mm) 142=some (15,[(none,4),(none,5)],(cz 157).bare):=by kernel_rfl
def sb:aw Tryd.prog (gM mm) 105=some (11,[(none,4),(none,5)],(eT 142).bare):=by kernel_rfl
def uY:aw Tryd.prog (gM mm) 22=some (29,[(none,2)],nZ.bare):=by kernel_rfl
def uZ:aw Tryd.prog (gM mm) 20=some (28,[(none,2)],n4.bare):=by kernel_rfl
def Pn:aw Tryd.prog (gM mm) 24=some (41,[(none,2)],(hZ 20 22).bare):=by kernel_rfl
def ED:aw Tryd.prog (gM mm) 18=some (32,[(none,2),(none,3)],(uz 18).bare):=by kernel_rfl
def y6:aw Tryd.prog (gM mm) 79=some (38,[(none,2)],(rr 22 20 24 81).bare):=by kernel_rfl
def u0:aw Tryd.prog (gM mm) 81=some (32,[(none,2)],(n_ 79).bare):=by kernel_rfl
def EE:aw Tryd.prog (gM mm) 26=some (25,[(none,2)],(xW 18 79).bare):=by kernel_rfl
def RP:aw Tryd.prog (gM mm) 28=some (31,[(none,2)],(Ot 18 81).bare):=by kernel_rfl
def JI (N:Nat) (s t:Bs) (H:Hp):sZ ⟨Tryd.prog,(gM mm),N⟩ 207 [.str s,.str t] H (.int .i64 (Lib.compareBytes s t)):=
 rN (fn:=(Tryd.prog.funcs[207]?).getD default) (by kernel_rfl) (by kernel_rfl) (by kernel_rfl) (by kernel_rfl) (by kernel_rfl) s t H
def ot (s t:Bs):au Tryd.prog (gM mm) 157 [.str s,.str t] (.bool (t.isPrefixOf s)):=tt r_ s t
def tK (s t:Bs):au Tryd.prog (gM mm) 105 [.str s,.str t] (.gf [.str (if t.isPrefixOf s then s.drop t.length else s),.bool (t.isPrefixOf s)]):=
 tu sb s t (qu oS s t (ot s t))
def HW (s p:Bs) (b:Bool):cR Tryd.prog (gM mm) 125 [.ptr (.par 0) 2 0 0,.str p] (cG s b) fun x cs=>x= .bool (p.isPrefixOf s)∧cs=cG (cZ p s) b:=Jl JH tK s p b
def y7 (s p:Bs) (b:Bool):cR Tryd.prog (gM mm) 122 [.ptr (.par 0) 2 0 0,.str p] (cG s b) fun x cs=>cs=cG (cZ p s) (b|| !p.isPrefixOf s):=Ei Ez s p b (HW s p b)
def G8 (s:Bs) (h:s.length≤B):au Tryd.prog (gM mm) 156 [.str s,.str [32,10]] (.str (s.dropWhile isSp)):=by
 have:=Eh (G:=gM mm) wg s [32,10] h (by decide) (rB Pg [32,10] (by decide) (by decide)) (po BE _ _ h (mB G7 _));rw[Bm] at this;exact this
def tL (s:Bs) (b:Bool) (h:s.length≤B):cR Tryd.prog (gM mm) 126 [.ptr (.par 0) 2 0 0] (cG s b) fun x cs=>x= .bool (decide ((s.dropWhile isSp).length<s.length))∧cs=cG (s.dropWhile isSp) b:=SB Bz s b (G8 s h)
def y8 (s:Bs) (b:Bool) (h:s.length≤B):cR Tryd.prog (gM mm) 123 [.ptr (.par 0) 2 0 0] (cG s b) fun x cs=>x= .str (s.takeWhile bz)∧cs=cG (s.dropWhile bz) (b||(decide (s.takeWhile bz=[])||decide (8<(s.takeWhile bz).length))):=Ej Ey s h b
def Co (v:Bool) (s:Bs) (b:Bool) (h:s.length≤B):cR Tryd.prog (gM mm) 94 [.ptr (.par 0) 2 0 0,.bool v] (cG s b) (rO v s b):=El EA (fun s b=>Bo BA (by kernel_rfl) HW s b) v s h b
def Cp (a b:Attr):au Tryd.prog (gM mm) 154 [a.yO,b.yO] (.int .i64 (om a b)):=GY G5 a b (yP y5 _ _ (tC tJ JI _ _))
def y9:fU Tryd.prog 154=true:=by kernel_rfl
def G9 (l:List Attr) (hl:l.length≤B) (a b n:Nat) (ha:a+n≤l.length) (hb:b+n≤l.length) :
 ig Tryd.prog (gM mm) 230 [.sl (.par 0) 2 0 l.length,.int .i64 a,.int .i64 b,.int .i64 n,.fn 154 [] []] 2 (cD l) (kP l):=tF (.fn 154 [] []) rfl EC l hl a b n ha hb
def BF (l:List Attr) (hl:l.length≤B) (a m b:Nat) (ha:a<m) (hm:m<b) (hb:b≤l.length) :
 ig Tryd.prog (gM mm) 223 [.sl (.par 0) 2 0 l.length,.int .i64 a,.int .i64 m,.int .i64 b,.fn 154 [] []] 2 (cD l) (kP l):=Bt 154 BD G9 l hl a m b ha hm hb
def JJ (l:List Attr) (hl:l.length≤B) (a m b:Nat) (ha:a<m) (hm:m<b) (hb:b≤l.length) :
 ig Tryd.prog (gM mm) 206 [.sl (.par 0) 2 0 l.length,.int .i64 a,.int .i64 m,.int .i64 b,.fn 154 [] []] 2 (cD l) (kP l):=wb G6 y9 Cp BF (b - a) l hl a m b ha hm hb (Va _)
def G' (l:List Attr) (hl:l.length≤B):ig Tryd.prog (gM mm) 153 [.sl (.par 0) 2 0 l.length,.fn 154 [] []] 2 (cD l) fun x ys=>∃zs:List Attr,ys=cD zs∧zs.Perm l∧(l.length≤20→zs=cu l):=
 rV EB l (Bu BB (fun l hl a b h1 h2=>Br BC y9 Cp l hl a b h1 h2) JJ l hl)
def y_ (s:Bs) (b:Bool) (h:s.length≤B):cR Tryd.prog (gM mm) 124 [.ptr (.par 0) 2 0 0] (cG s b) (qw s b):=Bp By tL y8 y7 Co G' s h b
def wi:∀d:Nat,d≤9→(∀(s:Bs) (b:Bool),s.length≤B→cR Tryd.prog (gM mm) 91 [.ptr (.par 0) 2 0 0,.int .i64 (9 - d:Int)] (cG s b) (rR d s b)) ∧
  (∀(s:Bs) (b:Bool),s.length≤B→cR Tryd.prog (gM mm) 92 [.ptr (.par 0) 2 0 0,.int .i64 (9 - d:Int)] (cG s b) (pF d s b)):=by
 have kids:∀d:Nat,(∀(s:Bs) (b:Bool),s.length≤B→cR Tryd.prog (gM mm) 91 [.ptr (.par 0) 2 0 0,.int .i64 (9 - d:Int)] (cG s b) (rR d s b)) →
   (∀(s:Bs) (b:Bool),s.length≤B→cR Tryd.prog (gM mm) 92 [.ptr (.par 0) 2 0 0,.int .i64 (9 - d:Int)] (cG s b) (pF d s b)):=
  fun d e s b h=>Er Ex (fun s t=>rZ sa s t (ot s t)) Co d e s h b
 intro d;induction d with
 |zero=>
  intro _;have e:=fun(s:Bs) (b:Bool) (h:s.length≤B)=>yL (G:=gM mm) yZ tL y8 y7 HW y_ 0 (by decide) (fun d' h=>by omega) s h b;exact⟨e,kids 0 e⟩
 |succ d ih=>
 intro hd;have ih:=(ih (by omega)).2;have st:∀d',d+1=d'+1→∀(s:Bs) (b:Bool),s.length≤B→cR Tryd.prog (gM mm) 92 [.ptr (.par 0) 2 0 0,.int .i64 (9 - d':Int)] (cG s b) (pF d' s b):=by
  intro d' B5;obtain rfl:d=d':=by omega
  exact ih
 have e:=fun(s:Bs) (b:Bool) (h:s.length≤B)=>yL (G:=gM mm) yZ tL y8 y7 HW y_ (d+1) hd st s h b;exact⟨e,kids (d+1) e⟩
def G_ (s:Bs) (h:s.length≤B):cR Tryd.prog (gM mm) 91 [.ptr (.par 0) 2 0 0,.int .i64 1] (cG s false) (rR 8 s false):=(wi 8 (by decide)).1 s false h
def TJ (s:Bs) (h:s.length≤B):cR Tryd.prog (gM mm) 92 [.ptr (.par 0) 2 0 0,.int .i64 1] (cG s false) (pF 8 s false):=(wi 8 (by decide)).2 s false h
def uC (x:Tree) (h:x.wt≤B):au Tryd.prog (gM mm) 18 [x.av] (.gf [.int .i64 x.dep,.int .i64 x.jz]):=Gt ED x h
def te (l:List Tree) (h:dE l≤B):au Tryd.prog (gM mm) 81 [.list (dq l)] (.bool (bQ none l)):=xY uY uZ Pn y6 u0 l h
def Cq (x:Tree) (h:x.wt≤B):au Tryd.prog (gM mm) 26 [x.av] (.bool x.d_):=Gp EE x (uC x h) (Gu uY uZ Pn y6 u0 x h)
def Sd (l:List Tree) (h:dE l≤B):au Tryd.prog (gM mm) 28 [.list (dq l)] (.bool (content l)):=
 R1 RP l h (fun x hx=>uC x (by have:=j_ hx;omega)) (te l h)
def S' (xs ys:List Tree) (h:dE xs≤B):au Tryd.prog (gM mm) 54 [.list (dq xs),.list (dq ys)] (.bool (P2 xs ys)):=QN P8 Q5 xs ys h
def Ql (x y:Tree) (h:x.wt≤B):au Tryd.prog (gM mm) 52 [x.av,y.av] (.bool (P2 x y)):=
 P5 P8 x y (by have:=lY x;have:=iz x.attrs;omega) (S' _ _ (by have:=jA x;omega))
def JK (x:Tree) (h:7*x.wt≤2^40):au Tryd.prog (gM mm) 90 [.nil0,x.av] (.list (a7 x.sh)):=by
 have:=Ee (G:=gM mm) Ew (fun xs s v hb=>Bi Bx xs s v hb) x.wt x [] (Va _) (by simpa using h);rw[VH] at this;exact rJ this (by decide) (by simp[ah,AV.an,Tree.av]) (jh _)
def za (x:Tree) (h:x.wt≤B):au Tryd.prog (gM mm) 49 [x.av] (.gf [.str (dh x).1,.int .i64 (dh x).2]):=yU yX x h (Cq x h) (JK x (by unfold B at h;omega))
def EF (s:Bs) (h:s.length≤B):au Tryd.prog (gM mm) 51 [.str s] (.gf [(jD s).1.av,.int .i64 (jD s).2]):=yV yY s h G_ (fun x hx=>Cq x (by unfold B;omega))
def S_ (s:Bs) (h:s.length≤B):au Tryd.prog (gM mm) 53 [.str s] (.gf [.list (dq (NQ s).1),.int .i64 (NQ s).2]):=Q3 Q4 s h TJ (fun l hl=>Sd l (by unfold B;omega))
end Go.Proofs.YtfinkeaikbmpgaaDoor
