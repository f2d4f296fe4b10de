import Derived.Test.YtfinkeaikbmpgaaGreatDoorE41
import Derived.Test.YtfinkeaikbmpgaaGreatDoorKT67
set_option linter.unusedSimpArgs false
set_option linter.unusedVariables false
set_option linter.unnecessarySimpa false
set_option linter.defProp false
/- Functions of this seat, read with the table of entities known: mark. -/
namespace Go.Proofs.YtfinkeaikbmpgaaGreatDoor
open Go Go.Am Go.ChangeShapes
variable {t1 t2:Nat}
def yX:aw Tryz.prog (gS t1 t2) 27=some (15,[(none,2),(none,3)],(jE 56 60).bare):=Po
def Ew:aw Tryz.prog (gS t1 t2) 60=some (69,[(none,4)],(ld 98 60).bare):=Po
def Bx:aw Tryz.prog (gS t1 t2) 98=some (46,[(none,6)],iN.bare):=Po
def yY:aw Tryz.prog (gS t1 t2) 51=some (33,[((some (some 4)),2),(none,3)],(jF 95 56).bare):=Po
def Q4:aw Tryz.prog (gS t1 t2) 84=some (31,[(none,2),(none,3)],(Ow 126 127).bare):=Po
def yZ:aw Tryz.prog (gS t1 t2) 95=some (51,[((some (some 4)),4)],(ek 136 137 138 139 126 140).bare):=Po
def Ex:aw Tryz.prog (gS t1 t2) 126=some (45,[(none,4)],(alJ 171 95 124).bare):=Po
def By:aw Tryz.prog (gS t1 t2) 138=some (54,[(none,2)],(eV 140 137 136 124 182 183).bare):=Po
def Ey:aw Tryz.prog (gS t1 t2) 137=some (63,[(none,2)],fa.bare):=Po
def Bz:aw Tryz.prog (gS t1 t2) 140=some (24,[(none,2)],(eU 184).bare):=Po
def Ez:aw Tryz.prog (gS t1 t2) 136=some (11,[],(e_ 139).bare):=Po
def JH:aw Tryz.prog (gS t1 t2) 139=some (22,[(none,4)],(gd 118).bare):=Po
def EA:aw Tryz.prog (gS t1 t2) 124=some (86,[(none,4)],(alI 139 170).bare):=Po
def G5:aw Tryz.prog (gS t1 t2) 183=some (10,[(none,4)],(NG 150).bare):=Po
def BA:aw Tryz.prog (gS t1 t2) 170=some (19,[(none,4)],cA.bare):=Po
def wg:aw Tryz.prog (gS t1 t2) 184=some (37,[(none,4)],(e8 157 159 160 162).bare):=Po
def EB:aw Tryz.prog (gS t1 t2) 182=some (9,[],(ct 211).bare):=Po
def BB:aw Tryz.prog (gS t1 t2) 211=some (63,[],(alp 228 229).bare):=Po
def BC:aw Tryz.prog (gS t1 t2) 228=some (53,[],cm.bare):=Po
def G6:aw Tryz.prog (gS t1 t2) 229=some (220,[],(cQ 243 229).bare):=Po
def BD:aw Tryz.prog (gS t1 t2) 243=some (58,[],(alo 248).bare):=Po
def EC:aw Tryz.prog (gS t1 t2) 248=some (38,[],cO.bare):=Po
def y5:aw Tryz.prog (gS t1 t2) 150=some (8,[(none,4)],(fI 187).bare):=Po
def tJ:aw Tryz.prog (gS t1 t2) 187=some (8,[(none,4)],(cB 213).bare):=Po
def Pg:aw Tryz.prog (gS t1 t2) 159=some (21,[((some (some 256)),2),(none,3)],Wg.bare):=Po
def G7:aw Tryz.prog (gS t1 t2) 191=some (10,[(none,4)],VN.bare):=Po
def BE:aw Tryz.prog (gS t1 t2) 160=some (16,[(none,4)],(cS 191).bare):=Po
def r_:aw Tryz.prog (gS t1 t2) 195=some (18,[(none,4)],cy.bare):=Po
def sa:aw Tryz.prog (gS t1 t2) 171=some (8,[(none,4)],(eW 195).bare):=Po
def oS:aw Tryz.prog (gS t1 t2) 164=some (15,[(none,4),(none,5)],(cz 195).bare):=Po
def sb:aw Tryz.prog (gS t1 t2) 118=some (11,[(none,4),(none,5)],(eT 164).bare):=Po
def uY:aw Tryz.prog (gS t1 t2) 125=some (29,[(none,2)],nZ.bare):=Po
def uZ:aw Tryz.prog (gS t1 t2) 53=some (28,[(none,2)],n4.bare):=Po
def Pn:aw Tryz.prog (gS t1 t2) 141=some (41,[(none,2)],(hZ 53 125).bare):=Po
def ED:aw Tryz.prog (gS t1 t2) 96=some (32,[(none,2),(none,3)],(uz 96).bare):=Po
def y6:aw Tryz.prog (gS t1 t2) 97=some (38,[(none,2)],(rr 125 53 141 142).bare):=Po
def u0:aw Tryz.prog (gS t1 t2) 142=some (32,[(none,2)],(n_ 97).bare):=Po
def EE:aw Tryz.prog (gS t1 t2) 56=some (25,[(none,2)],(xW 96 97).bare):=Po
def RP:aw Tryz.prog (gS t1 t2) 127=some (31,[(none,2)],(Ot 96 142).bare):=Po
def JI (N:Nat) (s t:Bs) (H:Hp):sZ ⟨Tryz.prog,(gS t1 t2),N⟩ 213 [.str s,.str t] H (.int .i64 (Lib.compareBytes s t)):=
 rN (fn:=(Tryz.prog.funcs[213]?).getD default) Po Po Po Po Po s t H
def ot (s t:Bs):au Tryz.prog (gS t1 t2) 195 [.str s,.str t] (.bool (t.isPrefixOf s)):=anb r_ s t
def aov (s t:Bs):au Tryz.prog (gS t1 t2) 118 [.str s,.str t] (.gf [.str (if t.isPrefixOf s then s.drop t.length else s),.bool (t.isPrefixOf s)]):=
 tu sb s t (qu oS s t (ot s t))
def HW (s p:Bs) (b:Bool):cR Tryz.prog (gS t1 t2) 139 [.ptr (.par 0) 2 0 0,.str p] (cG s b) fun x cs=>x= .bool (p.isPrefixOf s)∧cs=cG (cZ p s) b:=Jl JH aov s p b
def y7 (s p:Bs) (b:Bool):cR Tryz.prog (gS t1 t2) 136 [.ptr (.par 0) 2 0 0,.str p] (cG s b) fun x cs=>cs=cG (cZ p s) (b|| !p.isPrefixOf s):=Ei Ez s p b (HW s p b)
def G8 (s:Bs) (h:s.length≤B):au Tryz.prog (gS t1 t2) 184 [.str s,.str [32,10]] (.str (s.dropWhile isSp)):=by
 have:=Eh (G:=gS t1 t2) wg s [32,10] h Pr (rB Pg [32,10] Pr Pr) (po BE _ _ h (mB G7 _));rw[Bm] at this;exact this
def aow (s:Bs) (b:Bool) (h:s.length≤B):cR Tryz.prog (gS t1 t2) 140 [.ptr (.par 0) 2 0 0] (cG s b) fun x cs=>x= .bool (decide ((s.dropWhile isSp).length<s.length))∧cs=cG (s.dropWhile isSp) b:=SB Bz s b (G8 s h)
def y8 (s:Bs) (b:Bool) (h:s.length≤B):cR Tryz.prog (gS t1 t2) 137 [.ptr (.par 0) 2 0 0] (cG s b) fun x cs=>x= .str (s.takeWhile akP)∧cs=cG (s.dropWhile akP) (b||(decide (s.takeWhile akP=[])||decide (8<(s.takeWhile akP).length))):=Ej Ey s h b
def Co (v:Bool) (s:Bs) (b:Bool) (h:s.length≤B):cR Tryz.prog (gS t1 t2) 124 [.ptr (.par 0) 2 0 0,.bool v] (cG s b) (rO v s b):=El EA (fun s b=>Bo BA Po HW s b) v s h b
def Cp (a b:Attr):au Tryz.prog (gS t1 t2) 183 [a.yO,b.yO] (.int .i64 (om a b)):=GY G5 a b (yP y5 _ _ (anh tJ JI _ _))
def y9:fU Tryz.prog 183=true:=Po
def G9 (l:List Attr) (hl:l.length≤B) (a b n:Nat) (ha:a+n≤l.length) (hb:b+n≤l.length) :
 ig Tryz.prog (gS t1 t2) 248 [.sl (.par 0) 2 0 l.length,.int .i64 a,.int .i64 b,.int .i64 n,.fn 183 [] []] 2 (cD l) (kP l):=tF (.fn 183 [] []) rfl EC l hl a b n ha hb
def BF (l:List Attr) (hl:l.length≤B) (a m b:Nat) (ha:a<m) (hm:m<b) (hb:b≤l.length) :
 ig Tryz.prog (gS t1 t2) 243 [.sl (.par 0) 2 0 l.length,.int .i64 a,.int .i64 m,.int .i64 b,.fn 183 [] []] 2 (cD l) (kP l):=Bt 183 BD G9 l hl a m b ha hm hb
def JJ (l:List Attr) (hl:l.length≤B) (a m b:Nat) (ha:a<m) (hm:m<b) (hb:b≤l.length) :
 ig Tryz.prog (gS t1 t2) 229 [.sl (.par 0) 2 0 l.length,.int .i64 a,.int .i64 m,.int .i64 b,.fn 183 [] []] 2 (cD l) (kP l):=wb G6 y9 Cp BF (b - a) l hl a m b ha hm hb (eM _)
def G' (l:List Attr) (hl:l.length≤B):ig Tryz.prog (gS t1 t2) 182 [.sl (.par 0) 2 0 l.length,.fn 183 [] []] 2 (cD l) fun x ys=>∃zs:List Attr,ys=cD zs∧zs.Perm l∧(l.length≤20→zs=cu l):=
 rV EB l (Bu BB (fun l hl a b h1 h2=>Br BC y9 Cp l hl a b h1 h2) JJ l hl)
def y_ (s:Bs) (b:Bool) (h:s.length≤B):cR Tryz.prog (gS t1 t2) 138 [.ptr (.par 0) 2 0 0] (cG s b) (qw s b):=Bp By aow y8 y7 Co G' s h b
def wi:∀d:Nat,d≤9→(∀(s:Bs) (b:Bool),s.length≤B→cR Tryz.prog (gS t1 t2) 95 [.ptr (.par 0) 2 0 0,.int .i64 (9 - d:Int)] (cG s b) (rR d s b)) ∧
  (∀(s:Bs) (b:Bool),s.length≤B→cR Tryz.prog (gS t1 t2) 126 [.ptr (.par 0) 2 0 0,.int .i64 (9 - d:Int)] (cG s b) (pF d s b)):=by
 have kids:∀d:Nat,(∀(s:Bs) (b:Bool),s.length≤B→cR Tryz.prog (gS t1 t2) 95 [.ptr (.par 0) 2 0 0,.int .i64 (9 - d:Int)] (cG s b) (rR d s b)) →
   (∀(s:Bs) (b:Bool),s.length≤B→cR Tryz.prog (gS t1 t2) 126 [.ptr (.par 0) 2 0 0,.int .i64 (9 - d:Int)] (cG s b) (pF d s b)):=
  fun d e s b h=>Er Ex (fun s t=>rZ sa s t (ot s t)) Co d e s h b
 intro d;induction d with
 |zero=>
  intro _;have e:=fun(s:Bs) (b:Bool) (h:s.length≤B)=>yL (G:=gS t1 t2) yZ aow y8 y7 HW y_ 0 Pr (fun d' h=>by omega) s h b;exact⟨e,kids 0 e⟩
 |succ d ih=>
 intro hd;have ih:=(ih tM).2;have st:∀d',d+1=d'+1→∀(s:Bs) (b:Bool),s.length≤B→cR Tryz.prog (gS t1 t2) 126 [.ptr (.par 0) 2 0 0,.int .i64 (9 - d':Int)] (cG s b) (pF d' s b):=by
  intro d' B5;obtain rfl:d=d':=tM
  exact ih
 have e:=fun(s:Bs) (b:Bool) (h:s.length≤B)=>yL (G:=gS t1 t2) yZ aow y8 y7 HW y_ (d+1) hd st s h b;exact⟨e,kids (d+1) e⟩
def G_ (s:Bs) (h:s.length≤B):cR Tryz.prog (gS t1 t2) 95 [.ptr (.par 0) 2 0 0,.int .i64 1] (cG s false) (rR 8 s false):=(wi 8 Pr).1 s false h
def TJ (s:Bs) (h:s.length≤B):cR Tryz.prog (gS t1 t2) 126 [.ptr (.par 0) 2 0 0,.int .i64 1] (cG s false) (pF 8 s false):=(wi 8 Pr).2 s false h
def anW (x:Tree) (h:x.wt≤B):au Tryz.prog (gS t1 t2) 96 [x.av] (.gf [.int .i64 x.dep,.int .i64 x.jz]):=Gt ED x h
def te (l:List Tree) (h:dE l≤B):au Tryz.prog (gS t1 t2) 142 [.list (dq l)] (.bool (bQ none l)):=xY uY uZ Pn y6 u0 l h
def Cq (x:Tree) (h:x.wt≤B):au Tryz.prog (gS t1 t2) 56 [x.av] (.bool x.d_):=Gp EE x (anW x h) (Gu uY uZ Pn y6 u0 x h)
def Sd (l:List Tree) (h:dE l≤B):au Tryz.prog (gS t1 t2) 127 [.list (dq l)] (.bool (content l)):=
 R1 RP l h (fun x hx=>anW x (by have:=j_ hx;omega)) (te l h)
def JK (x:Tree) (h:7*x.wt≤2^40):au Tryz.prog (gS t1 t2) 60 [.nil0,x.av] (.list (a7 x.sh)):=by
 have:=Ee (G:=gS t1 t2) Ew (fun xs s v hb=>Bi Bx xs s v hb) x.wt x [] (eM _) (by simpa using h);rw[List.nil_append] at this;exact rJ this Pr P6 (jh _)
def za (x:Tree) (h:x.wt≤B):au Tryz.prog (gS t1 t2) 27 [x.av] (.gf [.str (dh x).1,.int .i64 (dh x).2]):=yU yX x h (Cq x h) (JK x (by unfold B at h;omega))
def EF (s:Bs) (h:s.length≤B):au Tryz.prog (gS t1 t2) 51 [.str s] (.gf [(jD s).1.av,.int .i64 (jD s).2]):=yV yY s h G_ (fun x hx=>Cq x (by unfold B;omega))
def S_ (s:Bs) (h:s.length≤B):au Tryz.prog (gS t1 t2) 84 [.str s] (.gf [.list (dq (NQ s).1),.int .i64 (NQ s).2]):=Q3 Q4 s h TJ (fun l hl=>Sd l (by unfold B;omega))
end Go.Proofs.YtfinkeaikbmpgaaGreatDoor
