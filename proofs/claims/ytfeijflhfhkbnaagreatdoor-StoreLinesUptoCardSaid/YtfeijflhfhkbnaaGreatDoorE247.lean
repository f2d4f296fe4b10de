import Derived.Test.YtfeijflhfhkbnaaGreatDoorE241
import Derived.Test.YtfeijflhfhkbnaaGreatDoorKT67
set_option linter.all false
/- Functions of this seat, read with the table of entities known: mark. -/
namespace Go.Proofs.YtfeijflhfhkbnaaGreatDoor
open Go Go.Am Go.ChangeShapes
variable {t1 t2:Nat}
def yX:aw Tryz.prog (gS t1 t2) 35=some (15,[(none,2),(none,3)],(jE 67 74).bare):=Yn
def Ew:aw Tryz.prog (gS t1 t2) 74=some (69,[(none,4)],(ld 118 74).bare):=Yn
def Bx:aw Tryz.prog (gS t1 t2) 118=some (46,[(none,6)],iN.bare):=Yn
def Q4:aw Tryz.prog (gS t1 t2) 22=some (31,[(none,2),(none,3)],(Ow 56 57).bare):=Yn
def yZ:aw Tryz.prog (gS t1 t2) 69=some (51,[((some (some 4)),4)],(ek 107 108 109 90 56 110).bare):=Yn
def Ex:aw Tryz.prog (gS t1 t2) 56=some (45,[(none,4)],(alJ 91 69 54).bare):=Yn
def By:aw Tryz.prog (gS t1 t2) 109=some (54,[(none,2)],(eV 110 108 107 54 148 149).bare):=Yn
def Ey:aw Tryz.prog (gS t1 t2) 108=some (63,[(none,2)],fa.bare):=Yn
def Bz:aw Tryz.prog (gS t1 t2) 110=some (24,[(none,2)],(eU 145).bare):=Yn
def Ez:aw Tryz.prog (gS t1 t2) 107=some (11,[],(e_ 90).bare):=Yn
def JH:aw Tryz.prog (gS t1 t2) 90=some (22,[(none,4)],(gd 48).bare):=Yn
def EA:aw Tryz.prog (gS t1 t2) 54=some (86,[(none,4)],(alI 90 89).bare):=Yn
def G5:aw Tryz.prog (gS t1 t2) 149=some (10,[(none,4)],(NG 150).bare):=Yn
def BA:aw Tryz.prog (gS t1 t2) 89=some (19,[(none,4)],cA.bare):=Yn
def ato:aw Tryz.prog (gS t1 t2) 145=some (37,[(none,4)],(as5 174 140 175 176).bare):=Yn
def EB:aw Tryz.prog (gS t1 t2) 148=some (9,[],(ct 181).bare):=Yn
def BB:aw Tryz.prog (gS t1 t2) 181=some (63,[],(alp 203 204).bare):=Yn
def BC:aw Tryz.prog (gS t1 t2) 203=some (53,[],cm.bare):=Yn
def G6:aw Tryz.prog (gS t1 t2) 204=some (220,[],(cQ 216 204).bare):=Yn
def BD:aw Tryz.prog (gS t1 t2) 216=some (58,[],(alo 221).bare):=Yn
def EC:aw Tryz.prog (gS t1 t2) 221=some (38,[],cO.bare):=Yn
def y5:aw Tryz.prog (gS t1 t2) 150=some (8,[(none,4)],(fI 182).bare):=Yn
def tJ:aw Tryz.prog (gS t1 t2) 182=some (8,[(none,4)],(cB 205).bare):=Yn
def Pg:aw Tryz.prog (gS t1 t2) 140=some (21,[((some (some 256)),2),(none,3)],Wg.bare):=Yn
def G7:aw Tryz.prog (gS t1 t2) 177=some (10,[(none,4)],VN.bare):=Yn
def BE:aw Tryz.prog (gS t1 t2) 175=some (16,[(none,4)],(cS 177).bare):=Yn
def r_:aw Tryz.prog (gS t1 t2) 127=some (18,[(none,4)],cy.bare):=Yn
def sa:aw Tryz.prog (gS t1 t2) 91=some (8,[(none,4)],(eW 127).bare):=Yn
def oS:aw Tryz.prog (gS t1 t2) 83=some (15,[(none,4),(none,5)],(cz 127).bare):=Yn
def sb:aw Tryz.prog (gS t1 t2) 48=some (11,[(none,4),(none,5)],(eT 83).bare):=Yn
def uY:aw Tryz.prog (gS t1 t2) 55=some (29,[(none,2)],nZ.bare):=Yn
def uZ:aw Tryz.prog (gS t1 t2) 88=some (28,[(none,2)],atk.bare):=Yn
def Pn:aw Tryz.prog (gS t1 t2) 147=some (41,[(none,2)],(hZ 88 55).bare):=Yn
def ED:aw Tryz.prog (gS t1 t2) 92=some (32,[(none,2),(none,3)],(uz 92).bare):=Yn
def y6:aw Tryz.prog (gS t1 t2) 106=some (38,[(none,2)],(rr 55 88 147 93).bare):=Yn
def u0:aw Tryz.prog (gS t1 t2) 93=some (32,[(none,2)],(n_ 106).bare):=Yn
def EE:aw Tryz.prog (gS t1 t2) 67=some (25,[(none,2)],(xW 92 106).bare):=Yn
def RP:aw Tryz.prog (gS t1 t2) 57=some (31,[(none,2)],(Ot 92 93).bare):=Yn
def JI (N:Nat) (s t:Bs) (H:Hp):sZ ⟨Tryz.prog,(gS t1 t2),N⟩ 205 [.str s,.str t] H (.int .i64 (Lib.compareBytes s t)):=
 rN (fn:=(Tryz.prog.funcs[205]?).getD default) Yn Yn Yn Yn Yn s t H
def ot (s t:Bs):au Tryz.prog (gS t1 t2) 127 [.str s,.str t] (.bool (t.isPrefixOf s)):=anb r_ s t
def aov (s t:Bs):au Tryz.prog (gS t1 t2) 48 [.str s,.str t] (.gf [.str (if t.isPrefixOf s then s.drop t.length else s),.bool (t.isPrefixOf s)]):=
 tu sb s t (qu oS s t (ot s t))
def HW (s p:Bs) (b:Bool):cR Tryz.prog (gS t1 t2) 90 [.ptr (.par 0) 2 0 0,.str p] (cG s b) λx cs=>x= .bool (p.isPrefixOf s)/\cs=cG (cZ p s) b:=Jl JH aov s p b
def y7 (s p:Bs) (b:Bool):cR Tryz.prog (gS t1 t2) 107 [.ptr (.par 0) 2 0 0,.str p] (cG s b) λx cs=>cs=cG (cZ p s) (b|| !p.isPrefixOf s):=Ei Ez s p b (HW s p b)
def G8 (s:Bs) (h:s.length<=B):au Tryz.prog (gS t1 t2) 145 [.str s,.str [32,10]] (.str (s.dropWhile isSp)):=by
 have:=Eh (G:=gS t1 t2) ato s [32,10] h M3 (rB Pg [32,10] M3 M3) (po BE _ _ h (mB G7 _));rw[Bm] at this;exact this
def aow (s:Bs) (b:Bool) (h:s.length<=B):cR Tryz.prog (gS t1 t2) 110 [.ptr (.par 0) 2 0 0] (cG s b) λx cs=>x= .bool (decide ((s.dropWhile isSp).length<s.length))/\cs=cG (s.dropWhile isSp) b:=SB Bz s b (G8 s h)
def y8 (s:Bs) (b:Bool) (h:s.length<=B):cR Tryz.prog (gS t1 t2) 108 [.ptr (.par 0) 2 0 0] (cG s b) λx cs=>x= .str (s.takeWhile akP)/\cs=cG (s.dropWhile akP) (b||(decide (s.takeWhile akP=[])||decide (8<(s.takeWhile akP).length))):=Ej Ey s h b
def Co (v:Bool) (s:Bs) (b:Bool) (h:s.length<=B):cR Tryz.prog (gS t1 t2) 54 [.ptr (.par 0) 2 0 0,.bool v] (cG s b) (rO v s b):=El EA (λs b=>Bo BA Yn HW s b) v s h b
def Cp (a b:Attr):au Tryz.prog (gS t1 t2) 149 [a.yO,b.yO] (.int .i64 (om a b)):=GY G5 a b (yP y5 _ _ (anh tJ JI _ _))
def y9:fU Tryz.prog 149=true:=Yn
def G9 (l:List Attr) (hl:l.length<=B) (a b n:Nat) (ha:a+n<=l.length) (hb:b+n<=l.length) :
 ig Tryz.prog (gS t1 t2) 221 [.sl (.par 0) 2 0 l.length,.int .i64 a,.int .i64 b,.int .i64 n,.fn 149 [] []] 2 (cD l) (kP l):=tF (.fn 149 [] []) rfl EC l hl a b n ha hb
def BF (l:List Attr) (hl:l.length<=B) (a m b:Nat) (ha:a<m) (hm:m<b) (hb:b<=l.length) :
 ig Tryz.prog (gS t1 t2) 216 [.sl (.par 0) 2 0 l.length,.int .i64 a,.int .i64 m,.int .i64 b,.fn 149 [] []] 2 (cD l) (kP l):=Bt 149 BD G9 l hl a m b ha hm hb
def JJ (l:List Attr) (hl:l.length<=B) (a m b:Nat) (ha:a<m) (hm:m<b) (hb:b<=l.length) :
 ig Tryz.prog (gS t1 t2) 204 [.sl (.par 0) 2 0 l.length,.int .i64 a,.int .i64 m,.int .i64 b,.fn 149 [] []] 2 (cD l) (kP l):=wb G6 y9 Cp BF (b - a) l hl a m b ha hm hb (PW _)
def au6 (l:List Attr) (hl:l.length<=B):ig Tryz.prog (gS t1 t2) 148 [.sl (.par 0) 2 0 l.length,.fn 149 [] []] 2 (cD l) λx ys=>∃zs:List Attr,ys=cD zs/\zs.Perm l/\(l.length<=20->zs=cu l):=
 rV EB l (Bu BB (λl hl a b h1 h2=>Br BC y9 Cp l hl a b h1 h2) JJ l hl)
def y_ (s:Bs) (b:Bool) (h:s.length<=B):cR Tryz.prog (gS t1 t2) 109 [.ptr (.par 0) 2 0 0] (cG s b) (qw s b):=Bp By aow y8 y7 Co au6 s h b
def wi:∀d:Nat,d<=9->(∀(s:Bs) (b:Bool),s.length<=B->cR Tryz.prog (gS t1 t2) 69 [.ptr (.par 0) 2 0 0,.int .i64 (9 - d:Int)] (cG s b) (rR d s b)) /\
  (∀(s:Bs) (b:Bool),s.length<=B->cR Tryz.prog (gS t1 t2) 56 [.ptr (.par 0) 2 0 0,.int .i64 (9 - d:Int)] (cG s b) (pF d s b)):=by
 have kids:∀d:Nat,(∀(s:Bs) (b:Bool),s.length<=B->cR Tryz.prog (gS t1 t2) 69 [.ptr (.par 0) 2 0 0,.int .i64 (9 - d:Int)] (cG s b) (rR d s b)) ->
   (∀(s:Bs) (b:Bool),s.length<=B->cR Tryz.prog (gS t1 t2) 56 [.ptr (.par 0) 2 0 0,.int .i64 (9 - d:Int)] (cG s b) (pF d s b)):=
  λd e s b h=>Er Ex (λs t=>rZ sa s t (ot s t)) Co d e s h b
 intro d;induction d with
 |zero=>
  intro _;have e:=λ(s:Bs) (b:Bool) (h:s.length<=B)=>yL (G:=gS t1 t2) yZ aow y8 y7 HW y_ 0 M3 (λd' h=>by omega) s h b;exact⟨e,kids 0 e⟩
 |succ d ih=>
 intro hd;have ih:=(ih sf).2;have st:∀d',d+1=d'+1->∀(s:Bs) (b:Bool),s.length<=B->cR Tryz.prog (gS t1 t2) 56 [.ptr (.par 0) 2 0 0,.int .i64 (9 - d':Int)] (cG s b) (pF d' s b):=by
  intro d' B5;obtain rfl:d=d':=sf
  exact ih
 have e:=λ(s:Bs) (b:Bool) (h:s.length<=B)=>yL (G:=gS t1 t2) yZ aow y8 y7 HW y_ (d+1) hd st s h b;exact⟨e,kids (d+1) e⟩
def TJ (s:Bs) (h:s.length<=B):cR Tryz.prog (gS t1 t2) 56 [.ptr (.par 0) 2 0 0,.int .i64 1] (cG s false) (pF 8 s false):=(wi 8 M3).2 s false h
def anW (x:Tree) (h:x.wt<=B):au Tryz.prog (gS t1 t2) 92 [x.av] (.gf [.int .i64 x.dep,.int .i64 x.jz]):=Gt ED x h
def te (l:List Tree) (h:dE l<=B):au Tryz.prog (gS t1 t2) 93 [.list (dq l)] (.bool (bQ none l)):=xY uY uZ Pn y6 u0 l h
def Cq (x:Tree) (h:x.wt<=B):au Tryz.prog (gS t1 t2) 67 [x.av] (.bool x.d_):=Gp EE x (anW x h) (Gu uY uZ Pn y6 u0 x h)
def Sd (l:List Tree) (h:dE l<=B):au Tryz.prog (gS t1 t2) 57 [.list (dq l)] (.bool (content l)):=
 R1 RP l h (λx hx=>anW x (by have:=j_ hx;omega)) (te l h)
def JK (x:Tree) (h:7*x.wt<=2^40):au Tryz.prog (gS t1 t2) 74 [.nil0,x.av] (.list (a7 x.sh)):=by
 have:=Ee (G:=gS t1 t2) Ew (λxs s v hb=>Bi Bx xs s v hb) x.wt x [] (PW _) (by simpa using h);rw[List.nil_append] at this;exact rJ this M3 aaJ (jh _)
def za (x:Tree) (h:x.wt<=B):au Tryz.prog (gS t1 t2) 35 [x.av] (.gf [.str (dh x).1,.int .i64 (dh x).2]):=yU yX x h (Cq x h) (JK x (by unfold B at h;omega))
def S_ (s:Bs) (h:s.length<=B):au Tryz.prog (gS t1 t2) 22 [.str s] (.gf [.list (dq (NQ s).1),.int .i64 (NQ s).2]):=Q3 Q4 s h TJ (λl hl=>Sd l (by unfold B;omega))
end Go.Proofs.YtfeijflhfhkbnaaGreatDoor
