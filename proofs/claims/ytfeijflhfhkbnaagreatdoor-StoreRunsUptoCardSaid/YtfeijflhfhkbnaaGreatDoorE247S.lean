import Derived.Test.YtfeijflhfhkbnaaGreatDoorE241S
import Derived.Test.YtfeijflhfhkbnaaGreatDoorKT67S
set_option linter.all false
/- Functions of this seat, read with the table of entities known: mark. -/
namespace Go.Proofs.YtfeijflhfhkbnaaGreatDoor
open Go Go.Am Go.ChangeShapes
variable {t1 t2:Nat}
def aeV (N:Nat) (s t:Bs) (H:Hp):lT ⟨Tryz.prog,(gS t1 t2),N⟩ 205 [.str s,.str t] H (.int .i64 (Lib.compareBytes s t)):=
 xR (fn:=(Tryz.prog.funcs[205]?).getD default) ajQ ajQ ajQ ajQ ajQ s t H
def t_ (s t:Bs):aj Tryz.prog (gS t1 t2) 127 [.str s,.str t] (.bool (t.isPrefixOf s)):=Ak s t
def I8 (s t:Bs):aj Tryz.prog (gS t1 t2) 48 [.str s,.str t] (.bq [.str (if t.isPrefixOf s then s.drop t.length else s),.bool (t.isPrefixOf s)]):=
 Al s t (vz s t (t_ s t))
def eAt (s p:Bs) (b:Bool):cM Tryz.prog (gS t1 t2) 90 [.ptr (.par 0) 2 0 0,.str p] (dz s b) λx cs=>x= .bool (p.isPrefixOf s)/\cs=dz (eB p s) b:=aep I8 s p b
def Rc (s p:Bs) (b:Bool):cM Tryz.prog (gS t1 t2) 107 [.ptr (.par 0) 2 0 0,.str p] (dz s b) λx cs=>cs=dz (eB p s) (b|| !p.isPrefixOf s):=YC s p b (eAt s p b)
def VX (s:Bs) (h:s.length<=B):aj Tryz.prog (gS t1 t2) 145 [.str s,.str [32,10]] (.str (s.dropWhile isSp)):=by
 have:=Qr (P:=Tryz.prog) (G:=gS t1 t2) s [32,10] h ajN (qP [32,10] ajN ajN) (rS _ _ h (kS _));rw[yW] at this;exact this
def I9 (s:Bs) (b:Bool) (h:s.length<=B):cM Tryz.prog (gS t1 t2) 110 [.ptr (.par 0) 2 0 0] (dz s b) λx cs=>x= .bool (decide ((s.dropWhile isSp).length<s.length))/\cs=dz (s.dropWhile isSp) b:=TV s b (VX s h)
def Rd (s:Bs) (b:Bool) (h:s.length<=B):cM Tryz.prog (gS t1 t2) 108 [.ptr (.par 0) 2 0 0] (dz s b) λx cs=>x= .str (s.takeWhile aY)/\cs=dz (s.dropWhile aY) (b||(decide (s.takeWhile aY=[])||decide (8<(s.takeWhile aY).length))):=YD s h b
def Re (v:Bool) (s:Bs) (b:Bool) (h:s.length<=B):cM Tryz.prog (gS t1 t2) 54 [.ptr (.par 0) 2 0 0,.bool v] (dz s b) (CF v s b):=YE (λs b=>TW ajQ eAt s b) v s h b
def VY (a b:Attr):aj Tryz.prog (gS t1 t2) 149 [a.IL,b.IL] (.int .i64 (BE a b)):=acj a b (Gg _ _ (Ay aeV _ _))
def Rf:dE Tryz.prog 149=true:=ajQ
def acW (l:List Attr) (hl:l.length<=B) (a b n:Nat) (ha:a+n<=l.length) (hb:b+n<=l.length) :
 nN Tryz.prog (gS t1 t2) 221 [.sl (.par 0) 2 0 l.length,.int .i64 a,.int .i64 b,.int .i64 n,.fn 149 [] []] 2 (aQ l) (s6 l):=I5 (.fn 149 [] []) rfl l hl a b n ha hb
def Ui (l:List Attr) (hl:l.length<=B) (a m b:Nat) (ha:a<m) (hm:m<b) (hb:b<=l.length) :
 nN Tryz.prog (gS t1 t2) 216 [.sl (.par 0) 2 0 l.length,.int .i64 a,.int .i64 m,.int .i64 b,.fn 149 [] []] 2 (aQ l) (s6 l):=Ug 149 acW l hl a m b ha hm hb
def aeW (l:List Attr) (hl:l.length<=B) (a m b:Nat) (ha:a<m) (hm:m<b) (hb:b<=l.length) :
 nN Tryz.prog (gS t1 t2) 204 [.sl (.par 0) 2 0 l.length,.int .i64 a,.int .i64 m,.int .i64 b,.fn 149 [] []] 2 (aQ l) (s6 l):=Na Rf VY Ui (b - a) l hl a m b ha hm hb (af6 _)
def acX (l:List Attr) (hl:l.length<=B):nN Tryz.prog (gS t1 t2) 148 [.sl (.par 0) 2 0 l.length,.fn 149 [] []] 2 (aQ l) λx ys=>∃zs:List Attr,ys=aQ zs/\zs.Perm l/\(l.length<=20->zs=df l):=
 GQ l (Uh (λl hl a b h1 h2=>TY Rf VY l hl a b h1 h2) aeW l hl)
def Rg (s:Bs) (b:Bool) (h:s.length<=B):cM Tryz.prog (gS t1 t2) 109 [.ptr (.par 0) 2 0 0] (dz s b) (DR s b):=TX I9 Rd Rc Re acX s h b
def CR:∀d:Nat,d<=9->(∀(s:Bs) (b:Bool),s.length<=B->cM Tryz.prog (gS t1 t2) 69 [.ptr (.par 0) 2 0 0,.int .i64 (9 - d:Int)] (dz s b) (Gf d s b)) /\
  (∀(s:Bs) (b:Bool),s.length<=B->cM Tryz.prog (gS t1 t2) 56 [.ptr (.par 0) 2 0 0,.int .i64 (9 - d:Int)] (dz s b) (xY d s b)):=by
 have kids:∀d:Nat,(∀(s:Bs) (b:Bool),s.length<=B->cM Tryz.prog (gS t1 t2) 69 [.ptr (.par 0) 2 0 0,.int .i64 (9 - d:Int)] (dz s b) (Gf d s b)) ->
   (∀(s:Bs) (b:Bool),s.length<=B->cM Tryz.prog (gS t1 t2) 56 [.ptr (.par 0) 2 0 0,.int .i64 (9 - d:Int)] (dz s b) (xY d s b)):=
  λd e s b h=>YI (λs t=>yb s t (t_ s t)) Re d e s h b
 intro d;induction d with
 |zero=>
  intro _;have e:=λ(s:Bs) (b:Bool) (h:s.length<=B)=>Qw (P:=Tryz.prog) (G:=gS t1 t2) I9 Rd Rc eAt Rg 0 ajN (λd' h=>by omega) s h b;exact⟨e,kids 0 e⟩
 |succ d ih=>
 intro hd;have ih:=(ih ajK).2;have st:∀d',d+1=d'+1->∀(s:Bs) (b:Bool),s.length<=B->cM Tryz.prog (gS t1 t2) 56 [.ptr (.par 0) 2 0 0,.int .i64 (9 - d':Int)] (dz s b) (xY d' s b):=by
  intro d' hd';obtain rfl:d=d':=ajK
  exact ih
 have e:=λ(s:Bs) (b:Bool) (h:s.length<=B)=>Qw (P:=Tryz.prog) (G:=gS t1 t2) I9 Rd Rc eAt Rg (d+1) hd st s h b;exact⟨e,kids (d+1) e⟩
def acY (s:Bs) (h:s.length<=B):cM Tryz.prog (gS t1 t2) 69 [.ptr (.par 0) 2 0 0,.int .i64 1] (dz s false) (Gf 8 s false):=(CR 8 ajN).1 s false h
def acZ (s:Bs) (h:s.length<=B):cM Tryz.prog (gS t1 t2) 56 [.ptr (.par 0) 2 0 0,.int .i64 1] (dz s false) (xY 8 s false):=(CR 8 ajN).2 s false h
def Fc (x:Tree) (h:x.wt<=B):aj Tryz.prog (gS t1 t2) 92 [x.av] (.bq [.int .i64 x.dep,.int .i64 x.cC]):=Vx x h
def Dv (l:List Tree) (h:bH l<=B):aj Tryz.prog (gS t1 t2) 93 [.list (aM l)] (.bool (cD none l)):=Ic l h
def VZ (x:Tree) (h:x.wt<=B):aj Tryz.prog (gS t1 t2) 67 [x.av] (.bool x.cA):=Vv x (Fc x h) (Vy x h)
def Rh (l:List Tree) (h:bH l<=B):aj Tryz.prog (gS t1 t2) 57 [.list (aM l)] (.bool (content l)):=
 Fx l h (λx hx=>Fc x anq) (Dv l h)
def aeX (x:Tree) (h:7*x.wt<=2^40):aj Tryz.prog (gS t1 t2) 74 [.nil0,x.av] (.list (bo x.sh)):=by
 have:=YB (P:=Tryz.prog) (G:=gS t1 t2) (λxs s v hb=>TS xs s v hb) x.wt x [] (af6 _) aj6;rw[List.nil_append] at this;exact F2 this ajN akb (o6 _)
def Y9 (x:Tree) (h:x.wt<=B):aj Tryz.prog (gS t1 t2) 35 [x.av] (.bq [.str (dI x).1,.int .i64 (dI x).2]):=Ra x h (VZ x h) (aeX x (by unfold B at h;omega))
def Y' (s:Bs) (h:s.length<=B):aj Tryz.prog (gS t1 t2) 32 [.str s] (.bq [(cj s).1.av,.int .i64 (cj s).2]):=Rb s h acY (λx hx=>VZ x akh)
def Y_ (s:Bs) (h:s.length<=B):aj Tryz.prog (gS t1 t2) 22 [.str s] (.bq [.list (aM (eC s).1),.int .i64 (eC s).2]):=I7 s h acZ (λl hl=>Rh l akh)
end Go.Proofs.YtfeijflhfhkbnaaGreatDoor
