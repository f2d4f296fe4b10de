import Derived.Test.YtfinkeaikbmpgaaGreatDoorE41
import Derived.Test.YtfinkeaikbmpgaaGreatDoorKT67
set_option linter.unusedSimpArgs false
set_option linter.unusedVariables false
set_option linter.unnecessarySimpa false
set_option linter.defProp false
/- Functions of this seat, read with the table of entities known: mark. -/
namespace Go.Proofs.YtfinkeaikbmpgaaGreatDoor
open Go Go.Am Go.ChangeShapes
variable {t1 t2:Nat}
def PR:an Tryz.prog (gS t1 t2) 27=some (15,[(none,2),(none,3)],(sy 56 60).bare):=by kernel_rfl
def XG:an Tryz.prog (gS t1 t2) 60=some (69,[(none,4)],(vZ 98 60).bare):=by kernel_rfl
def S2:an Tryz.prog (gS t1 t2) 98=some (46,[(none,6)],qO.bare):=by kernel_rfl
def PS:an Tryz.prog (gS t1 t2) 51=some (33,[((some (some 4)),2),(none,3)],(sB 95 56).bare):=by kernel_rfl
def Ix:an Tryz.prog (gS t1 t2) 84=some (31,[(none,2),(none,3)],(p_ 126 127).bare):=by kernel_rfl
def PT:an Tryz.prog (gS t1 t2) 95=some (51,[((some (some 4)),4)],(kz 136 137 138 139 126 140).bare):=by kernel_rfl
def XH:an Tryz.prog (gS t1 t2) 126=some (45,[(none,4)],(mC 171 95 124).bare):=by kernel_rfl
def S3:an Tryz.prog (gS t1 t2) 138=some (54,[(none,2)],(lW 140 137 136 124 182 183).bare):=by kernel_rfl
def XI:an Tryz.prog (gS t1 t2) 137=some (63,[(none,2)],mA.bare):=by kernel_rfl
def S4:an Tryz.prog (gS t1 t2) 140=some (24,[(none,2)],(lV 184).bare):=by kernel_rfl
def XJ:an Tryz.prog (gS t1 t2) 136=some (11,[],(mz 139).bare):=by kernel_rfl
def acV:an Tryz.prog (gS t1 t2) 139=some (22,[(none,4)],(n5 118).bare):=by kernel_rfl
def XK:an Tryz.prog (gS t1 t2) 124=some (86,[(none,4)],(mB 139 170).bare):=by kernel_rfl
def aa8:an Tryz.prog (gS t1 t2) 183=some (10,[(none,4)],(kA 150).bare):=by kernel_rfl
def S5:an Tryz.prog (gS t1 t2) 170=some (19,[(none,4)],gy.bare):=by kernel_rfl
def L6:an Tryz.prog (gS t1 t2) 184=some (37,[(none,4)],(my 157 159 160 162).bare):=by kernel_rfl
def XL:an Tryz.prog (gS t1 t2) 182=some (9,[],(f_ 211).bare):=by kernel_rfl
def S6:an Tryz.prog (gS t1 t2) 211=some (63,[],(iB 228 229).bare):=by kernel_rfl
def zL:an Tryz.prog (gS t1 t2) 228=some (53,[],fM.bare):=by kernel_rfl
def aa9:an Tryz.prog (gS t1 t2) 229=some (220,[],(g_ 243 229).bare):=by kernel_rfl
def S7:an Tryz.prog (gS t1 t2) 243=some (58,[],(iA 248).bare):=by kernel_rfl
def XM:an Tryz.prog (gS t1 t2) 248=some (38,[],gP.bare):=by kernel_rfl
def xl:an Tryz.prog (gS t1 t2) 150=some (8,[(none,4)],(jv 187).bare):=by kernel_rfl
def Iy:an Tryz.prog (gS t1 t2) 187=some (8,[(none,4)],(dJ 213).bare):=by kernel_rfl
def L7:an Tryz.prog (gS t1 t2) 159=some (21,[((some (some 256)),2),(none,3)],kf.bare):=by kernel_rfl
def aa':an Tryz.prog (gS t1 t2) 191=some (10,[(none,4)],ix.bare):=by kernel_rfl
def S8:an Tryz.prog (gS t1 t2) 160=some (16,[(none,4)],(jV 191).bare):=by kernel_rfl
def Gs:an Tryz.prog (gS t1 t2) 195=some (18,[(none,4)],eM.bare):=by kernel_rfl
def Gt:an Tryz.prog (gS t1 t2) 171=some (8,[(none,4)],(l5 195).bare):=by kernel_rfl
def B0:an Tryz.prog (gS t1 t2) 164=some (15,[(none,4),(none,5)],(eN 195).bare):=by kernel_rfl
def Gu:an Tryz.prog (gS t1 t2) 118=some (11,[(none,4),(none,5)],(jN 164).bare):=by kernel_rfl
def J9:an Tryz.prog (gS t1 t2) 125=some (29,[(none,2)],xJ.bare):=by kernel_rfl
def J':an Tryz.prog (gS t1 t2) 53=some (28,[(none,2)],xL.bare):=by kernel_rfl
def y_:an Tryz.prog (gS t1 t2) 141=some (41,[(none,2)],(nU 53 125).bare):=by kernel_rfl
def XN:an Tryz.prog (gS t1 t2) 96=some (32,[(none,2),(none,3)],(E5 96).bare):=by kernel_rfl
def PU:an Tryz.prog (gS t1 t2) 97=some (38,[(none,2)],(Cn 125 53 141 142).bare):=by kernel_rfl
def J_:an Tryz.prog (gS t1 t2) 142=some (32,[(none,2)],(xO 97).bare):=by kernel_rfl
def XO:an Tryz.prog (gS t1 t2) 56=some (25,[(none,2)],(Co 96 97).bare):=by kernel_rfl
def L8:an Tryz.prog (gS t1 t2) 127=some (31,[(none,2)],(ni 96 142).bare):=by kernel_rfl
def acW (N:Nat) (s t:Bs) (H:Hp):o7 ⟨Tryz.prog,(gS t1 t2),N⟩ 213 [.str s,.str t] H (.int .i64 (Lib.compareBytes s t)):=
 yK (fn:=(Tryz.prog.funcs[213]?).getD default) (by kernel_rfl) (by kernel_rfl) (by kernel_rfl) (by kernel_rfl) (by kernel_rfl) s t H
def Bz (s t:Bs):aw Tryz.prog (gS t1 t2) 195 [.str s,.str t] (.bool (t.isPrefixOf s)):=A0 Gs s t
def Iz (s t:Bs):aw Tryz.prog (gS t1 t2) 118 [.str s,.str t] (.dM [.str (if t.isPrefixOf s then s.drop t.length else s),.bool (t.isPrefixOf s)]):=
 A1 Gu s t (w8 B0 s t (Bz s t))
def eAt (s p:Bs) (b:Bool):ez Tryz.prog (gS t1 t2) 139 [.ptr (.par 0) 2 0 0,.str p] (gE s b) fun x cs=>x= .bool (p.isPrefixOf s)∧cs=gE (il p s) b:=acj acV Iz s p b
def PV (s p:Bs) (b:Bool):ez Tryz.prog (gS t1 t2) 136 [.ptr (.par 0) 2 0 0,.str p] (gE s b) fun x cs=>cs=gE (il p s) (b|| !p.isPrefixOf s):=W6 XJ s p b (eAt s p b)
def aa_ (s:Bs) (h:s.length≤B):aw Tryz.prog (gS t1 t2) 184 [.str s,.str [32,10]] (.str (s.dropWhile isSp)):=by
 have:=W5 (G:=gS t1 t2) L6 s [32,10] h (by decide) (N9 L7 [32,10] (by decide) (by decide)) (K6 S8 _ _ h (K4 aa' _));rw[Su] at this;exact this
def IA (s:Bs) (b:Bool) (h:s.length≤B):ez Tryz.prog (gS t1 t2) 140 [.ptr (.par 0) 2 0 0] (gE s b) fun x cs=>x= .bool (decide ((s.dropWhile isSp).length<s.length))∧cs=gE (s.dropWhile isSp) b:=Sv S4 s b (aa_ s h)
def PW (s:Bs) (b:Bool) (h:s.length≤B):ez Tryz.prog (gS t1 t2) 137 [.ptr (.par 0) 2 0 0] (gE s b) fun x cs=>x= .str (s.takeWhile dn)∧cs=gE (s.dropWhile dn) (b||(decide (s.takeWhile dn=[])||decide (8<(s.takeWhile dn).length))):=W7 XI s h b
def PX (v:Bool) (s:Bs) (b:Bool) (h:s.length≤B):ez Tryz.prog (gS t1 t2) 124 [.ptr (.par 0) 2 0 0,.bool v] (gE s b) (CV v s b):=W8 XK (fun s b=>Sw S5 (by kernel_rfl) eAt s b) v s h b
def UF (a b:Attr):aw Tryz.prog (gS t1 t2) 183 [a.HX,b.HX] (.int .i64 (Ba a b)):=aaz aa8 a b (FL xl _ _ (Bb Iy acW _ _))
def PY:jQ Tryz.prog 183=true:=by kernel_rfl
def aba (l:List Attr) (hl:l.length≤B) (a b n:Nat) (ha:a+n≤l.length) (hb:b+n≤l.length) :
 qg Tryz.prog (gS t1 t2) 248 [.sl (.par 0) 2 0 l.length,.int .i64 a,.int .i64 b,.int .i64 n,.fn 183 [] []] 2 (dA l) (vB l):=Is (.fn 183 [] []) rfl XM l hl a b n ha hb
def S9 (l:List Attr) (hl:l.length≤B) (a m b:Nat) (ha:a<m) (hm:m<b) (hb:b≤l.length) :
 qg Tryz.prog (gS t1 t2) 243 [.sl (.par 0) 2 0 l.length,.int .i64 a,.int .i64 m,.int .i64 b,.fn 183 [] []] 2 (dA l) (vB l):=SZ 183 S7 aba l hl a m b ha hm hb
def acX (l:List Attr) (hl:l.length≤B) (a m b:Nat) (ha:a<m) (hm:m<b) (hb:b≤l.length) :
 qg Tryz.prog (gS t1 t2) 229 [.sl (.par 0) 2 0 l.length,.int .i64 a,.int .i64 m,.int .i64 b,.fn 183 [] []] 2 (dA l) (vB l):=L5 aa9 PY UF S9 (b - a) l hl a m b ha hm hb (adw _)
def abb (l:List Attr) (hl:l.length≤B):qg Tryz.prog (gS t1 t2) 182 [.sl (.par 0) 2 0 l.length,.fn 183 [] []] 2 (dA l) fun x ys=>∃zs:List Attr,ys=dA zs∧zs.Perm l∧(l.length≤20→zs=gb l):=
 Gn XL l (S0 S6 (fun l hl a b h1 h2=>Sy zL PY UF l hl a b h1 h2) acX l hl)
def PZ (s:Bs) (b:Bool) (h:s.length≤B):ez Tryz.prog (gS t1 t2) 138 [.ptr (.par 0) 2 0 0] (gE s b) (DY s b):=Sx S3 IA PW PV PX abb s h b
def C_:∀d:Nat,d≤9→(∀(s:Bs) (b:Bool),s.length≤B→ez Tryz.prog (gS t1 t2) 95 [.ptr (.par 0) 2 0 0,.int .i64 (9 - d:Int)] (gE s b) (FJ d s b)) ∧
  (∀(s:Bs) (b:Bool),s.length≤B→ez Tryz.prog (gS t1 t2) 126 [.ptr (.par 0) 2 0 0,.int .i64 (9 - d:Int)] (gE s b) (yT d s b)):=by
 have kids:∀d:Nat,(∀(s:Bs) (b:Bool),s.length≤B→ez Tryz.prog (gS t1 t2) 95 [.ptr (.par 0) 2 0 0,.int .i64 (9 - d:Int)] (gE s b) (FJ d s b)) →
   (∀(s:Bs) (b:Bool),s.length≤B→ez Tryz.prog (gS t1 t2) 126 [.ptr (.par 0) 2 0 0,.int .i64 (9 - d:Int)] (gE s b) (yT d s b)):=
  fun d e s b h=>Xb XH (fun s t=>Gr Gt s t (Bz s t)) PX d e s h b
 intro d;induction d with
 |zero=>
  intro _;have e:=fun(s:Bs) (b:Bool) (h:s.length≤B)=>OO (G:=gS t1 t2) PT IA PW PV eAt PZ 0 (by decide) (fun d' h=>by omega) s h b;exact⟨e,kids 0 e⟩
 |succ d ih=>
 intro hd;have ih:=(ih (by omega)).2;have st:∀d',d+1=d'+1→∀(s:Bs) (b:Bool),s.length≤B→ez Tryz.prog (gS t1 t2) 126 [.ptr (.par 0) 2 0 0,.int .i64 (9 - d':Int)] (gE s b) (yT d' s b):=by
  intro d' QU;obtain rfl:d=d':=by omega
  exact ih
 have e:=fun(s:Bs) (b:Bool) (h:s.length≤B)=>OO (G:=gS t1 t2) PT IA PW PV eAt PZ (d+1) hd st s h b;exact⟨e,kids (d+1) e⟩
def abc (s:Bs) (h:s.length≤B):ez Tryz.prog (gS t1 t2) 95 [.ptr (.par 0) 2 0 0,.int .i64 1] (gE s false) (FJ 8 s false):=(C_ 8 (by decide)).1 s false h
def abd (s:Bs) (h:s.length≤B):ez Tryz.prog (gS t1 t2) 126 [.ptr (.par 0) 2 0 0,.int .i64 1] (gE s false) (yT 8 s false):=(C_ 8 (by decide)).2 s false h
def E6 (x:Tree) (h:x.wt≤B):aw Tryz.prog (gS t1 t2) 96 [x.av] (.dM [.int .i64 x.dep,.int .i64 x.fI]):=TZ XN x h
def DH (l:List Tree) (h:er l≤B):aw Tryz.prog (gS t1 t2) 142 [.list (eR l)] (.bool (iD none l)):=Hm J9 J' y_ PU J_ l h
def UG (x:Tree) (h:x.wt≤B):aw Tryz.prog (gS t1 t2) 56 [x.av] (.bool x.fZ):=TW XO x (E6 x h) (T0 J9 J' y_ PU J_ x h)
def P0 (l:List Tree) (h:er l≤B):aw Tryz.prog (gS t1 t2) 127 [.list (eR l)] (.bool (content l)):=
 Fb L8 l h (fun x hx=>E6 x (by have:=xR hx;omega)) (DH l h)
def acY (x:Tree) (h:7*x.wt≤2^40):aw Tryz.prog (gS t1 t2) 60 [.nil0,x.av] (.list (cw x.sh)):=by
 have:=W3 (G:=gS t1 t2) XG (fun xs s v hb=>Sq S2 xs s v hb) x.wt x [] (adw _) (by simpa using h);rw[aec] at this;exact FC this (by decide) (by simp[ah,AV.aB,Tree.av]) (rA _)
def P1 (x:Tree) (h:x.wt≤B):aw Tryz.prog (gS t1 t2) 27 [x.av] (.dM [.str (dZ x).1,.int .i64 (dZ x).2]):=PM PR x h (UG x h) (acY x (by unfold B at h;omega))
def P2 (s:Bs) (h:s.length≤B):aw Tryz.prog (gS t1 t2) 51 [.str s] (.dM [(dQ s).1.av,.int .i64 (dQ s).2]):=PN PS s h abc (fun x hx=>UG x (by unfold B;omega))
def XP (s:Bs) (h:s.length≤B):aw Tryz.prog (gS t1 t2) 84 [.str s] (.dM [.list (eR (iq s).1),.int .i64 (iq s).2]):=Iv Ix s h abd (fun l hl=>P0 l (by unfold B;omega))
end Go.Proofs.YtfinkeaikbmpgaaGreatDoor
