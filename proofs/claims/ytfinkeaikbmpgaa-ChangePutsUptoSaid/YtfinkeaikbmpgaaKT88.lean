import Derived.Test.YtfinkeaikbmpgaaKT80
import Derived.Test.YtfinkeaikbmpgaaKAm33
set_option linter.unusedSimpArgs false
set_option linter.unusedVariables false
set_option linter.unnecessarySimpa false
set_option linter.defProp false
/- The bench: what a change does to it. -/
set_option pp.deepTerms false
set_option pp.deepTerms.threshold 5
set_option maxRecDepth 20000
namespace Go.Am
open Go Go.RowKit
theorem kS.congr (R:kS) {lab u3:Nat→Lb} (h:∀p,R.ok p→lab p=u3 p) (p:Nat):R.row lab p=R.row u3 p:=by
 have e1:R.row lab p=(R.row Lb.par p).map (dB (rW lab)):=R.nat Lb.par (rW lab) p;have e2:R.row u3 p=(R.row Lb.par p).map (dB (rW u3)):=R.nat Lb.par (rW u3) p;rw[e1,e2];cases hr:R.row Lb.par p with
 |none=>rfl
 |some r=>
  simp only[Option.map_some,dB,Option.some.injEq,Row.mk.injEq,true_and];refine List.map_congr_left fun cs b5=>gp cs fun q hq=> ?_
  obtain⟨p',ed,rfl⟩:=R.aI Lb.par p r hr cs b5 q hq;exact h p' ed
theorem jx.congr {R:kS} {lab u3:Nat→Lb} {H:Hp} (hs:jx lab R H) (h:∀p,R.ok p→lab p=u3 p):jx u3 R H:=by
 refine⟨fun p r hr=> ?_,fun p q hp hq e=>hs.inj p q hp hq (by rw[h p hp,h q hq,e])⟩;have hp:R.ok p:=(R.ia u3 p).1 (by rw[hr];rfl);rw[←h p hp];exact hs.row p r (by rw[R.congr h];exact hr)
def Bn.del (b:Bn) (p k:Nat):Bn:=match b.nodes[p]? with
 |some x=>b.set p {x with kids:=x.kids.take k++x.kids.drop (k+1)}
 |none=>b
def Bn.name (b:Bn) (n:Nat) (s:Bs):Bn:=match b.nodes[n]? with
 |some x=>b.set n {x with s:=s}
 |none=>b
def lS (P:Program) (G:Nat→Option (List IV)) (f:Nat):Prop:=∀(b:Bn) (n p:Nat) (x y:Node),b.nodes[n]?=some x→x.parent=p→b.nodes[p]?=some y→p<b.n0→y.kids.length≤B →
 n5 P G f [.ptr (.par 0) 3 0 0,.int .i64 n] (cz b) b.all fun X R2=>X=(fun _=> .dU [.int .i64 p,.int .i64 (jE y.kids n)])∧R2=cz b
def u4 (P:Program) (G:Nat→Option (List IV)) (f:Nat):Prop:=∀(b:Bn),b.n0≤b.nodes.length→∀(n:Nat),n<b.n0→∀(x:Node),b.nodes[n]?=some x→∀(s:Bs),b.nodes.length+1+s.length≤B →
 n5 P G f [.ptr (.par 0) 3 0 0,.int .i64 n,.str s] (cz b) (b.yq 1 (5+2*n)) fun X R2=>X=(fun _=> .dU [])∧R2=cz (b.value n s)
def wF (P:Program) (G:Nat→Option (List IV)) (f:Nat):Prop:=∀(b:Bn) (n:Nat),n<b.n0→∀(x:Node),b.nodes[n]?=some x→∀(o:Op),o.target=n→(o.kind=9∨o.kind=10)→x.attrs.length+1≤B→gD x.attrs=true →
 n5 P G f [.ptr (.par 0) 3 0 0,o.av] (cz b) (b.Bt (4+2*n)) fun X R2=>X=(fun _=> .dU [])∧R2=cz (b.attr n o)
theorem qH (xs:List Int) (i:Nat):(ay (xs.map a6))[i]?=(xs[i]?).map fun n=>[.int .i64 n]:=by
 simp[ay,a6,IV.cells,IV.cW];cases xs[i]?<;>rfl
theorem wG (xs:List Int) (i:Nat) (n:Int):(ay (xs.map a6)).set i [.int .i64 n]=ay ((xs.set i n).map a6):=by
 simp[ay,a6,List.map_set,IV.cells,IV.cW]
theorem lT (b:Bn) (p pl:Nat) (l:List Tree):(b.ins p pl l).fs=b.fs:=by unfold Bn.ins;split<;>rfl
theorem lU (b:Bn) (p pl:Nat) (l:List Tree):(b.ins p pl l).as=b.as:=by unfold Bn.ins;split<;>rfl
theorem JU (b:Bn) (p pl:Nat) (l:List Tree):(b.ins p pl l).n0=b.n0:=by unfold Bn.ins;split<;>rfl
theorem kj (b:Bn) (p k:Nat):(b.del p k).n0=b.n0:=by unfold Bn.del;split<;>rfl
section
variable {S:St} {b:Bn} {lab:Nat→Lb} {H:Hp} {k:AV→Hp→Prop} {u:Tw k}
theorem j0 {f:Nat} {L0:Lb} (hI:sS S.P S.G f) (hB:bW lab b H) (h0:lab 0=L0) (hn:b.n0≤b.nodes.length) {p pl:Nat} (hp:p<b.n0) {x:Node} (hx:b.nodes[p]?=some x) (BD:pl≤x.kids.length)
  {l:List Tree} (hb:b.nodes.length+di l≤B) (CI:x.kids.length+l.length≤B) (c:Nat) (hN:∀l,H (NC c l)= .unused)
  (hk:∀cQ H2,bW cQ (b.ins p pl l) H2→(∀p',p'<4+2*b.n0→p'≠1→p'≠5+2*p→cQ p'=lab p') →
   (∀q,(∀p',p'<4+2*b.n0→q≠lab p')→(∀l,q≠NC c l)→H2 q=H q)→(∀p',p'<4+2*b.n0→(∃p0,p0<4+2*b.n0∧cQ p'=lab p0)∨∃l,cQ p'=NC c l)→k (.dU []) H2) :
  Bq S f [.ptr L0 3 0 0,.int .i64 p,.int .i64 pl,.list (dc l)] H k u:=by
 subst h0;refine gV (lab:=lab) (N:=NC c) (hI b hn p pl hp x hx BD l hb CI) (by simp[cn,cG,rW]) hB hN (mG c) (fun l h=> .inl h) (fun p' ed=>a9.2 (gY.1 ed).1) ?_;rintro X R2 cQ H2 ⟨rfl,rfl⟩ g1 g2 g3 g4 g5 g6;refine hk cQ H2 g1 (fun p' h1 h2 h3=>g2 p' (gY.2 ⟨h1,h2,h3⟩)) (fun q h1 h2=>g4 q (fun p' ed=>h1 p' (a9.1 ed)) h2) fun p' ed=> ?_
 rcases g3 p' (a9.2 (by rw[JU];exact ed)) with⟨p0,h1,h2⟩|h
 ·exact .inl ⟨p0,a9.1 h1,h2⟩
 ·exact .inr h
theorem jz {f:Nat} (hI:lS S.P S.G f) (hB:bW lab b H) {n p:Nat} {x y:Node} (hx:b.nodes[n]?=some x) (C5:x.parent=p) (hy:b.nodes[p]?=some y) (hp:p<b.n0) (Bo:y.kids.length≤B) (c:Nat) (hN:∀l,H (NC c l)= .unused)
  (hk:∀H2,bW lab b H2→(∀q,(∀p',p'<4+2*b.n0→q≠lab p')→(∀l,q≠NC c l)→H2 q=H q)→k (.dU [.int .i64 p,.int .i64 (jE y.kids n)]) H2) :
  Bq S f [.ptr (lab 0) 3 0 0,.int .i64 n] H k u:=by
 refine gV (lab:=lab) (N:=NC c) (hI b n p x y hx C5 hy hp Bo) (by simp[cn,cG,rW]) hB hN (mG c) (fun l h=> .inl h) (fun p' ed=>a9.2 (List.mem_range.1 ed)) ?_;rintro X R2 cQ H2 ⟨rfl,rfl⟩ g1 g2 g3 g4 g5 g6;exact hk H2 (g1.congr fun p' ed=>g2 p' (List.mem_range.2 (a9.1 ed))) fun q h1 h2=>g4 q (fun p' ed=>h1 p' (a9.1 ed)) h2
end
section
variable {P:Program} {G:Nat→Option (List IV)}
def aU (af an aj au aw:Nat):AC:=
(.seq (.aM [⟨some 3,none,.box (.t 1)⟩]) (.seq (.aM [⟨some 13,none,.bV (.t 3) 1⟩,⟨some 14,none,.load none (.t 13)⟩,⟨some 4,none,.ak (.t 14)⟩]) (.seq (.aM [⟨some 15,none,.bV (.t 3) 0⟩,⟨some 16,none,.load none (.t 15)⟩]) (.block 0 (.seq (.aM [⟨some 18,none,.bin .eql (.t 16) (.c (.int .i64 1))⟩,⟨some 17,none,.ak (.t 18)⟩]) (.cond (.t 17) (.seq (.eY [⟨some 19,none,.ak (.t 0)⟩,⟨some 20,none,.ak (.t 4)⟩,⟨some 21,none,.ak (.t 0)⟩,⟨some 22,none,.ef (.t 21)⟩,⟨some 23,none,.bV (.t 22) 1⟩,⟨some 24,none,.load none (.t 23)⟩,⟨some 25,none,.ak (.t 4)⟩,⟨some 26,none,.fJ (.t 24) (.t 25) 1⟩,⟨some 27,none,.load none (.t 26)⟩,⟨some 28,none,.bV (.t 3) 2⟩,⟨some 29,none,.load none (.t 28)⟩,⟨some 30,none,.call af [(.t 19),(.t 20),(.t 27),(.t 29)]⟩] [[],[],[],[2],[3],[4],[],[5,6],[7],[],[9],[0,1,8,10]] [.no,.no,.no,.no,.no,(.rw [(.par 0)] []),.no,.no,(.rw [(.par 2)] []),.no,.rw [.loc 3] [],.all]) (.eY [⟨some 31,none,.ak (.t 0)⟩,⟨some 32,none,.ef (.t 31)⟩,⟨some 33,none,.bV (.t 32) 1⟩,⟨some 34,none,.load none (.t 33)⟩,⟨some 35,none,.ak (.t 4)⟩,⟨some 36,none,.fJ (.t 34) (.t 35) 1⟩,⟨some 37,none,.load none (.t 36)⟩,⟨some 38,none,.bV (.t 3) 2⟩,⟨some 39,none,.load none (.t 38)⟩,⟨some 40,none,.len (.t 39)⟩,⟨some 41,none,.bin .add (.t 37) (.t 40)⟩,⟨some 42,none,.fJ (.t 34) (.t 35) 1⟩,⟨none,none,.store 1 (.t 42) (.t 41)⟩] [[],[0],[1],[2],[],[3,4],[5],[],[7],[8],[6,9],[3,4,0,1,2,3,4,5,6,7,8,9,10],[11,10,0,1,2,3,4,5,6,7,8,9,10]] [.no,.no,.no,(.rw [(.par 0)] []),.no,.no,(.rw [(.par 2)] []),.no,.rw [.loc 3] [],.no,.no,.no,(.rw [] [(.par 2)])])) (.seq (.aM [⟨some 44,none,.bin .eql (.t 16) (.c (.int .i64 2))⟩,⟨some 43,none,.ak (.t 44)⟩]) (.cond (.t 43) (.eY [⟨some 45,none,.ak (.t 0)⟩,⟨some 46,none,.ak (.t 4)⟩,⟨some 47,none,.ak (.t 0)⟩,⟨some 48,none,.ef (.t 47)⟩,⟨some 49,none,.bV (.t 48) 0⟩,⟨some 50,none,.load none (.t 49)⟩,⟨some 51,none,.ak (.t 4)⟩,⟨some 52,none,.fJ (.t 50) (.t 51) 5⟩,⟨some 53,none,.bV (.t 52) 4⟩,⟨some 54,none,.load none (.t 53)⟩,⟨some 55,none,.len (.t 54)⟩,⟨some 56,none,.bV (.t 3) 2⟩,⟨some 57,none,.load none (.t 56)⟩,⟨some 58,none,.call af [(.t 45),(.t 46),(.t 55),(.t 57)]⟩] [[],[],[],[2],[3],[4],[],[5,6],[7],[8],[9],[],[11],[0,1,10,12]] [.no,.no,.no,.no,.no,(.rw [(.par 0)] []),.no,.no,.no,(.rw [(.par 1)] []),.no,.no,.rw [.loc 3] [],.all]) (.seq (.aM [⟨some 60,none,.bin .eql (.t 16) (.c (.int .i64 3))⟩,⟨some 59,none,.ak (.t 60)⟩]) (.cond (.t 59) (.seq (.aM [⟨some 62,none,.ak (.t 0)⟩,⟨some 63,none,.ak (.t 4)⟩,⟨some 64,none,.call an [(.t 62),(.t 63)]⟩,⟨some 61,none,.ak (.t 64)⟩,⟨some 65,none,.ext (.t 61) 0⟩,⟨some 66,none,.ext (.t 61) 1⟩,⟨some 5,none,.ak (.t 65)⟩,⟨some 6,none,.ak (.t 66)⟩]) (.aM [⟨some 67,none,.ak (.t 0)⟩,⟨some 68,none,.ak (.t 5)⟩,⟨some 69,none,.ak (.t 6)⟩,⟨some 70,none,.bV (.t 3) 2⟩,⟨some 71,none,.load none (.t 70)⟩,⟨some 72,none,.call af [(.t 67),(.t 68),(.t 69),(.t 71)]⟩])) (.seq (.aM [⟨some 74,none,.bin .eql (.t 16) (.c (.int .i64 4))⟩,⟨some 73,none,.ak (.t 74)⟩]) (.cond (.t 73) (.seq (.aM [⟨some 76,none,.ak (.t 0)⟩,⟨some 77,none,.ak (.t 4)⟩,⟨some 78,none,.call an [(.t 76),(.t 77)]⟩,⟨some 75,none,.ak (.t 78)⟩,⟨some 79,none,.ext (.t 75) 0⟩,⟨some 80,none,.ext (.t 75) 1⟩,⟨some 7,none,.ak (.t 79)⟩,⟨some 8,none,.ak (.t 80)⟩]) (.seq (.eY [⟨some 81,none,.ak (.t 0)⟩,⟨some 82,none,.ak (.t 7)⟩,⟨some 83,none,.ak (.t 8)⟩,⟨some 84,none,.bin .add (.t 83) (.c (.int .i64 1))⟩,⟨some 85,none,.ak (.t 0)⟩,⟨some 86,none,.ef (.t 85)⟩,⟨some 87,none,.bV (.t 86) 2⟩,⟨some 88,none,.load none (.t 87)⟩,⟨some 89,none,.ak (.t 4)⟩,⟨some 90,none,.fJ (.t 88) (.t 89) 1⟩,⟨some 91,none,.load none (.t 90)⟩,⟨some 92,none,.bin .add (.t 84) (.t 91)⟩,⟨some 93,none,.bV (.t 3) 2⟩,⟨some 94,none,.load none (.t 93)⟩,⟨some 95,none,.call af [(.t 81),(.t 82),(.t 92),(.t 94)]⟩] [[],[],[],[2],[],[4],[5],[6],[],[7,8],[9],[3,10],[],[12],[0,1,11,13]] [.no,.no,.no,.no,.no,.no,.no,(.rw [(.par 0)] []),.no,.no,(.rw [(.par 3)] []),.no,.no,.rw [.loc 3] [],.all]) (.eY [⟨some 96,none,.ak (.t 0)⟩,⟨some 97,none,.ef (.t 96)⟩,⟨some 98,none,.bV (.t 97) 2⟩,⟨some 99,none,.load none (.t 98)⟩,⟨some 100,none,.ak (.t 4)⟩,⟨some 101,none,.fJ (.t 99) (.t 100) 1⟩,⟨some 102,none,.load none (.t 101)⟩,⟨some 103,none,.bV (.t 3) 2⟩,⟨some 104,none,.load none (.t 103)⟩,⟨some 105,none,.len (.t 104)⟩,⟨some 106,none,.bin .add (.t 102) (.t 105)⟩,⟨some 107,none,.fJ (.t 99) (.t 100) 1⟩,⟨none,none,.store 1 (.t 107) (.t 106)⟩] [[],[0],[1],[2],[],[3,4],[5],[],[7],[8],[6,9],[3,4,0,1,2,3,4,5,6,7,8,9,10],[11,10,0,1,2,3,4,5,6,7,8,9,10]] [.no,.no,.no,(.rw [(.par 0)] []),.no,.no,(.rw [(.par 3)] []),.no,.rw [.loc 3] [],.no,.no,.no,(.rw [] [(.par 3)])]))) (.seq (.aM [⟨some 109,none,.bin .eql (.t 16) (.c (.int .i64 5))⟩,⟨some 108,none,.ak (.t 109)⟩]) (.cond (.t 108) (.seq (.aM [⟨some 111,none,.ak (.t 0)⟩,⟨some 112,none,.ak (.t 4)⟩,⟨some 113,none,.call an [(.t 111),(.t 112)]⟩,⟨some 110,none,.ak (.t 113)⟩,⟨some 114,none,.ext (.t 110) 0⟩,⟨some 115,none,.ext (.t 110) 1⟩,⟨some 9,none,.ak (.t 114)⟩,⟨some 10,none,.ak (.t 115)⟩]) (.seq (.aM [⟨some 116,none,.ak (.t 10)⟩,⟨some 117,none,.bin .geq (.t 116) (.c (.int .i64 0))⟩]) (.cond (.t 117) (.eY [⟨some 118,none,.ak (.t 0)⟩,⟨some 119,none,.ef (.t 118)⟩,⟨some 120,none,.bV (.t 119) 0⟩,⟨some 121,none,.load none (.t 120)⟩,⟨some 122,none,.ak (.t 9)⟩,⟨some 123,none,.ak (.t 0)⟩,⟨some 124,none,.ef (.t 123)⟩,⟨some 125,none,.bV (.t 124) 0⟩,⟨some 126,none,.load none (.t 125)⟩,⟨some 127,none,.ak (.t 9)⟩,⟨some 128,none,.fJ (.t 126) (.t 127) 5⟩,⟨some 129,none,.bV (.t 128) 4⟩,⟨some 130,none,.load none (.t 129)⟩,⟨some 131,none,.ak (.t 10)⟩,⟨some 132,none,.ak (.t 10)⟩,⟨some 133,none,.bin .add (.t 132) (.c (.int .i64 1))⟩,⟨some 134,none,.call aj [(.t 130),(.t 131),(.t 133)]⟩,⟨some 135,none,.fJ (.t 121) (.t 122) 5⟩,⟨some 136,none,.bV (.t 135) 4⟩,⟨none,none,.store 1 (.t 136) (.t 134)⟩] [[],[0],[1],[2],[],[],[5],[6],[7],[],[8,9],[10],[11],[],[],[14],[12,13,15],[3,4,0,1,2,3,4,5,6,7,8,9,10,11,12,13,14,15,16],[17,0,1,2,3,4,5,6,7,8,9,10,11,12,13,14,15,16],[18,16,16,0,1,2,3,4,5,6,7,8,9,10,11,12,13,14,15,16]] [.no,.no,.no,(.rw [(.par 0)] []),.no,.no,.no,.no,(.rw [(.par 0)] []),.no,.no,.no,(.rw [(.par 1)] []),.no,.no,.no,(.qx [(.par 0)]),.no,.no,(.rw [] [(.par 1)])]) .skip))) (.seq (.aM [⟨some 138,none,.bin .eql (.t 16) (.c (.int .i64 6))⟩,⟨some 137,none,.ak (.t 138)⟩]) (.cond (.t 137) (.seq (.aM [⟨some 140,none,.ak (.t 0)⟩,⟨some 141,none,.ak (.t 4)⟩,⟨some 142,none,.call an [(.t 140),(.t 141)]⟩,⟨some 139,none,.ak (.t 142)⟩,⟨some 143,none,.ext (.t 139) 0⟩,⟨some 144,none,.ext (.t 139) 1⟩,⟨some 11,none,.ak (.t 143)⟩,⟨some 12,none,.ak (.t 144)⟩]) (.seq (.eY [⟨some 145,none,.ak (.t 0)⟩,⟨some 146,none,.ef (.t 145)⟩,⟨some 147,none,.bV (.t 146) 0⟩,⟨some 148,none,.load none (.t 147)⟩,⟨some 149,none,.ak (.t 11)⟩,⟨some 150,none,.ak (.t 0)⟩,⟨some 151,none,.ef (.t 150)⟩,⟨some 152,none,.bV (.t 151) 0⟩,⟨some 153,none,.load none (.t 152)⟩,⟨some 154,none,.ak (.t 11)⟩,⟨some 155,none,.fJ (.t 153) (.t 154) 5⟩,⟨some 156,none,.bV (.t 155) 4⟩,⟨some 157,none,.load none (.t 156)⟩,⟨some 158,none,.ak (.t 12)⟩,⟨some 159,none,.ak (.t 12)⟩,⟨some 160,none,.bin .add (.t 159) (.c (.int .i64 1))⟩,⟨some 161,none,.call aj [(.t 157),(.t 158),(.t 160)]⟩,⟨some 162,none,.fJ (.t 148) (.t 149) 5⟩,⟨some 163,none,.bV (.t 162) 4⟩,⟨none,none,.store 1 (.t 163) (.t 161)⟩] [[],[0],[1],[2],[],[],[5],[6],[7],[],[8,9],[10],[11],[],[],[14],[12,13,15],[3,4,0,1,2,3,4,5,6,7,8,9,10,11,12,13,14,15,16],[17,0,1,2,3,4,5,6,7,8,9,10,11,12,13,14,15,16],[18,16,16,0,1,2,3,4,5,6,7,8,9,10,11,12,13,14,15,16]] [.no,.no,.no,(.rw [(.par 0)] []),.no,.no,.no,.no,(.rw [(.par 0)] []),.no,.no,.no,(.rw [(.par 1)] []),.no,.no,.no,(.qx [(.par 0)]),.no,.no,(.rw [] [(.par 1)])]) (.aM [⟨some 164,none,.ak (.t 0)⟩,⟨some 165,none,.ak (.t 11)⟩,⟨some 166,none,.ak (.t 12)⟩,⟨some 167,none,.bV (.t 3) 2⟩,⟨some 168,none,.load none (.t 167)⟩,⟨some 169,none,.call af [(.t 164),(.t 165),(.t 166),(.t 168)]⟩]))) (.seq (.aM [⟨some 171,none,.bin .eql (.t 16) (.c (.int .i64 7))⟩,⟨some 170,none,.ak (.t 171)⟩]) (.cond (.t 170) (.aM [⟨some 172,none,.ak (.t 0)⟩,⟨some 173,none,.ak (.t 4)⟩,⟨some 174,none,.bV (.t 3) 4⟩,⟨some 175,none,.load none (.t 174)⟩,⟨some 176,none,.call au [(.t 172),(.t 173),(.t 175)]⟩]) (.seq (.aM [⟨some 178,none,.bin .eql (.t 16) (.c (.int .i64 8))⟩,⟨some 177,none,.ak (.t 178)⟩]) (.cond (.t 177) (.eY [⟨some 179,none,.ak (.t 0)⟩,⟨some 180,none,.ef (.t 179)⟩,⟨some 181,none,.bV (.t 180) 0⟩,⟨some 182,none,.load none (.t 181)⟩,⟨some 183,none,.ak (.t 4)⟩,⟨some 184,none,.bV (.t 3) 3⟩,⟨some 185,none,.load none (.t 184)⟩,⟨some 186,none,.fJ (.t 182) (.t 183) 5⟩,⟨some 187,none,.bV (.t 186) 1⟩,⟨none,none,.store 1 (.t 187) (.t 185)⟩] [[],[0],[1],[2],[],[],[5],[3,4,0,1,2,3,4,5,6],[7,0,1,2,3,4,5,6],[8,6,0,1,2,3,4,5,6]] [.no,.no,.no,(.rw [(.par 0)] []),.no,.no,.rw [.loc 3] [],.no,.no,(.rw [] [(.par 1)])]) (.seq (.seq (.aM [⟨some 189,none,.bin .eql (.t 16) (.c (.int .i64 9))⟩,⟨some 188,none,.ak (.t 189)⟩]) (.cond (.t 188) .skip (.aM [⟨some 190,none,.bin .eql (.t 16) (.c (.int .i64 10))⟩,⟨some 188,none,.ak (.t 190)⟩]))) (.cond (.t 188) (.aM [⟨some 191,none,.ak (.t 0)⟩,⟨some 192,none,.load (some 5) (.t 3)⟩,⟨some 193,none,.call aw [(.t 191),(.t 192)]⟩]) .skip))))))))))))))))))))))
theorem O1 {ar af an aj au aw:Nat} (hF:aA P G ar=some (194,[],(aU af an aj au aw).bare)) (b:Bn) (hn:b.n0≤b.nodes.length) (n:Nat) (hp:n<b.n0) (x:Node) (hx:b.nodes[n]?=some x)
  (co:List Tree) (na st:Bs) (f:Nat) (hf:b.fs[n]?=some (f:Int)) (O2:f≤x.kids.length) (hb:b.nodes.length+di co≤B) (CI:x.kids.length+co.length≤B) (hI:sS P G af) :
  n5 P G ar [.ptr (.par 0) 3 0 0,(⟨1,n,co,na,st⟩:Op).av] (cz b) [0,2,3] fun X R2=>X=(fun _=> .dU [])∧R2=cz ({b.ins n f co with fs:=b.fs.set n ((f+co.length:Nat):Int)}):=by
 refine dZ hF (by simp) (by simp[ax,AV.aI,a9,Op.av];omega) ?_;have dE:bW Lb.par b (eC (cz b)):=eF _;have hU:∀q:Lb,(∀p,p<4+2*b.n0→q≠ .par p)→eC (cz b) q= .unused:=fun q hq=>dD _ fun p hp e=>hq p (a9.1 hp) e.symm
 have h3:eC (cz b) (.loc 3)= .unused:=hU _ (by simp);have hN:∀c l,eC (cz b) (NC c l)= .unused:=fun c l=>hU _ (by simp[NC])
 have hlen:n<b.nodes.length:=(List.getElem?_eq_some_iff.1 hx).1;have pw:B=1073741824:=rfl;have nI:=cU (n0:=b.n0) (lab:=Lb.par) (x:=x) hp;have cM:=dE.get hx;rw[nI] at cM;have sU:∀cs,bW Lb.par b (bG (eC (cz b)) (.loc 3) cs):=fun cs=>dE.iW (by simp)
 unfold aU;simp only[↓aX,mX,reduceCtorEq,Nat.reduceEqDiff,Nat.reduceLT,Nat.reduceLeDiff,Nat.reduceAdd,Nat.reduceMul,Int.reduceToNat,Int.reduceLE,Int.reduceLT,Op.av,h3,Int.reduceBEq];have vD:n<b.fs.length:=(List.getElem?_eq_some_iff.1 hf).1
 simp only[↓aX,mX,reduceCtorEq,Nat.reduceEqDiff,Nat.reduceLT,Nat.reduceLeDiff,Nat.reduceAdd,Nat.reduceMul,Int.reduceToNat,Int.reduceLE,Int.reduceLT,Op.av,h3,dE.s,dE.n,dE.f,dE.a,hlen,List.length_mapIdx,Int.natCast_nonneg,Int.toNat_natCast,and_self,true_and,Nat.zero_add,cM,bb,List.length_map,qH,hf,vD,Option.map_some];refine⟨rfl,?_⟩
 refine j0 hI (sU _) rfl hn hp hx O2 hb CI 9 (fun l=>by rw[aq _ _ (by simp[NC])];exact hN 9 l) ?_;intro cQ H2 g1 g2 g4 g5;have sB:=g4 (.loc 3) (by simp) (by simp[NC]);rw[ai,if_pos rfl] at sB;have e0:cQ 0= .par 0:=g2 0 (by omega) (by omega) (by omega);have e2:cQ 2= .par 2:=g2 2 (by omega) (by omega) (by omega);have e3:cQ 3= .par 3:=g2 3 (by omega) (by omega) (by omega);have m_:=g1.s;have xn:=g1.f
 rw[e0,e2,e3] at m_;rw[e2] at xn;rw[lT,lU] at m_;rw[lT] at xn;have hw:IntKind.i64.wrap ((f:Int)+(co.length:Int))=((f+co.length:Nat):Int):=wrap64 (by omega) (by omega)
 simp only[↓aX,mX,reduceCtorEq,Nat.reduceEqDiff,Nat.reduceLT,Nat.reduceLeDiff,Nat.reduceAdd,Nat.reduceMul,Int.reduceToNat,Int.reduceLE,Int.reduceLT,sB,m_,xn,Int.natCast_nonneg,Int.toNat_natCast,and_self,true_and,Nat.zero_add,List.length_map,qH,hf,vD,Option.map_some,bb,hw];refine⟨rfl,?_⟩;rw[gJ];refine⟨[],rfl,⟨fun _=> .dU [],_,cQ⟩,⟨rfl,rfl⟩,fun ρ=>by simp[cG,cn],by simp[gQ,AV.aI,ax],rfl,?_,?_⟩
 ·have:=g1.OQ (fs:=b.fs.set n ((f+co.length:Nat):Int)) (H2:=bG H2 (.par 2) (.live ⟨1,(ay (b.fs.map a6)).set n [.int .i64 ((f+co.length:Nat):Int)]⟩)) (by rw[List.length_set,lT]) (by rw[e2,ai,if_pos rfl,wG]) (fun q hq=>by rw[e2] at hq;rw[aq _ _ hq]);exact this
 ·rintro p' (rfl|rfl|rfl)
  ·exact e0
  ·exact e2
  ·exact e3
theorem O3 {ar af an aj au aw:Nat} (hF:aA P G ar=some (194,[],(aU af an aj au aw).bare)) (b:Bn) (hn:b.n0≤b.nodes.length) (n:Nat) (hp:n<b.n0) (x:Node) (hx:b.nodes[n]?=some x)
  (co:List Tree) (na st:Bs) (hb:b.nodes.length+di co≤B) (CI:x.kids.length+co.length≤B) (hI:sS P G af) :
  n5 P G ar [.ptr (.par 0) 3 0 0,(⟨2,n,co,na,st⟩:Op).av] (cz b) [0,2,3] fun X R2=>X=(fun _=> .dU [])∧R2=cz (b.ins n x.kids.length co):=by
 refine dZ hF (by simp) (by simp[ax,AV.aI,a9,Op.av];omega) ?_;have dE:bW Lb.par b (eC (cz b)):=eF _;have hU:∀q:Lb,(∀p,p<4+2*b.n0→q≠ .par p)→eC (cz b) q= .unused:=fun q hq=>dD _ fun p hp e=>hq p (a9.1 hp) e.symm
 have h3:eC (cz b) (.loc 3)= .unused:=hU _ (by simp);have hN:∀c l,eC (cz b) (NC c l)= .unused:=fun c l=>hU _ (by simp[NC])
 have hlen:n<b.nodes.length:=(List.getElem?_eq_some_iff.1 hx).1;have pw:B=1073741824:=rfl;have nI:=cU (n0:=b.n0) (lab:=Lb.par) (x:=x) hp;have cM:=dE.get hx;rw[nI] at cM;have sU:∀cs,bW Lb.par b (bG (eC (cz b)) (.loc 3) cs):=fun cs=>dE.iW (by simp)
 unfold aU;simp only[↓aX,mX,reduceCtorEq,Nat.reduceEqDiff,Nat.reduceLT,Nat.reduceLeDiff,Nat.reduceAdd,Nat.reduceMul,Int.reduceToNat,Int.reduceLE,Int.reduceLT,Op.av,h3,Int.reduceBEq]
 try simp only[↓aX,mX,reduceCtorEq,Nat.reduceEqDiff,Nat.reduceLT,Nat.reduceLeDiff,Nat.reduceAdd,Nat.reduceMul,Int.reduceToNat,Int.reduceLE,Int.reduceLT,Op.av,h3,dE.s,dE.n,dE.f,dE.a,hlen,List.length_mapIdx,Int.natCast_nonneg,Int.toNat_natCast,and_self,true_and,Nat.zero_add,cM,bb]
 refine⟨rfl,?_⟩;refine j0 hI (sU _) rfl hn hp hx (Nat.le_refl _) hb CI 9 (fun l=>by rw[aq _ _ (by simp[NC])];exact hN 9 l) ?_;intro cQ H2 g1 g2 g4 g5;simp only[↓aX,mX,reduceCtorEq,Nat.reduceEqDiff,Nat.reduceLT,Nat.reduceLeDiff,Nat.reduceAdd,Nat.reduceMul,Int.reduceToNat,Int.reduceLE,Int.reduceLT];rw[gJ]
 refine⟨[],rfl,⟨fun _=> .dU [],_,cQ⟩,⟨rfl,rfl⟩,fun ρ=>by simp[cG,cn],by simp[gQ,AV.aI,ax],rfl,g1,?_⟩;rintro p' (rfl|rfl|rfl)
 ·exact g2 0 (by omega) (by omega) (by omega)
 ·exact g2 2 (by omega) (by omega) (by omega)
 ·exact g2 3 (by omega) (by omega) (by omega)
theorem O4 {ar af an aj au aw:Nat} (hF:aA P G ar=some (194,[],(aU af an aj au aw).bare)) (b:Bn) (hn:b.n0≤b.nodes.length) (n:Nat) (hp:n<b.n0) (x:Node) (hx:b.nodes[n]?=some x)
  (co:List Tree) (na st:Bs) (p:Nat) (C5:x.parent=p) (nH:p<b.n0) (y:Node) (hy:b.nodes[p]?=some y) (C6:y.kids.length≤B) (wH:lS P G an) (k:Nat) (hk:jE y.kids n=(k:Int)) (yU:k≤y.kids.length) (hb:b.nodes.length+di co≤B) (Bo:y.kids.length+co.length≤B) (hI:sS P G af) :
  n5 P G ar [.ptr (.par 0) 3 0 0,(⟨3,n,co,na,st⟩:Op).av] (cz b) [0,2,3] fun X R2=>X=(fun _=> .dU [])∧R2=cz (b.ins p k co):=by
 refine dZ hF (by simp) (by simp[ax,AV.aI,a9,Op.av];omega) ?_;have dE:bW Lb.par b (eC (cz b)):=eF _;have hU:∀q:Lb,(∀p,p<4+2*b.n0→q≠ .par p)→eC (cz b) q= .unused:=fun q hq=>dD _ fun p hp e=>hq p (a9.1 hp) e.symm
 have h3:eC (cz b) (.loc 3)= .unused:=hU _ (by simp);have hN:∀c l,eC (cz b) (NC c l)= .unused:=fun c l=>hU _ (by simp[NC])
 have hlen:n<b.nodes.length:=(List.getElem?_eq_some_iff.1 hx).1;have pw:B=1073741824:=rfl;have nI:=cU (n0:=b.n0) (lab:=Lb.par) (x:=x) hp;have cM:=dE.get hx;rw[nI] at cM;have sU:∀cs,bW Lb.par b (bG (eC (cz b)) (.loc 3) cs):=fun cs=>dE.iW (by simp)
 unfold aU;simp only[↓aX,mX,reduceCtorEq,Nat.reduceEqDiff,Nat.reduceLT,Nat.reduceLeDiff,Nat.reduceAdd,Nat.reduceMul,Int.reduceToNat,Int.reduceLE,Int.reduceLT,Op.av,h3,Int.reduceBEq]
 try simp only[↓aX,mX,reduceCtorEq,Nat.reduceEqDiff,Nat.reduceLT,Nat.reduceLeDiff,Nat.reduceAdd,Nat.reduceMul,Int.reduceToNat,Int.reduceLE,Int.reduceLT,Op.av,h3,dE.s,dE.n,dE.f,dE.a,hlen,List.length_mapIdx,Int.natCast_nonneg,Int.toNat_natCast,and_self,true_and,Nat.zero_add,cM,bb]
 refine jz (lab:=Lb.par) wH (sU _) hx C5 hy nH C6 9 (fun l=>by rw[aq _ _ (by simp[NC])];exact hN 9 l) ?_;intro H2 n6 m_;have sB:=m_ (.loc 3) (by simp) (by simp[NC]);rw[ai,if_pos rfl] at sB
 have Hr:∀c l,c≠9→H2 (NC c l)= .unused:=fun c l hc=>by
  rw[m_ _ (by simp[NC]) (by intro l' e;simp[NC] at e;exact hc e.2),aq _ _ (by simp[NC])];exact hN c l
 have KB:∀q,H2 (.gen q)= .unused:=fun q=>by
  rw[m_ _ (by simp) (by simp[NC]),aq _ _ (by simp)];exact hU _ (by simp)
 rw[hk];simp only[↓aX,mX,reduceCtorEq,Nat.reduceEqDiff,Nat.reduceLT,Nat.reduceLeDiff,Nat.reduceAdd,Nat.reduceMul,Int.reduceToNat,Int.reduceLE,Int.reduceLT,sB];refine j0 hI n6 rfl hn nH hy yU hb Bo 10 (fun l=>Hr 10 l (by decide)) ?_;intro cQ H3 g1 g2 g4 g5
 simp only[↓aX,mX,reduceCtorEq,Nat.reduceEqDiff,Nat.reduceLT,Nat.reduceLeDiff,Nat.reduceAdd,Nat.reduceMul,Int.reduceToNat,Int.reduceLE,Int.reduceLT];rw[gJ];refine⟨[],rfl,⟨fun _=> .dU [],_,cQ⟩,⟨rfl,rfl⟩,fun ρ=>by simp[cG,cn],by simp[gQ,AV.aI,ax],rfl,g1,?_⟩;rintro p' (rfl|rfl|rfl)
 ·exact g2 0 (by omega) (by omega) (by omega)
 ·exact g2 2 (by omega) (by omega) (by omega)
 ·exact g2 3 (by omega) (by omega) (by omega)
theorem O5 {ar af an aj au aw:Nat} (hF:aA P G ar=some (194,[],(aU af an aj au aw).bare)) (b:Bn) (hn:b.n0≤b.nodes.length) (n:Nat) (hp:n<b.n0) (x:Node) (hx:b.nodes[n]?=some x)
  (co:List Tree) (na st:Bs) (p:Nat) (C5:x.parent=p) (nH:p<b.n0) (y:Node) (hy:b.nodes[p]?=some y) (C6:y.kids.length≤B) (wH:lS P G an) (k:Nat) (hk:jE y.kids n=(k:Int)) (f:Nat) (hf:b.as[n]?=some (f:Int)) (yU:k+1+f≤y.kids.length) (hb:b.nodes.length+di co≤B) (Bo:y.kids.length+co.length≤B) (hI:sS P G af) :
  n5 P G ar [.ptr (.par 0) 3 0 0,(⟨4,n,co,na,st⟩:Op).av] (cz b) [0,2,3] fun X R2=>X=(fun _=> .dU [])∧R2=cz ({b.ins p (k+1+f) co with as:=b.as.set n ((f+co.length:Nat):Int)}):=by
 refine dZ hF (by simp) (by simp[ax,AV.aI,a9,Op.av];omega) ?_;have dE:bW Lb.par b (eC (cz b)):=eF _;have hU:∀q:Lb,(∀p,p<4+2*b.n0→q≠ .par p)→eC (cz b) q= .unused:=fun q hq=>dD _ fun p hp e=>hq p (a9.1 hp) e.symm
 have h3:eC (cz b) (.loc 3)= .unused:=hU _ (by simp);have hN:∀c l,eC (cz b) (NC c l)= .unused:=fun c l=>hU _ (by simp[NC])
 have hlen:n<b.nodes.length:=(List.getElem?_eq_some_iff.1 hx).1;have pw:B=1073741824:=rfl;have nI:=cU (n0:=b.n0) (lab:=Lb.par) (x:=x) hp;have cM:=dE.get hx;rw[nI] at cM;have sU:∀cs,bW Lb.par b (bG (eC (cz b)) (.loc 3) cs):=fun cs=>dE.iW (by simp)
 unfold aU;simp only[↓aX,mX,reduceCtorEq,Nat.reduceEqDiff,Nat.reduceLT,Nat.reduceLeDiff,Nat.reduceAdd,Nat.reduceMul,Int.reduceToNat,Int.reduceLE,Int.reduceLT,Op.av,h3,Int.reduceBEq]
 try simp only[↓aX,mX,reduceCtorEq,Nat.reduceEqDiff,Nat.reduceLT,Nat.reduceLeDiff,Nat.reduceAdd,Nat.reduceMul,Int.reduceToNat,Int.reduceLE,Int.reduceLT,Op.av,h3,dE.s,dE.n,dE.f,dE.a,hlen,List.length_mapIdx,Int.natCast_nonneg,Int.toNat_natCast,and_self,true_and,Nat.zero_add,cM,bb]
 refine jz (lab:=Lb.par) wH (sU _) hx C5 hy nH C6 9 (fun l=>by rw[aq _ _ (by simp[NC])];exact hN 9 l) ?_;intro H2 n6 m_;have sB:=m_ (.loc 3) (by simp) (by simp[NC]);rw[ai,if_pos rfl] at sB
 have Hr:∀c l,c≠9→H2 (NC c l)= .unused:=fun c l hc=>by
  rw[m_ _ (by simp[NC]) (by intro l' e;simp[NC] at e;exact hc e.2),aq _ _ (by simp[NC])];exact hN c l
 have KB:∀q,H2 (.gen q)= .unused:=fun q=>by
  rw[m_ _ (by simp) (by simp[NC]),aq _ _ (by simp)];exact hU _ (by simp)
 rw[hk];have vD:n<b.as.length:=(List.getElem?_eq_some_iff.1 hf).1;have mT:IntKind.i64.wrap ((k:Int)+1)=((k+1:Nat):Int):=wrap64 (by omega) (by omega);have G9:IntKind.i64.wrap (((k+1:Nat):Int)+(f:Int))=((k+1+f:Nat):Int):=wrap64 (by omega) (by omega)
 simp only[↓aX,mX,reduceCtorEq,Nat.reduceEqDiff,Nat.reduceLT,Nat.reduceLeDiff,Nat.reduceAdd,Nat.reduceMul,Int.reduceToNat,Int.reduceLE,Int.reduceLT,sB,n6.s,n6.a,Int.natCast_nonneg,Int.toNat_natCast,and_self,true_and,Nat.zero_add,List.length_map,qH,hf,vD,Option.map_some,bb,mT,G9];refine⟨rfl,?_⟩;refine j0 hI n6 rfl hn nH hy yU hb Bo 10 (fun l=>Hr 10 l (by decide)) ?_;intro cQ H3 g1 g2 g4 g5
 have Qa:=g4 (.loc 3) (by simp) (by simp[NC]);rw[sB] at Qa;have e0:cQ 0= .par 0:=g2 0 (by omega) (by omega) (by omega);have e2:cQ 2= .par 2:=g2 2 (by omega) (by omega) (by omega);have e3:cQ 3= .par 3:=g2 3 (by omega) (by omega) (by omega);have m_:=g1.s;have xn:=g1.a;rw[e0,e2,e3] at m_;rw[e3] at xn;rw[lT,lU] at m_;rw[lU] at xn
 have hw:IntKind.i64.wrap ((f:Int)+(co.length:Int))=((f+co.length:Nat):Int):=wrap64 (by omega) (by omega);simp only[↓aX,mX,reduceCtorEq,Nat.reduceEqDiff,Nat.reduceLT,Nat.reduceLeDiff,Nat.reduceAdd,Nat.reduceMul,Int.reduceToNat,Int.reduceLE,Int.reduceLT,Qa,m_,xn,Int.natCast_nonneg,Int.toNat_natCast,and_self,true_and,Nat.zero_add,List.length_map,qH,hf,vD,Option.map_some,bb,hw];refine⟨rfl,?_⟩
 have:=g1.Mr (as:=b.as.set n ((f+co.length:Nat):Int)) (H2:=bG H3 (.par 3) (.live ⟨1,(ay (b.as.map a6)).set n [.int .i64 ((f+co.length:Nat):Int)]⟩)) (by rw[List.length_set,lU]) (by rw[e3,ai,if_pos rfl,wG]) (fun q hq=>by rw[e3] at hq;rw[aq _ _ hq]);rw[gJ];refine⟨[],rfl,⟨fun _=> .dU [],_,cQ⟩,⟨rfl,rfl⟩,fun ρ=>by simp[cG,cn],by simp[gQ,AV.aI,ax],rfl,this,?_⟩;rintro p' (rfl|rfl|rfl)
 ·exact e0
 ·exact e2
 ·exact e3
theorem O6 {ar af an aj au aw:Nat} (hF:aA P G ar=some (194,[],(aU af an aj au aw).bare)) (b:Bn) (hn:b.n0≤b.nodes.length) (n:Nat) (hp:n<b.n0) (x:Node) (hx:b.nodes[n]?=some x)
  (co:List Tree) (na st:Bs) (p:Nat) (C5:x.parent=p) (nH:p<b.n0) (y:Node) (hy:b.nodes[p]?=some y) (C6:y.kids.length≤B) (wH:lS P G an) (k:Nat) (hk:jE y.kids n=(k:Int)) (yU:k<y.kids.length) (hD:CZ P G aj) :
  n5 P G ar [.ptr (.par 0) 3 0 0,(⟨5,n,co,na,st⟩:Op).av] (cz b) [0,2,3] fun X R2=>X=(fun _=> .dU [])∧R2=cz (b.del p k):=by
 refine dZ hF (by simp) (by simp[ax,AV.aI,a9,Op.av];omega) ?_;have dE:bW Lb.par b (eC (cz b)):=eF _;have hU:∀q:Lb,(∀p,p<4+2*b.n0→q≠ .par p)→eC (cz b) q= .unused:=fun q hq=>dD _ fun p hp e=>hq p (a9.1 hp) e.symm
 have h3:eC (cz b) (.loc 3)= .unused:=hU _ (by simp);have hN:∀c l,eC (cz b) (NC c l)= .unused:=fun c l=>hU _ (by simp[NC])
 have hlen:n<b.nodes.length:=(List.getElem?_eq_some_iff.1 hx).1;have pw:B=1073741824:=rfl;have nI:=cU (n0:=b.n0) (lab:=Lb.par) (x:=x) hp;have cM:=dE.get hx;rw[nI] at cM;have sU:∀cs,bW Lb.par b (bG (eC (cz b)) (.loc 3) cs):=fun cs=>dE.iW (by simp)
 unfold aU;simp only[↓aX,mX,reduceCtorEq,Nat.reduceEqDiff,Nat.reduceLT,Nat.reduceLeDiff,Nat.reduceAdd,Nat.reduceMul,Int.reduceToNat,Int.reduceLE,Int.reduceLT,Op.av,h3,Int.reduceBEq]
 try simp only[↓aX,mX,reduceCtorEq,Nat.reduceEqDiff,Nat.reduceLT,Nat.reduceLeDiff,Nat.reduceAdd,Nat.reduceMul,Int.reduceToNat,Int.reduceLE,Int.reduceLT,Op.av,h3,dE.s,dE.n,dE.f,dE.a,hlen,List.length_mapIdx,Int.natCast_nonneg,Int.toNat_natCast,and_self,true_and,Nat.zero_add,cM,bb]
 refine jz (lab:=Lb.par) wH (sU _) hx C5 hy nH C6 9 (fun l=>by rw[aq _ _ (by simp[NC])];exact hN 9 l) ?_;intro H2 n6 m_;have sB:=m_ (.loc 3) (by simp) (by simp[NC]);rw[ai,if_pos rfl] at sB
 have Hr:∀c l,c≠9→H2 (NC c l)= .unused:=fun c l hc=>by
  rw[m_ _ (by simp[NC]) (by intro l' e;simp[NC] at e;exact hc e.2),aq _ _ (by simp[NC])];exact hN c l
 have KB:∀q,H2 (.gen q)= .unused:=fun q=>by
  rw[m_ _ (by simp) (by simp[NC]),aq _ _ (by simp)];exact hU _ (by simp)
 rw[hk];have mc:p<b.nodes.length:=(List.getElem?_eq_some_iff.1 hy).1;have oW:=n6.get hy;rw[cU nH] at oW;have C7:=n6.kd nH hy;have mT:IntKind.i64.wrap ((k:Int)+1)=((k+1:Nat):Int):=wrap64 (by omega) (by omega);have C8:b.del p k=b.set p {y with kids:=y.kids.take k++y.kids.drop (k+1)}:=by unfold Bn.del;rw[hy]
 have JV:¬(1:Nat)=5+2*p:=by omega
 have key:∀(N:Lb),(N= .par (5+2*p)∨N= .gen 134)→∀H3:Hp,H3 (.par 1)= .live ⟨5,(b.nodes.mapIdx (cx b.n0 Lb.par)).set p [.bool y.text,.str y.s,.sl (.par (4+2*p)) 2 0 y.attrs.length,.int .i64 y.parent,.sl N 1 0 (y.kids.take k++y.kids.drop (k+1)).length]⟩ →
   H3 N= .live ⟨1,ay ((y.kids.take k++y.kids.drop (k+1)).map a6)⟩→(∀q,q≠ .par 1→q≠N→q≠ .par (5+2*p)→H3 q=H2 q)→bW (fun p'=>if p'=5+2*p then N else Lb.par p') (b.del p k) H3:=by
  intro N hN H3 e1 e2 e3;rw[C8];refine bW.FP n6 nH hy ?_ e1 e2 e3;rcases hN with rfl|rfl
  ·exact .inl rfl
  ·exact .inr (by simp)
 simp only[↓aX,mX,reduceCtorEq,Nat.reduceEqDiff,Nat.reduceLT,Nat.reduceLeDiff,Nat.reduceAdd,Nat.reduceMul,Int.reduceToNat,Int.reduceLE,Int.reduceLT,sB,n6.s,n6.n,mc,List.length_mapIdx,Int.natCast_nonneg,Int.toNat_natCast,and_self,true_and,Nat.zero_add,oW,mT,List.length_map,JV,ge_iff_le,decide_true];refine⟨rfl,?_⟩
 refine qE (l:= .par (5+2*p)) (N:= .gen 134) (hD y.kids k yU C6) rfl C7 (KB _) (by simp[Lb.fresh]) (by simp[Lb.iJ]) (by simp[Lb.iJ]) ?_ ?_
 ·simp only[↓aX,mX,reduceCtorEq,Nat.reduceEqDiff,Nat.reduceLT,Nat.reduceLeDiff,Nat.reduceAdd,Nat.reduceMul,Int.reduceToNat,Int.reduceLE,Int.reduceLT,sB,n6.s,n6.n,mc,List.length_mapIdx,Int.natCast_nonneg,Int.toNat_natCast,and_self,true_and,Nat.zero_add,oW,mT,List.length_map,JV]
  have JW:=key (.gen 134) (.inr rfl) (bG (bG (bG H2 (.par (5+2*p)) .dead) (.gen 134) (.live ⟨1,ay ((y.kids.take k++y.kids.drop (k+1)).map a6)⟩)) (.par 1) (.live ⟨5,(b.nodes.mapIdx (cx b.n0 Lb.par)).set p [.bool y.text,.str y.s,.sl (.par (4+2*p)) 2 0 y.attrs.length,.int .i64 y.parent,.sl (.gen 134) 1 0 (y.kids.take k++y.kids.drop (k+1)).length]⟩)) (by simp[ai]) (by simp[ai]) (by intro q g1 g2 g3;simp[ai,g1,g2,g3])
  rw[gJ];refine⟨[],rfl,⟨fun _=> .dU [],_,fun p'=>if p'=5+2*p then Lb.gen 134 else Lb.par p'⟩,⟨rfl,rfl⟩,fun ρ=>by simp[cG,cn],by simp[gQ,AV.aI,ax],rfl,JW,?_⟩;rintro p' (rfl|rfl|rfl)
  ·exact if_neg (by omega)
  ·exact if_neg (by omega)
  ·exact if_neg (by omega)
 ·simp only[↓aX,mX,reduceCtorEq,Nat.reduceEqDiff,Nat.reduceLT,Nat.reduceLeDiff,Nat.reduceAdd,Nat.reduceMul,Int.reduceToNat,Int.reduceLE,Int.reduceLT,sB,n6.s,n6.n,mc,List.length_mapIdx,Int.natCast_nonneg,Int.toNat_natCast,and_self,true_and,Nat.zero_add,oW,mT,List.length_map,JV]
  have JW:=key (.par (5+2*p)) (.inl rfl) (bG (bG (bG H2 (.par (5+2*p)) .dead) (.par (5+2*p)) (.live ⟨1,ay ((y.kids.take k++y.kids.drop (k+1)).map a6)⟩)) (.par 1) (.live ⟨5,(b.nodes.mapIdx (cx b.n0 Lb.par)).set p [.bool y.text,.str y.s,.sl (.par (4+2*p)) 2 0 y.attrs.length,.int .i64 y.parent,.sl (.par (5+2*p)) 1 0 (y.kids.take k++y.kids.drop (k+1)).length]⟩)) (by simp[ai]) (by simp[ai];omega) (by intro q g1 g2 g3;simp[ai,g1,g2,g3])
  rw[gJ];refine⟨[],rfl,⟨fun _=> .dU [],_,fun p'=>if p'=5+2*p then(.par (5+2*p)) else Lb.par p'⟩,⟨rfl,rfl⟩,fun ρ=>by simp[cG,cn],by simp[gQ,AV.aI,ax],rfl,JW,?_⟩;rintro p' (rfl|rfl|rfl)
  ·exact if_neg (by omega)
  ·exact if_neg (by omega)
  ·exact if_neg (by omega)
theorem MB {ar af an aj au aw:Nat} (hF:aA P G ar=some (194,[],(aU af an aj au aw).bare)) (b:Bn) (hn:b.n0≤b.nodes.length) (n:Nat) (hp:n<b.n0) (x:Node) (hx:b.nodes[n]?=some x)
  (co:List Tree) (na st:Bs) (p:Nat) (C5:x.parent=p) (nH:p<b.n0) (y:Node) (hy:b.nodes[p]?=some y) (C6:y.kids.length≤B) (wH:lS P G an) (hk:jE y.kids n= -1) :
  n5 P G ar [.ptr (.par 0) 3 0 0,(⟨5,n,co,na,st⟩:Op).av] (cz b) [0,2,3] fun X R2=>X=(fun _=> .dU [])∧R2=cz (b):=by
 refine dZ hF (by simp) (by simp[ax,AV.aI,a9,Op.av];omega) ?_;have dE:bW Lb.par b (eC (cz b)):=eF _;have hU:∀q:Lb,(∀p,p<4+2*b.n0→q≠ .par p)→eC (cz b) q= .unused:=fun q hq=>dD _ fun p hp e=>hq p (a9.1 hp) e.symm
 have h3:eC (cz b) (.loc 3)= .unused:=hU _ (by simp);have hN:∀c l,eC (cz b) (NC c l)= .unused:=fun c l=>hU _ (by simp[NC])
 have hlen:n<b.nodes.length:=(List.getElem?_eq_some_iff.1 hx).1;have pw:B=1073741824:=rfl;have nI:=cU (n0:=b.n0) (lab:=Lb.par) (x:=x) hp;have cM:=dE.get hx;rw[nI] at cM;have sU:∀cs,bW Lb.par b (bG (eC (cz b)) (.loc 3) cs):=fun cs=>dE.iW (by simp)
 unfold aU;simp only[↓aX,mX,reduceCtorEq,Nat.reduceEqDiff,Nat.reduceLT,Nat.reduceLeDiff,Nat.reduceAdd,Nat.reduceMul,Int.reduceToNat,Int.reduceLE,Int.reduceLT,Op.av,h3,Int.reduceBEq]
 try simp only[↓aX,mX,reduceCtorEq,Nat.reduceEqDiff,Nat.reduceLT,Nat.reduceLeDiff,Nat.reduceAdd,Nat.reduceMul,Int.reduceToNat,Int.reduceLE,Int.reduceLT,Op.av,h3,dE.s,dE.n,dE.f,dE.a,hlen,List.length_mapIdx,Int.natCast_nonneg,Int.toNat_natCast,and_self,true_and,Nat.zero_add,cM,bb]
 refine jz (lab:=Lb.par) wH (sU _) hx C5 hy nH C6 9 (fun l=>by rw[aq _ _ (by simp[NC])];exact hN 9 l) ?_;intro H2 n6 m_;have sB:=m_ (.loc 3) (by simp) (by simp[NC]);rw[ai,if_pos rfl] at sB
 have Hr:∀c l,c≠9→H2 (NC c l)= .unused:=fun c l hc=>by
  rw[m_ _ (by simp[NC]) (by intro l' e;simp[NC] at e;exact hc e.2),aq _ _ (by simp[NC])];exact hN c l
 have KB:∀q,H2 (.gen q)= .unused:=fun q=>by
  rw[m_ _ (by simp) (by simp[NC]),aq _ _ (by simp)];exact hU _ (by simp)
 rw[hk];simp only[↓aX,mX,reduceCtorEq,Nat.reduceEqDiff,Nat.reduceLT,Nat.reduceLeDiff,Nat.reduceAdd,Nat.reduceMul,Int.reduceToNat,Int.reduceLE,Int.reduceLT,sB,ge_iff_le,show decide ((0:Int)≤ -1)=false by decide,decide_false];rw[gJ];refine⟨[],rfl,⟨fun _=> .dU [],_,Lb.par⟩,⟨rfl,rfl⟩,fun ρ=>by simp[cG,cn],by simp[gQ,AV.aI,ax],rfl,n6,?_⟩;rintro p' (rfl|rfl|rfl)
 ·exact rfl
 ·exact rfl
 ·exact rfl
theorem O7 {ar af an aj au aw:Nat} (hF:aA P G ar=some (194,[],(aU af an aj au aw).bare)) (b:Bn) (hn:b.n0≤b.nodes.length) (n:Nat) (hp:n<b.n0) (x:Node) (hx:b.nodes[n]?=some x)
  (co:List Tree) (na st:Bs) (p:Nat) (C5:x.parent=p) (nH:p<b.n0) (y:Node) (hy:b.nodes[p]?=some y) (C6:y.kids.length≤B) (wH:lS P G an) (k:Nat) (hk:jE y.kids n=(k:Int)) (yU:k<y.kids.length) (hD:CZ P G aj) (hb:b.nodes.length+di co≤B) (Bo:y.kids.length+co.length≤B) (hI:sS P G af) :
  n5 P G ar [.ptr (.par 0) 3 0 0,(⟨6,n,co,na,st⟩:Op).av] (cz b) [0,2,3] fun X R2=>X=(fun _=> .dU [])∧R2=cz ((b.del p k).ins p k co):=by
 refine dZ hF (by simp) (by simp[ax,AV.aI,a9,Op.av];omega) ?_;have dE:bW Lb.par b (eC (cz b)):=eF _;have hU:∀q:Lb,(∀p,p<4+2*b.n0→q≠ .par p)→eC (cz b) q= .unused:=fun q hq=>dD _ fun p hp e=>hq p (a9.1 hp) e.symm
 have h3:eC (cz b) (.loc 3)= .unused:=hU _ (by simp);have hN:∀c l,eC (cz b) (NC c l)= .unused:=fun c l=>hU _ (by simp[NC])
 have hlen:n<b.nodes.length:=(List.getElem?_eq_some_iff.1 hx).1;have pw:B=1073741824:=rfl;have nI:=cU (n0:=b.n0) (lab:=Lb.par) (x:=x) hp;have cM:=dE.get hx;rw[nI] at cM;have sU:∀cs,bW Lb.par b (bG (eC (cz b)) (.loc 3) cs):=fun cs=>dE.iW (by simp)
 unfold aU;simp only[↓aX,mX,reduceCtorEq,Nat.reduceEqDiff,Nat.reduceLT,Nat.reduceLeDiff,Nat.reduceAdd,Nat.reduceMul,Int.reduceToNat,Int.reduceLE,Int.reduceLT,Op.av,h3,Int.reduceBEq]
 try simp only[↓aX,mX,reduceCtorEq,Nat.reduceEqDiff,Nat.reduceLT,Nat.reduceLeDiff,Nat.reduceAdd,Nat.reduceMul,Int.reduceToNat,Int.reduceLE,Int.reduceLT,Op.av,h3,dE.s,dE.n,dE.f,dE.a,hlen,List.length_mapIdx,Int.natCast_nonneg,Int.toNat_natCast,and_self,true_and,Nat.zero_add,cM,bb]
 refine jz (lab:=Lb.par) wH (sU _) hx C5 hy nH C6 9 (fun l=>by rw[aq _ _ (by simp[NC])];exact hN 9 l) ?_;intro H2 n6 m_;have sB:=m_ (.loc 3) (by simp) (by simp[NC]);rw[ai,if_pos rfl] at sB
 have Hr:∀c l,c≠9→H2 (NC c l)= .unused:=fun c l hc=>by
  rw[m_ _ (by simp[NC]) (by intro l' e;simp[NC] at e;exact hc e.2),aq _ _ (by simp[NC])];exact hN c l
 have KB:∀q,H2 (.gen q)= .unused:=fun q=>by
  rw[m_ _ (by simp) (by simp[NC]),aq _ _ (by simp)];exact hU _ (by simp)
 rw[hk];have mc:p<b.nodes.length:=(List.getElem?_eq_some_iff.1 hy).1;have oW:=n6.get hy;rw[cU nH] at oW;have C7:=n6.kd nH hy;have mT:IntKind.i64.wrap ((k:Int)+1)=((k+1:Nat):Int):=wrap64 (by omega) (by omega);have C8:b.del p k=b.set p {y with kids:=y.kids.take k++y.kids.drop (k+1)}:=by unfold Bn.del;rw[hy]
 have JV:¬(1:Nat)=5+2*p:=by omega
 have key:∀(N:Lb),(N= .par (5+2*p)∨N= .gen 161)→∀H3:Hp,H3 (.par 1)= .live ⟨5,(b.nodes.mapIdx (cx b.n0 Lb.par)).set p [.bool y.text,.str y.s,.sl (.par (4+2*p)) 2 0 y.attrs.length,.int .i64 y.parent,.sl N 1 0 (y.kids.take k++y.kids.drop (k+1)).length]⟩ →
   H3 N= .live ⟨1,ay ((y.kids.take k++y.kids.drop (k+1)).map a6)⟩→(∀q,q≠ .par 1→q≠N→q≠ .par (5+2*p)→H3 q=H2 q)→bW (fun p'=>if p'=5+2*p then N else Lb.par p') (b.del p k) H3:=by
  intro N hN H3 e1 e2 e3;rw[C8];refine bW.FP n6 nH hy ?_ e1 e2 e3;rcases hN with rfl|rfl
  ·exact .inl rfl
  ·exact .inr (by simp)
 have D6:(b.del p k).nodes.length=b.nodes.length:=by rw[C8];simp[Bn.set]
 have Qb:(b.del p k).nodes[p]?=some {y with kids:=y.kids.take k++y.kids.drop (k+1)}:=by rw[C8];simp[Bn.set,mc]
 simp only[↓aX,mX,reduceCtorEq,Nat.reduceEqDiff,Nat.reduceLT,Nat.reduceLeDiff,Nat.reduceAdd,Nat.reduceMul,Int.reduceToNat,Int.reduceLE,Int.reduceLT,sB,n6.s,n6.n,mc,List.length_mapIdx,Int.natCast_nonneg,Int.toNat_natCast,and_self,true_and,Nat.zero_add,oW,mT,List.length_map,JV,ge_iff_le,decide_true];refine⟨rfl,?_⟩
 refine qE (l:= .par (5+2*p)) (N:= .gen 161) (hD y.kids k yU C6) rfl C7 (KB _) (by simp[Lb.fresh]) (by simp[Lb.iJ]) (by simp[Lb.iJ]) ?_ ?_
 ·simp only[↓aX,mX,reduceCtorEq,Nat.reduceEqDiff,Nat.reduceLT,Nat.reduceLeDiff,Nat.reduceAdd,Nat.reduceMul,Int.reduceToNat,Int.reduceLE,Int.reduceLT,sB,n6.s,n6.n,mc,List.length_mapIdx,Int.natCast_nonneg,Int.toNat_natCast,and_self,true_and,Nat.zero_add,oW,mT,List.length_map,JV]
  have JW:=key (.gen 161) (.inr rfl) (bG (bG (bG H2 (.par (5+2*p)) .dead) (.gen 161) (.live ⟨1,ay ((y.kids.take k++y.kids.drop (k+1)).map a6)⟩)) (.par 1) (.live ⟨5,(b.nodes.mapIdx (cx b.n0 Lb.par)).set p [.bool y.text,.str y.s,.sl (.par (4+2*p)) 2 0 y.attrs.length,.int .i64 y.parent,.sl (.gen 161) 1 0 (y.kids.take k++y.kids.drop (k+1)).length]⟩)) (by simp[ai]) (by simp[ai]) (by intro q g1 g2 g3;simp[ai,g1,g2,g3])
  refine j0 hI JW (if_neg (by omega)) (by rw[D6,kj];exact hn) (by rw[kj];exact nH) Qb (by simp;omega) (by rw[D6];exact hb) (by simp;omega) 10 (fun l=>by simp[ai,NC];exact Hr 10 l (by decide)) ?_;intro cQ H3 g1 g2 g4 g5;simp only[↓aX,mX,reduceCtorEq,Nat.reduceEqDiff,Nat.reduceLT,Nat.reduceLeDiff,Nat.reduceAdd,Nat.reduceMul,Int.reduceToNat,Int.reduceLE,Int.reduceLT]
  have e0:cQ 0= .par 0:=(g2 0 (by rw[kj];omega) (by omega) (by omega)).trans (if_neg (by omega));have e2:cQ 2= .par 2:=(g2 2 (by rw[kj];omega) (by omega) (by omega)).trans (if_neg (by omega));have e3:cQ 3= .par 3:=(g2 3 (by rw[kj];omega) (by omega) (by omega)).trans (if_neg (by omega));rw[gJ];refine⟨[],rfl,⟨fun _=> .dU [],_,cQ⟩,⟨rfl,rfl⟩,fun ρ=>by simp[cG,cn],by simp[gQ,AV.aI,ax],rfl,g1,?_⟩
  rintro p' (rfl|rfl|rfl)
  ·exact e0
  ·exact e2
  ·exact e3
 ·simp only[↓aX,mX,reduceCtorEq,Nat.reduceEqDiff,Nat.reduceLT,Nat.reduceLeDiff,Nat.reduceAdd,Nat.reduceMul,Int.reduceToNat,Int.reduceLE,Int.reduceLT,sB,n6.s,n6.n,mc,List.length_mapIdx,Int.natCast_nonneg,Int.toNat_natCast,and_self,true_and,Nat.zero_add,oW,mT,List.length_map,JV]
  have JW:=key (.par (5+2*p)) (.inl rfl) (bG (bG (bG H2 (.par (5+2*p)) .dead) (.par (5+2*p)) (.live ⟨1,ay ((y.kids.take k++y.kids.drop (k+1)).map a6)⟩)) (.par 1) (.live ⟨5,(b.nodes.mapIdx (cx b.n0 Lb.par)).set p [.bool y.text,.str y.s,.sl (.par (4+2*p)) 2 0 y.attrs.length,.int .i64 y.parent,.sl (.par (5+2*p)) 1 0 (y.kids.take k++y.kids.drop (k+1)).length]⟩)) (by simp[ai]) (by simp[ai];omega) (by intro q g1 g2 g3;simp[ai,g1,g2,g3])
  refine j0 hI JW (if_neg (by omega)) (by rw[D6,kj];exact hn) (by rw[kj];exact nH) Qb (by simp;omega) (by rw[D6];exact hb) (by simp;omega) 10 (fun l=>by simp[ai,NC];exact Hr 10 l (by decide)) ?_;intro cQ H3 g1 g2 g4 g5;simp only[↓aX,mX,reduceCtorEq,Nat.reduceEqDiff,Nat.reduceLT,Nat.reduceLeDiff,Nat.reduceAdd,Nat.reduceMul,Int.reduceToNat,Int.reduceLE,Int.reduceLT]
  have e0:cQ 0= .par 0:=(g2 0 (by rw[kj];omega) (by omega) (by omega)).trans (if_neg (by omega));have e2:cQ 2= .par 2:=(g2 2 (by rw[kj];omega) (by omega) (by omega)).trans (if_neg (by omega));have e3:cQ 3= .par 3:=(g2 3 (by rw[kj];omega) (by omega) (by omega)).trans (if_neg (by omega));rw[gJ];refine⟨[],rfl,⟨fun _=> .dU [],_,cQ⟩,⟨rfl,rfl⟩,fun ρ=>by simp[cG,cn],by simp[gQ,AV.aI,ax],rfl,g1,?_⟩
  rintro p' (rfl|rfl|rfl)
  ·exact e0
  ·exact e2
  ·exact e3
theorem O8 {ar af an aj au aw:Nat} (hF:aA P G ar=some (194,[],(aU af an aj au aw).bare)) (b:Bn) (hn:b.n0≤b.nodes.length) (n:Nat) (hp:n<b.n0) (x:Node) (hx:b.nodes[n]?=some x)
  (co:List Tree) (na st:Bs) (hb:b.nodes.length+1+st.length≤B) (hV:u4 P G au) :
  n5 P G ar [.ptr (.par 0) 3 0 0,(⟨7,n,co,na,st⟩:Op).av] (cz b) [0,2,3] fun X R2=>X=(fun _=> .dU [])∧R2=cz (b.value n st):=by
 refine dZ hF (by simp) (by simp[ax,AV.aI,a9,Op.av];omega) ?_;have dE:bW Lb.par b (eC (cz b)):=eF _;have hU:∀q:Lb,(∀p,p<4+2*b.n0→q≠ .par p)→eC (cz b) q= .unused:=fun q hq=>dD _ fun p hp e=>hq p (a9.1 hp) e.symm
 have h3:eC (cz b) (.loc 3)= .unused:=hU _ (by simp);have hN:∀c l,eC (cz b) (NC c l)= .unused:=fun c l=>hU _ (by simp[NC])
 have hlen:n<b.nodes.length:=(List.getElem?_eq_some_iff.1 hx).1;have pw:B=1073741824:=rfl;have nI:=cU (n0:=b.n0) (lab:=Lb.par) (x:=x) hp;have cM:=dE.get hx;rw[nI] at cM;have sU:∀cs,bW Lb.par b (bG (eC (cz b)) (.loc 3) cs):=fun cs=>dE.iW (by simp)
 unfold aU;simp only[↓aX,mX,reduceCtorEq,Nat.reduceEqDiff,Nat.reduceLT,Nat.reduceLeDiff,Nat.reduceAdd,Nat.reduceMul,Int.reduceToNat,Int.reduceLE,Int.reduceLT,Op.av,h3,Int.reduceBEq]
 try simp only[↓aX,mX,reduceCtorEq,Nat.reduceEqDiff,Nat.reduceLT,Nat.reduceLeDiff,Nat.reduceAdd,Nat.reduceMul,Int.reduceToNat,Int.reduceLE,Int.reduceLT,Op.av,h3,dE.s,dE.n,dE.f,dE.a,hlen,List.length_mapIdx,Int.natCast_nonneg,Int.toNat_natCast,and_self,true_and,Nat.zero_add,cM,bb]
 refine gV (lab:=Lb.par) (N:=NC 9) (hV b hn n hp x hx st hb) (by simp[cn,cG,rW]) (sU _) (fun l=>by rw[aq _ _ (by simp[NC])];exact hN 9 l) (mG 9) (fun l h=> .inl h) (fun p' ed=>a9.2 (gY.1 ed).1) ?_;rintro X R2 cQ H2 ⟨rfl,rfl⟩ g1 g2 g3 g4 g5 g6;simp only[↓aX,mX,reduceCtorEq,Nat.reduceEqDiff,Nat.reduceLT,Nat.reduceLeDiff,Nat.reduceAdd,Nat.reduceMul,Int.reduceToNat,Int.reduceLE,Int.reduceLT];rw[gJ]
 refine⟨[],rfl,⟨fun _=> .dU [],_,cQ⟩,⟨rfl,rfl⟩,fun ρ=>by simp[cG,cn],by simp[gQ,AV.aI,ax],rfl,g1,?_⟩;rintro p' (rfl|rfl|rfl)
 ·exact g2 0 (gY.2 ⟨by omega,by omega,by omega⟩)
 ·exact g2 2 (gY.2 ⟨by omega,by omega,by omega⟩)
 ·exact g2 3 (gY.2 ⟨by omega,by omega,by omega⟩)
theorem O9 {ar af an aj au aw:Nat} (hF:aA P G ar=some (194,[],(aU af an aj au aw).bare)) (b:Bn) (hn:b.n0≤b.nodes.length) (n:Nat) (hp:n<b.n0) (x:Node) (hx:b.nodes[n]?=some x)
  (co:List Tree) (na st:Bs) :
  n5 P G ar [.ptr (.par 0) 3 0 0,(⟨8,n,co,na,st⟩:Op).av] (cz b) [0,2,3] fun X R2=>X=(fun _=> .dU [])∧R2=cz (b.name n na):=by
 refine dZ hF (by simp) (by simp[ax,AV.aI,a9,Op.av];omega) ?_;have dE:bW Lb.par b (eC (cz b)):=eF _;have hU:∀q:Lb,(∀p,p<4+2*b.n0→q≠ .par p)→eC (cz b) q= .unused:=fun q hq=>dD _ fun p hp e=>hq p (a9.1 hp) e.symm
 have h3:eC (cz b) (.loc 3)= .unused:=hU _ (by simp);have hN:∀c l,eC (cz b) (NC c l)= .unused:=fun c l=>hU _ (by simp[NC])
 have hlen:n<b.nodes.length:=(List.getElem?_eq_some_iff.1 hx).1;have pw:B=1073741824:=rfl;have nI:=cU (n0:=b.n0) (lab:=Lb.par) (x:=x) hp;have cM:=dE.get hx;rw[nI] at cM;have sU:∀cs,bW Lb.par b (bG (eC (cz b)) (.loc 3) cs):=fun cs=>dE.iW (by simp)
 unfold aU;simp only[↓aX,mX,reduceCtorEq,Nat.reduceEqDiff,Nat.reduceLT,Nat.reduceLeDiff,Nat.reduceAdd,Nat.reduceMul,Int.reduceToNat,Int.reduceLE,Int.reduceLT,Op.av,h3,Int.reduceBEq]
 try simp only[↓aX,mX,reduceCtorEq,Nat.reduceEqDiff,Nat.reduceLT,Nat.reduceLeDiff,Nat.reduceAdd,Nat.reduceMul,Int.reduceToNat,Int.reduceLE,Int.reduceLT,Op.av,h3,dE.s,dE.n,dE.f,dE.a,hlen,List.length_mapIdx,Int.natCast_nonneg,Int.toNat_natCast,and_self,true_and,Nat.zero_add,cM,bb]
 refine⟨rfl,?_⟩;have RH:b.name n na=b.set n {x with s:=na}:=by unfold Bn.name;rw[hx]
 have:=bW.Mo (s:=na) (H2:=bG (bG (eC (cz b)) (.loc 3) (.live ⟨5,[[.int .i64 8,.int .i64 n,.list (dc co),.str na,.str st]]⟩)) (.par 1) (.live ⟨5,(b.nodes.mapIdx (cx b.n0 Lb.par)).set n [.bool x.text,.str na,.sl (.par (4+2*n)) 2 0 x.attrs.length,.int .i64 x.parent,.sl (.par (5+2*n)) 1 0 x.kids.length]⟩)) (sU _) hx (by rw[ai,if_pos rfl,cU hp]) (fun q hq=>by rw[aq _ _ hq]);rw[←RH] at this;rw[gJ]
 refine⟨[],rfl,⟨fun _=> .dU [],_,Lb.par⟩,⟨rfl,rfl⟩,fun ρ=>by simp[cG,cn],by simp[gQ,AV.aI,ax],rfl,this,?_⟩;rintro p' (rfl|rfl|rfl)
 ·exact rfl
 ·exact rfl
 ·exact rfl
theorem O' {ar af an aj au aw:Nat} (hF:aA P G ar=some (194,[],(aU af an aj au aw).bare)) (b:Bn) (hn:b.n0≤b.nodes.length) (n:Nat) (hp:n<b.n0) (x:Node) (hx:b.nodes[n]?=some x)
  (co:List Tree) (na st:Bs) (hb:x.attrs.length+1≤B) (hr:gD x.attrs=true) (Hs:wF P G aw) :
  n5 P G ar [.ptr (.par 0) 3 0 0,(⟨9,n,co,na,st⟩:Op).av] (cz b) [0,2,3] fun X R2=>X=(fun _=> .dU [])∧R2=cz (b.attr n ⟨9,n,co,na,st⟩):=by
 refine dZ hF (by simp) (by simp[ax,AV.aI,a9,Op.av];omega) ?_;have dE:bW Lb.par b (eC (cz b)):=eF _;have hU:∀q:Lb,(∀p,p<4+2*b.n0→q≠ .par p)→eC (cz b) q= .unused:=fun q hq=>dD _ fun p hp e=>hq p (a9.1 hp) e.symm
 have h3:eC (cz b) (.loc 3)= .unused:=hU _ (by simp);have hN:∀c l,eC (cz b) (NC c l)= .unused:=fun c l=>hU _ (by simp[NC])
 have hlen:n<b.nodes.length:=(List.getElem?_eq_some_iff.1 hx).1;have pw:B=1073741824:=rfl;have nI:=cU (n0:=b.n0) (lab:=Lb.par) (x:=x) hp;have cM:=dE.get hx;rw[nI] at cM;have sU:∀cs,bW Lb.par b (bG (eC (cz b)) (.loc 3) cs):=fun cs=>dE.iW (by simp)
 unfold aU;simp only[↓aX,mX,reduceCtorEq,Nat.reduceEqDiff,Nat.reduceLT,Nat.reduceLeDiff,Nat.reduceAdd,Nat.reduceMul,Int.reduceToNat,Int.reduceLE,Int.reduceLT,Op.av,h3,Int.reduceBEq]
 try simp only[↓aX,mX,reduceCtorEq,Nat.reduceEqDiff,Nat.reduceLT,Nat.reduceLeDiff,Nat.reduceAdd,Nat.reduceMul,Int.reduceToNat,Int.reduceLE,Int.reduceLT,Op.av,h3,dE.s,dE.n,dE.f,dE.a,hlen,List.length_mapIdx,Int.natCast_nonneg,Int.toNat_natCast,and_self,true_and,Nat.zero_add,cM,bb]
 refine gV (lab:=Lb.par) (N:=NC 9) (Hs b n hp x hx ⟨9,n,co,na,st⟩ rfl (by simp) hb hr) (by simp[cn,cG,rW,Op.av]) (sU _) (fun l=>by rw[aq _ _ (by simp[NC])];exact hN 9 l) (mG 9) (fun l h=> .inl h) (fun p' ed=>a9.2 (fZ.1 ed).1) ?_;rintro X R2 cQ H2 ⟨rfl,rfl⟩ g1 g2 g3 g4 g5 g6
 simp only[↓aX,mX,reduceCtorEq,Nat.reduceEqDiff,Nat.reduceLT,Nat.reduceLeDiff,Nat.reduceAdd,Nat.reduceMul,Int.reduceToNat,Int.reduceLE,Int.reduceLT];rw[gJ];refine⟨[],rfl,⟨fun _=> .dU [],_,cQ⟩,⟨rfl,rfl⟩,fun ρ=>by simp[cG,cn],by simp[gQ,AV.aI,ax],rfl,g1,?_⟩;rintro p' (rfl|rfl|rfl)
 ·exact g2 0 (fZ.2 ⟨by omega,by omega⟩)
 ·exact g2 2 (fZ.2 ⟨by omega,by omega⟩)
 ·exact g2 3 (fZ.2 ⟨by omega,by omega⟩)
theorem MC {ar af an aj au aw:Nat} (hF:aA P G ar=some (194,[],(aU af an aj au aw).bare)) (b:Bn) (hn:b.n0≤b.nodes.length) (n:Nat) (hp:n<b.n0) (x:Node) (hx:b.nodes[n]?=some x)
  (co:List Tree) (na st:Bs) (hb:x.attrs.length+1≤B) (hr:gD x.attrs=true) (Hs:wF P G aw) :
  n5 P G ar [.ptr (.par 0) 3 0 0,(⟨10,n,co,na,st⟩:Op).av] (cz b) [0,2,3] fun X R2=>X=(fun _=> .dU [])∧R2=cz (b.attr n ⟨10,n,co,na,st⟩):=by
 refine dZ hF (by simp) (by simp[ax,AV.aI,a9,Op.av];omega) ?_;have dE:bW Lb.par b (eC (cz b)):=eF _;have hU:∀q:Lb,(∀p,p<4+2*b.n0→q≠ .par p)→eC (cz b) q= .unused:=fun q hq=>dD _ fun p hp e=>hq p (a9.1 hp) e.symm
 have h3:eC (cz b) (.loc 3)= .unused:=hU _ (by simp);have hN:∀c l,eC (cz b) (NC c l)= .unused:=fun c l=>hU _ (by simp[NC])
 have hlen:n<b.nodes.length:=(List.getElem?_eq_some_iff.1 hx).1;have pw:B=1073741824:=rfl;have nI:=cU (n0:=b.n0) (lab:=Lb.par) (x:=x) hp;have cM:=dE.get hx;rw[nI] at cM;have sU:∀cs,bW Lb.par b (bG (eC (cz b)) (.loc 3) cs):=fun cs=>dE.iW (by simp)
 unfold aU;simp only[↓aX,mX,reduceCtorEq,Nat.reduceEqDiff,Nat.reduceLT,Nat.reduceLeDiff,Nat.reduceAdd,Nat.reduceMul,Int.reduceToNat,Int.reduceLE,Int.reduceLT,Op.av,h3,Int.reduceBEq]
 try simp only[↓aX,mX,reduceCtorEq,Nat.reduceEqDiff,Nat.reduceLT,Nat.reduceLeDiff,Nat.reduceAdd,Nat.reduceMul,Int.reduceToNat,Int.reduceLE,Int.reduceLT,Op.av,h3,dE.s,dE.n,dE.f,dE.a,hlen,List.length_mapIdx,Int.natCast_nonneg,Int.toNat_natCast,and_self,true_and,Nat.zero_add,cM,bb]
 refine gV (lab:=Lb.par) (N:=NC 9) (Hs b n hp x hx ⟨10,n,co,na,st⟩ rfl (by simp) hb hr) (by simp[cn,cG,rW,Op.av]) (sU _) (fun l=>by rw[aq _ _ (by simp[NC])];exact hN 9 l) (mG 9) (fun l h=> .inl h) (fun p' ed=>a9.2 (fZ.1 ed).1) ?_;rintro X R2 cQ H2 ⟨rfl,rfl⟩ g1 g2 g3 g4 g5 g6
 simp only[↓aX,mX,reduceCtorEq,Nat.reduceEqDiff,Nat.reduceLT,Nat.reduceLeDiff,Nat.reduceAdd,Nat.reduceMul,Int.reduceToNat,Int.reduceLE,Int.reduceLT];rw[gJ];refine⟨[],rfl,⟨fun _=> .dU [],_,cQ⟩,⟨rfl,rfl⟩,fun ρ=>by simp[cG,cn],by simp[gQ,AV.aI,ax],rfl,g1,?_⟩;rintro p' (rfl|rfl|rfl)
 ·exact g2 0 (fZ.2 ⟨by omega,by omega⟩)
 ·exact g2 2 (fZ.2 ⟨by omega,by omega⟩)
 ·exact g2 3 (fZ.2 ⟨by omega,by omega⟩)
end
end Go.Am

/- Changes: what is done to a tree, node by node; the bench that does it. -/
namespace Go.Am
open Go Go.RowKit
def lz (l:List Op) (k:Int) (n:Nat):List Op:=l.filter fun o=>o.kind==k&&o.target==(n:Int)
def aY (l:List Op) (k:Int) (n:Nat):List Tree:=(lz l k n).flatMap Op.content
def cY (l:List Op) (k:Int) (n:Nat):Bool:= !(lz l k n).isEmpty
def eU (l:List Op) (n:Nat) (s:Bs):Bs:=match(lz l 7 n).getLast? with|some o=>o.s|none=>s
def fg (l:List Op) (n:Nat) (s:Bs):Bs:=match(lz l 8 n).getLast? with|some o=>o.name|none=>s
def kl (n:Nat) (as:List Attr) (o:Op):List Attr:=if o.target=(n:Int)∧(o.kind=9∨o.kind=10) then iM as o else as
def cL (l:List Op) (n:Nat) (as:List Attr):List Attr:=l.foldl (kl n) as
theorem oX (l:List Op) (o:Op) (k:Int) (n:Nat):lz (l++[o]) k n=lz l k n++(if o.kind=k∧o.target=(n:Int) then [o] else []):=by
 unfold lz;rw[List.filter_append]
 congr 1
 by_cases h:o.kind=k∧o.target=(n:Int)
 ·simp[h]
 ·rw[if_neg h,List.filter_cons_of_neg (by simpa using h)];rfl
theorem bI (l:List Op) (o:Op) (k:Int) (n:Nat):aY (l++[o]) k n=aY l k n++(if o.kind=k∧o.target=(n:Int) then o.content else []):=by
 unfold aY;rw[oX,List.flatMap_append];congr 1;split<;>simp
theorem df (l:List Op) (o:Op) (k:Int) (n:Nat):cY (l++[o]) k n=(cY l k n||decide (o.kind=k∧o.target=(n:Int))):=by
 unfold cY;rw[oX];by_cases h:o.kind=k∧o.target=(n:Int)
 ·simp[h]
 ·rw[if_neg h];simp[h]
theorem ng (l:List Op) (o:Op) (n:Nat) (s:Bs):eU (l++[o]) n s=if o.kind=7∧o.target=(n:Int) then o.s else eU l n s:=by
 unfold eU;rw[oX];by_cases h:o.kind=7∧o.target=(n:Int)
 ·rw[if_pos h,if_pos h,List.getLast?_concat]
 ·rw[if_neg h,if_neg h,List.append_nil]
theorem tL (l:List Op) (o:Op) (n:Nat) (s:Bs):fg (l++[o]) n s=if o.kind=8∧o.target=(n:Int) then o.name else fg l n s:=by
 unfold fg;rw[oX];by_cases h:o.kind=8∧o.target=(n:Int)
 ·rw[if_pos h,if_pos h,List.getLast?_concat]
 ·rw[if_neg h,if_neg h,List.append_nil]
theorem qd (l:List Op) (o:Op) (n:Nat) (as:List Attr):cL (l++[o]) n as=kl n (cL l n as) o:=by
 unfold cL;rw[List.foldl_append];rfl
theorem yt {l:List Op} {k:Int} {n:Nat} (h:cY l k n=false):aY l k n=[]:=by
 unfold cY at h;unfold aY;have:lz l k n=[]:=by simpa using h
 rw[this];rfl
theorem wI {l:List Op} {k:Int} {n:Nat}:cY l k n=true↔∃o∈l,o.kind=k∧o.target=(n:Int):=by
 unfold cY lz;simp only[Bool.not_eq_true',List.isEmpty_eq_false_iff,ne_eq,List.filter_eq_nil_iff,Bool.and_eq_true,beq_iff_eq];constructor
 ·intro h;refine Classical.byContradiction fun h2=>h fun a ha hc=>h2 ⟨a,ha,hc⟩
 ·rintro⟨o,ho,hc⟩ h;exact h o ho hc
mutual
def Tree.km (l:List Op) (off:Nat):Tree→List Tree
 | .mk t s as ks=>aY l 3 off++(if cY l 6 off then aY l 6 off else if cY l 5 off then [] else
  [.mk t (if t then eU l off s else fg l off s) (cL l off as) (if t then [] else if cY l 7 off then [AT (eU l off [])] else aY l 1 off++turns l (off+1) ks++aY l 2 off)])++aY l 4 off
def turns (l:List Op) (off:Nat):List Tree→List Tree
 |[]=>[]
 |k::r=>k.km l off++turns l (off+k.dg) r
end
def Tree.eV (l:List Op) (off:Nat) (x:Tree):Tree:=
 .mk x.text (if x.text then eU l off x.s else fg l off x.s) (cL l off x.attrs) (if x.text then [] else if cY l 7 off then [AT (eU l off [])] else aY l 1 off++turns l (off+1) x.kids++aY l 2 off)
theorem Tree.u5 (l:List Op) (off:Nat) (x:Tree):x.km l off=aY l 3 off++(if cY l 6 off then aY l 6 off else if cY l 5 off then [] else [x.eV l off])++aY l 4 off:=by
 cases x with|mk t s as ks=>rw[Tree.km];rfl
def gZ (b:Bn) (o:Op):Bn:=match b.nodes[o.target.toNat]? with
 |none=>b
 |some x=>
  let n:=o.target.toNat
  let p:=x.parent.toNat
  let k:=jE (b.kd p) n
  if o.kind=1 then {b.ins n (b.fs.getD n 0).toNat o.content with fs:=b.fs.set n (((b.fs.getD n 0).toNat+o.content.length:Nat):Int)}
  else if o.kind=2 then b.ins n x.kids.length o.content
  else if o.kind=3 then b.ins p k.toNat o.content
  else if o.kind=4 then {b.ins p (k.toNat+1+(b.as.getD n 0).toNat) o.content with as:=b.as.set n (((b.as.getD n 0).toNat+o.content.length:Nat):Int)}
  else if o.kind=5 then(if 0≤k then b.del p k.toNat else b)
  else if o.kind=6 then(b.del p k.toNat).ins p k.toNat o.content
  else if o.kind=7 then b.value n o.s
  else if o.kind=8 then b.name n o.name
  else if o.kind=9∨o.kind=10 then b.attr n o else b
inductive yu where
 |sC (k:Nat)
 |new (t:Tree)
def Rp (b:Bn) (k:Int):yu→Prop
 | .sC j=>k=(j:Int)
 | .new t=>∃m:Nat,k=(m:Int)∧b.n0≤m∧∃q,gU b.nodes m q t
def news (l:List Tree):List yu:=l.map .new
def dq (l:List Op) (k:Nat):List yu:=news (aY l 3 k)++(if cY l 6 k then news (aY l 6 k) else if cY l 5 k then [] else [.sC k])++news (aY l 4 k)
def dk (l:List Op) (i:Nat) (y:Tree):List yu:=
 if y.text then [] else if cY l 7 i then [.new (AT (eU l i []))] else news (aY l 1 i)++(cC (i+1) y.kids).flatMap (dq l)++news (aY l 2 i)
structure o5 (t:Tree) (l:List Op) (b:Bn):Prop where
 n0:b.n0=t.dg
 le:b.n0≤b.nodes.length
 nd:∀i q y,Sub 0 (-1) t i q y→∃ks,b.nodes[i]?=some ⟨y.text,if y.text then eU l i y.s else fg l i y.s,cL l i y.attrs,q,ks⟩∧dP (Rp b) ks (dk l i y)
 fs:b.fs.length=t.dg∧∀i,i<t.dg→b.fs[i]?=some ((aY l 1 i).length:Int)
 as:b.as.length=t.dg∧∀i,i<t.dg→b.as[i]?=some ((aY l 4 i).length:Int)
def Ext (b b':Bn):Prop:=b'.n0=b.n0∧b.nodes.length≤b'.nodes.length∧∀m q tr,b.n0≤m→gU b.nodes m q tr→gU b'.nodes m q tr
theorem Rp.ext {b b':Bn} (h:Ext b b') {k:Int}:∀{x:yu},Rp b k x→Rp b' k x
 | .sC j,hx=>hx
 | .new t,⟨m,h1,h2,q,h3⟩=>⟨m,h1,by rw[h.1];exact h2,q,h.2.2 m q t h2 h3⟩
theorem eL {α γ:Type} {R R':α→γ→Prop} (h:∀a b,R a b→R' a b):∀{l:List α} {m:List γ},dP R l m→dP R' l m
 |_,_,.nil=> .nil
 |_,_,.cons h1 h2=> .cons (h _ _ h1) (eL h h2)
theorem kn {α γ:Type} {R:α→γ→Prop}:∀{l:List α} {m:List γ},dP R l m→l.length=m.length
 |_,_,.nil=>rfl
 |_,_,.cons _ h2=>by simp[kn h2]
theorem iG {α γ:Type} {R:α→γ→Prop}:∀{l:List α} {m:List γ} {l':List α} {m':List γ},dP R l m→dP R l' m'→dP R (l++l') (m++m')
 |_,_,_,_,.nil,h=>h
 |_,_,_,_,.cons h1 h2,h=> .cons h1 (iG h2 h)
theorem py {α γ:Type} {R:α→γ→Prop}:∀(n:Nat) {l:List α} {m:List γ},dP R l m→dP R (l.take n) (m.take n)
 |0,_,_,_=>by simp;exact .nil
 |n+1,_,_,.nil=>by simp;exact .nil
 |n+1,_,_,.cons h1 h2=>by simp only[List.take_succ_cons];exact .cons h1 (py n h2)
theorem pz {α γ:Type} {R:α→γ→Prop}:∀(n:Nat) {l:List α} {m:List γ},dP R l m→dP R (l.drop n) (m.drop n)
 |0,_,_,h=>by simpa using h
 |n+1,_,_,.nil=>by simp;exact .nil
 |n+1,_,_,.cons h1 h2=>by simp only[List.drop_succ_cons];exact pz n h2
theorem zF {α γ:Type} {R:α→γ→Prop}:∀{l:List α} {m:List γ},dP R l m→∀{i:Nat} {a:α} {b:γ},l[i]?=some a→m[i]?=some b→R a b
 |_,_,.nil,i,a,b,h,_=>by simp at h
 |_,_,.cons h1 h2,0,a,b,h,h'=>by simp at h h';subst h;subst h';exact h1
 |_,_,.cons h1 h2,i+1,a,b,h,h'=>zF h2 (by simpa using h) (by simpa using h')
theorem wJ {b:Bn} (hn:b.n0≤b.nodes.length) (p:Nat) (L:List Tree):∀(pre:List Node) (off:Nat) (post:List Node) (L:List Tree),b.nodes=pre++cR off p L++post→pre.length=off→b.n0≤off→dP (Rp b) (aS off L) (news L)
 |_,_,_,[],_,_,_=> .nil
 |pre,off,post,x::r,h,hl,ho=>by
  simp only[aS,news,List.map_cons];refine .cons ⟨off,rfl,ho,p,cR (off+x.dg) p r++post,?_⟩ ?_
  ·rw[h,List.append_assoc,List.drop_append_of_le_length (by omega),List.drop_of_length_le (by omega),List.nil_append];simp[cR]
  ·refine wJ hn p L (pre++x.flat off p) (off+x.dg) post r ?_ ?_ (by omega)
   ·rw[h];simp[cR]
   ·rw[List.length_append,hl,x.dJ]
end Go.Am
