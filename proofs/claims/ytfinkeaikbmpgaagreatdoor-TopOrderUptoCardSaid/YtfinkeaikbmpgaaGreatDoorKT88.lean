import Derived.Test.YtfinkeaikbmpgaaGreatDoorKT80
import Derived.Test.YtfinkeaikbmpgaaGreatDoorKD2
set_option linter.unusedSimpArgs false
set_option linter.unusedVariables false
set_option linter.unnecessarySimpa false
set_option linter.defProp false
/- The bench: what a change does to it. -/
set_option maxRecDepth 20000
namespace Go.Am
open Go Go.RowKit
def qx.congr (R:qx) {lab D2:Nat→Lb} (h:∀p,R.ok p→lab p=D2 p) (p:Nat):R.row lab p=R.row D2 p:=by
 have e1:R.row lab p=(R.row Lb.par p).map (cV (A6 lab)):=R.nat Lb.par (A6 lab) p;have e2:R.row D2 p=(R.row Lb.par p).map (cV (A6 D2)):=R.nat Lb.par (A6 D2) p;rw[e1,e2];cases hr:R.row Lb.par p with
 |none=>rfl
 |some r=>
 simp only[adB,cV,jl,Row.mk.injEq,adF];refine aej fun cs bS=>la cs fun q hq=> ?_;obtain⟨p',iJ,rfl⟩:=R.aB Lb.par p r hr cs bS q hq;exact h p' iJ
def nZ.congr {R:qx} {lab D2:Nat→Lb} {H:Hp} (hs:nZ lab R H) (h:∀p,R.ok p→lab p=D2 p):nZ D2 R H:=by
 refine⟨fun p r hr=> ?_,fun p q hp hq e=>hs.inj p q hp hq (by rw[h p hp,h q hq,e])⟩;have hp:R.ok p:=(R.mw D2 p).1 (by rw[hr];rfl);rw[←h p hp];exact hs.row p r (by rw[R.congr h];exact hr)
def Bn.del (b:Bn) (p k:Nat):Bn:=match b.nodes[p]? with
 |some x=>b.set p {x with kids:=x.kids.take k++x.kids.drop (k+1)}
 |none=>b
def Bn.name (b:Bn) (n:Nat) (s:Bs):Bn:=match b.nodes[n]? with
 |some x=>b.set n {x with s:=s}
 |none=>b
def sk (P:Program) (G:Nat→Option (List IV)) (f:Nat):Prop:=∀(b:Bn) (n p:Nat) (x y:Node),b.nodes[n]?=some x→x.parent=p→b.nodes[p]?=some y→p<b.n0→y.kids.length≤B →
 uO P G f [.ptr (.par 0) 3 0 0,.int .i64 n] (dP b) b.all fun X R2=>X=(fun _=> .dM [.int .i64 p,.int .i64 (o2 y.kids n)])∧R2=dP b
def D3 (P:Program) (G:Nat→Option (List IV)) (f:Nat):Prop:=∀(b:Bn),b.n0≤b.nodes.length→∀(n:Nat),n<b.n0→∀(x:Node),b.nodes[n]?=some x→∀(s:Bs),b.nodes.length+1+s.length≤B →
 uO P G f [.ptr (.par 0) 3 0 0,.int .i64 n,.str s] (dP b) (b.H4 1 (5+2*n)) fun X R2=>X=(fun _=> .dM [])∧R2=dP (b.value n s)
def FW (P:Program) (G:Nat→Option (List IV)) (f:Nat):Prop:=∀(b:Bn) (n:Nat),n<b.n0→∀(x:Node),b.nodes[n]?=some x→∀(o:Op),o.target=n→(o.kind=9∨o.kind=10)→x.attrs.length+1≤B→j5 x.attrs=true →
 uO P G f [.ptr (.par 0) 3 0 0,o.av] (dP b) (b.Mz (4+2*n)) fun X R2=>X=(fun _=> .dM [])∧R2=dP (b.attr n o)
def zJ (xs:List Int) (i:Nat):(ar (xs.map aW))[i]?=(xs[i]?).map fun n=>[.int .i64 n]:=by
 simp[ar,aW,IV.cells,IV.gK];cases xs[i]?<;>rfl
def FX (xs:List Int) (i:Nat) (n:Int):(ar (xs.map aW)).set i [.int .i64 n]=ar ((xs.set i n).map aW):=by
 simp[ar,aW,af2,IV.cells,IV.gK]
def sn (b:Bn) (p pl:Nat) (l:List Tree):(b.ins p pl l).fs=b.fs:=by unfold Bn.ins;split<;>rfl
def sr (b:Bn) (p pl:Nat) (l:List Tree):(b.ins p pl l).as=b.as:=by unfold Bn.ins;split<;>rfl
def Xi (b:Bn) (p pl:Nat) (l:List Tree):(b.ins p pl l).n0=b.n0:=by unfold Bn.ins;split<;>rfl
def pS (b:Bn) (p k:Nat):(b.del p k).n0=b.n0:=by unfold Bn.del;split<;>rfl
section
variable {S:St} {b:Bn} {lab:Nat→Lb} {H:Hp} {k:AV→Hp→Prop} {u:Tw k}
def pz {f:Nat} {L0:Lb} (hI:BX S.P S.G f) (hB:cR lab b H) (h0:lab 0=L0) (hn:b.n0≤b.nodes.length) {p pl:Nat} (hp:p<b.n0) {x:Node} (hx:b.nodes[p]?=some x) (EA:pl≤x.kids.length)
  {l:List Tree} (hb:b.nodes.length+er l≤B) (NX:x.kids.length+l.length≤B) (c:Nat) (hN:∀l,H (NC c l)= .unused)
  (hk:∀et H2,cR et (b.ins p pl l) H2→(∀p',p'<4+2*b.n0→p'≠1→p'≠5+2*p→et p'=lab p') →
   (∀q,(∀p',p'<4+2*b.n0→q≠lab p')→(∀l,q≠NC c l)→H2 q=H q)→(∀p',p'<4+2*b.n0→(∃p0,p0<4+2*b.n0∧et p'=lab p0)∨∃l,et p'=NC c l)→k (.dM []) H2) :
  He S f [.ptr L0 3 0 0,.int .i64 p,.int .i64 pl,.list (eR l)] H k u:=by
 subst h0;refine lk (lab:=lab) (N:=NC c) (hI b hn p pl hp x hx EA l hb NX) (by simp[aY,e7,A6]) hB hN (tM c) (fun l h=> .inl h) (fun p' iJ=>bd.2 (mi.1 iJ).1) ?_;rintro X R2 et H2 ⟨rfl,rfl⟩ g1 g2 g3 g4 g5 g6;refine hk et H2 g1 (fun p' h1 h2 h3=>g2 p' (mi.2 ⟨h1,h2,h3⟩)) (fun q h1 h2=>g4 q (fun p' iJ=>h1 p' (bd.1 iJ)) h2) fun p' iJ=> ?_;rcases g3 p' (bd.2 (by rw[Xi];exact iJ)) with⟨p0,h1,h2⟩|h
 ·exact .inl ⟨p0,bd.1 h1,h2⟩
 exact .inr h
def oH {f:Nat} (hI:sk S.P S.G f) (hB:cR lab b H) {n p:Nat} {x y:Node} (hx:b.nodes[n]?=some x) (JN:x.parent=p) (hy:b.nodes[p]?=some y) (hp:p<b.n0) (I3:y.kids.length≤B) (c:Nat) (hN:∀l,H (NC c l)= .unused)
  (hk:∀H2,cR lab b H2→(∀q,(∀p',p'<4+2*b.n0→q≠lab p')→(∀l,q≠NC c l)→H2 q=H q)→k (.dM [.int .i64 p,.int .i64 (o2 y.kids n)]) H2) :
  He S f [.ptr (lab 0) 3 0 0,.int .i64 n] H k u:=by
 refine lk (lab:=lab) (N:=NC c) (hI b n p x y hx JN hy hp I3) (by simp[aY,e7,A6]) hB hN (tM c) (fun l h=> .inl h) (fun p' iJ=>bd.2 (af4.1 iJ)) ?_;rintro X R2 et H2 ⟨rfl,rfl⟩ g1 g2 g3 g4 g5 g6;exact hk H2 (g1.congr fun p' iJ=>g2 p' (af4.2 (bd.1 iJ))) fun q h1 h2=>g4 q (fun p' iJ=>h1 p' (bd.1 iJ)) h2
end
def ado {b:Bn} {n:Nat} {x:Node} (hx:b.nodes[n]?=some x):cR Lb.par b (je (dP b))∧(∀q:Lb,(∀p,p<4+2*b.n0→q≠ .par p)→je (dP b) q= .unused)∧je (dP b) (.loc 3)= .unused∧(∀c l,je (dP b) (NC c l)= .unused)∧n<b.nodes.length ∧
  ∀cs,cR Lb.par b (bF (je (dP b)) (.loc 3) cs):=by
 have gz:cR Lb.par b (je (dP b)):=jg _;have hU:∀q:Lb,(∀p,p<4+2*b.n0→q≠ .par p)→je (dP b) q= .unused:=fun q hq=>gx _ fun p hp e=>hq p (bd.1 hp) e.symm;exact⟨gz,hU,hU _ (by simp),fun c l=>hU _ (by simp[NC]),(ag6.1 hx).1,fun cs=>gz.n6 (by simp)⟩
section
variable {P:Program} {G:Nat→Option (List IV)}
def aZ (ak az au aD aG:Nat):AC:=
(ay [oN 3 1] (ay [b7 13 3 1,cS 14 13,af 4 14] (ay [b7 15 3 0,cS 16 15] (.block 0 (ay [db 18 .eql 16 1,af 17 18] (.cond (.t 17) (.seq (.fg [af 19 0,af 20 4,af 21 0,aE 22 (.dc (.t 21)),b7 23 22 1,cS 24 23,af 25 4,ig 26 24 25 1,cS 27 26,b7 28 3 2,cS 29 28,aE 30 (.call ak [(.t 19),(.t 20),(.t 27),(.t 29)])] [[],[],[],[2],[3],[4],[],[5,6],[7],[],[9],[0,1,8,10]] [.no,.no,.no,.no,.no,(.rw [(.par 0)] []),.no,.no,(.rw [(.par 2)] []),.no,.rw [.loc 3] [],.all]) (.fg [af 31 0,aE 32 (.dc (.t 31)),b7 33 32 1,cS 34 33,af 35 4,ig 36 34 35 1,cS 37 36,b7 38 3 2,cS 39 38,ky 40 39,eS 41 .add 37 40,ig 42 34 35 1,dT (.store 1 (.t 42) (.t 41))] [[],[0],[1],[2],[],[3,4],[5],[],[7],[8],[6,9],[3,4,0,1,2,3,4,5,6,7,8,9,10],[11,10,0,1,2,3,4,5,6,7,8,9,10]] [.no,.no,.no,(.rw [(.par 0)] []),.no,.no,(.rw [(.par 2)] []),.no,.rw [.loc 3] [],.no,.no,.no,(.rw [] [(.par 2)])])) (ay [db 44 .eql 16 2,af 43 44] (.cond (.t 43) (.fg [af 45 0,af 46 4,af 47 0,aE 48 (.dc (.t 47)),b7 49 48 0,cS 50 49,af 51 4,ig 52 50 51 5,b7 53 52 4,cS 54 53,ky 55 54,b7 56 3 2,cS 57 56,aE 58 (.call ak [(.t 45),(.t 46),(.t 55),(.t 57)])] [[],[],[],[2],[3],[4],[],[5,6],[7],[8],[9],[],[11],[0,1,10,12]] [.no,.no,.no,.no,.no,(.rw [(.par 0)] []),.no,.no,.no,(.rw [(.par 1)] []),.no,.no,.rw [.loc 3] [],.all]) (ay [db 60 .eql 16 3,af 59 60] (.cond (.t 59) (ay [af 62 0,af 63 4,aE 64 (.call az [(.t 62),(.t 63)]),af 61 64,gQ 65 61 0,gQ 66 61 1,af 5 65,af 6 66] (.ec [af 67 0,af 68 5,af 69 6,b7 70 3 2,cS 71 70,aE 72 (.call ak [(.t 67),(.t 68),(.t 69),(.t 71)])])) (ay [db 74 .eql 16 4,af 73 74] (.cond (.t 73) (ay [af 76 0,af 77 4,aE 78 (.call az [(.t 76),(.t 77)]),af 75 78,gQ 79 75 0,gQ 80 75 1,af 7 79,af 8 80] (.seq (.fg [af 81 0,af 82 7,af 83 8,db 84 .add 83 1,af 85 0,aE 86 (.dc (.t 85)),b7 87 86 2,cS 88 87,af 89 4,ig 90 88 89 1,cS 91 90,eS 92 .add 84 91,b7 93 3 2,cS 94 93,aE 95 (.call ak [(.t 81),(.t 82),(.t 92),(.t 94)])] [[],[],[],[2],[],[4],[5],[6],[],[7,8],[9],[3,10],[],[12],[0,1,11,13]] [.no,.no,.no,.no,.no,.no,.no,(.rw [(.par 0)] []),.no,.no,(.rw [(.par 3)] []),.no,.no,.rw [.loc 3] [],.all]) (.fg [af 96 0,aE 97 (.dc (.t 96)),b7 98 97 2,cS 99 98,af 100 4,ig 101 99 100 1,cS 102 101,b7 103 3 2,cS 104 103,ky 105 104,eS 106 .add 102 105,ig 107 99 100 1,dT (.store 1 (.t 107) (.t 106))] [[],[0],[1],[2],[],[3,4],[5],[],[7],[8],[6,9],[3,4,0,1,2,3,4,5,6,7,8,9,10],[11,10,0,1,2,3,4,5,6,7,8,9,10]] [.no,.no,.no,(.rw [(.par 0)] []),.no,.no,(.rw [(.par 3)] []),.no,.rw [.loc 3] [],.no,.no,.no,(.rw [] [(.par 3)])]))) (ay [db 109 .eql 16 5,af 108 109] (.cond (.t 108) (ay [af 111 0,af 112 4,aE 113 (.call az [(.t 111),(.t 112)]),af 110 113,gQ 114 110 0,gQ 115 110 1,af 9 114,af 10 115] (ay [af 116 10,db 117 .geq 116 0] (.cond (.t 117) (.fg [af 118 0,aE 119 (.dc (.t 118)),b7 120 119 0,cS 121 120,af 122 9,af 123 0,aE 124 (.dc (.t 123)),b7 125 124 0,cS 126 125,af 127 9,ig 128 126 127 5,b7 129 128 4,cS 130 129,af 131 10,af 132 10,db 133 .add 132 1,aE 134 (.call au [(.t 130),(.t 131),(.t 133)]),ig 135 121 122 5,b7 136 135 4,dT (.store 1 (.t 136) (.t 134))] [[],[0],[1],[2],[],[],[5],[6],[7],[],[8,9],[10],[11],[],[],[14],[12,13,15],[3,4,0,1,2,3,4,5,6,7,8,9,10,11,12,13,14,15,16],[17,0,1,2,3,4,5,6,7,8,9,10,11,12,13,14,15,16],[18,16,16,0,1,2,3,4,5,6,7,8,9,10,11,12,13,14,15,16]] [.no,.no,.no,(.rw [(.par 0)] []),.no,.no,.no,.no,(.rw [(.par 0)] []),.no,.no,.no,(.rw [(.par 1)] []),.no,.no,.no,(.vj [(.par 0)]),.no,.no,(.rw [] [(.par 1)])]) .skip))) (ay [db 138 .eql 16 6,af 137 138] (.cond (.t 137) (ay [af 140 0,af 141 4,aE 142 (.call az [(.t 140),(.t 141)]),af 139 142,gQ 143 139 0,gQ 144 139 1,af 11 143,af 12 144] (.seq (.fg [af 145 0,aE 146 (.dc (.t 145)),b7 147 146 0,cS 148 147,af 149 11,af 150 0,aE 151 (.dc (.t 150)),b7 152 151 0,cS 153 152,af 154 11,ig 155 153 154 5,b7 156 155 4,cS 157 156,af 158 12,af 159 12,db 160 .add 159 1,aE 161 (.call au [(.t 157),(.t 158),(.t 160)]),ig 162 148 149 5,b7 163 162 4,dT (.store 1 (.t 163) (.t 161))] [[],[0],[1],[2],[],[],[5],[6],[7],[],[8,9],[10],[11],[],[],[14],[12,13,15],[3,4,0,1,2,3,4,5,6,7,8,9,10,11,12,13,14,15,16],[17,0,1,2,3,4,5,6,7,8,9,10,11,12,13,14,15,16],[18,16,16,0,1,2,3,4,5,6,7,8,9,10,11,12,13,14,15,16]] [.no,.no,.no,(.rw [(.par 0)] []),.no,.no,.no,.no,(.rw [(.par 0)] []),.no,.no,.no,(.rw [(.par 1)] []),.no,.no,.no,(.vj [(.par 0)]),.no,.no,(.rw [] [(.par 1)])]) (.ec [af 164 0,af 165 11,af 166 12,b7 167 3 2,cS 168 167,aE 169 (.call ak [(.t 164),(.t 165),(.t 166),(.t 168)])]))) (ay [db 171 .eql 16 7,af 170 171] (.cond (.t 170) (.ec [af 172 0,af 173 4,b7 174 3 4,cS 175 174,aE 176 (.call aD [(.t 172),(.t 173),(.t 175)])]) (ay [db 178 .eql 16 8,af 177 178] (.cond (.t 177) (.fg [af 179 0,aE 180 (.dc (.t 179)),b7 181 180 0,cS 182 181,af 183 4,b7 184 3 3,cS 185 184,ig 186 182 183 5,b7 187 186 1,dT (.store 1 (.t 187) (.t 185))] [[],[0],[1],[2],[],[],[5],[3,4,0,1,2,3,4,5,6],[7,0,1,2,3,4,5,6],[8,6,0,1,2,3,4,5,6]] [.no,.no,.no,(.rw [(.par 0)] []),.no,.no,.rw [.loc 3] [],.no,.no,(.rw [] [(.par 1)])]) (.seq (ay [db 189 .eql 16 9,af 188 189] (.cond (.t 188) .skip (.ec [db 190 .eql 16 10,af 188 190]))) (.cond (.t 188) (.ec [af 191 0,gd 192 5 3,aE 193 (.call aG [(.t 191),(.t 192)])]) .skip))))))))))))))))))))))
def acx {aC ak az au aD aG:Nat} (hF:an P G aC=some (194,[],(aZ ak az au aD aG).bare)) (b:Bn) (hn:b.n0≤b.nodes.length) (n:Nat) (hp:n<b.n0) (x:Node) (hx:b.nodes[n]?=some x)
  (co:List Tree) (na st:Bs) (f:Nat) (hf:b.fs[n]?=some (f:Int)) (hfk:f≤x.kids.length) (hb:b.nodes.length+er co≤B) (NX:x.kids.length+co.length≤B) (hI:BX P G ak) :
  uO P G aC [.ptr (.par 0) 3 0 0,(⟨1,n,co,na,st⟩:Op).av] (dP b) [0,2,3] fun X R2=>X=(fun _=> .dM [])∧R2=dP ({b.ins n f co with fs:=b.fs.set n ((f+co.length:Nat):Int)}):=by
 refine gY hF (by simp) (by simp[ah,AV.aB,bd,Op.av];omega) ?_;obtain⟨gz,hU,h3,hN,hlen,BY⟩:=ado (b:=b) hx;have nM:B=1073741824:=rfl;have dO:=gz.get hx;rw[eO (n0:=b.n0) (lab:=Lb.par) (x:=x) hp] at dO;unfold aZ;simp only[↓aX,mX,seval,Op.av,h3,Int.reduceBEq];have B_:n<b.fs.length:=(ag6.1 hf).1;simp only[↓aX,mX,seval,Op.av,h3,gz.s,gz.n,gz.f,gz.a,hlen,adZ,adt,ag9,ad8,adF,adC,dO,bx,ag5,zJ,hf,B_,adB];refine⟨rfl,?_⟩;refine pz hI (BY _) rfl hn hp hx hfk hb NX 9 (fun l=>by rw[ax _ _ (by simp[NC])];exact hN 9 l) ?_;intro et H2 g1 g2 g4 g5;have wh:=g4 (.loc 3) (by simp) (by simp[NC]);rw[ae,adv rfl] at wh;have e0:et 0= .par 0:=g2 0 (by omega) (by omega) (by omega);have e2:et 2= .par 2:=g2 2 (by omega) (by omega) (by omega);have e3:et 3= .par 3:=g2 3 (by omega) (by omega) (by omega);have vb:=g1.s;have GJ:=g1.f;rw[e0,e2,e3] at vb;rw[e2] at GJ;rw[sn,sr] at vb;rw[sn] at GJ;have hw:IntKind.i64.wrap ((f:Int)+(co.length:Int))=((f+co.length:Nat):Int):=wrap64 (by omega) (by omega);simp only[↓aX,mX,seval,wh,vb,GJ,adt,ag9,ad8,adF,adC,ag5,zJ,hf,B_,adB,bx,hw];refine⟨rfl,?_⟩;rw[iM];refine⟨[],rfl,⟨fun _=> .dM [],_,et⟩,⟨rfl,rfl⟩,fun ρ=>by simp[e7,aY],by simp[jf,AV.aB,ah],rfl,?_,?_⟩
 ·have:=g1.acg (fs:=b.fs.set n ((f+co.length:Nat):Int)) (H2:=bF H2 (.par 2) (.live ⟨1,(ar (b.fs.map aW)).set n [.int .i64 ((f+co.length:Nat):Int)]⟩)) (by rw[agh,sn]) (by rw[e2,ae,adv rfl,FX]) (fun q hq=>by rw[e2] at hq;rw[ax _ _ hq]);exact this
 rintro p' (rfl|rfl|rfl)
 ·exact e0
 ·exact e2
 exact e3
def acy {aC ak az au aD aG:Nat} (hF:an P G aC=some (194,[],(aZ ak az au aD aG).bare)) (b:Bn) (hn:b.n0≤b.nodes.length) (n:Nat) (hp:n<b.n0) (x:Node) (hx:b.nodes[n]?=some x)
  (co:List Tree) (na st:Bs) (hb:b.nodes.length+er co≤B) (NX:x.kids.length+co.length≤B) (hI:BX P G ak) :
  uO P G aC [.ptr (.par 0) 3 0 0,(⟨2,n,co,na,st⟩:Op).av] (dP b) [0,2,3] fun X R2=>X=(fun _=> .dM [])∧R2=dP (b.ins n x.kids.length co):=by
 refine gY hF (by simp) (by simp[ah,AV.aB,bd,Op.av];omega) ?_;obtain⟨gz,hU,h3,hN,hlen,BY⟩:=ado (b:=b) hx;have nM:B=1073741824:=rfl;have dO:=gz.get hx;rw[eO (n0:=b.n0) (lab:=Lb.par) (x:=x) hp] at dO;unfold aZ;simp only[↓aX,mX,seval,Op.av,h3,Int.reduceBEq]
 try simp only[↓aX,mX,seval,Op.av,h3,gz.s,gz.n,gz.f,gz.a,hlen,adZ,adt,ag9,ad8,adF,adC,dO,bx]
 refine⟨rfl,?_⟩;refine pz hI (BY _) rfl hn hp hx (adw _) hb NX 9 (fun l=>by rw[ax _ _ (by simp[NC])];exact hN 9 l) ?_;intro et H2 g1 g2 g4 g5;simp only[↓aX,mX,seval];rw[iM];refine⟨[],rfl,⟨fun _=> .dM [],_,et⟩,⟨rfl,rfl⟩,fun ρ=>by simp[e7,aY],by simp[jf,AV.aB,ah],rfl,g1,?_⟩;rintro p' (rfl|rfl|rfl)
 ·exact g2 0 (by omega) (by omega) (by omega)
 ·exact g2 2 (by omega) (by omega) (by omega)
 exact g2 3 (by omega) (by omega) (by omega)
def acz {aC ak az au aD aG:Nat} (hF:an P G aC=some (194,[],(aZ ak az au aD aG).bare)) (b:Bn) (hn:b.n0≤b.nodes.length) (n:Nat) (hp:n<b.n0) (x:Node) (hx:b.nodes[n]?=some x)
  (co:List Tree) (na st:Bs) (p:Nat) (JN:x.parent=p) (vy:p<b.n0) (y:Node) (hy:b.nodes[p]?=some y) (OY:y.kids.length≤B) (FY:sk P G az) (k:Nat) (hk:o2 y.kids n=(k:Int)) (G4:k≤y.kids.length) (hb:b.nodes.length+er co≤B) (I3:y.kids.length+co.length≤B) (hI:BX P G ak) :
  uO P G aC [.ptr (.par 0) 3 0 0,(⟨3,n,co,na,st⟩:Op).av] (dP b) [0,2,3] fun X R2=>X=(fun _=> .dM [])∧R2=dP (b.ins p k co):=by
 refine gY hF (by simp) (by simp[ah,AV.aB,bd,Op.av];omega) ?_;obtain⟨gz,hU,h3,hN,hlen,BY⟩:=ado (b:=b) hx;have nM:B=1073741824:=rfl;have dO:=gz.get hx;rw[eO (n0:=b.n0) (lab:=Lb.par) (x:=x) hp] at dO;unfold aZ;simp only[↓aX,mX,seval,Op.av,h3,Int.reduceBEq]
 try simp only[↓aX,mX,seval,Op.av,h3,gz.s,gz.n,gz.f,gz.a,hlen,adZ,adt,ag9,ad8,adF,adC,dO,bx]
 refine oH (lab:=Lb.par) FY (BY _) hx JN hy vy OY 9 (fun l=>by rw[ax _ _ (by simp[NC])];exact hN 9 l) ?_;intro H2 v7 vb;have wh:=vb (.loc 3) (by simp) (by simp[NC]);rw[ae,adv rfl] at wh;have Um:∀c l,c≠9→H2 (NC c l)= .unused:=fun c l hc=>by
  rw[vb _ (by simp[NC]) (by intro l' e;simp[NC] at e;exact hc e.2),ax _ _ (by simp[NC])];exact hN c l
 have YA:∀q,H2 (.gen q)= .unused:=fun q=>by
  rw[vb _ (by simp) (by simp[NC]),ax _ _ (by simp)];exact hU _ (by simp)
 rw[hk];simp only[↓aX,mX,seval,wh];refine pz hI v7 rfl hn vy hy G4 hb I3 10 (fun l=>Um 10 l (by decide)) ?_;intro et H3 g1 g2 g4 g5;simp only[↓aX,mX,seval];rw[iM];refine⟨[],rfl,⟨fun _=> .dM [],_,et⟩,⟨rfl,rfl⟩,fun ρ=>by simp[e7,aY],by simp[jf,AV.aB,ah],rfl,g1,?_⟩;rintro p' (rfl|rfl|rfl)
 ·exact g2 0 (by omega) (by omega) (by omega)
 ·exact g2 2 (by omega) (by omega) (by omega)
 exact g2 3 (by omega) (by omega) (by omega)
def acA {aC ak az au aD aG:Nat} (hF:an P G aC=some (194,[],(aZ ak az au aD aG).bare)) (b:Bn) (hn:b.n0≤b.nodes.length) (n:Nat) (hp:n<b.n0) (x:Node) (hx:b.nodes[n]?=some x)
  (co:List Tree) (na st:Bs) (p:Nat) (JN:x.parent=p) (vy:p<b.n0) (y:Node) (hy:b.nodes[p]?=some y) (OY:y.kids.length≤B) (FY:sk P G az) (k:Nat) (hk:o2 y.kids n=(k:Int)) (f:Nat) (hf:b.as[n]?=some (f:Int)) (G4:k+1+f≤y.kids.length) (hb:b.nodes.length+er co≤B) (I3:y.kids.length+co.length≤B) (hI:BX P G ak) :
  uO P G aC [.ptr (.par 0) 3 0 0,(⟨4,n,co,na,st⟩:Op).av] (dP b) [0,2,3] fun X R2=>X=(fun _=> .dM [])∧R2=dP ({b.ins p (k+1+f) co with as:=b.as.set n ((f+co.length:Nat):Int)}):=by
 refine gY hF (by simp) (by simp[ah,AV.aB,bd,Op.av];omega) ?_;obtain⟨gz,hU,h3,hN,hlen,BY⟩:=ado (b:=b) hx;have nM:B=1073741824:=rfl;have dO:=gz.get hx;rw[eO (n0:=b.n0) (lab:=Lb.par) (x:=x) hp] at dO;unfold aZ;simp only[↓aX,mX,seval,Op.av,h3,Int.reduceBEq]
 try simp only[↓aX,mX,seval,Op.av,h3,gz.s,gz.n,gz.f,gz.a,hlen,adZ,adt,ag9,ad8,adF,adC,dO,bx]
 refine oH (lab:=Lb.par) FY (BY _) hx JN hy vy OY 9 (fun l=>by rw[ax _ _ (by simp[NC])];exact hN 9 l) ?_;intro H2 v7 vb;have wh:=vb (.loc 3) (by simp) (by simp[NC]);rw[ae,adv rfl] at wh;have Um:∀c l,c≠9→H2 (NC c l)= .unused:=fun c l hc=>by
  rw[vb _ (by simp[NC]) (by intro l' e;simp[NC] at e;exact hc e.2),ax _ _ (by simp[NC])];exact hN c l
 have YA:∀q,H2 (.gen q)= .unused:=fun q=>by
  rw[vb _ (by simp) (by simp[NC]),ax _ _ (by simp)];exact hU _ (by simp)
 rw[hk];have B_:n<b.as.length:=(ag6.1 hf).1;have oU:IntKind.i64.wrap ((k:Int)+1)=((k+1:Nat):Int):=wrap64 (by omega) (by omega);have BQ:IntKind.i64.wrap (((k+1:Nat):Int)+(f:Int))=((k+1+f:Nat):Int):=wrap64 (by omega) (by omega);simp only[↓aX,mX,seval,wh,v7.s,v7.a,adt,ag9,ad8,adF,adC,ag5,zJ,hf,B_,adB,bx,oU,BQ];refine⟨rfl,?_⟩;refine pz hI v7 rfl hn vy hy G4 hb I3 10 (fun l=>Um 10 l (by decide)) ?_;intro et H3 g1 g2 g4 g5;have h33:=g4 (.loc 3) (by simp) (by simp[NC]);rw[wh] at h33;have e0:et 0= .par 0:=g2 0 (by omega) (by omega) (by omega);have e2:et 2= .par 2:=g2 2 (by omega) (by omega) (by omega);have e3:et 3= .par 3:=g2 3 (by omega) (by omega) (by omega);have vb:=g1.s;have GJ:=g1.a;rw[e0,e2,e3] at vb;rw[e3] at GJ;rw[sn,sr] at vb;rw[sr] at GJ;have hw:IntKind.i64.wrap ((f:Int)+(co.length:Int))=((f+co.length:Nat):Int):=wrap64 (by omega) (by omega);simp only[↓aX,mX,seval,h33,vb,GJ,adt,ag9,ad8,adF,adC,ag5,zJ,hf,B_,adB,bx,hw];refine⟨rfl,?_⟩;have:=g1.aau (as:=b.as.set n ((f+co.length:Nat):Int)) (H2:=bF H3 (.par 3) (.live ⟨1,(ar (b.as.map aW)).set n [.int .i64 ((f+co.length:Nat):Int)]⟩)) (by rw[agh,sr]) (by rw[e3,ae,adv rfl,FX]) (fun q hq=>by rw[e3] at hq;rw[ax _ _ hq]);rw[iM];refine⟨[],rfl,⟨fun _=> .dM [],_,et⟩,⟨rfl,rfl⟩,fun ρ=>by simp[e7,aY],by simp[jf,AV.aB,ah],rfl,this,?_⟩;rintro p' (rfl|rfl|rfl)
 ·exact e0
 ·exact e2
 exact e3
def acB {aC ak az au aD aG:Nat} (hF:an P G aC=some (194,[],(aZ ak az au aD aG).bare)) (b:Bn) (hn:b.n0≤b.nodes.length) (n:Nat) (hp:n<b.n0) (x:Node) (hx:b.nodes[n]?=some x)
  (co:List Tree) (na st:Bs) (p:Nat) (JN:x.parent=p) (vy:p<b.n0) (y:Node) (hy:b.nodes[p]?=some y) (OY:y.kids.length≤B) (FY:sk P G az) (k:Nat) (hk:o2 y.kids n=(k:Int)) (G4:k<y.kids.length) (hD:OT P G au) :
  uO P G aC [.ptr (.par 0) 3 0 0,(⟨5,n,co,na,st⟩:Op).av] (dP b) [0,2,3] fun X R2=>X=(fun _=> .dM [])∧R2=dP (b.del p k):=by
 refine gY hF (by simp) (by simp[ah,AV.aB,bd,Op.av];omega) ?_;obtain⟨gz,hU,h3,hN,hlen,BY⟩:=ado (b:=b) hx;have nM:B=1073741824:=rfl;have dO:=gz.get hx;rw[eO (n0:=b.n0) (lab:=Lb.par) (x:=x) hp] at dO;unfold aZ;simp only[↓aX,mX,seval,Op.av,h3,Int.reduceBEq]
 try simp only[↓aX,mX,seval,Op.av,h3,gz.s,gz.n,gz.f,gz.a,hlen,adZ,adt,ag9,ad8,adF,adC,dO,bx]
 refine oH (lab:=Lb.par) FY (BY _) hx JN hy vy OY 9 (fun l=>by rw[ax _ _ (by simp[NC])];exact hN 9 l) ?_;intro H2 v7 vb;have wh:=vb (.loc 3) (by simp) (by simp[NC]);rw[ae,adv rfl] at wh;have Um:∀c l,c≠9→H2 (NC c l)= .unused:=fun c l hc=>by
  rw[vb _ (by simp[NC]) (by intro l' e;simp[NC] at e;exact hc e.2),ax _ _ (by simp[NC])];exact hN c l
 have YA:∀q,H2 (.gen q)= .unused:=fun q=>by
  rw[vb _ (by simp) (by simp[NC]),ax _ _ (by simp)];exact hU _ (by simp)
 rw[hk];have sO:p<b.nodes.length:=(ag6.1 hy).1;have xe:=v7.get hy;rw[eO vy] at xe;have OZ:=v7.kd vy hy;have oU:IntKind.i64.wrap ((k:Int)+1)=((k+1:Nat):Int):=wrap64 (by omega) (by omega);have O0:b.del p k=b.set p {y with kids:=y.kids.take k++y.kids.drop (k+1)}:=by unfold Bn.del;rw[hy]
 have Xj:¬(1:Nat)=5+2*p:=by omega
 have key:∀(N:Lb),(N= .par (5+2*p)∨N= .gen 134)→∀H3:Hp,H3 (.par 1)= .live ⟨5,(b.nodes.mapIdx (dN b.n0 Lb.par)).set p [.bool y.text,.str y.s,.sl (.par (4+2*p)) 2 0 y.attrs.length,.int .i64 y.parent,.sl N 1 0 (y.kids.take k++y.kids.drop (k+1)).length]⟩ →
   H3 N= .live ⟨1,ar ((y.kids.take k++y.kids.drop (k+1)).map aW)⟩→(∀q,q≠ .par 1→q≠N→q≠ .par (5+2*p)→H3 q=H2 q)→cR (fun p'=>if p'=5+2*p then N else Lb.par p') (b.del p k) H3:=by
  intro N hN H3 e1 e2 e3;rw[O0];refine cR.Sl v7 vy hy ?_ e1 e2 e3;rcases hN with rfl|rfl
  ·exact .inl rfl
  exact .inr (by simp)
 simp only[↓aX,mX,seval,wh,v7.s,v7.n,sO,adZ,adt,ag9,ad8,adF,adC,xe,oU,ag5,Xj,agC,aeB];refine⟨rfl,?_⟩;refine w9 (l:= .par (5+2*p)) (N:= .gen 134) (hD y.kids k G4 OY) rfl OZ (YA _) (by simp[Lb.fresh]) (by simp[Lb.kQ]) (by simp[Lb.kQ]) ?_ ?_
 ·simp only[↓aX,mX,seval,wh,v7.s,v7.n,sO,adZ,adt,ag9,ad8,adF,adC,xe,oU,ag5,Xj];have Xk:=key (.gen 134) (.inr rfl) (bF (bF (bF H2 (.par (5+2*p)) .dead) (.gen 134) (.live ⟨1,ar ((y.kids.take k++y.kids.drop (k+1)).map aW)⟩)) (.par 1) (.live ⟨5,(b.nodes.mapIdx (dN b.n0 Lb.par)).set p [.bool y.text,.str y.s,.sl (.par (4+2*p)) 2 0 y.attrs.length,.int .i64 y.parent,.sl (.gen 134) 1 0 (y.kids.take k++y.kids.drop (k+1)).length]⟩)) (by simp[ae]) (by simp[ae]) (by intro q g1 g2 g3;simp[ae,g1,g2,g3]);rw[iM];refine⟨[],rfl,⟨fun _=> .dM [],_,fun p'=>if p'=5+2*p then Lb.gen 134 else Lb.par p'⟩,⟨rfl,rfl⟩,fun ρ=>by simp[e7,aY],by simp[jf,AV.aB,ah],rfl,Xk,?_⟩;rintro p' (rfl|rfl|rfl)
  ·exact ag8 (by omega)
  ·exact ag8 (by omega)
  exact ag8 (by omega)
 simp only[↓aX,mX,seval,wh,v7.s,v7.n,sO,adZ,adt,ag9,ad8,adF,adC,xe,oU,ag5,Xj];have Xk:=key (.par (5+2*p)) (.inl rfl) (bF (bF (bF H2 (.par (5+2*p)) .dead) (.par (5+2*p)) (.live ⟨1,ar ((y.kids.take k++y.kids.drop (k+1)).map aW)⟩)) (.par 1) (.live ⟨5,(b.nodes.mapIdx (dN b.n0 Lb.par)).set p [.bool y.text,.str y.s,.sl (.par (4+2*p)) 2 0 y.attrs.length,.int .i64 y.parent,.sl (.par (5+2*p)) 1 0 (y.kids.take k++y.kids.drop (k+1)).length]⟩)) (by simp[ae]) (by simp[ae];omega) (by intro q g1 g2 g3;simp[ae,g1,g2,g3]);rw[iM];refine⟨[],rfl,⟨fun _=> .dM [],_,fun p'=>if p'=5+2*p then(.par (5+2*p)) else Lb.par p'⟩,⟨rfl,rfl⟩,fun ρ=>by simp[e7,aY],by simp[jf,AV.aB,ah],rfl,Xk,?_⟩;rintro p' (rfl|rfl|rfl)
 ·exact ag8 (by omega)
 ·exact ag8 (by omega)
 exact ag8 (by omega)
def aaJ {aC ak az au aD aG:Nat} (hF:an P G aC=some (194,[],(aZ ak az au aD aG).bare)) (b:Bn) (hn:b.n0≤b.nodes.length) (n:Nat) (hp:n<b.n0) (x:Node) (hx:b.nodes[n]?=some x)
  (co:List Tree) (na st:Bs) (p:Nat) (JN:x.parent=p) (vy:p<b.n0) (y:Node) (hy:b.nodes[p]?=some y) (OY:y.kids.length≤B) (FY:sk P G az) (hk:o2 y.kids n= -1) :
  uO P G aC [.ptr (.par 0) 3 0 0,(⟨5,n,co,na,st⟩:Op).av] (dP b) [0,2,3] fun X R2=>X=(fun _=> .dM [])∧R2=dP (b):=by
 refine gY hF (by simp) (by simp[ah,AV.aB,bd,Op.av];omega) ?_;obtain⟨gz,hU,h3,hN,hlen,BY⟩:=ado (b:=b) hx;have nM:B=1073741824:=rfl;have dO:=gz.get hx;rw[eO (n0:=b.n0) (lab:=Lb.par) (x:=x) hp] at dO;unfold aZ;simp only[↓aX,mX,seval,Op.av,h3,Int.reduceBEq]
 try simp only[↓aX,mX,seval,Op.av,h3,gz.s,gz.n,gz.f,gz.a,hlen,adZ,adt,ag9,ad8,adF,adC,dO,bx]
 refine oH (lab:=Lb.par) FY (BY _) hx JN hy vy OY 9 (fun l=>by rw[ax _ _ (by simp[NC])];exact hN 9 l) ?_;intro H2 v7 vb;have wh:=vb (.loc 3) (by simp) (by simp[NC]);rw[ae,adv rfl] at wh;have Um:∀c l,c≠9→H2 (NC c l)= .unused:=fun c l hc=>by
  rw[vb _ (by simp[NC]) (by intro l' e;simp[NC] at e;exact hc e.2),ax _ _ (by simp[NC])];exact hN c l
 have YA:∀q,H2 (.gen q)= .unused:=fun q=>by
  rw[vb _ (by simp) (by simp[NC]),ax _ _ (by simp)];exact hU _ (by simp)
 rw[hk];simp only[↓aX,mX,seval,wh,agC,show decide ((0:Int)≤ -1)=false by decide,aeL];rw[iM];refine⟨[],rfl,⟨fun _=> .dM [],_,Lb.par⟩,⟨rfl,rfl⟩,fun ρ=>by simp[e7,aY],by simp[jf,AV.aB,ah],rfl,v7,?_⟩;rintro p' (rfl|rfl|rfl)
 ·exact rfl
 ·exact rfl
 exact rfl
def acC {aC ak az au aD aG:Nat} (hF:an P G aC=some (194,[],(aZ ak az au aD aG).bare)) (b:Bn) (hn:b.n0≤b.nodes.length) (n:Nat) (hp:n<b.n0) (x:Node) (hx:b.nodes[n]?=some x)
  (co:List Tree) (na st:Bs) (p:Nat) (JN:x.parent=p) (vy:p<b.n0) (y:Node) (hy:b.nodes[p]?=some y) (OY:y.kids.length≤B) (FY:sk P G az) (k:Nat) (hk:o2 y.kids n=(k:Int)) (G4:k<y.kids.length) (hD:OT P G au) (hb:b.nodes.length+er co≤B) (I3:y.kids.length+co.length≤B) (hI:BX P G ak) :
  uO P G aC [.ptr (.par 0) 3 0 0,(⟨6,n,co,na,st⟩:Op).av] (dP b) [0,2,3] fun X R2=>X=(fun _=> .dM [])∧R2=dP ((b.del p k).ins p k co):=by
 refine gY hF (by simp) (by simp[ah,AV.aB,bd,Op.av];omega) ?_;obtain⟨gz,hU,h3,hN,hlen,BY⟩:=ado (b:=b) hx;have nM:B=1073741824:=rfl;have dO:=gz.get hx;rw[eO (n0:=b.n0) (lab:=Lb.par) (x:=x) hp] at dO;unfold aZ;simp only[↓aX,mX,seval,Op.av,h3,Int.reduceBEq]
 try simp only[↓aX,mX,seval,Op.av,h3,gz.s,gz.n,gz.f,gz.a,hlen,adZ,adt,ag9,ad8,adF,adC,dO,bx]
 refine oH (lab:=Lb.par) FY (BY _) hx JN hy vy OY 9 (fun l=>by rw[ax _ _ (by simp[NC])];exact hN 9 l) ?_;intro H2 v7 vb;have wh:=vb (.loc 3) (by simp) (by simp[NC]);rw[ae,adv rfl] at wh;have Um:∀c l,c≠9→H2 (NC c l)= .unused:=fun c l hc=>by
  rw[vb _ (by simp[NC]) (by intro l' e;simp[NC] at e;exact hc e.2),ax _ _ (by simp[NC])];exact hN c l
 have YA:∀q,H2 (.gen q)= .unused:=fun q=>by
  rw[vb _ (by simp) (by simp[NC]),ax _ _ (by simp)];exact hU _ (by simp)
 rw[hk];have sO:p<b.nodes.length:=(ag6.1 hy).1;have xe:=v7.get hy;rw[eO vy] at xe;have OZ:=v7.kd vy hy;have oU:IntKind.i64.wrap ((k:Int)+1)=((k+1:Nat):Int):=wrap64 (by omega) (by omega);have O0:b.del p k=b.set p {y with kids:=y.kids.take k++y.kids.drop (k+1)}:=by unfold Bn.del;rw[hy]
 have Xj:¬(1:Nat)=5+2*p:=by omega
 have key:∀(N:Lb),(N= .par (5+2*p)∨N= .gen 161)→∀H3:Hp,H3 (.par 1)= .live ⟨5,(b.nodes.mapIdx (dN b.n0 Lb.par)).set p [.bool y.text,.str y.s,.sl (.par (4+2*p)) 2 0 y.attrs.length,.int .i64 y.parent,.sl N 1 0 (y.kids.take k++y.kids.drop (k+1)).length]⟩ →
   H3 N= .live ⟨1,ar ((y.kids.take k++y.kids.drop (k+1)).map aW)⟩→(∀q,q≠ .par 1→q≠N→q≠ .par (5+2*p)→H3 q=H2 q)→cR (fun p'=>if p'=5+2*p then N else Lb.par p') (b.del p k) H3:=by
  intro N hN H3 e1 e2 e3;rw[O0];refine cR.Sl v7 vy hy ?_ e1 e2 e3;rcases hN with rfl|rfl
  ·exact .inl rfl
  exact .inr (by simp)
 have Qy:(b.del p k).nodes.length=b.nodes.length:=by rw[O0];simp[Bn.set]
 have hdy:(b.del p k).nodes[p]?=some {y with kids:=y.kids.take k++y.kids.drop (k+1)}:=by rw[O0];simp[Bn.set,sO]
 simp only[↓aX,mX,seval,wh,v7.s,v7.n,sO,adZ,adt,ag9,ad8,adF,adC,xe,oU,ag5,Xj,agC,aeB];refine⟨rfl,?_⟩;refine w9 (l:= .par (5+2*p)) (N:= .gen 161) (hD y.kids k G4 OY) rfl OZ (YA _) (by simp[Lb.fresh]) (by simp[Lb.kQ]) (by simp[Lb.kQ]) ?_ ?_
 ·simp only[↓aX,mX,seval,wh,v7.s,v7.n,sO,adZ,adt,ag9,ad8,adF,adC,xe,oU,ag5,Xj];have Xk:=key (.gen 161) (.inr rfl) (bF (bF (bF H2 (.par (5+2*p)) .dead) (.gen 161) (.live ⟨1,ar ((y.kids.take k++y.kids.drop (k+1)).map aW)⟩)) (.par 1) (.live ⟨5,(b.nodes.mapIdx (dN b.n0 Lb.par)).set p [.bool y.text,.str y.s,.sl (.par (4+2*p)) 2 0 y.attrs.length,.int .i64 y.parent,.sl (.gen 161) 1 0 (y.kids.take k++y.kids.drop (k+1)).length]⟩)) (by simp[ae]) (by simp[ae]) (by intro q g1 g2 g3;simp[ae,g1,g2,g3]);refine pz hI Xk (ag8 (by omega)) (by rw[Qy,pS];exact hn) (by rw[pS];exact vy) hdy (by simp;omega) (by rw[Qy];exact hb) (by simp;omega) 10 (fun l=>by simp[ae,NC];exact Um 10 l (by decide)) ?_;intro et H3 g1 g2 g4 g5;simp only[↓aX,mX,seval];have e0:et 0= .par 0:=(g2 0 (by rw[pS];omega) (by omega) (by omega)).trans (ag8 (by omega));have e2:et 2= .par 2:=(g2 2 (by rw[pS];omega) (by omega) (by omega)).trans (ag8 (by omega));have e3:et 3= .par 3:=(g2 3 (by rw[pS];omega) (by omega) (by omega)).trans (ag8 (by omega));rw[iM];refine⟨[],rfl,⟨fun _=> .dM [],_,et⟩,⟨rfl,rfl⟩,fun ρ=>by simp[e7,aY],by simp[jf,AV.aB,ah],rfl,g1,?_⟩;rintro p' (rfl|rfl|rfl)
  ·exact e0
  ·exact e2
  exact e3
 simp only[↓aX,mX,seval,wh,v7.s,v7.n,sO,adZ,adt,ag9,ad8,adF,adC,xe,oU,ag5,Xj];have Xk:=key (.par (5+2*p)) (.inl rfl) (bF (bF (bF H2 (.par (5+2*p)) .dead) (.par (5+2*p)) (.live ⟨1,ar ((y.kids.take k++y.kids.drop (k+1)).map aW)⟩)) (.par 1) (.live ⟨5,(b.nodes.mapIdx (dN b.n0 Lb.par)).set p [.bool y.text,.str y.s,.sl (.par (4+2*p)) 2 0 y.attrs.length,.int .i64 y.parent,.sl (.par (5+2*p)) 1 0 (y.kids.take k++y.kids.drop (k+1)).length]⟩)) (by simp[ae]) (by simp[ae];omega) (by intro q g1 g2 g3;simp[ae,g1,g2,g3]);refine pz hI Xk (ag8 (by omega)) (by rw[Qy,pS];exact hn) (by rw[pS];exact vy) hdy (by simp;omega) (by rw[Qy];exact hb) (by simp;omega) 10 (fun l=>by simp[ae,NC];exact Um 10 l (by decide)) ?_;intro et H3 g1 g2 g4 g5;simp only[↓aX,mX,seval];have e0:et 0= .par 0:=(g2 0 (by rw[pS];omega) (by omega) (by omega)).trans (ag8 (by omega));have e2:et 2= .par 2:=(g2 2 (by rw[pS];omega) (by omega) (by omega)).trans (ag8 (by omega));have e3:et 3= .par 3:=(g2 3 (by rw[pS];omega) (by omega) (by omega)).trans (ag8 (by omega));rw[iM];refine⟨[],rfl,⟨fun _=> .dM [],_,et⟩,⟨rfl,rfl⟩,fun ρ=>by simp[e7,aY],by simp[jf,AV.aB,ah],rfl,g1,?_⟩;rintro p' (rfl|rfl|rfl)
 ·exact e0
 ·exact e2
 exact e3
def acD {aC ak az au aD aG:Nat} (hF:an P G aC=some (194,[],(aZ ak az au aD aG).bare)) (b:Bn) (hn:b.n0≤b.nodes.length) (n:Nat) (hp:n<b.n0) (x:Node) (hx:b.nodes[n]?=some x)
  (co:List Tree) (na st:Bs) (hb:b.nodes.length+1+st.length≤B) (hV:D3 P G aD) :
  uO P G aC [.ptr (.par 0) 3 0 0,(⟨7,n,co,na,st⟩:Op).av] (dP b) [0,2,3] fun X R2=>X=(fun _=> .dM [])∧R2=dP (b.value n st):=by
 refine gY hF (by simp) (by simp[ah,AV.aB,bd,Op.av];omega) ?_;obtain⟨gz,hU,h3,hN,hlen,BY⟩:=ado (b:=b) hx;have nM:B=1073741824:=rfl;have dO:=gz.get hx;rw[eO (n0:=b.n0) (lab:=Lb.par) (x:=x) hp] at dO;unfold aZ;simp only[↓aX,mX,seval,Op.av,h3,Int.reduceBEq]
 try simp only[↓aX,mX,seval,Op.av,h3,gz.s,gz.n,gz.f,gz.a,hlen,adZ,adt,ag9,ad8,adF,adC,dO,bx]
 refine lk (lab:=Lb.par) (N:=NC 9) (hV b hn n hp x hx st hb) (by simp[aY,e7,A6]) (BY _) (fun l=>by rw[ax _ _ (by simp[NC])];exact hN 9 l) (tM 9) (fun l h=> .inl h) (fun p' iJ=>bd.2 (mi.1 iJ).1) ?_;rintro X R2 et H2 ⟨rfl,rfl⟩ g1 g2 g3 g4 g5 g6;simp only[↓aX,mX,seval];rw[iM];refine⟨[],rfl,⟨fun _=> .dM [],_,et⟩,⟨rfl,rfl⟩,fun ρ=>by simp[e7,aY],by simp[jf,AV.aB,ah],rfl,g1,?_⟩;rintro p' (rfl|rfl|rfl)
 ·exact g2 0 (mi.2 ⟨by omega,by omega,by omega⟩)
 ·exact g2 2 (mi.2 ⟨by omega,by omega,by omega⟩)
 exact g2 3 (mi.2 ⟨by omega,by omega,by omega⟩)
def acE {aC ak az au aD aG:Nat} (hF:an P G aC=some (194,[],(aZ ak az au aD aG).bare)) (b:Bn) (hn:b.n0≤b.nodes.length) (n:Nat) (hp:n<b.n0) (x:Node) (hx:b.nodes[n]?=some x)
  (co:List Tree) (na st:Bs) :
  uO P G aC [.ptr (.par 0) 3 0 0,(⟨8,n,co,na,st⟩:Op).av] (dP b) [0,2,3] fun X R2=>X=(fun _=> .dM [])∧R2=dP (b.name n na):=by
 refine gY hF (by simp) (by simp[ah,AV.aB,bd,Op.av];omega) ?_;obtain⟨gz,hU,h3,hN,hlen,BY⟩:=ado (b:=b) hx;have nM:B=1073741824:=rfl;have dO:=gz.get hx;rw[eO (n0:=b.n0) (lab:=Lb.par) (x:=x) hp] at dO;unfold aZ;simp only[↓aX,mX,seval,Op.av,h3,Int.reduceBEq]
 try simp only[↓aX,mX,seval,Op.av,h3,gz.s,gz.n,gz.f,gz.a,hlen,adZ,adt,ag9,ad8,adF,adC,dO,bx]
 refine⟨rfl,?_⟩;have Lp:b.name n na=b.set n {x with s:=na}:=by unfold Bn.name;rw[hx]
 have:=cR.aas (s:=na) (H2:=bF (bF (je (dP b)) (.loc 3) (.live ⟨5,[[.int .i64 8,.int .i64 n,.list (eR co),.str na,.str st]]⟩)) (.par 1) (.live ⟨5,(b.nodes.mapIdx (dN b.n0 Lb.par)).set n [.bool x.text,.str na,.sl (.par (4+2*n)) 2 0 x.attrs.length,.int .i64 x.parent,.sl (.par (5+2*n)) 1 0 x.kids.length]⟩)) (BY _) hx (by rw[ae,adv rfl,eO hp]) (fun q hq=>by rw[ax _ _ hq]);rw[←Lp] at this;rw[iM];refine⟨[],rfl,⟨fun _=> .dM [],_,Lb.par⟩,⟨rfl,rfl⟩,fun ρ=>by simp[e7,aY],by simp[jf,AV.aB,ah],rfl,this,?_⟩;rintro p' (rfl|rfl|rfl)
 ·exact rfl
 ·exact rfl
 exact rfl
def acF {aC ak az au aD aG:Nat} (hF:an P G aC=some (194,[],(aZ ak az au aD aG).bare)) (b:Bn) (hn:b.n0≤b.nodes.length) (n:Nat) (hp:n<b.n0) (x:Node) (hx:b.nodes[n]?=some x)
  (co:List Tree) (na st:Bs) (hb:x.attrs.length+1≤B) (hr:j5 x.attrs=true) (Jx:FW P G aG) :
  uO P G aC [.ptr (.par 0) 3 0 0,(⟨9,n,co,na,st⟩:Op).av] (dP b) [0,2,3] fun X R2=>X=(fun _=> .dM [])∧R2=dP (b.attr n ⟨9,n,co,na,st⟩):=by
 refine gY hF (by simp) (by simp[ah,AV.aB,bd,Op.av];omega) ?_;obtain⟨gz,hU,h3,hN,hlen,BY⟩:=ado (b:=b) hx;have nM:B=1073741824:=rfl;have dO:=gz.get hx;rw[eO (n0:=b.n0) (lab:=Lb.par) (x:=x) hp] at dO;unfold aZ;simp only[↓aX,mX,seval,Op.av,h3,Int.reduceBEq]
 try simp only[↓aX,mX,seval,Op.av,h3,gz.s,gz.n,gz.f,gz.a,hlen,adZ,adt,ag9,ad8,adF,adC,dO,bx]
 refine lk (lab:=Lb.par) (N:=NC 9) (Jx b n hp x hx ⟨9,n,co,na,st⟩ rfl (by simp) hb hr) (by simp[aY,e7,A6,Op.av]) (BY _) (fun l=>by rw[ax _ _ (by simp[NC])];exact hN 9 l) (tM 9) (fun l h=> .inl h) (fun p' iJ=>bd.2 (kJ.1 iJ).1) ?_;rintro X R2 et H2 ⟨rfl,rfl⟩ g1 g2 g3 g4 g5 g6;simp only[↓aX,mX,seval];rw[iM];refine⟨[],rfl,⟨fun _=> .dM [],_,et⟩,⟨rfl,rfl⟩,fun ρ=>by simp[e7,aY],by simp[jf,AV.aB,ah],rfl,g1,?_⟩;rintro p' (rfl|rfl|rfl)
 ·exact g2 0 (kJ.2 ⟨by omega,by omega⟩)
 ·exact g2 2 (kJ.2 ⟨by omega,by omega⟩)
 exact g2 3 (kJ.2 ⟨by omega,by omega⟩)
def aaK {aC ak az au aD aG:Nat} (hF:an P G aC=some (194,[],(aZ ak az au aD aG).bare)) (b:Bn) (hn:b.n0≤b.nodes.length) (n:Nat) (hp:n<b.n0) (x:Node) (hx:b.nodes[n]?=some x)
  (co:List Tree) (na st:Bs) (hb:x.attrs.length+1≤B) (hr:j5 x.attrs=true) (Jx:FW P G aG) :
  uO P G aC [.ptr (.par 0) 3 0 0,(⟨10,n,co,na,st⟩:Op).av] (dP b) [0,2,3] fun X R2=>X=(fun _=> .dM [])∧R2=dP (b.attr n ⟨10,n,co,na,st⟩):=by
 refine gY hF (by simp) (by simp[ah,AV.aB,bd,Op.av];omega) ?_;obtain⟨gz,hU,h3,hN,hlen,BY⟩:=ado (b:=b) hx;have nM:B=1073741824:=rfl;have dO:=gz.get hx;rw[eO (n0:=b.n0) (lab:=Lb.par) (x:=x) hp] at dO;unfold aZ;simp only[↓aX,mX,seval,Op.av,h3,Int.reduceBEq]
 try simp only[↓aX,mX,seval,Op.av,h3,gz.s,gz.n,gz.f,gz.a,hlen,adZ,adt,ag9,ad8,adF,adC,dO,bx]
 refine lk (lab:=Lb.par) (N:=NC 9) (Jx b n hp x hx ⟨10,n,co,na,st⟩ rfl (by simp) hb hr) (by simp[aY,e7,A6,Op.av]) (BY _) (fun l=>by rw[ax _ _ (by simp[NC])];exact hN 9 l) (tM 9) (fun l h=> .inl h) (fun p' iJ=>bd.2 (kJ.1 iJ).1) ?_;rintro X R2 et H2 ⟨rfl,rfl⟩ g1 g2 g3 g4 g5 g6;simp only[↓aX,mX,seval];rw[iM];refine⟨[],rfl,⟨fun _=> .dM [],_,et⟩,⟨rfl,rfl⟩,fun ρ=>by simp[e7,aY],by simp[jf,AV.aB,ah],rfl,g1,?_⟩;rintro p' (rfl|rfl|rfl)
 ·exact g2 0 (kJ.2 ⟨by omega,by omega⟩)
 ·exact g2 2 (kJ.2 ⟨by omega,by omega⟩)
 exact g2 3 (kJ.2 ⟨by omega,by omega⟩)
end

def zq (l:List Op) (k:Int) (n:Nat):List Op:=l.filter fun o=>o.kind==k&&o.target==(n:Int)
def bg (l:List Op) (k:Int) (n:Nat):List Tree:=(zq l k n).flatMap Op.content
def gi (l:List Op) (k:Int) (n:Nat):Bool:= !(zq l k n).isEmpty
def j6 (l:List Op) (n:Nat) (s:Bs):Bs:=match(zq l 7 n).getLast? with|some o=>o.s|none=>s
def kD (l:List Op) (n:Nat) (s:Bs):Bs:=match(zq l 8 n).getLast? with|some o=>o.name|none=>s
def o6 (n:Nat) (as:List Attr) (o:Op):List Attr:=if o.target=(n:Int)∧(o.kind=9∨o.kind=10) then lS as o else as
def en (l:List Op) (n:Nat) (as:List Attr):List Attr:=l.foldl (o6 n) as
def xf (l:List Op) (o:Op) (k:Int) (n:Nat):zq (l++[o]) k n=zq l k n++(if o.kind=k∧o.target=(n:Int) then [o] else []):=by
 unfold zq;rw[aeO];congr 1;by_cases h:o.kind=k∧o.target=(n:Int)
 ·simp[h]
 rw[ag8 h,afI (by simpa using h)];rfl
def b_ (l:List Op) (o:Op) (k:Int) (n:Nat):bg (l++[o]) k n=bg l k n++(if o.kind=k∧o.target=(n:Int) then o.content else []):=by
 unfold bg;rw[xf,afe];congr 1;split<;>simp
def fu (l:List Op) (o:Op) (k:Int) (n:Nat):gi (l++[o]) k n=(gi l k n||decide (o.kind=k∧o.target=(n:Int))):=by
 unfold gi;rw[xf];by_cases h:o.kind=k∧o.target=(n:Int)
 ·simp[h]
 rw[ag8 h];simp[h]
def uU (l:List Op) (o:Op) (n:Nat) (s:Bs):j6 (l++[o]) n s=if o.kind=7∧o.target=(n:Int) then o.s else j6 l n s:=by
 unfold j6;rw[xf];by_cases h:o.kind=7∧o.target=(n:Int)
 ·rw[adv h,adv h,agR]
 rw[ag8 h,ag8 h,adN]
def C0 (l:List Op) (o:Op) (n:Nat) (s:Bs):kD (l++[o]) n s=if o.kind=8∧o.target=(n:Int) then o.name else kD l n s:=by
 unfold kD;rw[xf];by_cases h:o.kind=8∧o.target=(n:Int)
 ·rw[adv h,adv h,agR]
 rw[ag8 h,ag8 h,adN]
def yX (l:List Op) (o:Op) (n:Nat) (as:List Attr):en (l++[o]) n as=o6 n (en l n as) o:=by
 unfold en;rw[afP];rfl
def H6 {l:List Op} {k:Int} {n:Nat} (h:gi l k n=false):bg l k n=[]:=by
 unfold gi at h;unfold bg;have:zq l k n=[]:=by simpa using h
 rw[this];rfl
def FZ {l:List Op} {k:Int} {n:Nat}:gi l k n=true↔∃o∈l,o.kind=k∧o.target=(n:Int):=by
 unfold gi zq;simp only[aeT,List.isEmpty_eq_false_iff,ne_eq,aeI,ady,aep];constructor
 ·intro h;refine afi fun h2=>h fun a ha hc=>h2 ⟨a,ha,hc⟩
 rintro⟨o,ho,hc⟩ h;exact h o ho hc
mutual
def Tree.rC (l:List Op) (off:Nat):Tree→List Tree
 | .mk t s as ks=>bg l 3 off++(if gi l 6 off then bg l 6 off else if gi l 5 off then [] else
  [.mk t (if t then j6 l off s else kD l off s) (en l off as) (if t then [] else if gi l 7 off then [LG (j6 l off [])] else bg l 1 off++turns l (off+1) ks++bg l 2 off)])++bg l 4 off
def turns (l:List Op) (off:Nat):List Tree→List Tree
 |[]=>[]
 |k::r=>k.rC l off++turns l (off+k.fI) r
end
def Tree.iW (l:List Op) (off:Nat) (x:Tree):Tree:=
 .mk x.text (if x.text then j6 l off x.s else kD l off x.s) (en l off x.attrs) (if x.text then [] else if gi l 7 off then [LG (j6 l off [])] else bg l 1 off++turns l (off+1) x.kids++bg l 2 off)
def Tree.JO (l:List Op) (off:Nat) (x:Tree):x.rC l off=bg l 3 off++(if gi l 6 off then bg l 6 off else if gi l 5 off then [] else [x.iW l off])++bg l 4 off:=by
 cases x with|mk t s as ks=>rw[Tree.rC];rfl
def mj (b:Bn) (o:Op):Bn:=match b.nodes[o.target.toNat]? with
 |none=>b
 |some x=>
  let n:=o.target.toNat
  let p:=x.parent.toNat
  let k:=o2 (b.kd p) n
  if o.kind=1 then {b.ins n (b.fs.getD n 0).toNat o.content with fs:=b.fs.set n (((b.fs.getD n 0).toNat+o.content.length:Nat):Int)}
  else if o.kind=2 then b.ins n x.kids.length o.content
  else if o.kind=3 then b.ins p k.toNat o.content
  else if o.kind=4 then {b.ins p (k.toNat+1+(b.as.getD n 0).toNat) o.content with as:=b.as.set n (((b.as.getD n 0).toNat+o.content.length:Nat):Int)}
  else if o.kind=5 then(if 0≤k then b.del p k.toNat else b)
  else if o.kind=6 then(b.del p k.toNat).ins p k.toNat o.content
  else if o.kind=7 then b.value n o.s
  else if o.kind=8 then b.name n o.name
  else if o.kind=9∨o.kind=10 then b.attr n o else b
inductive H7 where
 |BI (k:Nat)
 |new (t:Tree)
def Rp (b:Bn) (k:Int):H7→Prop
 | .BI j=>k=(j:Int)
 | .new t=>∃m:Nat,k=(m:Int)∧b.n0≤m∧∃q,mf b.nodes m q t
def news (l:List Tree):List H7:=l.map .new
def fR (l:List Op) (k:Nat):List H7:=news (bg l 3 k)++(if gi l 6 k then news (bg l 6 k) else if gi l 5 k then [] else [.BI k])++news (bg l 4 k)
def fO (l:List Op) (i:Nat) (y:Tree):List H7:=
 if y.text then [] else if gi l 7 i then [.new (LG (j6 l i []))] else news (bg l 1 i)++(cO (i+1) y.kids).flatMap (fR l)++news (bg l 2 i)
structure xr (t:Tree) (l:List Op) (b:Bn):Prop where
 n0:b.n0=t.fI
 le:b.n0≤b.nodes.length
 nd:∀i q y,Sub 0 (-1) t i q y→∃ks,b.nodes[i]?=some ⟨y.text,if y.text then j6 l i y.s else kD l i y.s,en l i y.attrs,q,ks⟩∧gT (Rp b) ks (fO l i y)
 fs:b.fs.length=t.fI∧∀i,i<t.fI→b.fs[i]?=some ((bg l 1 i).length:Int)
 as:b.as.length=t.fI∧∀i,i<t.fI→b.as[i]?=some ((bg l 4 i).length:Int)
def Ext (b b':Bn):Prop:=b'.n0=b.n0∧b.nodes.length≤b'.nodes.length∧∀m q tr,b.n0≤m→mf b.nodes m q tr→mf b'.nodes m q tr
theorem Rp.ext {b b':Bn} (h:Ext b b') {k:Int}:∀{x:H7},Rp b k x→Rp b' k x
 | .BI j,hx=>hx
 | .new t,⟨m,h1,h2,q,h3⟩=>⟨m,h1,by rw[h.1];exact h2,q,h.2.2 m q t h2 h3⟩
theorem jk {α γ:Type} {R R':α→γ→Prop} (h:∀a b,R a b→R' a b):∀{l:List α} {m:List γ},gT R l m→gT R' l m
 |_,_,.nil=> .nil
 |_,_,.cons h1 h2=> .cons (h _ _ h1) (jk h h2)
theorem pT {α γ:Type} {R:α→γ→Prop}:∀{l:List α} {m:List γ},gT R l m→l.length=m.length
 |_,_,.nil=>rfl
 |_,_,.cons _ h2=>by simp[pT h2]
theorem nu {α γ:Type} {R:α→γ→Prop}:∀{l:List α} {m:List γ} {l':List α} {m':List γ},gT R l m→gT R l' m'→gT R (l++l') (m++m')
 |_,_,_,_,.nil,h=>h
 |_,_,_,_,.cons h1 h2,h=> .cons h1 (nu h2 h)
theorem yb {α γ:Type} {R:α→γ→Prop}:∀(n:Nat) {l:List α} {m:List γ},gT R l m→gT R (l.take n) (m.take n)
 |0,_,_,_=>by simp;exact .nil
 |n+1,_,_,.nil=>by simp;exact .nil
 |n+1,_,_,.cons h1 h2=>by simp only[aeF];exact .cons h1 (yb n h2)
theorem yc {α γ:Type} {R:α→γ→Prop}:∀(n:Nat) {l:List α} {m:List γ},gT R l m→gT R (l.drop n) (m.drop n)
 |0,_,_,h=>by simpa using h
 |n+1,_,_,.nil=>by simp;exact .nil
 |n+1,_,_,.cons h1 h2=>by simp only[aet];exact yc n h2
theorem JP {α γ:Type} {R:α→γ→Prop}:∀{l:List α} {m:List γ},gT R l m→∀{i:Nat} {a:α} {b:γ},l[i]?=some a→m[i]?=some b→R a b
 |_,_,.nil,i,a,b,h,_=>by simp at h
 |_,_,.cons h1 h2,0,a,b,h,h'=>by simp at h h';subst h;subst h';exact h1
 |_,_,.cons h1 h2,i+1,a,b,h,h'=>JP h2 (by simpa using h) (by simpa using h')
theorem F0 {b:Bn} (hn:b.n0≤b.nodes.length) (p:Nat) (L:List Tree):∀(pre:List Node) (off:Nat) (post:List Node) (L:List Tree),b.nodes=pre++eE off p L++post→pre.length=off→b.n0≤off→gT (Rp b) (aV off L) (news L)
 |_,_,_,[],_,_,_=> .nil
 |pre,off,post,x::r,h,hl,ho=>by
  simp only[aV,news,ad5];refine .cons ⟨off,rfl,ho,p,eE (off+x.fI) p r++post,?_⟩ ?_
  ·rw[h,adV,ae9 (by omega),aeC (by omega),aec];simp[eE]
  refine F0 hn p L (pre++x.flat off p) (off+x.fI) post r ?_ ?_ (by omega)
  ·rw[h];simp[eE]
  rw[adE,hl,x.gM]
end Go.Am
