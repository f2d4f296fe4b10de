import Derived.Test.YtfinkeaikbmpgaaGreatDoorKT80
import Derived.Test.YtfinkeaikbmpgaaGreatDoorKT8
set_option linter.unusedSimpArgs false
set_option linter.unusedVariables false
set_option linter.unnecessarySimpa false
set_option linter.defProp false
/- The bench: what a change does to it. -/
set_option maxRecDepth 20000
namespace Go.Am
open Go Go.RowKit
def uR.congr (R:uR) {lab Qi:Nat→Lb} (h:∀p,R.ok p→lab p=Qi p) (p:Nat):R.row lab p=R.row Qi p:=by
 have e1:R.row lab p=(R.row Lb.par p).map (dO (S1 lab)):=R.nat Lb.par (S1 lab) p;have e2:R.row Qi p=(R.row Lb.par p).map (dO (S1 Qi)):=R.nat Lb.par (S1 Qi) p;rw[e1,e2];cases hr:R.row Lb.par p with
 |none=>rfl
 |some r=>
 simp only[bT,dO,di,Row.mk.injEq,tk];refine yp fun cs bV=>NZ cs fun q hq=> ?_;obtain⟨p',BT,rfl⟩:=R.an Lb.par p r hr cs bV q hq;exact h p' BT
def Ed.congr {R:uR} {lab Qi:Nat→Lb} {H:Hp} (hs:Ed lab R H) (h:∀p,R.ok p→lab p=Qi p):Ed Qi R H:=by
 refine⟨fun p r hr=> ?_,fun p q hp hq e=>hs.inj p q hp hq (by rw[h p hp,h q hq,e])⟩;have hp:R.ok p:=(R.Ec Qi p).1 (by rw[hr];rfl);rw[←h p hp];exact hs.row p r (by rw[R.congr h];exact hr)
def Bn.del (b:Bn) (p k:Nat):Bn:=match b.nodes[p]? with
 |some x=>b.set p {x with kids:=x.kids.take k++x.kids.drop (k+1)}
 |none=>b
def Bn.name (b:Bn) (n:Nat) (s:Bs):Bn:=match b.nodes[n]? with
 |some x=>b.set n {x with s:=s}
 |none=>b
def X' (P:Program) (G:Nat→Option (List IV)) (f:Nat):Prop:=∀(b:Bn) (n p:Nat) (x y:Node),b.nodes[n]?=some x→x.parent=p→b.nodes[p]?=some y→p<b.n0→y.kids.length≤B →
 Jg P G f [.ptr (.par 0) 3 0 0,.int .i64 n] (Ut b) b.all fun X R2=>X=(fun _=> .gf [.int .i64 p,.int .i64 (Xw y.kids n)])∧R2=Ut b
def aa7 (P:Program) (G:Nat→Option (List IV)) (f:Nat):Prop:=∀(b:Bn),b.n0≤b.nodes.length→∀(n:Nat),n<b.n0→∀(x:Node),b.nodes[n]?=some x→∀(s:Bs),b.nodes.length+1+s.length≤B →
 Jg P G f [.ptr (.par 0) 3 0 0,.int .i64 n,.str s] (Ut b) (b.acr 1 (5+2*n)) fun X R2=>X=(fun _=> .gf [])∧R2=Ut (b.value n s)
def abD (P:Program) (G:Nat→Option (List IV)) (f:Nat):Prop:=∀(b:Bn) (n:Nat),n<b.n0→∀(x:Node),b.nodes[n]?=some x→∀(o:Op),o.target=n→(o.kind=9∨o.kind=10)→x.attrs.length+1≤B→l_ x.attrs=true →
 Jg P G f [.ptr (.par 0) 3 0 0,o.av] (Ut b) (b.but (4+2*n)) fun X R2=>X=(fun _=> .gf [])∧R2=Ut (b.attr n o)
def ZJ (xs:List Int) (i:Nat):(aB (xs.map xX))[i]?=(xs[i]?).map fun n=>[.int .i64 n]:=by
 simp[aB,xX,IV.cells,IV.dQ];cases xs[i]?<;>rfl
def abE (xs:List Int) (i:Nat) (n:Int):(aB (xs.map xX)).set i [.int .i64 n]=aB ((xs.set i n).map xX):=by
 simp[aB,xX,Nh,IV.cells,IV.dQ]
def X_ (b:Bn) (p pl:Nat) (l:List Tree):(b.ins p pl l).fs=b.fs:=by unfold Bn.ins;split<;>rfl
def Ya (b:Bn) (p pl:Nat) (l:List Tree):(b.ins p pl l).az=b.az:=by unfold Bn.ins;split<;>rfl
def ag2 (b:Bn) (p pl:Nat) (l:List Tree):(b.ins p pl l).n0=b.n0:=by unfold Bn.ins;split<;>rfl
def XJ (b:Bn) (p k:Nat):(b.del p k).n0=b.n0:=by unfold Bn.del;split<;>rfl
section
variable {S:St} {b:Bn} {lab:Nat→Lb} {H:Hp} {k:AV→Hp→Prop} {u:Tw k}
def XA {f:Nat} {L0:Lb} (hI:aau S.P S.G f) (hB:Oi lab b H) (h0:lab 0=L0) (hn:b.n0≤b.nodes.length) {p pl:Nat} (hp:p<b.n0) {x:Node} (hx:b.nodes[p]?=some x) (BS:pl≤x.kids.length)
  {l:List Tree} (hb:b.nodes.length+dE l≤B) (UX:x.kids.length+l.length≤B) (c:Nat) (hN:∀l,H (NC c l)= .unused)
  (hk:∀U9 H2,Oi U9 (b.ins p pl l) H2→(∀p',p'<4+2*b.n0→p'≠1→p'≠5+2*p→U9 p'=lab p') →
   (∀q,(∀p',p'<4+2*b.n0→q≠lab p')→(∀l,q≠NC c l)→H2 q=H q)→(∀p',p'<4+2*b.n0→(∃p0,p0<4+2*b.n0∧U9 p'=lab p0)∨∃l,U9 p'=NC c l)→k (.gf []) H2) :
  C7 S f [.ptr L0 3 0 0,.int .i64 p,.int .i64 pl,.list (dq l)] H k u:=by
 subst h0;refine WV (lab:=lab) (N:=NC c) (hI b hn p pl hp x hx BS l hb UX) Qp hB hN (Yo c) (fun l h=> .inl h) (fun p' BT=>OO.2 (ajq.1 BT).1) ?_;rintro X R2 U9 H2 ⟨rfl,rfl⟩ g1 g2 g3 g4 g5 g6;refine hk U9 H2 g1 (fun p' h1 h2 h3=>g2 p' (ajq.2 ⟨h1,h2,h3⟩)) (fun q h1 h2=>g4 q (fun p' BT=>h1 p' (OO.1 BT)) h2) fun p' BT=> ?_;rcases g3 p' (OO.2 (by rw[ag2];exact BT)) with⟨p0,h1,h2⟩|h
 ·exact .inl ⟨p0,OO.1 h1,h2⟩
 exact .inr h
def Xt {f:Nat} (hI:X' S.P S.G f) (hB:Oi lab b H) {n p:Nat} {x y:Node} (hx:b.nodes[n]?=some x) (hpp:x.parent=p) (hy:b.nodes[p]?=some y) (hp:p<b.n0) (FP:y.kids.length≤B) (c:Nat) (hN:∀l,H (NC c l)= .unused)
  (hk:∀H2,Oi lab b H2→(∀q,(∀p',p'<4+2*b.n0→q≠lab p')→(∀l,q≠NC c l)→H2 q=H q)→k (.gf [.int .i64 p,.int .i64 (Xw y.kids n)]) H2) :
  C7 S f [.ptr (lab 0) 3 0 0,.int .i64 n] H k u:=by
 refine WV (lab:=lab) (N:=NC c) (hI b n p x y hx hpp hy hp FP) Qp hB hN (Yo c) (fun l h=> .inl h) (fun p' BT=>OO.2 (JG.1 BT)) ?_;rintro X R2 U9 H2 ⟨rfl,rfl⟩ g1 g2 g3 g4 g5 g6;exact hk H2 (g1.congr fun p' BT=>g2 p' (JG.2 (OO.1 BT))) fun q h1 h2=>g4 q (fun p' BT=>h1 p' (OO.1 BT)) h2
end
def XK {b:Bn} {n:Nat} {x:Node} (hx:b.nodes[n]?=some x):Oi Lb.par b (Lx (Ut b))∧(∀q:Lb,(∀p,p<4+2*b.n0→q≠ .par p)→Lx (Ut b) q= .unused)∧Lx (Ut b) (.loc 3)= .unused∧(∀c l,Lx (Ut b) (NC c l)= .unused)∧n<b.nodes.length ∧
  ∀cs,Oi Lb.par b (bD (Lx (Ut b)) (.loc 3) cs):=by
 have VB:Oi Lb.par b (Lx (Ut b)):=Xv _;have hU:∀q:Lb,(∀p,p<4+2*b.n0→q≠ .par p)→Lx (Ut b) q= .unused:=fun q hq=>Qa _ fun p hp e=>hq p (OO.1 hp) e.symm;exact⟨VB,hU,hU _ N7,fun c l=>hU _ PQ,(bd.1 hx).1,fun cs=>VB.Yr N7⟩
section
variable {P:Program} {G:Nat→Option (List IV)}
def fO (ej hY gN en eF:Nat):AC:=
(aM [zzX 3 1] (aM [ep 13 3 1,fm 14 13,MR 4 14] (aM [ep 15 3 0,fm 16 15] (.block 0 (aM [eY 18 .eql 16 1,MR 17 18] (.cond (.t 17) (.seq (.VL [MR 19 0,MR 20 4,MR 21 0,aQ 22 (.dp (.t 21)),ep 23 22 1,fm 24 23,MR 25 4,jL 26 24 25 1,fm 27 26,ep 28 3 2,fm 29 28,aQ 30 (.call ej [(.t 19),(.t 20),(.t 27),(.t 29)])] [[],[],[],[2],[3],[4],[],[5,6],[7],[],[9],[0,1,8,10]] [.no,.no,.no,.no,.no,(.rw [(.par 0)] []),.no,.no,(.rw [(.par 2)] []),.no,.rw [.loc 3] [],.all]) (.VL [MR 31 0,aQ 32 (.dp (.t 31)),ep 33 32 1,fm 34 33,MR 35 4,jL 36 34 35 1,fm 37 36,ep 38 3 2,fm 39 38,oy 40 39,et 41 .add 37 40,jL 42 34 35 1,gg (.store 1 (.t 42) (.t 41))] [[],[0],[1],[2],[],[3,4],[5],[],[7],[8],[6,9],[3,4,0,1,2,3,4,5,6,7,8,9,10],[11,10,0,1,2,3,4,5,6,7,8,9,10]] [.no,.no,.no,(.rw [(.par 0)] []),.no,.no,(.rw [(.par 2)] []),.no,.rw [.loc 3] [],.no,.no,.no,(.rw [] [(.par 2)])])) (aM [eY 44 .eql 16 2,MR 43 44] (.cond (.t 43) (.VL [MR 45 0,MR 46 4,MR 47 0,aQ 48 (.dp (.t 47)),ep 49 48 0,fm 50 49,MR 51 4,jL 52 50 51 5,ep 53 52 4,fm 54 53,oy 55 54,ep 56 3 2,fm 57 56,aQ 58 (.call ej [(.t 45),(.t 46),(.t 55),(.t 57)])] [[],[],[],[2],[3],[4],[],[5,6],[7],[8],[9],[],[11],[0,1,10,12]] [.no,.no,.no,.no,.no,(.rw [(.par 0)] []),.no,.no,.no,(.rw [(.par 1)] []),.no,.no,.rw [.loc 3] [],.all]) (aM [eY 60 .eql 16 3,MR 59 60] (.cond (.t 59) (aM [MR 62 0,MR 63 4,aQ 64 (.call hY [(.t 62),(.t 63)]),MR 61 64,ox 65 61 0,ox 66 61 1,MR 5 65,MR 6 66] (.cq [MR 67 0,MR 68 5,MR 69 6,ep 70 3 2,fm 71 70,aQ 72 (.call ej [(.t 67),(.t 68),(.t 69),(.t 71)])])) (aM [eY 74 .eql 16 4,MR 73 74] (.cond (.t 73) (aM [MR 76 0,MR 77 4,aQ 78 (.call hY [(.t 76),(.t 77)]),MR 75 78,ox 79 75 0,ox 80 75 1,MR 7 79,MR 8 80] (.seq (.VL [MR 81 0,MR 82 7,MR 83 8,eY 84 .add 83 1,MR 85 0,aQ 86 (.dp (.t 85)),ep 87 86 2,fm 88 87,MR 89 4,jL 90 88 89 1,fm 91 90,et 92 .add 84 91,ep 93 3 2,fm 94 93,aQ 95 (.call ej [(.t 81),(.t 82),(.t 92),(.t 94)])] [[],[],[],[2],[],[4],[5],[6],[],[7,8],[9],[3,10],[],[12],[0,1,11,13]] [.no,.no,.no,.no,.no,.no,.no,(.rw [(.par 0)] []),.no,.no,(.rw [(.par 3)] []),.no,.no,.rw [.loc 3] [],.all]) (.VL [MR 96 0,aQ 97 (.dp (.t 96)),ep 98 97 2,fm 99 98,MR 100 4,jL 101 99 100 1,fm 102 101,ep 103 3 2,fm 104 103,oy 105 104,et 106 .add 102 105,jL 107 99 100 1,gg (.store 1 (.t 107) (.t 106))] [[],[0],[1],[2],[],[3,4],[5],[],[7],[8],[6,9],[3,4,0,1,2,3,4,5,6,7,8,9,10],[11,10,0,1,2,3,4,5,6,7,8,9,10]] [.no,.no,.no,(.rw [(.par 0)] []),.no,.no,(.rw [(.par 3)] []),.no,.rw [.loc 3] [],.no,.no,.no,(.rw [] [(.par 3)])]))) (aM [eY 109 .eql 16 5,MR 108 109] (.cond (.t 108) (aM [MR 111 0,MR 112 4,aQ 113 (.call hY [(.t 111),(.t 112)]),MR 110 113,ox 114 110 0,ox 115 110 1,MR 9 114,MR 10 115] (aM [MR 116 10,eY 117 .geq 116 0] (.cond (.t 117) (.VL [MR 118 0,aQ 119 (.dp (.t 118)),ep 120 119 0,fm 121 120,MR 122 9,MR 123 0,aQ 124 (.dp (.t 123)),ep 125 124 0,fm 126 125,MR 127 9,jL 128 126 127 5,ep 129 128 4,fm 130 129,MR 131 10,MR 132 10,eY 133 .add 132 1,aQ 134 (.call gN [(.t 130),(.t 131),(.t 133)]),jL 135 121 122 5,ep 136 135 4,gg (.store 1 (.t 136) (.t 134))] [[],[0],[1],[2],[],[],[5],[6],[7],[],[8,9],[10],[11],[],[],[14],[12,13,15],[3,4,0,1,2,3,4,5,6,7,8,9,10,11,12,13,14,15,16],[17,0,1,2,3,4,5,6,7,8,9,10,11,12,13,14,15,16],[18,16,16,0,1,2,3,4,5,6,7,8,9,10,11,12,13,14,15,16]] [.no,.no,.no,(.rw [(.par 0)] []),.no,.no,.no,.no,(.rw [(.par 0)] []),.no,.no,.no,(.rw [(.par 1)] []),.no,.no,.no,(.p_ [(.par 0)]),.no,.no,(.rw [] [(.par 1)])]) .skip))) (aM [eY 138 .eql 16 6,MR 137 138] (.cond (.t 137) (aM [MR 140 0,MR 141 4,aQ 142 (.call hY [(.t 140),(.t 141)]),MR 139 142,ox 143 139 0,ox 144 139 1,MR 11 143,MR 12 144] (.seq (.VL [MR 145 0,aQ 146 (.dp (.t 145)),ep 147 146 0,fm 148 147,MR 149 11,MR 150 0,aQ 151 (.dp (.t 150)),ep 152 151 0,fm 153 152,MR 154 11,jL 155 153 154 5,ep 156 155 4,fm 157 156,MR 158 12,MR 159 12,eY 160 .add 159 1,aQ 161 (.call gN [(.t 157),(.t 158),(.t 160)]),jL 162 148 149 5,ep 163 162 4,gg (.store 1 (.t 163) (.t 161))] [[],[0],[1],[2],[],[],[5],[6],[7],[],[8,9],[10],[11],[],[],[14],[12,13,15],[3,4,0,1,2,3,4,5,6,7,8,9,10,11,12,13,14,15,16],[17,0,1,2,3,4,5,6,7,8,9,10,11,12,13,14,15,16],[18,16,16,0,1,2,3,4,5,6,7,8,9,10,11,12,13,14,15,16]] [.no,.no,.no,(.rw [(.par 0)] []),.no,.no,.no,.no,(.rw [(.par 0)] []),.no,.no,.no,(.rw [(.par 1)] []),.no,.no,.no,(.p_ [(.par 0)]),.no,.no,(.rw [] [(.par 1)])]) (.cq [MR 164 0,MR 165 11,MR 166 12,ep 167 3 2,fm 168 167,aQ 169 (.call ej [(.t 164),(.t 165),(.t 166),(.t 168)])]))) (aM [eY 171 .eql 16 7,MR 170 171] (.cond (.t 170) (.cq [MR 172 0,MR 173 4,ep 174 3 4,fm 175 174,aQ 176 (.call en [(.t 172),(.t 173),(.t 175)])]) (aM [eY 178 .eql 16 8,MR 177 178] (.cond (.t 177) (.VL [MR 179 0,aQ 180 (.dp (.t 179)),ep 181 180 0,fm 182 181,MR 183 4,ep 184 3 3,fm 185 184,jL 186 182 183 5,ep 187 186 1,gg (.store 1 (.t 187) (.t 185))] [[],[0],[1],[2],[],[],[5],[3,4,0,1,2,3,4,5,6],[7,0,1,2,3,4,5,6],[8,6,0,1,2,3,4,5,6]] [.no,.no,.no,(.rw [(.par 0)] []),.no,.no,.rw [.loc 3] [],.no,.no,(.rw [] [(.par 1)])]) (.seq (aM [eY 189 .eql 16 9,MR 188 189] (.cond (.t 188) .skip (.cq [eY 190 .eql 16 10,MR 188 190]))) (.cond (.t 188) (.cq [MR 191 0,gz 192 5 3,aQ 193 (.call eF [(.t 191),(.t 192)])]) .skip))))))))))))))))))))))
def aiE {kX ej hY gN en eF:Nat} (hF:aw P G kX=some (194,[],(fO ej hY gN en eF).bare)) (b:Bn) (hn:b.n0≤b.nodes.length) (n:Nat) (hp:n<b.n0) (x:Node) (hx:b.nodes[n]?=some x)
  (co:List Tree) (na st:Bs) (f:Nat) (hf:b.fs[n]?=some (f:Int)) (hfk:f≤x.kids.length) (hb:b.nodes.length+dE co≤B) (UX:x.kids.length+co.length≤B) (hI:aau P G ej) :
  Jg P G kX [.ptr (.par 0) 3 0 0,(⟨1,n,co,na,st⟩:Op).av] (Ut b) [0,2,3] fun X R2=>X=(fun _=> .gf [])∧R2=Ut ({b.ins n f co with fs:=b.fs.set n ((f+co.length:Nat):Int)}):=by
 refine VM hF N7 PR ?_;obtain⟨VB,hU,h3,hN,hlen,hA3⟩:=XK (b:=b) hx;have zo:B=1073741824:=rfl;have jY:=VB.get hx;rw[Va (n0:=b.n0) (lab:=Lb.par) (x:=x) hp] at jY;unfold fO;simp only[↓aX,mX,seval,Op.av,h3,Int.reduceBEq];have FO:n<b.fs.length:=(bd.1 hf).1;simp only[↓aX,mX,seval,Op.av,h3,VB.s,VB.n,VB.f,VB.a,hlen,pz,eG,bX,A5,tk,bM,jY,bF,bA,ZJ,hf,FO,bT];refine⟨rfl,?_⟩;refine XA hI (hA3 _) rfl hn hp hx hfk hb UX 9 (fun l=>by rw[aq _ _ PQ];exact hN 9 l) ?_;intro U9 H2 g1 g2 g4 g5;have Em:=g4 (.loc 3) N7 PQ;rw[ae,eE rfl] at Em;have e0:U9 0= .par 0:=g2 0 tM tM tM;have e2:U9 2= .par 2:=g2 2 tM tM tM;have e3:U9 3= .par 3:=g2 3 tM tM tM;have LV:=g1.s;have FW:=g1.f;rw[e0,e2,e3] at LV;rw[e2] at FW;rw[X_,Ya] at LV;rw[X_] at FW;have hw:IntKind.i64.wrap ((f:Int)+(co.length:Int))=((f+co.length:Nat):Int):=wrap64 tM tM;simp only[↓aX,mX,seval,Em,LV,FW,eG,bX,A5,tk,bM,bA,ZJ,hf,FO,bT,bF,hw];refine⟨rfl,?_⟩;rw[lM];refine⟨[],rfl,⟨fun _=> .gf [],_,U9⟩,⟨rfl,rfl⟩,fun ρ=>by simp[bJ,bu],PY,rfl,?_,?_⟩
 ·have:=g1.aix (fs:=b.fs.set n ((f+co.length:Nat):Int)) (H2:=bD H2 (.par 2) (.live ⟨1,(aB (b.fs.map xX)).set n [.int .i64 ((f+co.length:Nat):Int)]⟩)) (by rw[NT,X_]) (by rw[e2,ae,eE rfl,abE]) (fun q hq=>by rw[e2] at hq;rw[aq _ _ hq]);exact this
 rintro p' (rfl|rfl|rfl)
 ·exact e0
 ·exact e2
 exact e3
def aiF {kX ej hY gN en eF:Nat} (hF:aw P G kX=some (194,[],(fO ej hY gN en eF).bare)) (b:Bn) (hn:b.n0≤b.nodes.length) (n:Nat) (hp:n<b.n0) (x:Node) (hx:b.nodes[n]?=some x)
  (co:List Tree) (na st:Bs) (hb:b.nodes.length+dE co≤B) (UX:x.kids.length+co.length≤B) (hI:aau P G ej) :
  Jg P G kX [.ptr (.par 0) 3 0 0,(⟨2,n,co,na,st⟩:Op).av] (Ut b) [0,2,3] fun X R2=>X=(fun _=> .gf [])∧R2=Ut (b.ins n x.kids.length co):=by
 refine VM hF N7 PR ?_;obtain⟨VB,hU,h3,hN,hlen,hA3⟩:=XK (b:=b) hx;have zo:B=1073741824:=rfl;have jY:=VB.get hx;rw[Va (n0:=b.n0) (lab:=Lb.par) (x:=x) hp] at jY;unfold fO;simp only[↓aX,mX,seval,Op.av,h3,Int.reduceBEq]
 try simp only[↓aX,mX,seval,Op.av,h3,VB.s,VB.n,VB.f,VB.a,hlen,pz,eG,bX,A5,tk,bM,jY,bF]
 refine⟨rfl,?_⟩;refine XA hI (hA3 _) rfl hn hp hx (eM _) hb UX 9 (fun l=>by rw[aq _ _ PQ];exact hN 9 l) ?_;intro U9 H2 g1 g2 g4 g5;simp only[↓aX,mX,seval];rw[lM];refine⟨[],rfl,⟨fun _=> .gf [],_,U9⟩,⟨rfl,rfl⟩,fun ρ=>by simp[bJ,bu],PY,rfl,g1,?_⟩;rintro p' (rfl|rfl|rfl)
 ·exact g2 0 tM tM tM
 ·exact g2 2 tM tM tM
 exact g2 3 tM tM tM
def aiG {kX ej hY gN en eF:Nat} (hF:aw P G kX=some (194,[],(fO ej hY gN en eF).bare)) (b:Bn) (hn:b.n0≤b.nodes.length) (n:Nat) (hp:n<b.n0) (x:Node) (hx:b.nodes[n]?=some x)
  (co:List Tree) (na st:Bs) (p:Nat) (hpp:x.parent=p) (Yl:p<b.n0) (y:Node) (hy:b.nodes[p]?=some y) (hyB:y.kids.length≤B) (hPl:X' P G hY) (k:Nat) (hk:Xw y.kids n=(k:Int)) (Hm:k≤y.kids.length) (hb:b.nodes.length+dE co≤B) (FP:y.kids.length+co.length≤B) (hI:aau P G ej) :
  Jg P G kX [.ptr (.par 0) 3 0 0,(⟨3,n,co,na,st⟩:Op).av] (Ut b) [0,2,3] fun X R2=>X=(fun _=> .gf [])∧R2=Ut (b.ins p k co):=by
 refine VM hF N7 PR ?_;obtain⟨VB,hU,h3,hN,hlen,hA3⟩:=XK (b:=b) hx;have zo:B=1073741824:=rfl;have jY:=VB.get hx;rw[Va (n0:=b.n0) (lab:=Lb.par) (x:=x) hp] at jY;unfold fO;simp only[↓aX,mX,seval,Op.av,h3,Int.reduceBEq]
 try simp only[↓aX,mX,seval,Op.av,h3,VB.s,VB.n,VB.f,VB.a,hlen,pz,eG,bX,A5,tk,bM,jY,bF]
 refine Xt (lab:=Lb.par) hPl (hA3 _) hx hpp hy Yl hyB 9 (fun l=>by rw[aq _ _ PQ];exact hN 9 l) ?_;intro H2 MQ LV;have Em:=LV (.loc 3) N7 PQ;rw[ae,eE rfl] at Em;have hN2:∀c l,c≠9→H2 (NC c l)= .unused:=fun c l hc=>by
  rw[LV _ PQ (by intro l' e;simp[NC] at e;exact hc e.2),aq _ _ PQ];exact hN c l
 have hg2:∀q,H2 (.gen q)= .unused:=fun q=>by
  rw[LV _ N7 PQ,aq _ _ N7];exact hU _ N7
 rw[hk];simp only[↓aX,mX,seval,Em];refine XA hI MQ rfl hn Yl hy Hm hb FP 10 (fun l=>hN2 10 l Pr) ?_;intro U9 H3 g1 g2 g4 g5;simp only[↓aX,mX,seval];rw[lM];refine⟨[],rfl,⟨fun _=> .gf [],_,U9⟩,⟨rfl,rfl⟩,fun ρ=>by simp[bJ,bu],PY,rfl,g1,?_⟩;rintro p' (rfl|rfl|rfl)
 ·exact g2 0 tM tM tM
 ·exact g2 2 tM tM tM
 exact g2 3 tM tM tM
def aiH {kX ej hY gN en eF:Nat} (hF:aw P G kX=some (194,[],(fO ej hY gN en eF).bare)) (b:Bn) (hn:b.n0≤b.nodes.length) (n:Nat) (hp:n<b.n0) (x:Node) (hx:b.nodes[n]?=some x)
  (co:List Tree) (na st:Bs) (p:Nat) (hpp:x.parent=p) (Yl:p<b.n0) (y:Node) (hy:b.nodes[p]?=some y) (hyB:y.kids.length≤B) (hPl:X' P G hY) (k:Nat) (hk:Xw y.kids n=(k:Int)) (f:Nat) (hf:b.az[n]?=some (f:Int)) (Hm:k+1+f≤y.kids.length) (hb:b.nodes.length+dE co≤B) (FP:y.kids.length+co.length≤B) (hI:aau P G ej) :
  Jg P G kX [.ptr (.par 0) 3 0 0,(⟨4,n,co,na,st⟩:Op).av] (Ut b) [0,2,3] fun X R2=>X=(fun _=> .gf [])∧R2=Ut ({b.ins p (k+1+f) co with az:=b.az.set n ((f+co.length:Nat):Int)}):=by
 refine VM hF N7 PR ?_;obtain⟨VB,hU,h3,hN,hlen,hA3⟩:=XK (b:=b) hx;have zo:B=1073741824:=rfl;have jY:=VB.get hx;rw[Va (n0:=b.n0) (lab:=Lb.par) (x:=x) hp] at jY;unfold fO;simp only[↓aX,mX,seval,Op.av,h3,Int.reduceBEq]
 try simp only[↓aX,mX,seval,Op.av,h3,VB.s,VB.n,VB.f,VB.a,hlen,pz,eG,bX,A5,tk,bM,jY,bF]
 refine Xt (lab:=Lb.par) hPl (hA3 _) hx hpp hy Yl hyB 9 (fun l=>by rw[aq _ _ PQ];exact hN 9 l) ?_;intro H2 MQ LV;have Em:=LV (.loc 3) N7 PQ;rw[ae,eE rfl] at Em;have hN2:∀c l,c≠9→H2 (NC c l)= .unused:=fun c l hc=>by
  rw[LV _ PQ (by intro l' e;simp[NC] at e;exact hc e.2),aq _ _ PQ];exact hN c l
 have hg2:∀q,H2 (.gen q)= .unused:=fun q=>by
  rw[LV _ N7 PQ,aq _ _ N7];exact hU _ N7
 rw[hk];have FO:n<b.az.length:=(bd.1 hf).1;have pU:IntKind.i64.wrap ((k:Int)+1)=((k+1:Nat):Int):=wrap64 tM tM;have wB:IntKind.i64.wrap (((k+1:Nat):Int)+(f:Int))=((k+1+f:Nat):Int):=wrap64 tM tM;simp only[↓aX,mX,seval,Em,MQ.s,MQ.a,eG,bX,A5,tk,bM,bA,ZJ,hf,FO,bT,bF,pU,wB];refine⟨rfl,?_⟩;refine XA hI MQ rfl hn Yl hy Hm hb FP 10 (fun l=>hN2 10 l Pr) ?_;intro U9 H3 g1 g2 g4 g5;have h33:=g4 (.loc 3) N7 PQ;rw[Em] at h33;have e0:U9 0= .par 0:=g2 0 tM tM tM;have e2:U9 2= .par 2:=g2 2 tM tM tM;have e3:U9 3= .par 3:=g2 3 tM tM tM;have LV:=g1.s;have FW:=g1.a;rw[e0,e2,e3] at LV;rw[e3] at FW;rw[X_,Ya] at LV;rw[Ya] at FW;have hw:IntKind.i64.wrap ((f:Int)+(co.length:Int))=((f+co.length:Nat):Int):=wrap64 tM tM;simp only[↓aX,mX,seval,h33,LV,FW,eG,bX,A5,tk,bM,bA,ZJ,hf,FO,bT,bF,hw];refine⟨rfl,?_⟩;have:=g1.ahP (az:=b.az.set n ((f+co.length:Nat):Int)) (H2:=bD H3 (.par 3) (.live ⟨1,(aB (b.az.map xX)).set n [.int .i64 ((f+co.length:Nat):Int)]⟩)) (by rw[NT,Ya]) (by rw[e3,ae,eE rfl,abE]) (fun q hq=>by rw[e3] at hq;rw[aq _ _ hq]);rw[lM];refine⟨[],rfl,⟨fun _=> .gf [],_,U9⟩,⟨rfl,rfl⟩,fun ρ=>by simp[bJ,bu],PY,rfl,this,?_⟩;rintro p' (rfl|rfl|rfl)
 ·exact e0
 ·exact e2
 exact e3
def aiI {kX ej hY gN en eF:Nat} (hF:aw P G kX=some (194,[],(fO ej hY gN en eF).bare)) (b:Bn) (hn:b.n0≤b.nodes.length) (n:Nat) (hp:n<b.n0) (x:Node) (hx:b.nodes[n]?=some x)
  (co:List Tree) (na st:Bs) (p:Nat) (hpp:x.parent=p) (Yl:p<b.n0) (y:Node) (hy:b.nodes[p]?=some y) (hyB:y.kids.length≤B) (hPl:X' P G hY) (k:Nat) (hk:Xw y.kids n=(k:Int)) (Hm:k<y.kids.length) (hD:aeK P G gN) :
  Jg P G kX [.ptr (.par 0) 3 0 0,(⟨5,n,co,na,st⟩:Op).av] (Ut b) [0,2,3] fun X R2=>X=(fun _=> .gf [])∧R2=Ut (b.del p k):=by
 refine VM hF N7 PR ?_;obtain⟨VB,hU,h3,hN,hlen,hA3⟩:=XK (b:=b) hx;have zo:B=1073741824:=rfl;have jY:=VB.get hx;rw[Va (n0:=b.n0) (lab:=Lb.par) (x:=x) hp] at jY;unfold fO;simp only[↓aX,mX,seval,Op.av,h3,Int.reduceBEq]
 try simp only[↓aX,mX,seval,Op.av,h3,VB.s,VB.n,VB.f,VB.a,hlen,pz,eG,bX,A5,tk,bM,jY,bF]
 refine Xt (lab:=Lb.par) hPl (hA3 _) hx hpp hy Yl hyB 9 (fun l=>by rw[aq _ _ PQ];exact hN 9 l) ?_;intro H2 MQ LV;have Em:=LV (.loc 3) N7 PQ;rw[ae,eE rfl] at Em;have hN2:∀c l,c≠9→H2 (NC c l)= .unused:=fun c l hc=>by
  rw[LV _ PQ (by intro l' e;simp[NC] at e;exact hc e.2),aq _ _ PQ];exact hN c l
 have hg2:∀q,H2 (.gen q)= .unused:=fun q=>by
  rw[LV _ N7 PQ,aq _ _ N7];exact hU _ N7
 rw[hk];have Yd:p<b.nodes.length:=(bd.1 hy).1;have Y':=MQ.get hy;rw[Va Yl] at Y';have aeP:=MQ.kd Yl hy;have pU:IntKind.i64.wrap ((k:Int)+1)=((k+1:Nat):Int):=wrap64 tM tM;have aeQ:b.del p k=b.set p {y with kids:=y.kids.take k++y.kids.drop (k+1)}:=by unfold Bn.del;rw[hy]
 have h15:¬(1:Nat)=5+2*p:=tM
 have key:∀(N:Lb),(N= .par (5+2*p)∨N= .gen 134)→∀H3:Hp,H3 (.par 1)= .live ⟨5,(b.nodes.mapIdx (NI b.n0 Lb.par)).set p [.bool y.text,.str y.s,.sl (.par (4+2*p)) 2 0 y.attrs.length,.int .i64 y.parent,.sl N 1 0 (y.kids.take k++y.kids.drop (k+1)).length]⟩ →
   H3 N= .live ⟨1,aB ((y.kids.take k++y.kids.drop (k+1)).map xX)⟩→(∀q,q≠ .par 1→q≠N→q≠ .par (5+2*p)→H3 q=H2 q)→Oi (fun p'=>if p'=5+2*p then N else Lb.par p') (b.del p k) H3:=by
  intro N hN H3 e1 e2 e3;rw[aeQ];refine Oi.afQ MQ Yl hy ?_ e1 e2 e3;rcases hN with rfl|rfl
  ·exact .inl rfl
  exact .inr N7
 simp only[↓aX,mX,seval,Em,MQ.s,MQ.n,Yd,pz,eG,bX,A5,tk,bM,Y',pU,bA,h15,OA,A_];refine⟨rfl,?_⟩;refine Bg (l:= .par (5+2*p)) (N:= .gen 134) (hD y.kids k Hm hyB) rfl aeP (hg2 _) Qc P' P' ?_ ?_
 ·simp only[↓aX,mX,seval,Em,MQ.s,MQ.n,Yd,pz,eG,bX,A5,tk,bM,Y',pU,bA,h15];have hB3:=key (.gen 134) (.inr rfl) (bD (bD (bD H2 (.par (5+2*p)) .dead) (.gen 134) (.live ⟨1,aB ((y.kids.take k++y.kids.drop (k+1)).map xX)⟩)) (.par 1) (.live ⟨5,(b.nodes.mapIdx (NI b.n0 Lb.par)).set p [.bool y.text,.str y.s,.sl (.par (4+2*p)) 2 0 y.attrs.length,.int .i64 y.parent,.sl (.gen 134) 1 0 (y.kids.take k++y.kids.drop (k+1)).length]⟩)) PE PE (by intro q g1 g2 g3;simp[ae,g1,g2,g3]);rw[lM];refine⟨[],rfl,⟨fun _=> .gf [],_,fun p'=>if p'=5+2*p then Lb.gen 134 else Lb.par p'⟩,⟨rfl,rfl⟩,fun ρ=>by simp[bJ,bu],PY,rfl,hB3,?_⟩;rintro p' (rfl|rfl|rfl)
  ·exact cY tM
  ·exact cY tM
  exact cY tM
 simp only[↓aX,mX,seval,Em,MQ.s,MQ.n,Yd,pz,eG,bX,A5,tk,bM,Y',pU,bA,h15];have hB3:=key (.par (5+2*p)) (.inl rfl) (bD (bD (bD H2 (.par (5+2*p)) .dead) (.par (5+2*p)) (.live ⟨1,aB ((y.kids.take k++y.kids.drop (k+1)).map xX)⟩)) (.par 1) (.live ⟨5,(b.nodes.mapIdx (NI b.n0 Lb.par)).set p [.bool y.text,.str y.s,.sl (.par (4+2*p)) 2 0 y.attrs.length,.int .i64 y.parent,.sl (.par (5+2*p)) 1 0 (y.kids.take k++y.kids.drop (k+1)).length]⟩)) PE (by simp[ae];omega) (by intro q g1 g2 g3;simp[ae,g1,g2,g3]);rw[lM];refine⟨[],rfl,⟨fun _=> .gf [],_,fun p'=>if p'=5+2*p then(.par (5+2*p)) else Lb.par p'⟩,⟨rfl,rfl⟩,fun ρ=>by simp[bJ,bu],PY,rfl,hB3,?_⟩;rintro p' (rfl|rfl|rfl)
 ·exact cY tM
 ·exact cY tM
 exact cY tM
def ahX {kX ej hY gN en eF:Nat} (hF:aw P G kX=some (194,[],(fO ej hY gN en eF).bare)) (b:Bn) (hn:b.n0≤b.nodes.length) (n:Nat) (hp:n<b.n0) (x:Node) (hx:b.nodes[n]?=some x)
  (co:List Tree) (na st:Bs) (p:Nat) (hpp:x.parent=p) (Yl:p<b.n0) (y:Node) (hy:b.nodes[p]?=some y) (hyB:y.kids.length≤B) (hPl:X' P G hY) (hk:Xw y.kids n= -1) :
  Jg P G kX [.ptr (.par 0) 3 0 0,(⟨5,n,co,na,st⟩:Op).av] (Ut b) [0,2,3] fun X R2=>X=(fun _=> .gf [])∧R2=Ut (b):=by
 refine VM hF N7 PR ?_;obtain⟨VB,hU,h3,hN,hlen,hA3⟩:=XK (b:=b) hx;have zo:B=1073741824:=rfl;have jY:=VB.get hx;rw[Va (n0:=b.n0) (lab:=Lb.par) (x:=x) hp] at jY;unfold fO;simp only[↓aX,mX,seval,Op.av,h3,Int.reduceBEq]
 try simp only[↓aX,mX,seval,Op.av,h3,VB.s,VB.n,VB.f,VB.a,hlen,pz,eG,bX,A5,tk,bM,jY,bF]
 refine Xt (lab:=Lb.par) hPl (hA3 _) hx hpp hy Yl hyB 9 (fun l=>by rw[aq _ _ PQ];exact hN 9 l) ?_;intro H2 MQ LV;have Em:=LV (.loc 3) N7 PQ;rw[ae,eE rfl] at Em;have hN2:∀c l,c≠9→H2 (NC c l)= .unused:=fun c l hc=>by
  rw[LV _ PQ (by intro l' e;simp[NC] at e;exact hc e.2),aq _ _ PQ];exact hN c l
 have hg2:∀q,H2 (.gen q)= .unused:=fun q=>by
  rw[LV _ N7 PQ,aq _ _ N7];exact hU _ N7
 rw[hk];simp only[↓aX,mX,seval,Em,OA,show decide ((0:Int)≤ -1)=false by decide,XG];rw[lM];refine⟨[],rfl,⟨fun _=> .gf [],_,Lb.par⟩,⟨rfl,rfl⟩,fun ρ=>by simp[bJ,bu],PY,rfl,MQ,?_⟩;rintro p' (rfl|rfl|rfl)
 ·exact rfl
 ·exact rfl
 exact rfl
def aiJ {kX ej hY gN en eF:Nat} (hF:aw P G kX=some (194,[],(fO ej hY gN en eF).bare)) (b:Bn) (hn:b.n0≤b.nodes.length) (n:Nat) (hp:n<b.n0) (x:Node) (hx:b.nodes[n]?=some x)
  (co:List Tree) (na st:Bs) (p:Nat) (hpp:x.parent=p) (Yl:p<b.n0) (y:Node) (hy:b.nodes[p]?=some y) (hyB:y.kids.length≤B) (hPl:X' P G hY) (k:Nat) (hk:Xw y.kids n=(k:Int)) (Hm:k<y.kids.length) (hD:aeK P G gN) (hb:b.nodes.length+dE co≤B) (FP:y.kids.length+co.length≤B) (hI:aau P G ej) :
  Jg P G kX [.ptr (.par 0) 3 0 0,(⟨6,n,co,na,st⟩:Op).av] (Ut b) [0,2,3] fun X R2=>X=(fun _=> .gf [])∧R2=Ut ((b.del p k).ins p k co):=by
 refine VM hF N7 PR ?_;obtain⟨VB,hU,h3,hN,hlen,hA3⟩:=XK (b:=b) hx;have zo:B=1073741824:=rfl;have jY:=VB.get hx;rw[Va (n0:=b.n0) (lab:=Lb.par) (x:=x) hp] at jY;unfold fO;simp only[↓aX,mX,seval,Op.av,h3,Int.reduceBEq]
 try simp only[↓aX,mX,seval,Op.av,h3,VB.s,VB.n,VB.f,VB.a,hlen,pz,eG,bX,A5,tk,bM,jY,bF]
 refine Xt (lab:=Lb.par) hPl (hA3 _) hx hpp hy Yl hyB 9 (fun l=>by rw[aq _ _ PQ];exact hN 9 l) ?_;intro H2 MQ LV;have Em:=LV (.loc 3) N7 PQ;rw[ae,eE rfl] at Em;have hN2:∀c l,c≠9→H2 (NC c l)= .unused:=fun c l hc=>by
  rw[LV _ PQ (by intro l' e;simp[NC] at e;exact hc e.2),aq _ _ PQ];exact hN c l
 have hg2:∀q,H2 (.gen q)= .unused:=fun q=>by
  rw[LV _ N7 PQ,aq _ _ N7];exact hU _ N7
 rw[hk];have Yd:p<b.nodes.length:=(bd.1 hy).1;have Y':=MQ.get hy;rw[Va Yl] at Y';have aeP:=MQ.kd Yl hy;have pU:IntKind.i64.wrap ((k:Int)+1)=((k+1:Nat):Int):=wrap64 tM tM;have aeQ:b.del p k=b.set p {y with kids:=y.kids.take k++y.kids.drop (k+1)}:=by unfold Bn.del;rw[hy]
 have h15:¬(1:Nat)=5+2*p:=tM
 have key:∀(N:Lb),(N= .par (5+2*p)∨N= .gen 161)→∀H3:Hp,H3 (.par 1)= .live ⟨5,(b.nodes.mapIdx (NI b.n0 Lb.par)).set p [.bool y.text,.str y.s,.sl (.par (4+2*p)) 2 0 y.attrs.length,.int .i64 y.parent,.sl N 1 0 (y.kids.take k++y.kids.drop (k+1)).length]⟩ →
   H3 N= .live ⟨1,aB ((y.kids.take k++y.kids.drop (k+1)).map xX)⟩→(∀q,q≠ .par 1→q≠N→q≠ .par (5+2*p)→H3 q=H2 q)→Oi (fun p'=>if p'=5+2*p then N else Lb.par p') (b.del p k) H3:=by
  intro N hN H3 e1 e2 e3;rw[aeQ];refine Oi.afQ MQ Yl hy ?_ e1 e2 e3;rcases hN with rfl|rfl
  ·exact .inl rfl
  exact .inr N7
 have hdn:(b.del p k).nodes.length=b.nodes.length:=by rw[aeQ];simp[Bn.set]
 have hdy:(b.del p k).nodes[p]?=some {y with kids:=y.kids.take k++y.kids.drop (k+1)}:=by rw[aeQ];simp[Bn.set,Yd]
 simp only[↓aX,mX,seval,Em,MQ.s,MQ.n,Yd,pz,eG,bX,A5,tk,bM,Y',pU,bA,h15,OA,A_];refine⟨rfl,?_⟩;refine Bg (l:= .par (5+2*p)) (N:= .gen 161) (hD y.kids k Hm hyB) rfl aeP (hg2 _) Qc P' P' ?_ ?_
 ·simp only[↓aX,mX,seval,Em,MQ.s,MQ.n,Yd,pz,eG,bX,A5,tk,bM,Y',pU,bA,h15];have hB3:=key (.gen 161) (.inr rfl) (bD (bD (bD H2 (.par (5+2*p)) .dead) (.gen 161) (.live ⟨1,aB ((y.kids.take k++y.kids.drop (k+1)).map xX)⟩)) (.par 1) (.live ⟨5,(b.nodes.mapIdx (NI b.n0 Lb.par)).set p [.bool y.text,.str y.s,.sl (.par (4+2*p)) 2 0 y.attrs.length,.int .i64 y.parent,.sl (.gen 161) 1 0 (y.kids.take k++y.kids.drop (k+1)).length]⟩)) PE PE (by intro q g1 g2 g3;simp[ae,g1,g2,g3]);refine XA hI hB3 (cY tM) (by rw[hdn,XJ];exact hn) (by rw[XJ];exact Yl) hdy PJ (by rw[hdn];exact hb) PJ 10 (fun l=>by simp[ae,NC];exact hN2 10 l Pr) ?_;intro U9 H3 g1 g2 g4 g5;simp only[↓aX,mX,seval];have e0:U9 0= .par 0:=(g2 0 (by rw[XJ];omega) tM tM).trans (cY tM);have e2:U9 2= .par 2:=(g2 2 (by rw[XJ];omega) tM tM).trans (cY tM);have e3:U9 3= .par 3:=(g2 3 (by rw[XJ];omega) tM tM).trans (cY tM);rw[lM];refine⟨[],rfl,⟨fun _=> .gf [],_,U9⟩,⟨rfl,rfl⟩,fun ρ=>by simp[bJ,bu],PY,rfl,g1,?_⟩;rintro p' (rfl|rfl|rfl)
  ·exact e0
  ·exact e2
  exact e3
 simp only[↓aX,mX,seval,Em,MQ.s,MQ.n,Yd,pz,eG,bX,A5,tk,bM,Y',pU,bA,h15];have hB3:=key (.par (5+2*p)) (.inl rfl) (bD (bD (bD H2 (.par (5+2*p)) .dead) (.par (5+2*p)) (.live ⟨1,aB ((y.kids.take k++y.kids.drop (k+1)).map xX)⟩)) (.par 1) (.live ⟨5,(b.nodes.mapIdx (NI b.n0 Lb.par)).set p [.bool y.text,.str y.s,.sl (.par (4+2*p)) 2 0 y.attrs.length,.int .i64 y.parent,.sl (.par (5+2*p)) 1 0 (y.kids.take k++y.kids.drop (k+1)).length]⟩)) PE (by simp[ae];omega) (by intro q g1 g2 g3;simp[ae,g1,g2,g3]);refine XA hI hB3 (cY tM) (by rw[hdn,XJ];exact hn) (by rw[XJ];exact Yl) hdy PJ (by rw[hdn];exact hb) PJ 10 (fun l=>by simp[ae,NC];exact hN2 10 l Pr) ?_;intro U9 H3 g1 g2 g4 g5;simp only[↓aX,mX,seval];have e0:U9 0= .par 0:=(g2 0 (by rw[XJ];omega) tM tM).trans (cY tM);have e2:U9 2= .par 2:=(g2 2 (by rw[XJ];omega) tM tM).trans (cY tM);have e3:U9 3= .par 3:=(g2 3 (by rw[XJ];omega) tM tM).trans (cY tM);rw[lM];refine⟨[],rfl,⟨fun _=> .gf [],_,U9⟩,⟨rfl,rfl⟩,fun ρ=>by simp[bJ,bu],PY,rfl,g1,?_⟩;rintro p' (rfl|rfl|rfl)
 ·exact e0
 ·exact e2
 exact e3
def aiK {kX ej hY gN en eF:Nat} (hF:aw P G kX=some (194,[],(fO ej hY gN en eF).bare)) (b:Bn) (hn:b.n0≤b.nodes.length) (n:Nat) (hp:n<b.n0) (x:Node) (hx:b.nodes[n]?=some x)
  (co:List Tree) (na st:Bs) (hb:b.nodes.length+1+st.length≤B) (hV:aa7 P G en) :
  Jg P G kX [.ptr (.par 0) 3 0 0,(⟨7,n,co,na,st⟩:Op).av] (Ut b) [0,2,3] fun X R2=>X=(fun _=> .gf [])∧R2=Ut (b.value n st):=by
 refine VM hF N7 PR ?_;obtain⟨VB,hU,h3,hN,hlen,hA3⟩:=XK (b:=b) hx;have zo:B=1073741824:=rfl;have jY:=VB.get hx;rw[Va (n0:=b.n0) (lab:=Lb.par) (x:=x) hp] at jY;unfold fO;simp only[↓aX,mX,seval,Op.av,h3,Int.reduceBEq]
 try simp only[↓aX,mX,seval,Op.av,h3,VB.s,VB.n,VB.f,VB.a,hlen,pz,eG,bX,A5,tk,bM,jY,bF]
 refine WV (lab:=Lb.par) (N:=NC 9) (hV b hn n hp x hx st hb) Qp (hA3 _) (fun l=>by rw[aq _ _ PQ];exact hN 9 l) (Yo 9) (fun l h=> .inl h) (fun p' BT=>OO.2 (ajq.1 BT).1) ?_;rintro X R2 U9 H2 ⟨rfl,rfl⟩ g1 g2 g3 g4 g5 g6;simp only[↓aX,mX,seval];rw[lM];refine⟨[],rfl,⟨fun _=> .gf [],_,U9⟩,⟨rfl,rfl⟩,fun ρ=>by simp[bJ,bu],PY,rfl,g1,?_⟩;rintro p' (rfl|rfl|rfl)
 ·exact g2 0 (ajq.2 ⟨tM,tM,tM⟩)
 ·exact g2 2 (ajq.2 ⟨tM,tM,tM⟩)
 exact g2 3 (ajq.2 ⟨tM,tM,tM⟩)
def aiL {kX ej hY gN en eF:Nat} (hF:aw P G kX=some (194,[],(fO ej hY gN en eF).bare)) (b:Bn) (hn:b.n0≤b.nodes.length) (n:Nat) (hp:n<b.n0) (x:Node) (hx:b.nodes[n]?=some x)
  (co:List Tree) (na st:Bs) :
  Jg P G kX [.ptr (.par 0) 3 0 0,(⟨8,n,co,na,st⟩:Op).av] (Ut b) [0,2,3] fun X R2=>X=(fun _=> .gf [])∧R2=Ut (b.name n na):=by
 refine VM hF N7 PR ?_;obtain⟨VB,hU,h3,hN,hlen,hA3⟩:=XK (b:=b) hx;have zo:B=1073741824:=rfl;have jY:=VB.get hx;rw[Va (n0:=b.n0) (lab:=Lb.par) (x:=x) hp] at jY;unfold fO;simp only[↓aX,mX,seval,Op.av,h3,Int.reduceBEq]
 try simp only[↓aX,mX,seval,Op.av,h3,VB.s,VB.n,VB.f,VB.a,hlen,pz,eG,bX,A5,tk,bM,jY,bF]
 refine⟨rfl,?_⟩;have QM:b.name n na=b.set n {x with s:=na}:=by unfold Bn.name;rw[hx]
 have:=Oi.ahO (s:=na) (H2:=bD (bD (Lx (Ut b)) (.loc 3) (.live ⟨5,[[.int .i64 8,.int .i64 n,.list (dq co),.str na,.str st]]⟩)) (.par 1) (.live ⟨5,(b.nodes.mapIdx (NI b.n0 Lb.par)).set n [.bool x.text,.str na,.sl (.par (4+2*n)) 2 0 x.attrs.length,.int .i64 x.parent,.sl (.par (5+2*n)) 1 0 x.kids.length]⟩)) (hA3 _) hx (by rw[ae,eE rfl,Va hp]) (fun q hq=>by rw[aq _ _ hq]);rw[←QM] at this;rw[lM];refine⟨[],rfl,⟨fun _=> .gf [],_,Lb.par⟩,⟨rfl,rfl⟩,fun ρ=>by simp[bJ,bu],PY,rfl,this,?_⟩;rintro p' (rfl|rfl|rfl)
 ·exact rfl
 ·exact rfl
 exact rfl
def aiM {kX ej hY gN en eF:Nat} (hF:aw P G kX=some (194,[],(fO ej hY gN en eF).bare)) (b:Bn) (hn:b.n0≤b.nodes.length) (n:Nat) (hp:n<b.n0) (x:Node) (hx:b.nodes[n]?=some x)
  (co:List Tree) (na st:Bs) (hb:x.attrs.length+1≤B) (hr:l_ x.attrs=true) (Km:abD P G eF) :
  Jg P G kX [.ptr (.par 0) 3 0 0,(⟨9,n,co,na,st⟩:Op).av] (Ut b) [0,2,3] fun X R2=>X=(fun _=> .gf [])∧R2=Ut (b.attr n ⟨9,n,co,na,st⟩):=by
 refine VM hF N7 PR ?_;obtain⟨VB,hU,h3,hN,hlen,hA3⟩:=XK (b:=b) hx;have zo:B=1073741824:=rfl;have jY:=VB.get hx;rw[Va (n0:=b.n0) (lab:=Lb.par) (x:=x) hp] at jY;unfold fO;simp only[↓aX,mX,seval,Op.av,h3,Int.reduceBEq]
 try simp only[↓aX,mX,seval,Op.av,h3,VB.s,VB.n,VB.f,VB.a,hlen,pz,eG,bX,A5,tk,bM,jY,bF]
 refine WV (lab:=Lb.par) (N:=NC 9) (Km b n hp x hx ⟨9,n,co,na,st⟩ rfl N7 hb hr) Qx (hA3 _) (fun l=>by rw[aq _ _ PQ];exact hN 9 l) (Yo 9) (fun l h=> .inl h) (fun p' BT=>OO.2 (Wp.1 BT).1) ?_;rintro X R2 U9 H2 ⟨rfl,rfl⟩ g1 g2 g3 g4 g5 g6;simp only[↓aX,mX,seval];rw[lM];refine⟨[],rfl,⟨fun _=> .gf [],_,U9⟩,⟨rfl,rfl⟩,fun ρ=>by simp[bJ,bu],PY,rfl,g1,?_⟩;rintro p' (rfl|rfl|rfl)
 ·exact g2 0 (Wp.2 ⟨tM,tM⟩)
 ·exact g2 2 (Wp.2 ⟨tM,tM⟩)
 exact g2 3 (Wp.2 ⟨tM,tM⟩)
def ahY {kX ej hY gN en eF:Nat} (hF:aw P G kX=some (194,[],(fO ej hY gN en eF).bare)) (b:Bn) (hn:b.n0≤b.nodes.length) (n:Nat) (hp:n<b.n0) (x:Node) (hx:b.nodes[n]?=some x)
  (co:List Tree) (na st:Bs) (hb:x.attrs.length+1≤B) (hr:l_ x.attrs=true) (Km:abD P G eF) :
  Jg P G kX [.ptr (.par 0) 3 0 0,(⟨10,n,co,na,st⟩:Op).av] (Ut b) [0,2,3] fun X R2=>X=(fun _=> .gf [])∧R2=Ut (b.attr n ⟨10,n,co,na,st⟩):=by
 refine VM hF N7 PR ?_;obtain⟨VB,hU,h3,hN,hlen,hA3⟩:=XK (b:=b) hx;have zo:B=1073741824:=rfl;have jY:=VB.get hx;rw[Va (n0:=b.n0) (lab:=Lb.par) (x:=x) hp] at jY;unfold fO;simp only[↓aX,mX,seval,Op.av,h3,Int.reduceBEq]
 try simp only[↓aX,mX,seval,Op.av,h3,VB.s,VB.n,VB.f,VB.a,hlen,pz,eG,bX,A5,tk,bM,jY,bF]
 refine WV (lab:=Lb.par) (N:=NC 9) (Km b n hp x hx ⟨10,n,co,na,st⟩ rfl N7 hb hr) Qx (hA3 _) (fun l=>by rw[aq _ _ PQ];exact hN 9 l) (Yo 9) (fun l h=> .inl h) (fun p' BT=>OO.2 (Wp.1 BT).1) ?_;rintro X R2 U9 H2 ⟨rfl,rfl⟩ g1 g2 g3 g4 g5 g6;simp only[↓aX,mX,seval];rw[lM];refine⟨[],rfl,⟨fun _=> .gf [],_,U9⟩,⟨rfl,rfl⟩,fun ρ=>by simp[bJ,bu],PY,rfl,g1,?_⟩;rintro p' (rfl|rfl|rfl)
 ·exact g2 0 (Wp.2 ⟨tM,tM⟩)
 ·exact g2 2 (Wp.2 ⟨tM,tM⟩)
 exact g2 3 (Wp.2 ⟨tM,tM⟩)
end

def ofK (l:List Op) (k:Int) (n:Nat):List Op:=l.filter fun o=>o.kind==k&&o.target==(n:Int)
def gl (l:List Op) (k:Int) (n:Nat):List Tree:=(ofK l k n).flatMap Op.content
def VA (l:List Op) (k:Int) (n:Nat):Bool:= !(ofK l k n).isEmpty
def Wi (l:List Op) (n:Nat) (s:Bs):Bs:=match(ofK l 7 n).getLast? with|some o=>o.s|none=>s
def Wr (l:List Op) (n:Nat) (s:Bs):Bs:=match(ofK l 8 n).getLast? with|some o=>o.name|none=>s
def X4 (n:Nat) (az:List Attr) (o:Op):List Attr:=if o.target=(n:Int)∧(o.kind=9∨o.kind=10) then TV az o else az
def Vb (l:List Op) (n:Nat) (az:List Attr):List Attr:=l.foldl (X4 n) az
def Y_ (l:List Op) (o:Op) (k:Int) (n:Nat):ofK (l++[o]) k n=ofK l k n++(if o.kind=k∧o.target=(n:Int) then [o] else []):=by
 unfold ofK;rw[D8];congr 1;by_cases h:o.kind=k∧o.target=(n:Int)
 ·simp[h]
 rw[cY h,M3 (by simpa using h)];rfl
def akJ (l:List Op) (o:Op) (k:Int) (n:Nat):gl (l++[o]) k n=gl l k n++(if o.kind=k∧o.target=(n:Int) then o.content else []):=by
 unfold gl;rw[Y_,tG];congr 1;split<;>simp
def Vk (l:List Op) (o:Op) (k:Int) (n:Nat):VA (l++[o]) k n=(VA l k n||decide (o.kind=k∧o.target=(n:Int))):=by
 unfold VA;rw[Y_];by_cases h:o.kind=k∧o.target=(n:Int)
 ·simp[h]
 rw[cY h];simp[h]
def YD (l:List Op) (o:Op) (n:Nat) (s:Bs):Wi (l++[o]) n s=if o.kind=7∧o.target=(n:Int) then o.s else Wi l n s:=by
 unfold Wi;rw[Y_];by_cases h:o.kind=7∧o.target=(n:Int)
 ·rw[eE h,eE h,sf]
 rw[cY h,cY h,rI]
def aaL (l:List Op) (o:Op) (n:Nat) (s:Bs):Wr (l++[o]) n s=if o.kind=8∧o.target=(n:Int) then o.name else Wr l n s:=by
 unfold Wr;rw[Y_];by_cases h:o.kind=8∧o.target=(n:Int)
 ·rw[eE h,eE h,sf]
 rw[cY h,cY h,rI]
def Zy (l:List Op) (o:Op) (n:Nat) (az:List Attr):Vb (l++[o]) n az=X4 n (Vb l n az) o:=by
 unfold Vb;rw[Nw];rfl
def acu {l:List Op} {k:Int} {n:Nat} (h:VA l k n=false):gl l k n=[]:=by
 unfold VA at h;unfold gl;have:ofK l k n=[]:=by simpa using h
 rw[this];rfl
def abF {l:List Op} {k:Int} {n:Nat}:VA l k n=true↔∃o∈l,o.kind=k∧o.target=(n:Int):=by
 unfold VA ofK;simp only[D0,List.isEmpty_eq_false_iff,ne_eq,mc,de,yt];constructor
 ·intro h;refine Bf fun h2=>h fun a ha hc=>h2 ⟨a,ha,hc⟩
 rintro⟨o,ho,hc⟩ h;exact h o ho hc
mutual
def Tree.YL (l:List Op) (off:Nat):Tree→List Tree
 | .mk t s az ks=>gl l 3 off++(if VA l 6 off then gl l 6 off else if VA l 5 off then [] else
  [.mk t (if t then Wi l off s else Wr l off s) (Vb l off az) (if t then [] else if VA l 7 off then [UR (Wi l off [])] else gl l 1 off++turns l (off+1) ks++gl l 2 off)])++gl l 4 off
def turns (l:List Op) (off:Nat):List Tree→List Tree
 |[]=>[]
 |k::r=>k.YL l off++turns l (off+k.jz) r
end
def Tree.V5 (l:List Op) (off:Nat) (x:Tree):Tree:=
 .mk x.text (if x.text then Wi l off x.s else Wr l off x.s) (Vb l off x.attrs) (if x.text then [] else if VA l 7 off then [UR (Wi l off [])] else gl l 1 off++turns l (off+1) x.kids++gl l 2 off)
def Tree.afW (l:List Op) (off:Nat) (x:Tree):x.YL l off=gl l 3 off++(if VA l 6 off then gl l 6 off else if VA l 5 off then [] else [x.V5 l off])++gl l 4 off:=by
 cases x with|mk t s az ks=>rw[Tree.YL];rfl
def WX (b:Bn) (o:Op):Bn:=match b.nodes[o.target.toNat]? with
 |none=>b
 |some x=>
  let n:=o.target.toNat
  let p:=x.parent.toNat
  let k:=Xw (b.kd p) n
  if o.kind=1 then {b.ins n (b.fs.getD n 0).toNat o.content with fs:=b.fs.set n (((b.fs.getD n 0).toNat+o.content.length:Nat):Int)}
  else if o.kind=2 then b.ins n x.kids.length o.content
  else if o.kind=3 then b.ins p k.toNat o.content
  else if o.kind=4 then {b.ins p (k.toNat+1+(b.az.getD n 0).toNat) o.content with az:=b.az.set n (((b.az.getD n 0).toNat+o.content.length:Nat):Int)}
  else if o.kind=5 then(if 0≤k then b.del p k.toNat else b)
  else if o.kind=6 then(b.del p k.toNat).ins p k.toNat o.content
  else if o.kind=7 then b.value n o.s
  else if o.kind=8 then b.name n o.name
  else if o.kind=9∨o.kind=10 then b.attr n o else b
inductive Itm where
 |old (k:Nat)
 |new (t:Tree)
def Rp (b:Bn) (k:Int):Itm→Prop
 | .old j=>k=(j:Int)
 | .new t=>∃m:Nat,k=(m:Int)∧b.n0≤m∧∃q,oc b.nodes m q t
def news (l:List Tree):List Itm:=l.map .new
def Vp (l:List Op) (k:Nat):List Itm:=news (gl l 3 k)++(if VA l 6 k then news (gl l 6 k) else if VA l 5 k then [] else [.old k])++news (gl l 4 k)
def Vm (l:List Op) (i:Nat) (y:Tree):List Itm:=
 if y.text then [] else if VA l 7 i then [.new (UR (Wi l i []))] else news (gl l 1 i)++(S6 (i+1) y.kids).flatMap (Vp l)++news (gl l 2 i)
structure Ze (t:Tree) (l:List Op) (b:Bn):Prop where
 n0:b.n0=t.jz
 le:b.n0≤b.nodes.length
 nd:∀i q y,Sub 0 (-1) t i q y→∃ks,b.nodes[i]?=some ⟨y.text,if y.text then Wi l i y.s else Wr l i y.s,Vb l i y.attrs,q,ks⟩∧iF (Rp b) ks (Vm l i y)
 fs:b.fs.length=t.jz∧∀i,i<t.jz→b.fs[i]?=some ((gl l 1 i).length:Int)
 az:b.az.length=t.jz∧∀i,i<t.jz→b.az[i]?=some ((gl l 4 i).length:Int)
def Ext (b b':Bn):Prop:=b'.n0=b.n0∧b.nodes.length≤b'.nodes.length∧∀m q tr,b.n0≤m→oc b.nodes m q tr→oc b'.nodes m q tr
theorem Rp.ext {b b':Bn} (h:Ext b b') {k:Int}:∀{x:Itm},Rp b k x→Rp b' k x
 | .old j,hx=>hx
 | .new t,⟨m,h1,h2,q,h3⟩=>⟨m,h1,by rw[h.1];exact h2,q,h.2.2 m q t h2 h3⟩
theorem V0 {α γ:Type} {R R':α→γ→Prop} (h:∀a b,R a b→R' a b):∀{l:List α} {m:List γ},iF R l m→iF R' l m
 |_,_,.nil=> .nil
 |_,_,.cons h1 h2=> .cons (h _ _ h1) (V0 h h2)
theorem XL {α γ:Type} {R:α→γ→Prop}:∀{l:List α} {m:List γ},iF R l m→l.length=m.length
 |_,_,.nil=>rfl
 |_,_,.cons _ h2=>by simp[XL h2]
theorem W8 {α γ:Type} {R:α→γ→Prop}:∀{l:List α} {m:List γ} {l':List α} {m':List γ},iF R l m→iF R l' m'→iF R (l++l') (m++m')
 |_,_,_,_,.nil,h=>h
 |_,_,_,_,.cons h1 h2,h=> .cons h1 (W8 h2 h)
theorem Zh {α γ:Type} {R:α→γ→Prop}:∀(n:Nat) {l:List α} {m:List γ},iF R l m→iF R (l.take n) (m.take n)
 |0,_,_,_=>by simp;exact .nil
 |n+1,_,_,.nil=>by simp;exact .nil
 |n+1,_,_,.cons h1 h2=>by simp only[Cj];exact .cons h1 (Zh n h2)
theorem Zi {α γ:Type} {R:α→γ→Prop}:∀(n:Nat) {l:List α} {m:List γ},iF R l m→iF R (l.drop n) (m.drop n)
 |0,_,_,h=>by simpa using h
 |n+1,_,_,.nil=>by simp;exact .nil
 |n+1,_,_,.cons h1 h2=>by simp only[A7];exact Zi n h2
theorem ac3 {α γ:Type} {R:α→γ→Prop}:∀{l:List α} {m:List γ},iF R l m→∀{i:Nat} {a:α} {b:γ},l[i]?=some a→m[i]?=some b→R a b
 |_,_,.nil,i,a,b,h,_=>by simp at h
 |_,_,.cons h1 h2,0,a,b,h,h'=>by simp at h h';subst h;subst h';exact h1
 |_,_,.cons h1 h2,i+1,a,b,h,h'=>ac3 h2 (by simpa using h) (by simpa using h')
theorem abG {b:Bn} (hn:b.n0≤b.nodes.length) (p:Nat) (L:List Tree):∀(pre:List Node) (off:Nat) (post:List Node) (L:List Tree),b.nodes=pre++akX off p L++post→pre.length=off→b.n0≤off→iF (Rp b) (mw off L) (news L)
 |_,_,_,[],_,_,_=> .nil
 |pre,off,post,x::r,h,hl,ho=>by
  simp only[mw,news,o2];refine .cons ⟨off,rfl,ho,p,akX (off+x.jz) p r++post,?_⟩ ?_
  ·rw[h,yo,Gk tM,Ls tM,List.nil_append];simp[akX]
  refine abG hn p L (pre++x.flat off p) (off+x.jz) post r ?_ ?_ tM
  ·rw[h];simp[akX]
  rw[ko,hl,x.j9]
end Go.Am
