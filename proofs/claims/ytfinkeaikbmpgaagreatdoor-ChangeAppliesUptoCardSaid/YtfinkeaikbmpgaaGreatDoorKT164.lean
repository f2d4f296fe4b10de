import Derived.Test.YtfinkeaikbmpgaaGreatDoorKT94
import Derived.Test.YtfinkeaikbmpgaaGreatDoorKT90
import Derived.Test.YtfinkeaikbmpgaaGreatDoorKC7
set_option linter.unusedSimpArgs false
set_option linter.unusedVariables false
set_option linter.unnecessarySimpa false
set_option linter.defProp false
/- topiaryref.turned: what stands where a node stood. -/
set_option maxRecDepth 20000
namespace Go.Am
open Go Go.RowKit
section
variable {P:Program} {G:Nat→Option (List IV)}
def OfC (P:Program) (G:Nat→Option (List IV)) (f:Nat) (l:List Op):Prop:=∀(k:Int) (n:Nat),n≤B→akr P G f [.list (l.map Op.iv),.int .i64 k,.int .i64 (n:Int)] (ofV l k n) 4 (dq (gl l k n))
def ajE (o:Op):ajs (some o)=o.as:=rfl
def ajj (ai4:Nat):AC:=
(aM [MR 192 1,MR 193 2,aQ 194 (.call ai4 [(.t 192),(jS 3),(.t 193)]),MR 191 194,ox 195 191 0,ox 196 191 1,ox 197 191 2,aQ 32 (.new [(.int .i64 0),(.int .i64 0),.nil0,(.str []),(.str [])]),MR 30 195,MR 31 196,gg (.store 5 (.t 32) (.t 197))] (aM [MR 199 1,MR 200 2,aQ 201 (.call ai4 [(.t 199),(jS 4),(.t 200)]),MR 198 201,ox 202 198 0,ox 203 198 1,ox 204 198 2,aQ 35 (.new [(.int .i64 0),(.int .i64 0),.nil0,(.str []),(.str [])]),MR 33 202,MR 34 203,gg (.store 5 (.t 35) (.t 204))] (aM [MR 206 1,MR 207 2,aQ 208 (.call ai4 [(.t 206),(jS 6),(.t 207)]),MR 205 208,ox 209 205 0,ox 210 205 1,ox 211 205 2,aQ 38 (.new [(.int .i64 0),(.int .i64 0),.nil0,(.str []),(.str [])]),MR 36 209,MR 37 210,gg (.store 5 (.t 38) (.t 211))] (aM [MR 213 1,MR 214 2,aQ 215 (.call ai4 [(.t 213),(jS 5),(.t 214)]),MR 212 215,ox 216 212 0,ox 217 212 1,ox 218 212 2,aQ 41 (.new [(.int .i64 0),(.int .i64 0),.nil0,(.str []),(.str [])]),MR 39 216,MR 40 217,gg (.store 5 (.t 41) (.t 218))] (aM [MR 219 30,MR 42 219] (.seq (.block 8 (aM [MR 221 37,MR 220 221] (.cond (.t 220) (.cq [MR 222 42,MR 223 36,aQ 224 (.app (.t 222) (.t 223) 4 72),MR 42 224]) (aM [MR 226 40,sB 227 226,MR 225 227] (.cond (.t 225) (.cq [MR 228 42,gz 229 4 8,aQ 230 (.lits 1 4 [(.bool false),(.str []),.nil0,.nil0] [(0,(.t 229))]),aQ 231 (.app (.t 228) (.t 230) 4 72),MR 42 231]) .skip))))) (aM [MR 232 42,MR 233 33,aQ 234 (.app (.t 232) (.t 233) 4 72),MR 6 234] (.gh (.zS (.loc 234) 6) .ret))))))))
def ajk:AC:=
(.seq (aM [ep 117 8 2,fm 118 117,oy 119 118,gH 120 0] (.block 4 (.loop (aM [et 121 .lss 120 119] (.seq (.cond (.t 121) .skip (.exit 4)) (.seq (.block 5 (aM [jL 122 118 120 2,gz 123 2 122,aQ 21 (.new [(.str []),(.str [])]),gg (.store 2 (.t 21) (.t 123))] (aM [ep 124 21 0,fm 125 124,ep 126 16 3,fm 127 126,et 128 .gtr 125 127] (.cond (.t 128) (.cq [MR 129 17,gz 130 2 21,aQ 131 (.lits 1 2 [(.str []),(.str [])] [(0,(.t 130))]),aQ 132 (.app (.t 129) (.t 131) 2 32),MR 17 132]) .skip)))) (.cq [eY 133 .add 120 1,MR 120 133]))))))) (.gh (.zS (.loc 17) 17) (.cq [MR 134 17,ep 135 8 2,gg (.store 1 (.t 135) (.t 134))])))
def ajl:AC:=
(.seq (aM [ep 89 8 2,fm 90 89,oy 91 90,gH 92 0] (.block 2 (.loop (aM [et 93 .lss 92 91] (.seq (.cond (.t 93) .skip (.exit 2)) (.seq (.block 3 (aM [jL 94 90 92 2,gz 95 2 94,aQ 19 (.new [(.str []),(.str [])]),gg (.store 2 (.t 19) (.t 95))] (aM [ep 96 19 0,fm 97 96,ep 98 16 3,fm 99 98,et 100 .lss 97 99] (.cond (.t 100) (.cq [MR 101 17,gz 102 2 19,aQ 103 (.lits 1 2 [(.str []),(.str [])] [(0,(.t 102))]),aQ 104 (.app (.t 101) (.t 103) 2 32),MR 17 104]) .skip)))) (.cq [eY 105 .add 92 1,MR 92 105]))))))) (.seq (aM [ep 106 16 0,fm 107 106,eY 108 .eql 107 9] (.cond (.t 108) (.cq [MR 109 17,ep 110 16 3,fm 111 110,ep 112 16 4,fm 113 112,aQ 114 (.sg [(.str []),(.str [])] [(0,(1,(.t 111))),(1,(1,(.t 113)))]),aQ 115 (.lits 1 2 [(.str []),(.str [])] [(0,(.t 114))]),aQ 116 (.app (.t 109) (.t 115) 2 32),MR 17 116]) .skip)) (.gh .vk ajk)))
def ajc (ai4 gL:Nat):AC:=
(.seq (aM [MR 74 1,oy 75 74,gH 76 0] (.block 0 (.loop (aM [et 77 .lss 76 75] (.seq (.cond (.t 77) .skip (.exit 0)) (.seq (.block 1 (aM [jL 78 74 76 5,gz 79 5 78,aQ 16 (.new [(.int .i64 0),(.int .i64 0),.nil0,(.str []),(.str [])]),gg (.store 5 (.t 16) (.t 79))] (.seq (aM [ep 80 16 1,fm 81 80,MR 82 2,et 83 .neq 81 82,MR 84 83,oH 85 84 16 0,oG 86 84 85,iR 87 84 (.bin .lss (.t 86) (jS 9)),sj 88 84 87] (.cond (.t 88) (.exit 1) .skip)) (aM [zi 17] (.gh (.own 17 2) (.gh .vk ajl)))))) (.cq [eY 136 .add 76 1,MR 76 136]))))))) (.seq (aM [ep 137 7 0,fm 138 137,MR 139 138,cU 140 139 10,jT 141 139 140] (.cond (.t 141) (.cq [ep 142 11 4,fm 143 142,ep 144 8 1,gg (.store 1 (.t 144) (.t 143))]) .skip)) (.seq (aM [ep 145 7 0,fm 146 145,sB 147 146] (.cond (.t 147) (aM [MR 149 1,MR 150 2,aQ 151 (.call ai4 [(.t 149),(jS 1),(.t 150)]),MR 148 151,ox 152 148 0,ox 153 148 1,ox 154 148 2,aQ 24 (.new [(.int .i64 0),(.int .i64 0),.nil0,(.str []),(.str [])]),MR 22 152,MR 23 153,gg (.store 5 (.t 24) (.t 154))] (aM [MR 156 1,MR 157 2,aQ 158 (.call ai4 [(.t 156),(jS 2),(.t 157)]),MR 155 158,ox 159 155 0,ox 160 155 1,ox 161 155 2,aQ 27 (.new [(.int .i64 0),(.int .i64 0),.nil0,(.str []),(.str [])]),MR 25 159,MR 26 160,gg (.store 5 (.t 27) (.t 161))] (aM [MR 162 22,ep 163 8 3,gg (.store 1 (.t 163) (.t 162))] (.seq (aM [ep 164 7 4,fm 165 164,oy 166 165,gH 167 0] (.block 6 (.loop (aM [et 168 .lss 167 166] (.seq (.cond (.t 168) .skip (.exit 6)) (.seq (.block 7 (aM [jL 169 165 167 1,fm 170 169,MR 29 170] (.VL [ep 171 8 3,fm 172 171,gz 173 1 3,MR 174 1,MR 175 29,aQ 176 (.call gL [(.t 173),(.t 174),(.t 175)]),aQ 177 (.app (.t 172) (.t 176) 4 72),ep 178 8 3,gg (.store 1 (.t 178) (.t 177))] [[],[0],[],[],[],[2,3,4],[1,5,5],[0,1,2,3,4,5,6],[7,6,6,0,1,2,3,4,5,6]] [.no,.rw [.loc 8] [],.rw [.loc 3] [],.no,.no,.no,(.rw [] [(.loc 1000),(.loc 177)]),.no,.rw [] [.loc 8]]))) (.cq [eY 179 .add 167 1,MR 167 179]))))))) (aM [ep 180 8 3,fm 181 180,MR 182 25,aQ 183 (.app (.t 181) (.t 182) 4 72),ep 184 8 3,gg (.store 1 (.t 184) (.t 183))] (.gh (.xd (.loc 183) (.loc 8) 3) (aM [MR 185 10] (.cond (.t 185) (.cq [ep 186 11 4,fm 187 186,aQ 188 (.sg [(.bool false),(.str []),.nil0,.nil0] [(0,(1,(me true))),(1,(1,(.t 187)))]),aQ 189 (.lits 1 4 [(.bool false),(.str []),.nil0,.nil0] [(0,(.t 188))]),ep 190 8 3,gg (.store 1 (.t 190) (.t 189))]) .skip)))))))) .skip)) (.gh .vk (ajj ai4)))))
def ai_ (ai4 gL:Nat):AC:=
(aM [sC 3 0,zi 6] (aM [ep 43 3 0,fm 44 43,MR 45 2,jL 46 44 45 5,gz 47 5 46,aQ 7 (.new [(.bool false),(.str []),.nil0,(.int .i64 0),.nil0]),gg (.store 5 (.t 7) (.t 47))] (.seq (.VL [ep 48 7 0,fm 49 48,ep 50 7 1,fm 51 50,ep 52 7 2,fm 53 52,aQ 54 (.app (.c .nil0) (.t 53) 2 32),aQ 55 (.sg [(.bool false),(.str []),.nil0,.nil0] [(0,(1,(.t 49))),(1,(1,(.t 51))),(2,(1,(.t 54)))]),aQ 8 (.new [(.bool false),(.str []),.nil0,.nil0]),gg (.store 4 (.t 8) (.t 55))] [[],[0],[],[2],[],[4],[5],[1,3,6],[],[8,7,6,0,1,2,3,4,5,6,7,8]] [.no,.rw [.loc 7] [],.no,.rw [.loc 7] [],.no,.rw [.loc 7] [],.rw [] [.loc 54],.no,.rw [] [.loc 8],.rw [] [.loc 8]]) (.gh (.xd (.loc 54) (.loc 8) 2) (aM [MR 57 1,MR 58 2,aQ 59 (.call ai4 [(.t 57),(jS 7),(.t 58)]),MR 56 59,ox 60 56 0,ox 61 56 1,ox 62 56 2,aQ 11 (.new [(.int .i64 0),(.int .i64 0),.nil0,(.str []),(.str [])]),MR 9 60,MR 10 61,gg (.store 5 (.t 11) (.t 62))] (.seq (aM [MR 64 1,MR 65 2,aQ 66 (.call ai4 [(.t 64),(jS 8),(.t 65)]),MR 63 66,ox 67 63 0,ox 68 63 1,ox 69 63 2,aQ 14 (.new [(.int .i64 0),(.int .i64 0),.nil0,(.str []),(.str [])]),MR 12 67,MR 13 68,gg (.store 5 (.t 14) (.t 69))] (aM [MR 70 13] (.cond (.t 70) (.cq [ep 71 14 3,fm 72 71,ep 73 8 1,gg (.store 1 (.t 73) (.t 72))]) .skip))) (.gh .vk (ajc ai4 gL))))))))
def aj6 {ai4:Nat} (y:Tree) (l:List Op) (n:Nat) (kv:AV) (hl:l.length≤B) (hw:ZK l≤B) (hn:n≤B) (hb:dE (y.YL l n)≤B)
  (hkv:kv= .list (dq (y.V5 l n).kids)∨(kv= .nil0∧(y.V5 l n).kids=[])) (hO:OfC P G ai4 l) :
  go ⟨P,G,235⟩ (fX [(none,6)] fun x _=>x= .list (dq (y.YL l n))) [.code (ajj ai4)] (o9 [(1,.list (l.map Op.iv)),(2,.int .i64 (n:Int)),(8,.ptr (.loc 8) 4 0 0)])
   (ie (fun _=>false) [(.loc 8,⟨4,[[.bool y.text,.str (y.V5 l n).s,.list (cD (y.V5 l n).attrs),kv]]⟩)]):=by
 have zo:B=1073741824:=rfl;rw[Cf];unfold ajj;simp only[↓aX,mX,seval,cF,bW];refine ajm 194 (hO 3 n hn) (by simp[ah,AV.an]) (fun l=>by simp[ae,Hp.none,NW]) fun l3=> ?_;simp only[↓aX,mX,seval,ofV,NW,ajf,ajo,aji,ajh,bm];refine ajm 201 (hO 4 n hn) (by simp[ah,AV.an]) (fun l=>by simp[ae,Hp.none,NW]) fun l4=> ?_;simp only[↓aX,mX,seval,ofV,NW,ajf,ajo,aji,ajh,bm];refine ajm 208 (hO 6 n hn) (by simp[ah,AV.an]) (fun l=>by simp[ae,Hp.none,NW]) fun l6=> ?_;simp only[↓aX,mX,seval,ofV,NW,ajf,ajo,aji,ajh,bm];refine ajm 215 (hO 5 n hn) (by simp[ah,AV.an]) (fun l=>by simp[ae,Hp.none,NW]) fun l5=> ?_;simp only[↓aX,mX,seval,ofV,NW,ajf,ajo,aji,ajh,bm];have htw:dE (y.YL l n)=dE (gl l 3 n)+dE (if VA l 6 n then gl l 6 n else if VA l 5 n then [] else [y.V5 l n])+dE (gl l 4 n):=by rw[Tree.afW,kn,kn]
 have w3:=eZ (gl l 3 n);have w6:=eZ (gl l 6 n);have w4:=eZ (gl l 4 n);cases h6:VA l 6 n with
 |true=>
  simp only[h6,eT] at htw;simp only[↓aX,mX,seval];rw[ajx (ys:=dq (gl l 6 n)) (xs:=dq (gl l 3 n)) (ajB (by simp[ae,NW]) (by rw[bF])) (by simp[ae,NW]) (by rw[bF]) rfl (pa _) (by rw[bF];omega) (by decide) (by simp) (by simp[ae,Hp.none])];simp only[↓aX,mX,seval];rw[ajx (ys:=dq (gl l 4 n)) (xs:=dq (gl l 3 n)++dq (gl l 6 n)) (ajB (by simp[ae,NW]) (by rw[bF])) (by simp[ae,NW]) (by simp[bF]) rfl (pa _) (by simp only[bF];omega) (by decide) (by simp) (by simp[ae,Hp.none])];simp only[↓aX,mX,seval];refine⟨4,dq (y.YL l n),0,_,rfl,by rw[Tree.afW,h6];simp[ae,qh],by rw[Tree.afW,h6];simp[bF];omega,pa _,?_⟩;simp only[↓aX,mX,seval,e_];rw[bo (by rw[Tree.afW,h6];simp[bF];omega)]
 |false=>
 simp only[h6,ic,fH] at htw;simp only[↓aX,mX,seval];cases h5:VA l 5 n with
 |true=>
  simp only[h5,eT] at htw;simp only[↓aX,mX,seval,h5,bG];rw[ajx (ys:=dq (gl l 4 n)) (xs:=dq (gl l 3 n)) (ajB (by simp[ae,NW]) (by rw[bF])) (by simp[ae,NW]) (by rw[bF]) rfl (pa _) (by rw[bF];omega) (by decide) (by simp) (by simp[ae,Hp.none])];simp only[↓aX,mX,seval];refine⟨4,dq (y.YL l n),0,_,rfl,by rw[Tree.afW,h6,h5];simp[ae,qh],by rw[Tree.afW,h6,h5];simp[bF],pa _,?_⟩;simp only[↓aX,mX,seval,e_];rw[bo (by rw[Tree.afW,h6,h5];simp[bF])]
 |false=>
 simp only[h5,ic,fH] at htw;have wT:[IV.agg [.bool y.text,.str (y.V5 l n).s,.list (cD (y.V5 l n).attrs),.list (dq (y.V5 l n).kids)]]=dq [y.V5 l n]:=by simp[dq,Tree.o_,Tree.cs];rfl
 have h1t:=(y.V5 l n).gx;simp only[dE] at htw;have hT:y.YL l n=gl l 3 n++[y.V5 l n]++gl l 4 n:=by rw[Tree.afW,h6,h5];rfl
 rcases hkv with rfl|⟨rfl,sr⟩
 ·simp only[↓aX,mX,seval,h5,bx];rw[wT];rw[ajx (ys:=dq [y.V5 l n]) (xs:=dq (gl l 3 n)) (o7 (lT _)) (by simp[ae,NW]) (by rw[bF]) rfl (pa _) (by rw[bF];simp only[vX];omega) (by decide) (by simp) (by simp[ae,Hp.none])];simp only[↓aX,mX,seval];rw[ajx (ys:=dq (gl l 4 n)) (xs:=dq (gl l 3 n)++dq [y.V5 l n]) (ajB (by simp[ae,NW]) (by rw[bF])) (by simp[ae,NW]) (by simp[bF]) rfl (pa _) (by simp only[bF,vX];omega) (by decide) (by simp) (by simp[ae,Hp.none])];simp only[↓aX,mX,seval];refine⟨4,dq (y.YL l n),0,_,rfl,by rw[hT,qh,qh],by rw[hT];simp[bF];omega,pa _,?_⟩;simp only[↓aX,mX,seval,e_];rw[bo (by rw[Tree.afW,h6,h5];simp[bF];omega)]
 rw[sr] at wT;rw[show dq ([]:List Tree)=[] from rfl] at wT;simp only[↓aX,mX,seval,h5,bx];rw[wT];rw[ajx (ys:=dq [y.V5 l n]) (xs:=dq (gl l 3 n)) (o7 (lT _)) (by simp[ae,NW]) (by rw[bF]) rfl (pa _) (by rw[bF];simp only[vX];omega) (by decide) (by simp) (by simp[ae,Hp.none])];simp only[↓aX,mX,seval];rw[ajx (ys:=dq (gl l 4 n)) (xs:=dq (gl l 3 n)++dq [y.V5 l n]) (ajB (by simp[ae,NW]) (by rw[bF])) (by simp[ae,NW]) (by simp[bF]) rfl (pa _) (by simp only[bF,vX];omega) (by decide) (by simp) (by simp[ae,Hp.none])];simp only[↓aX,mX,seval];refine⟨4,dq (y.YL l n),0,_,rfl,by rw[hT,qh,qh],by rw[hT];simp[bF];omega,pa _,?_⟩;simp only[↓aX,mX,seval,e_];rw[bo (by rw[Tree.afW,h6,h5];simp[bF];omega)]
def ai' (t:Tree) (l:List Op) (n:Nat) (q:Int) (y:Tree) (az:List Attr) (kv:AV:= .nil0):List (Lb×Row):=
 [(.loc 3,⟨1,[[.list ((lW t).map Node.iv)]]⟩),(.loc 7,⟨5,[[.bool y.text,.str y.s,.list (cD y.attrs),.int .i64 q,.list ((mw (n+1) y.kids).map xX)]]⟩),(.loc 8,⟨4,[[.bool y.text,.str (Wr l n y.s), .list (cD az),kv]]⟩),(.loc 11,⟨5,[ajs (ofK l 7 n).getLast?]⟩)]
def aje (l:List Op) (n:Nat):List (Nat×AV):=[(1,.list (l.map Op.iv)),(2,.int .i64 (n:Int)),(3,.ptr (.loc 3) 1 0 0),(7,.ptr (.loc 7) 5 0 0),(8,.ptr (.loc 8) 4 0 0),(10,.bool (VA l 7 n)),(11,.ptr (.loc 11) 5 0 0)]
def ajI (t:Tree) (l:List Op) (n:Nat) (q:Int) (y:Tree) (az:List Attr):∀r∈ai' t l n q y az,∀cs∈r.2.els,∀z∈ah cs,z∈[Lb.loc 3,.loc 7,.loc 8,.loc 11]:=by
 rintro r hr cs bV l' kR;simp only[ai',bb,b5,b7] at hr;rcases hr with rfl|rfl|rfl|rfl<;>simp only[aW] at bV<;>subst bV
 ·simp[ah,AV.an] at kR
 ·simp[ah,AV.an] at kR
 ·simp[ah,AV.an] at kR
 rw[ajz] at kR;simp at kR
def ajA (t:Tree) (l:List Op) (n:Nat) (q:Int) (y:Tree) (az:List Attr) (o:Op) {σ:Type} (f:σ→List Attr):∀s,∀r∈ai' t l n q y az++[(.loc 16,⟨5,[o.as]⟩),(.loc 17,⟨2,aB (cD (f s))⟩)],∀cs∈r.2.els,∀z∈ah cs,z∈[Lb.loc 3,.loc 7,.loc 8,.loc 11,.loc 16,.loc 17]:=by
 rintro s r hr cs bV l' kR;rcases aY.1 hr with hr|hr
 ·exact List.mem_append_left [.loc 16,.loc 17] (ajI t l n q y az r hr cs bV l' kR)
 simp only[bb,b5,b7] at hr;rcases hr with rfl|rfl
 ·simp only[aW] at bV;subst bV;simp[ah,AV.an,Op.as] at kR
 rw[bU bV] at kR;simp at kR
def ajT {Q:gI} {k:List It} (t:Tree) (l:List Op) (n:Nat) (q:Int) (y:Tree) (i:Nat) (o:Op) (pre az:List Attr) (hB:pre.length+az.length≤4294967296)
  (hk:∀env H,WU [.loc 3,.loc 7,.loc 8,.loc 11] (fun _=>false) (aje l n++[(74,.list (l.map Op.iv)),(75,.int .i64 l.length),(76,.int .i64 i)]) (ai' t l n q y (pre++az.filter fun a=>Op.bytesLess o.name a.name)) env H []→go ⟨P,G,235⟩ Q k env H) :
  go ⟨P,G,235⟩ Q (.code ajk::k) (o9 (aje l n++[(16,.ptr (.loc 16) 5 0 0),(17,.sl (.loc 17) 2 0 pre.length),(74,.list (l.map Op.iv)),(75,.int .i64 l.length),(76,.int .i64 i)]))
   (ie (fun _=>false) (ai' t l n q y az++[(.loc 16,⟨5,[o.as]⟩),(.loc 17,⟨2,aB (cD pre)⟩)])):=by
 have zo:B=1073741824:=rfl;rw[Cf];unfold ajk aje ai';simp only[↓aX,mX,seval,cF,bW,List.cons_append,List.nil_append,bp];refine pe (σ:={j:Nat // j≤az.length}) (fun _=>[.loc 3,.loc 7,.loc 8,.loc 11,.loc 16,.loc 17]) (fun _ _=>false)
  (fun s=>aje l n++[(16,.ptr (.loc 16) 5 0 0),(17,.sl (.loc 17) 2 0 (pre++(az.take s.1).filter fun a=>Op.bytesLess o.name a.name).length),(74,.list (l.map Op.iv)),(75,.int .i64 l.length),(76,.int .i64 i),(118,.list (cD az)),(119,.int .i64 az.length),(120,.int .i64 s.1)])
  (fun s=>ai' t l n q y az++[(.loc 16,⟨5,[o.as]⟩),(.loc 17,⟨2,aB (cD (pre++(az.take s.1).filter fun a=>Op.bytesLess o.name a.name))⟩)]) (fun s=>az.length - s.1) ⟨0,by simp⟩ (fun _=>rfl) (fun s=>by simp[ah,AV.an,aje]) ?_ ⟨[],?_⟩ ?_
 ·exact ajA t l n q y az o _
 ·refine⟨?_,?_,?_,by simp[dn],fun l _=>⟨id,fun _=>rfl⟩⟩
  ·intro l' hf hu;refine absurd ?_ hu;simp[afy,hf,Lb.fresh,Hp.none]
  ·simp[k_,dn,bJ,put,o9,aje]
  simp[tc,ai',dn,ae,dO,bu,bJ,ai8,ajg,Op.as]
 rintro⟨j,hj⟩;rw[Cf];unfold aje ai';simp only[↓aX,mX,seval,cF,bW,List.cons_append,List.nil_append,bp];by_cases bI:j<az.length
 ·rw[show decide ((j:Int)<(az.length:Int))=true by simpa using bI];obtain⟨a,ha⟩:∃a,az[j]?=some a:=⟨_,aC bI⟩;have pU:IntKind.i64.wrap ((j:Int)+1)=((j+1:Nat):Int):=wrap64 (by omega) (by omega);have E0:az.take (j+1)=az.take j++[a]:=Vl ha;have akF:((az.take j).filter fun a=>Op.bytesLess o.name a.name).length≤az.length:=gU (List.length_filter_le _ _) (by rw[cT];omega);simp only[↓aX,mX,seval,lS,ha,bT,rq,Attr.cJ,Attr.cs,Op.as,D7];cases hg:Op.bytesLess o.name a.name with
  |true=>
   simp only[↓aX,mX,seval,bG,bx];rw[qg 2 32 132 17 (cD (pre++(az.take j).filter fun a=>Op.bytesLess o.name a.name)) (.agg [.str a.name,.str a.val]) (by simp[ae]) (by rw[bp]) rfl (by simp[IV.cells]) (by rw[cy];omega) (by decide) (by decide) (by simp[ae,Hp.none])];simp only[↓aX,mX,seval,pU];have e1:pre++(az.take (j+1)).filter (fun a=>Op.bytesLess o.name a.name)=pre++(az.take j).filter (fun a=>Op.bytesLess o.name a.name)++[a]:=(by rw[E0,nj];simp[hg]);refine⟨⟨j+1,bI⟩,by simp only;omega,[(.loc 17,.loc 132)],?_,?_,?_,by simp[dn],?_⟩
   ·intro l' hf hu;refine absurd ?_ hu;simp[afy,hf,Lb.fresh,Hp.none]
   ·simp[k_,dn,bJ,put,o9,aje,e1];omega
   ·have e2:cD (pre++(az.take j).filter (fun a=>Op.bytesLess o.name a.name))++[.agg [.str a.name,.str a.val]]=cD (pre++(az.take (j+1)).filter (fun a=>Op.bytesLess o.name a.name)):=(by rw[e1];simp[cD,Attr.iv,Attr.cs]);rw[e2];simp[tc,ai',dn,ae,dO,bu,bJ,ai8,Op.as,ajg]
   intro z hz;simp only[bb,b5,b7] at hz;rcases hz with rfl|rfl|rfl|rfl|rfl|rfl<;>simp[dn,Lb.fresh]
  |false=>
  simp only[↓aX,mX,seval,bG,bx,pU];have e1:pre++(az.take (j+1)).filter (fun a=>Op.bytesLess o.name a.name)=pre++(az.take j).filter (fun a=>Op.bytesLess o.name a.name):=by rw[E0,nj];simp[hg]
  refine⟨⟨j+1,bI⟩,by simp only;omega,[],?_,?_,?_,by simp[dn],fun l _=>⟨id,fun _=>rfl⟩⟩
  ·intro l' hf hu;refine absurd ?_ hu;simp[afy,hf,Lb.fresh,Hp.none]
  ·simp[k_,dn,bJ,put,o9,aje,e1]
  simp[tc,ai',dn,ae,dO,bu,bJ,ai8,Op.as,e1,ajg]
 rw[show decide ((j:Int)<(az.length:Int))=false by simpa using bI];have:j=az.length:=by omega
 subst this;simp only[↓aX,mX,seval,ea];refine⟨2,cD (pre++az.filter fun a=>Op.bytesLess o.name a.name),0,_,rfl,rfl,by rw[bp];omega,nW _,?_⟩;have BY:((cD (pre++az.filter fun a=>Op.bytesLess o.name a.name)).drop 0).take (pre++az.filter fun a=>Op.bytesLess o.name a.name).length=cD (pre++az.filter fun a=>Op.bytesLess o.name a.name):=by rw[e_];exact bo (by rw[bp];exact bm _)
 simp only[↓aX,mX,seval,BY];refine hk _ _ ⟨?_,?_,?_,by simp[dn],fun l _=>⟨id,fun _=>rfl⟩⟩
 ·intro l' hf hu;refine absurd ?_ hu;simp[afy,hf,Lb.fresh,Hp.none]
 ·simp[k_,dn,bJ,put,o9,aje]
 rw[e_] at BY;simp only[cy] at BY;simp[tc,ai',dn,ae,dO,bu,bJ,ai8,BY]
set_option maxHeartbeats 800000 in
def akg {Q:gI} {k:List It} (t:Tree) (l:List Op) (n:Nat) (q:Int) (y:Tree) (i:Nat) (o:Op) (az:List Attr) (akC:az.length+1≤B) (aku:l_ az=true) (hk9:9≤o.kind) (akD:o.kind≤10)
  (hk:∀env H,WU [.loc 3,.loc 7,.loc 8,.loc 11] (fun _=>false) (aje l n++[(74,.list (l.map Op.iv)),(75,.int .i64 l.length),(76,.int .i64 i)]) (ai' t l n q y (TV az o)) env H []→go ⟨P,G,235⟩ Q k env H) :
  go ⟨P,G,235⟩ Q (.code ajl::k) (o9 (aje l n++[(16,.ptr (.loc 16) 5 0 0),(17,.sl (.loc 17) 2 0 0),(74,.list (l.map Op.iv)),(75,.int .i64 l.length),(76,.int .i64 i)]))
   (ie (fun _=>false) (ai' t l n q y az++[(.loc 16,⟨5,[o.as]⟩),(.loc 17,⟨2,aB (cD [])⟩)])):=by
 have zo:B=1073741824:=rfl;rw[Cf];unfold ajl aje ai';simp only[↓aX,mX,seval,cF,bW,List.cons_append,List.nil_append,bp];refine pe (σ:={j:Nat // j≤az.length}) (fun _=>[.loc 3,.loc 7,.loc 8,.loc 11,.loc 16,.loc 17]) (fun _ _=>false)
  (fun s=>aje l n++[(16,.ptr (.loc 16) 5 0 0),(17,.sl (.loc 17) 2 0 ((az.take s.1).filter fun a=>Op.bytesLess a.name o.name).length),(74,.list (l.map Op.iv)),(75,.int .i64 l.length),(76,.int .i64 i),(90,.list (cD az)),(91,.int .i64 az.length),(92,.int .i64 s.1)])
  (fun s=>ai' t l n q y az++[(.loc 16,⟨5,[o.as]⟩),(.loc 17,⟨2,aB (cD ((az.take s.1).filter fun a=>Op.bytesLess a.name o.name))⟩)]) (fun s=>az.length - s.1) ⟨0,by simp⟩ (fun _=>rfl) (fun s=>by simp[ah,AV.an,aje]) ?_ ⟨[],?_⟩ ?_
 ·exact ajA t l n q y az o _
 ·refine⟨?_,?_,?_,by simp[dn],fun l _=>⟨id,fun _=>rfl⟩⟩
  ·intro l' hf hu;refine absurd ?_ hu;simp[afy,hf,Lb.fresh,Hp.none]
  ·simp[k_,dn,bJ,put,o9,aje]
  simp[tc,ai',dn,ae,dO,bu,bJ,ai8,ajg,Op.as]
 rintro⟨j,hj⟩;rw[Cf];unfold aje ai';simp only[↓aX,mX,seval,cF,bW,List.cons_append,List.nil_append,bp];by_cases zk:j<az.length
 ·rw[show decide ((j:Int)<(az.length:Int))=true by simpa using zk];obtain⟨a,ha⟩:∃a,az[j]?=some a:=⟨_,List.getElem?_eq_getElem zk⟩;have wB:IntKind.i64.wrap ((j:Int)+1)=((j+1:Nat):Int):=wrap64 (by omega) (by omega);have akE:az.take (j+1)=az.take j++[a]:=Vl ha;have akF:((az.take j).filter fun a=>Op.bytesLess a.name o.name).length≤az.length:=Nat.le_trans (List.length_filter_le _ _) (by rw[List.length_take];omega);simp only[↓aX,mX,seval,lS,ha,Option.map_some,rq,Attr.cJ,Attr.cs,Op.as];cases hg:Op.bytesLess a.name o.name with
  |true=>
   simp only[↓aX,mX,seval,hg];rw[qg 2 32 104 17 (cD ((az.take j).filter fun a=>Op.bytesLess a.name o.name)) (.agg [.str a.name,.str a.val]) (by simp[ae]) (by rw[bp]) rfl (by simp[IV.cells]) (by omega) (by decide) (by decide) (by simp[ae,Hp.none])];simp only[↓aX,mX,seval,wB];have e3:(az.take (j+1)).filter (fun a=>Op.bytesLess a.name o.name)=(az.take j).filter (fun a=>Op.bytesLess a.name o.name)++[a]:=(by rw[akE,List.filter_append];simp[hg]);refine⟨⟨j+1,zk⟩,by simp only;omega,[(.loc 17,.loc 104)],?_,?_,?_,by simp[dn],?_⟩
   ·intro l' hf hu;refine absurd ?_ hu;simp[afy,hf,Lb.fresh,Hp.none]
   ·simp[k_,dn,bJ,put,o9,aje,e3]
   ·have e2:cD ((az.take j).filter (fun a=>Op.bytesLess a.name o.name))++[.agg [.str a.name,.str a.val]]=cD ((az.take (j+1)).filter (fun a=>Op.bytesLess a.name o.name)):=(by rw[e3];simp[cD,Attr.iv,Attr.cs]);rw[e2];simp[tc,ai',dn,ae,dO,bu,bJ,ai8,Op.as,ajg]
   intro z hz;simp only[List.mem_cons,List.not_mem_nil,or_false] at hz;rcases hz with rfl|rfl|rfl|rfl|rfl|rfl<;>simp[dn,Lb.fresh]
  |false=>
  simp only[↓aX,mX,seval,hg,wB];have e3:(az.take (j+1)).filter (fun a=>Op.bytesLess a.name o.name)=(az.take j).filter (fun a=>Op.bytesLess a.name o.name):=by rw[akE,List.filter_append];simp[hg]
  refine⟨⟨j+1,zk⟩,by simp only;omega,[],?_,?_,?_,by simp[dn],fun l _=>⟨id,fun _=>rfl⟩⟩
  ·intro l' hf hu;refine absurd ?_ hu;simp[afy,hf,Lb.fresh,Hp.none]
  ·simp[k_,dn,bJ,put,o9,aje,e3]
  simp[tc,ai',dn,ae,dO,bu,bJ,ai8,Op.as,e3,ajg]
 rw[show decide ((j:Int)<(az.length:Int))=false by simpa using zk];have:j=az.length:=by omega
 subst this;have FO:(az.filter fun a=>Op.bytesLess a.name o.name).length≤az.length:=List.length_filter_le _ _;simp only[↓aX,mX,seval,List.take_length,Op.as];cases hke:(o.kind==9) with
 |true=>
  have e5:TV az o=((az.filter fun a=>Op.bytesLess a.name o.name)++[⟨o.name,o.s⟩])++az.filter fun a=>Op.bytesLess o.name a.name:=by
   rw[aeN aku,if_neg (by simp at hke;omega)];unfold afV;simp
  have hk5:=hk;rw[e5] at hk5;have hB4:((az.filter fun a=>Op.bytesLess a.name o.name)++[(⟨o.name,o.s⟩:Attr)]).length+az.length≤4294967296:=by rw[List.length_append,List.length_singleton];omega
  simp only[↓aX,mX,seval,hke];rw[qg 2 32 116 17 (cD (az.filter fun a=>Op.bytesLess a.name o.name)) (.agg [.str o.name,.str o.s]) (by simp[ae]) (by rw[bp]) rfl (by simp[IV.cells]) (by omega) (by decide) (by decide) (by simp[ae,Hp.none])];have e4:cD (az.filter (fun a=>Op.bytesLess a.name o.name))++[.agg [.str o.name,.str o.s]]=cD ((az.filter fun a=>Op.bytesLess a.name o.name)++[⟨o.name,o.s⟩]):=by simp[cD,Attr.iv,Attr.cs]
  rw[e4];simp only[↓aX,mX,seval];have T2:=ajT (P:=P) (G:=G) (Q:=Q) (k:=k) t l n q y i o ((az.filter fun a=>Op.bytesLess a.name o.name)++[(⟨o.name,o.s⟩:Attr)]) az hB4 hk5;refine aaT [.loc 3,.loc 7,.loc 8,.loc 11,.loc 16,.loc 17] (fun _=>false) _ _ rfl (by simp[ah,AV.an,aje]) (ajA t l n q y az o (fun _=>((az.filter fun a=>Op.bytesLess a.name o.name)++[(⟨o.name,o.s⟩:Attr)])) ()) ⟨[(.loc 17,.loc 116)],?_,?_,?_,by simp[dn],?_⟩ T2
  ·intro l' hf hu;refine absurd ?_ hu;simp[afy,hf,Lb.fresh,Hp.none]
  ·simp[k_,dn,bJ,put,o9,aje]
  ·simp[tc,ai',dn,ae,dO,bu,bJ,ai8,Op.as,ajg]
  intro z hz;simp only[List.mem_cons,List.not_mem_nil,or_false] at hz;rcases hz with rfl|rfl|rfl|rfl|rfl|rfl<;>simp[dn,Lb.fresh]
 |false=>
 have e5:TV az o=(az.filter fun a=>Op.bytesLess a.name o.name)++az.filter fun a=>Op.bytesLess o.name a.name:=by
  rw[aeN aku,if_pos (by simp at hke;omega)];rfl
 have hk5:=hk;rw[e5] at hk5;have hB4:(az.filter fun a=>Op.bytesLess a.name o.name).length+az.length≤4294967296:=by omega
 simp only[↓aX,mX,seval,hke];have T2:=ajT (P:=P) (G:=G) (Q:=Q) (k:=k) t l n q y i o (az.filter fun a=>Op.bytesLess a.name o.name) az hB4 hk5;refine aaT [.loc 3,.loc 7,.loc 8,.loc 11,.loc 16,.loc 17] (fun _=>false) _ _ rfl (by simp[ah,AV.an,aje]) (ajA t l n q y az o (fun _=>(az.filter fun a=>Op.bytesLess a.name o.name)) ()) ⟨[],?_,?_,?_,by simp[dn],?_⟩ T2
 ·intro l' hf hu;refine absurd ?_ hu;simp[afy,hf,Lb.fresh,Hp.none]
 ·simp[k_,dn,bJ,put,o9,aje]
 ·simp[tc,ai',dn,ae,dO,bu,bJ,ai8,Op.as,ajg]
 intro z hz;simp only[List.mem_cons,List.not_mem_nil,or_false] at hz;rcases hz with rfl|rfl|rfl|rfl|rfl|rfl<;>simp[dn,Lb.fresh]
theorem ajJ (l:List Op):∀(off:Nat) (a b:List Tree),turns l off (a++b)=turns l off a++turns l (off+dP a) b
 |off,[],b=>by simp[turns,dP]
 |off,x::a,b=>by simp only[List.cons_append,turns,dP];rw[ajJ l (off+x.jz) a b,gQ,eW]
set_option maxHeartbeats 2000000 in
def aj7 {gL ai4:Nat} (t:Tree) (l:List Op) (n:Nat) (q:Int) (y:Tree)
  (hl:l.length≤B) (hw:ZK l≤B) (hn:n≤B) (hb:y.wt+y.jz*(8*ZK l+2)≤B) (aiC:∀o∈l,o.kind≤10) (h8:y.text=true→VA l 8 n=false) (hra:l_ y.attrs=true)
  (hO:OfC P G ai4 l)
  (hK:∀(A C:List Tree) (k:Tree),y.kids=A++k::C→au P G gL [Doc.av (lW t),.list (l.map Op.iv),.int .i64 ((n+1+dP A:Nat):Int)] (.list (dq (k.YL l (n+1+dP A))))) :
  go ⟨P,G,235⟩ (fX [(none,6)] fun x _=>x= .list (dq (y.YL l n))) [.code (ajc ai4 gL)] (o9 (aje l n)) (ie (fun _=>false) (ai' t l n q y y.attrs)):=by
 have zo:B=1073741824:=rfl;have hwx:=y.gx;have MB:=iz y.attrs;have hcp:=y.uE;have hlw:=abR l;have Ij:l.length+y.attrs.length≤B:=by
  have:=abW l;have:1*(8*ZK l+2)≤y.jz*(8*ZK l+2):=Nat.mul_le_mul_right _ hcp;omega
 rw[Cf];unfold ajc aje ai';simp only[↓aX,mX,seval,cF,bW,List.length_map];refine pe (σ:={i:Nat // i≤l.length}) (fun _=>[.loc 3,.loc 7,.loc 8,.loc 11]) (fun _ _=>false)
  (fun s=>aje l n++[(74,.list (l.map Op.iv)),(75,.int .i64 l.length),(76,.int .i64 s.1)]) (fun s=>ai' t l n q y (Vb (l.take s.1) n y.attrs)) (fun s=>l.length - s.1) ⟨0,by simp⟩ (fun _=>rfl) (fun s=>by simp[ah,AV.an,aje]) ?_ ⟨[],?_⟩ ?_
 ·exact fun s=>ajI t l n q y _
 ·refine⟨?_,?_,?_,by simp[dn],fun l _=>⟨id,fun _=>rfl⟩⟩
  ·intro l' hf hu;refine absurd ?_ hu;simp[afy,hf,Lb.fresh,Hp.none]
  ·simp[k_,dn,bJ,put,o9,aje]
  simp[tc,ai',dn,ae,dO,bu,bJ,ai8,Vb]
 rintro⟨i,hi⟩;rw[Cf];unfold aje ai';simp only[↓aX,mX,seval,cF,bW,List.length_map,List.cons_append,List.nil_append];by_cases bI:i<l.length
 ·rw[show decide ((i:Int)<(l.length:Int))=true by simpa using bI];obtain⟨o,ho⟩:∃o,l[i]?=some o:=⟨_,List.getElem?_eq_getElem bI⟩;have hom:=List.mem_of_getElem? ho;have pU:IntKind.i64.wrap ((i:Int)+1)=((i+1:Nat):Int):=wrap64 (by omega) (by omega);have E0:l.take (i+1)=l.take i++[o]:=Vl ho;obtain⟨az,has⟩:∃az,az=Vb (l.take i) n y.attrs:=⟨_,rfl⟩;have aku:l_ az=true:=by rw[has];exact aaj hra _ _
  have zB:Vb (l.take (i+1)) n y.attrs=X4 n az o:=by rw[E0,Zy,has]
  have akC:az.length+1≤B:=by
   have:=aak y.attrs (l.take i) n;rw[←has,List.length_take] at this;omega
  rw[←has];simp only[↓aX,mX,seval,YO,ho,Option.map_some,Ys,Op.cJ,Op.cs];cases htg:(o.target !=(n:Int)) with
  |true=>
   have e1:Vb (l.take (i+1)) n y.attrs=az:=by
    rw[zB];unfold X4;rw[if_neg];rintro⟨h,_⟩;simp[h] at htg
   simp only[↓aX,mX,seval,pU];refine⟨⟨i+1,bI⟩,by simp only;omega,[],?_,?_,?_,by simp[dn],fun l _=>⟨id,fun _=>rfl⟩⟩
   ·intro l' hf hu;refine absurd ?_ hu;simp[afy,hf,Lb.fresh,Hp.none]
   ·simp[k_,dn,bJ,put,o9,aje]
   simp[tc,ai',dn,ae,dO,bu,bJ,ai8,e1]
  |false=>
  simp only[↓aX,mX,seval];have ht:o.target=(n:Int):=by simpa using htg
  cases h9:decide (o.kind<9) with
  |true=>
   have e1:Vb (l.take (i+1)) n y.attrs=az:=by
    have:o.kind<9:=(by simpa using h9);rw[zB];unfold X4;rw[if_neg];rintro⟨_,h⟩;omega
   simp only[↓aX,mX,seval,pU,h9];refine⟨⟨i+1,bI⟩,by simp only;omega,[],?_,?_,?_,by simp[dn],fun l _=>⟨id,fun _=>rfl⟩⟩
   ·intro l' hf hu;refine absurd ?_ hu;simp[afy,hf,Lb.fresh,Hp.none]
   ·simp[k_,dn,bJ,put,o9,aje]
   simp[tc,ai',dn,ae,dO,bu,bJ,ai8,e1]
  |false=>
  have hk9:9≤o.kind:=by simpa using h9
  have akD:=aiC o hom;have e1:Vb (l.take (i+1)) n y.attrs=TV az o:=by rw[zB];unfold X4;rw[if_pos ⟨ht,by omega⟩]
  simp only[↓aX,mX,seval,h9];refine aaT [.loc 3,.loc 7,.loc 8,.loc 11,.loc 16,.loc 17] (fun _=>false) (aje l n++[(16,.ptr (.loc 16) 5 0 0),(17,.sl (.loc 17) 2 0 0),(74,.list (l.map Op.iv)),(75,.int .i64 l.length),(76,.int .i64 i)])
   (ai' t l n q y az++[(.loc 16,⟨5,[o.as]⟩),(.loc 17,⟨2,aB (cD [])⟩)]) rfl (by simp[ah,AV.an,aje]) (ajA t l n q y az o (fun _=>[]) ()) ⟨[],?_,?_,?_,by simp[dn],fun l _=>⟨id,fun _=>rfl⟩⟩
   (akg t l n q y i o az akC aku hk9 akD fun env H hW=> ?_)
  ·intro l' hf hu;refine absurd ?_ hu;simp[afy,hf,Lb.fresh,Hp.none]
  ·simp[k_,dn,bJ,put,o9,aje]
  ·simp[tc,ai',dn,ae,dO,bu,bJ,ai8,Op.as,ajg];rfl
  have he:=hW.e;simp only[aje,k_,dn,bJ,List.cons_append,List.nil_append] at he;obtain⟨g1,g2,g3,g7,g8,g10,g11,g74,g75,g76,_⟩:=he;simp only[↓aX,mX,seval,g76,pU];refine⟨⟨i+1,bI⟩,by simp only;omega,[],hW.nf,?_,by simp only;rw[e1];exact hW.r,hW.inj,hW.fr⟩;simp[k_,dn,bJ,put,aje,g1,g2,g3,g7,g8,g10,g11,g74,g75]
 rw[show decide ((i:Int)<(l.length:Int))=false by simpa using bI];have:i=l.length:=by omega
 subst this;simp only[↓aX,mX,seval,List.take_length];have hbw:dE (y.YL l n)≤B:=by have:=af7 l y n;omega
 have W:=fun(kv:AV) (h:kv= .list (dq (y.V5 l n).kids)∨(kv= .nil0∧(y.V5 l n).kids=[]))=>aj6 (P:=P) (G:=G) y l n kv hl hw hn hbw h hO;have J2:∀kv:AV,kv.an=[]→∀r∈[((Lb.loc 8),(⟨4,[[.bool y.text,.str (y.V5 l n).s,.list (cD (y.V5 l n).attrs),kv]]⟩:Row))],∀cs∈r.2.els,∀z∈ah cs,z∈[Lb.loc 8]:=by
  intro kv hkv r hr cs bV z hz;simp only[List.mem_singleton] at hr;subst hr;simp only[List.mem_singleton] at bV;subst bV;simp[ah,AV.an,hkv] at hz
 have at7:VA l 7 n=true→∃o,(ofK l 7 n).getLast?=some o∧∀s,Wi l n s=o.s:=by
  intro h7;cases h:(ofK l 7 n).getLast? with
  |some o=>exact⟨o,rfl,fun s=>by unfold Wi;rw[h]⟩
  |none=>rw[List.getLast?_eq_none_iff] at h;simp[VA,h] at h7
 have no7:VA l 7 n=false→∀s,Wi l n s=s:=by
  intro h7 s;have h:ofK l 7 n=[]:=by simpa[VA] using h7
  unfold Wi;rw[h];rfl
 cases ht:y.text with
 |true=>
  have no8:Wr l n y.s=y.s:=by
   have h:ofK l 8 n=[]:=(by simpa[VA] using h8 ht);unfold Wr;rw[h];rfl
  have e1:(y.V5 l n).s=Wi l n y.s:=by simp[Tree.V5,Tree.s,ht]
  have e2:(y.V5 l n).kids=[]:=by simp[Tree.V5,Tree.kids,ht]
  have e3:(y.V5 l n).attrs=Vb l n y.attrs:=rfl;have WW:=W .nil0 (.inr ⟨rfl,e2⟩);rw[e1,e3,ht] at WW;have ajW:=J2 .nil0 rfl;rw[e1,e3,ht] at ajW;simp only[↓aX,mX,seval];cases h7:VA l 7 n with
  |true=>
   obtain⟨o,ho,hv⟩:=at7 h7;simp only[↓aX,mX,seval,ho,ajE,Op.as];refine aaT [.loc 8] (fun _=>false) _ _ rfl (by simp[ah,AV.an]) ajW ⟨[],?_,?_,?_,by simp[dn],fun l _=>⟨id,fun _=>rfl⟩⟩ WW
   ·intro l' hf hu;refine absurd ?_ hu;simp[afy,hf,Lb.fresh,Hp.none]
   ·simp[k_,dn,bJ,put,o9,aje]
   simp[tc,dn,ae,dO,bu,bJ,hv]
  |false=>
  simp only[↓aX,mX,seval,h7];refine aaT [.loc 8] (fun _=>false) _ _ rfl (by simp[ah,AV.an]) ajW ⟨[],?_,?_,?_,by simp[dn],fun l _=>⟨id,fun _=>rfl⟩⟩ WW
  ·intro l' hf hu;refine absurd ?_ hu;simp[afy,hf,Lb.fresh,Hp.none]
  ·simp[k_,dn,bJ,put,o9,aje]
  simp[tc,dn,ae,dO,bu,bJ,no7 h7,no8]
 |false=>
 simp only[↓aX,mX,seval];refine ajm 151 (hO 1 n hn) (by simp[ah,AV.an]) (fun l=>by simp[ae,Hp.none,NW]) fun l1=> ?_;simp only[↓aX,mX,seval,ofV,NW,ajf,ajo,aji,ajh,Nat.le_refl];refine ajm 158 (hO 2 n hn) (by simp[ah,AV.an]) (fun l=>by simp[ae,Hp.none,NW]) fun l2=> ?_;simp only[↓aX,mX,seval,ofV,NW,ajf,ajo,aji,ajh,Nat.le_refl,List.length_map,VS];have Hm:y.kids.length≤B:=by have:=eZ y.kids;omega
 have zQ:=Xu 1 n l;have B1:=Xu 2 n l;have lp1:=eZ (gl l 1 n);have lp2:=eZ (gl l 2 n);have htw:∀j,(turns l (n+1) (y.kids.take j)).length≤B:=by
  intro j;have h1:=eZ (turns l (n+1) (y.kids.take j));have h2:=aao l y.kids (n+1);have h3:dE (turns l (n+1) (y.kids.take j))≤dE (turns l (n+1) y.kids):=by
   have:=ajJ l (n+1) (y.kids.take j) (y.kids.drop j);rw[List.take_append_drop] at this;rw[this,kn];omega
  have h4:=y.n8;have h5:dP y.kids*(8*ZK l+2)≤y.jz*(8*ZK l+2):=Nat.mul_le_mul_right _ (by omega);omega
 refine pe (σ:={j:Nat // j≤y.kids.length}) (fun _=>[.loc 3,.loc 8,.loc 11,.loc 1000,.loc 1001]) (fun _ _=>false)
  (fun s=>[(1,.list (l.map Op.iv)),(2,.int .i64 (n:Int)),(3,.ptr (.loc 3) 1 0 0),(8,.ptr (.loc 8) 4 0 0),(10,.bool (VA l 7 n)),(11,.ptr (.loc 11) 5 0 0),(25,.sl (.loc 1001) 4 0 (gl l 2 n).length),(165,.list ((mw (n+1) y.kids).map xX)),(166,.int .i64 y.kids.length),(167,.int .i64 s.1)])
  (fun s=>[(.loc 3,⟨1,[[.list ((lW t).map Node.iv)]]⟩),(.loc 8,⟨4,[[.bool false,.str (Wr l n y.s),.list (cD (Vb l n y.attrs)),.sl (.loc 1000) 4 0 (gl l 1 n++turns l (n+1) (y.kids.take s.1)).length]]⟩),(.loc 11,⟨5,[ajs (ofK l 7 n).getLast?]⟩),
   (.loc 1000,⟨4,aB (dq (gl l 1 n++turns l (n+1) (y.kids.take s.1)))⟩),(.loc 1001,⟨4,aB (dq (gl l 2 n))⟩)])
  (fun s=>y.kids.length - s.1) ⟨0,by simp⟩ (fun _=>rfl) (fun s=>by simp[ah,AV.an]) ?_ ⟨[(.loc 1000,.nest (.loc 151) l1.enc 1),(.loc 1001,.nest (.loc 158) l2.enc 1)],?_⟩ ?_
 ·rintro s r hr cs bV l' kR;simp only[List.mem_cons,List.not_mem_nil,or_false] at hr;rcases hr with rfl|rfl|rfl|rfl|rfl
  ·simp only[List.mem_singleton] at bV;subst bV;simp[ah,AV.an] at kR
  ·simp only[List.mem_singleton] at bV;subst bV;simp[ah,AV.an] at kR;subst kR;simp
  ·simp only[List.mem_singleton] at bV;subst bV;rw[ajz] at kR;simp at kR
  ·rw[bU bV] at kR;simp at kR
  rw[bU bV] at kR;simp at kR
 ·refine⟨?_,?_,?_,by simp[dn],?_⟩
  ·intro l' hf hu;refine absurd ?_ hu;simp[afy,hf,Lb.fresh,Hp.none]
  ·simp[k_,dn,bJ,put,o9,aje]
  ·simp[tc,dn,ae,dO,bu,bJ,ai8,ajg,turns]
  intro z hz;simp only[List.mem_cons,List.not_mem_nil,or_false] at hz;rcases hz with rfl|rfl|rfl|rfl|rfl<;>simp[dn,Lb.fresh]
 rintro⟨j,hj⟩;rw[Cf];simp only[↓aX,mX,seval,cF,bW];by_cases zk:j<y.kids.length
 ·rw[show decide ((j:Int)<(y.kids.length:Int))=true by simpa using zk];obtain⟨k,hkj⟩:∃k,y.kids[j]?=some k:=⟨_,List.getElem?_eq_getElem zk⟩;have wB:IntKind.i64.wrap ((j:Int)+1)=((j+1:Nat):Int):=wrap64 (by omega) (by omega);have hg:=ZX (n+1) y.kids j zk;simp only[↓aX,mX,seval,aaX,hg,YN,VS,Option.map_some,xX,IV.cells];have wu:y.kids=y.kids.take j++k::y.kids.drop (j+1):=by rw[←drop_eq hkj,List.take_append_drop]
  have T1:turns l (n+1) (y.kids.take (j+1))=turns l (n+1) (y.kids.take j)++k.YL l (n+1+dP (y.kids.take j)):=by rw[Vl hkj,ajJ];simp[turns]
  have F1:=htw (j+1);rw[T1,List.length_append] at F1;refine⟨rfl,jw (hK _ _ k wu) ?_⟩;simp only[↓aX,mX,seval];rw[ym 4 72 177 1000 (dq (gl l 1 n++turns l (n+1) (y.kids.take j))) (dq (k.YL l (n+1+dP (y.kids.take j)))) (by simp[ae]) (by rw[bF]) (lT _) (pa _) (by rw[bF,List.length_append];omega) (by decide) (by decide) (by simp[ae,Hp.none])];simp only[↓aX,mX,seval,wB];refine⟨by rintro l' (rfl|rfl)<;>simp[Lb.iQ],⟨j+1,zk⟩,by simp only;omega,[(.loc 1000,.loc 177)],?_,?_,?_,by simp[dn],?_⟩
  ·intro l' hf hu;refine absurd ?_ hu;simp[afy,hf,Lb.fresh,Hp.none]
  ·simp[k_,dn,bJ,put,o9]
  ·have e4:dq (gl l 1 n++turns l (n+1) (y.kids.take j))++dq (k.YL l (n+1+dP (y.kids.take j)))=dq (gl l 1 n++turns l (n+1) (y.kids.take (j+1))):=(by rw[T1,←List.append_assoc,←qh]);rw[e4];simp[tc,dn,ae,dO,bu,bJ,ai8,ajg,T1,bF]
   try omega
  intro z hz;simp only[List.mem_cons,List.not_mem_nil,or_false] at hz;rcases hz with rfl|rfl|rfl|rfl|rfl<;>simp[dn,Lb.fresh]
 rw[show decide ((j:Int)<(y.kids.length:Int))=false by simpa using zk];have:j=y.kids.length:=by omega
 subst this;simp only[↓aX,mX,seval,List.take_length];have hta:=htw y.kids.length;rw[List.take_length] at hta;rw[ajx (ys:=dq (gl l 2 n)) (xs:=dq (gl l 1 n++turns l (n+1) y.kids)) (ajB (by simp[ae]) (by rw[bF])) (by simp[ae]) (by rw[bF]) rfl (pa _) (by rw[bF,List.length_append];omega) (by decide) (by simp) (by simp[ae,Hp.none])];obtain⟨K,hKe⟩:∃K,K=gl l 1 n++turns l (n+1) y.kids++gl l 2 n:=⟨_,rfl⟩;have e4:dq (gl l 1 n++turns l (n+1) y.kids)++dq (gl l 2 n)=dq K:=by rw[hKe,←qh]
 have ahF:(gl l 1 n++turns l (n+1) y.kids).length+(gl l 2 n).length=K.length:=by rw[hKe];simp only[List.length_append]
 rw[e4,bF (gl l 2 n),ahF];simp only[↓aX,mX,seval];refine⟨4,dq K,0,_,[.bool false,.str (Wr l n y.s),.list (cD (Vb l n y.attrs)),.sl (.loc 183) 4 0 _],rfl,rfl,rfl,by simp,by rw[bF];omega,pa _,?_⟩;have BY:((dq K).drop 0).take K.length=dq K:=by rw[List.drop_zero];exact List.take_of_length_le (by rw[bF];exact Nat.le_refl _)
 simp only[↓aX,mX,seval,BY,List.set_cons_succ,List.set_cons_zero];have e1:(y.V5 l n).s=Wr l n y.s:=by simp[Tree.V5,Tree.s,ht]
 have e3:(y.V5 l n).attrs=Vb l n y.attrs:=rfl;cases h7:VA l 7 n with
 |true=>
  obtain⟨o,ho,hv⟩:=at7 h7;have e2:(y.V5 l n).kids=[UR o.s]:=by simp[Tree.V5,Tree.kids,ht,h7,hv]
  have WW:=W (.list (dq [UR o.s])) (.inl (by rw[e2]));rw[e1,e3,ht] at WW;have ajW:=J2 (.list (dq [UR o.s])) rfl;rw[e1,e3,ht] at ajW;have wT:[IV.agg [.bool true,.str o.s,.list [],.list []]]=dq [UR o.s]:=by simp[dq,Tree.iv,UR,cD]
  simp only[↓aX,mX,seval,ho,ajE,Op.as,wT];refine aaT [.loc 8] (fun _=>false) _ _ rfl (by simp[ah,AV.an]) ajW ⟨[],?_,?_,?_,by simp[dn],fun l _=>⟨id,fun _=>rfl⟩⟩ WW
  ·intro l' hf hu;refine absurd ?_ hu;simp[afy,hf,Lb.fresh,Hp.none]
  ·simp[k_,dn,bJ,put,o9,aje]
  simp[tc,dn,ae,dO,bu,bJ]
 |false=>
 have e2:(y.V5 l n).kids=K:=by rw[hKe];simp[Tree.V5,Tree.kids,ht,h7]
 have WW:=W _ (.inl (by rw[e2]));rw[e1,e3,ht] at WW;have ajW:=J2 (.list (dq K)) rfl;rw[e1,e3,ht] at ajW;simp only[↓aX,mX,seval];refine aaT [.loc 8] (fun _=>false) _ _ rfl (by simp[ah,AV.an]) ajW ⟨[],?_,?_,?_,by simp[dn],fun l _=>⟨id,fun _=>rfl⟩⟩ WW
 ·intro l' hf hu;refine absurd ?_ hu;simp[afy,hf,Lb.fresh,Hp.none]
 ·simp[k_,dn,bJ,put,o9,aje]
 rw[List.drop_zero] at BY;simp[tc,dn,ae,dO,bu,bJ,BY]
def akv {gL ai4:Nat} (hF:aw P G gL=some (235,[(none,6)],(ai_ ai4 gL).bare)) (t:Tree) (l:List Op) (n:Nat) (q:Int) (y:Tree) (hs:Sub 0 (-1) t n q y)
  (hd:(lW t).length≤B) (hl:l.length≤B) (hw:ZK l≤B) (hn:n≤B) (hb:y.wt+y.jz*(8*ZK l+2)≤B) (aiC:∀o∈l,o.kind≤10) (h8:y.text=true→VA l 8 n=false) (hra:l_ y.attrs=true)
  (hO:OfC P G ai4 l)
  (hK:∀(A C:List Tree) (k:Tree),y.kids=A++k::C→au P G gL [Doc.av (lW t),.list (l.map Op.iv),.int .i64 ((n+1+dP A:Nat):Int)] (.list (dq (k.YL l (n+1+dP A))))) :
  au P G gL [Doc.av (lW t),.list (l.map Op.iv),.int .i64 (n:Int)] (.list (dq (y.YL l n))):=by
 refine aR hF (by simp) (by simp[ah,AV.an,Doc.av]) (by simp[AV.an]) ?_;have zo:B=1073741824:=rfl;have hL:oc (lW t) n q y:=hs.Gv _ ⟨[],by simp[lW]⟩;have Zs:=hL.node;have bI:=(aI.1 Zs).1;have hwx:=y.gx;have MB:=iz y.attrs;unfold ai_;simp only[↓aX,mX,seval,Doc.av,ax,Doc.XF Zs,Xx,Node.cJ,Node.cs,Tree.node];refine⟨rfl,?_⟩;rw[Xp 2 32 54 (cD y.attrs) (rq _) (nW _) (by rw[bp];omega) (by decide) (by simp[ae,Hp.none])];simp only[↓aX,mX,seval,bp];refine⟨2,cD y.attrs,0,y.attrs.length,[.bool y.text,.str y.s,.sl (.loc 54) 2 0 y.attrs.length,.nil0],rfl,rfl,rfl,by simp,by rw[bp];omega,nW _,?_⟩;have BY:((cD y.attrs).drop 0).take y.attrs.length=cD y.attrs:=by rw[e_];exact bo (by rw[bp];exact bm _)
 simp only[↓aX,mX,seval,BY,List.set_cons_succ,List.set_cons_zero];refine ajm 59 (hO 7 n hn) (by simp[ah,AV.an]) (fun l=>by simp[ae,Hp.none,NW]) fun l7=> ?_;simp only[↓aX,mX,seval,ofV,NW,ajf,ajo,aji,ajh,bm];refine ajm 66 (hO 8 n hn) (by simp[ah,AV.an]) (fun l=>by simp[ae,Hp.none,NW]) fun l8=> ?_;simp only[↓aX,mX,seval,ofV,NW,ajf,ajo,aji,ajh,bm];have fin:∀env H m,WU [.loc 3,.loc 7,.loc 8,.loc 11] (fun _=>false) (aje l n) (ai' t l n q y y.attrs) env H m →
   go ⟨P,G,235⟩ (fX [(none,6)] fun x _=>x= .list (dq (y.YL l n))) [.code (.gh .vk (ajc ai4 gL))] env H:=fun env H m h=>
  aaT [.loc 3,.loc 7,.loc 8,.loc 11] _ _ _ rfl (by simp[ah,AV.an,aje]) (ajI t l n q y y.attrs) ⟨m,h⟩ (aj7 t l n q y hl hw hn hb aiC h8 hra hO hK)
 cases h8c:VA l 8 n with
 |true=>
  obtain⟨o,ho⟩:∃o,(ofK l 8 n).getLast?=some o:=by
   cases h:(ofK l 8 n).getLast? with
   |some o=>exact⟨o,rfl⟩
   |none=>rw[List.getLast?_eq_none_iff] at h;simp[VA,h] at h8c
  have QM:Wr l n y.s=o.name:=by unfold Wr;rw[ho]
  simp only[↓aX,mX,seval,ho,ajE,Op.as];refine fin _ _ [] ⟨?_,?_,?_,by simp[dn],fun l _=>⟨id,fun _=>rfl⟩⟩
  ·intro l' hf hu;refine absurd ?_ hu;simp[afy,hf,Lb.fresh,Hp.none]
  ·simp[k_,dn,bJ,put,aje,jP]
  simp[tc,ai',dn,ae,dO,bu,bJ,ai8,QM,ajX]
 |false=>
 have QM:Wr l n y.s=y.s:=by
  have h:ofK l 8 n=[]:=by simpa[VA] using h8c
  unfold Wr;rw[h];rfl
 simp only[↓aX,mX,seval];refine fin _ _ [] ⟨?_,?_,?_,by simp[dn],fun l _=>⟨id,fun _=>rfl⟩⟩
 ·intro l' hf hu;refine absurd ?_ hu;simp[afy,hf,Lb.fresh,Hp.none]
 ·simp[k_,dn,bJ,put,aje,jP]
 simp[tc,ai',dn,ae,dO,bu,bJ,ai8,QM,ajX]
end
end Go.Am

set_option maxRecDepth 20000
namespace Go.Am
open Go Go.RowKit
section
variable {P:Program} {G:Nat→Option (List IV)}
def Xh (VQ:Nat):AC:=
(aM [zi 2] (aM [zi 3] (.gh (.own 3 5) (.seq (aM [MR 6 0,oy 7 6,gH 8 0] (.block 0 (.loop (aM [et 9 .lss 8 7] (.seq (.cond (.t 9) .skip (.exit 0)) (.seq (.block 1 (aM [jL 10 6 8 5,gz 11 5 10,aQ 5 (.new [(.int .i64 0),(.int .i64 0),.nil0,(.str []),(.str [])]),gg (.store 5 (.t 5) (.t 11))] (aM [ep 12 5 2,fm 13 12,aQ 14 (.call VQ [(.t 13)]),ep 15 5 2,gg (.store 1 (.t 15) (.t 14))] (.cq [MR 16 3,gz 17 5 5,aQ 18 (.lits 1 5 [(.int .i64 0),(.int .i64 0),.nil0,(.str []),(.str [])] [(0,(.t 17))]),aQ 19 (.app (.t 16) (.t 18) 5 72),MR 3 19])))) (.cq [eY 20 .add 8 1,MR 8 20]))))))) (.gh (.zS (.loc 3) 3) (aM [MR 21 3,MR 2 21] .ret))))))
def ail {VD VQ:Nat} (hF:aw P G VD=some (22,[(none,2)],(Xh VQ).bare)) (l:List Op) (hl:l.length≤B) (hC:∀o∈l,au P G VQ [.list (dq o.content)] (.list (dq o.content))) :
  au P G VD [.list (l.map Op.iv)] (.list (l.map Op.iv)):=by
 refine aR hF (by simp) (by simp[ah,AV.an]) (by simp[AV.an]) ?_;unfold Xh;have zo:B=1073741824:=rfl;simp only[↓aX,mX,seval,ax];refine xL 3 5 (σ:={i:Nat // i≤l.length}) (fun q=>[(6,.list (l.map Op.iv)),(7,.int .i64 l.length),(8,.int .i64 q.1)]) (fun q=>(l.take q.1).map Op.iv) (fun q=>l.length - q.1) ⟨0,by simp⟩ (fun _=>rfl) ?_ ?_
 ·exact Gj 3 (by simp only[↓aX,mX,seval]) (by refine⟨rfl,rfl,rfl,trivial⟩) (by simp only[↓aX,mX,seval];try rfl) (by simp only[↓aX,mX,seval];try rfl)
 rintro⟨i,hi⟩;simp only[↓aX,mX,seval,ax];by_cases bI:i<l.length
 ·rw[show decide ((i:Int)<(l.length:Int))=true by simpa using bI];obtain⟨o,ho⟩:∃o,l[i]?=some o:=⟨_,aC bI⟩;have hw:IntKind.i64.wrap ((i:Int)+1)=((i+1:Nat):Int):=wrap64 (by omega) (by omega);simp only[↓aX,mX,seval,YO,ho,bT,Ys,Op.cJ,Op.cs];refine ay (hC o (aV ho)) ?_;simp only[↓aX,mX,seval];rw[qg 5 72 19 3 ((l.take i).map Op.iv) (.agg [.int .i64 o.kind,.int .i64 o.target,.list (dq o.content),.str o.name,.str o.s]) (by simp[ae]) (by rw[ax]) rfl (by simp[IV.cells]) (by rw[cT];omega) (by decide) (by decide) (by simp[ae,Hp.none])];simp only[↓aX,mX,seval,hw];have E0:(l.take (i+1)).map Op.iv=(l.take i).map Op.iv++[.agg [.int .i64 o.kind,.int .i64 o.target,.list (dq o.content),.str o.name,.str o.s]]:=by rw[Vl ho,eV];rfl
  refine⟨⟨i+1,bI⟩,by simp only;omega,?_⟩;refine Gj 19 (by simp only[↓aX,mX,seval]) ⟨rfl,rfl,rfl,trivial⟩ ?_ ?_
  ·simp only[↓aX,mX,seval,E0,cy,ax,cT];try (simp;omega)
  simp only[↓aX,mX,seval,E0]
 rw[show decide ((i:Int)<(l.length:Int))=false by simpa using bI];have:i=l.length:=by omega
 subst this;simp only[↓aX,mX,seval,ea];refine⟨5,l.map Op.iv,0,_,rfl,rfl,by simp,agu l,?_⟩;simp only[↓aX,mX,seval,e_,bo (show(l.map Op.iv).length≤l.length by simp)]
def Wz (u3:Nat):AC:=
(aM [jM 0 false] (aM [aQ 4 (.lits 1 1 [(.int .i64 0)] [(0,(jS 1))]),aQ 5 (.sg [(.bool false),(.str []),.nil0,(.int .i64 0),.nil0] [(1,(1,(.c (.str [97])))),(3,(1,(.c (.int .i64 (-1))))),(4,(1,(.t 4)))]),aQ 6 (.sg [(.bool false),(.str []),.nil0,(.int .i64 0),.nil0] [(1,(1,(.c (.str [98])))),(3,(1,(jS 0)))]),aQ 7 (.lits 2 5 [(.bool false),(.str []),.nil0,(.int .i64 0),.nil0] [(0,(.t 5)),(1,(.t 6))]),aQ 8 (.sg [.nil0] [(0,(1,(.t 7)))]),aQ 1 (.new [.nil0]),gg (.store 1 (.t 1) (.t 8))] (aM [gz 10 1 1,aQ 11 (.sg [(.bool false),(.str []),.nil0,.nil0] [(1,(1,(.c (.str [99]))))]),aQ 12 (.lits 1 4 [(.bool false),(.str []),.nil0,.nil0] [(0,(.t 11))]),aQ 13 (.sg [(.int .i64 0),(.int .i64 0),.nil0,(.str []),(.str [])] [(0,(1,(jS 3))),(1,(1,(jS 1))),(2,(1,(.t 12)))]),aQ 14 (.sg [(.int .i64 0),(.int .i64 0),.nil0,(.str []),(.str [])] [(0,(1,(jS 8))),(1,(1,(jS 1))),(3,(1,(.c (.str [101]))))]),aQ 15 (.lits 2 5 [(.int .i64 0),(.int .i64 0),.nil0,(.str []),(.str [])] [(0,(.t 13)),(1,(.t 14))]),aQ 16 (.call u3 [(.t 10),(.t 15)]),MR 9 16,ox 17 9 0,ox 18 9 1,aQ 2 (.new [.nil0]),gg (.store 1 (.t 2) (.t 17)),MR 3 18] (aM [MR 19 3,eY 20 .eql 19 0,MR 21 20,Wb 22 21 2 0,jm 23 21 22,dW 24 21 (.len (.t 23)),dW 25 21 (.bin .eql (.t 24) (jS 3)),jT 26 21 25,MR 27 26,Wb 28 27 2 0,jm 29 27 28,dW 30 27 (.Vc (.t 29) (jS 1) 5),Wb 31 27 30 1,jm 32 27 31,dW 33 27 (.bin .eql (.t 32) (.c (.str [99]))),jT 34 27 33,MR 35 34,Wb 36 35 2 0,jm 37 35 36,dW 38 35 (.Vc (.t 37) (jS 2) 5),Wb 39 35 38 1,jm 40 35 39,dW 41 35 (.bin .eql (.t 40) (.c (.str [101]))),jT 42 35 41,MR 0 42] .ret))))
def adZ {Vg u3:Nat} (hF:aw P G Vg=some (43,[(none,0)],(Wz u3).bare)) (hA:acD P G u3):au P G Vg [] (.bool true):=by
 refine aR hF (by simp) (by simp[ah,AV.an]) (by simp[AV.an]) ?_;have h:=hA ahc acE (by decide) ⟨by decide,by
  intro o ho;simp only[acE,bb,b5,b7] at ho;rcases ho with rfl|rfl<;>decide⟩
 rw[ae_] at h;unfold Wz;simp only[↓aX,mX,seval,List.replicate,uM,u4,bO,cy];refine ay (h.of rfl) ?_;have e:(Doc.av (lW (.mk false [97] [] [.mk false [99] [] [],.mk false [101] [] []])):AV)= .agg [.list [.agg [.bool false,.str [97],.list [],.int .i64 (-1),.list [.int .i64 1,.int .i64 2]],.agg [.bool false,.str [99],.list [],.int .i64 0,.list []],.agg [.bool false,.str [101],.list [],.int .i64 0,.list []]]]:=rfl;rw[e];have he:jV 5 [IV.agg [.bool false,.str [97],.list [],.int .i64 (-1),.list [.int .i64 1,.int .i64 2]],.agg [.bool false,.str [99],.list [],.int .i64 0,.list []],.agg [.bool false,.str [101],.list [],.int .i64 0,.list []]]:=by simp[jV,IV.cells]
 simp only[↓aX,mX,seval,Int.reduceBEq,show(((3:Nat):Int)==3)=true from rfl,he]
end
end Go.Am

set_option maxRecDepth 20000
namespace Go.Am
open Go Go.RowKit
section
variable {P:Program} {G:Nat→Option (List IV)}
def ajp (Nl:Nat):AC:=
(aM [sC 2 0,sC 3 1,jM 4 false] (aM [ep 5 2 0,fm 6 5,ep 7 3 0,fm 8 7,et 9 .eql 6 8,MR 10 9,Wb 11 10 2 1,jm 12 10 11,Wb 13 10 3 1,jm 14 10 13,dW 15 10 (.bin .eql (.t 12) (.t 14)),jT 16 10 15,MR 17 16,Wb 18 17 2 3,jm 19 17 18,Wb 20 17 3 3,jm 21 17 20,dW 22 17 (.bin .eql (.t 19) (.t 21)),jT 23 17 22,MR 24 23,Wb 25 24 2 4,jm 26 24 25,Wb 27 24 3 4,jm 28 24 27,dW 29 24 (.bin .eql (.t 26) (.t 28)),jT 30 24 29,MR 31 30,Wb 32 31 2 2,jm 33 31 32,Wb 34 31 3 2,jm 35 31 34,dW 36 31 (.call Nl [(.t 33),(.t 35)]),jT 37 31 36,MR 4 37] .ret))
def akw {ai9 Nl:Nat} (hF:aw P G ai9=some (38,[(none,4)],(ajp Nl).bare)) (o:Op) (hS:au P G Nl [.list (dq o.content),.list (dq o.content)] (.bool true)) :
  au P G ai9 [o.av,o.av] (.bool true):=by
 refine aR hF (by simp) (by simp[ah,AV.an,Op.av]) (by simp[AV.an]) ?_;unfold ajp;simp only[↓aX,mX,seval,Op.av];refine ay hS ?_;simp only[↓aX,mX,seval]
theorem aka {gL ai4:Nat} (hF:aw P G gL=some (235,[(none,6)],(ai_ ai4 gL).bare)) (t:Tree) (l:List Op)
  (hd:(lW t).length≤B) (hl:l.length≤B) (hw:ZK l≤B) (aiC:∀o∈l,o.kind≤10) (hO:OfC P G ai4 l)
  (hX:∀n q y,Sub 0 (-1) t n q y→n≤B∧y.wt+y.jz*(8*ZK l+2)≤B∧(y.text=true→VA l 8 n=false)∧l_ y.attrs=true) :
  ∀(s:Nat) (n:Nat) (q:Int) (y:Tree),y.jz≤s→Sub 0 (-1) t n q y→au P G gL [Doc.av (lW t),.list (l.map Op.iv),.int .i64 (n:Int)] (.list (dq (y.YL l n)))
 |0,n,q,y,h,hs=>by have:=y.uE;omega
 |s+1,n,q,y,h,hs=>by
  obtain⟨h1,h2,h3,h4⟩:=hX n q y hs;refine akv hF t l n q y hs hd hl hw h1 h2 aiC h3 h4 hO fun A C k hk=> ?_;have Rx:Sub 0 (-1) t (n+1+dP A) n k:=hs.trans (.Ce A C k hk (.self _ _ _));refine aka hF t l hd hl hw aiC hO hX s _ _ k ?_ Rx;have:=y.n8;rw[hk,lU] at this;simp only[dP] at this;omega
def ajd (U_ gL ai5 Vf:Nat):AC:=
(aM [sC 2 0,aQ 4 (.new [.nil0]),gH 5 0] (.seq (aM [gz 9 1 2,MR 10 1,aQ 11 (.call U_ [(.t 9),(.t 10)]),MR 6 11] (aM [MR 12 6,eY 13 .neq 12 0] (.cond (.t 13) (aM [gz 14 1 2,MR 15 6,gg (.store 1 (.t 4) (.t 14)),MR 5 15] .ret) .skip))) (aM [gz 17 1 2,MR 18 1,aQ 19 (.call gL [(.t 17),(.t 18),(jS 0)]),aQ 20 (.call ai5 [(.t 19)]),aQ 21 (.Vc (.t 20) (jS 0) 4),gz 22 4 21,aQ 23 (.call Vf [(.t 22)]),MR 16 23,ox 24 16 0,ox 25 16 1,aQ 7 (.new [.nil0]),gg (.store 1 (.t 7) (.t 24)),MR 8 25] (.seq (aM [MR 26 8,eY 27 .neq 26 0] (.cond (.t 27) (aM [gz 28 1 2,gg (.store 1 (.t 4) (.t 28)),gH 5 2] .ret) .skip)) (aM [gz 29 1 7,gg (.store 1 (.t 4) (.t 29)),gH 5 0] .ret)))))
def akh {ai7 U_ gL ai5 Vf:Nat} (hF:aw P G ai7=some (30,[((some (some 1)),4),(none,5)],(ajd U_ gL ai5 Vf).bare)) (d:Doc) (l:List Op)
  (hC:au P G U_ [Doc.av d,.list (l.map Op.iv)] (.int .i64 (VU d l)))
  (hT:∀t,t.d_=true→d=lW t→VU d l=0→au P G gL [Doc.av (lW t),.list (l.map Op.iv),.int .i64 0] (.list (dq [t.V5 l 0])))
  (hJ:∀t,t.d_=true→d=lW t→VU d l=0→au P G ai5 [.list (dq [t.V5 l 0])] (.list (dq [Yc t l])))
  (hM:∀t,t.d_=true→d=lW t→VU d l=0→au P G Vf [(Yc t l).av] (.gf [Doc.av (Wo (Yc t l)).1,.int .i64 (Wo (Yc t l)).2])) :
  au P G ai7 [Doc.av d,.list (l.map Op.iv)] (.gf [Doc.av (XU d l).1,.int .i64 (XU d l).2]):=by
 refine aR hF (by simp) (by simp[ah,AV.an,Doc.av]) (by simp[AV.an,ah,Doc.av]) ?_;unfold ajd;simp only[↓aX,mX,seval,Doc.av];refine ay hC ?_;cases hc:(VU d l !=0) with
 |true=>
  have KD:VU d l≠0:=by simpa using hc
  have hb:XU d l=(d,VU d l):=by unfold XU;rw[a_ KD]
  simp only[↓aX,mX,seval,hc,↓kq,hb]
 |false=>
 have KD:VU d l=0:=by simpa using hc
 obtain⟨t,ht,rfl⟩:=XW.1 (adP KD);simp only[↓aX,mX,seval,hc];refine ay (hT t ht rfl KD) ?_;simp only[↓aX,mX,seval];refine ay (hJ t ht rfl KD) ?_;have hm:=hM t ht rfl KD;simp only[Tree.av,Doc.av] at hm;simp only[↓aX,mX,seval,iy,jB,bT,lT,Tree.cJ,Tree.cs];refine ay hm ?_;have hr:=aaq ht KD;simp only[Wo];by_cases hg:(Yc t l).d_=true
 ·rw[bf hg] at hr;simp only[hg,eT];simp only[↓aX,mX,seval,↓kq,show((0:Int) !=0)=false from rfl,hr,Doc.av]
 rw[a_ hg] at hr;simp only[hg,fH];simp only[↓aX,mX,seval,↓kq,show((1:Int) !=0)=true from rfl,hr,Doc.av]
def aja (Ve VD u3 ai7 tk ai9 Vg:Nat):AC:=
(aM [sC 2 0,jM 4 false] (aM [gz 12 1 2,aQ 13 (.call Ve [(.t 12)]),MR 14 1,aQ 15 (.call VD [(.t 14)]),aQ 5 (.new [.nil0]),gg (.store 1 (.t 5) (.t 13)),MR 6 15] (aM [gz 17 1 5,MR 18 6,aQ 19 (.call u3 [(.t 17),(.t 18)]),MR 16 19,ox 20 16 0,ox 21 16 1,aQ 7 (.new [.nil0]),gg (.store 1 (.t 7) (.t 20)),MR 8 21] (aM [gz 23 1 2,MR 24 1,aQ 25 (.call ai7 [(.t 23),(.t 24)]),MR 22 25,ox 26 22 0,ox 27 22 1,aQ 9 (.new [.nil0]),gg (.store 1 (.t 9) (.t 26)),MR 10 27] (.seq (aM [gz 28 1 7,gz 29 1 9,aQ 30 (.call tk [(.t 28),(.t 29)]),sB 31 30,MR 32 31,gV 33 32 8,gV 34 32 10,iR 35 32 (.bin .neq (.t 33) (.t 34)),sj 36 32 35,MR 37 36,iR 38 37 (.load (some 1) (.t 5)),iR 39 37 (.load (some 1) (.t 2)),iR 40 37 (.call tk [(.t 38),(.t 39)]),iR 41 37 (.not (.t 40)),sj 42 37 41] (.cond (.t 42) (aM [jM 4 false] .ret) .skip)) (.seq (aM [MR 43 1,oy 44 43,gH 45 0] (.block 0 (.loop (aM [et 46 .lss 45 44] (.seq (.cond (.t 46) .skip (.exit 0)) (.seq (.block 1 (aM [MR 47 45,MR 11 47] (.seq (.VL [MR 48 1,MR 49 11,jL 50 48 49 5,gz 51 5 50,MR 52 6,MR 53 11,jL 54 52 53 5,gz 55 5 54,aQ 56 (.call ai9 [(.t 51),(.t 55)]),sB 57 56] [[],[],[0,1],[2],[],[],[4,5],[6],[3,7],[8]] [.no,.no,.no,.no,.no,.no,.no,.no,.no,.no]) (.cond (.t 57) (aM [jM 4 false] .ret) .skip)))) (.cq [eY 58 .add 45 1,MR 45 58]))))))) (aM [aQ 59 (.call Vg []),MR 4 59] .ret)))))))
def ajN {ajn Ve VD u3 ai7 tk ai9 Vg:Nat} (hF:aw P G ajn=some (60,[(none,4)],(aja Ve VD u3 ai7 tk ai9 Vg).bare)) (d:Doc) (l:List Op) (hl:l.length≤B)
  (hCo:au P G Ve [Doc.av d] (Doc.av d)) (hOp:au P G VD [.list (l.map Op.iv)] (.list (l.map Op.iv)))
  (hA:au P G u3 [Doc.av d,.list (l.map Op.iv)] (.gf [Doc.av (XU d l).1,.int .i64 (XU d l).2]))
  (hR:au P G ai7 [Doc.av d,.list (l.map Op.iv)] (.gf [Doc.av (XU d l).1,.int .i64 (XU d l).2]))
  (hS:∀e,e=d∨e=(XU d l).1→au P G tk [Doc.av e,Doc.av e] (.bool true)) (hO:∀o∈l,au P G ai9 [o.av,o.av] (.bool true)) (hX:au P G Vg [] (.bool true)) :
  au P G ajn [Doc.av d,.list (l.map Op.iv)] (.bool true):=by
 refine aR hF (by simp) (by simp[ah,AV.an,Doc.av]) (by simp[AV.an]) ?_;unfold aja;have zo:B=1073741824:=rfl;simp only[↓aX,mX,seval,Doc.av];refine ay hCo ?_;simp only[↓aX,mX,seval,Doc.av];refine ay hOp ?_;simp only[↓aX,mX,seval,Doc.av];refine ay hA ?_;simp only[↓aX,mX,seval,Doc.av];refine ay hR ?_;simp only[↓aX,mX,seval,Doc.av];refine ay (hS _ (.inr rfl)) ?_;simp only[↓aX,mX,seval,Doc.av,bG,bne_self_eq_false];refine ay (hS _ (.inl rfl)) ?_;simp only[↓aX,mX,seval,Doc.av,bG,ax];refine pe (σ:={i:Nat // i≤l.length}) (fun _=>[]) (fun _ _=>false)
  (fun q=>[(1,.list (l.map Op.iv)),(6,.list (l.map Op.iv)),(43,.list (l.map Op.iv)),(44,.int .i64 l.length),(45,.int .i64 q.1)])
  (fun q=>[]) (fun q=>l.length - q.1) ⟨0,by simp⟩ (fun _=>rfl) (fun q=>by simp[ah,AV.an]) (by simp) ⟨[],?_⟩ ?_
 ·refine⟨?_,?_,?_,by simp[dn],fun l _=>⟨id,fun _=>rfl⟩⟩
  ·intro l' hf hu;refine absurd ?_ hu;simp[afy,hf,Lb.fresh,Hp.none]
  ·simp[k_,dn,bJ,put,jP]
  trivial
 rintro⟨i,hi⟩;rw[Cf];simp only[↓aX,mX,seval,cF,bW,ax];by_cases bI:i<l.length
 ·rw[show decide ((i:Int)<(l.length:Int))=true by simpa using bI];obtain⟨o,ho⟩:∃o,l[i]?=some o:=⟨_,aC bI⟩;have hw:IntKind.i64.wrap ((i:Int)+1)=((i+1:Nat):Int):=wrap64 (by omega) (by omega);simp only[↓aX,mX,seval,YO,ho,bT,Ys,Op.cJ,Op.cs];refine⟨rfl,jw (hO o (aV ho)) ?_⟩;simp only[↓aX,mX,seval,bG,hw];refine⟨⟨i+1,bI⟩,by simp only;omega,[],?_,?_,?_,by simp[dn],fun l _=>⟨id,fun _=>rfl⟩⟩
  ·intro l' hf hu;refine absurd ?_ hu;simp[afy,hf,Lb.fresh,Hp.none]
  ·simp[k_,dn,bJ,put,o9]
  trivial
 rw[show decide ((i:Int)<(l.length:Int))=false by simpa using bI];simp only[↓aX,mX,seval];refine ay hX ?_;simp only[↓aX,mX,seval]
end

def akz {t:Tree} {l:List Op} (Iy:∀o∈l,ae4 t o) {n:Nat} {q:Int} {y:Tree} (hs:Sub 0 (-1) t n q y) {k:Int} (h:VA l k n=true) :
  (kB k=true→0≤q)∧(y.text=true→kB k=true∨k=7):=by
 obtain⟨o,ho,hk,ht⟩:=abF.1 h;obtain⟨n',q',y',h1,h2,h3⟩:=(Iy o ho).ex;have:n'=n:=by rw[ht] at h2;omega
 subst this;have e1:=(h1.Gv (lW t) ⟨[],by simp[lW]⟩).node;have e2:=(hs.Gv (lW t) ⟨[],by simp[lW]⟩).node;rw[e1] at e2;have e:y'.node n' q'=y.node n' q:=pH e2;obtain⟨_,_,_,_,_,_,h4,h5⟩:=aam h3;rw[e,hk] at h4 h5;exact⟨h4,h5⟩
def aki {t:Tree} {l:List Op} (Iy:∀o∈l,ae4 t o):t.YL l 0=[t.V5 l 0]:=by
 have no:∀k:Int,kB k=true→VA l k 0=false:=by
  intro k hk;cases h:VA l k 0 with
  |false=>rfl
  |true=>
  have:=(akz Iy (.self 0 (-1) t) h).1 hk;omega
 rw[Tree.afW,acu (no 3 rfl),acu (no 4 rfl),no 6 rfl,no 5 rfl];simp
def ajK {t:Tree} (ht:t.d_=true) {l:List Op} (Iy:∀o∈l,ae4 t o) (hl:l.length≤20) :
  ZK l≤386000∧(lW t).length≤80∧∀n q y,Sub 0 (-1) t n q y→n≤B∧y.wt+y.jz*(8*ZK l+2)≤B∧(y.text=true→VA l 8 n=false)∧l_ y.attrs=true:=by
 obtain⟨v_,Lj,ahF,agx⟩:=(ia t).1 ht;have hw:ZK l≤386000:=by
  have h1:=ae7 fun o ho=>(Iy o ho).small;have h2:l.length*19300≤20*19300:=ct _ hl;omega
 refine⟨hw,by rw[pf];exact ahF,fun n q y hs=> ?_⟩;have hrg:=hs.rng;have hyf:=hs.fu agx;have hyw:=ade y hyf;have hm:y.jz*(8*ZK l+2)≤80*(8*386000+2):=Nat.mul_le_mul (by omega) (by omega);refine⟨by unfold B;omega,by unfold B;omega,fun hT=> ?_,?_⟩
 ·cases h:VA l 8 n with
  |false=>rfl
  |true=>
   rcases (akz Iy hs h).2 hT with h|h
   ·exact absurd h (by decide)
   exact absurd h (by decide)
 cases hT:y.text with
 |true=>rw[(Tree.Zg hyf hT).2.1];rfl
 |false=>
 rw[Tree.Pa y hT] at hyf;simp only[bw] at hyf;exact((iM y.attrs).1 hyf.2.1).2.1
def aj0 {x:Tree} (h:x.text=false):Wf [x]=[.mk x.text x.s x.attrs (Wf x.kids)]:=by
 cases x with|mk tx s az ks=>
 simp only[Tree.text] at h;subst h;simp only[Wf,Xc];rw[Tree.acL];simp[push,Tree.text,Tree.s,Tree.attrs,Tree.kids,Wf]
def aj8 {d:Doc} (hd:zn d≤2^22) (l:List Op):zn (XU d l).1≤2^22:=by
 have h22:(2:Nat)^22=4194304:=by decide
 by_cases he:(XU d l).2=0
 ·obtain⟨t,ht,rfl,hc,hg,h1⟩:=akf he;rw[h1];have:=aeg (Yc t l);have:=af6 hg;omega
 rw[aj4 he];exact hd
section
variable {P:Program} {G:Nat→Option (List IV)}
def aj9 {ai7 U_ gL ai4 ai5 Vf VQ:Nat}
  (hF:aw P G ai7=some (30,[((some (some 1)),4),(none,5)],(ajd U_ gL ai5 Vf).bare))
  (hT:aw P G gL=some (235,[(none,6)],(ai_ ai4 gL).bare))
  (hO:aw P G ai4=some (40,[(none,6),(none,7),((some (some 5)),8)],(ajr VQ).bare))
  (hC:∀l:List Tree,dE l≤B→au P G VQ [.list (dq l)] (.list (dq l)))
  (hJ:∀l:List Tree,dE l≤B→au P G ai5 [.list (dq l)] (.list (dq (Wf l))))
  (hM:∀x:Tree,x.wt≤B→au P G Vf [x.av] (.gf [Doc.av (Wo x).1,.int .i64 (Wo x).2]))
  (d:Doc) (l:List Op) (hK:au P G U_ [Doc.av d,.list (l.map Op.iv)] (.int .i64 (VU d l))) :
  au P G ai7 [Doc.av d,.list (l.map Op.iv)] (.gf [Doc.av (XU d l).1,.int .i64 (XU d l).2]):=by
 have zo:B=1073741824:=rfl;have key:∀t,t.d_=true→d=lW t→VU d l=0→(∀o∈l,ae4 t o)∧l.length≤20∧(t.V5 l 0).wt≤B∧t.text=false:=by
  rintro t ht rfl hc;obtain⟨Iy,G4,_⟩:=(aan ht).1 hc;obtain⟨h1,_,h2⟩:=ajK ht Iy G4;obtain⟨v_,_,ahF,_⟩:=(ia t).1 ht;have h3:=ae9 l t 0;have h4:=(h2 0 (-1) t (.self _ _ _)).2.1;exact⟨Iy,G4,by omega,v_⟩
 refine akh hF d l hK (fun t ht hd hc=> ?_) (fun t ht hd hc=> ?_) (fun t ht hd hc=> ?_)
 ·obtain⟨Iy,G4,_,_⟩:=key t ht hd hc;obtain⟨h1,h2,h3⟩:=ajK ht Iy G4;rw[←aki Iy];refine aka hT t l (by omega) (by omega) (by omega) (fun o ho=>(Iy o ho).k10) (fun k n hn=>oOf hO l k n (by omega) (by omega) hn fun o ho=>hC _ ?_) h3 t.jz 0 (-1) t (bm _) (.self _ _ _);have:=(Iy o ho).small;unfold wOp at this;omega
 ·obtain⟨Iy,G4,hw,hx⟩:=key t ht hd hc;have:=hJ [t.V5 l 0] (by simp only[dE];omega);rw[aj0 (show(t.V5 l 0).text=false from hx)] at this;exact this
 obtain⟨Iy,G4,hw,_⟩:=key t ht hd hc;refine hM _ ?_;have:=(t.V5 l 0).gx;have:=ab' (t.V5 l 0).kids;unfold Yc;simp only[Tree.wt];omega
end
end Go.Am
